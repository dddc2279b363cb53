/- Joined by merge.py out of this work's texts: Sl, R3b, R3c, XU, XR, QE0, QE1, PEnU. -/
import Derived.Test.YtnmcdkekflnekaaZEU0
import Derived.Lib.SmallJoins
import Derived.Test.YtnmcdkekflnekaaProg
import Derived.Below
import Derived.Deep.Draws
import Derived.Deep.AppendLies
import Derived.Maps.AppendAt
import Derived.OwnWalk
import Derived.Laws.BytesArg
import Derived.Laws.MakeOwn
import Derived.Laws.OwnMore
import Derived.Deep.OwnRows
import Derived.Tactics
import Derived.Lib.ConvBytes
import Derived.Laws.Slices
import Derived.WalkKit
import Derived.KernelRfl
import Derived.RowKit3
import Derived.Deep.LoopGhost
import Derived.Deep.QuietTactic
import Derived.BigQuiet
import Derived.WideLaws
import Derived.Deep.DeepCutAuto
import Derived.Deep.CutBlock
import Derived.Deep.RegionHeld3
import Derived.Laws.Rows
import Derived.Lib.AppendStr
import Derived.ArgAppend
import Derived.Laws.IdiomCopy
import Derived.OrdersHeld
import Derived.Laws.BitsLemmas
import Derived.RowKit
import Derived.Test.YtnmcdkekflnekaaWWords
import Derived.Test.YtnmcdkekflnekaaWLast
import Derived.Test.YtnmcdkekflnekaaWTab
import Derived.Test.YtnmcdkekflnekaaWQPut
import Derived.Test.YtnmcdkekflnekaaWApart
import Derived.Test.YtnmcdkekflnekaaWArr
import Derived.Test.YtnmcdkekflnekaaWZeros
import Derived.Test.YtnmcdkekflnekaaWFoot
import Derived.Test.YtnmcdkekflnekaaWKept
import Derived.Test.YtnmcdkekflnekaaWShare
import Derived.Test.YtnmcdkekflnekaaWN
import Derived.Test.YtnmcdkekflnekaaWFootNe
import Derived.Test.YtnmcdkekflnekaaWEqStruct
import Derived.Test.YtnmcdkekflnekaaWRepsOne
import Derived.Test.YtnmcdkekflnekaaWNEv
import Derived.Test.YtnmcdkekflnekaaWMore
/- Slices of whole numbers: what is read, and what a call has made itself. -/
namespace Go.Proofs.Ytnmcdkekflnekaa
open Go.RowKit
set_option linter.unusedVariables false
set_option linter.unusedSimpArgs false
/-- What a slice of whole numbers holds. -/
def RdI (w : World) (a : Option Addr) (xs : List Int) : Prop := ∀ j, j < xs.length → ∃ g o, a = some ⟨g, o, none⟩ ∧ w.cell? ⟨g, o + j, none⟩ = some (.int .i64 (xs.getD j 0))
theorem RdI.ext {w w' : World} {a : Option Addr} {xs : List Int} (h : RdI w a xs) (hx : Ext w w') : RdI w' a xs := by
  intro j hj
  obtain ⟨g, o, ha, hc⟩ := h j hj
  exact ⟨g, o, ha, by rw [Below.cell hx (World.block_lt_of_cell? w _ hc)]; exact hc⟩
theorem RdI.take {w : World} {a : Option Addr} {xs : List Int} (h : RdI w a xs) (n : Nat) : RdI w a (xs.take n) := by
  intro j hj
  have hl : j < xs.length := by rw [List.length_take] at hj; omega
  obtain ⟨g, o, ha, hc⟩ := h j hl
  refine ⟨g, o, ha, ?_⟩
  rw [hc]
  have : j < n := by rw [List.length_take] at hj; omega
  simp [List.getD_eq_getElem?_getD, List.getElem?_take, this]
/-- A slice of whole numbers that was made from block 'base' on. -/
def OwnI (base : Nat) (w : World) (a : Option Addr) (cap : Nat) (xs : List Int) : Prop := w.ownsRow base 3 1 (.slice a xs.length cap) xs.length (xs.map (Value.int .i64))
theorem OwnI.nil (base : Nat) (w : World) : OwnI base w none 0 [] := World.ownsRow_nil _ _ _ _
theorem OwnI.kept {base : Nat} {w w' : World} {row : Option Nat} {a : Option Addr} {cap : Nat} {xs : List Int} (h : OwnI base w a cap xs) (hg : w.grownBy w' row) (hne : ∀ g, row = some g → ∀ p, a = some p → p.block ≠ g) : OwnI base w' a cap xs := by
  refine World.ownsRow.kept h hg ?_
  cases a with
  | none => exact .inl rfl
  | some p => right; intro e; exact hne _ e.symm p rfl rfl
theorem OwnI.ext {base : Nat} {w w' : World} {a : Option Addr} {cap : Nat} {xs : List Int} (h : OwnI base w a cap xs) (hx : Ext w w') : OwnI base w' a cap xs :=
  World.ownsRow.kept h ⟨hx.os, hx.tape, hx.output, hx.size, fun k hk _ => Below.block hx k hk⟩ (row := none) (by cases a <;> simp [Value.ownBlock])
theorem OwnI.le {base base' : Nat} {w : World} {a : Option Addr} {cap : Nat} {xs : List Int} (h : OwnI base w a cap xs) (hb : base' ≤ base) : OwnI base' w a cap xs := Go.Joins.ownsRow_le h hb
theorem OwnI.rd {base : Nat} {w : World} {a : Option Addr} {cap : Nat} {xs : List Int} (h : OwnI base w a cap xs) : RdI w a xs := by
  intro j hj
  have hs := Go.Joins.ownsRow_form h (by omega)
  obtain ⟨g, c, hv⟩ := hs
  simp only [Value.slice.injEq] at hv
  obtain ⟨rfl, -, rfl⟩ := hv
  refine ⟨g, 0, rfl, ?_⟩
  rw [Nat.zero_add, World.ownsRow.cellAt h j (by omega)]
  simp [List.getD_eq_getElem?_getD, List.getElem?_map, List.getElem?_eq_getElem hj]
theorem OwnI.lt {base : Nat} {w : World} {a : Option Addr} {cap : Nat} {xs : List Int} (h : OwnI base w a cap xs) : ∀ p, a = some p → base ≤ p.block ∧ p.block < w.heap.size := by
  rintro p rfl
  exact World.ownsRow.lt h p.block rfl
theorem OwnI.lit {base : Nat} (W : World) (hb : base ≤ W.heap.size) (xs : List Int) (cs : Array Value) (hc : cs = (xs.map (Value.int .i64)).toArray) (hm : xs.length ≤ 1000) : OwnI base (W.alloc (.cells cs 3)) (some ⟨W.heap.size, 0, none⟩) xs.length xs := by
  subst hc
  have := World.ownsRow_lit (base := base) (e := 3) (size := 1) W (xs.map (Value.int .i64)).toArray xs.length hb (by unfold maxLen; omega) (by simp)
  simpa [OwnI] using this
theorem Try.infoInt : (Try.prog.info? 3).map (fun i => (i.zero, i.size, i.bytes)) = some (some (.int .i64 0), 1, 8) := by kernel_rfl
/-- 'append(l, y)' onto a slice of the call's own. -/
theorem app_i {ops : Array Oper} {rest : List Oper} {o : Oper} {act : Act} {Q : Exit → Act → World → Prop} (w0 W : World) (hgd : o.guard = none) (s x : Operand)
    (ho : o.op = .call { callee := .builtin .append, args := #[s, x], argTypes := #[59, 59] }) (a : Option Addr) (cap : Nat) (xs : List Int) (y : Int)
    (hs : act.eval s = .slice a xs.length cap) (hown : OwnI w0.heap.size W a cap xs) (he : Ext w0 W) (hx : act.eval x = .slice (some ⟨W.heap.size, 0, none⟩) 1 1) (hb : xs.length ≤ 1099511627776)
    (h : ∀ a' cap' w', OwnI w0.heap.size w' a' cap' (xs ++ [y]) → Ext w0 w' → wpList Try.prog ops Q rest (act.put o.dst (.slice a' (xs.length + 1) cap')) w') :
    wpList Try.prog ops Q (o :: rest) act (W.alloc (.cells #[.int .i64 y] 3)) := by
  obtain ⟨i0, hi, hz0, hz1, hz2⟩ := info_parts Try.infoInt
  refine wpList_append_own _ hgd s x 59 ho w0.heap.size 3 i0 (.int .i64 0) 1 8 Try.underlying59 hi hz0 hz1 hz2 rfl (by decide) _ xs.length (xs.map (Value.int .i64)) hs (hown.alloc _) ⟨W.heap.size, 0, none⟩ 1 1 [.int .i64 y] hx rfl ?_ (by simp [Value.oneCell']) (by unfold maxLen; omega) (by omega) (by have := he.size; simp; omega) ?_
  · intro j u hj
    match j, hj with
    | 0, hj =>
      simp at hj; subst hj
      have := cell_of_row (W.alloc (.cells #[.int .i64 y] 3)) W.heap.size 0 #[.int .i64 y] 3 (0, 0) (heap_alloc_new W _)
      simp [Addr.add]
  · intro v' w' hown' hg hnil
    obtain ⟨g, c, rfl⟩ := Go.Joins.ownsRow_form hown' (by omega)
    have e1 : Ext w0 w' := by
      refine Below.trans (Below.alloc he he.size (.cells #[.int .i64 y] 3)) ⟨hg.os, hg.tape, hg.output, hg.size, fun k hk => hg.block k (by have := he.size; simp; omega) ?_⟩
      intro e
      cases a with
      | none => simp [Value.ownBlock] at e
      | some p => have := hown.lt p rfl; simp [Value.ownBlock] at e; omega
    refine h (some ⟨g, 0, none⟩) c w' ?_ e1
    simpa [OwnI] using hown'

end Go.Proofs.Ytnmcdkekflnekaa
/- The contracts of the reference calamusref03, by its places. -/
namespace Go.Proofs.Ytnmcdkekflnekaa
open Go.RowKit
set_option linter.unusedVariables false
set_option linter.unusedSimpArgs false
theorem is_ext (s : ByteArray) (i n : Nat) (hn : 1 ≤ n) (hi : i + n ≤ s.size) : isL (ls (s.extract i (i + n))) = decide (szL ((ls s).drop i) = n) := by
  rw [ls_ext2, Nat.add_sub_cancel_left]
  exact is_take _ n hn (by rw [List.length_drop, ls_len]; omega)
/-- The places so far. -/
def upTo (l : List UInt8) (i : Nat) : List Int := (plcTo l i).map Int.ofNat ++ [(i : Int)]
theorem upTo_len (l : List UInt8) (i : Nat) : (upTo l i).length ≤ i + 1 := by unfold upTo; have := plcTo_len l i; simp; omega
theorem upTo_next (l : List UInt8) (i n : Nat) (hn : szL (l.drop i) = n) (h0 : n ≠ 0) : upTo l i ++ [(i : Int) + n] = upTo l (i + n) := by
  unfold upTo; rw [plcTo_add l i n hn h0]; simp
theorem upTo_end (l : List UInt8) (h : validL l = true) : upTo l l.length = splitI l := by rw [splitI_ok h]; rfl
set_option maxHeartbeats 4000000 in
set_option maxRecDepth 100000 in
theorem rsplit_c (s : ByteArray) (w : World) (hs : s.size ≤ 1099511627775) : Calls Try.prog 101 #[.string s] w fun e w' => ∃ a cap, e = .returned (.slice a (splitI (ls s)).length cap) ∧ OwnI w.heap.size w' a cap (splitI (ls s)) ∧ Ext w w' := by
  go_enter Try.func101, Try.ntmps101
  go_wp2
  go_loopw [3, 4] (fun v i wr => ∃ (k : Nat) (a : Option Addr) (cap : Nat), k ≤ s.size ∧ i = .int .i64 k ∧ v = .slice a (upTo (ls s) k).length cap ∧ OwnI w.heap.size wr a cap (upTo (ls s) k) ∧ validL ((ls s).drop k) = validL (ls s) ∧ Ext w wr) (fun _ i _ => s.size - (intOf i).toNat)
  case atStart => exact ⟨0, some ⟨w.heap.size, 0, none⟩, 1, by omega, rfl, rfl, OwnI.lit w (Nat.le_refl _) [0] _ rfl (by simp), by simp, (by (repeat (first | exact Ext.refl _ | exact ‹Ext _ _› | refine Ext.alloc ?_ _ | refine Ext.drew ?_ | refine Ext.drewN ?_ _ | (refine Ext.setCell ?_ (by first | omega | (simp; done) | (simp; omega)) _) | refine Ext.trans ?_ ‹Ext _ _›)))⟩
  case round =>
    obtain ⟨k, a, cap, hk, rfl, rfl, hown, hok, hx⟩ := hrel
    have Hok := Lib.hid hok
    have Hown := Lib.hid hown
    clear hok hown
    have hul := upTo_len (ls s) k
    by_cases hlt : k < s.size
    · obtain ⟨wo, rfl⟩ : ∃ wo : World, wo = wr := ⟨_, rfl⟩
      go_wp2
      go_loopw [5] (fun v w2 => ∃ n : Nat, 1 ≤ n ∧ n ≤ 5 ∧ v = .int .i64 n ∧ (szL ((ls s).drop k) = 0 ∨ n ≤ szL ((ls s).drop k)) ∧ Ext wo w2) (fun v _ => 5 - (intOf v).toNat)
      case atStart => exact ⟨1, by omega, by omega, rfl, by omega, (by (repeat (first | exact Ext.refl _ | exact ‹Ext _ _› | refine Ext.alloc ?_ _ | refine Ext.drew ?_ | refine Ext.drewN ?_ _ | (refine Ext.setCell ?_ (by first | omega | (simp; done) | (simp; omega)) _) | refine Ext.trans ?_ ‹Ext _ _›)))⟩
      case round =>
        obtain ⟨n, hn1, hn5, rfl, hz, hx2⟩ := hrel
        have hlu := upTo_len (ls s) k
        go_wp2_with (first | (go_at_call 126; refine (ris_c _ _).mono ?_; rintro e w1 ⟨rfl, hx1⟩) | (at_builtin; refine app_i w _ rfl _ _ rfl _ _ (upTo (ls s) k) _ rfl (Hown.out.ext (by (repeat (first | exact Ext.refl _ | exact ‹Ext _ _› | refine Ext.alloc ?_ _ | refine Ext.drew ?_ | refine Ext.drewN ?_ _ | (refine Ext.setCell ?_ (by first | omega | (simp; done) | (simp; omega)) _) | refine Ext.trans ?_ ‹Ext _ _›)))) (by (repeat (first | exact Ext.refl _ | exact ‹Ext _ _› | refine Ext.alloc ?_ _ | refine Ext.drew ?_ | refine Ext.drewN ?_ _ | (refine Ext.setCell ?_ (by first | omega | (simp; done) | (simp; omega)) _) | refine Ext.trans ?_ ‹Ext _ _›))) rfl (by omega) ?_; intro a2 cap2 w2 hown2 hx2))
        all_goals (try simp only [Bool.not_eq_true', Bool.not_eq_false'] at *)
        · go_roundw
          case rel =>
            have hi : isL (ls (s.extract k (k + n))) = false := by rename_i h; rcases h with h | h; (exfalso; omega); exact h
            rw [is_ext s k n hn1 (by omega), decide_eq_false_iff_not] at hi
            exact ⟨n + 1, by omega, by omega, by go_num, by omega, (by (repeat (first | exact Ext.refl _ | exact ‹Ext _ _› | refine Ext.alloc ?_ _ | refine Ext.drew ?_ | refine Ext.drewN ?_ _ | (refine Ext.setCell ?_ (by first | omega | (simp; done) | (simp; omega)) _) | refine Ext.trans ?_ ‹Ext _ _›)))⟩
          case measure => simp [intOf]; omega
        · have hi : isL (ls (s.extract k (k + n))) = true := by
            have h : (k : Int) + n ≤ s.size ∧ isL (ls (s.extract k (k + n))) = true := by assumption
            exact h.2
          rw [is_ext s k n hn1 (by omega), decide_eq_true_eq] at hi
          go_roundw
          case rel =>
            have hnx := upTo_next (ls s) k n hi (by omega)
            refine ⟨k + n, a2, cap2, by omega, by go_num, ?_, ?_, ?_, (by (repeat (first | exact Ext.refl _ | exact ‹Ext _ _› | refine Ext.alloc ?_ _ | refine Ext.drew ?_ | refine Ext.drewN ?_ _ | (refine Ext.setCell ?_ (by first | omega | (simp; done) | (simp; omega)) _) | refine Ext.trans ?_ ‹Ext _ _›)))⟩
            · rw [← hnx]; simp
            · rw [← hnx]; exact hown2
            · rw [← Hok.out, validL_step (l := (ls s).drop k) (by rw [List.length_drop, ls_len]; omega) (by omega), hi, List.drop_drop]
          case measure => simp [intOf]; omega
        · go_roundw
          case rel =>
            have hz2 := szL_le ((ls s).drop k)
            rw [List.length_drop, ls_len] at hz2
            exact ⟨n + 1, by omega, by omega, by go_num, by omega, (by (repeat (first | exact Ext.refl _ | exact ‹Ext _ _› | refine Ext.alloc ?_ _ | refine Ext.drew ?_ | refine Ext.drewN ?_ _ | (refine Ext.setCell ?_ (by first | omega | (simp; done) | (simp; omega)) _) | refine Ext.trans ?_ ‹Ext _ _›)))⟩
          case measure => simp [intOf]; omega
        · have hz4 := szL_hi ((ls s).drop k)
          have hv : validL (ls s) = false := by rw [← Hok.out]; exact validL_bad (by rw [List.length_drop, ls_len]; omega) (by omega)
          go_ret
          exact ⟨none, 0, by rw [splitI_bad hv]; rfl, by rw [splitI_bad hv]; exact OwnI.nil _ _, (by (repeat (first | exact Ext.refl _ | exact ‹Ext _ _› | refine Ext.alloc ?_ _ | refine Ext.drew ?_ | refine Ext.drewN ?_ _ | (refine Ext.setCell ?_ (by first | omega | (simp; done) | (simp; omega)) _) | refine Ext.trans ?_ ‹Ext _ _›)))⟩
    · have hk' : k = s.size := by omega
      subst hk'
      have hv : validL (ls s) = true := by rw [← Hok.out, ← ls_len s, List.drop_length]; exact validL_nil
      have He : Hid (upTo (ls s) s.size = splitI (ls s)) := Lib.hid (by rw [← ls_len s]; exact upTo_end _ hv)
      go_wp2
      go_ret
      exact ⟨a, cap, by first | rfl | (simp; done) | (rw [← He.out]; rfl) | (simp [He.out]; done), by rw [← He.out]; exact Hown.out, (by (repeat (first | exact Ext.refl _ | exact ‹Ext _ _› | refine Ext.alloc ?_ _ | refine Ext.drew ?_ | refine Ext.drewN ?_ _ | (refine Ext.setCell ?_ (by first | omega | (simp; done) | (simp; omega)) _) | refine Ext.trans ?_ ‹Ext _ _›)))⟩

set_option maxHeartbeats 4000000 in
set_option maxRecDepth 100000 in
theorem rfind_c (a : Option Addr) (cap : Nat) (xs : List Int) (p : Int) (w : World) (hr : RdI w a xs) (hl : xs.length ≤ 1152921504606846976) : Calls Try.prog 100 #[.slice a xs.length cap, .int .i64 p] w fun e w' => e = .returned (.int .i64 (findF xs p 0)) ∧ Ext w w' := by
  have HR := Lib.hid hr
  clear hr
  go_enter Try.func100, Try.ntmps100
  go_wp2
  go_loopw [5] (fun i wr => ∃ k : Nat, k ≤ xs.length ∧ i = .int .i64 k ∧ findF (xs.drop k) p k = findF xs p 0 ∧ Ext w wr) (fun i _ => xs.length - (intOf i).toNat)
  case atStart => exact ⟨0, by omega, rfl, by simp, (by (repeat (first | exact Ext.refl _ | exact ‹Ext _ _› | refine Ext.alloc ?_ _ | refine Ext.drew ?_ | refine Ext.drewN ?_ _ | (refine Ext.setCell ?_ (by first | omega | (simp; done) | (simp; omega)) _) | refine Ext.trans ?_ ‹Ext _ _›)))⟩
  case round =>
    obtain ⟨k, hk, rfl, hok, hx⟩ := hrel
    have Hok := Lib.hid hok
    clear hok
    by_cases hlt : k < xs.length
    · have Hs := Lib.hid (findF_step xs p k hlt)
      obtain ⟨g, o, rfl, hc⟩ := (HR.out.ext hx) k hlt
      go_wp2
      all_goals (try simp only [beq_iff_eq, beq_eq_false_iff_ne] at *)
      · go_ret
        refine ⟨ret1 ?_, (by (repeat (first | exact Ext.refl _ | exact ‹Ext _ _› | refine Ext.alloc ?_ _ | refine Ext.drew ?_ | refine Ext.drewN ?_ _ | (refine Ext.setCell ?_ (by first | omega | (simp; done) | (simp; omega)) _) | refine Ext.trans ?_ ‹Ext _ _›)))⟩
        rw [← Hok.out, Hs.out, if_pos (by assumption)]
      · go_roundw
        case rel =>
          refine ⟨k + 1, by omega, by go_num, ?_, (by (repeat (first | exact Ext.refl _ | exact ‹Ext _ _› | refine Ext.alloc ?_ _ | refine Ext.drew ?_ | refine Ext.drewN ?_ _ | (refine Ext.setCell ?_ (by first | omega | (simp; done) | (simp; omega)) _) | refine Ext.trans ?_ ‹Ext _ _›)))⟩
          rw [← Hok.out, Hs.out, if_neg (by assumption)]
        case measure => simp [intOf]; omega
    · have Hs := Lib.hid (findF_end xs p k (by omega))
      go_wp2
      go_ret
      exact ⟨ret1 (by rw [← Hok.out, Hs.out]), (by (repeat (first | exact Ext.refl _ | exact ‹Ext _ _› | refine Ext.alloc ?_ _ | refine Ext.drew ?_ | refine Ext.drewN ?_ _ | (refine Ext.setCell ?_ (by first | omega | (simp; done) | (simp; omega)) _) | refine Ext.trans ?_ ‹Ext _ _›)))⟩

set_option maxHeartbeats 4000000 in
set_option maxRecDepth 100000 in
theorem rvalid_c (s : ByteArray) (w : World) (hs : s.size ≤ 1099511627775) : Calls Try.prog 76 #[.string s] w fun e w' => e = .returned (.bool (validL (ls s))) ∧ Ext w w' := by
  have hsl := splitI_len (ls s)
  rw [ls_len] at hsl
  have Hv : Hid (decide (0 < (splitI (ls s)).length) = validL (ls s)) := Lib.hid (by
    unfold splitI plcs
    rcases Bool.eq_false_or_eq_true (validL (ls s)) with h | h <;> simp [h])
  go_enter Try.func76, Try.ntmps76
  go_wp2_with (first | (go_at_call 101; refine (rsplit_c _ _ hs).mono ?_; rintro e w1 ⟨a, cap, rfl, hown, hx1⟩))
  all_goals (go_ret; exact ⟨retb Hv.out, (by (repeat (first | exact Ext.refl _ | exact ‹Ext _ _› | refine Ext.alloc ?_ _ | refine Ext.drew ?_ | refine Ext.drewN ?_ _ | (refine Ext.setCell ?_ (by first | omega | (simp; done) | (simp; omega)) _) | refine Ext.trans ?_ ‹Ext _ _›)))⟩)

set_option maxHeartbeats 4000000 in
set_option maxRecDepth 100000 in
theorem rplace_c (s : ByteArray) (p : Int) (w : World) (hs : s.size ≤ 1099511627775) : Calls Try.prog 62 #[.string s, .int .i64 p] w fun e w' => e = .returned (.bool (placeB (ls s) p)) ∧ Ext w w' := by
  have hsl := splitI_len (ls s)
  rw [ls_len] at hsl
  have Hp := Lib.hid (place_find (ls s) p)
  go_enter Try.func62, Try.ntmps62
  go_wp2_with (first | (go_at_call 101; refine (rsplit_c _ _ hs).mono ?_; rintro e w1 ⟨a, cap, rfl, hown, hx1⟩) | (go_at_call 100; refine (rfind_c _ _ (splitI (ls s)) _ _ (OwnI.rd (by assumption)) (by omega)).mono ?_; rintro e w1 ⟨rfl, hx1⟩))
  all_goals (go_ret; exact ⟨retb Hp.out, (by (repeat (first | exact Ext.refl _ | exact ‹Ext _ _› | refine Ext.alloc ?_ _ | refine Ext.drew ?_ | refine Ext.drewN ?_ _ | (refine Ext.setCell ?_ (by first | omega | (simp; done) | (simp; omega)) _) | refine Ext.trans ?_ ‹Ext _ _›)))⟩)

end Go.Proofs.Ytnmcdkekflnekaa
/- The contracts of the reference calamusref03, from place to place. -/
namespace Go.Proofs.Ytnmcdkekflnekaa
open Go.RowKit
set_option linter.unusedVariables false
set_option linter.unusedSimpArgs false
set_option maxHeartbeats 4000000 in
set_option maxRecDepth 100000 in
theorem rnext_c (s : ByteArray) (p : Int) (w : World) (hs : s.size ≤ 1099511627775) : Calls Try.prog 66 #[.string s, .int .i64 p] w fun e w' => e = .returned (.int .i64 (nextI (ls s) p)) ∧ Ext w w' := by
  have hsl := splitI_len (ls s)
  rw [ls_len] at hsl
  rcases place_cases s p with hp | ⟨k, rfl, hk, hp, hv⟩
  · have hf := find_bad hp
    have Hn : Hid (nextI (ls s) p = -1) := Lib.hid (by unfold nextI; simp [hp])
    go_enter Try.func66, Try.ntmps66
    go_wp2_with (first | (go_at_call 101; refine (rsplit_c _ _ hs).mono ?_; rintro e w1 ⟨a, cap, rfl, hown, hx1⟩) | (go_at_call 100; refine (rfind_c _ _ (splitI (ls s)) _ _ (OwnI.rd (by assumption)) (by omega)).mono ?_; rintro e w1 ⟨rfl, hx1⟩))
    all_goals (go_ret; exact ⟨ret1 Hn.out.symm, (by (repeat (first | exact Ext.refl _ | exact ‹Ext _ _› | refine Ext.alloc ?_ _ | refine Ext.drew ?_ | refine Ext.drewN ?_ _ | (refine Ext.setCell ?_ (by first | omega | (simp; done) | (simp; omega)) _) | refine Ext.trans ?_ ‹Ext _ _›)))⟩)
  · have hf := find_at hp
    by_cases hlt : k < (ls s).length
    · obtain ⟨h1, h2⟩ := next_at hp hlt
      obtain ⟨m, hm⟩ : ∃ m, m = (plcTo (ls s) k).length := ⟨_, rfl⟩
      rw [← hm] at hf h1 h2
      have H2 := Lib.hid h2
      have h3 : ((m : Int) + 1 == ((splitI (ls s)).length : Int)) = false := by simp; omega
      clear hm h2 hp hlt
      go_enter Try.func66, Try.ntmps66
      go_wp2_with (first | (go_at_call 101; refine (rsplit_c _ _ hs).mono ?_; rintro e w1 ⟨a, cap, rfl, hown, hx1⟩) | (go_at_call 100; refine (rfind_c _ _ (splitI (ls s)) _ _ (OwnI.rd (by assumption)) (by omega)).mono ?_; rintro e w1 ⟨rfl, hx1⟩; obtain ⟨g, o, rfl, hc⟩ := (RdI.ext (OwnI.rd (by assumption)) hx1) (m + 1) h1))
      all_goals (go_ret; refine ⟨ret1 ?_, (by (repeat (first | exact Ext.refl _ | exact ‹Ext _ _› | refine Ext.alloc ?_ _ | refine Ext.drew ?_ | refine Ext.drewN ?_ _ | (refine Ext.setCell ?_ (by first | omega | (simp; done) | (simp; omega)) _) | refine Ext.trans ?_ ‹Ext _ _›)))⟩; rw [← H2.out]; simp [List.getD_eq_getElem?_getD, List.getElem?_eq_getElem h1])
    · obtain ⟨h1, h2⟩ := next_end hp (by rw [ls_len] at hlt ⊢; omega)
      obtain ⟨m, hm⟩ : ∃ m, m = (plcTo (ls s) k).length := ⟨_, rfl⟩
      rw [← hm] at hf h1
      have H2 := Lib.hid h2
      have h3 : ((m : Int) + 1 == ((splitI (ls s)).length : Int)) = true := by rw [h1]; simp
      have h4 : m + 1 ≤ (splitI (ls s)).length := by omega
      clear hm h2 hp hlt h1
      go_enter Try.func66, Try.ntmps66
      go_wp2_with (first | (go_at_call 101; refine (rsplit_c _ _ hs).mono ?_; rintro e w1 ⟨a, cap, rfl, hown, hx1⟩) | (go_at_call 100; refine (rfind_c _ _ (splitI (ls s)) _ _ (OwnI.rd (by assumption)) (by omega)).mono ?_; rintro e w1 ⟨rfl, hx1⟩))
      all_goals (go_ret; exact ⟨ret1 H2.out.symm, (by (repeat (first | exact Ext.refl _ | exact ‹Ext _ _› | refine Ext.alloc ?_ _ | refine Ext.drew ?_ | refine Ext.drewN ?_ _ | (refine Ext.setCell ?_ (by first | omega | (simp; done) | (simp; omega)) _) | refine Ext.trans ?_ ‹Ext _ _›)))⟩)

set_option maxHeartbeats 4000000 in
set_option maxRecDepth 100000 in
theorem rprev_c (s : ByteArray) (p : Int) (w : World) (hs : s.size ≤ 1099511627775) : Calls Try.prog 81 #[.string s, .int .i64 p] w fun e w' => e = .returned (.int .i64 (prevI (ls s) p)) ∧ Ext w w' := by
  have hsl := splitI_len (ls s)
  rw [ls_len] at hsl
  rcases place_cases s p with hp | ⟨k, rfl, hk, hp, hv⟩
  · have hf := find_bad hp
    have Hn : Hid (prevI (ls s) p = -1) := Lib.hid (by unfold prevI; simp [hp])
    go_enter Try.func81, Try.ntmps81
    go_wp2_with (first | (go_at_call 101; refine (rsplit_c _ _ hs).mono ?_; rintro e w1 ⟨a, cap, rfl, hown, hx1⟩) | (go_at_call 100; refine (rfind_c _ _ (splitI (ls s)) _ _ (OwnI.rd (by assumption)) (by omega)).mono ?_; rintro e w1 ⟨rfl, hx1⟩))
    all_goals (go_ret; exact ⟨ret1 Hn.out.symm, (by (repeat (first | exact Ext.refl _ | exact ‹Ext _ _› | refine Ext.alloc ?_ _ | refine Ext.drew ?_ | refine Ext.drewN ?_ _ | (refine Ext.setCell ?_ (by first | omega | (simp; done) | (simp; omega)) _) | refine Ext.trans ?_ ‹Ext _ _›)))⟩)
  · have hf := find_at hp
    by_cases hlt : 0 < k
    · obtain ⟨h1, h2, h3⟩ := prev_at hp hlt
      obtain ⟨m, hm⟩ : ∃ m, m + 1 = (plcTo (ls s) k).length := ⟨(plcTo (ls s) k).length - 1, by omega⟩
      rw [← hm] at hf h1 h2 h3
      simp only [Nat.add_sub_cancel] at h2 h3
      have H2 := Lib.hid h2
      clear hm h2 hp hlt h1
      go_enter Try.func81, Try.ntmps81
      go_wp2_with (first | (go_at_call 101; refine (rsplit_c _ _ hs).mono ?_; rintro e w1 ⟨a, cap, rfl, hown, hx1⟩) | (go_at_call 100; refine (rfind_c _ _ (splitI (ls s)) _ _ (OwnI.rd (by assumption)) (by omega)).mono ?_; rintro e w1 ⟨rfl, hx1⟩; obtain ⟨g, o, rfl, hc⟩ := (RdI.ext (OwnI.rd (by assumption)) hx1) m h3))
      all_goals (go_ret; refine ⟨ret1 ?_, (by (repeat (first | exact Ext.refl _ | exact ‹Ext _ _› | refine Ext.alloc ?_ _ | refine Ext.drew ?_ | refine Ext.drewN ?_ _ | (refine Ext.setCell ?_ (by first | omega | (simp; done) | (simp; omega)) _) | refine Ext.trans ?_ ‹Ext _ _›)))⟩; rw [← H2.out]; simp [List.getD_eq_getElem?_getD, List.getElem?_eq_getElem h3])
    · have hk0 : k = 0 := by omega
      subst hk0
      have e0 : ((0 : Nat) : Int) = 0 := rfl
      have Hn : Hid (prevI (ls s) 0 = -1) := Lib.hid (prev_zero _ rfl).1
      have hz : (plcTo (ls s) 0).length = 0 := by simp [plcTo]
      rw [hz, e0] at hf
      rw [e0]
      clear hz hp hlt e0
      go_enter Try.func81, Try.ntmps81
      go_wp2_with (first | (go_at_call 101; refine (rsplit_c _ _ hs).mono ?_; rintro e w1 ⟨a, cap, rfl, hown, hx1⟩) | (go_at_call 100; refine (rfind_c _ _ (splitI (ls s)) _ _ (OwnI.rd (by assumption)) (by omega)).mono ?_; rintro e w1 ⟨rfl, hx1⟩))
      all_goals (go_ret; exact ⟨ret1 Hn.out.symm, (by (repeat (first | exact Ext.refl _ | exact ‹Ext _ _› | refine Ext.alloc ?_ _ | refine Ext.drew ?_ | refine Ext.drewN ?_ _ | (refine Ext.setCell ?_ (by first | omega | (simp; done) | (simp; omega)) _) | refine Ext.trans ?_ ‹Ext _ _›)))⟩)

set_option maxHeartbeats 4000000 in
set_option maxRecDepth 100000 in
theorem rrune_c (s : ByteArray) (p : Int) (w : World) (hs : s.size ≤ 1099511627775) : Calls Try.prog 118 #[.string s, .int .i64 p] w fun e w' => e = .returned (.string ⟨(runeL (ls s) p).toArray⟩) ∧ Ext w w' := by
  by_cases hn : nextI (ls s) p < 0
  · have Hr := Lib.hid (rune_bad hn)
    go_enter Try.func118, Try.ntmps118
    go_wp2_with (first | (go_at_call 66; refine (rnext_c _ _ _ hs).mono ?_; rintro e w1 ⟨rfl, hx1⟩))
    go_ret
    exact ⟨by rw [Hr.out]; rfl, (by (repeat (first | exact Ext.refl _ | exact ‹Ext _ _› | refine Ext.alloc ?_ _ | refine Ext.drew ?_ | refine Ext.drewN ?_ _ | (refine Ext.setCell ?_ (by first | omega | (simp; done) | (simp; omega)) _) | refine Ext.trans ?_ ‹Ext _ _›)))⟩
  · have h0 : 0 ≤ nextI (ls s) p := by omega
    obtain ⟨k, n, rfl, h1, h2, h3, h4⟩ := rune_ok s p h0
    have H4 := Lib.hid h4
    clear hn h0 h4
    go_enter Try.func118, Try.ntmps118
    go_wp2_with (first | (go_at_call 66; refine (rnext_c _ _ _ hs).mono ?_; rintro e w1 ⟨rfl, hx1⟩))
    go_ret
    exact ⟨rets H4.out.symm, (by (repeat (first | exact Ext.refl _ | exact ‹Ext _ _› | refine Ext.alloc ?_ _ | refine Ext.drew ?_ | refine Ext.drewN ?_ _ | (refine Ext.setCell ?_ (by first | omega | (simp; done) | (simp; omega)) _) | refine Ext.trans ?_ ‹Ext _ _›)))⟩

set_option maxHeartbeats 4000000 in
set_option maxRecDepth 100000 in
theorem rcount_c (s : ByteArray) (w : World) (hs : s.size ≤ 1099511627775) : Calls Try.prog 119 #[.string s] w fun e w' => e = .returned (.int .i64 (countI (ls s))) ∧ Ext w w' := by
  have hsl := splitI_len (ls s)
  rw [ls_len] at hsl
  have Hc := Lib.hid (split_count (ls s))
  go_enter Try.func119, Try.ntmps119
  go_wp2_with (first | (go_at_call 101; refine (rsplit_c _ _ hs).mono ?_; rintro e w1 ⟨a, cap, rfl, hown, hx1⟩))
  all_goals (try simp only [beq_iff_eq, beq_eq_false_iff_ne] at *)
  all_goals (go_ret; refine ⟨ret1 ?_, (by (repeat (first | exact Ext.refl _ | exact ‹Ext _ _› | refine Ext.alloc ?_ _ | refine Ext.drew ?_ | refine Ext.drewN ?_ _ | (refine Ext.setCell ?_ (by first | omega | (simp; done) | (simp; omega)) _) | refine Ext.trans ?_ ‹Ext _ _›)))⟩; rw [← Hc.out])
  · rw [if_pos (by omega)]
  · rw [if_neg (by omega)]

end Go.Proofs.Ytnmcdkekflnekaa
/- The contracts of the packages utf, calamusref03 and class in the printer's form. -/
namespace Go.Proofs.Ytnmcdkekflnekaa
open Go.RowKit
set_option linter.unusedVariables false
set_option linter.unusedSimpArgs false
def utf_Valid.f (a0 : ByteArray) : Option (Bool) := if a0.size ≤ 1099511627775 then some (validL (ls a0)) else none
theorem utf_Valid.eq (a0 : ByteArray) (hg : a0.size ≤ 1099511627775) : utf_Valid.f a0 = some (validL (ls a0)) := if_pos hg
theorem utf_Valid.calls (a0 : ByteArray) (r : Bool) (w : World) (h : utf_Valid.f a0 = some r) : Calls Try.prog 51 #[.string a0] w fun e w' => e = .returned (.bool r) ∧ Below w.heap.size w w' := by
  unfold utf_Valid.f at h
  split at h
  · cases h; exact valid_c a0 w (by omega)
  · cases h
def utf_inner.f (a0 : Int) : Option (Bool) := if 0 ≤ a0 ∧ a0 ≤ 255 then some (inn a0) else none
theorem utf_inner.eq (a0 : Int) (hg : 0 ≤ a0 ∧ a0 ≤ 255) : utf_inner.f a0 = some (inn a0) := if_pos hg
theorem utf_inner.calls (a0 : Int) (r : Bool) (w : World) (h : utf_inner.f a0 = some r) : Calls Try.prog 52 #[.int .u8 a0] w fun e w' => e = .returned (.bool r) ∧ Below w.heap.size w w' := by
  unfold utf_inner.f at h
  split at h
  · cases h; exact inner_c a0 (by omega) (by omega) w
  · cases h
def utf_Place.f (a0 : ByteArray) (a1 : Int) : Option (Bool) := if a0.size ≤ 1099511627775 then some (placeB (ls a0) a1) else none
theorem utf_Place.eq (a0 : ByteArray) (a1 : Int) (hg : a0.size ≤ 1099511627775) : utf_Place.f a0 a1 = some (placeB (ls a0) a1) := if_pos hg
theorem utf_Place.calls (a0 : ByteArray) (a1 : Int) (r : Bool) (w : World) (h : utf_Place.f a0 a1 = some r) : Calls Try.prog 45 #[.string a0, .int .i64 a1] w fun e w' => e = .returned (.bool r) ∧ Below w.heap.size w w' := by
  unfold utf_Place.f at h
  split at h
  · cases h; exact place_c a0 a1 w (by omega)
  · cases h
def utf_Next.f (a0 : ByteArray) (a1 : Int) : Option (Int) := if a0.size ≤ 1099511627775 then some (nextI (ls a0) a1) else none
theorem utf_Next.eq (a0 : ByteArray) (a1 : Int) (hg : a0.size ≤ 1099511627775) : utf_Next.f a0 a1 = some (nextI (ls a0) a1) := if_pos hg
theorem utf_Next.calls (a0 : ByteArray) (a1 : Int) (r : Int) (w : World) (h : utf_Next.f a0 a1 = some r) : Calls Try.prog 56 #[.string a0, .int .i64 a1] w fun e w' => e = .returned (.int .i64 r) ∧ Below w.heap.size w w' := by
  unfold utf_Next.f at h
  split at h
  · cases h; exact next_c a0 a1 w (by omega)
  · cases h
def utf_Prev.f (a0 : ByteArray) (a1 : Int) : Option (Int) := if a0.size ≤ 1099511627775 then some (prevI (ls a0) a1) else none
theorem utf_Prev.eq (a0 : ByteArray) (a1 : Int) (hg : a0.size ≤ 1099511627775) : utf_Prev.f a0 a1 = some (prevI (ls a0) a1) := if_pos hg
theorem utf_Prev.calls (a0 : ByteArray) (a1 : Int) (r : Int) (w : World) (h : utf_Prev.f a0 a1 = some r) : Calls Try.prog 55 #[.string a0, .int .i64 a1] w fun e w' => e = .returned (.int .i64 r) ∧ Below w.heap.size w w' := by
  unfold utf_Prev.f at h
  split at h
  · cases h; exact prev_c a0 a1 w (by omega)
  · cases h
def utf_Count.f (a0 : ByteArray) : Option (Int) := if a0.size ≤ 1099511627775 then some (countI (ls a0)) else none
theorem utf_Count.eq (a0 : ByteArray) (hg : a0.size ≤ 1099511627775) : utf_Count.f a0 = some (countI (ls a0)) := if_pos hg
theorem utf_Count.calls (a0 : ByteArray) (r : Int) (w : World) (h : utf_Count.f a0 = some r) : Calls Try.prog 16 #[.string a0] w fun e w' => e = .returned (.int .i64 r) ∧ Below w.heap.size w w' := by
  unfold utf_Count.f at h
  split at h
  · cases h; exact count_c a0 w (by omega)
  · cases h
def calamusref03_Valid.f (a0 : ByteArray) : Option (Bool) := if a0.size ≤ 1099511627775 then some (validL (ls a0)) else none
theorem calamusref03_Valid.eq (a0 : ByteArray) (hg : a0.size ≤ 1099511627775) : calamusref03_Valid.f a0 = some (validL (ls a0)) := if_pos hg
theorem calamusref03_Valid.calls (a0 : ByteArray) (r : Bool) (w : World) (h : calamusref03_Valid.f a0 = some r) : Calls Try.prog 76 #[.string a0] w fun e w' => e = .returned (.bool r) ∧ Below w.heap.size w w' := by
  unfold calamusref03_Valid.f at h
  split at h
  · cases h; exact rvalid_c a0 w (by omega)
  · cases h
def calamusref03_Place.f (a0 : ByteArray) (a1 : Int) : Option (Bool) := if a0.size ≤ 1099511627775 then some (placeB (ls a0) a1) else none
theorem calamusref03_Place.eq (a0 : ByteArray) (a1 : Int) (hg : a0.size ≤ 1099511627775) : calamusref03_Place.f a0 a1 = some (placeB (ls a0) a1) := if_pos hg
theorem calamusref03_Place.calls (a0 : ByteArray) (a1 : Int) (r : Bool) (w : World) (h : calamusref03_Place.f a0 a1 = some r) : Calls Try.prog 62 #[.string a0, .int .i64 a1] w fun e w' => e = .returned (.bool r) ∧ Below w.heap.size w w' := by
  unfold calamusref03_Place.f at h
  split at h
  · cases h; exact rplace_c a0 a1 w (by omega)
  · cases h
def calamusref03_Next.f (a0 : ByteArray) (a1 : Int) : Option (Int) := if a0.size ≤ 1099511627775 then some (nextI (ls a0) a1) else none
theorem calamusref03_Next.eq (a0 : ByteArray) (a1 : Int) (hg : a0.size ≤ 1099511627775) : calamusref03_Next.f a0 a1 = some (nextI (ls a0) a1) := if_pos hg
theorem calamusref03_Next.calls (a0 : ByteArray) (a1 : Int) (r : Int) (w : World) (h : calamusref03_Next.f a0 a1 = some r) : Calls Try.prog 66 #[.string a0, .int .i64 a1] w fun e w' => e = .returned (.int .i64 r) ∧ Below w.heap.size w w' := by
  unfold calamusref03_Next.f at h
  split at h
  · cases h; exact rnext_c a0 a1 w (by omega)
  · cases h
def calamusref03_Prev.f (a0 : ByteArray) (a1 : Int) : Option (Int) := if a0.size ≤ 1099511627775 then some (prevI (ls a0) a1) else none
theorem calamusref03_Prev.eq (a0 : ByteArray) (a1 : Int) (hg : a0.size ≤ 1099511627775) : calamusref03_Prev.f a0 a1 = some (prevI (ls a0) a1) := if_pos hg
theorem calamusref03_Prev.calls (a0 : ByteArray) (a1 : Int) (r : Int) (w : World) (h : calamusref03_Prev.f a0 a1 = some r) : Calls Try.prog 81 #[.string a0, .int .i64 a1] w fun e w' => e = .returned (.int .i64 r) ∧ Below w.heap.size w w' := by
  unfold calamusref03_Prev.f at h
  split at h
  · cases h; exact rprev_c a0 a1 w (by omega)
  · cases h
def calamusref03_Rune.f (a0 : ByteArray) (a1 : Int) : Option (ByteArray) := if a0.size ≤ 1099511627775 then some (⟨(runeL (ls a0) a1).toArray⟩) else none
theorem calamusref03_Rune.eq (a0 : ByteArray) (a1 : Int) (hg : a0.size ≤ 1099511627775) : calamusref03_Rune.f a0 a1 = some (⟨(runeL (ls a0) a1).toArray⟩) := if_pos hg
theorem calamusref03_Rune.calls (a0 : ByteArray) (a1 : Int) (r : ByteArray) (w : World) (h : calamusref03_Rune.f a0 a1 = some r) : Calls Try.prog 118 #[.string a0, .int .i64 a1] w fun e w' => e = .returned (.string r) ∧ Below w.heap.size w w' := by
  unfold calamusref03_Rune.f at h
  split at h
  · cases h; exact rrune_c a0 a1 w (by omega)
  · cases h
def calamusref03_Count.f (a0 : ByteArray) : Option (Int) := if a0.size ≤ 1099511627775 then some (countI (ls a0)) else none
theorem calamusref03_Count.eq (a0 : ByteArray) (hg : a0.size ≤ 1099511627775) : calamusref03_Count.f a0 = some (countI (ls a0)) := if_pos hg
theorem calamusref03_Count.calls (a0 : ByteArray) (r : Int) (w : World) (h : calamusref03_Count.f a0 = some r) : Calls Try.prog 119 #[.string a0] w fun e w' => e = .returned (.int .i64 r) ∧ Below w.heap.size w w' := by
  unfold calamusref03_Count.f at h
  split at h
  · cases h; exact rcount_c a0 w (by omega)
  · cases h
end Go.Proofs.Ytnmcdkekflnekaa
/- strings.Repeat in the printer's form. -/
namespace Go.Proofs.Ytnmcdkekflnekaa
open Go.RowKit
set_option linter.unusedVariables false
set_option linter.unusedSimpArgs false
def repS (s : ByteArray) (n : Int) : ByteArray := ⟨(Lib.repeatL s.data.toList n.toNat).toArray⟩
set_option maxHeartbeats 4000000 in
set_option maxRecDepth 100000 in
theorem rep_c (s : ByteArray) (n : Int) (w : World) (h0 : 0 ≤ n) (h1 : n ≤ 4611686018427387904) (h2 : s.size * n.toNat ≤ 140737488355328) :
    Calls Try.prog 77 #[.string s, .int .i64 n] w fun e w' => e = .returned (.string (repS s n)) ∧ Ext w w' := by
  obtain ⟨c, rfl⟩ : ∃ c : Nat, n = c := ⟨n.toNat, by omega⟩
  rw [Int.toNat_natCast] at h2
  unfold repS
  rw [Int.toNat_natCast]
  rcases Nat.lt_or_ge c 2 with hc | hc
  · rcases Nat.lt_or_ge c 1 with hd | hd
    · obtain rfl : c = 0 := by omega
      refine (Try.strings_Repeat_zero s w).mono ?_
      rintro e w' ⟨rfl, rfl⟩
      exact ⟨rfl, Ext.refl _⟩
    · obtain rfl : c = 1 := by omega
      refine (Try.strings_Repeat_one s w).mono ?_
      rintro e w' ⟨rfl, rfl⟩
      exact ⟨by simp [Lib.repeatL], Ext.refl _⟩
  · by_cases hz : s.size = 0
    · refine (Try.strings_Repeat_empty s c w hc (by omega) hz).mono ?_
      rintro e w' ⟨rfl, rfl⟩
      have he : s.data.toList = [] := by
        exact List.eq_nil_of_length_eq_zero (by rw [Array.length_toList]; exact hz)
      refine ⟨?_, Ext.refl _⟩
      rw [he]
      have : ∀ n, Lib.repeatL ([] : List UInt8) n = [] := fun n => by induction n <;> simp_all [Lib.repeatL]
      rw [this]
    · exact Try.strings_Repeat_main s c w hc (by omega) h2 (by omega)
def strings_Repeat.f (a0 : ByteArray) (a1 : Int) : Option (ByteArray) := if 0 ≤ a1 ∧ a1 ≤ 4611686018427387904 ∧ a0.size * a1.toNat ≤ 140737488355328 then some (repS a0 a1) else none
theorem strings_Repeat.eq (a0 : ByteArray) (a1 : Int) (hg : 0 ≤ a1 ∧ a1 ≤ 4611686018427387904 ∧ a0.size * a1.toNat ≤ 140737488355328) : strings_Repeat.f a0 a1 = some (repS a0 a1) := if_pos hg
theorem strings_Repeat.calls (a0 : ByteArray) (a1 : Int) (r : ByteArray) (w : World) (h : strings_Repeat.f a0 a1 = some r) : Calls Try.prog 77 #[.string a0, .int .i64 a1] w fun e w' => e = .returned (.string r) ∧ Below w.heap.size w w' := by
  unfold strings_Repeat.f at h
  split at h
  · cases h; exact (by rename_i hg; exact rep_c a0 a1 w hg.1 hg.2.1 hg.2.2)
  · cases h
end Go.Proofs.Ytnmcdkekflnekaa
-- Printed by this work's xp.py out of the translation. Lean checks it.
namespace Go.Proofs.Ytnmcdkekflnekaa.QE
open Go.RowKit Go.Proofs.YtnmcdkekflnekaaW.PrintWords Go.Proofs.YtnmcdkekflnekaaW.PrintLast Go.Proofs.YtnmcdkekflnekaaW.PrintMore
attribute [local go_sem] max2_int min2_int max_two min_two max_three min_three max_four min_four   -- for this text's walks alone
set_option linter.unusedVariables false
set_option linter.unusedSimpArgs false



def errW : Option Int → Value
  | none => .nilIface
  | some c => .iface 0 (.int .i64 c)
theorem errW_none : errW none = .nilIface := rfl
theorem errW_some (c : Int) : errW (some c) = .iface 0 (.int .i64 c) := rfl

-- the values' own types

end Go.Proofs.Ytnmcdkekflnekaa.QE
-- Printed by this work's xp.py out of the translation. Lean checks it.
namespace Go.Proofs.Ytnmcdkekflnekaa.QE
open Go.RowKit Go.Proofs.YtnmcdkekflnekaaW.PrintWords Go.Proofs.YtnmcdkekflnekaaW.PrintLast Go.Proofs.YtnmcdkekflnekaaW.PrintMore
attribute [local go_sem] max2_int min2_int max_two min_two max_three min_three max_four min_four   -- for this text's walks alone
set_option linter.unusedVariables false
set_option linter.unusedSimpArgs false



/-! ### calamuslaw25_lives -/
def calamuslaw25_lives.f  : Option (Bool) := (entry_Chop.f (⟨#[97, 98, 32, 32, 99, 100, 32]⟩ : ByteArray) 7 0).bind fun bt101 => (if bt101.1.toList = ([97, 98, 32, 32] : List UInt8) then (if bt101.2.1 = 4 then (some (bt101.2.2 == 0)) else (some false)) else (some false))
set_option maxHeartbeats 8000000 in
set_option maxRecDepth 100000 in
theorem calamuslaw25_lives.calls  (r : Bool) (w : World) (h : calamuslaw25_lives.f  = some r) :
    Calls Try.prog 14 #[] w fun e w' => e = .returned (.bool r) ∧ Below w.heap.size w w' := by
  have HB := Aside0.mk (Below.refl w.heap.size w)
  have H : ((entry_Chop.f (⟨#[97, 98, 32, 32, 99, 100, 32]⟩ : ByteArray) 7 0).bind fun bt101 => (if bt101.1.toList = ([97, 98, 32, 32] : List UInt8) then (if bt101.2.1 = 4 then (some (bt101.2.2 == 0)) else (some false)) else (some false))) = some r := h
  clear h
  replace H := Option.bind_eq_some_iff.mp H
  obtain ⟨⟨t101, t102, t103⟩, A10, H⟩ := H
  replace H : (if t101.toList = ([97, 98, 32, 32] : List UInt8) then (if t102 = 4 then (some (t103 == 0)) else (some false)) else (some false)) = some r := H
  have A1 := Aside0.mk A10
  clear A10
  by_cases c2 : t101.toList = ([97, 98, 32, 32] : List UInt8)
  · rw [if_pos c2] at H
    have c2b0 : (t101.toList == ([97, 98, 32, 32] : List UInt8)) = true := beq_iff_eq.mpr c2
    have c2b1 : (t101.toList != ([97, 98, 32, 32] : List UInt8)) = false := bne_eq_false_iff_eq.mpr c2
    clear c2
    by_cases c3 : t102 = 4
    · rw [if_pos c3] at H
      have c3b0 : (t102 == 4) = true := beq_iff_eq.mpr c3
      have c3b1 : (t102 != 4) = false := bne_eq_false_iff_eq.mpr c3
      clear c3
      obtain rfl := Option.some.inj H
      go_enter Try.func14, Try.ntmps14
      go_wp2_with (first | ((with_reducible refine gate_callee (f := 39) rfl ?_); refine goesL_ (some 5) rfl rfl Try.func39 (by kernel_rfl) rfl #[.string (⟨#[97, 98, 32, 32, 99, 100, 32]⟩ : ByteArray), .int .i64 7, .int .i64 0] rfl (by (try simp only [List.map_toArray, List.map_cons, List.map_nil]); first | done | rfl | (simp only [List.length_drop, List.length_take]; rfl)) ?_; (with_reducible refine (entry_Chop.calls (⟨#[97, 98, 32, 32, 99, 100, 32]⟩ : ByteArray) 7 0 t101 t102 t103 _ A1.out).mono ?_); rintro e w4 ⟨rfl, hb⟩; refine ⟨_, rfl, ?_⟩; have n0_ := Aside0.mk (below_step (by repeat (first | (with_reducible first | exact HB.out | apply below_alloc | apply pw_below_drewN | apply below_drew1) | exact HB.out)) hb); clear HB; have HB := n0_; clear n0_; (try clear hb); (try clear hb2); (try clear hk); (try clear hi)))
      go_ret
      exact ⟨by first | rfl | (simp [errW_none, errW_some] <;> rfl) | (simp [*, errW_none, errW_some] <;> rfl), by repeat (first | (with_reducible first | exact HB.out | apply below_alloc | apply pw_below_drewN | apply below_drew1) | exact HB.out)⟩
    · rw [if_neg c3] at H
      have c3b0 : (t102 == 4) = false := beq_eq_false_iff_ne.mpr c3
      have c3b1 : (t102 != 4) = true := bne_iff_ne.mpr c3
      obtain rfl := Option.some.inj H
      go_enter Try.func14, Try.ntmps14
      go_wp2_with (first | ((with_reducible refine gate_callee (f := 39) rfl ?_); refine goesL_ (some 5) rfl rfl Try.func39 (by kernel_rfl) rfl #[.string (⟨#[97, 98, 32, 32, 99, 100, 32]⟩ : ByteArray), .int .i64 7, .int .i64 0] rfl (by (try simp only [List.map_toArray, List.map_cons, List.map_nil]); first | done | rfl | (simp only [List.length_drop, List.length_take]; rfl)) ?_; (with_reducible refine (entry_Chop.calls (⟨#[97, 98, 32, 32, 99, 100, 32]⟩ : ByteArray) 7 0 t101 t102 t103 _ A1.out).mono ?_); rintro e w5 ⟨rfl, hb⟩; refine ⟨_, rfl, ?_⟩; have n0_ := Aside0.mk (below_step (by repeat (first | (with_reducible first | exact HB.out | apply below_alloc | apply pw_below_drewN | apply below_drew1) | exact HB.out)) hb); clear HB; have HB := n0_; clear n0_; (try clear hb); (try clear hb2); (try clear hk); (try clear hi)))
      go_ret
      exact ⟨by first | rfl | (simp [errW_none, errW_some] <;> rfl) | (simp [*, errW_none, errW_some] <;> rfl), by repeat (first | (with_reducible first | exact HB.out | apply below_alloc | apply pw_below_drewN | apply below_drew1) | exact HB.out)⟩
  · rw [if_neg c2] at H
    have c2b0 : (t101.toList == ([97, 98, 32, 32] : List UInt8)) = false := beq_eq_false_iff_ne.mpr c2
    have c2b1 : (t101.toList != ([97, 98, 32, 32] : List UInt8)) = true := bne_iff_ne.mpr c2
    obtain rfl := Option.some.inj H
    go_enter Try.func14, Try.ntmps14
    go_wp2_with (first | ((with_reducible refine gate_callee (f := 39) rfl ?_); refine goesL_ (some 5) rfl rfl Try.func39 (by kernel_rfl) rfl #[.string (⟨#[97, 98, 32, 32, 99, 100, 32]⟩ : ByteArray), .int .i64 7, .int .i64 0] rfl (by (try simp only [List.map_toArray, List.map_cons, List.map_nil]); first | done | rfl | (simp only [List.length_drop, List.length_take]; rfl)) ?_; (with_reducible refine (entry_Chop.calls (⟨#[97, 98, 32, 32, 99, 100, 32]⟩ : ByteArray) 7 0 t101 t102 t103 _ A1.out).mono ?_); rintro e w6 ⟨rfl, hb⟩; refine ⟨_, rfl, ?_⟩; have n0_ := Aside0.mk (below_step (by repeat (first | (with_reducible first | exact HB.out | apply below_alloc | apply pw_below_drewN | apply below_drew1) | exact HB.out)) hb); clear HB; have HB := n0_; clear n0_; (try clear hb); (try clear hb2); (try clear hk); (try clear hi)))
    go_ret
    exact ⟨by first | rfl | (simp [errW_none, errW_some] <;> rfl) | (simp [*, errW_none, errW_some] <;> rfl), by repeat (first | (with_reducible first | exact HB.out | apply below_alloc | apply pw_below_drewN | apply below_drew1) | exact HB.out)⟩



/-! ### entry_Type -/
def entry_Type.j0 : Nat → ByteArray → Int → ByteArray → Bool → Option (ByteArray × Int × Int)
  | 0, _, _, _, _ => none
  | k + 1, x0, x1, x2, x17 => if x17 = true then (some ((⟨#[]⟩ : ByteArray), 0, 1)) else (if (wrap64 ((x0.size : Int) + (x2.size : Int))) > 4096 then (some ((⟨#[]⟩ : ByteArray), 0, 8)) else (if 0 ≤ x1 then (if x1 ≤ (x0.size : Int) then (if (x0.extract 0 (x1 : Int).toNat).size + x2.size ≤ 9223372036854775807 then (if ((x0.extract 0 (x1 : Int).toNat) ++ x2).size + (x0.extract (x1 : Int).toNat x0.size).size ≤ 9223372036854775807 then (some (((x0.extract 0 (x1 : Int).toNat) ++ x2) ++ (x0.extract (x1 : Int).toNat x0.size), wrap64 (x1 + (x2.size : Int)), 0)) else (none)) else (none)) else (none)) else (none)))
def entry_Type.f (k : Nat) (a0 : ByteArray) (a1 : Int) (a2 : ByteArray) : Option (ByteArray × Int × Int) := (utf_Place.f a0 a1).bind fun t104 => (if t104 = true then ((utf_Valid.f a2).bind fun t105 => (entry_Type.j0 k a0 a1 a2 (!t105))) else (entry_Type.j0 k a0 a1 a2 true))
theorem entry_Type.mono_l : ∀ k, (∀ y0 y1 y2 y3, LeO (entry_Type.j0 k y0 y1 y2 y3) (entry_Type.j0 (k + 1) y0 y1 y2 y3))
  | 0 => fun _ _ _ _ r h => by simp [entry_Type.j0] at h
  | k + 1 => by
    have ih0 := entry_Type.mono_l k
    · intro y0 y1 y2 y3
      unfold entry_Type.j0
      repeat' first
      | (with_reducible exact ih0 _ _ _ _)
      | (with_reducible exact LeO.refl _)
      | (with_reducible exact LeO.none _)
      | (with_reducible refine LeO.ite ?_ ?_)
      | (with_reducible refine LeO.bind ?_ (fun _ => ?_))
      | exact ih0 _ _ _ _
      | exact LeO.none _
      | refine LeO.ite ?_ ?_
      | refine LeO.bind ?_ (fun _ => ?_)
theorem entry_Type.mono : ∀ a0 a1 a2 k, LeO (entry_Type.f k a0 a1 a2) (entry_Type.f (k + 1) a0 a1 a2) := by
  intro a0 a1 a2 k
  have ih0 := entry_Type.mono_l k
  unfold entry_Type.f
  repeat' first
      | (with_reducible exact ih0 _ _ _ _)
      | (with_reducible exact LeO.refl _)
      | (with_reducible exact LeO.none _)
      | (with_reducible refine LeO.ite ?_ ?_)
      | (with_reducible refine LeO.bind ?_ (fun _ => ?_))
      | exact ih0 _ _ _ _
      | exact LeO.none _
      | refine LeO.ite ?_ ?_
      | refine LeO.bind ?_ (fun _ => ?_)
set_option maxHeartbeats 8000000 in
set_option maxRecDepth 100000 in
theorem entry_Type.calls (k : Nat) (a0 : ByteArray) (a1 : Int) (a2 : ByteArray) (r1 : ByteArray) (r2 : Int) (r3 : Int) (w : World) (h : entry_Type.f k a0 a1 a2 = some (r1, r2, r3)) :
    Calls Try.prog 15 #[.string a0, .int .i64 a1, .string a2] w fun e w' => e = .returned (.tuple #[.string r1, .int .i64 r2, .int .i64 r3]) ∧ Below w.heap.size w w' := by
  have HB := Aside0.mk (Below.refl w.heap.size w)
  have H : ((utf_Place.f a0 a1).bind fun t104 => (if t104 = true then ((utf_Valid.f a2).bind fun t105 => (entry_Type.j0 k a0 a1 a2 (!t105))) else (entry_Type.j0 k a0 a1 a2 true))) = some (r1, r2, r3) := h
  clear h
  have HC4 := Aside0.mk H
  clear H
  go_enter Try.func15, Try.ntmps15
  go_upto_region 1 with (fail)
  repeat (go_quiet (fail); go_upto_region 1 with (fail))
  go_cut [17] (fun v17 wc => ∃ (kq : Nat) (x17_3 : Bool), v17 = .bool x17_3 ∧ Aside0 (entry_Type.j0 kq a0 a1 a2 x17_3 = some (r1, r2, r3)) ∧ Aside0 (kq ≤ k) ∧ Aside0 (Below w.heap.size w wc))
  case first =>
    have H := HC4.out
    clear HC4
    replace H := Option.bind_eq_some_iff.mp H
    obtain ⟨t104, A50, H⟩ := H
    replace H : (if t104 = true then ((utf_Valid.f a2).bind fun t105 => (entry_Type.j0 k a0 a1 a2 (!t105))) else (entry_Type.j0 k a0 a1 a2 true)) = some (r1, r2, r3) := H
    have A5 := Aside0.mk A50
    clear A50
    by_cases c6 : t104 = true
    · subst c6
      have H1 : ((utf_Valid.f a2).bind fun t105 => (entry_Type.j0 k a0 a1 a2 (!t105))) = some (r1, r2, r3) := by rw [if_pos rfl] at H; exact H
      clear H
      have H := H1
      clear H1
      replace H := Option.bind_eq_some_iff.mp H
      obtain ⟨t105, A70, H⟩ := H
      replace H : (entry_Type.j0 k a0 a1 a2 (!t105)) = some (r1, r2, r3) := H
      have A7 := Aside0.mk A70
      clear A70
      have H' := Aside0.mk H
      clear H
      go_wp2_with (first | (go_at_call 45; (with_reducible refine (utf_Place.calls a0 a1 true _ A5.out).mono ?_); rintro e w8 ⟨rfl, hb⟩; have n0_ := Aside0.mk (below_step (by repeat (first | (with_reducible first | exact HB.out | apply below_alloc | apply pw_below_drewN | apply below_drew1) | exact HB.out)) hb); clear HB; have HB := n0_; clear n0_; (try clear hb); (try clear hb2); (try clear hk); (try clear hi)) | (go_at_call 51; (with_reducible refine (utf_Valid.calls a2 t105 _ A7.out).mono ?_); rintro e w9 ⟨rfl, hb⟩; have n0_ := Aside0.mk (below_step (by repeat (first | (with_reducible first | exact HB.out | apply below_alloc | apply pw_below_drewN | apply below_drew1) | exact HB.out)) hb); clear HB; have HB := n0_; clear n0_; (try clear hb); (try clear hb2); (try clear hk); (try clear hi)))
      repeat (go_quiet (fail); try go_wp2_with (first | (go_at_call 45; (with_reducible refine (utf_Place.calls a0 a1 true _ A5.out).mono ?_); rintro e w8 ⟨rfl, hb⟩; have n0_ := Aside0.mk (below_step (by repeat (first | (with_reducible first | exact HB.out | apply below_alloc | apply pw_below_drewN | apply below_drew1) | exact HB.out)) hb); clear HB; have HB := n0_; clear n0_; (try clear hb); (try clear hb2); (try clear hk); (try clear hi)) | (go_at_call 51; (with_reducible refine (utf_Valid.calls a2 t105 _ A7.out).mono ?_); rintro e w9 ⟨rfl, hb⟩; have n0_ := Aside0.mk (below_step (by repeat (first | (with_reducible first | exact HB.out | apply below_alloc | apply pw_below_drewN | apply below_drew1) | exact HB.out)) hb); clear HB; have HB := n0_; clear n0_; (try clear hb); (try clear hb2); (try clear hk); (try clear hi))))
      go_meet
      case rel => exact ⟨_, (!t105), (by first | rfl | (simp; done) | (simp [*]; done)), H', ⟨by first | omega | exact Nat.le_refl _⟩, ⟨by repeat (first | (with_reducible first | exact HB.out | apply below_alloc | apply pw_below_drewN | apply below_drew1) | exact HB.out)⟩⟩
    · replace c6 := Bool.eq_false_iff.mpr c6
      subst c6
      have H1 : (entry_Type.j0 k a0 a1 a2 true) = some (r1, r2, r3) := by rw [if_neg (show ¬ (false = true) by decide)] at H; exact H
      clear H
      have H := H1
      clear H1
      have H' := Aside0.mk H
      clear H
      go_wp2_with (first | (go_at_call 45; (with_reducible refine (utf_Place.calls a0 a1 false _ A5.out).mono ?_); rintro e w10 ⟨rfl, hb⟩; have n0_ := Aside0.mk (below_step (by repeat (first | (with_reducible first | exact HB.out | apply below_alloc | apply pw_below_drewN | apply below_drew1) | exact HB.out)) hb); clear HB; have HB := n0_; clear n0_; (try clear hb); (try clear hb2); (try clear hk); (try clear hi)))
      repeat (go_quiet (fail); try go_wp2_with (first | (go_at_call 45; (with_reducible refine (utf_Place.calls a0 a1 false _ A5.out).mono ?_); rintro e w10 ⟨rfl, hb⟩; have n0_ := Aside0.mk (below_step (by repeat (first | (with_reducible first | exact HB.out | apply below_alloc | apply pw_below_drewN | apply below_drew1) | exact HB.out)) hb); clear HB; have HB := n0_; clear n0_; (try clear hb); (try clear hb2); (try clear hk); (try clear hi))))
      go_meet
      case rel => exact ⟨_, (true), (by first | rfl | (simp; done) | (simp [*]; done)), H', ⟨by first | omega | exact Nat.le_refl _⟩, ⟨by repeat (first | (with_reducible first | exact HB.out | apply below_alloc | apply pw_below_drewN | apply below_drew1) | exact HB.out)⟩⟩
  case rest =>
    clear HC4
    try clear c1
    try clear p2
    try clear c6
    obtain ⟨kq, x17_3, rfl, HA, HJ3, HB⟩ := hcut
    cases kq with
    | zero => exact absurd HA.out (by simp [entry_Type.j0])
    | succ kj3 =>
      have H := HA.out
      clear HA
      simp only [entry_Type.j0] at H
      by_cases c11 : x17_3 = true
      · subst c11
        have H1 : (some ((⟨#[]⟩ : ByteArray), 0, 1)) = some (r1, r2, r3) := by rw [if_pos rfl] at H; exact H
        clear H
        have H := H1
        clear H1
        simp only [Option.some.injEq, Prod.mk.injEq] at H
        obtain ⟨rfl, rfl, rfl⟩ := H
        go_wp2
        repeat (go_quiet (fail); try go_wp2)
        go_ret3
        exact ⟨by first | rfl | (simp [errW_none, errW_some] <;> rfl) | (simp [*, errW_none, errW_some] <;> rfl), by repeat (first | (with_reducible first | exact HB.out | apply below_alloc | apply pw_below_drewN | apply below_drew1) | exact HB.out)⟩
      · replace c11 := Bool.eq_false_iff.mpr c11
        subst c11
        have H1 : (if (wrap64 ((a0.size : Int) + (a2.size : Int))) > 4096 then (some ((⟨#[]⟩ : ByteArray), 0, 8)) else (if 0 ≤ a1 then (if a1 ≤ (a0.size : Int) then (if (a0.extract 0 (a1 : Int).toNat).size + a2.size ≤ 9223372036854775807 then (if ((a0.extract 0 (a1 : Int).toNat) ++ a2).size + (a0.extract (a1 : Int).toNat a0.size).size ≤ 9223372036854775807 then (some (((a0.extract 0 (a1 : Int).toNat) ++ a2) ++ (a0.extract (a1 : Int).toNat a0.size), wrap64 (a1 + (a2.size : Int)), 0)) else (none)) else (none)) else (none)) else (none))) = some (r1, r2, r3) := by rw [if_neg (show ¬ (false = true) by decide)] at H; exact H
        clear H
        have H := H1
        clear H1
        by_cases c12 : (wrap64 ((a0.size : Int) + (a2.size : Int))) > 4096
        · rw [if_pos c12] at H
          have c12b0 : decide (4096 < (wrap64 ((a0.size : Int) + (a2.size : Int)))) = true := decide_eq_true c12
          clear c12
          simp only [Option.some.injEq, Prod.mk.injEq] at H
          obtain ⟨rfl, rfl, rfl⟩ := H
          go_wp2
          repeat (go_quiet (fail); try go_wp2)
          go_ret3
          exact ⟨by first | rfl | (simp [errW_none, errW_some] <;> rfl) | (simp [*, errW_none, errW_some] <;> rfl), by repeat (first | (with_reducible first | exact HB.out | apply below_alloc | apply pw_below_drewN | apply below_drew1) | exact HB.out)⟩
        · rw [if_neg c12] at H
          have c12b0 : decide (4096 < (wrap64 ((a0.size : Int) + (a2.size : Int)))) = false := decide_eq_false c12
          clear c12
          by_cases c13 : 0 ≤ a1
          · rw [if_pos c13] at H
            have c13b0 := eq_true c13
            have c13b1 : decide (0 ≤ a1) = true := decide_eq_true c13
            clear c13
            by_cases c14 : a1 ≤ (a0.size : Int)
            · rw [if_pos c14] at H
              have c14b0 := eq_true c14
              have c14b1 : decide (a1 ≤ (a0.size : Int)) = true := decide_eq_true c14
              clear c14
              by_cases c15 : (a0.extract 0 (a1 : Int).toNat).size + a2.size ≤ 9223372036854775807
              · rw [if_pos c15] at H
                have c15b0 := eq_true c15
                have c15b1 : decide ((a0.extract 0 (a1 : Int).toNat).size + a2.size ≤ 9223372036854775807) = true := decide_eq_true c15
                try have c15b2 : (9223372036854775807 < (a0.extract 0 (a1 : Int).toNat).size + a2.size) = False := eq_false (Nat.not_lt.2 c15)
                have c16b0 := eq_true (of_decide_eq_true (by first | (with_reducible assumption) | assumption) : 0 ≤ a1)
                have c17b0 := eq_true (of_decide_eq_true (by first | (with_reducible assumption) | assumption) : a1 ≤ (a0.size : Int))
                by_cases c18 : ((a0.extract 0 (a1 : Int).toNat) ++ a2).size + (a0.extract (a1 : Int).toNat a0.size).size ≤ 9223372036854775807
                · rw [if_pos c18] at H
                  have c18b0 := eq_true c18
                  have c18b1 : decide (((a0.extract 0 (a1 : Int).toNat) ++ a2).size + (a0.extract (a1 : Int).toNat a0.size).size ≤ 9223372036854775807) = true := decide_eq_true c18
                  try have c18b2 : (9223372036854775807 < ((a0.extract 0 (a1 : Int).toNat) ++ a2).size + (a0.extract (a1 : Int).toNat a0.size).size) = False := eq_false (Nat.not_lt.2 c18)
                  simp only [Option.some.injEq, Prod.mk.injEq] at H
                  obtain ⟨rfl, rfl, rfl⟩ := H
                  go_wp2
                  repeat (go_quiet (fail); try go_wp2)
                  go_ret3
                  exact ⟨by first | rfl | (simp [errW_none, errW_some] <;> rfl) | (simp [*, errW_none, errW_some] <;> rfl), by repeat (first | (with_reducible first | exact HB.out | apply below_alloc | apply pw_below_drewN | apply below_drew1) | exact HB.out)⟩
                · rw [if_neg c18] at H
                  exact absurd H (by simp)
              · rw [if_neg c15] at H
                exact absurd H (by simp)
            · rw [if_neg c14] at H
              exact absurd H (by simp)
          · rw [if_neg c13] at H
            exact absurd H (by simp)



/-! ### calamuslaw25_EntryUndone -/
mutual
def calamuslaw25_EntryUndone.j0 : Nat → ByteArray → Int → ByteArray → Bool → Option (Bool)
  | 0, _, _, _, _ => none
  | k + 1, x0, x1, x2, x24 => if x24 = true then ((calamuslaw25_lives.f).bind fun t106 => (some t106)) else ((entry_Type.f k x0 x1 x2).bind fun bt107 => (if bt107.2.2 = 0 then ((utf_Count.f x2).bind fun t111 => (calamuslaw25_EntryUndone.l0 k x0 x1 bt107.1 bt107.2.1 t111)) else (if bt107.1.toList = ([] : List UInt8) then (if bt107.2.1 = 0 then ((calamuslaw25_lives.f).bind fun t110 => (some t110)) else (some false)) else (some false))))
def calamuslaw25_EntryUndone.l0 : Nat → ByteArray → Int → ByteArray → Int → Int → Option (Bool)
  | 0, _, _, _, _, _ => none
  | k + 1, x0, x1, x7, x8, x10 => if x10 > 0 then ((entry_Back.f x7 x8 x1).bind fun bt112 => (if bt112.2.2 = 0 then (if bt112.2.1 ≥ x8 then (some false) else (calamuslaw25_EntryUndone.l0 k x0 x1 bt112.1 bt112.2.1 (wrap64 (x10 - 1)))) else (some false))) else ((entry_Back.f x7 x8 x1).bind fun bt115 => (if x7.toList = x0.toList then (if x8 = x1 then (if bt115.2.2 = 10 then ((calamuslaw25_lives.f).bind fun t118 => (some t118)) else (some false)) else (some false)) else (some false)))
end
def calamuslaw25_EntryUndone.f (k : Nat) (a0 : ByteArray) (a1 : Int) (a2 : ByteArray) : Option (Bool) := if (a0.size : Int) > 500 then (calamuslaw25_EntryUndone.j0 k a0 a1 a2 true) else (calamuslaw25_EntryUndone.j0 k a0 a1 a2 (decide ((a2.size : Int) > 200)))
theorem calamuslaw25_EntryUndone.mono_l : ∀ k, (∀ y0 y1 y2 y3, LeO (calamuslaw25_EntryUndone.j0 k y0 y1 y2 y3) (calamuslaw25_EntryUndone.j0 (k + 1) y0 y1 y2 y3)) ∧ (∀ y0 y1 y2 y3 y4, LeO (calamuslaw25_EntryUndone.l0 k y0 y1 y2 y3 y4) (calamuslaw25_EntryUndone.l0 (k + 1) y0 y1 y2 y3 y4))
  | 0 => ⟨fun _ _ _ _ r h => by simp [calamuslaw25_EntryUndone.j0] at h, fun _ _ _ _ _ r h => by simp [calamuslaw25_EntryUndone.l0] at h⟩
  | k + 1 => by
    obtain ⟨ih0, ih1⟩ := calamuslaw25_EntryUndone.mono_l k
    refine ⟨?_, ?_⟩
    · intro y0 y1 y2 y3
      unfold calamuslaw25_EntryUndone.j0
      repeat' first
      | (with_reducible exact ih0 _ _ _ _)
      | (with_reducible exact ih1 _ _ _ _ _)
      | (with_reducible exact entry_Type.mono _ _ _ _)
      | (with_reducible exact LeO.refl _)
      | (with_reducible exact LeO.none _)
      | (with_reducible refine LeO.ite ?_ ?_)
      | (with_reducible refine LeO.bind ?_ (fun _ => ?_))
      | exact ih0 _ _ _ _
      | exact ih1 _ _ _ _ _
      | exact entry_Type.mono _ _ _ _
      | exact LeO.none _
      | refine LeO.ite ?_ ?_
      | refine LeO.bind ?_ (fun _ => ?_)
    · intro y0 y1 y2 y3 y4
      unfold calamuslaw25_EntryUndone.l0
      repeat' first
      | (with_reducible exact ih0 _ _ _ _)
      | (with_reducible exact ih1 _ _ _ _ _)
      | (with_reducible exact entry_Type.mono _ _ _ _)
      | (with_reducible exact LeO.refl _)
      | (with_reducible exact LeO.none _)
      | (with_reducible refine LeO.ite ?_ ?_)
      | (with_reducible refine LeO.bind ?_ (fun _ => ?_))
      | exact ih0 _ _ _ _
      | exact ih1 _ _ _ _ _
      | exact entry_Type.mono _ _ _ _
      | exact LeO.none _
      | refine LeO.ite ?_ ?_
      | refine LeO.bind ?_ (fun _ => ?_)
theorem calamuslaw25_EntryUndone.mono : ∀ a0 a1 a2 k, LeO (calamuslaw25_EntryUndone.f k a0 a1 a2) (calamuslaw25_EntryUndone.f (k + 1) a0 a1 a2) := by
  intro a0 a1 a2 k
  obtain ⟨ih0, ih1⟩ := calamuslaw25_EntryUndone.mono_l k
  unfold calamuslaw25_EntryUndone.f
  repeat' first
      | (with_reducible exact ih0 _ _ _ _)
      | (with_reducible exact ih1 _ _ _ _ _)
      | (with_reducible exact entry_Type.mono _ _ _ _)
      | (with_reducible exact LeO.refl _)
      | (with_reducible exact LeO.none _)
      | (with_reducible refine LeO.ite ?_ ?_)
      | (with_reducible refine LeO.bind ?_ (fun _ => ?_))
      | exact ih0 _ _ _ _
      | exact ih1 _ _ _ _ _
      | exact entry_Type.mono _ _ _ _
      | exact LeO.none _
      | refine LeO.ite ?_ ?_
      | refine LeO.bind ?_ (fun _ => ?_)
set_option maxHeartbeats 8000000 in
set_option maxRecDepth 100000 in
theorem calamuslaw25_EntryUndone.calls (k : Nat) (a0 : ByteArray) (a1 : Int) (a2 : ByteArray) (r : Bool) (w : World) (h : calamuslaw25_EntryUndone.f k a0 a1 a2 = some r) :
    Calls Try.prog 3 #[.string a0, .int .i64 a1, .string a2] w fun e w' => e = .returned (.bool r) ∧ Below w.heap.size w w' := by
  have HB := Aside0.mk (Below.refl w.heap.size w)
  have H : (if (a0.size : Int) > 500 then (calamuslaw25_EntryUndone.j0 k a0 a1 a2 true) else (calamuslaw25_EntryUndone.j0 k a0 a1 a2 (decide ((a2.size : Int) > 200)))) = some r := h
  clear h
  have HC4 := Aside0.mk H
  clear H
  go_enter Try.func3, Try.ntmps3
  go_upto_region 1 with (fail)
  go_cut [24] (fun v24 wc => ∃ (kq : Nat) (x24_3 : Bool), v24 = .bool x24_3 ∧ Aside0 (calamuslaw25_EntryUndone.j0 kq a0 a1 a2 x24_3 = some r) ∧ Aside0 (kq ≤ k) ∧ Aside0 (Below w.heap.size w wc))
  case first =>
    have H := HC4.out
    clear HC4
    by_cases c5 : (a0.size : Int) > 500
    · rw [if_pos c5] at H
      have c5b0 : decide (500 < (a0.size : Int)) = true := decide_eq_true c5
      have c5b1 : decide (500 < a0.size) = true := decide_eq_true (by omega)
      clear c5
      (first | rw [c5b0] | (simp only [i64_w, i32_w]; rw [c5b0]) | skip)
      have H' := Aside0.mk H
      clear H
      go_wp2
      go_meet
      case rel => exact ⟨_, (true), (by first | rfl | (simp; done) | (simp [*]; done)), H', ⟨by first | omega | exact Nat.le_refl _⟩, ⟨by repeat (first | (with_reducible first | exact HB.out | apply below_alloc | apply pw_below_drewN | apply below_drew1) | exact HB.out)⟩⟩
    · rw [if_neg c5] at H
      have c5b0 : decide (500 < (a0.size : Int)) = false := decide_eq_false c5
      have c5b1 : decide (500 < a0.size) = false := decide_eq_false (by omega)
      clear c5
      (first | rw [c5b0] | (simp only [i64_w, i32_w]; rw [c5b0]) | skip)
      have H' := Aside0.mk H
      clear H
      go_wp2
      go_meet
      case rel => exact ⟨_, (decide ((a2.size : Int) > 200)), (by first | rfl | (simp; done) | (simp [*]; done)), H', ⟨by first | omega | exact Nat.le_refl _⟩, ⟨by repeat (first | (with_reducible first | exact HB.out | apply below_alloc | apply pw_below_drewN | apply below_drew1) | exact HB.out)⟩⟩
  case rest =>
    clear HC4
    try clear p2
    try clear c3
    try clear c5
    try clear c5b0
    try clear c5b1
    obtain ⟨kq, x24_3, rfl, HA, HJ3, HB⟩ := hcut
    cases kq with
    | zero => exact absurd HA.out (by simp [calamuslaw25_EntryUndone.j0])
    | succ kj3 =>
      have H := HA.out
      clear HA
      simp only [calamuslaw25_EntryUndone.j0] at H
      by_cases c6 : x24_3 = true
      · subst c6
        have H1 : ((calamuslaw25_lives.f).bind fun t106 => (some t106)) = some r := by rw [if_pos rfl] at H; exact H
        clear H
        have H := H1
        clear H1
        replace H := Option.bind_eq_some_iff.mp H
        obtain ⟨t106, A70, H⟩ := H
        replace H : (some t106) = some r := H
        have A7 := Aside0.mk A70
        clear A70
        obtain rfl := Option.some.inj H
        go_wp2_with (first | ((with_reducible refine gate_callee (f := 14) rfl ?_); refine goesL_ (some 25) rfl rfl Try.func14 (by kernel_rfl) rfl #[] rfl (by (try simp only [List.map_toArray, List.map_cons, List.map_nil]); first | done | rfl | (simp only [List.length_drop, List.length_take]; rfl)) ?_; (with_reducible refine (calamuslaw25_lives.calls  t106 _ A7.out).mono ?_); rintro e w8 ⟨rfl, hb⟩; refine ⟨_, rfl, ?_⟩; have n0_ := Aside0.mk (below_step (by repeat (first | (with_reducible first | exact HB.out | apply below_alloc | apply pw_below_drewN | apply below_drew1) | exact HB.out)) hb); clear HB; have HB := n0_; clear n0_; (try clear hb); (try clear hb2); (try clear hk); (try clear hi)))
        go_ret
        exact ⟨by first | rfl | (simp [errW_none, errW_some] <;> rfl) | (simp [*, errW_none, errW_some] <;> rfl), by repeat (first | (with_reducible first | exact HB.out | apply below_alloc | apply pw_below_drewN | apply below_drew1) | exact HB.out)⟩
      · replace c6 := Bool.eq_false_iff.mpr c6
        subst c6
        have H1 : ((entry_Type.f kj3 a0 a1 a2).bind fun bt107 => (if bt107.2.2 = 0 then ((utf_Count.f a2).bind fun t111 => (calamuslaw25_EntryUndone.l0 kj3 a0 a1 bt107.1 bt107.2.1 t111)) else (if bt107.1.toList = ([] : List UInt8) then (if bt107.2.1 = 0 then ((calamuslaw25_lives.f).bind fun t110 => (some t110)) else (some false)) else (some false)))) = some r := by rw [if_neg (show ¬ (false = true) by decide)] at H; exact H
        clear H
        have H := H1
        clear H1
        replace H := Option.bind_eq_some_iff.mp H
        obtain ⟨⟨t107, t108, t109⟩, A90, H⟩ := H
        replace H : (if t109 = 0 then ((utf_Count.f a2).bind fun t111 => (calamuslaw25_EntryUndone.l0 kj3 a0 a1 t107 t108 t111)) else (if t107.toList = ([] : List UInt8) then (if t108 = 0 then ((calamuslaw25_lives.f).bind fun t110 => (some t110)) else (some false)) else (some false))) = some r := H
        have A9 := Aside0.mk A90
        clear A90
        by_cases c10 : t109 = 0
        · rw [if_pos c10] at H
          have c10b0 : (t109 == 0) = true := beq_iff_eq.mpr c10
          have c10b1 : (t109 != 0) = false := bne_eq_false_iff_eq.mpr c10
          clear c10
          replace H := Option.bind_eq_some_iff.mp H
          obtain ⟨t111, A110, H⟩ := H
          replace H : (calamuslaw25_EntryUndone.l0 kj3 a0 a1 t107 t108 t111) = some r := H
          have A11 := Aside0.mk A110
          clear A110
          have H' := Aside0.mk H
          clear H
          go_wp2_with (first | ((with_reducible refine gate_callee (f := 15) rfl ?_); refine goesL_ (some 30) rfl rfl Try.func15 (by kernel_rfl) rfl #[.string a0, .int .i64 a1, .string a2] rfl (by (try simp only [List.map_toArray, List.map_cons, List.map_nil]); first | done | rfl | (simp only [List.length_drop, List.length_take]; rfl)) ?_; (with_reducible refine (entry_Type.calls kj3 a0 a1 a2 t107 t108 t109 _ A9.out).mono ?_); rintro e w12 ⟨rfl, hb⟩; refine ⟨_, rfl, ?_⟩; have n0_ := Aside0.mk (below_step (by repeat (first | (with_reducible first | exact HB.out | apply below_alloc | apply pw_below_drewN | apply below_drew1) | exact HB.out)) hb); clear HB; have HB := n0_; clear n0_; (try clear hb); (try clear hb2); (try clear hk); (try clear hi)) | ((with_reducible refine gate_callee (f := 16) rfl ?_); refine goesL_ (some 46) rfl rfl Try.func16 (by kernel_rfl) rfl #[.string a2] rfl (by (try simp only [List.map_toArray, List.map_cons, List.map_nil]); first | done | rfl | (simp only [List.length_drop, List.length_take]; rfl)) ?_; (with_reducible refine (utf_Count.calls a2 t111 _ A11.out).mono ?_); rintro e w13 ⟨rfl, hb⟩; refine ⟨_, rfl, ?_⟩; have n0_ := Aside0.mk (below_step (by repeat (first | (with_reducible first | exact HB.out | apply below_alloc | apply pw_below_drewN | apply below_drew1) | exact HB.out)) hb); clear HB; have HB := n0_; clear n0_; (try clear hb); (try clear hb2); (try clear hk); (try clear hi)))
          go_loopg [7, 8, 10] kj3 (fun kq v7 v8 v10 w' => ∃ (x7_2 : ByteArray) (x8_2 : Int) (x10_2 : Int), v7 = .string x7_2 ∧ v8 = .int .i64 x8_2 ∧ v10 = .int .i64 x10_2 ∧ Aside0 (calamuslaw25_EntryUndone.l0 kq a0 a1 x7_2 x8_2 x10_2 = some r) ∧ Aside0 (kq ≤ kj3) ∧ Aside0 (Below w.heap.size w w'))
          case atStart => exact ⟨(t107), (t108), (t111), (by first | rfl | (simp; done) | (simp [*]; done)), (by first | rfl | (simp; done) | (simp [*]; done)), (by first | rfl | (simp; done) | (simp [*]; done)), H', ⟨Nat.le_refl _⟩, ⟨by repeat (first | (with_reducible first | exact HB.out | apply below_alloc | apply pw_below_drewN | apply below_drew1) | exact HB.out)⟩⟩
          case round =>
            clear H'
            try clear c1
            try clear p2
            try clear c3
            try clear c5
            try clear c5b0
            try clear c5b1
            try clear c6
            try clear c10
            try clear c10b0
            try clear c10b1
            try clear p2
            obtain ⟨x7_2, x8_2, x10_2, rfl, rfl, rfl, HA, HK2, HB⟩ := hrel
            cases gk with
            | zero => exact absurd HA.out (by simp [calamuslaw25_EntryUndone.l0])
            | succ k2 =>
              have H := HA.out
              clear HA
              simp only [calamuslaw25_EntryUndone.l0] at H
              by_cases c14 : x10_2 > 0
              · rw [if_pos c14] at H
                have c14b0 : decide (0 < x10_2) = true := decide_eq_true c14
                clear c14
                replace H := Option.bind_eq_some_iff.mp H
                obtain ⟨⟨t112, t113, t114⟩, A150, H⟩ := H
                replace H : (if t114 = 0 then (if t113 ≥ x8_2 then (some false) else (calamuslaw25_EntryUndone.l0 k2 a0 a1 t112 t113 (wrap64 (x10_2 - 1)))) else (some false)) = some r := H
                have A15 := Aside0.mk A150
                clear A150
                by_cases c16 : t114 = 0
                · rw [if_pos c16] at H
                  have c16b0 : (t114 == 0) = true := beq_iff_eq.mpr c16
                  have c16b1 : (t114 != 0) = false := bne_eq_false_iff_eq.mpr c16
                  clear c16
                  by_cases c17 : t113 ≥ x8_2
                  · rw [if_pos c17] at H
                    have c17b0 : decide (x8_2 ≤ t113) = true := decide_eq_true c17
                    clear c17
                    obtain rfl := Option.some.inj H
                    go_wp2_with (first | ((with_reducible refine gate_callee (f := 17) rfl ?_); refine goesL_ (some 55) rfl rfl Try.func17 (by kernel_rfl) rfl #[.string x7_2, .int .i64 x8_2, .int .i64 a1] rfl (by (try simp only [List.map_toArray, List.map_cons, List.map_nil]); first | done | rfl | (simp only [List.length_drop, List.length_take]; rfl)) ?_; (with_reducible refine (entry_Back.calls x7_2 x8_2 a1 t112 t113 t114 _ A15.out).mono ?_); rintro e w18 ⟨rfl, hb⟩; refine ⟨_, rfl, ?_⟩; have n0_ := Aside0.mk (below_step (by repeat (first | (with_reducible first | exact HB.out | apply below_alloc | apply pw_below_drewN | apply below_drew1) | exact HB.out)) hb); clear HB; have HB := n0_; clear n0_; (try clear hb); (try clear hb2); (try clear hk); (try clear hi)))
                    go_ret
                    exact ⟨by first | rfl | (simp [errW_none, errW_some] <;> rfl) | (simp [*, errW_none, errW_some] <;> rfl), by repeat (first | (with_reducible first | exact HB.out | apply below_alloc | apply pw_below_drewN | apply below_drew1) | exact HB.out)⟩
                  · rw [if_neg c17] at H
                    have c17b0 : decide (x8_2 ≤ t113) = false := decide_eq_false c17
                    clear c17
                    have H' := Aside0.mk H
                    clear H
                    go_wp2_with (first | ((with_reducible refine gate_callee (f := 17) rfl ?_); refine goesL_ (some 55) rfl rfl Try.func17 (by kernel_rfl) rfl #[.string x7_2, .int .i64 x8_2, .int .i64 a1] rfl (by (try simp only [List.map_toArray, List.map_cons, List.map_nil]); first | done | rfl | (simp only [List.length_drop, List.length_take]; rfl)) ?_; (with_reducible refine (entry_Back.calls x7_2 x8_2 a1 t112 t113 t114 _ A15.out).mono ?_); rintro e w19 ⟨rfl, hb⟩; refine ⟨_, rfl, ?_⟩; have n0_ := Aside0.mk (below_step (by repeat (first | (with_reducible first | exact HB.out | apply below_alloc | apply pw_below_drewN | apply below_drew1) | exact HB.out)) hb); clear HB; have HB := n0_; clear n0_; (try clear hb); (try clear hb2); (try clear hk); (try clear hi)))
                    go_roundg k2
                    case measure => have := HJ3.out; have := HK2.out; omega
                    case rel => exact ⟨(t112), (t113), (wrap64 (x10_2 - 1)), (by first | rfl | (simp; done) | (simp [*]; done)), (by first | rfl | (simp; done) | (simp [*]; done)), (by first | rfl | (simp; done) | (simp [*]; done)), H', ⟨by have := HJ3.out; have := HK2.out; omega⟩, ⟨by repeat (first | (with_reducible first | exact HB.out | apply below_alloc | apply pw_below_drewN | apply below_drew1) | exact HB.out)⟩⟩
                · rw [if_neg c16] at H
                  have c16b0 : (t114 == 0) = false := beq_eq_false_iff_ne.mpr c16
                  have c16b1 : (t114 != 0) = true := bne_iff_ne.mpr c16
                  obtain rfl := Option.some.inj H
                  go_wp2_with (first | ((with_reducible refine gate_callee (f := 17) rfl ?_); refine goesL_ (some 55) rfl rfl Try.func17 (by kernel_rfl) rfl #[.string x7_2, .int .i64 x8_2, .int .i64 a1] rfl (by (try simp only [List.map_toArray, List.map_cons, List.map_nil]); first | done | rfl | (simp only [List.length_drop, List.length_take]; rfl)) ?_; (with_reducible refine (entry_Back.calls x7_2 x8_2 a1 t112 t113 t114 _ A15.out).mono ?_); rintro e w20 ⟨rfl, hb⟩; refine ⟨_, rfl, ?_⟩; have n0_ := Aside0.mk (below_step (by repeat (first | (with_reducible first | exact HB.out | apply below_alloc | apply pw_below_drewN | apply below_drew1) | exact HB.out)) hb); clear HB; have HB := n0_; clear n0_; (try clear hb); (try clear hb2); (try clear hk); (try clear hi)))
                  go_ret
                  exact ⟨by first | rfl | (simp [errW_none, errW_some] <;> rfl) | (simp [*, errW_none, errW_some] <;> rfl), by repeat (first | (with_reducible first | exact HB.out | apply below_alloc | apply pw_below_drewN | apply below_drew1) | exact HB.out)⟩
              · rw [if_neg c14] at H
                have c14b0 : decide (0 < x10_2) = false := decide_eq_false c14
                clear c14
                replace H := Option.bind_eq_some_iff.mp H
                obtain ⟨⟨t115, t116, t117⟩, A210, H⟩ := H
                replace H : (if x7_2.toList = a0.toList then (if x8_2 = a1 then (if t117 = 10 then ((calamuslaw25_lives.f).bind fun t118 => (some t118)) else (some false)) else (some false)) else (some false)) = some r := H
                have A21 := Aside0.mk A210
                clear A210
                by_cases c22 : x7_2.toList = a0.toList
                · rw [if_pos c22] at H
                  have c22b0 : (x7_2.toList == a0.toList) = true := beq_iff_eq.mpr c22
                  have c22b1 : (x7_2.toList != a0.toList) = false := bne_eq_false_iff_eq.mpr c22
                  clear c22
                  by_cases c23 : x8_2 = a1
                  · rw [if_pos c23] at H
                    have c23b0 : (x8_2 == a1) = true := beq_iff_eq.mpr c23
                    have c23b1 : (x8_2 != a1) = false := bne_eq_false_iff_eq.mpr c23
                    clear c23
                    by_cases c24 : t117 = 10
                    · rw [if_pos c24] at H
                      have c24b0 : (t117 == 10) = true := beq_iff_eq.mpr c24
                      have c24b1 : (t117 != 10) = false := bne_eq_false_iff_eq.mpr c24
                      clear c24
                      replace H := Option.bind_eq_some_iff.mp H
                      obtain ⟨t118, A250, H⟩ := H
                      replace H : (some t118) = some r := H
                      have A25 := Aside0.mk A250
                      clear A250
                      obtain rfl := Option.some.inj H
                      go_wp2_with (first | ((with_reducible refine gate_callee (f := 17) rfl ?_); refine goesL_ (some 72) rfl rfl Try.func17 (by kernel_rfl) rfl #[.string x7_2, .int .i64 x8_2, .int .i64 a1] rfl (by (try simp only [List.map_toArray, List.map_cons, List.map_nil]); first | done | rfl | (simp only [List.length_drop, List.length_take]; rfl)) ?_; (with_reducible refine (entry_Back.calls x7_2 x8_2 a1 t115 t116 t117 _ A21.out).mono ?_); rintro e w26 ⟨rfl, hb⟩; refine ⟨_, rfl, ?_⟩; have n0_ := Aside0.mk (below_step (by repeat (first | (with_reducible first | exact HB.out | apply below_alloc | apply pw_below_drewN | apply below_drew1) | exact HB.out)) hb); clear HB; have HB := n0_; clear n0_; (try clear hb); (try clear hb2); (try clear hk); (try clear hi)) | (go_at_call 14; (with_reducible refine (calamuslaw25_lives.calls  t118 _ A25.out).mono ?_); rintro e w27 ⟨rfl, hb⟩; have n0_ := Aside0.mk (below_step (by repeat (first | (with_reducible first | exact HB.out | apply below_alloc | apply pw_below_drewN | apply below_drew1) | exact HB.out)) hb); clear HB; have HB := n0_; clear n0_; (try clear hb); (try clear hb2); (try clear hk); (try clear hi)))
                      go_ret
                      exact ⟨by first | rfl | (simp [errW_none, errW_some] <;> rfl) | (simp [*, errW_none, errW_some] <;> rfl), by repeat (first | (with_reducible first | exact HB.out | apply below_alloc | apply pw_below_drewN | apply below_drew1) | exact HB.out)⟩
                    · rw [if_neg c24] at H
                      have c24b0 : (t117 == 10) = false := beq_eq_false_iff_ne.mpr c24
                      have c24b1 : (t117 != 10) = true := bne_iff_ne.mpr c24
                      obtain rfl := Option.some.inj H
                      go_wp2_with (first | ((with_reducible refine gate_callee (f := 17) rfl ?_); refine goesL_ (some 72) rfl rfl Try.func17 (by kernel_rfl) rfl #[.string x7_2, .int .i64 x8_2, .int .i64 a1] rfl (by (try simp only [List.map_toArray, List.map_cons, List.map_nil]); first | done | rfl | (simp only [List.length_drop, List.length_take]; rfl)) ?_; (with_reducible refine (entry_Back.calls x7_2 x8_2 a1 t115 t116 t117 _ A21.out).mono ?_); rintro e w28 ⟨rfl, hb⟩; refine ⟨_, rfl, ?_⟩; have n0_ := Aside0.mk (below_step (by repeat (first | (with_reducible first | exact HB.out | apply below_alloc | apply pw_below_drewN | apply below_drew1) | exact HB.out)) hb); clear HB; have HB := n0_; clear n0_; (try clear hb); (try clear hb2); (try clear hk); (try clear hi)))
                      go_ret
                      exact ⟨by first | rfl | (simp [errW_none, errW_some] <;> rfl) | (simp [*, errW_none, errW_some] <;> rfl), by repeat (first | (with_reducible first | exact HB.out | apply below_alloc | apply pw_below_drewN | apply below_drew1) | exact HB.out)⟩
                  · rw [if_neg c23] at H
                    have c23b0 : (x8_2 == a1) = false := beq_eq_false_iff_ne.mpr c23
                    have c23b1 : (x8_2 != a1) = true := bne_iff_ne.mpr c23
                    obtain rfl := Option.some.inj H
                    go_wp2_with (first | ((with_reducible refine gate_callee (f := 17) rfl ?_); refine goesL_ (some 72) rfl rfl Try.func17 (by kernel_rfl) rfl #[.string x7_2, .int .i64 x8_2, .int .i64 a1] rfl (by (try simp only [List.map_toArray, List.map_cons, List.map_nil]); first | done | rfl | (simp only [List.length_drop, List.length_take]; rfl)) ?_; (with_reducible refine (entry_Back.calls x7_2 x8_2 a1 t115 t116 t117 _ A21.out).mono ?_); rintro e w29 ⟨rfl, hb⟩; refine ⟨_, rfl, ?_⟩; have n0_ := Aside0.mk (below_step (by repeat (first | (with_reducible first | exact HB.out | apply below_alloc | apply pw_below_drewN | apply below_drew1) | exact HB.out)) hb); clear HB; have HB := n0_; clear n0_; (try clear hb); (try clear hb2); (try clear hk); (try clear hi)))
                    go_ret
                    exact ⟨by first | rfl | (simp [errW_none, errW_some] <;> rfl) | (simp [*, errW_none, errW_some] <;> rfl), by repeat (first | (with_reducible first | exact HB.out | apply below_alloc | apply pw_below_drewN | apply below_drew1) | exact HB.out)⟩
                · rw [if_neg c22] at H
                  have c22b0 : (x7_2.toList == a0.toList) = false := beq_eq_false_iff_ne.mpr c22
                  have c22b1 : (x7_2.toList != a0.toList) = true := bne_iff_ne.mpr c22
                  obtain rfl := Option.some.inj H
                  go_wp2_with (first | ((with_reducible refine gate_callee (f := 17) rfl ?_); refine goesL_ (some 72) rfl rfl Try.func17 (by kernel_rfl) rfl #[.string x7_2, .int .i64 x8_2, .int .i64 a1] rfl (by (try simp only [List.map_toArray, List.map_cons, List.map_nil]); first | done | rfl | (simp only [List.length_drop, List.length_take]; rfl)) ?_; (with_reducible refine (entry_Back.calls x7_2 x8_2 a1 t115 t116 t117 _ A21.out).mono ?_); rintro e w30 ⟨rfl, hb⟩; refine ⟨_, rfl, ?_⟩; have n0_ := Aside0.mk (below_step (by repeat (first | (with_reducible first | exact HB.out | apply below_alloc | apply pw_below_drewN | apply below_drew1) | exact HB.out)) hb); clear HB; have HB := n0_; clear n0_; (try clear hb); (try clear hb2); (try clear hk); (try clear hi)))
                  go_ret
                  exact ⟨by first | rfl | (simp [errW_none, errW_some] <;> rfl) | (simp [*, errW_none, errW_some] <;> rfl), by repeat (first | (with_reducible first | exact HB.out | apply below_alloc | apply pw_below_drewN | apply below_drew1) | exact HB.out)⟩
        · rw [if_neg c10] at H
          have c10b0 : (t109 == 0) = false := beq_eq_false_iff_ne.mpr c10
          have c10b1 : (t109 != 0) = true := bne_iff_ne.mpr c10
          by_cases c31 : t107.toList = ([] : List UInt8)
          · rw [if_pos c31] at H
            have c31b0 : (t107.toList == ([] : List UInt8)) = true := beq_iff_eq.mpr c31
            have c31b1 : (t107.toList != ([] : List UInt8)) = false := bne_eq_false_iff_eq.mpr c31
            clear c31
            by_cases c32 : t108 = 0
            · rw [if_pos c32] at H
              have c32b0 : (t108 == 0) = true := beq_iff_eq.mpr c32
              have c32b1 : (t108 != 0) = false := bne_eq_false_iff_eq.mpr c32
              clear c32
              replace H := Option.bind_eq_some_iff.mp H
              obtain ⟨t110, A330, H⟩ := H
              replace H : (some t110) = some r := H
              have A33 := Aside0.mk A330
              clear A330
              obtain rfl := Option.some.inj H
              go_wp2_with (first | ((with_reducible refine gate_callee (f := 15) rfl ?_); refine goesL_ (some 30) rfl rfl Try.func15 (by kernel_rfl) rfl #[.string a0, .int .i64 a1, .string a2] rfl (by (try simp only [List.map_toArray, List.map_cons, List.map_nil]); first | done | rfl | (simp only [List.length_drop, List.length_take]; rfl)) ?_; (with_reducible refine (entry_Type.calls kj3 a0 a1 a2 t107 t108 t109 _ A9.out).mono ?_); rintro e w34 ⟨rfl, hb⟩; refine ⟨_, rfl, ?_⟩; have n0_ := Aside0.mk (below_step (by repeat (first | (with_reducible first | exact HB.out | apply below_alloc | apply pw_below_drewN | apply below_drew1) | exact HB.out)) hb); clear HB; have HB := n0_; clear n0_; (try clear hb); (try clear hb2); (try clear hk); (try clear hi)) | (go_at_call 14; (with_reducible refine (calamuslaw25_lives.calls  t110 _ A33.out).mono ?_); rintro e w35 ⟨rfl, hb⟩; have n0_ := Aside0.mk (below_step (by repeat (first | (with_reducible first | exact HB.out | apply below_alloc | apply pw_below_drewN | apply below_drew1) | exact HB.out)) hb); clear HB; have HB := n0_; clear n0_; (try clear hb); (try clear hb2); (try clear hk); (try clear hi)))
              go_ret
              exact ⟨by first | rfl | (simp [errW_none, errW_some] <;> rfl) | (simp [*, errW_none, errW_some] <;> rfl), by repeat (first | (with_reducible first | exact HB.out | apply below_alloc | apply pw_below_drewN | apply below_drew1) | exact HB.out)⟩
            · rw [if_neg c32] at H
              have c32b0 : (t108 == 0) = false := beq_eq_false_iff_ne.mpr c32
              have c32b1 : (t108 != 0) = true := bne_iff_ne.mpr c32
              obtain rfl := Option.some.inj H
              go_wp2_with (first | ((with_reducible refine gate_callee (f := 15) rfl ?_); refine goesL_ (some 30) rfl rfl Try.func15 (by kernel_rfl) rfl #[.string a0, .int .i64 a1, .string a2] rfl (by (try simp only [List.map_toArray, List.map_cons, List.map_nil]); first | done | rfl | (simp only [List.length_drop, List.length_take]; rfl)) ?_; (with_reducible refine (entry_Type.calls kj3 a0 a1 a2 t107 t108 t109 _ A9.out).mono ?_); rintro e w36 ⟨rfl, hb⟩; refine ⟨_, rfl, ?_⟩; have n0_ := Aside0.mk (below_step (by repeat (first | (with_reducible first | exact HB.out | apply below_alloc | apply pw_below_drewN | apply below_drew1) | exact HB.out)) hb); clear HB; have HB := n0_; clear n0_; (try clear hb); (try clear hb2); (try clear hk); (try clear hi)))
              go_ret
              exact ⟨by first | rfl | (simp [errW_none, errW_some] <;> rfl) | (simp [*, errW_none, errW_some] <;> rfl), by repeat (first | (with_reducible first | exact HB.out | apply below_alloc | apply pw_below_drewN | apply below_drew1) | exact HB.out)⟩
          · rw [if_neg c31] at H
            have c31b0 : (t107.toList == ([] : List UInt8)) = false := beq_eq_false_iff_ne.mpr c31
            have c31b1 : (t107.toList != ([] : List UInt8)) = true := bne_iff_ne.mpr c31
            obtain rfl := Option.some.inj H
            go_wp2_with (first | ((with_reducible refine gate_callee (f := 15) rfl ?_); refine goesL_ (some 30) rfl rfl Try.func15 (by kernel_rfl) rfl #[.string a0, .int .i64 a1, .string a2] rfl (by (try simp only [List.map_toArray, List.map_cons, List.map_nil]); first | done | rfl | (simp only [List.length_drop, List.length_take]; rfl)) ?_; (with_reducible refine (entry_Type.calls kj3 a0 a1 a2 t107 t108 t109 _ A9.out).mono ?_); rintro e w37 ⟨rfl, hb⟩; refine ⟨_, rfl, ?_⟩; have n0_ := Aside0.mk (below_step (by repeat (first | (with_reducible first | exact HB.out | apply below_alloc | apply pw_below_drewN | apply below_drew1) | exact HB.out)) hb); clear HB; have HB := n0_; clear n0_; (try clear hb); (try clear hb2); (try clear hk); (try clear hi)))
            go_ret
            exact ⟨by first | rfl | (simp [errW_none, errW_some] <;> rfl) | (simp [*, errW_none, errW_some] <;> rfl), by repeat (first | (with_reducible first | exact HB.out | apply below_alloc | apply pw_below_drewN | apply below_drew1) | exact HB.out)⟩

/-- THE ONE PURE STATEMENT of calamuslaw25_EntryUndone: yours. -/
def calamuslaw25_EntryUndone.Pure : Prop := ∀ (a0 : ByteArray) (a1 : Int) (a2 : ByteArray), a0.size ≤ 140737488351232 → (Lit.int .i64 a1).wf = true → a2.size ≤ 140737488351232 → ∃ k, calamuslaw25_EntryUndone.f k a0 a1 a2 = some true
theorem calamuslaw25_EntryUndone.walk (P : calamuslaw25_EntryUndone.Pure) (a0 : ByteArray) (a1 : Int) (a2 : ByteArray) (w : World) (w0 : a0.size ≤ 140737488351232) (w1 : (Lit.int .i64 a1).wf = true) (w2 : a2.size ≤ 140737488351232) :
    Calls Try.prog 3 #[.string a0, .int .i64 a1, .string a2] w fun e w' => e = .returned (.bool true) ∧ Below w.heap.size w w' := by
  obtain ⟨k, h⟩ := P a0 a1 a2 w0 w1 w2
  refine (calamuslaw25_EntryUndone.calls k a0 a1 a2 true w h).mono ?_
  rintro e w' ⟨rfl, hd⟩
  exact ⟨rfl, hd⟩




end Go.Proofs.Ytnmcdkekflnekaa.QE
/- The statement EntryUndone in plain words. -/
namespace Go.Proofs.Ytnmcdkekflnekaa
open Go.RowKit
set_option linter.unusedVariables false
set_option linter.unusedSimpArgs false
open Go.RowKit Go.Proofs.Ytnmcdkekflnekaa.QE Go.Proofs.YtnmcdkekflnekaaW.PrintWords Go.Proofs.YtnmcdkekflnekaaW.PrintMore
theorem lives25_a : (cutF ⟨#[97, 98, 32, 32, 99, 100, 32]⟩ 7 0 (chopI (ls ⟨#[97, 98, 32, 32, 99, 100, 32]⟩) 7 0)).1.data.toList = [97, 98, 32, 32] := by decide +kernel
theorem lives25_b : (cutF ⟨#[97, 98, 32, 32, 99, 100, 32]⟩ 7 0 (chopI (ls ⟨#[97, 98, 32, 32, 99, 100, 32]⟩) 7 0)).2 = (4, 0) := by decide +kernel
theorem lives25 : calamuslaw25_lives.f = some true := by
  unfold calamuslaw25_lives.f
  rw [entry_Chop.eq _ _ _ (by decide)]
  simp only [Option.bind_some]
  rw [toList_ls, if_pos lives25_a, lives25_b]
  simp
theorem lives25' : Ev (fun _ => calamuslaw25_lives.f.bind fun t => some t) true := ⟨0, fun _ _ => by rw [lives25]; rfl⟩
theorem type_ev (t : ByteArray) (p : Int) (s : ByteArray) (ht : t.size ≤ 1000000) (hs : s.size ≤ 1000000) : Ev (fun k => entry_Type.f k t p s) (typeF t p s) := by
  unfold entry_Type.f typeF
  rw [utf_Place.eq t p (by omega), utf_Valid.eq s (by omega)]
  simp only [Option.bind_some]
  rcases Bool.eq_false_or_eq_true (placeB (ls t) p) with hp | hp
  · refine Ev.pos hp ?_
    rcases Bool.eq_false_or_eq_true (validL (ls s)) with hv | hv
    · rw [if_pos ⟨hp, hv⟩, hv]
      obtain ⟨a, rfl, ha⟩ := place_nat hp
      rw [ls_len] at ha
      refine Ev.step (fun _ => (by rw [entry_Type.j0])) ?_
      rw [w64 (n := (t.size : Int) + s.size) (by omega) (by omega), w64 (n := (a : Int) + s.size) (by omega) (by omega)]
      refine Ev.neg (by decide) (Ev.ite (fun h => ?_) (fun h => ?_))
      · rw [if_pos (show t.size + s.size > 4096 by omega)]; exact Ev.ret rfl
      · rw [if_neg (show ¬ t.size + s.size > 4096 by omega)]
        refine Ev.pos (by omega) (Ev.pos (by omega) (Ev.pos ?_ (Ev.pos ?_ (Ev.ret rfl))))
        · simp only [ByteArray.size_extract]; omega
        · simp only [ByteArray.size_extract, ByteArray.size_append]; omega
    · rw [if_neg (by rw [hv]; simp), hv]
      refine Ev.step (fun _ => (by rw [entry_Type.j0])) ?_
      exact Ev.pos rfl (Ev.ret rfl)
  · refine Ev.neg (by rw [hp]; decide) ?_
    rw [if_neg (by rw [hp]; simp)]
    refine Ev.step (fun _ => (by rw [entry_Type.j0])) ?_
    exact Ev.pos rfl (Ev.ret rfl)
theorem back_val {u : ByteArray} (hu : u.size ≤ 1000000) (a b : Int) : entry_Back.f u a b = some (cutF u a b (backQ (ls u) a b)) := entry_Back.eq u a b (by omega)
theorem und_l0 (t s : ByteArray) (p : Nat) (ht : t.size ≤ 500) (hs : s.size ≤ 200) (hp : placeB (ls t) p = true) : ∀ (n j : Nat) (u : ByteArray), j ≤ n → placeB (ls s) j = true → ls u = undL (ls t) (ls s) p j →
    Ev (fun k => calamuslaw25_EntryUndone.l0 k t p u ((p + j : Nat) : Int) (cntL ((ls s).take j) : Nat)) true := by
  intro n
  induction n with
  | zero =>
    intro j u hj hpj hu
    obtain rfl : j = 0 := by omega
    have hz : u.size ≤ 1000000 := by rw [size_ls, hu, und_all, ls_len]; omega
    refine Ev.step (fun _ => (by rw [calamuslaw25_EntryUndone.l0])) ?_
    refine Ev.neg (by simp [cntL]) (Ev.call (back_val hz _ _) ?_)
    have hpu : placeB (ls u) p = true := by rw [hu, und_all]; exact hp
    have e : cutF u ((p + 0 : Nat) : Int) p (backQ (ls u) ((p + 0 : Nat) : Int) p) = (⟨#[]⟩, 0, 10) := cutF_le hpu hpu (by omega)
    rw [e]
    exact Ev.pos (by rw [toList_ls, toList_ls, hu, und_all]) (Ev.pos (by simp) (Ev.pos rfl lives25'))
  | succ n ih =>
    intro j u hj hpj hu
    by_cases h0 : j = 0
    · exact ih j u (by omega) hpj hu
    · obtain ⟨_, hle, hv⟩ := valid_at hp
      obtain ⟨_, hle2, hv2⟩ := valid_at hpj
      rw [ls_len] at hle hle2
      have hz : u.size ≤ 1000000 := by
        rw [size_ls, hu]; unfold undL
        simp only [List.length_append, List.length_take, List.length_drop, ls_len]; omega
      have hc := cnt_prev hpj (by omega)
      obtain ⟨g1, g2, _⟩ := prev_gap hv2 (j - 1) (by rw [ls_len]; omega)
      obtain ⟨f1, f2, f3⟩ := und_facts hp hpj
      have f4 := und_prev hp hpj (by omega)
      rw [← hu] at f2 f3 f4
      have e : cutF u ((p + j : Nat) : Int) p (backQ (ls u) ((p + j : Nat) : Int) p) = (cutS u (p + j) p (p + prevFrom (ls s) (j - 1)), ((p + prevFrom (ls s) (j - 1) : Nat) : Int), 0) := by
        unfold backQ
        rw [f4, cutF_ok f3 f2 (by omega), Nat.max_eq_right (by omega)]
      refine Ev.step (fun _ => (by rw [calamuslaw25_EntryUndone.l0])) ?_
      refine Ev.pos (by omega) (Ev.call (back_val hz _ _) ?_)
      rw [e, hc, w64 (n := ((cntL ((ls s).take (prevFrom (ls s) (j - 1))) + 1 : Nat) : Int) - 1) (by omega) (by have := cnt_le (ls s) (prevFrom (ls s) (j - 1)); omega), show ((cntL ((ls s).take (prevFrom (ls s) (j - 1))) + 1 : Nat) : Int) - 1 = (cntL ((ls s).take (prevFrom (ls s) (j - 1))) : Nat) by omega]
      refine Ev.pos rfl (Ev.neg (show ¬ (((p + prevFrom (ls s) (j - 1) : Nat) : Int) ≥ ((p + j : Nat) : Int)) by omega) ?_)
      refine ih (prevFrom (ls s) (j - 1)) _ (by omega) g2 ?_
      rw [cutS_ls, Nat.max_eq_right (by omega), hu]
      exact und_cut (by rw [ls_len]; omega) (by rw [ls_len]; omega) (by omega)
theorem EntryUndone_p (t : ByteArray) (p : Int) (s : ByteArray) (ht : t.size ≤ 140737488351232) (hp : -9223372036854775808 ≤ p ∧ p ≤ 9223372036854775807) (hs : s.size ≤ 140737488351232) : ∃ k, calamuslaw25_EntryUndone.f k t p s = some true := by
  refine Ev.at ?_
  unfold calamuslaw25_EntryUndone.f
  have lv : Ev (fun k => calamuslaw25_EntryUndone.j0 k t p s true) true := by
    refine Ev.step (fun _ => (by rw [calamuslaw25_EntryUndone.j0])) ?_
    exact Ev.pos rfl lives25'
  refine Ev.ite (fun h => lv) (fun h => ?_)
  by_cases h2 : (s.size : Int) > 200
  · rw [decide_eq_true h2]; exact lv
  · rw [decide_eq_false h2]
    refine Ev.step (fun _ => (by rw [calamuslaw25_EntryUndone.j0])) ?_
    refine Ev.neg (by decide) (Ev.bind (type_ev t p s (by omega) (by omega)) ?_)
    by_cases hc : placeB (ls t) p = true ∧ validL (ls s) = true
    · have e : typeF t p s = (t.extract 0 p.toNat ++ s ++ t.extract p.toNat t.size, p + s.size, 0) := by unfold typeF; rw [if_pos hc, if_neg (by omega)]
      rw [e]
      obtain ⟨a, rfl, ha⟩ := place_nat hc.1
      refine Ev.pos rfl (Ev.call (utf_Count.eq s (by omega)) ?_)
      have hj : placeB (ls s) (s.size : Nat) = true := place_mk hc.2 (by rw [ls_len]; exact Nat.le_refl _) (.inl (by rw [ls_len]))
      have := und_l0 t s a (by omega) (by omega) hc.1 s.size s.size (t.extract 0 a ++ s ++ t.extract a t.size) (Nat.le_refl _) hj (by
        rw [ls_cat, ls_cat, ls_ext, ls_ext2]; unfold undL
        rw [List.take_of_length_le (l := ls s) (by rw [ls_len]; exact Nat.le_refl _)]; simp [ls])
      have ec : countI (ls s) = (cntL ((ls s).take s.size) : Nat) := by
        unfold countI; rw [if_pos hc.2, List.take_of_length_le (by rw [ls_len]; exact Nat.le_refl _)]
      rw [ec]
      exact this
    · have e : typeF t p s = (⟨#[]⟩, 0, 1) := by unfold typeF; rw [if_neg hc]
      rw [e]
      exact Ev.neg (show ¬ ((1 : Int) = 0) by decide) (Ev.pos (by rw [toList_ls]) (Ev.pos rfl lives25'))
end Go.Proofs.Ytnmcdkekflnekaa
