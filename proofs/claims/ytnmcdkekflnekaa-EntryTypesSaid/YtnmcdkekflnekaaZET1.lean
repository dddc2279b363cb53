/- Joined by merge.py out of this work's texts: Sl, R3b, R3c, XU, XR, QE0, QE1, PEnU, QE2, Cf, Sg, R4, R5, XC, QE3, PEnT. -/
import Derived.Test.YtnmcdkekflnekaaZET0
import Derived.Lib.SmallJoins
import Derived.Test.YtnmcdkekflnekaaProg
import Derived.Below
import Derived.Deep.Draws
import Derived.Deep.AppendLies
import Derived.Maps.AppendAt
import Derived.OwnWalk
import Derived.Laws.BytesArg
import Derived.Laws.MakeOwn
import Derived.Laws.OwnMore
import Derived.Deep.OwnRows
import Derived.Tactics
import Derived.Lib.ConvBytes
import Derived.Laws.Slices
import Derived.WalkKit
import Derived.KernelRfl
import Derived.RowKit3
import Derived.Deep.LoopGhost
import Derived.Deep.QuietTactic
import Derived.BigQuiet
import Derived.WideLaws
import Derived.Deep.DeepCutAuto
import Derived.Deep.CutBlock
import Derived.Deep.RegionHeld3
import Derived.Laws.Rows
import Derived.Lib.AppendStr
import Derived.ArgAppend
import Derived.Laws.IdiomCopy
import Derived.OrdersHeld
import Derived.Laws.BitsLemmas
import Derived.RowKit
import Derived.Test.YtnmcdkekflnekaaWWords
import Derived.Test.YtnmcdkekflnekaaWLast
import Derived.Test.YtnmcdkekflnekaaWTab
import Derived.Test.YtnmcdkekflnekaaWQPut
import Derived.Test.YtnmcdkekflnekaaWApart
import Derived.Test.YtnmcdkekflnekaaWArr
import Derived.Test.YtnmcdkekflnekaaWZeros
import Derived.Test.YtnmcdkekflnekaaWFoot
import Derived.Test.YtnmcdkekflnekaaWKept
import Derived.Test.YtnmcdkekflnekaaWShare
import Derived.Test.YtnmcdkekflnekaaWN
import Derived.Test.YtnmcdkekflnekaaWFootNe
import Derived.Test.YtnmcdkekflnekaaWEqStruct
import Derived.Test.YtnmcdkekflnekaaWRepsOne
import Derived.Test.YtnmcdkekflnekaaWNEv
import Derived.Test.YtnmcdkekflnekaaWMore
import Derived.Laws.IdiomStrings
/- Slices of whole numbers: what is read, and what a call has made itself. -/
namespace Go.Proofs.Ytnmcdkekflnekaa
open Go.RowKit
set_option linter.unusedVariables false
set_option linter.unusedSimpArgs false
/-- What a slice of whole numbers holds. -/
def RdI (w : World) (a : Option Addr) (xs : List Int) : Prop := ∀ j, j < xs.length → ∃ g o, a = some ⟨g, o, none⟩ ∧ w.cell? ⟨g, o + j, none⟩ = some (.int .i64 (xs.getD j 0))
theorem RdI.ext {w w' : World} {a : Option Addr} {xs : List Int} (h : RdI w a xs) (hx : Ext w w') : RdI w' a xs := by
  intro j hj
  obtain ⟨g, o, ha, hc⟩ := h j hj
  exact ⟨g, o, ha, by rw [Below.cell hx (World.block_lt_of_cell? w _ hc)]; exact hc⟩
theorem RdI.take {w : World} {a : Option Addr} {xs : List Int} (h : RdI w a xs) (n : Nat) : RdI w a (xs.take n) := by
  intro j hj
  have hl : j < xs.length := by rw [List.length_take] at hj; omega
  obtain ⟨g, o, ha, hc⟩ := h j hl
  refine ⟨g, o, ha, ?_⟩
  rw [hc]
  have : j < n := by rw [List.length_take] at hj; omega
  simp [List.getD_eq_getElem?_getD, List.getElem?_take, this]
/-- A slice of whole numbers that was made from block 'base' on. -/
def OwnI (base : Nat) (w : World) (a : Option Addr) (cap : Nat) (xs : List Int) : Prop := w.ownsRow base 3 1 (.slice a xs.length cap) xs.length (xs.map (Value.int .i64))
theorem OwnI.nil (base : Nat) (w : World) : OwnI base w none 0 [] := World.ownsRow_nil _ _ _ _
theorem OwnI.kept {base : Nat} {w w' : World} {row : Option Nat} {a : Option Addr} {cap : Nat} {xs : List Int} (h : OwnI base w a cap xs) (hg : w.grownBy w' row) (hne : ∀ g, row = some g → ∀ p, a = some p → p.block ≠ g) : OwnI base w' a cap xs := by
  refine World.ownsRow.kept h hg ?_
  cases a with
  | none => exact .inl rfl
  | some p => right; intro e; exact hne _ e.symm p rfl rfl
theorem OwnI.ext {base : Nat} {w w' : World} {a : Option Addr} {cap : Nat} {xs : List Int} (h : OwnI base w a cap xs) (hx : Ext w w') : OwnI base w' a cap xs :=
  World.ownsRow.kept h ⟨hx.os, hx.tape, hx.output, hx.size, fun k hk _ => Below.block hx k hk⟩ (row := none) (by cases a <;> simp [Value.ownBlock])
theorem OwnI.le {base base' : Nat} {w : World} {a : Option Addr} {cap : Nat} {xs : List Int} (h : OwnI base w a cap xs) (hb : base' ≤ base) : OwnI base' w a cap xs := Go.Joins.ownsRow_le h hb
theorem OwnI.rd {base : Nat} {w : World} {a : Option Addr} {cap : Nat} {xs : List Int} (h : OwnI base w a cap xs) : RdI w a xs := by
  intro j hj
  have hs := Go.Joins.ownsRow_form h (by omega)
  obtain ⟨g, c, hv⟩ := hs
  simp only [Value.slice.injEq] at hv
  obtain ⟨rfl, -, rfl⟩ := hv
  refine ⟨g, 0, rfl, ?_⟩
  rw [Nat.zero_add, World.ownsRow.cellAt h j (by omega)]
  simp [List.getD_eq_getElem?_getD, List.getElem?_map, List.getElem?_eq_getElem hj]
theorem OwnI.lt {base : Nat} {w : World} {a : Option Addr} {cap : Nat} {xs : List Int} (h : OwnI base w a cap xs) : ∀ p, a = some p → base ≤ p.block ∧ p.block < w.heap.size := by
  rintro p rfl
  exact World.ownsRow.lt h p.block rfl
theorem OwnI.lit {base : Nat} (W : World) (hb : base ≤ W.heap.size) (xs : List Int) (cs : Array Value) (hc : cs = (xs.map (Value.int .i64)).toArray) (hm : xs.length ≤ 1000) : OwnI base (W.alloc (.cells cs 3)) (some ⟨W.heap.size, 0, none⟩) xs.length xs := by
  subst hc
  have := World.ownsRow_lit (base := base) (e := 3) (size := 1) W (xs.map (Value.int .i64)).toArray xs.length hb (by unfold maxLen; omega) (by simp)
  simpa [OwnI] using this
theorem Try.infoInt : (Try.prog.info? 3).map (fun i => (i.zero, i.size, i.bytes)) = some (some (.int .i64 0), 1, 8) := by kernel_rfl
/-- 'append(l, y)' onto a slice of the call's own. -/
theorem app_i {ops : Array Oper} {rest : List Oper} {o : Oper} {act : Act} {Q : Exit → Act → World → Prop} (w0 W : World) (hgd : o.guard = none) (s x : Operand)
    (ho : o.op = .call { callee := .builtin .append, args := #[s, x], argTypes := #[59, 59] }) (a : Option Addr) (cap : Nat) (xs : List Int) (y : Int)
    (hs : act.eval s = .slice a xs.length cap) (hown : OwnI w0.heap.size W a cap xs) (he : Ext w0 W) (hx : act.eval x = .slice (some ⟨W.heap.size, 0, none⟩) 1 1) (hb : xs.length ≤ 1099511627776)
    (h : ∀ a' cap' w', OwnI w0.heap.size w' a' cap' (xs ++ [y]) → Ext w0 w' → wpList Try.prog ops Q rest (act.put o.dst (.slice a' (xs.length + 1) cap')) w') :
    wpList Try.prog ops Q (o :: rest) act (W.alloc (.cells #[.int .i64 y] 3)) := by
  obtain ⟨i0, hi, hz0, hz1, hz2⟩ := info_parts Try.infoInt
  refine wpList_append_own _ hgd s x 59 ho w0.heap.size 3 i0 (.int .i64 0) 1 8 Try.underlying59 hi hz0 hz1 hz2 rfl (by decide) _ xs.length (xs.map (Value.int .i64)) hs (hown.alloc _) ⟨W.heap.size, 0, none⟩ 1 1 [.int .i64 y] hx rfl ?_ (by simp [Value.oneCell']) (by unfold maxLen; omega) (by omega) (by have := he.size; simp; omega) ?_
  · intro j u hj
    match j, hj with
    | 0, hj =>
      simp at hj; subst hj
      have := cell_of_row (W.alloc (.cells #[.int .i64 y] 3)) W.heap.size 0 #[.int .i64 y] 3 (0, 0) (heap_alloc_new W _)
      simp [Addr.add]
  · intro v' w' hown' hg hnil
    obtain ⟨g, c, rfl⟩ := Go.Joins.ownsRow_form hown' (by omega)
    have e1 : Ext w0 w' := by
      refine Below.trans (Below.alloc he he.size (.cells #[.int .i64 y] 3)) ⟨hg.os, hg.tape, hg.output, hg.size, fun k hk => hg.block k (by have := he.size; simp; omega) ?_⟩
      intro e
      cases a with
      | none => simp [Value.ownBlock] at e
      | some p => have := hown.lt p rfl; simp [Value.ownBlock] at e; omega
    refine h (some ⟨g, 0, none⟩) c w' ?_ e1
    simpa [OwnI] using hown'

end Go.Proofs.Ytnmcdkekflnekaa
/- The contracts of the reference calamusref03, by its places. -/
namespace Go.Proofs.Ytnmcdkekflnekaa
open Go.RowKit
set_option linter.unusedVariables false
set_option linter.unusedSimpArgs false
theorem is_ext (s : ByteArray) (i n : Nat) (hn : 1 ≤ n) (hi : i + n ≤ s.size) : isL (ls (s.extract i (i + n))) = decide (szL ((ls s).drop i) = n) := by
  rw [ls_ext2, Nat.add_sub_cancel_left]
  exact is_take _ n hn (by rw [List.length_drop, ls_len]; omega)
/-- The places so far. -/
def upTo (l : List UInt8) (i : Nat) : List Int := (plcTo l i).map Int.ofNat ++ [(i : Int)]
theorem upTo_len (l : List UInt8) (i : Nat) : (upTo l i).length ≤ i + 1 := by unfold upTo; have := plcTo_len l i; simp; omega
theorem upTo_next (l : List UInt8) (i n : Nat) (hn : szL (l.drop i) = n) (h0 : n ≠ 0) : upTo l i ++ [(i : Int) + n] = upTo l (i + n) := by
  unfold upTo; rw [plcTo_add l i n hn h0]; simp
theorem upTo_end (l : List UInt8) (h : validL l = true) : upTo l l.length = splitI l := by rw [splitI_ok h]; rfl
set_option maxHeartbeats 4000000 in
set_option maxRecDepth 100000 in
theorem rsplit_c (s : ByteArray) (w : World) (hs : s.size ≤ 1099511627775) : Calls Try.prog 101 #[.string s] w fun e w' => ∃ a cap, e = .returned (.slice a (splitI (ls s)).length cap) ∧ OwnI w.heap.size w' a cap (splitI (ls s)) ∧ Ext w w' := by
  go_enter Try.func101, Try.ntmps101
  go_wp2
  go_loopw [3, 4] (fun v i wr => ∃ (k : Nat) (a : Option Addr) (cap : Nat), k ≤ s.size ∧ i = .int .i64 k ∧ v = .slice a (upTo (ls s) k).length cap ∧ OwnI w.heap.size wr a cap (upTo (ls s) k) ∧ validL ((ls s).drop k) = validL (ls s) ∧ Ext w wr) (fun _ i _ => s.size - (intOf i).toNat)
  case atStart => exact ⟨0, some ⟨w.heap.size, 0, none⟩, 1, by omega, rfl, rfl, OwnI.lit w (Nat.le_refl _) [0] _ rfl (by simp), by simp, (by (repeat (first | exact Ext.refl _ | exact ‹Ext _ _› | refine Ext.alloc ?_ _ | refine Ext.drew ?_ | refine Ext.drewN ?_ _ | (refine Ext.setCell ?_ (by first | omega | (simp; done) | (simp; omega)) _) | refine Ext.trans ?_ ‹Ext _ _›)))⟩
  case round =>
    obtain ⟨k, a, cap, hk, rfl, rfl, hown, hok, hx⟩ := hrel
    have Hok := Lib.hid hok
    have Hown := Lib.hid hown
    clear hok hown
    have hul := upTo_len (ls s) k
    by_cases hlt : k < s.size
    · obtain ⟨wo, rfl⟩ : ∃ wo : World, wo = wr := ⟨_, rfl⟩
      go_wp2
      go_loopw [5] (fun v w2 => ∃ n : Nat, 1 ≤ n ∧ n ≤ 5 ∧ v = .int .i64 n ∧ (szL ((ls s).drop k) = 0 ∨ n ≤ szL ((ls s).drop k)) ∧ Ext wo w2) (fun v _ => 5 - (intOf v).toNat)
      case atStart => exact ⟨1, by omega, by omega, rfl, by omega, (by (repeat (first | exact Ext.refl _ | exact ‹Ext _ _› | refine Ext.alloc ?_ _ | refine Ext.drew ?_ | refine Ext.drewN ?_ _ | (refine Ext.setCell ?_ (by first | omega | (simp; done) | (simp; omega)) _) | refine Ext.trans ?_ ‹Ext _ _›)))⟩
      case round =>
        obtain ⟨n, hn1, hn5, rfl, hz, hx2⟩ := hrel
        have hlu := upTo_len (ls s) k
        go_wp2_with (first | (go_at_call 126; refine (ris_c _ _).mono ?_; rintro e w1 ⟨rfl, hx1⟩) | (at_builtin; refine app_i w _ rfl _ _ rfl _ _ (upTo (ls s) k) _ rfl (Hown.out.ext (by (repeat (first | exact Ext.refl _ | exact ‹Ext _ _› | refine Ext.alloc ?_ _ | refine Ext.drew ?_ | refine Ext.drewN ?_ _ | (refine Ext.setCell ?_ (by first | omega | (simp; done) | (simp; omega)) _) | refine Ext.trans ?_ ‹Ext _ _›)))) (by (repeat (first | exact Ext.refl _ | exact ‹Ext _ _› | refine Ext.alloc ?_ _ | refine Ext.drew ?_ | refine Ext.drewN ?_ _ | (refine Ext.setCell ?_ (by first | omega | (simp; done) | (simp; omega)) _) | refine Ext.trans ?_ ‹Ext _ _›))) rfl (by omega) ?_; intro a2 cap2 w2 hown2 hx2))
        all_goals (try simp only [Bool.not_eq_true', Bool.not_eq_false'] at *)
        · go_roundw
          case rel =>
            have hi : isL (ls (s.extract k (k + n))) = false := by rename_i h; rcases h with h | h; (exfalso; omega); exact h
            rw [is_ext s k n hn1 (by omega), decide_eq_false_iff_not] at hi
            exact ⟨n + 1, by omega, by omega, by go_num, by omega, (by (repeat (first | exact Ext.refl _ | exact ‹Ext _ _› | refine Ext.alloc ?_ _ | refine Ext.drew ?_ | refine Ext.drewN ?_ _ | (refine Ext.setCell ?_ (by first | omega | (simp; done) | (simp; omega)) _) | refine Ext.trans ?_ ‹Ext _ _›)))⟩
          case measure => simp [intOf]; omega
        · have hi : isL (ls (s.extract k (k + n))) = true := by
            have h : (k : Int) + n ≤ s.size ∧ isL (ls (s.extract k (k + n))) = true := by assumption
            exact h.2
          rw [is_ext s k n hn1 (by omega), decide_eq_true_eq] at hi
          go_roundw
          case rel =>
            have hnx := upTo_next (ls s) k n hi (by omega)
            refine ⟨k + n, a2, cap2, by omega, by go_num, ?_, ?_, ?_, (by (repeat (first | exact Ext.refl _ | exact ‹Ext _ _› | refine Ext.alloc ?_ _ | refine Ext.drew ?_ | refine Ext.drewN ?_ _ | (refine Ext.setCell ?_ (by first | omega | (simp; done) | (simp; omega)) _) | refine Ext.trans ?_ ‹Ext _ _›)))⟩
            · rw [← hnx]; simp
            · rw [← hnx]; exact hown2
            · rw [← Hok.out, validL_step (l := (ls s).drop k) (by rw [List.length_drop, ls_len]; omega) (by omega), hi, List.drop_drop]
          case measure => simp [intOf]; omega
        · go_roundw
          case rel =>
            have hz2 := szL_le ((ls s).drop k)
            rw [List.length_drop, ls_len] at hz2
            exact ⟨n + 1, by omega, by omega, by go_num, by omega, (by (repeat (first | exact Ext.refl _ | exact ‹Ext _ _› | refine Ext.alloc ?_ _ | refine Ext.drew ?_ | refine Ext.drewN ?_ _ | (refine Ext.setCell ?_ (by first | omega | (simp; done) | (simp; omega)) _) | refine Ext.trans ?_ ‹Ext _ _›)))⟩
          case measure => simp [intOf]; omega
        · have hz4 := szL_hi ((ls s).drop k)
          have hv : validL (ls s) = false := by rw [← Hok.out]; exact validL_bad (by rw [List.length_drop, ls_len]; omega) (by omega)
          go_ret
          exact ⟨none, 0, by rw [splitI_bad hv]; rfl, by rw [splitI_bad hv]; exact OwnI.nil _ _, (by (repeat (first | exact Ext.refl _ | exact ‹Ext _ _› | refine Ext.alloc ?_ _ | refine Ext.drew ?_ | refine Ext.drewN ?_ _ | (refine Ext.setCell ?_ (by first | omega | (simp; done) | (simp; omega)) _) | refine Ext.trans ?_ ‹Ext _ _›)))⟩
    · have hk' : k = s.size := by omega
      subst hk'
      have hv : validL (ls s) = true := by rw [← Hok.out, ← ls_len s, List.drop_length]; exact validL_nil
      have He : Hid (upTo (ls s) s.size = splitI (ls s)) := Lib.hid (by rw [← ls_len s]; exact upTo_end _ hv)
      go_wp2
      go_ret
      exact ⟨a, cap, by first | rfl | (simp; done) | (rw [← He.out]; rfl) | (simp [He.out]; done), by rw [← He.out]; exact Hown.out, (by (repeat (first | exact Ext.refl _ | exact ‹Ext _ _› | refine Ext.alloc ?_ _ | refine Ext.drew ?_ | refine Ext.drewN ?_ _ | (refine Ext.setCell ?_ (by first | omega | (simp; done) | (simp; omega)) _) | refine Ext.trans ?_ ‹Ext _ _›)))⟩

set_option maxHeartbeats 4000000 in
set_option maxRecDepth 100000 in
theorem rfind_c (a : Option Addr) (cap : Nat) (xs : List Int) (p : Int) (w : World) (hr : RdI w a xs) (hl : xs.length ≤ 1152921504606846976) : Calls Try.prog 100 #[.slice a xs.length cap, .int .i64 p] w fun e w' => e = .returned (.int .i64 (findF xs p 0)) ∧ Ext w w' := by
  have HR := Lib.hid hr
  clear hr
  go_enter Try.func100, Try.ntmps100
  go_wp2
  go_loopw [5] (fun i wr => ∃ k : Nat, k ≤ xs.length ∧ i = .int .i64 k ∧ findF (xs.drop k) p k = findF xs p 0 ∧ Ext w wr) (fun i _ => xs.length - (intOf i).toNat)
  case atStart => exact ⟨0, by omega, rfl, by simp, (by (repeat (first | exact Ext.refl _ | exact ‹Ext _ _› | refine Ext.alloc ?_ _ | refine Ext.drew ?_ | refine Ext.drewN ?_ _ | (refine Ext.setCell ?_ (by first | omega | (simp; done) | (simp; omega)) _) | refine Ext.trans ?_ ‹Ext _ _›)))⟩
  case round =>
    obtain ⟨k, hk, rfl, hok, hx⟩ := hrel
    have Hok := Lib.hid hok
    clear hok
    by_cases hlt : k < xs.length
    · have Hs := Lib.hid (findF_step xs p k hlt)
      obtain ⟨g, o, rfl, hc⟩ := (HR.out.ext hx) k hlt
      go_wp2
      all_goals (try simp only [beq_iff_eq, beq_eq_false_iff_ne] at *)
      · go_ret
        refine ⟨ret1 ?_, (by (repeat (first | exact Ext.refl _ | exact ‹Ext _ _› | refine Ext.alloc ?_ _ | refine Ext.drew ?_ | refine Ext.drewN ?_ _ | (refine Ext.setCell ?_ (by first | omega | (simp; done) | (simp; omega)) _) | refine Ext.trans ?_ ‹Ext _ _›)))⟩
        rw [← Hok.out, Hs.out, if_pos (by assumption)]
      · go_roundw
        case rel =>
          refine ⟨k + 1, by omega, by go_num, ?_, (by (repeat (first | exact Ext.refl _ | exact ‹Ext _ _› | refine Ext.alloc ?_ _ | refine Ext.drew ?_ | refine Ext.drewN ?_ _ | (refine Ext.setCell ?_ (by first | omega | (simp; done) | (simp; omega)) _) | refine Ext.trans ?_ ‹Ext _ _›)))⟩
          rw [← Hok.out, Hs.out, if_neg (by assumption)]
        case measure => simp [intOf]; omega
    · have Hs := Lib.hid (findF_end xs p k (by omega))
      go_wp2
      go_ret
      exact ⟨ret1 (by rw [← Hok.out, Hs.out]), (by (repeat (first | exact Ext.refl _ | exact ‹Ext _ _› | refine Ext.alloc ?_ _ | refine Ext.drew ?_ | refine Ext.drewN ?_ _ | (refine Ext.setCell ?_ (by first | omega | (simp; done) | (simp; omega)) _) | refine Ext.trans ?_ ‹Ext _ _›)))⟩

set_option maxHeartbeats 4000000 in
set_option maxRecDepth 100000 in
theorem rvalid_c (s : ByteArray) (w : World) (hs : s.size ≤ 1099511627775) : Calls Try.prog 76 #[.string s] w fun e w' => e = .returned (.bool (validL (ls s))) ∧ Ext w w' := by
  have hsl := splitI_len (ls s)
  rw [ls_len] at hsl
  have Hv : Hid (decide (0 < (splitI (ls s)).length) = validL (ls s)) := Lib.hid (by
    unfold splitI plcs
    rcases Bool.eq_false_or_eq_true (validL (ls s)) with h | h <;> simp [h])
  go_enter Try.func76, Try.ntmps76
  go_wp2_with (first | (go_at_call 101; refine (rsplit_c _ _ hs).mono ?_; rintro e w1 ⟨a, cap, rfl, hown, hx1⟩))
  all_goals (go_ret; exact ⟨retb Hv.out, (by (repeat (first | exact Ext.refl _ | exact ‹Ext _ _› | refine Ext.alloc ?_ _ | refine Ext.drew ?_ | refine Ext.drewN ?_ _ | (refine Ext.setCell ?_ (by first | omega | (simp; done) | (simp; omega)) _) | refine Ext.trans ?_ ‹Ext _ _›)))⟩)

set_option maxHeartbeats 4000000 in
set_option maxRecDepth 100000 in
theorem rplace_c (s : ByteArray) (p : Int) (w : World) (hs : s.size ≤ 1099511627775) : Calls Try.prog 62 #[.string s, .int .i64 p] w fun e w' => e = .returned (.bool (placeB (ls s) p)) ∧ Ext w w' := by
  have hsl := splitI_len (ls s)
  rw [ls_len] at hsl
  have Hp := Lib.hid (place_find (ls s) p)
  go_enter Try.func62, Try.ntmps62
  go_wp2_with (first | (go_at_call 101; refine (rsplit_c _ _ hs).mono ?_; rintro e w1 ⟨a, cap, rfl, hown, hx1⟩) | (go_at_call 100; refine (rfind_c _ _ (splitI (ls s)) _ _ (OwnI.rd (by assumption)) (by omega)).mono ?_; rintro e w1 ⟨rfl, hx1⟩))
  all_goals (go_ret; exact ⟨retb Hp.out, (by (repeat (first | exact Ext.refl _ | exact ‹Ext _ _› | refine Ext.alloc ?_ _ | refine Ext.drew ?_ | refine Ext.drewN ?_ _ | (refine Ext.setCell ?_ (by first | omega | (simp; done) | (simp; omega)) _) | refine Ext.trans ?_ ‹Ext _ _›)))⟩)

end Go.Proofs.Ytnmcdkekflnekaa
/- The contracts of the reference calamusref03, from place to place. -/
namespace Go.Proofs.Ytnmcdkekflnekaa
open Go.RowKit
set_option linter.unusedVariables false
set_option linter.unusedSimpArgs false
set_option maxHeartbeats 4000000 in
set_option maxRecDepth 100000 in
theorem rnext_c (s : ByteArray) (p : Int) (w : World) (hs : s.size ≤ 1099511627775) : Calls Try.prog 66 #[.string s, .int .i64 p] w fun e w' => e = .returned (.int .i64 (nextI (ls s) p)) ∧ Ext w w' := by
  have hsl := splitI_len (ls s)
  rw [ls_len] at hsl
  rcases place_cases s p with hp | ⟨k, rfl, hk, hp, hv⟩
  · have hf := find_bad hp
    have Hn : Hid (nextI (ls s) p = -1) := Lib.hid (by unfold nextI; simp [hp])
    go_enter Try.func66, Try.ntmps66
    go_wp2_with (first | (go_at_call 101; refine (rsplit_c _ _ hs).mono ?_; rintro e w1 ⟨a, cap, rfl, hown, hx1⟩) | (go_at_call 100; refine (rfind_c _ _ (splitI (ls s)) _ _ (OwnI.rd (by assumption)) (by omega)).mono ?_; rintro e w1 ⟨rfl, hx1⟩))
    all_goals (go_ret; exact ⟨ret1 Hn.out.symm, (by (repeat (first | exact Ext.refl _ | exact ‹Ext _ _› | refine Ext.alloc ?_ _ | refine Ext.drew ?_ | refine Ext.drewN ?_ _ | (refine Ext.setCell ?_ (by first | omega | (simp; done) | (simp; omega)) _) | refine Ext.trans ?_ ‹Ext _ _›)))⟩)
  · have hf := find_at hp
    by_cases hlt : k < (ls s).length
    · obtain ⟨h1, h2⟩ := next_at hp hlt
      obtain ⟨m, hm⟩ : ∃ m, m = (plcTo (ls s) k).length := ⟨_, rfl⟩
      rw [← hm] at hf h1 h2
      have H2 := Lib.hid h2
      have h3 : ((m : Int) + 1 == ((splitI (ls s)).length : Int)) = false := by simp; omega
      clear hm h2 hp hlt
      go_enter Try.func66, Try.ntmps66
      go_wp2_with (first | (go_at_call 101; refine (rsplit_c _ _ hs).mono ?_; rintro e w1 ⟨a, cap, rfl, hown, hx1⟩) | (go_at_call 100; refine (rfind_c _ _ (splitI (ls s)) _ _ (OwnI.rd (by assumption)) (by omega)).mono ?_; rintro e w1 ⟨rfl, hx1⟩; obtain ⟨g, o, rfl, hc⟩ := (RdI.ext (OwnI.rd (by assumption)) hx1) (m + 1) h1))
      all_goals (go_ret; refine ⟨ret1 ?_, (by (repeat (first | exact Ext.refl _ | exact ‹Ext _ _› | refine Ext.alloc ?_ _ | refine Ext.drew ?_ | refine Ext.drewN ?_ _ | (refine Ext.setCell ?_ (by first | omega | (simp; done) | (simp; omega)) _) | refine Ext.trans ?_ ‹Ext _ _›)))⟩; rw [← H2.out]; simp [List.getD_eq_getElem?_getD, List.getElem?_eq_getElem h1])
    · obtain ⟨h1, h2⟩ := next_end hp (by rw [ls_len] at hlt ⊢; omega)
      obtain ⟨m, hm⟩ : ∃ m, m = (plcTo (ls s) k).length := ⟨_, rfl⟩
      rw [← hm] at hf h1
      have H2 := Lib.hid h2
      have h3 : ((m : Int) + 1 == ((splitI (ls s)).length : Int)) = true := by rw [h1]; simp
      have h4 : m + 1 ≤ (splitI (ls s)).length := by omega
      clear hm h2 hp hlt h1
      go_enter Try.func66, Try.ntmps66
      go_wp2_with (first | (go_at_call 101; refine (rsplit_c _ _ hs).mono ?_; rintro e w1 ⟨a, cap, rfl, hown, hx1⟩) | (go_at_call 100; refine (rfind_c _ _ (splitI (ls s)) _ _ (OwnI.rd (by assumption)) (by omega)).mono ?_; rintro e w1 ⟨rfl, hx1⟩))
      all_goals (go_ret; exact ⟨ret1 H2.out.symm, (by (repeat (first | exact Ext.refl _ | exact ‹Ext _ _› | refine Ext.alloc ?_ _ | refine Ext.drew ?_ | refine Ext.drewN ?_ _ | (refine Ext.setCell ?_ (by first | omega | (simp; done) | (simp; omega)) _) | refine Ext.trans ?_ ‹Ext _ _›)))⟩)

set_option maxHeartbeats 4000000 in
set_option maxRecDepth 100000 in
theorem rprev_c (s : ByteArray) (p : Int) (w : World) (hs : s.size ≤ 1099511627775) : Calls Try.prog 81 #[.string s, .int .i64 p] w fun e w' => e = .returned (.int .i64 (prevI (ls s) p)) ∧ Ext w w' := by
  have hsl := splitI_len (ls s)
  rw [ls_len] at hsl
  rcases place_cases s p with hp | ⟨k, rfl, hk, hp, hv⟩
  · have hf := find_bad hp
    have Hn : Hid (prevI (ls s) p = -1) := Lib.hid (by unfold prevI; simp [hp])
    go_enter Try.func81, Try.ntmps81
    go_wp2_with (first | (go_at_call 101; refine (rsplit_c _ _ hs).mono ?_; rintro e w1 ⟨a, cap, rfl, hown, hx1⟩) | (go_at_call 100; refine (rfind_c _ _ (splitI (ls s)) _ _ (OwnI.rd (by assumption)) (by omega)).mono ?_; rintro e w1 ⟨rfl, hx1⟩))
    all_goals (go_ret; exact ⟨ret1 Hn.out.symm, (by (repeat (first | exact Ext.refl _ | exact ‹Ext _ _› | refine Ext.alloc ?_ _ | refine Ext.drew ?_ | refine Ext.drewN ?_ _ | (refine Ext.setCell ?_ (by first | omega | (simp; done) | (simp; omega)) _) | refine Ext.trans ?_ ‹Ext _ _›)))⟩)
  · have hf := find_at hp
    by_cases hlt : 0 < k
    · obtain ⟨h1, h2, h3⟩ := prev_at hp hlt
      obtain ⟨m, hm⟩ : ∃ m, m + 1 = (plcTo (ls s) k).length := ⟨(plcTo (ls s) k).length - 1, by omega⟩
      rw [← hm] at hf h1 h2 h3
      simp only [Nat.add_sub_cancel] at h2 h3
      have H2 := Lib.hid h2
      clear hm h2 hp hlt h1
      go_enter Try.func81, Try.ntmps81
      go_wp2_with (first | (go_at_call 101; refine (rsplit_c _ _ hs).mono ?_; rintro e w1 ⟨a, cap, rfl, hown, hx1⟩) | (go_at_call 100; refine (rfind_c _ _ (splitI (ls s)) _ _ (OwnI.rd (by assumption)) (by omega)).mono ?_; rintro e w1 ⟨rfl, hx1⟩; obtain ⟨g, o, rfl, hc⟩ := (RdI.ext (OwnI.rd (by assumption)) hx1) m h3))
      all_goals (go_ret; refine ⟨ret1 ?_, (by (repeat (first | exact Ext.refl _ | exact ‹Ext _ _› | refine Ext.alloc ?_ _ | refine Ext.drew ?_ | refine Ext.drewN ?_ _ | (refine Ext.setCell ?_ (by first | omega | (simp; done) | (simp; omega)) _) | refine Ext.trans ?_ ‹Ext _ _›)))⟩; rw [← H2.out]; simp [List.getD_eq_getElem?_getD, List.getElem?_eq_getElem h3])
    · have hk0 : k = 0 := by omega
      subst hk0
      have e0 : ((0 : Nat) : Int) = 0 := rfl
      have Hn : Hid (prevI (ls s) 0 = -1) := Lib.hid (prev_zero _ rfl).1
      have hz : (plcTo (ls s) 0).length = 0 := by simp [plcTo]
      rw [hz, e0] at hf
      rw [e0]
      clear hz hp hlt e0
      go_enter Try.func81, Try.ntmps81
      go_wp2_with (first | (go_at_call 101; refine (rsplit_c _ _ hs).mono ?_; rintro e w1 ⟨a, cap, rfl, hown, hx1⟩) | (go_at_call 100; refine (rfind_c _ _ (splitI (ls s)) _ _ (OwnI.rd (by assumption)) (by omega)).mono ?_; rintro e w1 ⟨rfl, hx1⟩))
      all_goals (go_ret; exact ⟨ret1 Hn.out.symm, (by (repeat (first | exact Ext.refl _ | exact ‹Ext _ _› | refine Ext.alloc ?_ _ | refine Ext.drew ?_ | refine Ext.drewN ?_ _ | (refine Ext.setCell ?_ (by first | omega | (simp; done) | (simp; omega)) _) | refine Ext.trans ?_ ‹Ext _ _›)))⟩)

set_option maxHeartbeats 4000000 in
set_option maxRecDepth 100000 in
theorem rrune_c (s : ByteArray) (p : Int) (w : World) (hs : s.size ≤ 1099511627775) : Calls Try.prog 118 #[.string s, .int .i64 p] w fun e w' => e = .returned (.string ⟨(runeL (ls s) p).toArray⟩) ∧ Ext w w' := by
  by_cases hn : nextI (ls s) p < 0
  · have Hr := Lib.hid (rune_bad hn)
    go_enter Try.func118, Try.ntmps118
    go_wp2_with (first | (go_at_call 66; refine (rnext_c _ _ _ hs).mono ?_; rintro e w1 ⟨rfl, hx1⟩))
    go_ret
    exact ⟨by rw [Hr.out]; rfl, (by (repeat (first | exact Ext.refl _ | exact ‹Ext _ _› | refine Ext.alloc ?_ _ | refine Ext.drew ?_ | refine Ext.drewN ?_ _ | (refine Ext.setCell ?_ (by first | omega | (simp; done) | (simp; omega)) _) | refine Ext.trans ?_ ‹Ext _ _›)))⟩
  · have h0 : 0 ≤ nextI (ls s) p := by omega
    obtain ⟨k, n, rfl, h1, h2, h3, h4⟩ := rune_ok s p h0
    have H4 := Lib.hid h4
    clear hn h0 h4
    go_enter Try.func118, Try.ntmps118
    go_wp2_with (first | (go_at_call 66; refine (rnext_c _ _ _ hs).mono ?_; rintro e w1 ⟨rfl, hx1⟩))
    go_ret
    exact ⟨rets H4.out.symm, (by (repeat (first | exact Ext.refl _ | exact ‹Ext _ _› | refine Ext.alloc ?_ _ | refine Ext.drew ?_ | refine Ext.drewN ?_ _ | (refine Ext.setCell ?_ (by first | omega | (simp; done) | (simp; omega)) _) | refine Ext.trans ?_ ‹Ext _ _›)))⟩

set_option maxHeartbeats 4000000 in
set_option maxRecDepth 100000 in
theorem rcount_c (s : ByteArray) (w : World) (hs : s.size ≤ 1099511627775) : Calls Try.prog 119 #[.string s] w fun e w' => e = .returned (.int .i64 (countI (ls s))) ∧ Ext w w' := by
  have hsl := splitI_len (ls s)
  rw [ls_len] at hsl
  have Hc := Lib.hid (split_count (ls s))
  go_enter Try.func119, Try.ntmps119
  go_wp2_with (first | (go_at_call 101; refine (rsplit_c _ _ hs).mono ?_; rintro e w1 ⟨a, cap, rfl, hown, hx1⟩))
  all_goals (try simp only [beq_iff_eq, beq_eq_false_iff_ne] at *)
  all_goals (go_ret; refine ⟨ret1 ?_, (by (repeat (first | exact Ext.refl _ | exact ‹Ext _ _› | refine Ext.alloc ?_ _ | refine Ext.drew ?_ | refine Ext.drewN ?_ _ | (refine Ext.setCell ?_ (by first | omega | (simp; done) | (simp; omega)) _) | refine Ext.trans ?_ ‹Ext _ _›)))⟩; rw [← Hc.out])
  · rw [if_pos (by omega)]
  · rw [if_neg (by omega)]

end Go.Proofs.Ytnmcdkekflnekaa
/- The contracts of the packages utf, calamusref03 and class in the printer's form. -/
namespace Go.Proofs.Ytnmcdkekflnekaa
open Go.RowKit
set_option linter.unusedVariables false
set_option linter.unusedSimpArgs false
def utf_Valid.f (a0 : ByteArray) : Option (Bool) := if a0.size ≤ 1099511627775 then some (validL (ls a0)) else none
theorem utf_Valid.eq (a0 : ByteArray) (hg : a0.size ≤ 1099511627775) : utf_Valid.f a0 = some (validL (ls a0)) := if_pos hg
theorem utf_Valid.calls (a0 : ByteArray) (r : Bool) (w : World) (h : utf_Valid.f a0 = some r) : Calls Try.prog 51 #[.string a0] w fun e w' => e = .returned (.bool r) ∧ Below w.heap.size w w' := by
  unfold utf_Valid.f at h
  split at h
  · cases h; exact valid_c a0 w (by omega)
  · cases h
def utf_inner.f (a0 : Int) : Option (Bool) := if 0 ≤ a0 ∧ a0 ≤ 255 then some (inn a0) else none
theorem utf_inner.eq (a0 : Int) (hg : 0 ≤ a0 ∧ a0 ≤ 255) : utf_inner.f a0 = some (inn a0) := if_pos hg
theorem utf_inner.calls (a0 : Int) (r : Bool) (w : World) (h : utf_inner.f a0 = some r) : Calls Try.prog 52 #[.int .u8 a0] w fun e w' => e = .returned (.bool r) ∧ Below w.heap.size w w' := by
  unfold utf_inner.f at h
  split at h
  · cases h; exact inner_c a0 (by omega) (by omega) w
  · cases h
def utf_Place.f (a0 : ByteArray) (a1 : Int) : Option (Bool) := if a0.size ≤ 1099511627775 then some (placeB (ls a0) a1) else none
theorem utf_Place.eq (a0 : ByteArray) (a1 : Int) (hg : a0.size ≤ 1099511627775) : utf_Place.f a0 a1 = some (placeB (ls a0) a1) := if_pos hg
theorem utf_Place.calls (a0 : ByteArray) (a1 : Int) (r : Bool) (w : World) (h : utf_Place.f a0 a1 = some r) : Calls Try.prog 45 #[.string a0, .int .i64 a1] w fun e w' => e = .returned (.bool r) ∧ Below w.heap.size w w' := by
  unfold utf_Place.f at h
  split at h
  · cases h; exact place_c a0 a1 w (by omega)
  · cases h
def utf_Next.f (a0 : ByteArray) (a1 : Int) : Option (Int) := if a0.size ≤ 1099511627775 then some (nextI (ls a0) a1) else none
theorem utf_Next.eq (a0 : ByteArray) (a1 : Int) (hg : a0.size ≤ 1099511627775) : utf_Next.f a0 a1 = some (nextI (ls a0) a1) := if_pos hg
theorem utf_Next.calls (a0 : ByteArray) (a1 : Int) (r : Int) (w : World) (h : utf_Next.f a0 a1 = some r) : Calls Try.prog 56 #[.string a0, .int .i64 a1] w fun e w' => e = .returned (.int .i64 r) ∧ Below w.heap.size w w' := by
  unfold utf_Next.f at h
  split at h
  · cases h; exact next_c a0 a1 w (by omega)
  · cases h
def utf_Prev.f (a0 : ByteArray) (a1 : Int) : Option (Int) := if a0.size ≤ 1099511627775 then some (prevI (ls a0) a1) else none
theorem utf_Prev.eq (a0 : ByteArray) (a1 : Int) (hg : a0.size ≤ 1099511627775) : utf_Prev.f a0 a1 = some (prevI (ls a0) a1) := if_pos hg
theorem utf_Prev.calls (a0 : ByteArray) (a1 : Int) (r : Int) (w : World) (h : utf_Prev.f a0 a1 = some r) : Calls Try.prog 55 #[.string a0, .int .i64 a1] w fun e w' => e = .returned (.int .i64 r) ∧ Below w.heap.size w w' := by
  unfold utf_Prev.f at h
  split at h
  · cases h; exact prev_c a0 a1 w (by omega)
  · cases h
def utf_Count.f (a0 : ByteArray) : Option (Int) := if a0.size ≤ 1099511627775 then some (countI (ls a0)) else none
theorem utf_Count.eq (a0 : ByteArray) (hg : a0.size ≤ 1099511627775) : utf_Count.f a0 = some (countI (ls a0)) := if_pos hg
theorem utf_Count.calls (a0 : ByteArray) (r : Int) (w : World) (h : utf_Count.f a0 = some r) : Calls Try.prog 16 #[.string a0] w fun e w' => e = .returned (.int .i64 r) ∧ Below w.heap.size w w' := by
  unfold utf_Count.f at h
  split at h
  · cases h; exact count_c a0 w (by omega)
  · cases h
def calamusref03_Valid.f (a0 : ByteArray) : Option (Bool) := if a0.size ≤ 1099511627775 then some (validL (ls a0)) else none
theorem calamusref03_Valid.eq (a0 : ByteArray) (hg : a0.size ≤ 1099511627775) : calamusref03_Valid.f a0 = some (validL (ls a0)) := if_pos hg
theorem calamusref03_Valid.calls (a0 : ByteArray) (r : Bool) (w : World) (h : calamusref03_Valid.f a0 = some r) : Calls Try.prog 76 #[.string a0] w fun e w' => e = .returned (.bool r) ∧ Below w.heap.size w w' := by
  unfold calamusref03_Valid.f at h
  split at h
  · cases h; exact rvalid_c a0 w (by omega)
  · cases h
def calamusref03_Place.f (a0 : ByteArray) (a1 : Int) : Option (Bool) := if a0.size ≤ 1099511627775 then some (placeB (ls a0) a1) else none
theorem calamusref03_Place.eq (a0 : ByteArray) (a1 : Int) (hg : a0.size ≤ 1099511627775) : calamusref03_Place.f a0 a1 = some (placeB (ls a0) a1) := if_pos hg
theorem calamusref03_Place.calls (a0 : ByteArray) (a1 : Int) (r : Bool) (w : World) (h : calamusref03_Place.f a0 a1 = some r) : Calls Try.prog 62 #[.string a0, .int .i64 a1] w fun e w' => e = .returned (.bool r) ∧ Below w.heap.size w w' := by
  unfold calamusref03_Place.f at h
  split at h
  · cases h; exact rplace_c a0 a1 w (by omega)
  · cases h
def calamusref03_Next.f (a0 : ByteArray) (a1 : Int) : Option (Int) := if a0.size ≤ 1099511627775 then some (nextI (ls a0) a1) else none
theorem calamusref03_Next.eq (a0 : ByteArray) (a1 : Int) (hg : a0.size ≤ 1099511627775) : calamusref03_Next.f a0 a1 = some (nextI (ls a0) a1) := if_pos hg
theorem calamusref03_Next.calls (a0 : ByteArray) (a1 : Int) (r : Int) (w : World) (h : calamusref03_Next.f a0 a1 = some r) : Calls Try.prog 66 #[.string a0, .int .i64 a1] w fun e w' => e = .returned (.int .i64 r) ∧ Below w.heap.size w w' := by
  unfold calamusref03_Next.f at h
  split at h
  · cases h; exact rnext_c a0 a1 w (by omega)
  · cases h
def calamusref03_Prev.f (a0 : ByteArray) (a1 : Int) : Option (Int) := if a0.size ≤ 1099511627775 then some (prevI (ls a0) a1) else none
theorem calamusref03_Prev.eq (a0 : ByteArray) (a1 : Int) (hg : a0.size ≤ 1099511627775) : calamusref03_Prev.f a0 a1 = some (prevI (ls a0) a1) := if_pos hg
theorem calamusref03_Prev.calls (a0 : ByteArray) (a1 : Int) (r : Int) (w : World) (h : calamusref03_Prev.f a0 a1 = some r) : Calls Try.prog 81 #[.string a0, .int .i64 a1] w fun e w' => e = .returned (.int .i64 r) ∧ Below w.heap.size w w' := by
  unfold calamusref03_Prev.f at h
  split at h
  · cases h; exact rprev_c a0 a1 w (by omega)
  · cases h
def calamusref03_Rune.f (a0 : ByteArray) (a1 : Int) : Option (ByteArray) := if a0.size ≤ 1099511627775 then some (⟨(runeL (ls a0) a1).toArray⟩) else none
theorem calamusref03_Rune.eq (a0 : ByteArray) (a1 : Int) (hg : a0.size ≤ 1099511627775) : calamusref03_Rune.f a0 a1 = some (⟨(runeL (ls a0) a1).toArray⟩) := if_pos hg
theorem calamusref03_Rune.calls (a0 : ByteArray) (a1 : Int) (r : ByteArray) (w : World) (h : calamusref03_Rune.f a0 a1 = some r) : Calls Try.prog 118 #[.string a0, .int .i64 a1] w fun e w' => e = .returned (.string r) ∧ Below w.heap.size w w' := by
  unfold calamusref03_Rune.f at h
  split at h
  · cases h; exact rrune_c a0 a1 w (by omega)
  · cases h
def calamusref03_Count.f (a0 : ByteArray) : Option (Int) := if a0.size ≤ 1099511627775 then some (countI (ls a0)) else none
theorem calamusref03_Count.eq (a0 : ByteArray) (hg : a0.size ≤ 1099511627775) : calamusref03_Count.f a0 = some (countI (ls a0)) := if_pos hg
theorem calamusref03_Count.calls (a0 : ByteArray) (r : Int) (w : World) (h : calamusref03_Count.f a0 = some r) : Calls Try.prog 119 #[.string a0] w fun e w' => e = .returned (.int .i64 r) ∧ Below w.heap.size w w' := by
  unfold calamusref03_Count.f at h
  split at h
  · cases h; exact rcount_c a0 w (by omega)
  · cases h
end Go.Proofs.Ytnmcdkekflnekaa
/- strings.Repeat in the printer's form. -/
namespace Go.Proofs.Ytnmcdkekflnekaa
open Go.RowKit
set_option linter.unusedVariables false
set_option linter.unusedSimpArgs false
def repS (s : ByteArray) (n : Int) : ByteArray := ⟨(Lib.repeatL s.data.toList n.toNat).toArray⟩
set_option maxHeartbeats 4000000 in
set_option maxRecDepth 100000 in
theorem rep_c (s : ByteArray) (n : Int) (w : World) (h0 : 0 ≤ n) (h1 : n ≤ 4611686018427387904) (h2 : s.size * n.toNat ≤ 140737488355328) :
    Calls Try.prog 77 #[.string s, .int .i64 n] w fun e w' => e = .returned (.string (repS s n)) ∧ Ext w w' := by
  obtain ⟨c, rfl⟩ : ∃ c : Nat, n = c := ⟨n.toNat, by omega⟩
  rw [Int.toNat_natCast] at h2
  unfold repS
  rw [Int.toNat_natCast]
  rcases Nat.lt_or_ge c 2 with hc | hc
  · rcases Nat.lt_or_ge c 1 with hd | hd
    · obtain rfl : c = 0 := by omega
      refine (Try.strings_Repeat_zero s w).mono ?_
      rintro e w' ⟨rfl, rfl⟩
      exact ⟨rfl, Ext.refl _⟩
    · obtain rfl : c = 1 := by omega
      refine (Try.strings_Repeat_one s w).mono ?_
      rintro e w' ⟨rfl, rfl⟩
      exact ⟨by simp [Lib.repeatL], Ext.refl _⟩
  · by_cases hz : s.size = 0
    · refine (Try.strings_Repeat_empty s c w hc (by omega) hz).mono ?_
      rintro e w' ⟨rfl, rfl⟩
      have he : s.data.toList = [] := by
        exact List.eq_nil_of_length_eq_zero (by rw [Array.length_toList]; exact hz)
      refine ⟨?_, Ext.refl _⟩
      rw [he]
      have : ∀ n, Lib.repeatL ([] : List UInt8) n = [] := fun n => by induction n <;> simp_all [Lib.repeatL]
      rw [this]
    · exact Try.strings_Repeat_main s c w hc (by omega) h2 (by omega)
def strings_Repeat.f (a0 : ByteArray) (a1 : Int) : Option (ByteArray) := if 0 ≤ a1 ∧ a1 ≤ 4611686018427387904 ∧ a0.size * a1.toNat ≤ 140737488355328 then some (repS a0 a1) else none
theorem strings_Repeat.eq (a0 : ByteArray) (a1 : Int) (hg : 0 ≤ a1 ∧ a1 ≤ 4611686018427387904 ∧ a0.size * a1.toNat ≤ 140737488355328) : strings_Repeat.f a0 a1 = some (repS a0 a1) := if_pos hg
theorem strings_Repeat.calls (a0 : ByteArray) (a1 : Int) (r : ByteArray) (w : World) (h : strings_Repeat.f a0 a1 = some r) : Calls Try.prog 77 #[.string a0, .int .i64 a1] w fun e w' => e = .returned (.string r) ∧ Below w.heap.size w w' := by
  unfold strings_Repeat.f at h
  split at h
  · cases h; exact (by rename_i hg; exact rep_c a0 a1 w hg.1 hg.2.1 hg.2.2)
  · cases h
end Go.Proofs.Ytnmcdkekflnekaa
-- Printed by this work's xp.py out of the translation. Lean checks it.
namespace Go.Proofs.Ytnmcdkekflnekaa.QE
open Go.RowKit Go.Proofs.YtnmcdkekflnekaaW.PrintWords Go.Proofs.YtnmcdkekflnekaaW.PrintLast Go.Proofs.YtnmcdkekflnekaaW.PrintMore
attribute [local go_sem] max2_int min2_int max_two min_two max_three min_three max_four min_four   -- for this text's walks alone
set_option linter.unusedVariables false
set_option linter.unusedSimpArgs false



def errW : Option Int → Value
  | none => .nilIface
  | some c => .iface 0 (.int .i64 c)
theorem errW_none : errW none = .nilIface := rfl
theorem errW_some (c : Int) : errW (some c) = .iface 0 (.int .i64 c) := rfl

-- the values' own types

end Go.Proofs.Ytnmcdkekflnekaa.QE
-- Printed by this work's xp.py out of the translation. Lean checks it.
namespace Go.Proofs.Ytnmcdkekflnekaa.QE
open Go.RowKit Go.Proofs.YtnmcdkekflnekaaW.PrintWords Go.Proofs.YtnmcdkekflnekaaW.PrintLast Go.Proofs.YtnmcdkekflnekaaW.PrintMore
attribute [local go_sem] max2_int min2_int max_two min_two max_three min_three max_four min_four   -- for this text's walks alone
set_option linter.unusedVariables false
set_option linter.unusedSimpArgs false



/-! ### calamuslaw25_lives -/
def calamuslaw25_lives.f  : Option (Bool) := (entry_Chop.f (⟨#[97, 98, 32, 32, 99, 100, 32]⟩ : ByteArray) 7 0).bind fun bt101 => (if bt101.1.toList = ([97, 98, 32, 32] : List UInt8) then (if bt101.2.1 = 4 then (some (bt101.2.2 == 0)) else (some false)) else (some false))
set_option maxHeartbeats 8000000 in
set_option maxRecDepth 100000 in
theorem calamuslaw25_lives.calls  (r : Bool) (w : World) (h : calamuslaw25_lives.f  = some r) :
    Calls Try.prog 14 #[] w fun e w' => e = .returned (.bool r) ∧ Below w.heap.size w w' := by
  have HB := Aside0.mk (Below.refl w.heap.size w)
  have H : ((entry_Chop.f (⟨#[97, 98, 32, 32, 99, 100, 32]⟩ : ByteArray) 7 0).bind fun bt101 => (if bt101.1.toList = ([97, 98, 32, 32] : List UInt8) then (if bt101.2.1 = 4 then (some (bt101.2.2 == 0)) else (some false)) else (some false))) = some r := h
  clear h
  replace H := Option.bind_eq_some_iff.mp H
  obtain ⟨⟨t101, t102, t103⟩, A10, H⟩ := H
  replace H : (if t101.toList = ([97, 98, 32, 32] : List UInt8) then (if t102 = 4 then (some (t103 == 0)) else (some false)) else (some false)) = some r := H
  have A1 := Aside0.mk A10
  clear A10
  by_cases c2 : t101.toList = ([97, 98, 32, 32] : List UInt8)
  · rw [if_pos c2] at H
    have c2b0 : (t101.toList == ([97, 98, 32, 32] : List UInt8)) = true := beq_iff_eq.mpr c2
    have c2b1 : (t101.toList != ([97, 98, 32, 32] : List UInt8)) = false := bne_eq_false_iff_eq.mpr c2
    clear c2
    by_cases c3 : t102 = 4
    · rw [if_pos c3] at H
      have c3b0 : (t102 == 4) = true := beq_iff_eq.mpr c3
      have c3b1 : (t102 != 4) = false := bne_eq_false_iff_eq.mpr c3
      clear c3
      obtain rfl := Option.some.inj H
      go_enter Try.func14, Try.ntmps14
      go_wp2_with (first | ((with_reducible refine gate_callee (f := 39) rfl ?_); refine goesL_ (some 5) rfl rfl Try.func39 (by kernel_rfl) rfl #[.string (⟨#[97, 98, 32, 32, 99, 100, 32]⟩ : ByteArray), .int .i64 7, .int .i64 0] rfl (by (try simp only [List.map_toArray, List.map_cons, List.map_nil]); first | done | rfl | (simp only [List.length_drop, List.length_take]; rfl)) ?_; (with_reducible refine (entry_Chop.calls (⟨#[97, 98, 32, 32, 99, 100, 32]⟩ : ByteArray) 7 0 t101 t102 t103 _ A1.out).mono ?_); rintro e w4 ⟨rfl, hb⟩; refine ⟨_, rfl, ?_⟩; have n0_ := Aside0.mk (below_step (by repeat (first | (with_reducible first | exact HB.out | apply below_alloc | apply pw_below_drewN | apply below_drew1) | exact HB.out)) hb); clear HB; have HB := n0_; clear n0_; (try clear hb); (try clear hb2); (try clear hk); (try clear hi)))
      go_ret
      exact ⟨by first | rfl | (simp [errW_none, errW_some] <;> rfl) | (simp [*, errW_none, errW_some] <;> rfl), by repeat (first | (with_reducible first | exact HB.out | apply below_alloc | apply pw_below_drewN | apply below_drew1) | exact HB.out)⟩
    · rw [if_neg c3] at H
      have c3b0 : (t102 == 4) = false := beq_eq_false_iff_ne.mpr c3
      have c3b1 : (t102 != 4) = true := bne_iff_ne.mpr c3
      obtain rfl := Option.some.inj H
      go_enter Try.func14, Try.ntmps14
      go_wp2_with (first | ((with_reducible refine gate_callee (f := 39) rfl ?_); refine goesL_ (some 5) rfl rfl Try.func39 (by kernel_rfl) rfl #[.string (⟨#[97, 98, 32, 32, 99, 100, 32]⟩ : ByteArray), .int .i64 7, .int .i64 0] rfl (by (try simp only [List.map_toArray, List.map_cons, List.map_nil]); first | done | rfl | (simp only [List.length_drop, List.length_take]; rfl)) ?_; (with_reducible refine (entry_Chop.calls (⟨#[97, 98, 32, 32, 99, 100, 32]⟩ : ByteArray) 7 0 t101 t102 t103 _ A1.out).mono ?_); rintro e w5 ⟨rfl, hb⟩; refine ⟨_, rfl, ?_⟩; have n0_ := Aside0.mk (below_step (by repeat (first | (with_reducible first | exact HB.out | apply below_alloc | apply pw_below_drewN | apply below_drew1) | exact HB.out)) hb); clear HB; have HB := n0_; clear n0_; (try clear hb); (try clear hb2); (try clear hk); (try clear hi)))
      go_ret
      exact ⟨by first | rfl | (simp [errW_none, errW_some] <;> rfl) | (simp [*, errW_none, errW_some] <;> rfl), by repeat (first | (with_reducible first | exact HB.out | apply below_alloc | apply pw_below_drewN | apply below_drew1) | exact HB.out)⟩
  · rw [if_neg c2] at H
    have c2b0 : (t101.toList == ([97, 98, 32, 32] : List UInt8)) = false := beq_eq_false_iff_ne.mpr c2
    have c2b1 : (t101.toList != ([97, 98, 32, 32] : List UInt8)) = true := bne_iff_ne.mpr c2
    obtain rfl := Option.some.inj H
    go_enter Try.func14, Try.ntmps14
    go_wp2_with (first | ((with_reducible refine gate_callee (f := 39) rfl ?_); refine goesL_ (some 5) rfl rfl Try.func39 (by kernel_rfl) rfl #[.string (⟨#[97, 98, 32, 32, 99, 100, 32]⟩ : ByteArray), .int .i64 7, .int .i64 0] rfl (by (try simp only [List.map_toArray, List.map_cons, List.map_nil]); first | done | rfl | (simp only [List.length_drop, List.length_take]; rfl)) ?_; (with_reducible refine (entry_Chop.calls (⟨#[97, 98, 32, 32, 99, 100, 32]⟩ : ByteArray) 7 0 t101 t102 t103 _ A1.out).mono ?_); rintro e w6 ⟨rfl, hb⟩; refine ⟨_, rfl, ?_⟩; have n0_ := Aside0.mk (below_step (by repeat (first | (with_reducible first | exact HB.out | apply below_alloc | apply pw_below_drewN | apply below_drew1) | exact HB.out)) hb); clear HB; have HB := n0_; clear n0_; (try clear hb); (try clear hb2); (try clear hk); (try clear hi)))
    go_ret
    exact ⟨by first | rfl | (simp [errW_none, errW_some] <;> rfl) | (simp [*, errW_none, errW_some] <;> rfl), by repeat (first | (with_reducible first | exact HB.out | apply below_alloc | apply pw_below_drewN | apply below_drew1) | exact HB.out)⟩



/-! ### entry_Type -/
def entry_Type.j0 : Nat → ByteArray → Int → ByteArray → Bool → Option (ByteArray × Int × Int)
  | 0, _, _, _, _ => none
  | k + 1, x0, x1, x2, x17 => if x17 = true then (some ((⟨#[]⟩ : ByteArray), 0, 1)) else (if (wrap64 ((x0.size : Int) + (x2.size : Int))) > 4096 then (some ((⟨#[]⟩ : ByteArray), 0, 8)) else (if 0 ≤ x1 then (if x1 ≤ (x0.size : Int) then (if (x0.extract 0 (x1 : Int).toNat).size + x2.size ≤ 9223372036854775807 then (if ((x0.extract 0 (x1 : Int).toNat) ++ x2).size + (x0.extract (x1 : Int).toNat x0.size).size ≤ 9223372036854775807 then (some (((x0.extract 0 (x1 : Int).toNat) ++ x2) ++ (x0.extract (x1 : Int).toNat x0.size), wrap64 (x1 + (x2.size : Int)), 0)) else (none)) else (none)) else (none)) else (none)))
def entry_Type.f (k : Nat) (a0 : ByteArray) (a1 : Int) (a2 : ByteArray) : Option (ByteArray × Int × Int) := (utf_Place.f a0 a1).bind fun t104 => (if t104 = true then ((utf_Valid.f a2).bind fun t105 => (entry_Type.j0 k a0 a1 a2 (!t105))) else (entry_Type.j0 k a0 a1 a2 true))
theorem entry_Type.mono_l : ∀ k, (∀ y0 y1 y2 y3, LeO (entry_Type.j0 k y0 y1 y2 y3) (entry_Type.j0 (k + 1) y0 y1 y2 y3))
  | 0 => fun _ _ _ _ r h => by simp [entry_Type.j0] at h
  | k + 1 => by
    have ih0 := entry_Type.mono_l k
    · intro y0 y1 y2 y3
      unfold entry_Type.j0
      repeat' first
      | (with_reducible exact ih0 _ _ _ _)
      | (with_reducible exact LeO.refl _)
      | (with_reducible exact LeO.none _)
      | (with_reducible refine LeO.ite ?_ ?_)
      | (with_reducible refine LeO.bind ?_ (fun _ => ?_))
      | exact ih0 _ _ _ _
      | exact LeO.none _
      | refine LeO.ite ?_ ?_
      | refine LeO.bind ?_ (fun _ => ?_)
theorem entry_Type.mono : ∀ a0 a1 a2 k, LeO (entry_Type.f k a0 a1 a2) (entry_Type.f (k + 1) a0 a1 a2) := by
  intro a0 a1 a2 k
  have ih0 := entry_Type.mono_l k
  unfold entry_Type.f
  repeat' first
      | (with_reducible exact ih0 _ _ _ _)
      | (with_reducible exact LeO.refl _)
      | (with_reducible exact LeO.none _)
      | (with_reducible refine LeO.ite ?_ ?_)
      | (with_reducible refine LeO.bind ?_ (fun _ => ?_))
      | exact ih0 _ _ _ _
      | exact LeO.none _
      | refine LeO.ite ?_ ?_
      | refine LeO.bind ?_ (fun _ => ?_)
set_option maxHeartbeats 8000000 in
set_option maxRecDepth 100000 in
theorem entry_Type.calls (k : Nat) (a0 : ByteArray) (a1 : Int) (a2 : ByteArray) (r1 : ByteArray) (r2 : Int) (r3 : Int) (w : World) (h : entry_Type.f k a0 a1 a2 = some (r1, r2, r3)) :
    Calls Try.prog 15 #[.string a0, .int .i64 a1, .string a2] w fun e w' => e = .returned (.tuple #[.string r1, .int .i64 r2, .int .i64 r3]) ∧ Below w.heap.size w w' := by
  have HB := Aside0.mk (Below.refl w.heap.size w)
  have H : ((utf_Place.f a0 a1).bind fun t104 => (if t104 = true then ((utf_Valid.f a2).bind fun t105 => (entry_Type.j0 k a0 a1 a2 (!t105))) else (entry_Type.j0 k a0 a1 a2 true))) = some (r1, r2, r3) := h
  clear h
  have HC4 := Aside0.mk H
  clear H
  go_enter Try.func15, Try.ntmps15
  go_upto_region 1 with (fail)
  repeat (go_quiet (fail); go_upto_region 1 with (fail))
  go_cut [17] (fun v17 wc => ∃ (kq : Nat) (x17_3 : Bool), v17 = .bool x17_3 ∧ Aside0 (entry_Type.j0 kq a0 a1 a2 x17_3 = some (r1, r2, r3)) ∧ Aside0 (kq ≤ k) ∧ Aside0 (Below w.heap.size w wc))
  case first =>
    have H := HC4.out
    clear HC4
    replace H := Option.bind_eq_some_iff.mp H
    obtain ⟨t104, A50, H⟩ := H
    replace H : (if t104 = true then ((utf_Valid.f a2).bind fun t105 => (entry_Type.j0 k a0 a1 a2 (!t105))) else (entry_Type.j0 k a0 a1 a2 true)) = some (r1, r2, r3) := H
    have A5 := Aside0.mk A50
    clear A50
    by_cases c6 : t104 = true
    · subst c6
      have H1 : ((utf_Valid.f a2).bind fun t105 => (entry_Type.j0 k a0 a1 a2 (!t105))) = some (r1, r2, r3) := by rw [if_pos rfl] at H; exact H
      clear H
      have H := H1
      clear H1
      replace H := Option.bind_eq_some_iff.mp H
      obtain ⟨t105, A70, H⟩ := H
      replace H : (entry_Type.j0 k a0 a1 a2 (!t105)) = some (r1, r2, r3) := H
      have A7 := Aside0.mk A70
      clear A70
      have H' := Aside0.mk H
      clear H
      go_wp2_with (first | (go_at_call 45; (with_reducible refine (utf_Place.calls a0 a1 true _ A5.out).mono ?_); rintro e w8 ⟨rfl, hb⟩; have n0_ := Aside0.mk (below_step (by repeat (first | (with_reducible first | exact HB.out | apply below_alloc | apply pw_below_drewN | apply below_drew1) | exact HB.out)) hb); clear HB; have HB := n0_; clear n0_; (try clear hb); (try clear hb2); (try clear hk); (try clear hi)) | (go_at_call 51; (with_reducible refine (utf_Valid.calls a2 t105 _ A7.out).mono ?_); rintro e w9 ⟨rfl, hb⟩; have n0_ := Aside0.mk (below_step (by repeat (first | (with_reducible first | exact HB.out | apply below_alloc | apply pw_below_drewN | apply below_drew1) | exact HB.out)) hb); clear HB; have HB := n0_; clear n0_; (try clear hb); (try clear hb2); (try clear hk); (try clear hi)))
      repeat (go_quiet (fail); try go_wp2_with (first | (go_at_call 45; (with_reducible refine (utf_Place.calls a0 a1 true _ A5.out).mono ?_); rintro e w8 ⟨rfl, hb⟩; have n0_ := Aside0.mk (below_step (by repeat (first | (with_reducible first | exact HB.out | apply below_alloc | apply pw_below_drewN | apply below_drew1) | exact HB.out)) hb); clear HB; have HB := n0_; clear n0_; (try clear hb); (try clear hb2); (try clear hk); (try clear hi)) | (go_at_call 51; (with_reducible refine (utf_Valid.calls a2 t105 _ A7.out).mono ?_); rintro e w9 ⟨rfl, hb⟩; have n0_ := Aside0.mk (below_step (by repeat (first | (with_reducible first | exact HB.out | apply below_alloc | apply pw_below_drewN | apply below_drew1) | exact HB.out)) hb); clear HB; have HB := n0_; clear n0_; (try clear hb); (try clear hb2); (try clear hk); (try clear hi))))
      go_meet
      case rel => exact ⟨_, (!t105), (by first | rfl | (simp; done) | (simp [*]; done)), H', ⟨by first | omega | exact Nat.le_refl _⟩, ⟨by repeat (first | (with_reducible first | exact HB.out | apply below_alloc | apply pw_below_drewN | apply below_drew1) | exact HB.out)⟩⟩
    · replace c6 := Bool.eq_false_iff.mpr c6
      subst c6
      have H1 : (entry_Type.j0 k a0 a1 a2 true) = some (r1, r2, r3) := by rw [if_neg (show ¬ (false = true) by decide)] at H; exact H
      clear H
      have H := H1
      clear H1
      have H' := Aside0.mk H
      clear H
      go_wp2_with (first | (go_at_call 45; (with_reducible refine (utf_Place.calls a0 a1 false _ A5.out).mono ?_); rintro e w10 ⟨rfl, hb⟩; have n0_ := Aside0.mk (below_step (by repeat (first | (with_reducible first | exact HB.out | apply below_alloc | apply pw_below_drewN | apply below_drew1) | exact HB.out)) hb); clear HB; have HB := n0_; clear n0_; (try clear hb); (try clear hb2); (try clear hk); (try clear hi)))
      repeat (go_quiet (fail); try go_wp2_with (first | (go_at_call 45; (with_reducible refine (utf_Place.calls a0 a1 false _ A5.out).mono ?_); rintro e w10 ⟨rfl, hb⟩; have n0_ := Aside0.mk (below_step (by repeat (first | (with_reducible first | exact HB.out | apply below_alloc | apply pw_below_drewN | apply below_drew1) | exact HB.out)) hb); clear HB; have HB := n0_; clear n0_; (try clear hb); (try clear hb2); (try clear hk); (try clear hi))))
      go_meet
      case rel => exact ⟨_, (true), (by first | rfl | (simp; done) | (simp [*]; done)), H', ⟨by first | omega | exact Nat.le_refl _⟩, ⟨by repeat (first | (with_reducible first | exact HB.out | apply below_alloc | apply pw_below_drewN | apply below_drew1) | exact HB.out)⟩⟩
  case rest =>
    clear HC4
    try clear c1
    try clear p2
    try clear c6
    obtain ⟨kq, x17_3, rfl, HA, HJ3, HB⟩ := hcut
    cases kq with
    | zero => exact absurd HA.out (by simp [entry_Type.j0])
    | succ kj3 =>
      have H := HA.out
      clear HA
      simp only [entry_Type.j0] at H
      by_cases c11 : x17_3 = true
      · subst c11
        have H1 : (some ((⟨#[]⟩ : ByteArray), 0, 1)) = some (r1, r2, r3) := by rw [if_pos rfl] at H; exact H
        clear H
        have H := H1
        clear H1
        simp only [Option.some.injEq, Prod.mk.injEq] at H
        obtain ⟨rfl, rfl, rfl⟩ := H
        go_wp2
        repeat (go_quiet (fail); try go_wp2)
        go_ret3
        exact ⟨by first | rfl | (simp [errW_none, errW_some] <;> rfl) | (simp [*, errW_none, errW_some] <;> rfl), by repeat (first | (with_reducible first | exact HB.out | apply below_alloc | apply pw_below_drewN | apply below_drew1) | exact HB.out)⟩
      · replace c11 := Bool.eq_false_iff.mpr c11
        subst c11
        have H1 : (if (wrap64 ((a0.size : Int) + (a2.size : Int))) > 4096 then (some ((⟨#[]⟩ : ByteArray), 0, 8)) else (if 0 ≤ a1 then (if a1 ≤ (a0.size : Int) then (if (a0.extract 0 (a1 : Int).toNat).size + a2.size ≤ 9223372036854775807 then (if ((a0.extract 0 (a1 : Int).toNat) ++ a2).size + (a0.extract (a1 : Int).toNat a0.size).size ≤ 9223372036854775807 then (some (((a0.extract 0 (a1 : Int).toNat) ++ a2) ++ (a0.extract (a1 : Int).toNat a0.size), wrap64 (a1 + (a2.size : Int)), 0)) else (none)) else (none)) else (none)) else (none))) = some (r1, r2, r3) := by rw [if_neg (show ¬ (false = true) by decide)] at H; exact H
        clear H
        have H := H1
        clear H1
        by_cases c12 : (wrap64 ((a0.size : Int) + (a2.size : Int))) > 4096
        · rw [if_pos c12] at H
          have c12b0 : decide (4096 < (wrap64 ((a0.size : Int) + (a2.size : Int)))) = true := decide_eq_true c12
          clear c12
          simp only [Option.some.injEq, Prod.mk.injEq] at H
          obtain ⟨rfl, rfl, rfl⟩ := H
          go_wp2
          repeat (go_quiet (fail); try go_wp2)
          go_ret3
          exact ⟨by first | rfl | (simp [errW_none, errW_some] <;> rfl) | (simp [*, errW_none, errW_some] <;> rfl), by repeat (first | (with_reducible first | exact HB.out | apply below_alloc | apply pw_below_drewN | apply below_drew1) | exact HB.out)⟩
        · rw [if_neg c12] at H
          have c12b0 : decide (4096 < (wrap64 ((a0.size : Int) + (a2.size : Int)))) = false := decide_eq_false c12
          clear c12
          by_cases c13 : 0 ≤ a1
          · rw [if_pos c13] at H
            have c13b0 := eq_true c13
            have c13b1 : decide (0 ≤ a1) = true := decide_eq_true c13
            clear c13
            by_cases c14 : a1 ≤ (a0.size : Int)
            · rw [if_pos c14] at H
              have c14b0 := eq_true c14
              have c14b1 : decide (a1 ≤ (a0.size : Int)) = true := decide_eq_true c14
              clear c14
              by_cases c15 : (a0.extract 0 (a1 : Int).toNat).size + a2.size ≤ 9223372036854775807
              · rw [if_pos c15] at H
                have c15b0 := eq_true c15
                have c15b1 : decide ((a0.extract 0 (a1 : Int).toNat).size + a2.size ≤ 9223372036854775807) = true := decide_eq_true c15
                try have c15b2 : (9223372036854775807 < (a0.extract 0 (a1 : Int).toNat).size + a2.size) = False := eq_false (Nat.not_lt.2 c15)
                have c16b0 := eq_true (of_decide_eq_true (by first | (with_reducible assumption) | assumption) : 0 ≤ a1)
                have c17b0 := eq_true (of_decide_eq_true (by first | (with_reducible assumption) | assumption) : a1 ≤ (a0.size : Int))
                by_cases c18 : ((a0.extract 0 (a1 : Int).toNat) ++ a2).size + (a0.extract (a1 : Int).toNat a0.size).size ≤ 9223372036854775807
                · rw [if_pos c18] at H
                  have c18b0 := eq_true c18
                  have c18b1 : decide (((a0.extract 0 (a1 : Int).toNat) ++ a2).size + (a0.extract (a1 : Int).toNat a0.size).size ≤ 9223372036854775807) = true := decide_eq_true c18
                  try have c18b2 : (9223372036854775807 < ((a0.extract 0 (a1 : Int).toNat) ++ a2).size + (a0.extract (a1 : Int).toNat a0.size).size) = False := eq_false (Nat.not_lt.2 c18)
                  simp only [Option.some.injEq, Prod.mk.injEq] at H
                  obtain ⟨rfl, rfl, rfl⟩ := H
                  go_wp2
                  repeat (go_quiet (fail); try go_wp2)
                  go_ret3
                  exact ⟨by first | rfl | (simp [errW_none, errW_some] <;> rfl) | (simp [*, errW_none, errW_some] <;> rfl), by repeat (first | (with_reducible first | exact HB.out | apply below_alloc | apply pw_below_drewN | apply below_drew1) | exact HB.out)⟩
                · rw [if_neg c18] at H
                  exact absurd H (by simp)
              · rw [if_neg c15] at H
                exact absurd H (by simp)
            · rw [if_neg c14] at H
              exact absurd H (by simp)
          · rw [if_neg c13] at H
            exact absurd H (by simp)



/-! ### calamuslaw25_EntryUndone -/
mutual
def calamuslaw25_EntryUndone.j0 : Nat → ByteArray → Int → ByteArray → Bool → Option (Bool)
  | 0, _, _, _, _ => none
  | k + 1, x0, x1, x2, x24 => if x24 = true then ((calamuslaw25_lives.f).bind fun t106 => (some t106)) else ((entry_Type.f k x0 x1 x2).bind fun bt107 => (if bt107.2.2 = 0 then ((utf_Count.f x2).bind fun t111 => (calamuslaw25_EntryUndone.l0 k x0 x1 bt107.1 bt107.2.1 t111)) else (if bt107.1.toList = ([] : List UInt8) then (if bt107.2.1 = 0 then ((calamuslaw25_lives.f).bind fun t110 => (some t110)) else (some false)) else (some false))))
def calamuslaw25_EntryUndone.l0 : Nat → ByteArray → Int → ByteArray → Int → Int → Option (Bool)
  | 0, _, _, _, _, _ => none
  | k + 1, x0, x1, x7, x8, x10 => if x10 > 0 then ((entry_Back.f x7 x8 x1).bind fun bt112 => (if bt112.2.2 = 0 then (if bt112.2.1 ≥ x8 then (some false) else (calamuslaw25_EntryUndone.l0 k x0 x1 bt112.1 bt112.2.1 (wrap64 (x10 - 1)))) else (some false))) else ((entry_Back.f x7 x8 x1).bind fun bt115 => (if x7.toList = x0.toList then (if x8 = x1 then (if bt115.2.2 = 10 then ((calamuslaw25_lives.f).bind fun t118 => (some t118)) else (some false)) else (some false)) else (some false)))
end
def calamuslaw25_EntryUndone.f (k : Nat) (a0 : ByteArray) (a1 : Int) (a2 : ByteArray) : Option (Bool) := if (a0.size : Int) > 500 then (calamuslaw25_EntryUndone.j0 k a0 a1 a2 true) else (calamuslaw25_EntryUndone.j0 k a0 a1 a2 (decide ((a2.size : Int) > 200)))
theorem calamuslaw25_EntryUndone.mono_l : ∀ k, (∀ y0 y1 y2 y3, LeO (calamuslaw25_EntryUndone.j0 k y0 y1 y2 y3) (calamuslaw25_EntryUndone.j0 (k + 1) y0 y1 y2 y3)) ∧ (∀ y0 y1 y2 y3 y4, LeO (calamuslaw25_EntryUndone.l0 k y0 y1 y2 y3 y4) (calamuslaw25_EntryUndone.l0 (k + 1) y0 y1 y2 y3 y4))
  | 0 => ⟨fun _ _ _ _ r h => by simp [calamuslaw25_EntryUndone.j0] at h, fun _ _ _ _ _ r h => by simp [calamuslaw25_EntryUndone.l0] at h⟩
  | k + 1 => by
    obtain ⟨ih0, ih1⟩ := calamuslaw25_EntryUndone.mono_l k
    refine ⟨?_, ?_⟩
    · intro y0 y1 y2 y3
      unfold calamuslaw25_EntryUndone.j0
      repeat' first
      | (with_reducible exact ih0 _ _ _ _)
      | (with_reducible exact ih1 _ _ _ _ _)
      | (with_reducible exact entry_Type.mono _ _ _ _)
      | (with_reducible exact LeO.refl _)
      | (with_reducible exact LeO.none _)
      | (with_reducible refine LeO.ite ?_ ?_)
      | (with_reducible refine LeO.bind ?_ (fun _ => ?_))
      | exact ih0 _ _ _ _
      | exact ih1 _ _ _ _ _
      | exact entry_Type.mono _ _ _ _
      | exact LeO.none _
      | refine LeO.ite ?_ ?_
      | refine LeO.bind ?_ (fun _ => ?_)
    · intro y0 y1 y2 y3 y4
      unfold calamuslaw25_EntryUndone.l0
      repeat' first
      | (with_reducible exact ih0 _ _ _ _)
      | (with_reducible exact ih1 _ _ _ _ _)
      | (with_reducible exact entry_Type.mono _ _ _ _)
      | (with_reducible exact LeO.refl _)
      | (with_reducible exact LeO.none _)
      | (with_reducible refine LeO.ite ?_ ?_)
      | (with_reducible refine LeO.bind ?_ (fun _ => ?_))
      | exact ih0 _ _ _ _
      | exact ih1 _ _ _ _ _
      | exact entry_Type.mono _ _ _ _
      | exact LeO.none _
      | refine LeO.ite ?_ ?_
      | refine LeO.bind ?_ (fun _ => ?_)
theorem calamuslaw25_EntryUndone.mono : ∀ a0 a1 a2 k, LeO (calamuslaw25_EntryUndone.f k a0 a1 a2) (calamuslaw25_EntryUndone.f (k + 1) a0 a1 a2) := by
  intro a0 a1 a2 k
  obtain ⟨ih0, ih1⟩ := calamuslaw25_EntryUndone.mono_l k
  unfold calamuslaw25_EntryUndone.f
  repeat' first
      | (with_reducible exact ih0 _ _ _ _)
      | (with_reducible exact ih1 _ _ _ _ _)
      | (with_reducible exact entry_Type.mono _ _ _ _)
      | (with_reducible exact LeO.refl _)
      | (with_reducible exact LeO.none _)
      | (with_reducible refine LeO.ite ?_ ?_)
      | (with_reducible refine LeO.bind ?_ (fun _ => ?_))
      | exact ih0 _ _ _ _
      | exact ih1 _ _ _ _ _
      | exact entry_Type.mono _ _ _ _
      | exact LeO.none _
      | refine LeO.ite ?_ ?_
      | refine LeO.bind ?_ (fun _ => ?_)
set_option maxHeartbeats 8000000 in
set_option maxRecDepth 100000 in
theorem calamuslaw25_EntryUndone.calls (k : Nat) (a0 : ByteArray) (a1 : Int) (a2 : ByteArray) (r : Bool) (w : World) (h : calamuslaw25_EntryUndone.f k a0 a1 a2 = some r) :
    Calls Try.prog 3 #[.string a0, .int .i64 a1, .string a2] w fun e w' => e = .returned (.bool r) ∧ Below w.heap.size w w' := by
  have HB := Aside0.mk (Below.refl w.heap.size w)
  have H : (if (a0.size : Int) > 500 then (calamuslaw25_EntryUndone.j0 k a0 a1 a2 true) else (calamuslaw25_EntryUndone.j0 k a0 a1 a2 (decide ((a2.size : Int) > 200)))) = some r := h
  clear h
  have HC4 := Aside0.mk H
  clear H
  go_enter Try.func3, Try.ntmps3
  go_upto_region 1 with (fail)
  go_cut [24] (fun v24 wc => ∃ (kq : Nat) (x24_3 : Bool), v24 = .bool x24_3 ∧ Aside0 (calamuslaw25_EntryUndone.j0 kq a0 a1 a2 x24_3 = some r) ∧ Aside0 (kq ≤ k) ∧ Aside0 (Below w.heap.size w wc))
  case first =>
    have H := HC4.out
    clear HC4
    by_cases c5 : (a0.size : Int) > 500
    · rw [if_pos c5] at H
      have c5b0 : decide (500 < (a0.size : Int)) = true := decide_eq_true c5
      have c5b1 : decide (500 < a0.size) = true := decide_eq_true (by omega)
      clear c5
      (first | rw [c5b0] | (simp only [i64_w, i32_w]; rw [c5b0]) | skip)
      have H' := Aside0.mk H
      clear H
      go_wp2
      go_meet
      case rel => exact ⟨_, (true), (by first | rfl | (simp; done) | (simp [*]; done)), H', ⟨by first | omega | exact Nat.le_refl _⟩, ⟨by repeat (first | (with_reducible first | exact HB.out | apply below_alloc | apply pw_below_drewN | apply below_drew1) | exact HB.out)⟩⟩
    · rw [if_neg c5] at H
      have c5b0 : decide (500 < (a0.size : Int)) = false := decide_eq_false c5
      have c5b1 : decide (500 < a0.size) = false := decide_eq_false (by omega)
      clear c5
      (first | rw [c5b0] | (simp only [i64_w, i32_w]; rw [c5b0]) | skip)
      have H' := Aside0.mk H
      clear H
      go_wp2
      go_meet
      case rel => exact ⟨_, (decide ((a2.size : Int) > 200)), (by first | rfl | (simp; done) | (simp [*]; done)), H', ⟨by first | omega | exact Nat.le_refl _⟩, ⟨by repeat (first | (with_reducible first | exact HB.out | apply below_alloc | apply pw_below_drewN | apply below_drew1) | exact HB.out)⟩⟩
  case rest =>
    clear HC4
    try clear p2
    try clear c3
    try clear c5
    try clear c5b0
    try clear c5b1
    obtain ⟨kq, x24_3, rfl, HA, HJ3, HB⟩ := hcut
    cases kq with
    | zero => exact absurd HA.out (by simp [calamuslaw25_EntryUndone.j0])
    | succ kj3 =>
      have H := HA.out
      clear HA
      simp only [calamuslaw25_EntryUndone.j0] at H
      by_cases c6 : x24_3 = true
      · subst c6
        have H1 : ((calamuslaw25_lives.f).bind fun t106 => (some t106)) = some r := by rw [if_pos rfl] at H; exact H
        clear H
        have H := H1
        clear H1
        replace H := Option.bind_eq_some_iff.mp H
        obtain ⟨t106, A70, H⟩ := H
        replace H : (some t106) = some r := H
        have A7 := Aside0.mk A70
        clear A70
        obtain rfl := Option.some.inj H
        go_wp2_with (first | ((with_reducible refine gate_callee (f := 14) rfl ?_); refine goesL_ (some 25) rfl rfl Try.func14 (by kernel_rfl) rfl #[] rfl (by (try simp only [List.map_toArray, List.map_cons, List.map_nil]); first | done | rfl | (simp only [List.length_drop, List.length_take]; rfl)) ?_; (with_reducible refine (calamuslaw25_lives.calls  t106 _ A7.out).mono ?_); rintro e w8 ⟨rfl, hb⟩; refine ⟨_, rfl, ?_⟩; have n0_ := Aside0.mk (below_step (by repeat (first | (with_reducible first | exact HB.out | apply below_alloc | apply pw_below_drewN | apply below_drew1) | exact HB.out)) hb); clear HB; have HB := n0_; clear n0_; (try clear hb); (try clear hb2); (try clear hk); (try clear hi)))
        go_ret
        exact ⟨by first | rfl | (simp [errW_none, errW_some] <;> rfl) | (simp [*, errW_none, errW_some] <;> rfl), by repeat (first | (with_reducible first | exact HB.out | apply below_alloc | apply pw_below_drewN | apply below_drew1) | exact HB.out)⟩
      · replace c6 := Bool.eq_false_iff.mpr c6
        subst c6
        have H1 : ((entry_Type.f kj3 a0 a1 a2).bind fun bt107 => (if bt107.2.2 = 0 then ((utf_Count.f a2).bind fun t111 => (calamuslaw25_EntryUndone.l0 kj3 a0 a1 bt107.1 bt107.2.1 t111)) else (if bt107.1.toList = ([] : List UInt8) then (if bt107.2.1 = 0 then ((calamuslaw25_lives.f).bind fun t110 => (some t110)) else (some false)) else (some false)))) = some r := by rw [if_neg (show ¬ (false = true) by decide)] at H; exact H
        clear H
        have H := H1
        clear H1
        replace H := Option.bind_eq_some_iff.mp H
        obtain ⟨⟨t107, t108, t109⟩, A90, H⟩ := H
        replace H : (if t109 = 0 then ((utf_Count.f a2).bind fun t111 => (calamuslaw25_EntryUndone.l0 kj3 a0 a1 t107 t108 t111)) else (if t107.toList = ([] : List UInt8) then (if t108 = 0 then ((calamuslaw25_lives.f).bind fun t110 => (some t110)) else (some false)) else (some false))) = some r := H
        have A9 := Aside0.mk A90
        clear A90
        by_cases c10 : t109 = 0
        · rw [if_pos c10] at H
          have c10b0 : (t109 == 0) = true := beq_iff_eq.mpr c10
          have c10b1 : (t109 != 0) = false := bne_eq_false_iff_eq.mpr c10
          clear c10
          replace H := Option.bind_eq_some_iff.mp H
          obtain ⟨t111, A110, H⟩ := H
          replace H : (calamuslaw25_EntryUndone.l0 kj3 a0 a1 t107 t108 t111) = some r := H
          have A11 := Aside0.mk A110
          clear A110
          have H' := Aside0.mk H
          clear H
          go_wp2_with (first | ((with_reducible refine gate_callee (f := 15) rfl ?_); refine goesL_ (some 30) rfl rfl Try.func15 (by kernel_rfl) rfl #[.string a0, .int .i64 a1, .string a2] rfl (by (try simp only [List.map_toArray, List.map_cons, List.map_nil]); first | done | rfl | (simp only [List.length_drop, List.length_take]; rfl)) ?_; (with_reducible refine (entry_Type.calls kj3 a0 a1 a2 t107 t108 t109 _ A9.out).mono ?_); rintro e w12 ⟨rfl, hb⟩; refine ⟨_, rfl, ?_⟩; have n0_ := Aside0.mk (below_step (by repeat (first | (with_reducible first | exact HB.out | apply below_alloc | apply pw_below_drewN | apply below_drew1) | exact HB.out)) hb); clear HB; have HB := n0_; clear n0_; (try clear hb); (try clear hb2); (try clear hk); (try clear hi)) | ((with_reducible refine gate_callee (f := 16) rfl ?_); refine goesL_ (some 46) rfl rfl Try.func16 (by kernel_rfl) rfl #[.string a2] rfl (by (try simp only [List.map_toArray, List.map_cons, List.map_nil]); first | done | rfl | (simp only [List.length_drop, List.length_take]; rfl)) ?_; (with_reducible refine (utf_Count.calls a2 t111 _ A11.out).mono ?_); rintro e w13 ⟨rfl, hb⟩; refine ⟨_, rfl, ?_⟩; have n0_ := Aside0.mk (below_step (by repeat (first | (with_reducible first | exact HB.out | apply below_alloc | apply pw_below_drewN | apply below_drew1) | exact HB.out)) hb); clear HB; have HB := n0_; clear n0_; (try clear hb); (try clear hb2); (try clear hk); (try clear hi)))
          go_loopg [7, 8, 10] kj3 (fun kq v7 v8 v10 w' => ∃ (x7_2 : ByteArray) (x8_2 : Int) (x10_2 : Int), v7 = .string x7_2 ∧ v8 = .int .i64 x8_2 ∧ v10 = .int .i64 x10_2 ∧ Aside0 (calamuslaw25_EntryUndone.l0 kq a0 a1 x7_2 x8_2 x10_2 = some r) ∧ Aside0 (kq ≤ kj3) ∧ Aside0 (Below w.heap.size w w'))
          case atStart => exact ⟨(t107), (t108), (t111), (by first | rfl | (simp; done) | (simp [*]; done)), (by first | rfl | (simp; done) | (simp [*]; done)), (by first | rfl | (simp; done) | (simp [*]; done)), H', ⟨Nat.le_refl _⟩, ⟨by repeat (first | (with_reducible first | exact HB.out | apply below_alloc | apply pw_below_drewN | apply below_drew1) | exact HB.out)⟩⟩
          case round =>
            clear H'
            try clear c1
            try clear p2
            try clear c3
            try clear c5
            try clear c5b0
            try clear c5b1
            try clear c6
            try clear c10
            try clear c10b0
            try clear c10b1
            try clear p2
            obtain ⟨x7_2, x8_2, x10_2, rfl, rfl, rfl, HA, HK2, HB⟩ := hrel
            cases gk with
            | zero => exact absurd HA.out (by simp [calamuslaw25_EntryUndone.l0])
            | succ k2 =>
              have H := HA.out
              clear HA
              simp only [calamuslaw25_EntryUndone.l0] at H
              by_cases c14 : x10_2 > 0
              · rw [if_pos c14] at H
                have c14b0 : decide (0 < x10_2) = true := decide_eq_true c14
                clear c14
                replace H := Option.bind_eq_some_iff.mp H
                obtain ⟨⟨t112, t113, t114⟩, A150, H⟩ := H
                replace H : (if t114 = 0 then (if t113 ≥ x8_2 then (some false) else (calamuslaw25_EntryUndone.l0 k2 a0 a1 t112 t113 (wrap64 (x10_2 - 1)))) else (some false)) = some r := H
                have A15 := Aside0.mk A150
                clear A150
                by_cases c16 : t114 = 0
                · rw [if_pos c16] at H
                  have c16b0 : (t114 == 0) = true := beq_iff_eq.mpr c16
                  have c16b1 : (t114 != 0) = false := bne_eq_false_iff_eq.mpr c16
                  clear c16
                  by_cases c17 : t113 ≥ x8_2
                  · rw [if_pos c17] at H
                    have c17b0 : decide (x8_2 ≤ t113) = true := decide_eq_true c17
                    clear c17
                    obtain rfl := Option.some.inj H
                    go_wp2_with (first | ((with_reducible refine gate_callee (f := 17) rfl ?_); refine goesL_ (some 55) rfl rfl Try.func17 (by kernel_rfl) rfl #[.string x7_2, .int .i64 x8_2, .int .i64 a1] rfl (by (try simp only [List.map_toArray, List.map_cons, List.map_nil]); first | done | rfl | (simp only [List.length_drop, List.length_take]; rfl)) ?_; (with_reducible refine (entry_Back.calls x7_2 x8_2 a1 t112 t113 t114 _ A15.out).mono ?_); rintro e w18 ⟨rfl, hb⟩; refine ⟨_, rfl, ?_⟩; have n0_ := Aside0.mk (below_step (by repeat (first | (with_reducible first | exact HB.out | apply below_alloc | apply pw_below_drewN | apply below_drew1) | exact HB.out)) hb); clear HB; have HB := n0_; clear n0_; (try clear hb); (try clear hb2); (try clear hk); (try clear hi)))
                    go_ret
                    exact ⟨by first | rfl | (simp [errW_none, errW_some] <;> rfl) | (simp [*, errW_none, errW_some] <;> rfl), by repeat (first | (with_reducible first | exact HB.out | apply below_alloc | apply pw_below_drewN | apply below_drew1) | exact HB.out)⟩
                  · rw [if_neg c17] at H
                    have c17b0 : decide (x8_2 ≤ t113) = false := decide_eq_false c17
                    clear c17
                    have H' := Aside0.mk H
                    clear H
                    go_wp2_with (first | ((with_reducible refine gate_callee (f := 17) rfl ?_); refine goesL_ (some 55) rfl rfl Try.func17 (by kernel_rfl) rfl #[.string x7_2, .int .i64 x8_2, .int .i64 a1] rfl (by (try simp only [List.map_toArray, List.map_cons, List.map_nil]); first | done | rfl | (simp only [List.length_drop, List.length_take]; rfl)) ?_; (with_reducible refine (entry_Back.calls x7_2 x8_2 a1 t112 t113 t114 _ A15.out).mono ?_); rintro e w19 ⟨rfl, hb⟩; refine ⟨_, rfl, ?_⟩; have n0_ := Aside0.mk (below_step (by repeat (first | (with_reducible first | exact HB.out | apply below_alloc | apply pw_below_drewN | apply below_drew1) | exact HB.out)) hb); clear HB; have HB := n0_; clear n0_; (try clear hb); (try clear hb2); (try clear hk); (try clear hi)))
                    go_roundg k2
                    case measure => have := HJ3.out; have := HK2.out; omega
                    case rel => exact ⟨(t112), (t113), (wrap64 (x10_2 - 1)), (by first | rfl | (simp; done) | (simp [*]; done)), (by first | rfl | (simp; done) | (simp [*]; done)), (by first | rfl | (simp; done) | (simp [*]; done)), H', ⟨by have := HJ3.out; have := HK2.out; omega⟩, ⟨by repeat (first | (with_reducible first | exact HB.out | apply below_alloc | apply pw_below_drewN | apply below_drew1) | exact HB.out)⟩⟩
                · rw [if_neg c16] at H
                  have c16b0 : (t114 == 0) = false := beq_eq_false_iff_ne.mpr c16
                  have c16b1 : (t114 != 0) = true := bne_iff_ne.mpr c16
                  obtain rfl := Option.some.inj H
                  go_wp2_with (first | ((with_reducible refine gate_callee (f := 17) rfl ?_); refine goesL_ (some 55) rfl rfl Try.func17 (by kernel_rfl) rfl #[.string x7_2, .int .i64 x8_2, .int .i64 a1] rfl (by (try simp only [List.map_toArray, List.map_cons, List.map_nil]); first | done | rfl | (simp only [List.length_drop, List.length_take]; rfl)) ?_; (with_reducible refine (entry_Back.calls x7_2 x8_2 a1 t112 t113 t114 _ A15.out).mono ?_); rintro e w20 ⟨rfl, hb⟩; refine ⟨_, rfl, ?_⟩; have n0_ := Aside0.mk (below_step (by repeat (first | (with_reducible first | exact HB.out | apply below_alloc | apply pw_below_drewN | apply below_drew1) | exact HB.out)) hb); clear HB; have HB := n0_; clear n0_; (try clear hb); (try clear hb2); (try clear hk); (try clear hi)))
                  go_ret
                  exact ⟨by first | rfl | (simp [errW_none, errW_some] <;> rfl) | (simp [*, errW_none, errW_some] <;> rfl), by repeat (first | (with_reducible first | exact HB.out | apply below_alloc | apply pw_below_drewN | apply below_drew1) | exact HB.out)⟩
              · rw [if_neg c14] at H
                have c14b0 : decide (0 < x10_2) = false := decide_eq_false c14
                clear c14
                replace H := Option.bind_eq_some_iff.mp H
                obtain ⟨⟨t115, t116, t117⟩, A210, H⟩ := H
                replace H : (if x7_2.toList = a0.toList then (if x8_2 = a1 then (if t117 = 10 then ((calamuslaw25_lives.f).bind fun t118 => (some t118)) else (some false)) else (some false)) else (some false)) = some r := H
                have A21 := Aside0.mk A210
                clear A210
                by_cases c22 : x7_2.toList = a0.toList
                · rw [if_pos c22] at H
                  have c22b0 : (x7_2.toList == a0.toList) = true := beq_iff_eq.mpr c22
                  have c22b1 : (x7_2.toList != a0.toList) = false := bne_eq_false_iff_eq.mpr c22
                  clear c22
                  by_cases c23 : x8_2 = a1
                  · rw [if_pos c23] at H
                    have c23b0 : (x8_2 == a1) = true := beq_iff_eq.mpr c23
                    have c23b1 : (x8_2 != a1) = false := bne_eq_false_iff_eq.mpr c23
                    clear c23
                    by_cases c24 : t117 = 10
                    · rw [if_pos c24] at H
                      have c24b0 : (t117 == 10) = true := beq_iff_eq.mpr c24
                      have c24b1 : (t117 != 10) = false := bne_eq_false_iff_eq.mpr c24
                      clear c24
                      replace H := Option.bind_eq_some_iff.mp H
                      obtain ⟨t118, A250, H⟩ := H
                      replace H : (some t118) = some r := H
                      have A25 := Aside0.mk A250
                      clear A250
                      obtain rfl := Option.some.inj H
                      go_wp2_with (first | ((with_reducible refine gate_callee (f := 17) rfl ?_); refine goesL_ (some 72) rfl rfl Try.func17 (by kernel_rfl) rfl #[.string x7_2, .int .i64 x8_2, .int .i64 a1] rfl (by (try simp only [List.map_toArray, List.map_cons, List.map_nil]); first | done | rfl | (simp only [List.length_drop, List.length_take]; rfl)) ?_; (with_reducible refine (entry_Back.calls x7_2 x8_2 a1 t115 t116 t117 _ A21.out).mono ?_); rintro e w26 ⟨rfl, hb⟩; refine ⟨_, rfl, ?_⟩; have n0_ := Aside0.mk (below_step (by repeat (first | (with_reducible first | exact HB.out | apply below_alloc | apply pw_below_drewN | apply below_drew1) | exact HB.out)) hb); clear HB; have HB := n0_; clear n0_; (try clear hb); (try clear hb2); (try clear hk); (try clear hi)) | (go_at_call 14; (with_reducible refine (calamuslaw25_lives.calls  t118 _ A25.out).mono ?_); rintro e w27 ⟨rfl, hb⟩; have n0_ := Aside0.mk (below_step (by repeat (first | (with_reducible first | exact HB.out | apply below_alloc | apply pw_below_drewN | apply below_drew1) | exact HB.out)) hb); clear HB; have HB := n0_; clear n0_; (try clear hb); (try clear hb2); (try clear hk); (try clear hi)))
                      go_ret
                      exact ⟨by first | rfl | (simp [errW_none, errW_some] <;> rfl) | (simp [*, errW_none, errW_some] <;> rfl), by repeat (first | (with_reducible first | exact HB.out | apply below_alloc | apply pw_below_drewN | apply below_drew1) | exact HB.out)⟩
                    · rw [if_neg c24] at H
                      have c24b0 : (t117 == 10) = false := beq_eq_false_iff_ne.mpr c24
                      have c24b1 : (t117 != 10) = true := bne_iff_ne.mpr c24
                      obtain rfl := Option.some.inj H
                      go_wp2_with (first | ((with_reducible refine gate_callee (f := 17) rfl ?_); refine goesL_ (some 72) rfl rfl Try.func17 (by kernel_rfl) rfl #[.string x7_2, .int .i64 x8_2, .int .i64 a1] rfl (by (try simp only [List.map_toArray, List.map_cons, List.map_nil]); first | done | rfl | (simp only [List.length_drop, List.length_take]; rfl)) ?_; (with_reducible refine (entry_Back.calls x7_2 x8_2 a1 t115 t116 t117 _ A21.out).mono ?_); rintro e w28 ⟨rfl, hb⟩; refine ⟨_, rfl, ?_⟩; have n0_ := Aside0.mk (below_step (by repeat (first | (with_reducible first | exact HB.out | apply below_alloc | apply pw_below_drewN | apply below_drew1) | exact HB.out)) hb); clear HB; have HB := n0_; clear n0_; (try clear hb); (try clear hb2); (try clear hk); (try clear hi)))
                      go_ret
                      exact ⟨by first | rfl | (simp [errW_none, errW_some] <;> rfl) | (simp [*, errW_none, errW_some] <;> rfl), by repeat (first | (with_reducible first | exact HB.out | apply below_alloc | apply pw_below_drewN | apply below_drew1) | exact HB.out)⟩
                  · rw [if_neg c23] at H
                    have c23b0 : (x8_2 == a1) = false := beq_eq_false_iff_ne.mpr c23
                    have c23b1 : (x8_2 != a1) = true := bne_iff_ne.mpr c23
                    obtain rfl := Option.some.inj H
                    go_wp2_with (first | ((with_reducible refine gate_callee (f := 17) rfl ?_); refine goesL_ (some 72) rfl rfl Try.func17 (by kernel_rfl) rfl #[.string x7_2, .int .i64 x8_2, .int .i64 a1] rfl (by (try simp only [List.map_toArray, List.map_cons, List.map_nil]); first | done | rfl | (simp only [List.length_drop, List.length_take]; rfl)) ?_; (with_reducible refine (entry_Back.calls x7_2 x8_2 a1 t115 t116 t117 _ A21.out).mono ?_); rintro e w29 ⟨rfl, hb⟩; refine ⟨_, rfl, ?_⟩; have n0_ := Aside0.mk (below_step (by repeat (first | (with_reducible first | exact HB.out | apply below_alloc | apply pw_below_drewN | apply below_drew1) | exact HB.out)) hb); clear HB; have HB := n0_; clear n0_; (try clear hb); (try clear hb2); (try clear hk); (try clear hi)))
                    go_ret
                    exact ⟨by first | rfl | (simp [errW_none, errW_some] <;> rfl) | (simp [*, errW_none, errW_some] <;> rfl), by repeat (first | (with_reducible first | exact HB.out | apply below_alloc | apply pw_below_drewN | apply below_drew1) | exact HB.out)⟩
                · rw [if_neg c22] at H
                  have c22b0 : (x7_2.toList == a0.toList) = false := beq_eq_false_iff_ne.mpr c22
                  have c22b1 : (x7_2.toList != a0.toList) = true := bne_iff_ne.mpr c22
                  obtain rfl := Option.some.inj H
                  go_wp2_with (first | ((with_reducible refine gate_callee (f := 17) rfl ?_); refine goesL_ (some 72) rfl rfl Try.func17 (by kernel_rfl) rfl #[.string x7_2, .int .i64 x8_2, .int .i64 a1] rfl (by (try simp only [List.map_toArray, List.map_cons, List.map_nil]); first | done | rfl | (simp only [List.length_drop, List.length_take]; rfl)) ?_; (with_reducible refine (entry_Back.calls x7_2 x8_2 a1 t115 t116 t117 _ A21.out).mono ?_); rintro e w30 ⟨rfl, hb⟩; refine ⟨_, rfl, ?_⟩; have n0_ := Aside0.mk (below_step (by repeat (first | (with_reducible first | exact HB.out | apply below_alloc | apply pw_below_drewN | apply below_drew1) | exact HB.out)) hb); clear HB; have HB := n0_; clear n0_; (try clear hb); (try clear hb2); (try clear hk); (try clear hi)))
                  go_ret
                  exact ⟨by first | rfl | (simp [errW_none, errW_some] <;> rfl) | (simp [*, errW_none, errW_some] <;> rfl), by repeat (first | (with_reducible first | exact HB.out | apply below_alloc | apply pw_below_drewN | apply below_drew1) | exact HB.out)⟩
        · rw [if_neg c10] at H
          have c10b0 : (t109 == 0) = false := beq_eq_false_iff_ne.mpr c10
          have c10b1 : (t109 != 0) = true := bne_iff_ne.mpr c10
          by_cases c31 : t107.toList = ([] : List UInt8)
          · rw [if_pos c31] at H
            have c31b0 : (t107.toList == ([] : List UInt8)) = true := beq_iff_eq.mpr c31
            have c31b1 : (t107.toList != ([] : List UInt8)) = false := bne_eq_false_iff_eq.mpr c31
            clear c31
            by_cases c32 : t108 = 0
            · rw [if_pos c32] at H
              have c32b0 : (t108 == 0) = true := beq_iff_eq.mpr c32
              have c32b1 : (t108 != 0) = false := bne_eq_false_iff_eq.mpr c32
              clear c32
              replace H := Option.bind_eq_some_iff.mp H
              obtain ⟨t110, A330, H⟩ := H
              replace H : (some t110) = some r := H
              have A33 := Aside0.mk A330
              clear A330
              obtain rfl := Option.some.inj H
              go_wp2_with (first | ((with_reducible refine gate_callee (f := 15) rfl ?_); refine goesL_ (some 30) rfl rfl Try.func15 (by kernel_rfl) rfl #[.string a0, .int .i64 a1, .string a2] rfl (by (try simp only [List.map_toArray, List.map_cons, List.map_nil]); first | done | rfl | (simp only [List.length_drop, List.length_take]; rfl)) ?_; (with_reducible refine (entry_Type.calls kj3 a0 a1 a2 t107 t108 t109 _ A9.out).mono ?_); rintro e w34 ⟨rfl, hb⟩; refine ⟨_, rfl, ?_⟩; have n0_ := Aside0.mk (below_step (by repeat (first | (with_reducible first | exact HB.out | apply below_alloc | apply pw_below_drewN | apply below_drew1) | exact HB.out)) hb); clear HB; have HB := n0_; clear n0_; (try clear hb); (try clear hb2); (try clear hk); (try clear hi)) | (go_at_call 14; (with_reducible refine (calamuslaw25_lives.calls  t110 _ A33.out).mono ?_); rintro e w35 ⟨rfl, hb⟩; have n0_ := Aside0.mk (below_step (by repeat (first | (with_reducible first | exact HB.out | apply below_alloc | apply pw_below_drewN | apply below_drew1) | exact HB.out)) hb); clear HB; have HB := n0_; clear n0_; (try clear hb); (try clear hb2); (try clear hk); (try clear hi)))
              go_ret
              exact ⟨by first | rfl | (simp [errW_none, errW_some] <;> rfl) | (simp [*, errW_none, errW_some] <;> rfl), by repeat (first | (with_reducible first | exact HB.out | apply below_alloc | apply pw_below_drewN | apply below_drew1) | exact HB.out)⟩
            · rw [if_neg c32] at H
              have c32b0 : (t108 == 0) = false := beq_eq_false_iff_ne.mpr c32
              have c32b1 : (t108 != 0) = true := bne_iff_ne.mpr c32
              obtain rfl := Option.some.inj H
              go_wp2_with (first | ((with_reducible refine gate_callee (f := 15) rfl ?_); refine goesL_ (some 30) rfl rfl Try.func15 (by kernel_rfl) rfl #[.string a0, .int .i64 a1, .string a2] rfl (by (try simp only [List.map_toArray, List.map_cons, List.map_nil]); first | done | rfl | (simp only [List.length_drop, List.length_take]; rfl)) ?_; (with_reducible refine (entry_Type.calls kj3 a0 a1 a2 t107 t108 t109 _ A9.out).mono ?_); rintro e w36 ⟨rfl, hb⟩; refine ⟨_, rfl, ?_⟩; have n0_ := Aside0.mk (below_step (by repeat (first | (with_reducible first | exact HB.out | apply below_alloc | apply pw_below_drewN | apply below_drew1) | exact HB.out)) hb); clear HB; have HB := n0_; clear n0_; (try clear hb); (try clear hb2); (try clear hk); (try clear hi)))
              go_ret
              exact ⟨by first | rfl | (simp [errW_none, errW_some] <;> rfl) | (simp [*, errW_none, errW_some] <;> rfl), by repeat (first | (with_reducible first | exact HB.out | apply below_alloc | apply pw_below_drewN | apply below_drew1) | exact HB.out)⟩
          · rw [if_neg c31] at H
            have c31b0 : (t107.toList == ([] : List UInt8)) = false := beq_eq_false_iff_ne.mpr c31
            have c31b1 : (t107.toList != ([] : List UInt8)) = true := bne_iff_ne.mpr c31
            obtain rfl := Option.some.inj H
            go_wp2_with (first | ((with_reducible refine gate_callee (f := 15) rfl ?_); refine goesL_ (some 30) rfl rfl Try.func15 (by kernel_rfl) rfl #[.string a0, .int .i64 a1, .string a2] rfl (by (try simp only [List.map_toArray, List.map_cons, List.map_nil]); first | done | rfl | (simp only [List.length_drop, List.length_take]; rfl)) ?_; (with_reducible refine (entry_Type.calls kj3 a0 a1 a2 t107 t108 t109 _ A9.out).mono ?_); rintro e w37 ⟨rfl, hb⟩; refine ⟨_, rfl, ?_⟩; have n0_ := Aside0.mk (below_step (by repeat (first | (with_reducible first | exact HB.out | apply below_alloc | apply pw_below_drewN | apply below_drew1) | exact HB.out)) hb); clear HB; have HB := n0_; clear n0_; (try clear hb); (try clear hb2); (try clear hk); (try clear hi)))
            go_ret
            exact ⟨by first | rfl | (simp [errW_none, errW_some] <;> rfl) | (simp [*, errW_none, errW_some] <;> rfl), by repeat (first | (with_reducible first | exact HB.out | apply below_alloc | apply pw_below_drewN | apply below_drew1) | exact HB.out)⟩

/-- THE ONE PURE STATEMENT of calamuslaw25_EntryUndone: yours. -/
def calamuslaw25_EntryUndone.Pure : Prop := ∀ (a0 : ByteArray) (a1 : Int) (a2 : ByteArray), a0.size ≤ 140737488351232 → (Lit.int .i64 a1).wf = true → a2.size ≤ 140737488351232 → ∃ k, calamuslaw25_EntryUndone.f k a0 a1 a2 = some true
theorem calamuslaw25_EntryUndone.walk (P : calamuslaw25_EntryUndone.Pure) (a0 : ByteArray) (a1 : Int) (a2 : ByteArray) (w : World) (w0 : a0.size ≤ 140737488351232) (w1 : (Lit.int .i64 a1).wf = true) (w2 : a2.size ≤ 140737488351232) :
    Calls Try.prog 3 #[.string a0, .int .i64 a1, .string a2] w fun e w' => e = .returned (.bool true) ∧ Below w.heap.size w w' := by
  obtain ⟨k, h⟩ := P a0 a1 a2 w0 w1 w2
  refine (calamuslaw25_EntryUndone.calls k a0 a1 a2 true w h).mono ?_
  rintro e w' ⟨rfl, hd⟩
  exact ⟨rfl, hd⟩



/-! ### calamusref25_Type -/
def calamusref25_Type.j0 : Nat → ByteArray → Int → ByteArray → Bool → Option (ByteArray × Int × Int)
  | 0, _, _, _, _ => none
  | k + 1, x0, x1, x2, x18 => if x18 = true then (some ((⟨#[]⟩ : ByteArray), 0, 1)) else (if 0 ≤ x1 then (if x1 ≤ (x0.size : Int) then (if (x0.extract 0 (x1 : Int).toNat).size + x2.size ≤ 9223372036854775807 then (if ((x0.extract 0 (x1 : Int).toNat) ++ x2).size + (x0.extract (x1 : Int).toNat x0.size).size ≤ 9223372036854775807 then (if ((((x0.extract 0 (x1 : Int).toNat) ++ x2) ++ (x0.extract (x1 : Int).toNat x0.size)).size : Int) > 4096 then (some ((⟨#[]⟩ : ByteArray), 0, 8)) else (some (((x0.extract 0 (x1 : Int).toNat) ++ x2) ++ (x0.extract (x1 : Int).toNat x0.size), wrap64 (x1 + (x2.size : Int)), 0))) else (none)) else (none)) else (none)) else (none))
def calamusref25_Type.f (k : Nat) (a0 : ByteArray) (a1 : Int) (a2 : ByteArray) : Option (ByteArray × Int × Int) := (calamusref03_Place.f a0 a1).bind fun t119 => (if t119 = true then ((calamusref03_Valid.f a2).bind fun t120 => (calamusref25_Type.j0 k a0 a1 a2 (!t120))) else (calamusref25_Type.j0 k a0 a1 a2 true))
theorem calamusref25_Type.mono_l : ∀ k, (∀ y0 y1 y2 y3, LeO (calamusref25_Type.j0 k y0 y1 y2 y3) (calamusref25_Type.j0 (k + 1) y0 y1 y2 y3))
  | 0 => fun _ _ _ _ r h => by simp [calamusref25_Type.j0] at h
  | k + 1 => by
    have ih0 := calamusref25_Type.mono_l k
    · intro y0 y1 y2 y3
      unfold calamusref25_Type.j0
      repeat' first
      | (with_reducible exact ih0 _ _ _ _)
      | (with_reducible exact LeO.refl _)
      | (with_reducible exact LeO.none _)
      | (with_reducible refine LeO.ite ?_ ?_)
      | (with_reducible refine LeO.bind ?_ (fun _ => ?_))
      | exact ih0 _ _ _ _
      | exact LeO.none _
      | refine LeO.ite ?_ ?_
      | refine LeO.bind ?_ (fun _ => ?_)
theorem calamusref25_Type.mono : ∀ a0 a1 a2 k, LeO (calamusref25_Type.f k a0 a1 a2) (calamusref25_Type.f (k + 1) a0 a1 a2) := by
  intro a0 a1 a2 k
  have ih0 := calamusref25_Type.mono_l k
  unfold calamusref25_Type.f
  repeat' first
      | (with_reducible exact ih0 _ _ _ _)
      | (with_reducible exact LeO.refl _)
      | (with_reducible exact LeO.none _)
      | (with_reducible refine LeO.ite ?_ ?_)
      | (with_reducible refine LeO.bind ?_ (fun _ => ?_))
      | exact ih0 _ _ _ _
      | exact LeO.none _
      | refine LeO.ite ?_ ?_
      | refine LeO.bind ?_ (fun _ => ?_)
set_option maxHeartbeats 8000000 in
set_option maxRecDepth 100000 in
theorem calamusref25_Type.calls (k : Nat) (a0 : ByteArray) (a1 : Int) (a2 : ByteArray) (r1 : ByteArray) (r2 : Int) (r3 : Int) (w : World) (h : calamusref25_Type.f k a0 a1 a2 = some (r1, r2, r3)) :
    Calls Try.prog 32 #[.string a0, .int .i64 a1, .string a2] w fun e w' => e = .returned (.tuple #[.string r1, .int .i64 r2, .int .i64 r3]) ∧ Below w.heap.size w w' := by
  have HB := Aside0.mk (Below.refl w.heap.size w)
  have H : ((calamusref03_Place.f a0 a1).bind fun t119 => (if t119 = true then ((calamusref03_Valid.f a2).bind fun t120 => (calamusref25_Type.j0 k a0 a1 a2 (!t120))) else (calamusref25_Type.j0 k a0 a1 a2 true))) = some (r1, r2, r3) := h
  clear h
  have HC4 := Aside0.mk H
  clear H
  go_enter Try.func32, Try.ntmps32
  go_upto_region 1 with (fail)
  repeat (go_quiet (fail); go_upto_region 1 with (fail))
  go_cut [18] (fun v18 wc => ∃ (kq : Nat) (x18_3 : Bool), v18 = .bool x18_3 ∧ Aside0 (calamusref25_Type.j0 kq a0 a1 a2 x18_3 = some (r1, r2, r3)) ∧ Aside0 (kq ≤ k) ∧ Aside0 (Below w.heap.size w wc))
  case first =>
    have H := HC4.out
    clear HC4
    replace H := Option.bind_eq_some_iff.mp H
    obtain ⟨t119, A50, H⟩ := H
    replace H : (if t119 = true then ((calamusref03_Valid.f a2).bind fun t120 => (calamusref25_Type.j0 k a0 a1 a2 (!t120))) else (calamusref25_Type.j0 k a0 a1 a2 true)) = some (r1, r2, r3) := H
    have A5 := Aside0.mk A50
    clear A50
    by_cases c6 : t119 = true
    · subst c6
      have H1 : ((calamusref03_Valid.f a2).bind fun t120 => (calamusref25_Type.j0 k a0 a1 a2 (!t120))) = some (r1, r2, r3) := by rw [if_pos rfl] at H; exact H
      clear H
      have H := H1
      clear H1
      replace H := Option.bind_eq_some_iff.mp H
      obtain ⟨t120, A70, H⟩ := H
      replace H : (calamusref25_Type.j0 k a0 a1 a2 (!t120)) = some (r1, r2, r3) := H
      have A7 := Aside0.mk A70
      clear A70
      have H' := Aside0.mk H
      clear H
      go_wp2_with (first | (go_at_call 62; (with_reducible refine (calamusref03_Place.calls a0 a1 true _ A5.out).mono ?_); rintro e w8 ⟨rfl, hb⟩; have n0_ := Aside0.mk (below_step (by repeat (first | (with_reducible first | exact HB.out | apply below_alloc | apply pw_below_drewN | apply below_drew1) | exact HB.out)) hb); clear HB; have HB := n0_; clear n0_; (try clear hb); (try clear hb2); (try clear hk); (try clear hi)) | (go_at_call 76; (with_reducible refine (calamusref03_Valid.calls a2 t120 _ A7.out).mono ?_); rintro e w9 ⟨rfl, hb⟩; have n0_ := Aside0.mk (below_step (by repeat (first | (with_reducible first | exact HB.out | apply below_alloc | apply pw_below_drewN | apply below_drew1) | exact HB.out)) hb); clear HB; have HB := n0_; clear n0_; (try clear hb); (try clear hb2); (try clear hk); (try clear hi)))
      repeat (go_quiet (fail); try go_wp2_with (first | (go_at_call 62; (with_reducible refine (calamusref03_Place.calls a0 a1 true _ A5.out).mono ?_); rintro e w8 ⟨rfl, hb⟩; have n0_ := Aside0.mk (below_step (by repeat (first | (with_reducible first | exact HB.out | apply below_alloc | apply pw_below_drewN | apply below_drew1) | exact HB.out)) hb); clear HB; have HB := n0_; clear n0_; (try clear hb); (try clear hb2); (try clear hk); (try clear hi)) | (go_at_call 76; (with_reducible refine (calamusref03_Valid.calls a2 t120 _ A7.out).mono ?_); rintro e w9 ⟨rfl, hb⟩; have n0_ := Aside0.mk (below_step (by repeat (first | (with_reducible first | exact HB.out | apply below_alloc | apply pw_below_drewN | apply below_drew1) | exact HB.out)) hb); clear HB; have HB := n0_; clear n0_; (try clear hb); (try clear hb2); (try clear hk); (try clear hi))))
      go_meet
      case rel => exact ⟨_, (!t120), (by first | rfl | (simp; done) | (simp [*]; done)), H', ⟨by first | omega | exact Nat.le_refl _⟩, ⟨by repeat (first | (with_reducible first | exact HB.out | apply below_alloc | apply pw_below_drewN | apply below_drew1) | exact HB.out)⟩⟩
    · replace c6 := Bool.eq_false_iff.mpr c6
      subst c6
      have H1 : (calamusref25_Type.j0 k a0 a1 a2 true) = some (r1, r2, r3) := by rw [if_neg (show ¬ (false = true) by decide)] at H; exact H
      clear H
      have H := H1
      clear H1
      have H' := Aside0.mk H
      clear H
      go_wp2_with (first | (go_at_call 62; (with_reducible refine (calamusref03_Place.calls a0 a1 false _ A5.out).mono ?_); rintro e w10 ⟨rfl, hb⟩; have n0_ := Aside0.mk (below_step (by repeat (first | (with_reducible first | exact HB.out | apply below_alloc | apply pw_below_drewN | apply below_drew1) | exact HB.out)) hb); clear HB; have HB := n0_; clear n0_; (try clear hb); (try clear hb2); (try clear hk); (try clear hi)))
      repeat (go_quiet (fail); try go_wp2_with (first | (go_at_call 62; (with_reducible refine (calamusref03_Place.calls a0 a1 false _ A5.out).mono ?_); rintro e w10 ⟨rfl, hb⟩; have n0_ := Aside0.mk (below_step (by repeat (first | (with_reducible first | exact HB.out | apply below_alloc | apply pw_below_drewN | apply below_drew1) | exact HB.out)) hb); clear HB; have HB := n0_; clear n0_; (try clear hb); (try clear hb2); (try clear hk); (try clear hi))))
      go_meet
      case rel => exact ⟨_, (true), (by first | rfl | (simp; done) | (simp [*]; done)), H', ⟨by first | omega | exact Nat.le_refl _⟩, ⟨by repeat (first | (with_reducible first | exact HB.out | apply below_alloc | apply pw_below_drewN | apply below_drew1) | exact HB.out)⟩⟩
  case rest =>
    clear HC4
    try clear p2
    try clear c3
    try clear c6
    obtain ⟨kq, x18_3, rfl, HA, HJ3, HB⟩ := hcut
    cases kq with
    | zero => exact absurd HA.out (by simp [calamusref25_Type.j0])
    | succ kj3 =>
      have H := HA.out
      clear HA
      simp only [calamusref25_Type.j0] at H
      by_cases c11 : x18_3 = true
      · subst c11
        have H1 : (some ((⟨#[]⟩ : ByteArray), 0, 1)) = some (r1, r2, r3) := by rw [if_pos rfl] at H; exact H
        clear H
        have H := H1
        clear H1
        simp only [Option.some.injEq, Prod.mk.injEq] at H
        obtain ⟨rfl, rfl, rfl⟩ := H
        go_wp2
        repeat (go_quiet (fail); try go_wp2)
        go_ret3
        exact ⟨by first | rfl | (simp [errW_none, errW_some] <;> rfl) | (simp [*, errW_none, errW_some] <;> rfl), by repeat (first | (with_reducible first | exact HB.out | apply below_alloc | apply pw_below_drewN | apply below_drew1) | exact HB.out)⟩
      · replace c11 := Bool.eq_false_iff.mpr c11
        subst c11
        have H1 : (if 0 ≤ a1 then (if a1 ≤ (a0.size : Int) then (if (a0.extract 0 (a1 : Int).toNat).size + a2.size ≤ 9223372036854775807 then (if ((a0.extract 0 (a1 : Int).toNat) ++ a2).size + (a0.extract (a1 : Int).toNat a0.size).size ≤ 9223372036854775807 then (if ((((a0.extract 0 (a1 : Int).toNat) ++ a2) ++ (a0.extract (a1 : Int).toNat a0.size)).size : Int) > 4096 then (some ((⟨#[]⟩ : ByteArray), 0, 8)) else (some (((a0.extract 0 (a1 : Int).toNat) ++ a2) ++ (a0.extract (a1 : Int).toNat a0.size), wrap64 (a1 + (a2.size : Int)), 0))) else (none)) else (none)) else (none)) else (none)) = some (r1, r2, r3) := by rw [if_neg (show ¬ (false = true) by decide)] at H; exact H
        clear H
        have H := H1
        clear H1
        by_cases c12 : 0 ≤ a1
        · rw [if_pos c12] at H
          have c12b0 := eq_true c12
          have c12b1 : decide (0 ≤ a1) = true := decide_eq_true c12
          clear c12
          by_cases c13 : a1 ≤ (a0.size : Int)
          · rw [if_pos c13] at H
            have c13b0 := eq_true c13
            have c13b1 : decide (a1 ≤ (a0.size : Int)) = true := decide_eq_true c13
            clear c13
            by_cases c14 : (a0.extract 0 (a1 : Int).toNat).size + a2.size ≤ 9223372036854775807
            · rw [if_pos c14] at H
              have c14b0 := eq_true c14
              have c14b1 : decide ((a0.extract 0 (a1 : Int).toNat).size + a2.size ≤ 9223372036854775807) = true := decide_eq_true c14
              try have c14b2 : (9223372036854775807 < (a0.extract 0 (a1 : Int).toNat).size + a2.size) = False := eq_false (Nat.not_lt.2 c14)
              have c15b0 := eq_true (of_decide_eq_true (by first | (with_reducible assumption) | assumption) : 0 ≤ a1)
              have c16b0 := eq_true (of_decide_eq_true (by first | (with_reducible assumption) | assumption) : a1 ≤ (a0.size : Int))
              by_cases c17 : ((a0.extract 0 (a1 : Int).toNat) ++ a2).size + (a0.extract (a1 : Int).toNat a0.size).size ≤ 9223372036854775807
              · rw [if_pos c17] at H
                have c17b0 := eq_true c17
                have c17b1 : decide (((a0.extract 0 (a1 : Int).toNat) ++ a2).size + (a0.extract (a1 : Int).toNat a0.size).size ≤ 9223372036854775807) = true := decide_eq_true c17
                try have c17b2 : (9223372036854775807 < ((a0.extract 0 (a1 : Int).toNat) ++ a2).size + (a0.extract (a1 : Int).toNat a0.size).size) = False := eq_false (Nat.not_lt.2 c17)
                by_cases c18 : ((((a0.extract 0 (a1 : Int).toNat) ++ a2) ++ (a0.extract (a1 : Int).toNat a0.size)).size : Int) > 4096
                · rw [if_pos c18] at H
                  have c18b0 : decide (4096 < ((((a0.extract 0 (a1 : Int).toNat) ++ a2) ++ (a0.extract (a1 : Int).toNat a0.size)).size : Int)) = true := decide_eq_true c18
                  have c18b1 : decide (4096 < (((a0.extract 0 (a1 : Int).toNat) ++ a2) ++ (a0.extract (a1 : Int).toNat a0.size)).size) = true := decide_eq_true (by omega)
                  have c18e : ((((a0.extract 0 (a1 : Int).toNat) ++ a2) ++ (a0.extract (a1 : Int).toNat a0.size)).size : Int) = max a1 0 + (a2.size : Int) + ((a0.size - a1.toNat : Nat) : Int) := by
                    simp only [ByteArray.size_append, ByteArray.size_extract] at *; simp only [eq_iff_iff, iff_true, decide_eq_true_eq] at *; omega
                  have c18b2 := c18b0
                  rw [c18e] at c18b2
                  clear c18e
                  clear c18
                  simp only [Option.some.injEq, Prod.mk.injEq] at H
                  obtain ⟨rfl, rfl, rfl⟩ := H
                  go_wp2
                  repeat (go_quiet (fail); try go_wp2)
                  go_ret3
                  exact ⟨by first | rfl | (simp [errW_none, errW_some] <;> rfl) | (simp [*, errW_none, errW_some] <;> rfl), by repeat (first | (with_reducible first | exact HB.out | apply below_alloc | apply pw_below_drewN | apply below_drew1) | exact HB.out)⟩
                · rw [if_neg c18] at H
                  have c18b0 : decide (4096 < ((((a0.extract 0 (a1 : Int).toNat) ++ a2) ++ (a0.extract (a1 : Int).toNat a0.size)).size : Int)) = false := decide_eq_false c18
                  have c18b1 : decide (4096 < (((a0.extract 0 (a1 : Int).toNat) ++ a2) ++ (a0.extract (a1 : Int).toNat a0.size)).size) = false := decide_eq_false (by omega)
                  have c18e : ((((a0.extract 0 (a1 : Int).toNat) ++ a2) ++ (a0.extract (a1 : Int).toNat a0.size)).size : Int) = max a1 0 + (a2.size : Int) + ((a0.size - a1.toNat : Nat) : Int) := by
                    simp only [ByteArray.size_append, ByteArray.size_extract] at *; simp only [eq_iff_iff, iff_true, decide_eq_true_eq] at *; omega
                  have c18b2 := c18b0
                  rw [c18e] at c18b2
                  clear c18e
                  clear c18
                  simp only [Option.some.injEq, Prod.mk.injEq] at H
                  obtain ⟨rfl, rfl, rfl⟩ := H
                  go_wp2
                  repeat (go_quiet (fail); try go_wp2)
                  go_ret3
                  exact ⟨by first | rfl | (simp [errW_none, errW_some] <;> rfl) | (simp [*, errW_none, errW_some] <;> rfl), by repeat (first | (with_reducible first | exact HB.out | apply below_alloc | apply pw_below_drewN | apply below_drew1) | exact HB.out)⟩
              · rw [if_neg c17] at H
                exact absurd H (by simp)
            · rw [if_neg c14] at H
              exact absurd H (by simp)
          · rw [if_neg c13] at H
            exact absurd H (by simp)
        · rw [if_neg c12] at H
          exact absurd H (by simp)


end Go.Proofs.Ytnmcdkekflnekaa.QE
/- The statement EntryUndone in plain words. -/
namespace Go.Proofs.Ytnmcdkekflnekaa
open Go.RowKit
set_option linter.unusedVariables false
set_option linter.unusedSimpArgs false
open Go.RowKit Go.Proofs.Ytnmcdkekflnekaa.QE Go.Proofs.YtnmcdkekflnekaaW.PrintWords Go.Proofs.YtnmcdkekflnekaaW.PrintMore
theorem lives25_a : (cutF ⟨#[97, 98, 32, 32, 99, 100, 32]⟩ 7 0 (chopI (ls ⟨#[97, 98, 32, 32, 99, 100, 32]⟩) 7 0)).1.data.toList = [97, 98, 32, 32] := by decide +kernel
theorem lives25_b : (cutF ⟨#[97, 98, 32, 32, 99, 100, 32]⟩ 7 0 (chopI (ls ⟨#[97, 98, 32, 32, 99, 100, 32]⟩) 7 0)).2 = (4, 0) := by decide +kernel
theorem lives25 : calamuslaw25_lives.f = some true := by
  unfold calamuslaw25_lives.f
  rw [entry_Chop.eq _ _ _ (by decide)]
  simp only [Option.bind_some]
  rw [toList_ls, if_pos lives25_a, lives25_b]
  simp
theorem lives25' : Ev (fun _ => calamuslaw25_lives.f.bind fun t => some t) true := ⟨0, fun _ _ => by rw [lives25]; rfl⟩
theorem type_ev (t : ByteArray) (p : Int) (s : ByteArray) (ht : t.size ≤ 1000000) (hs : s.size ≤ 1000000) : Ev (fun k => entry_Type.f k t p s) (typeF t p s) := by
  unfold entry_Type.f typeF
  rw [utf_Place.eq t p (by omega), utf_Valid.eq s (by omega)]
  simp only [Option.bind_some]
  rcases Bool.eq_false_or_eq_true (placeB (ls t) p) with hp | hp
  · refine Ev.pos hp ?_
    rcases Bool.eq_false_or_eq_true (validL (ls s)) with hv | hv
    · rw [if_pos ⟨hp, hv⟩, hv]
      obtain ⟨a, rfl, ha⟩ := place_nat hp
      rw [ls_len] at ha
      refine Ev.step (fun _ => (by rw [entry_Type.j0])) ?_
      rw [w64 (n := (t.size : Int) + s.size) (by omega) (by omega), w64 (n := (a : Int) + s.size) (by omega) (by omega)]
      refine Ev.neg (by decide) (Ev.ite (fun h => ?_) (fun h => ?_))
      · rw [if_pos (show t.size + s.size > 4096 by omega)]; exact Ev.ret rfl
      · rw [if_neg (show ¬ t.size + s.size > 4096 by omega)]
        refine Ev.pos (by omega) (Ev.pos (by omega) (Ev.pos ?_ (Ev.pos ?_ (Ev.ret rfl))))
        · simp only [ByteArray.size_extract]; omega
        · simp only [ByteArray.size_extract, ByteArray.size_append]; omega
    · rw [if_neg (by rw [hv]; simp), hv]
      refine Ev.step (fun _ => (by rw [entry_Type.j0])) ?_
      exact Ev.pos rfl (Ev.ret rfl)
  · refine Ev.neg (by rw [hp]; decide) ?_
    rw [if_neg (by rw [hp]; simp)]
    refine Ev.step (fun _ => (by rw [entry_Type.j0])) ?_
    exact Ev.pos rfl (Ev.ret rfl)
theorem back_val {u : ByteArray} (hu : u.size ≤ 1000000) (a b : Int) : entry_Back.f u a b = some (cutF u a b (backQ (ls u) a b)) := entry_Back.eq u a b (by omega)
theorem und_l0 (t s : ByteArray) (p : Nat) (ht : t.size ≤ 500) (hs : s.size ≤ 200) (hp : placeB (ls t) p = true) : ∀ (n j : Nat) (u : ByteArray), j ≤ n → placeB (ls s) j = true → ls u = undL (ls t) (ls s) p j →
    Ev (fun k => calamuslaw25_EntryUndone.l0 k t p u ((p + j : Nat) : Int) (cntL ((ls s).take j) : Nat)) true := by
  intro n
  induction n with
  | zero =>
    intro j u hj hpj hu
    obtain rfl : j = 0 := by omega
    have hz : u.size ≤ 1000000 := by rw [size_ls, hu, und_all, ls_len]; omega
    refine Ev.step (fun _ => (by rw [calamuslaw25_EntryUndone.l0])) ?_
    refine Ev.neg (by simp [cntL]) (Ev.call (back_val hz _ _) ?_)
    have hpu : placeB (ls u) p = true := by rw [hu, und_all]; exact hp
    have e : cutF u ((p + 0 : Nat) : Int) p (backQ (ls u) ((p + 0 : Nat) : Int) p) = (⟨#[]⟩, 0, 10) := cutF_le hpu hpu (by omega)
    rw [e]
    exact Ev.pos (by rw [toList_ls, toList_ls, hu, und_all]) (Ev.pos (by simp) (Ev.pos rfl lives25'))
  | succ n ih =>
    intro j u hj hpj hu
    by_cases h0 : j = 0
    · exact ih j u (by omega) hpj hu
    · obtain ⟨_, hle, hv⟩ := valid_at hp
      obtain ⟨_, hle2, hv2⟩ := valid_at hpj
      rw [ls_len] at hle hle2
      have hz : u.size ≤ 1000000 := by
        rw [size_ls, hu]; unfold undL
        simp only [List.length_append, List.length_take, List.length_drop, ls_len]; omega
      have hc := cnt_prev hpj (by omega)
      obtain ⟨g1, g2, _⟩ := prev_gap hv2 (j - 1) (by rw [ls_len]; omega)
      obtain ⟨f1, f2, f3⟩ := und_facts hp hpj
      have f4 := und_prev hp hpj (by omega)
      rw [← hu] at f2 f3 f4
      have e : cutF u ((p + j : Nat) : Int) p (backQ (ls u) ((p + j : Nat) : Int) p) = (cutS u (p + j) p (p + prevFrom (ls s) (j - 1)), ((p + prevFrom (ls s) (j - 1) : Nat) : Int), 0) := by
        unfold backQ
        rw [f4, cutF_ok f3 f2 (by omega), Nat.max_eq_right (by omega)]
      refine Ev.step (fun _ => (by rw [calamuslaw25_EntryUndone.l0])) ?_
      refine Ev.pos (by omega) (Ev.call (back_val hz _ _) ?_)
      rw [e, hc, w64 (n := ((cntL ((ls s).take (prevFrom (ls s) (j - 1))) + 1 : Nat) : Int) - 1) (by omega) (by have := cnt_le (ls s) (prevFrom (ls s) (j - 1)); omega), show ((cntL ((ls s).take (prevFrom (ls s) (j - 1))) + 1 : Nat) : Int) - 1 = (cntL ((ls s).take (prevFrom (ls s) (j - 1))) : Nat) by omega]
      refine Ev.pos rfl (Ev.neg (show ¬ (((p + prevFrom (ls s) (j - 1) : Nat) : Int) ≥ ((p + j : Nat) : Int)) by omega) ?_)
      refine ih (prevFrom (ls s) (j - 1)) _ (by omega) g2 ?_
      rw [cutS_ls, Nat.max_eq_right (by omega), hu]
      exact und_cut (by rw [ls_len]; omega) (by rw [ls_len]; omega) (by omega)
theorem EntryUndone_p (t : ByteArray) (p : Int) (s : ByteArray) (ht : t.size ≤ 140737488351232) (hp : -9223372036854775808 ≤ p ∧ p ≤ 9223372036854775807) (hs : s.size ≤ 140737488351232) : ∃ k, calamuslaw25_EntryUndone.f k t p s = some true := by
  refine Ev.at ?_
  unfold calamuslaw25_EntryUndone.f
  have lv : Ev (fun k => calamuslaw25_EntryUndone.j0 k t p s true) true := by
    refine Ev.step (fun _ => (by rw [calamuslaw25_EntryUndone.j0])) ?_
    exact Ev.pos rfl lives25'
  refine Ev.ite (fun h => lv) (fun h => ?_)
  by_cases h2 : (s.size : Int) > 200
  · rw [decide_eq_true h2]; exact lv
  · rw [decide_eq_false h2]
    refine Ev.step (fun _ => (by rw [calamuslaw25_EntryUndone.j0])) ?_
    refine Ev.neg (by decide) (Ev.bind (type_ev t p s (by omega) (by omega)) ?_)
    by_cases hc : placeB (ls t) p = true ∧ validL (ls s) = true
    · have e : typeF t p s = (t.extract 0 p.toNat ++ s ++ t.extract p.toNat t.size, p + s.size, 0) := by unfold typeF; rw [if_pos hc, if_neg (by omega)]
      rw [e]
      obtain ⟨a, rfl, ha⟩ := place_nat hc.1
      refine Ev.pos rfl (Ev.call (utf_Count.eq s (by omega)) ?_)
      have hj : placeB (ls s) (s.size : Nat) = true := place_mk hc.2 (by rw [ls_len]; exact Nat.le_refl _) (.inl (by rw [ls_len]))
      have := und_l0 t s a (by omega) (by omega) hc.1 s.size s.size (t.extract 0 a ++ s ++ t.extract a t.size) (Nat.le_refl _) hj (by
        rw [ls_cat, ls_cat, ls_ext, ls_ext2]; unfold undL
        rw [List.take_of_length_le (l := ls s) (by rw [ls_len]; exact Nat.le_refl _)]; simp [ls])
      have ec : countI (ls s) = (cntL ((ls s).take s.size) : Nat) := by
        unfold countI; rw [if_pos hc.2, List.take_of_length_le (by rw [ls_len]; exact Nat.le_refl _)]
      rw [ec]
      exact this
    · have e : typeF t p s = (⟨#[]⟩, 0, 1) := by unfold typeF; rw [if_neg hc]
      rw [e]
      exact Ev.neg (show ¬ ((1 : Int) = 0) by decide) (Ev.pos (by rw [toList_ls]) (Ev.pos rfl lives25'))
end Go.Proofs.Ytnmcdkekflnekaa
-- Printed by this work's xp.py out of the translation. Lean checks it.
namespace Go.Proofs.Ytnmcdkekflnekaa.QE
open Go.RowKit Go.Proofs.YtnmcdkekflnekaaW.PrintWords Go.Proofs.YtnmcdkekflnekaaW.PrintLast Go.Proofs.YtnmcdkekflnekaaW.PrintMore
attribute [local go_sem] max2_int min2_int max_two min_two max_three min_three max_four min_four   -- for this text's walks alone
set_option linter.unusedVariables false
set_option linter.unusedSimpArgs false


/-! ### entry_Again -/
mutual
def entry_Again.j0 : Nat → ByteArray → Int → Int → Int → Bool → Option (ByteArray × Int × Int)
  | 0, _, _, _, _, _ => none
  | k + 1, x0, x1, x2, x3, x26 => if x26 = true then (some ((⟨#[]⟩ : ByteArray), 0, 1)) else (if 0 ≤ x2 then (if x2 ≤ x1 then (if x1 ≤ (x0.size : Int) then (if x3 < 2 then (entry_Again.j1 k x0 x1 x3 (x0.extract (x2 : Int).toNat (x1 : Int).toNat) true) else (entry_Again.j1 k x0 x1 x3 (x0.extract (x2 : Int).toNat (x1 : Int).toNat) ((x0.extract (x2 : Int).toNat (x1 : Int).toNat).toList == ([] : List UInt8)))) else (none)) else (none)) else (none))
def entry_Again.j1 : Nat → ByteArray → Int → Int → ByteArray → Bool → Option (ByteArray × Int × Int)
  | 0, _, _, _, _, _ => none
  | k + 1, x0, x1, x3, x11, x36 => if x36 = true then (some (x0, x1, 0)) else (if x3 > 4096 then (entry_Again.j2 k x0 x1 x3 x11 true) else (entry_Again.j2 k x0 x1 x3 x11 (decide ((wrap64 ((x0.size : Int) + (wrap64 ((wrap64 (x3 - 1)) * (x11.size : Int))))) > 4096))))
def entry_Again.j2 : Nat → ByteArray → Int → Int → ByteArray → Bool → Option (ByteArray × Int × Int)
  | 0, _, _, _, _, _ => none
  | k + 1, x0, x1, x3, x11, x51 => if x51 = true then (some ((⟨#[]⟩ : ByteArray), 0, 8)) else ((strings_Repeat.f x11 (wrap64 (x3 - 1))).bind fun t123 => ((entry_Type.f k x0 x1 t123).bind fun bt124 => (some (bt124.1, bt124.2.1, bt124.2.2))))
end
def entry_Again.f (k : Nat) (a0 : ByteArray) (a1 : Int) (a2 : Int) (a3 : Int) : Option (ByteArray × Int × Int) := (utf_Place.f a0 a1).bind fun t121 => (if t121 = true then ((utf_Place.f a0 a2).bind fun t122 => (if t122 = true then (entry_Again.j0 k a0 a1 a2 a3 (decide (a2 > a1))) else (entry_Again.j0 k a0 a1 a2 a3 true))) else (entry_Again.j0 k a0 a1 a2 a3 true))
theorem entry_Again.mono_l : ∀ k, (∀ y0 y1 y2 y3 y4, LeO (entry_Again.j0 k y0 y1 y2 y3 y4) (entry_Again.j0 (k + 1) y0 y1 y2 y3 y4)) ∧ (∀ y0 y1 y2 y3 y4, LeO (entry_Again.j1 k y0 y1 y2 y3 y4) (entry_Again.j1 (k + 1) y0 y1 y2 y3 y4)) ∧ (∀ y0 y1 y2 y3 y4, LeO (entry_Again.j2 k y0 y1 y2 y3 y4) (entry_Again.j2 (k + 1) y0 y1 y2 y3 y4))
  | 0 => ⟨fun _ _ _ _ _ r h => by simp [entry_Again.j0] at h, fun _ _ _ _ _ r h => by simp [entry_Again.j1] at h, fun _ _ _ _ _ r h => by simp [entry_Again.j2] at h⟩
  | k + 1 => by
    obtain ⟨ih0, ih1, ih2⟩ := entry_Again.mono_l k
    refine ⟨?_, ?_, ?_⟩
    · intro y0 y1 y2 y3 y4
      unfold entry_Again.j0
      repeat' first
      | (with_reducible exact ih0 _ _ _ _ _)
      | (with_reducible exact ih1 _ _ _ _ _)
      | (with_reducible exact ih2 _ _ _ _ _)
      | (with_reducible exact entry_Type.mono _ _ _ _)
      | (with_reducible exact LeO.refl _)
      | (with_reducible exact LeO.none _)
      | (with_reducible refine LeO.ite ?_ ?_)
      | (with_reducible refine LeO.bind ?_ (fun _ => ?_))
      | exact ih0 _ _ _ _ _
      | exact ih1 _ _ _ _ _
      | exact ih2 _ _ _ _ _
      | exact entry_Type.mono _ _ _ _
      | exact LeO.none _
      | refine LeO.ite ?_ ?_
      | refine LeO.bind ?_ (fun _ => ?_)
    · intro y0 y1 y2 y3 y4
      unfold entry_Again.j1
      repeat' first
      | (with_reducible exact ih0 _ _ _ _ _)
      | (with_reducible exact ih1 _ _ _ _ _)
      | (with_reducible exact ih2 _ _ _ _ _)
      | (with_reducible exact entry_Type.mono _ _ _ _)
      | (with_reducible exact LeO.refl _)
      | (with_reducible exact LeO.none _)
      | (with_reducible refine LeO.ite ?_ ?_)
      | (with_reducible refine LeO.bind ?_ (fun _ => ?_))
      | exact ih0 _ _ _ _ _
      | exact ih1 _ _ _ _ _
      | exact ih2 _ _ _ _ _
      | exact entry_Type.mono _ _ _ _
      | exact LeO.none _
      | refine LeO.ite ?_ ?_
      | refine LeO.bind ?_ (fun _ => ?_)
    · intro y0 y1 y2 y3 y4
      unfold entry_Again.j2
      repeat' first
      | (with_reducible exact ih0 _ _ _ _ _)
      | (with_reducible exact ih1 _ _ _ _ _)
      | (with_reducible exact ih2 _ _ _ _ _)
      | (with_reducible exact entry_Type.mono _ _ _ _)
      | (with_reducible exact LeO.refl _)
      | (with_reducible exact LeO.none _)
      | (with_reducible refine LeO.ite ?_ ?_)
      | (with_reducible refine LeO.bind ?_ (fun _ => ?_))
      | exact ih0 _ _ _ _ _
      | exact ih1 _ _ _ _ _
      | exact ih2 _ _ _ _ _
      | exact entry_Type.mono _ _ _ _
      | exact LeO.none _
      | refine LeO.ite ?_ ?_
      | refine LeO.bind ?_ (fun _ => ?_)
theorem entry_Again.mono : ∀ a0 a1 a2 a3 k, LeO (entry_Again.f k a0 a1 a2 a3) (entry_Again.f (k + 1) a0 a1 a2 a3) := by
  intro a0 a1 a2 a3 k
  obtain ⟨ih0, ih1, ih2⟩ := entry_Again.mono_l k
  unfold entry_Again.f
  repeat' first
      | (with_reducible exact ih0 _ _ _ _ _)
      | (with_reducible exact ih1 _ _ _ _ _)
      | (with_reducible exact ih2 _ _ _ _ _)
      | (with_reducible exact entry_Type.mono _ _ _ _)
      | (with_reducible exact LeO.refl _)
      | (with_reducible exact LeO.none _)
      | (with_reducible refine LeO.ite ?_ ?_)
      | (with_reducible refine LeO.bind ?_ (fun _ => ?_))
      | exact ih0 _ _ _ _ _
      | exact ih1 _ _ _ _ _
      | exact ih2 _ _ _ _ _
      | exact entry_Type.mono _ _ _ _
      | exact LeO.none _
      | refine LeO.ite ?_ ?_
      | refine LeO.bind ?_ (fun _ => ?_)
set_option maxHeartbeats 8000000 in
set_option maxRecDepth 100000 in
theorem entry_Again.calls (k : Nat) (a0 : ByteArray) (a1 : Int) (a2 : Int) (a3 : Int) (r1 : ByteArray) (r2 : Int) (r3 : Int) (w : World) (h : entry_Again.f k a0 a1 a2 a3 = some (r1, r2, r3)) :
    Calls Try.prog 33 #[.string a0, .int .i64 a1, .int .i64 a2, .int .i64 a3] w fun e w' => e = .returned (.tuple #[.string r1, .int .i64 r2, .int .i64 r3]) ∧ Below w.heap.size w w' := by
  have HB := Aside0.mk (Below.refl w.heap.size w)
  have H : ((utf_Place.f a0 a1).bind fun t121 => (if t121 = true then ((utf_Place.f a0 a2).bind fun t122 => (if t122 = true then (entry_Again.j0 k a0 a1 a2 a3 (decide (a2 > a1))) else (entry_Again.j0 k a0 a1 a2 a3 true))) else (entry_Again.j0 k a0 a1 a2 a3 true))) = some (r1, r2, r3) := h
  clear h
  have HC5 := Aside0.mk H
  clear H
  go_enter Try.func33, Try.ntmps33
  go_upto_region 1 with (fail)
  go_cut [26] (fun v26 wc => ∃ (kq : Nat) (x26_4 : Bool), v26 = .bool x26_4 ∧ Aside0 (entry_Again.j0 kq a0 a1 a2 a3 x26_4 = some (r1, r2, r3)) ∧ Aside0 (kq ≤ k) ∧ Aside0 (Below w.heap.size w wc))
  case first =>
    have H := HC5.out
    clear HC5
    replace H := Option.bind_eq_some_iff.mp H
    obtain ⟨t121, A60, H⟩ := H
    replace H : (if t121 = true then ((utf_Place.f a0 a2).bind fun t122 => (if t122 = true then (entry_Again.j0 k a0 a1 a2 a3 (decide (a2 > a1))) else (entry_Again.j0 k a0 a1 a2 a3 true))) else (entry_Again.j0 k a0 a1 a2 a3 true)) = some (r1, r2, r3) := H
    have A6 := Aside0.mk A60
    clear A60
    by_cases c7 : t121 = true
    · subst c7
      have H1 : ((utf_Place.f a0 a2).bind fun t122 => (if t122 = true then (entry_Again.j0 k a0 a1 a2 a3 (decide (a2 > a1))) else (entry_Again.j0 k a0 a1 a2 a3 true))) = some (r1, r2, r3) := by rw [if_pos rfl] at H; exact H
      clear H
      have H := H1
      clear H1
      replace H := Option.bind_eq_some_iff.mp H
      obtain ⟨t122, A80, H⟩ := H
      replace H : (if t122 = true then (entry_Again.j0 k a0 a1 a2 a3 (decide (a2 > a1))) else (entry_Again.j0 k a0 a1 a2 a3 true)) = some (r1, r2, r3) := H
      have A8 := Aside0.mk A80
      clear A80
      by_cases c9 : t122 = true
      · subst c9
        have H1 : (entry_Again.j0 k a0 a1 a2 a3 (decide (a2 > a1))) = some (r1, r2, r3) := by rw [if_pos rfl] at H; exact H
        clear H
        have H := H1
        clear H1
        have H' := Aside0.mk H
        clear H
        go_wp2_with (first | ((with_reducible refine gate_callee (f := 45) rfl ?_); refine goesL_ (some 14) rfl rfl Try.func45 (by kernel_rfl) rfl #[.string a0, .int .i64 a1] rfl (by (try simp only [List.map_toArray, List.map_cons, List.map_nil]); first | done | rfl | (simp only [List.length_drop, List.length_take]; rfl)) ?_; (with_reducible refine (utf_Place.calls a0 a1 true _ A6.out).mono ?_); rintro e w10 ⟨rfl, hb⟩; refine ⟨_, rfl, ?_⟩; have n0_ := Aside0.mk (below_step (by repeat (first | (with_reducible first | exact HB.out | apply below_alloc | apply pw_below_drewN | apply below_drew1) | exact HB.out)) hb); clear HB; have HB := n0_; clear n0_; (try clear hb); (try clear hb2); (try clear hk); (try clear hi)) | (go_at_call 45; (with_reducible refine (utf_Place.calls a0 a2 true _ A8.out).mono ?_); rintro e w11 ⟨rfl, hb⟩; have n0_ := Aside0.mk (below_step (by repeat (first | (with_reducible first | exact HB.out | apply below_alloc | apply pw_below_drewN | apply below_drew1) | exact HB.out)) hb); clear HB; have HB := n0_; clear n0_; (try clear hb); (try clear hb2); (try clear hk); (try clear hi)))
        go_meet
        case rel => exact ⟨_, (decide (a2 > a1)), (by first | rfl | (simp; done) | (simp [*]; done)), H', ⟨by first | omega | exact Nat.le_refl _⟩, ⟨by repeat (first | (with_reducible first | exact HB.out | apply below_alloc | apply pw_below_drewN | apply below_drew1) | exact HB.out)⟩⟩
      · replace c9 := Bool.eq_false_iff.mpr c9
        subst c9
        have H1 : (entry_Again.j0 k a0 a1 a2 a3 true) = some (r1, r2, r3) := by rw [if_neg (show ¬ (false = true) by decide)] at H; exact H
        clear H
        have H := H1
        clear H1
        have H' := Aside0.mk H
        clear H
        go_wp2_with (first | ((with_reducible refine gate_callee (f := 45) rfl ?_); refine goesL_ (some 14) rfl rfl Try.func45 (by kernel_rfl) rfl #[.string a0, .int .i64 a1] rfl (by (try simp only [List.map_toArray, List.map_cons, List.map_nil]); first | done | rfl | (simp only [List.length_drop, List.length_take]; rfl)) ?_; (with_reducible refine (utf_Place.calls a0 a1 true _ A6.out).mono ?_); rintro e w12 ⟨rfl, hb⟩; refine ⟨_, rfl, ?_⟩; have n0_ := Aside0.mk (below_step (by repeat (first | (with_reducible first | exact HB.out | apply below_alloc | apply pw_below_drewN | apply below_drew1) | exact HB.out)) hb); clear HB; have HB := n0_; clear n0_; (try clear hb); (try clear hb2); (try clear hk); (try clear hi)) | (go_at_call 45; (with_reducible refine (utf_Place.calls a0 a2 false _ A8.out).mono ?_); rintro e w13 ⟨rfl, hb⟩; have n0_ := Aside0.mk (below_step (by repeat (first | (with_reducible first | exact HB.out | apply below_alloc | apply pw_below_drewN | apply below_drew1) | exact HB.out)) hb); clear HB; have HB := n0_; clear n0_; (try clear hb); (try clear hb2); (try clear hk); (try clear hi)))
        go_meet
        case rel => exact ⟨_, (true), (by first | rfl | (simp; done) | (simp [*]; done)), H', ⟨by first | omega | exact Nat.le_refl _⟩, ⟨by repeat (first | (with_reducible first | exact HB.out | apply below_alloc | apply pw_below_drewN | apply below_drew1) | exact HB.out)⟩⟩
    · replace c7 := Bool.eq_false_iff.mpr c7
      subst c7
      have H1 : (entry_Again.j0 k a0 a1 a2 a3 true) = some (r1, r2, r3) := by rw [if_neg (show ¬ (false = true) by decide)] at H; exact H
      clear H
      have H := H1
      clear H1
      have H' := Aside0.mk H
      clear H
      go_wp2_with (first | ((with_reducible refine gate_callee (f := 45) rfl ?_); refine goesL_ (some 14) rfl rfl Try.func45 (by kernel_rfl) rfl #[.string a0, .int .i64 a1] rfl (by (try simp only [List.map_toArray, List.map_cons, List.map_nil]); first | done | rfl | (simp only [List.length_drop, List.length_take]; rfl)) ?_; (with_reducible refine (utf_Place.calls a0 a1 false _ A6.out).mono ?_); rintro e w14 ⟨rfl, hb⟩; refine ⟨_, rfl, ?_⟩; have n0_ := Aside0.mk (below_step (by repeat (first | (with_reducible first | exact HB.out | apply below_alloc | apply pw_below_drewN | apply below_drew1) | exact HB.out)) hb); clear HB; have HB := n0_; clear n0_; (try clear hb); (try clear hb2); (try clear hk); (try clear hi)))
      go_meet
      case rel => exact ⟨_, (true), (by first | rfl | (simp; done) | (simp [*]; done)), H', ⟨by first | omega | exact Nat.le_refl _⟩, ⟨by repeat (first | (with_reducible first | exact HB.out | apply below_alloc | apply pw_below_drewN | apply below_drew1) | exact HB.out)⟩⟩
  case rest =>
    clear HC5
    try clear p2
    try clear c3
    try clear c4
    try clear c7
    try clear c9
    obtain ⟨kq, x26_4, rfl, HA, HJ4, HB⟩ := hcut
    cases kq with
    | zero => exact absurd HA.out (by simp [entry_Again.j0])
    | succ kj4 =>
      have H := HA.out
      clear HA
      simp only [entry_Again.j0] at H
      by_cases c15 : x26_4 = true
      · subst c15
        have H1 : (some ((⟨#[]⟩ : ByteArray), 0, 1)) = some (r1, r2, r3) := by rw [if_pos rfl] at H; exact H
        clear H
        have H := H1
        clear H1
        simp only [Option.some.injEq, Prod.mk.injEq] at H
        obtain ⟨rfl, rfl, rfl⟩ := H
        go_wp2
        go_ret3
        exact ⟨by first | rfl | (simp [errW_none, errW_some] <;> rfl) | (simp [*, errW_none, errW_some] <;> rfl), by repeat (first | (with_reducible first | exact HB.out | apply below_alloc | apply pw_below_drewN | apply below_drew1) | exact HB.out)⟩
      · replace c15 := Bool.eq_false_iff.mpr c15
        subst c15
        have H1 : (if 0 ≤ a2 then (if a2 ≤ a1 then (if a1 ≤ (a0.size : Int) then (if a3 < 2 then (entry_Again.j1 kj4 a0 a1 a3 (a0.extract (a2 : Int).toNat (a1 : Int).toNat) true) else (entry_Again.j1 kj4 a0 a1 a3 (a0.extract (a2 : Int).toNat (a1 : Int).toNat) ((a0.extract (a2 : Int).toNat (a1 : Int).toNat).toList == ([] : List UInt8)))) else (none)) else (none)) else (none)) = some (r1, r2, r3) := by rw [if_neg (show ¬ (false = true) by decide)] at H; exact H
        clear H
        have H := H1
        clear H1
        by_cases c16 : 0 ≤ a2
        · rw [if_pos c16] at H
          have c16b0 := eq_true c16
          have c16b1 : decide (0 ≤ a2) = true := decide_eq_true c16
          clear c16
          by_cases c17 : a2 ≤ a1
          · rw [if_pos c17] at H
            have c17b0 := eq_true c17
            have c17b1 : decide (a2 ≤ a1) = true := decide_eq_true c17
            clear c17
            by_cases c18 : a1 ≤ (a0.size : Int)
            · rw [if_pos c18] at H
              have c18b0 := eq_true c18
              have c18b1 : decide (a1 ≤ (a0.size : Int)) = true := decide_eq_true c18
              clear c18
              have HC19 := Aside0.mk H
              clear H
              go_upto_region 4 with (fail)
              go_cut [36] (fun v36 wc => ∃ (kq : Nat) (x36_18 : Bool), v36 = .bool x36_18 ∧ Aside0 (entry_Again.j1 kq a0 a1 a3 (a0.extract (a2 : Int).toNat (a1 : Int).toNat) x36_18 = some (r1, r2, r3)) ∧ Aside0 (kq ≤ kj4) ∧ Aside0 (Below w.heap.size w wc))
              case first =>
                have H := HC19.out
                clear HC19
                by_cases c20 : a3 < 2
                · rw [if_pos c20] at H
                  have c20b0 : decide (a3 < 2) = true := decide_eq_true c20
                  clear c20
                  (first | rw [c20b0] | (simp only [i64_w, i32_w]; rw [c20b0]) | skip)
                  have H' := Aside0.mk H
                  clear H
                  go_wp2
                  go_meet
                  case rel => exact ⟨_, (true), (by first | rfl | (simp; done) | (simp [*]; done)), H', ⟨by have := HJ4.out; first | omega | exact Nat.le_refl _⟩, ⟨by repeat (first | (with_reducible first | exact HB.out | apply below_alloc | apply pw_below_drewN | apply below_drew1) | exact HB.out)⟩⟩
                · rw [if_neg c20] at H
                  have c20b0 : decide (a3 < 2) = false := decide_eq_false c20
                  clear c20
                  (first | rw [c20b0] | (simp only [i64_w, i32_w]; rw [c20b0]) | skip)
                  have H' := Aside0.mk H
                  clear H
                  go_wp2
                  go_meet
                  case rel => exact ⟨_, (((a0.extract (a2 : Int).toNat (a1 : Int).toNat).toList == ([] : List UInt8))), (by first | rfl | (simp; done) | (simp [*]; done)), H', ⟨by have := HJ4.out; first | omega | exact Nat.le_refl _⟩, ⟨by repeat (first | (with_reducible first | exact HB.out | apply below_alloc | apply pw_below_drewN | apply below_drew1) | exact HB.out)⟩⟩
              case rest =>
                clear HC19
                try clear c1
                try clear c2
                try clear p2
                try clear c3
                try clear c4
                try clear c7
                try clear c9
                try clear c15
                try clear c16
                try clear c16b0
                try clear c16b1
                try clear c17
                try clear c17b0
                try clear c17b1
                try clear c18
                try clear c18b0
                try clear c18b1
                try clear c20
                try clear c20b0
                try clear p2
                obtain ⟨kq, x36_18, rfl, HA, HJ18, HB⟩ := hcut
                cases kq with
                | zero => exact absurd HA.out (by simp [entry_Again.j1])
                | succ kj18 =>
                  have H := HA.out
                  clear HA
                  simp only [entry_Again.j1] at H
                  by_cases c21 : x36_18 = true
                  · subst c21
                    have H1 : (some (a0, a1, 0)) = some (r1, r2, r3) := by rw [if_pos rfl] at H; exact H
                    clear H
                    have H := H1
                    clear H1
                    simp only [Option.some.injEq, Prod.mk.injEq] at H
                    obtain ⟨rfl, rfl, rfl⟩ := H
                    go_wp2
                    go_ret3
                    exact ⟨by first | rfl | (simp [errW_none, errW_some] <;> rfl) | (simp [*, errW_none, errW_some] <;> rfl), by repeat (first | (with_reducible first | exact HB.out | apply below_alloc | apply pw_below_drewN | apply below_drew1) | exact HB.out)⟩
                  · replace c21 := Bool.eq_false_iff.mpr c21
                    subst c21
                    have H1 : (if a3 > 4096 then (entry_Again.j2 kj18 a0 a1 a3 (a0.extract (a2 : Int).toNat (a1 : Int).toNat) true) else (entry_Again.j2 kj18 a0 a1 a3 (a0.extract (a2 : Int).toNat (a1 : Int).toNat) (decide ((wrap64 ((a0.size : Int) + (wrap64 ((wrap64 (a3 - 1)) * ((a0.extract (a2 : Int).toNat (a1 : Int).toNat).size : Int))))) > 4096)))) = some (r1, r2, r3) := by rw [if_neg (show ¬ (false = true) by decide)] at H; exact H
                    clear H
                    have H := H1
                    clear H1
                    have HC22 := Aside0.mk H
                    clear H
                    go_upto_region 6 with (fail)
                    go_cut [51] (fun v51 wc => ∃ (kq : Nat) (x51_21 : Bool), v51 = .bool x51_21 ∧ Aside0 (entry_Again.j2 kq a0 a1 a3 (a0.extract (a2 : Int).toNat (a1 : Int).toNat) x51_21 = some (r1, r2, r3)) ∧ Aside0 (kq ≤ kj18) ∧ Aside0 (Below w.heap.size w wc))
                    case first =>
                      have H := HC22.out
                      clear HC22
                      by_cases c23 : a3 > 4096
                      · rw [if_pos c23] at H
                        have c23b0 : decide (4096 < a3) = true := decide_eq_true c23
                        clear c23
                        (first | rw [c23b0] | (simp only [i64_w, i32_w]; rw [c23b0]) | skip)
                        have H' := Aside0.mk H
                        clear H
                        go_wp2
                        go_meet
                        case rel => exact ⟨_, (true), (by first | rfl | (simp; done) | (simp [*]; done)), H', ⟨by have := HJ4.out; have := HJ18.out; first | omega | exact Nat.le_refl _⟩, ⟨by repeat (first | (with_reducible first | exact HB.out | apply below_alloc | apply pw_below_drewN | apply below_drew1) | exact HB.out)⟩⟩
                      · rw [if_neg c23] at H
                        have c23b0 : decide (4096 < a3) = false := decide_eq_false c23
                        clear c23
                        (first | rw [c23b0] | (simp only [i64_w, i32_w]; rw [c23b0]) | skip)
                        have H' := Aside0.mk H
                        clear H
                        go_wp2
                        go_meet
                        case rel => exact ⟨_, (decide ((wrap64 ((a0.size : Int) + (wrap64 ((wrap64 (a3 - 1)) * ((a0.extract (a2 : Int).toNat (a1 : Int).toNat).size : Int))))) > 4096)), (by first | rfl | (simp; done) | (simp [*]; done)), H', ⟨by have := HJ4.out; have := HJ18.out; first | omega | exact Nat.le_refl _⟩, ⟨by repeat (first | (with_reducible first | exact HB.out | apply below_alloc | apply pw_below_drewN | apply below_drew1) | exact HB.out)⟩⟩
                    case rest =>
                      clear HC22
                      try clear c1
                      try clear c2
                      try clear p2
                      try clear c3
                      try clear c4
                      try clear p6
                      try clear c7
                      try clear c9
                      try clear c15
                      try clear c16
                      try clear c16b0
                      try clear c16b1
                      try clear c17
                      try clear c17b0
                      try clear c17b1
                      try clear c18
                      try clear c18b0
                      try clear c18b1
                      try clear c20
                      try clear c20b0
                      try clear c21
                      try clear c23
                      try clear c23b0
                      try clear p2
                      obtain ⟨kq, x51_21, rfl, HA, HJ21, HB⟩ := hcut
                      cases kq with
                      | zero => exact absurd HA.out (by simp [entry_Again.j2])
                      | succ kj21 =>
                        have H := HA.out
                        clear HA
                        simp only [entry_Again.j2] at H
                        by_cases c24 : x51_21 = true
                        · subst c24
                          have H1 : (some ((⟨#[]⟩ : ByteArray), 0, 8)) = some (r1, r2, r3) := by rw [if_pos rfl] at H; exact H
                          clear H
                          have H := H1
                          clear H1
                          simp only [Option.some.injEq, Prod.mk.injEq] at H
                          obtain ⟨rfl, rfl, rfl⟩ := H
                          go_wp2
                          go_ret3
                          exact ⟨by first | rfl | (simp [errW_none, errW_some] <;> rfl) | (simp [*, errW_none, errW_some] <;> rfl), by repeat (first | (with_reducible first | exact HB.out | apply below_alloc | apply pw_below_drewN | apply below_drew1) | exact HB.out)⟩
                        · replace c24 := Bool.eq_false_iff.mpr c24
                          subst c24
                          have H1 : ((strings_Repeat.f (a0.extract (a2 : Int).toNat (a1 : Int).toNat) (wrap64 (a3 - 1))).bind fun t123 => ((entry_Type.f kj21 a0 a1 t123).bind fun bt124 => (some (bt124.1, bt124.2.1, bt124.2.2)))) = some (r1, r2, r3) := by rw [if_neg (show ¬ (false = true) by decide)] at H; exact H
                          clear H
                          have H := H1
                          clear H1
                          replace H := Option.bind_eq_some_iff.mp H
                          obtain ⟨t123, A250, H⟩ := H
                          replace H : ((entry_Type.f kj21 a0 a1 t123).bind fun bt124 => (some (bt124.1, bt124.2.1, bt124.2.2))) = some (r1, r2, r3) := H
                          have A25 := Aside0.mk A250
                          clear A250
                          replace H := Option.bind_eq_some_iff.mp H
                          obtain ⟨⟨t124, t125, t126⟩, A260, H⟩ := H
                          replace H : (some (t124, t125, t126)) = some (r1, r2, r3) := H
                          have A26 := Aside0.mk A260
                          clear A260
                          simp only [Option.some.injEq, Prod.mk.injEq] at H
                          obtain ⟨rfl, rfl, rfl⟩ := H
                          go_wp2_with (first | ((with_reducible refine gate_callee (f := 77) rfl ?_); refine goesL_ (some 57) rfl rfl Try.func77 (by kernel_rfl) rfl #[.string (a0.extract (a2 : Int).toNat (a1 : Int).toNat), .int .i64 (wrap64 (a3 - 1))] rfl (by (try simp only [List.map_toArray, List.map_cons, List.map_nil]); first | done | rfl | (simp only [List.length_drop, List.length_take]; rfl)) ?_; (with_reducible refine (strings_Repeat.calls (a0.extract (a2 : Int).toNat (a1 : Int).toNat) (wrap64 (a3 - 1)) t123 _ A25.out).mono ?_); rintro e w27 ⟨rfl, hb⟩; refine ⟨_, rfl, ?_⟩; have n0_ := Aside0.mk (below_step (by repeat (first | (with_reducible first | exact HB.out | apply below_alloc | apply pw_below_drewN | apply below_drew1) | exact HB.out)) hb); clear HB; have HB := n0_; clear n0_; (try clear hb); (try clear hb2); (try clear hk); (try clear hi)) | ((with_reducible refine gate_callee (f := 15) rfl ?_); refine goesL_ (some 58) rfl rfl Try.func15 (by kernel_rfl) rfl #[.string a0, .int .i64 a1, .string t123] rfl (by (try simp only [List.map_toArray, List.map_cons, List.map_nil]); first | done | rfl | (simp only [List.length_drop, List.length_take]; rfl)) ?_; (with_reducible refine (entry_Type.calls kj21 a0 a1 t123 t124 t125 t126 _ A26.out).mono ?_); rintro e w28 ⟨rfl, hb⟩; refine ⟨_, rfl, ?_⟩; have n0_ := Aside0.mk (below_step (by repeat (first | (with_reducible first | exact HB.out | apply below_alloc | apply pw_below_drewN | apply below_drew1) | exact HB.out)) hb); clear HB; have HB := n0_; clear n0_; (try clear hb); (try clear hb2); (try clear hk); (try clear hi)))
                          go_ret3
                          exact ⟨by first | rfl | (simp [errW_none, errW_some] <;> rfl) | (simp [*, errW_none, errW_some] <;> rfl), by repeat (first | (with_reducible first | exact HB.out | apply below_alloc | apply pw_below_drewN | apply below_drew1) | exact HB.out)⟩
            · rw [if_neg c18] at H
              exact absurd H (by simp)
          · rw [if_neg c17] at H
            exact absurd H (by simp)
        · rw [if_neg c16] at H
          exact absurd H (by simp)

/-! ### calamusref25_Again -/
mutual
def calamusref25_Again.j0 : Nat → ByteArray → Int → Int → Int → Bool → Option (ByteArray × Int × Int)
  | 0, _, _, _, _, _ => none
  | k + 1, x0, x1, x2, x3, x27 => if x27 = true then (some ((⟨#[]⟩ : ByteArray), 0, 1)) else (if 0 ≤ x2 then (if x2 ≤ x1 then (if x1 ≤ (x0.size : Int) then (calamusref25_Again.l0 k x0 x1 x3 (x0.extract (x2 : Int).toNat (x1 : Int).toNat) 1) else (none)) else (none)) else (none))
def calamusref25_Again.l0 : Nat → ByteArray → Int → Int → ByteArray → Int → Option (ByteArray × Int × Int)
  | 0, _, _, _, _, _ => none
  | k + 1, x0, x1, x3, x11, x12 => if x12 < x3 then (calamusref25_Again.j2 k x0 x1 x3 x11 x12 (x11.toList != ([] : List UInt8))) else (calamusref25_Again.j2 k x0 x1 x3 x11 x12 false)
def calamusref25_Again.j2 : Nat → ByteArray → Int → Int → ByteArray → Int → Bool → Option (ByteArray × Int × Int)
  | 0, _, _, _, _, _, _ => none
  | k + 1, x0, x1, x3, x11, x12, x38 => if x38 = true then (if 0 ≤ x1 then (if x1 ≤ (x0.size : Int) then (if (x0.extract 0 (x1 : Int).toNat).size + x11.size ≤ 9223372036854775807 then (if ((x0.extract 0 (x1 : Int).toNat) ++ x11).size + (x0.extract (x1 : Int).toNat x0.size).size ≤ 9223372036854775807 then (if ((((x0.extract 0 (x1 : Int).toNat) ++ x11) ++ (x0.extract (x1 : Int).toNat x0.size)).size : Int) > 4096 then (some ((⟨#[]⟩ : ByteArray), 0, 8)) else (calamusref25_Again.l0 k (((x0.extract 0 (x1 : Int).toNat) ++ x11) ++ (x0.extract (x1 : Int).toNat x0.size)) (wrap64 (x1 + (x11.size : Int))) x3 x11 (wrap64 (x12 + 1)))) else (none)) else (none)) else (none)) else (none)) else (some (x0, x1, 0))
end
def calamusref25_Again.f (k : Nat) (a0 : ByteArray) (a1 : Int) (a2 : Int) (a3 : Int) : Option (ByteArray × Int × Int) := (calamusref03_Place.f a0 a1).bind fun t127 => (if t127 = true then ((calamusref03_Place.f a0 a2).bind fun t128 => (if t128 = true then (calamusref25_Again.j0 k a0 a1 a2 a3 (decide (a2 > a1))) else (calamusref25_Again.j0 k a0 a1 a2 a3 true))) else (calamusref25_Again.j0 k a0 a1 a2 a3 true))
theorem calamusref25_Again.mono_l : ∀ k, (∀ y0 y1 y2 y3 y4, LeO (calamusref25_Again.j0 k y0 y1 y2 y3 y4) (calamusref25_Again.j0 (k + 1) y0 y1 y2 y3 y4)) ∧ (∀ y0 y1 y2 y3 y4, LeO (calamusref25_Again.l0 k y0 y1 y2 y3 y4) (calamusref25_Again.l0 (k + 1) y0 y1 y2 y3 y4)) ∧ (∀ y0 y1 y2 y3 y4 y5, LeO (calamusref25_Again.j2 k y0 y1 y2 y3 y4 y5) (calamusref25_Again.j2 (k + 1) y0 y1 y2 y3 y4 y5))
  | 0 => ⟨fun _ _ _ _ _ r h => by simp [calamusref25_Again.j0] at h, fun _ _ _ _ _ r h => by simp [calamusref25_Again.l0] at h, fun _ _ _ _ _ _ r h => by simp [calamusref25_Again.j2] at h⟩
  | k + 1 => by
    obtain ⟨ih0, ih1, ih2⟩ := calamusref25_Again.mono_l k
    refine ⟨?_, ?_, ?_⟩
    · intro y0 y1 y2 y3 y4
      unfold calamusref25_Again.j0
      repeat' first
      | (with_reducible exact ih0 _ _ _ _ _)
      | (with_reducible exact ih1 _ _ _ _ _)
      | (with_reducible exact ih2 _ _ _ _ _ _)
      | (with_reducible exact LeO.refl _)
      | (with_reducible exact LeO.none _)
      | (with_reducible refine LeO.ite ?_ ?_)
      | (with_reducible refine LeO.bind ?_ (fun _ => ?_))
      | exact ih0 _ _ _ _ _
      | exact ih1 _ _ _ _ _
      | exact ih2 _ _ _ _ _ _
      | exact LeO.none _
      | refine LeO.ite ?_ ?_
      | refine LeO.bind ?_ (fun _ => ?_)
    · intro y0 y1 y2 y3 y4
      unfold calamusref25_Again.l0
      repeat' first
      | (with_reducible exact ih0 _ _ _ _ _)
      | (with_reducible exact ih1 _ _ _ _ _)
      | (with_reducible exact ih2 _ _ _ _ _ _)
      | (with_reducible exact LeO.refl _)
      | (with_reducible exact LeO.none _)
      | (with_reducible refine LeO.ite ?_ ?_)
      | (with_reducible refine LeO.bind ?_ (fun _ => ?_))
      | exact ih0 _ _ _ _ _
      | exact ih1 _ _ _ _ _
      | exact ih2 _ _ _ _ _ _
      | exact LeO.none _
      | refine LeO.ite ?_ ?_
      | refine LeO.bind ?_ (fun _ => ?_)
    · intro y0 y1 y2 y3 y4 y5
      unfold calamusref25_Again.j2
      repeat' first
      | (with_reducible exact ih0 _ _ _ _ _)
      | (with_reducible exact ih1 _ _ _ _ _)
      | (with_reducible exact ih2 _ _ _ _ _ _)
      | (with_reducible exact LeO.refl _)
      | (with_reducible exact LeO.none _)
      | (with_reducible refine LeO.ite ?_ ?_)
      | (with_reducible refine LeO.bind ?_ (fun _ => ?_))
      | exact ih0 _ _ _ _ _
      | exact ih1 _ _ _ _ _
      | exact ih2 _ _ _ _ _ _
      | exact LeO.none _
      | refine LeO.ite ?_ ?_
      | refine LeO.bind ?_ (fun _ => ?_)
theorem calamusref25_Again.mono : ∀ a0 a1 a2 a3 k, LeO (calamusref25_Again.f k a0 a1 a2 a3) (calamusref25_Again.f (k + 1) a0 a1 a2 a3) := by
  intro a0 a1 a2 a3 k
  obtain ⟨ih0, ih1, ih2⟩ := calamusref25_Again.mono_l k
  unfold calamusref25_Again.f
  repeat' first
      | (with_reducible exact ih0 _ _ _ _ _)
      | (with_reducible exact ih1 _ _ _ _ _)
      | (with_reducible exact ih2 _ _ _ _ _ _)
      | (with_reducible exact LeO.refl _)
      | (with_reducible exact LeO.none _)
      | (with_reducible refine LeO.ite ?_ ?_)
      | (with_reducible refine LeO.bind ?_ (fun _ => ?_))
      | exact ih0 _ _ _ _ _
      | exact ih1 _ _ _ _ _
      | exact ih2 _ _ _ _ _ _
      | exact LeO.none _
      | refine LeO.ite ?_ ?_
      | refine LeO.bind ?_ (fun _ => ?_)
set_option maxHeartbeats 8000000 in
set_option maxRecDepth 100000 in
theorem calamusref25_Again.calls (k : Nat) (a0 : ByteArray) (a1 : Int) (a2 : Int) (a3 : Int) (r1 : ByteArray) (r2 : Int) (r3 : Int) (w : World) (h : calamusref25_Again.f k a0 a1 a2 a3 = some (r1, r2, r3)) :
    Calls Try.prog 34 #[.string a0, .int .i64 a1, .int .i64 a2, .int .i64 a3] w fun e w' => e = .returned (.tuple #[.string r1, .int .i64 r2, .int .i64 r3]) ∧ Below w.heap.size w w' := by
  have HB := Aside0.mk (Below.refl w.heap.size w)
  have H : ((calamusref03_Place.f a0 a1).bind fun t127 => (if t127 = true then ((calamusref03_Place.f a0 a2).bind fun t128 => (if t128 = true then (calamusref25_Again.j0 k a0 a1 a2 a3 (decide (a2 > a1))) else (calamusref25_Again.j0 k a0 a1 a2 a3 true))) else (calamusref25_Again.j0 k a0 a1 a2 a3 true))) = some (r1, r2, r3) := h
  clear h
  have HC5 := Aside0.mk H
  clear H
  go_enter Try.func34, Try.ntmps34
  go_upto_region 1 with (fail)
  repeat (go_quiet (fail); go_upto_region 1 with (fail))
  go_cut [27] (fun v27 wc => ∃ (kq : Nat) (x27_4 : Bool), v27 = .bool x27_4 ∧ Aside0 (calamusref25_Again.j0 kq a0 a1 a2 a3 x27_4 = some (r1, r2, r3)) ∧ Aside0 (kq ≤ k) ∧ Aside0 (Below w.heap.size w wc))
  case first =>
    have H := HC5.out
    clear HC5
    replace H := Option.bind_eq_some_iff.mp H
    obtain ⟨t127, A60, H⟩ := H
    replace H : (if t127 = true then ((calamusref03_Place.f a0 a2).bind fun t128 => (if t128 = true then (calamusref25_Again.j0 k a0 a1 a2 a3 (decide (a2 > a1))) else (calamusref25_Again.j0 k a0 a1 a2 a3 true))) else (calamusref25_Again.j0 k a0 a1 a2 a3 true)) = some (r1, r2, r3) := H
    have A6 := Aside0.mk A60
    clear A60
    by_cases c7 : t127 = true
    · subst c7
      have H1 : ((calamusref03_Place.f a0 a2).bind fun t128 => (if t128 = true then (calamusref25_Again.j0 k a0 a1 a2 a3 (decide (a2 > a1))) else (calamusref25_Again.j0 k a0 a1 a2 a3 true))) = some (r1, r2, r3) := by rw [if_pos rfl] at H; exact H
      clear H
      have H := H1
      clear H1
      replace H := Option.bind_eq_some_iff.mp H
      obtain ⟨t128, A80, H⟩ := H
      replace H : (if t128 = true then (calamusref25_Again.j0 k a0 a1 a2 a3 (decide (a2 > a1))) else (calamusref25_Again.j0 k a0 a1 a2 a3 true)) = some (r1, r2, r3) := H
      have A8 := Aside0.mk A80
      clear A80
      by_cases c9 : t128 = true
      · subst c9
        have H1 : (calamusref25_Again.j0 k a0 a1 a2 a3 (decide (a2 > a1))) = some (r1, r2, r3) := by rw [if_pos rfl] at H; exact H
        clear H
        have H := H1
        clear H1
        have H' := Aside0.mk H
        clear H
        go_wp2_with (first | (go_at_call 62; (with_reducible refine (calamusref03_Place.calls a0 a1 true _ A6.out).mono ?_); rintro e w10 ⟨rfl, hb⟩; have n0_ := Aside0.mk (below_step (by repeat (first | (with_reducible first | exact HB.out | apply below_alloc | apply pw_below_drewN | apply below_drew1) | exact HB.out)) hb); clear HB; have HB := n0_; clear n0_; (try clear hb); (try clear hb2); (try clear hk); (try clear hi)) | (go_at_call 62; (with_reducible refine (calamusref03_Place.calls a0 a2 true _ A8.out).mono ?_); rintro e w11 ⟨rfl, hb⟩; have n0_ := Aside0.mk (below_step (by repeat (first | (with_reducible first | exact HB.out | apply below_alloc | apply pw_below_drewN | apply below_drew1) | exact HB.out)) hb); clear HB; have HB := n0_; clear n0_; (try clear hb); (try clear hb2); (try clear hk); (try clear hi)))
        repeat (go_quiet (fail); try go_wp2_with (first | (go_at_call 62; (with_reducible refine (calamusref03_Place.calls a0 a1 true _ A6.out).mono ?_); rintro e w10 ⟨rfl, hb⟩; have n0_ := Aside0.mk (below_step (by repeat (first | (with_reducible first | exact HB.out | apply below_alloc | apply pw_below_drewN | apply below_drew1) | exact HB.out)) hb); clear HB; have HB := n0_; clear n0_; (try clear hb); (try clear hb2); (try clear hk); (try clear hi)) | (go_at_call 62; (with_reducible refine (calamusref03_Place.calls a0 a2 true _ A8.out).mono ?_); rintro e w11 ⟨rfl, hb⟩; have n0_ := Aside0.mk (below_step (by repeat (first | (with_reducible first | exact HB.out | apply below_alloc | apply pw_below_drewN | apply below_drew1) | exact HB.out)) hb); clear HB; have HB := n0_; clear n0_; (try clear hb); (try clear hb2); (try clear hk); (try clear hi))))
        go_meet
        case rel => exact ⟨_, (decide (a2 > a1)), (by first | rfl | (simp; done) | (simp [*]; done)), H', ⟨by first | omega | exact Nat.le_refl _⟩, ⟨by repeat (first | (with_reducible first | exact HB.out | apply below_alloc | apply pw_below_drewN | apply below_drew1) | exact HB.out)⟩⟩
      · replace c9 := Bool.eq_false_iff.mpr c9
        subst c9
        have H1 : (calamusref25_Again.j0 k a0 a1 a2 a3 true) = some (r1, r2, r3) := by rw [if_neg (show ¬ (false = true) by decide)] at H; exact H
        clear H
        have H := H1
        clear H1
        have H' := Aside0.mk H
        clear H
        go_wp2_with (first | (go_at_call 62; (with_reducible refine (calamusref03_Place.calls a0 a1 true _ A6.out).mono ?_); rintro e w12 ⟨rfl, hb⟩; have n0_ := Aside0.mk (below_step (by repeat (first | (with_reducible first | exact HB.out | apply below_alloc | apply pw_below_drewN | apply below_drew1) | exact HB.out)) hb); clear HB; have HB := n0_; clear n0_; (try clear hb); (try clear hb2); (try clear hk); (try clear hi)) | (go_at_call 62; (with_reducible refine (calamusref03_Place.calls a0 a2 false _ A8.out).mono ?_); rintro e w13 ⟨rfl, hb⟩; have n0_ := Aside0.mk (below_step (by repeat (first | (with_reducible first | exact HB.out | apply below_alloc | apply pw_below_drewN | apply below_drew1) | exact HB.out)) hb); clear HB; have HB := n0_; clear n0_; (try clear hb); (try clear hb2); (try clear hk); (try clear hi)))
        repeat (go_quiet (fail); try go_wp2_with (first | (go_at_call 62; (with_reducible refine (calamusref03_Place.calls a0 a1 true _ A6.out).mono ?_); rintro e w12 ⟨rfl, hb⟩; have n0_ := Aside0.mk (below_step (by repeat (first | (with_reducible first | exact HB.out | apply below_alloc | apply pw_below_drewN | apply below_drew1) | exact HB.out)) hb); clear HB; have HB := n0_; clear n0_; (try clear hb); (try clear hb2); (try clear hk); (try clear hi)) | (go_at_call 62; (with_reducible refine (calamusref03_Place.calls a0 a2 false _ A8.out).mono ?_); rintro e w13 ⟨rfl, hb⟩; have n0_ := Aside0.mk (below_step (by repeat (first | (with_reducible first | exact HB.out | apply below_alloc | apply pw_below_drewN | apply below_drew1) | exact HB.out)) hb); clear HB; have HB := n0_; clear n0_; (try clear hb); (try clear hb2); (try clear hk); (try clear hi))))
        go_meet
        case rel => exact ⟨_, (true), (by first | rfl | (simp; done) | (simp [*]; done)), H', ⟨by first | omega | exact Nat.le_refl _⟩, ⟨by repeat (first | (with_reducible first | exact HB.out | apply below_alloc | apply pw_below_drewN | apply below_drew1) | exact HB.out)⟩⟩
    · replace c7 := Bool.eq_false_iff.mpr c7
      subst c7
      have H1 : (calamusref25_Again.j0 k a0 a1 a2 a3 true) = some (r1, r2, r3) := by rw [if_neg (show ¬ (false = true) by decide)] at H; exact H
      clear H
      have H := H1
      clear H1
      have H' := Aside0.mk H
      clear H
      go_wp2_with (first | (go_at_call 62; (with_reducible refine (calamusref03_Place.calls a0 a1 false _ A6.out).mono ?_); rintro e w14 ⟨rfl, hb⟩; have n0_ := Aside0.mk (below_step (by repeat (first | (with_reducible first | exact HB.out | apply below_alloc | apply pw_below_drewN | apply below_drew1) | exact HB.out)) hb); clear HB; have HB := n0_; clear n0_; (try clear hb); (try clear hb2); (try clear hk); (try clear hi)))
      repeat (go_quiet (fail); try go_wp2_with (first | (go_at_call 62; (with_reducible refine (calamusref03_Place.calls a0 a1 false _ A6.out).mono ?_); rintro e w14 ⟨rfl, hb⟩; have n0_ := Aside0.mk (below_step (by repeat (first | (with_reducible first | exact HB.out | apply below_alloc | apply pw_below_drewN | apply below_drew1) | exact HB.out)) hb); clear HB; have HB := n0_; clear n0_; (try clear hb); (try clear hb2); (try clear hk); (try clear hi))))
      go_meet
      case rel => exact ⟨_, (true), (by first | rfl | (simp; done) | (simp [*]; done)), H', ⟨by first | omega | exact Nat.le_refl _⟩, ⟨by repeat (first | (with_reducible first | exact HB.out | apply below_alloc | apply pw_below_drewN | apply below_drew1) | exact HB.out)⟩⟩
  case rest =>
    clear HC5
    try clear p2
    try clear c3
    try clear c7
    try clear c9
    obtain ⟨kq, x27_4, rfl, HA, HJ4, HB⟩ := hcut
    cases kq with
    | zero => exact absurd HA.out (by simp [calamusref25_Again.j0])
    | succ kj4 =>
      have H := HA.out
      clear HA
      simp only [calamusref25_Again.j0] at H
      by_cases c15 : x27_4 = true
      · subst c15
        have H1 : (some ((⟨#[]⟩ : ByteArray), 0, 1)) = some (r1, r2, r3) := by rw [if_pos rfl] at H; exact H
        clear H
        have H := H1
        clear H1
        simp only [Option.some.injEq, Prod.mk.injEq] at H
        obtain ⟨rfl, rfl, rfl⟩ := H
        go_wp2
        repeat (go_quiet (fail); try go_wp2)
        go_ret3
        exact ⟨by first | rfl | (simp [errW_none, errW_some] <;> rfl) | (simp [*, errW_none, errW_some] <;> rfl), by repeat (first | (with_reducible first | exact HB.out | apply below_alloc | apply pw_below_drewN | apply below_drew1) | exact HB.out)⟩
      · replace c15 := Bool.eq_false_iff.mpr c15
        subst c15
        have H1 : (if 0 ≤ a2 then (if a2 ≤ a1 then (if a1 ≤ (a0.size : Int) then (calamusref25_Again.l0 kj4 a0 a1 a3 (a0.extract (a2 : Int).toNat (a1 : Int).toNat) 1) else (none)) else (none)) else (none)) = some (r1, r2, r3) := by rw [if_neg (show ¬ (false = true) by decide)] at H; exact H
        clear H
        have H := H1
        clear H1
        by_cases c16 : 0 ≤ a2
        · rw [if_pos c16] at H
          have c16b0 := eq_true c16
          have c16b1 : decide (0 ≤ a2) = true := decide_eq_true c16
          clear c16
          by_cases c17 : a2 ≤ a1
          · rw [if_pos c17] at H
            have c17b0 := eq_true c17
            have c17b1 : decide (a2 ≤ a1) = true := decide_eq_true c17
            clear c17
            by_cases c18 : a1 ≤ (a0.size : Int)
            · rw [if_pos c18] at H
              have c18b0 := eq_true c18
              have c18b1 : decide (a1 ≤ (a0.size : Int)) = true := decide_eq_true c18
              clear c18
              have H' := Aside0.mk H
              clear H
              go_wp2
              repeat (go_quiet (fail); try go_wp2)
              go_loopg [0, 1, 12] kj4 (fun kq v0 v1 v12 w' => ∃ (x0_2 : ByteArray) (x1_2 : Int) (x12_2 : Int), v0 = .string x0_2 ∧ v1 = .int .i64 x1_2 ∧ v12 = .int .i64 x12_2 ∧ Aside0 (calamusref25_Again.l0 kq x0_2 x1_2 a3 (a0.extract (a2 : Int).toNat (a1 : Int).toNat) x12_2 = some (r1, r2, r3)) ∧ Aside0 (kq ≤ kj4) ∧ Aside0 (Below w.heap.size w w'))
              case atStart => exact ⟨(a0), (a1), (1), (by first | rfl | (simp; done) | (simp [*]; done)), (by first | rfl | (simp; done) | (simp [*]; done)), (by first | rfl | (simp; done) | (simp [*]; done)), H', ⟨Nat.le_refl _⟩, ⟨by repeat (first | (with_reducible first | exact HB.out | apply below_alloc | apply pw_below_drewN | apply below_drew1) | exact HB.out)⟩⟩
              case round =>
                clear H'
                try clear c1
                try clear p2
                try clear c3
                try clear c7
                try clear c9
                try clear c15
                try clear c16
                try clear c16b0
                try clear c16b1
                try clear c17
                try clear c17b0
                try clear c17b1
                try clear c18
                try clear c18b0
                try clear c18b1
                try clear p2
                obtain ⟨x0_2, x1_2, x12_2, rfl, rfl, rfl, HA, HK2, HB⟩ := hrel
                cases gk with
                | zero => exact absurd HA.out (by simp [calamusref25_Again.l0])
                | succ k2 =>
                  have H := HA.out
                  clear HA
                  simp only [calamusref25_Again.l0] at H
                  have HC19 := Aside0.mk H
                  clear H
                  go_upto_region 5 with (fail)
                  repeat (go_quiet (fail); go_upto_region 5 with (fail))
                  go_cut [38] (fun v38 wc => ∃ (kq : Nat) (x38_18 : Bool), v38 = .bool x38_18 ∧ Aside0 (calamusref25_Again.j2 kq x0_2 x1_2 a3 (a0.extract (a2 : Int).toNat (a1 : Int).toNat) x12_2 x38_18 = some (r1, r2, r3)) ∧ Aside0 (kq ≤ k2) ∧ Aside0 (Below w.heap.size w wc))
                  case first =>
                    have H := HC19.out
                    clear HC19
                    by_cases c20 : x12_2 < a3
                    · rw [if_pos c20] at H
                      have c20b0 : decide (x12_2 < a3) = true := decide_eq_true c20
                      clear c20
                      (first | rw [c20b0] | (simp only [i64_w, i32_w]; rw [c20b0]) | skip)
                      have H' := Aside0.mk H
                      clear H
                      go_wp2
                      repeat (go_quiet (fail); try go_wp2)
                      go_meet
                      case rel => exact ⟨_, (((a0.extract (a2 : Int).toNat (a1 : Int).toNat).toList != ([] : List UInt8))), (by first | rfl | (simp; done) | (simp [*]; done) | (generalize ByteArray.toList _ = Y; cases Y <;> rfl)), H', ⟨by have := HJ4.out; have := HK2.out; first | omega | exact Nat.le_refl _⟩, ⟨by repeat (first | (with_reducible first | exact HB.out | apply below_alloc | apply pw_below_drewN | apply below_drew1) | exact HB.out)⟩⟩
                    · rw [if_neg c20] at H
                      have c20b0 : decide (x12_2 < a3) = false := decide_eq_false c20
                      clear c20
                      (first | rw [c20b0] | (simp only [i64_w, i32_w]; rw [c20b0]) | skip)
                      have H' := Aside0.mk H
                      clear H
                      go_wp2
                      repeat (go_quiet (fail); try go_wp2)
                      go_meet
                      case rel => exact ⟨_, (false), (by first | rfl | (simp; done) | (simp [*]; done)), H', ⟨by have := HJ4.out; have := HK2.out; first | omega | exact Nat.le_refl _⟩, ⟨by repeat (first | (with_reducible first | exact HB.out | apply below_alloc | apply pw_below_drewN | apply below_drew1) | exact HB.out)⟩⟩
                  case rest =>
                    clear HC19
                    try clear c1
                    try clear c2
                    try clear p2
                    try clear c3
                    try clear c7
                    try clear c9
                    try clear c15
                    try clear c16
                    try clear c16b0
                    try clear c16b1
                    try clear c17
                    try clear c17b0
                    try clear c17b1
                    try clear c18
                    try clear c18b0
                    try clear c18b1
                    try clear c20
                    try clear c20b0
                    try clear p2
                    obtain ⟨kq, x38_18, rfl, HA, HJ18, HB⟩ := hcut
                    cases kq with
                    | zero => exact absurd HA.out (by simp [calamusref25_Again.j2])
                    | succ kj18 =>
                      have H := HA.out
                      clear HA
                      simp only [calamusref25_Again.j2] at H
                      by_cases c21 : x38_18 = true
                      · subst c21
                        have H1 : (if 0 ≤ x1_2 then (if x1_2 ≤ (x0_2.size : Int) then (if (x0_2.extract 0 (x1_2 : Int).toNat).size + (a0.extract (a2 : Int).toNat (a1 : Int).toNat).size ≤ 9223372036854775807 then (if ((x0_2.extract 0 (x1_2 : Int).toNat) ++ (a0.extract (a2 : Int).toNat (a1 : Int).toNat)).size + (x0_2.extract (x1_2 : Int).toNat x0_2.size).size ≤ 9223372036854775807 then (if ((((x0_2.extract 0 (x1_2 : Int).toNat) ++ (a0.extract (a2 : Int).toNat (a1 : Int).toNat)) ++ (x0_2.extract (x1_2 : Int).toNat x0_2.size)).size : Int) > 4096 then (some ((⟨#[]⟩ : ByteArray), 0, 8)) else (calamusref25_Again.l0 kj18 (((x0_2.extract 0 (x1_2 : Int).toNat) ++ (a0.extract (a2 : Int).toNat (a1 : Int).toNat)) ++ (x0_2.extract (x1_2 : Int).toNat x0_2.size)) (wrap64 (x1_2 + ((a0.extract (a2 : Int).toNat (a1 : Int).toNat).size : Int))) a3 (a0.extract (a2 : Int).toNat (a1 : Int).toNat) (wrap64 (x12_2 + 1)))) else (none)) else (none)) else (none)) else (none)) = some (r1, r2, r3) := by rw [if_pos rfl] at H; exact H
                        clear H
                        have H := H1
                        clear H1
                        by_cases c22 : 0 ≤ x1_2
                        · rw [if_pos c22] at H
                          have c22b0 := eq_true c22
                          have c22b1 : decide (0 ≤ x1_2) = true := decide_eq_true c22
                          clear c22
                          by_cases c23 : x1_2 ≤ (x0_2.size : Int)
                          · rw [if_pos c23] at H
                            have c23b0 := eq_true c23
                            have c23b1 : decide (x1_2 ≤ (x0_2.size : Int)) = true := decide_eq_true c23
                            clear c23
                            by_cases c24 : (x0_2.extract 0 (x1_2 : Int).toNat).size + (a0.extract (a2 : Int).toNat (a1 : Int).toNat).size ≤ 9223372036854775807
                            · rw [if_pos c24] at H
                              have c24b0 := eq_true c24
                              have c24b1 : decide ((x0_2.extract 0 (x1_2 : Int).toNat).size + (a0.extract (a2 : Int).toNat (a1 : Int).toNat).size ≤ 9223372036854775807) = true := decide_eq_true c24
                              try have c24b2 : (9223372036854775807 < (x0_2.extract 0 (x1_2 : Int).toNat).size + (a0.extract (a2 : Int).toNat (a1 : Int).toNat).size) = False := eq_false (Nat.not_lt.2 c24)
                              have c25b0 := eq_true (of_decide_eq_true (by first | (with_reducible assumption) | assumption) : 0 ≤ x1_2)
                              have c26b0 := eq_true (of_decide_eq_true (by first | (with_reducible assumption) | assumption) : x1_2 ≤ (x0_2.size : Int))
                              by_cases c27 : ((x0_2.extract 0 (x1_2 : Int).toNat) ++ (a0.extract (a2 : Int).toNat (a1 : Int).toNat)).size + (x0_2.extract (x1_2 : Int).toNat x0_2.size).size ≤ 9223372036854775807
                              · rw [if_pos c27] at H
                                have c27b0 := eq_true c27
                                have c27b1 : decide (((x0_2.extract 0 (x1_2 : Int).toNat) ++ (a0.extract (a2 : Int).toNat (a1 : Int).toNat)).size + (x0_2.extract (x1_2 : Int).toNat x0_2.size).size ≤ 9223372036854775807) = true := decide_eq_true c27
                                try have c27b2 : (9223372036854775807 < ((x0_2.extract 0 (x1_2 : Int).toNat) ++ (a0.extract (a2 : Int).toNat (a1 : Int).toNat)).size + (x0_2.extract (x1_2 : Int).toNat x0_2.size).size) = False := eq_false (Nat.not_lt.2 c27)
                                by_cases c28 : ((((x0_2.extract 0 (x1_2 : Int).toNat) ++ (a0.extract (a2 : Int).toNat (a1 : Int).toNat)) ++ (x0_2.extract (x1_2 : Int).toNat x0_2.size)).size : Int) > 4096
                                · rw [if_pos c28] at H
                                  have c28b0 : decide (4096 < ((((x0_2.extract 0 (x1_2 : Int).toNat) ++ (a0.extract (a2 : Int).toNat (a1 : Int).toNat)) ++ (x0_2.extract (x1_2 : Int).toNat x0_2.size)).size : Int)) = true := decide_eq_true c28
                                  have c28b1 : decide (4096 < (((x0_2.extract 0 (x1_2 : Int).toNat) ++ (a0.extract (a2 : Int).toNat (a1 : Int).toNat)) ++ (x0_2.extract (x1_2 : Int).toNat x0_2.size)).size) = true := decide_eq_true (by omega)
                                  have c28e : ((((x0_2.extract 0 (x1_2 : Int).toNat) ++ (a0.extract (a2 : Int).toNat (a1 : Int).toNat)) ++ (x0_2.extract (x1_2 : Int).toNat x0_2.size)).size : Int) = max x1_2 0 + ((min a1.toNat a0.size - a2.toNat : Nat) : Int) + ((x0_2.size - x1_2.toNat : Nat) : Int) := by
                                    simp only [ByteArray.size_append, ByteArray.size_extract] at *; simp only [eq_iff_iff, iff_true, decide_eq_true_eq] at *; omega
                                  have c28b2 := c28b0
                                  rw [c28e] at c28b2
                                  clear c28e
                                  clear c28
                                  simp only [Option.some.injEq, Prod.mk.injEq] at H
                                  obtain ⟨rfl, rfl, rfl⟩ := H
                                  go_wp2
                                  repeat (go_quiet (fail); try go_wp2)
                                  go_ret3
                                  exact ⟨by first | rfl | (simp [errW_none, errW_some] <;> rfl) | (simp [*, errW_none, errW_some] <;> rfl), by repeat (first | (with_reducible first | exact HB.out | apply below_alloc | apply pw_below_drewN | apply below_drew1) | exact HB.out)⟩
                                · rw [if_neg c28] at H
                                  have c28b0 : decide (4096 < ((((x0_2.extract 0 (x1_2 : Int).toNat) ++ (a0.extract (a2 : Int).toNat (a1 : Int).toNat)) ++ (x0_2.extract (x1_2 : Int).toNat x0_2.size)).size : Int)) = false := decide_eq_false c28
                                  have c28b1 : decide (4096 < (((x0_2.extract 0 (x1_2 : Int).toNat) ++ (a0.extract (a2 : Int).toNat (a1 : Int).toNat)) ++ (x0_2.extract (x1_2 : Int).toNat x0_2.size)).size) = false := decide_eq_false (by omega)
                                  have c28e : ((((x0_2.extract 0 (x1_2 : Int).toNat) ++ (a0.extract (a2 : Int).toNat (a1 : Int).toNat)) ++ (x0_2.extract (x1_2 : Int).toNat x0_2.size)).size : Int) = max x1_2 0 + ((min a1.toNat a0.size - a2.toNat : Nat) : Int) + ((x0_2.size - x1_2.toNat : Nat) : Int) := by
                                    simp only [ByteArray.size_append, ByteArray.size_extract] at *; simp only [eq_iff_iff, iff_true, decide_eq_true_eq] at *; omega
                                  have c28b2 := c28b0
                                  rw [c28e] at c28b2
                                  clear c28e
                                  clear c28
                                  have H' := Aside0.mk H
                                  clear H
                                  go_wp2
                                  repeat (go_quiet (fail); try go_wp2)
                                  go_roundg kj18
                                  case measure => have := HJ4.out; have := HK2.out; have := HJ18.out; omega
                                  case rel => exact ⟨(((x0_2.extract 0 (x1_2 : Int).toNat) ++ (a0.extract (a2 : Int).toNat (a1 : Int).toNat)) ++ (x0_2.extract (x1_2 : Int).toNat x0_2.size)), (wrap64 (x1_2 + ((a0.extract (a2 : Int).toNat (a1 : Int).toNat).size : Int))), (wrap64 (x12_2 + 1)), (by first | rfl | (simp; done) | (simp [*]; done)), (by first | rfl | (simp; done) | (simp [*]; done)), (by first | rfl | (simp; done) | (simp [*]; done)), H', ⟨by have := HJ4.out; have := HK2.out; have := HJ18.out; omega⟩, ⟨by repeat (first | (with_reducible first | exact HB.out | apply below_alloc | apply pw_below_drewN | apply below_drew1) | exact HB.out)⟩⟩
                              · rw [if_neg c27] at H
                                exact absurd H (by simp)
                            · rw [if_neg c24] at H
                              exact absurd H (by simp)
                          · rw [if_neg c23] at H
                            exact absurd H (by simp)
                        · rw [if_neg c22] at H
                          exact absurd H (by simp)
                      · replace c21 := Bool.eq_false_iff.mpr c21
                        subst c21
                        have H1 : (some (x0_2, x1_2, 0)) = some (r1, r2, r3) := by rw [if_neg (show ¬ (false = true) by decide)] at H; exact H
                        clear H
                        have H := H1
                        clear H1
                        simp only [Option.some.injEq, Prod.mk.injEq] at H
                        obtain ⟨rfl, rfl, rfl⟩ := H
                        go_wp2
                        repeat (go_quiet (fail); try go_wp2)
                        go_ret3
                        exact ⟨by first | rfl | (simp [errW_none, errW_some] <;> rfl) | (simp [*, errW_none, errW_some] <;> rfl), by repeat (first | (with_reducible first | exact HB.out | apply below_alloc | apply pw_below_drewN | apply below_drew1) | exact HB.out)⟩
            · rw [if_neg c18] at H
              exact absurd H (by simp)
          · rw [if_neg c17] at H
            exact absurd H (by simp)
        · rw [if_neg c16] at H
          exact absurd H (by simp)

end Go.Proofs.Ytnmcdkekflnekaa.QE
/- The contracts of class.each, Up, Low, Flip. -/
namespace Go.Proofs.Ytnmcdkekflnekaa
open Go.RowKit
set_option linter.unusedVariables false
set_option linter.unusedSimpArgs false
def upB (b : Int) : Int := if lettB b = true ∧ 97 ≤ b then b - 32 else b
def loB (b : Int) : Int := if lettB b = true ∧ b ≤ 90 then b + 32 else b
def flB (b : Int) : Int := if lettB b = true then (if 97 ≤ b then b - 32 else b + 32) else b
theorem up_bits : ∀ n : Fin 256, lettB (n.val : Int) = true → bits .andNot .u8 (n.val : Int) 32 = upB n.val := by decide +kernel
theorem lo_bits : ∀ n : Fin 256, lettB (n.val : Int) = true → bits .or .u8 (n.val : Int) 32 = loB n.val := by decide +kernel
theorem fl_bits : ∀ n : Fin 256, lettB (n.val : Int) = true → bits .xor .u8 (n.val : Int) 32 = flB n.val := by decide +kernel
theorem b8_toNat {n : Int} (h0 : 0 ≤ n) (h1 : n ≤ 255) : (((b8 n).toNat : Nat) : Int) = n := by
  unfold b8; rw [UInt8.toNat_ofNat_of_lt' (by show n.toNat < 256; omega)]; omega
theorem up_range (b : Int) (h0 : 0 ≤ b) (h1 : b ≤ 255) : 0 ≤ upB b ∧ upB b ≤ 255 := by unfold upB; split <;> omega
theorem lo_range (b : Int) (h0 : 0 ≤ b) (h1 : b ≤ 255) : 0 ≤ loB b ∧ loB b ≤ 255 := by unfold loB; split <;> omega
theorem fl_range (b : Int) (h0 : 0 ≤ b) (h1 : b ≤ 255) : 0 ≤ flB b ∧ flB b ≤ 255 := by
  unfold flB; split
  · rename_i h; unfold lettB at h; simp at h; split <;> omega
  · omega
theorem set_other {W : World} {b j k : Nat} {v : Value} (h : k ≠ j) : (W.setCell ⟨b, k, none⟩ v).cell? ⟨b, j, none⟩ = W.cell? ⟨b, j, none⟩ := by
  apply World.cell?_setCell_other
  intro e; injection e with e1 e2 e3; exact h e2
/-- The bytes, the first k of them told anew. -/
def upN (l : List UInt8) (k : Nat) (j : Nat) : Int := if j < k then upB (byL l j) else byL l j
/-- The text, told anew. -/
def upS (s : ByteArray) : ByteArray := ⟨((ls s).map fun b => b8 (upB b.toNat)).toArray⟩
theorem ls_upS (s : ByteArray) : ls (upS s) = (ls s).map fun b => b8 (upB b.toNat) := by unfold upS ls; simp
theorem size_upS (s : ByteArray) : (upS s).size = s.size := by rw [← ls_len, ls_upS, List.length_map, ls_len]
/-- The bytes, the first k of them told anew. -/
def loN (l : List UInt8) (k : Nat) (j : Nat) : Int := if j < k then loB (byL l j) else byL l j
/-- The text, told anew. -/
def loS (s : ByteArray) : ByteArray := ⟨((ls s).map fun b => b8 (loB b.toNat)).toArray⟩
theorem ls_loS (s : ByteArray) : ls (loS s) = (ls s).map fun b => b8 (loB b.toNat) := by unfold loS ls; simp
theorem size_loS (s : ByteArray) : (loS s).size = s.size := by rw [← ls_len, ls_loS, List.length_map, ls_len]
/-- The bytes, the first k of them told anew. -/
def flN (l : List UInt8) (k : Nat) (j : Nat) : Int := if j < k then flB (byL l j) else byL l j
/-- The text, told anew. -/
def flS (s : ByteArray) : ByteArray := ⟨((ls s).map fun b => b8 (flB b.toNat)).toArray⟩
theorem ls_flS (s : ByteArray) : ls (flS s) = (ls s).map fun b => b8 (flB b.toNat) := by unfold flS ls; simp
theorem size_flS (s : ByteArray) : (flS s).size = s.size := by rw [← ls_len, ls_flS, List.length_map, ls_len]
end Go.Proofs.Ytnmcdkekflnekaa
/- Slices of things of several cells: what is read, and what a call has made itself. -/
namespace Go.Proofs.Ytnmcdkekflnekaa
open Go.RowKit
set_option linter.unusedVariables false
set_option linter.unusedSimpArgs false
/-- A thing's cells: 'enc'; k of them each. -/
structure Enc (α : Type) where
  k : Nat
  enc : α → List Value
  len : ∀ x, (enc x).length = k
  one : ∀ x, ∀ u ∈ enc x, u.oneCell' = true
  pos : 0 < k
def RdS {α : Type} (E : Enc α) (w : World) (a : Option Addr) (xs : List α) : Prop := ∀ j (h : j < xs.length), ∃ g o, a = some ⟨g, o, none⟩ ∧ ∀ i u, (E.enc xs[j])[i]? = some u → w.cell? ⟨g, o + (j * E.k + i), none⟩ = some u
theorem RdS.ext {α : Type} {E : Enc α} {w w' : World} {a : Option Addr} {xs : List α} (h : RdS E w a xs) (hx : Ext w w') : RdS E w' a xs := by
  intro j hj
  obtain ⟨g, o, ha, hc⟩ := h j hj
  exact ⟨g, o, ha, fun i u hu => by rw [Below.cell hx (World.block_lt_of_cell? w _ (hc i u hu))]; exact hc i u hu⟩
theorem flat_len {α : Type} (E : Enc α) : ∀ xs : List α, (xs.flatMap E.enc).length = xs.length * E.k
  | [] => by simp
  | x :: xs => by rw [List.flatMap_cons, List.length_append, E.len, flat_len E xs, List.length_cons, Nat.add_mul]; omega
theorem flat_at {α : Type} (E : Enc α) : ∀ (xs : List α) (j : Nat) (h : j < xs.length) (i : Nat), i < E.k → (xs.flatMap E.enc)[j * E.k + i]? = (E.enc xs[j])[i]?
  | x :: xs, 0, _, i, hi => by
    rw [List.flatMap_cons, Nat.zero_mul, Nat.zero_add, List.getElem?_append_left (by rw [E.len]; exact hi)]; rfl
  | x :: xs, j + 1, h, i, hi => by
    have := flat_at E xs j (by simpa using h) i hi
    rw [List.flatMap_cons, List.getElem?_append_right (by rw [E.len, Nat.add_mul]; omega), E.len]
    rw [show (j + 1) * E.k + i - E.k = j * E.k + i by rw [Nat.add_mul]; omega, this]; rfl
/-- A slice that was made from block 'base' on. -/
def OwnS {α : Type} (E : Enc α) (e : TypeId) (base : Nat) (w : World) (a : Option Addr) (cap : Nat) (xs : List α) : Prop := w.ownsRow base e E.k (.slice a xs.length cap) xs.length (xs.flatMap E.enc)
section
variable {α : Type} {E : Enc α} {e : TypeId}
theorem OwnS.nil (base : Nat) (w : World) : OwnS E e base w none 0 [] := World.ownsRow_nil _ _ _ _
theorem OwnS.ext {base : Nat} {w w' : World} {a : Option Addr} {cap : Nat} {xs : List α} (h : OwnS E e base w a cap xs) (hx : Ext w w') : OwnS E e base w' a cap xs :=
  World.ownsRow.kept h ⟨hx.os, hx.tape, hx.output, hx.size, fun k hk _ => Below.block hx k hk⟩ (row := none) (by cases a <;> simp [Value.ownBlock])
theorem OwnS.le {base base' : Nat} {w : World} {a : Option Addr} {cap : Nat} {xs : List α} (h : OwnS E e base w a cap xs) (hb : base' ≤ base) : OwnS E e base' w a cap xs := Go.Joins.ownsRow_le h hb
theorem OwnS.lt {base : Nat} {w : World} {a : Option Addr} {cap : Nat} {xs : List α} (h : OwnS E e base w a cap xs) : ∀ p, a = some p → base ≤ p.block ∧ p.block < w.heap.size := by
  rintro p rfl
  exact World.ownsRow.lt h p.block rfl
theorem OwnS.rd {base : Nat} {w : World} {a : Option Addr} {cap : Nat} {xs : List α} (h : OwnS E e base w a cap xs) : RdS E w a xs := by
  intro j hj
  obtain ⟨g, c, hv⟩ := Go.Joins.ownsRow_form h (by omega)
  simp only [Value.slice.injEq] at hv
  obtain ⟨rfl, -, rfl⟩ := hv
  refine ⟨g, 0, rfl, fun i u hu => ?_⟩
  have hi : i < E.k := by rw [← E.len xs[j]]; exact (List.getElem?_eq_some_iff.1 hu).1
  have hjk : j * E.k + i < xs.length * E.k := by
    have : (j + 1) * E.k ≤ xs.length * E.k := Nat.mul_le_mul_right _ hj
    rw [Nat.add_mul] at this; omega
  rw [Nat.zero_add, World.ownsRow.cellAt h _ hjk, flat_at E xs j hj i hi]
  exact hu
theorem OwnS.lit {base : Nat} (W : World) (hb : base ≤ W.heap.size) (xs : List α) (cs : Array Value) (hc : cs = (xs.flatMap E.enc).toArray) (hm : xs.length ≤ 1000) : OwnS E e base (W.alloc (.cells cs e)) (some ⟨W.heap.size, 0, none⟩) xs.length xs := by
  subst hc
  have := World.ownsRow_lit (base := base) (e := e) (size := E.k) W (xs.flatMap E.enc).toArray xs.length hb (by unfold maxLen; omega) (by simp only [List.size_toArray]; exact flat_len E xs)
  simpa [OwnS] using this
/-- 'append(l, y)' onto a slice of the call's own: y lies in a new block. -/
theorem app_s {P : Program} {ops : Array Oper} {rest : List Oper} {o : Oper} {act : Act} {Q : Exit → Act → World → Prop} (t : TypeId) (z : Value) (bytes : Nat) (hu : P.underlying t = some (.slice e)) (hinf : (P.info? e).map (fun i => (i.zero, i.size, i.bytes)) = some (some z, E.k, bytes)) (hz : z.cells.size = E.k)
    (w0 W : World) (hgd : o.guard = none) (s x : Operand)
    (ho : o.op = .call { callee := .builtin .append, args := #[s, x], argTypes := #[t, t] }) (a : Option Addr) (cap : Nat) (xs : List α) (y : α) (cs : Array Value) (hcs : cs = (E.enc y).toArray)
    (hs : act.eval s = .slice a xs.length cap) (hown : OwnS E e w0.heap.size W a cap xs) (he : Ext w0 W) (hx : act.eval x = .slice (some ⟨W.heap.size, 0, none⟩) 1 1) (hb : xs.length ≤ 1099511627776) (hby : bytes ≤ 100)
    (h : ∀ a' cap' w', OwnS E e w0.heap.size w' a' cap' (xs ++ [y]) → Ext w0 w' → wpList P ops Q rest (act.put o.dst (.slice a' (xs.length + 1) cap')) w') :
    wpList P ops Q (o :: rest) act (W.alloc (.cells cs e)) := by
  subst hcs
  obtain ⟨i0, hi, hz0, hz1, hz2⟩ := info_parts hinf
  refine wpList_append_own _ hgd s x t ho w0.heap.size e i0 z E.k bytes hu hi hz0 hz1 hz2 hz E.pos _ xs.length (xs.flatMap E.enc) hs (World.ownsRow.alloc hown _) ⟨W.heap.size, 0, none⟩ 1 1 (E.enc y) hx (by rw [E.len, Nat.one_mul]) ?_ (E.one y) (by unfold maxLen; omega) (Nat.le_trans (Nat.mul_le_mul_left _ hby) (by omega)) (by have := he.size; simp; omega) ?_
  · intro j u hj
    have := cell_of_row (W.alloc (.cells (E.enc y).toArray e)) W.heap.size j (E.enc y).toArray e (0, 0) (heap_alloc_new W _)
    have ea : (⟨W.heap.size, 0, none⟩ : Addr).add j = ⟨W.heap.size, j, none⟩ := by unfold Addr.add; split <;> simp_all
    rw [ea, this]; simpa using hj
  · intro v' w' hown' hg hnil
    obtain ⟨g, c, rfl⟩ := Go.Joins.ownsRow_form hown' (by omega)
    have e1 : Ext w0 w' := by
      refine Below.trans (Below.alloc he he.size (.cells (E.enc y).toArray e)) ⟨hg.os, hg.tape, hg.output, hg.size, fun k hk => hg.block k (by have := he.size; simp; omega) ?_⟩
      intro e
      cases a with
      | none => simp [Value.ownBlock] at e
      | some p => have := hown.lt p rfl; simp [Value.ownBlock] at e; omega
    refine h (some ⟨g, 0, none⟩) c w' ?_ e1
    simpa [OwnS] using hown'
end
/-- Two whole numbers. -/
def EncP : Enc (Nat × Nat) := { k := 2, enc := fun x => [.int .i64 (x.1 : Nat), .int .i64 (x.2 : Nat)], len := fun _ => rfl, one := fun x u hu => by simp at hu; rcases hu with rfl | rfl <;> rfl, pos := by decide }

theorem RdS.pair {w : World} {a : Option Addr} {xs : List (Nat × Nat)} (h : RdS EncP w a xs) (n : Nat) (hn : n < xs.length) : ∃ g o, a = some ⟨g, o, none⟩ ∧ w.cell? ⟨g, o + n * 2, none⟩ = some (.int .i64 (xs[n].1 : Nat)) ∧ w.cell? ⟨g, o + n * 2 + 1, none⟩ = some (.int .i64 (xs[n].2 : Nat)) := by
  obtain ⟨g, o, ha, hc⟩ := h n hn
  exact ⟨g, o, ha, hc 0 _ rfl, hc 1 _ rfl⟩

end Go.Proofs.Ytnmcdkekflnekaa
/- The contracts of the reference calamusref04. -/
namespace Go.Proofs.Ytnmcdkekflnekaa
open Go.RowKit
set_option linter.unusedVariables false
set_option linter.unusedSimpArgs false
def linesL (l : List UInt8) : List (Nat × Nat) := if validL l then lns l else []
theorem Try.infoPair : (Try.prog.info? 91).map (fun i => (i.zero, i.size, i.bytes)) = some (some (.agg #[.int .i64 0, .int .i64 0]), 2, 16) := by kernel_rfl
theorem linesL_len (s : ByteArray) : (linesL (ls s)).length ≤ s.size + 1 := by
  unfold linesL; split
  · rw [lns_len]; have := tens_le (ls s); rw [ls_len] at this; omega
  · simp
set_option maxHeartbeats 4000000 in
set_option maxRecDepth 100000 in
theorem r4lines_c (s : ByteArray) (w : World) (hs : s.size ≤ 1099511627775) : Calls Try.prog 102 #[.string s] w fun e w' => ∃ a cap, e = .returned (.slice a (linesL (ls s)).length cap) ∧ OwnS EncP 91 w.heap.size w' a cap (linesL (ls s)) ∧ Ext w w' := by
  rcases Bool.eq_false_or_eq_true (validL (ls s)) with hv | hv
  case inr =>
    have Hl : Hid (linesL (ls s) = []) := Lib.hid (by unfold linesL; simp [hv])
    go_enter Try.func102, Try.ntmps102
    go_wp2_with (first | (go_at_call 76; refine (rvalid_c _ _ hs).mono ?_; rintro e w1 ⟨rfl, hx1⟩))
    go_ret
    exact ⟨none, 0, by rw [Hl.out]; rfl, by rw [Hl.out]; exact OwnS.nil _ _, (by (repeat (first | exact Ext.refl _ | exact ‹Ext _ _› | refine Ext.alloc ?_ _ | refine Ext.drew ?_ | refine Ext.drewN ?_ _ | (refine Ext.setCell ?_ (by first | omega | (simp; done) | (simp; omega)) _) | refine Ext.trans ?_ ‹Ext _ _›)))⟩
  have Hl : Hid (linesL (ls s) = lns (ls s)) := Lib.hid (by unfold linesL; simp [hv])
  go_enter Try.func102, Try.ntmps102
  go_wp2_with (first | (go_at_call 76; refine (rvalid_c _ _ hs).mono ?_; rintro e w1 ⟨rfl, hx1⟩))
  go_loopw [3, 4, 5] (fun v f i wr => ∃ (j b : Nat) (a : Option Addr) (cap : Nat) (D : List (Nat × Nat)), i = .int .i64 j ∧ f = .int .i64 b ∧ v = .slice a D.length cap ∧ j ≤ s.size + 1 ∧ D.length ≤ j ∧ Hid (j ≤ s.size → lns (ls s) = D ++ lnsF ((ls s).drop j) b j) ∧ Hid (j = s.size + 1 → D = lns (ls s)) ∧ Hid (OwnS EncP 91 w.heap.size wr a cap D) ∧ Ext w wr) (fun _ _ i _ => s.size + 1 - (intOf i).toNat)
  case atStart => exact ⟨0, 0, none, 0, [], rfl, rfl, rfl, by omega, by simp, Lib.hid (fun _ => by simp [lns]), Lib.hid (fun h => by omega), Lib.hid (OwnS.nil _ _), (by (repeat (first | exact Ext.refl _ | exact ‹Ext _ _› | refine Ext.alloc ?_ _ | refine Ext.drew ?_ | refine Ext.drewN ?_ _ | (refine Ext.setCell ?_ (by first | omega | (simp; done) | (simp; omega)) _) | refine Ext.trans ?_ ‹Ext _ _›)))⟩
  case round =>
    obtain ⟨j, b, a, cap, D, rfl, rfl, rfl, hj, hD, H1, H2, Hown, hx⟩ := hrel
    by_cases c1 : j < s.size
    · have Hs := Lib.hid (lnsF_step (ls s) b j (by rw [ls_len]; exact c1))
      have Hby := Lib.hid (byL_eq s j c1)
      by_cases c2 : (s[j].toNat : Int) = 10
      · go_wp2_with (first | (at_builtin; refine app_s 89 (.agg #[.int .i64 0, .int .i64 0]) 16 Try.underlying89 Try.infoPair rfl w _ rfl _ _ rfl _ _ (D) ((b, j)) _ rfl rfl (Hown.out.ext (by (repeat (first | exact Ext.refl _ | exact ‹Ext _ _› | refine Ext.alloc ?_ _ | refine Ext.drew ?_ | refine Ext.drewN ?_ _ | (refine Ext.setCell ?_ (by first | omega | (simp; done) | (simp; omega)) _) | refine Ext.trans ?_ ‹Ext _ _›)))) (by (repeat (first | exact Ext.refl _ | exact ‹Ext _ _› | refine Ext.alloc ?_ _ | refine Ext.drew ?_ | refine Ext.drewN ?_ _ | (refine Ext.setCell ?_ (by first | omega | (simp; done) | (simp; omega)) _) | refine Ext.trans ?_ ‹Ext _ _›))) rfl (by omega) (by decide) ?_; intro a2 cap2 w2 hown2 hx2))
        go_roundw
        case rel =>
          refine ⟨j + 1, j + 1, a2, cap2, D ++ [(b, j)], by go_num, by go_num, by simp, by omega, by (simp <;> omega), Lib.hid (fun _ => ?_), Lib.hid (fun h => by omega), Lib.hid hown2, (by (repeat (first | exact Ext.refl _ | exact ‹Ext _ _› | refine Ext.alloc ?_ _ | refine Ext.drew ?_ | refine Ext.drewN ?_ _ | (refine Ext.setCell ?_ (by first | omega | (simp; done) | (simp; omega)) _) | refine Ext.trans ?_ ‹Ext _ _›)))⟩
          rw [H1.out (by omega), Hs.out, ← Hby.out, if_pos c2]; simp
        case measure => simp [intOf]; omega
      · have c3 : ((s[j].toNat : Int) == 10) = false := by simp; omega
        go_wp2
        go_roundw
        case rel =>
          refine ⟨j + 1, b, a, cap, D, by go_num, rfl, rfl, by omega, by omega, Lib.hid (fun _ => ?_), Lib.hid (fun h => by omega), Hown, (by (repeat (first | exact Ext.refl _ | exact ‹Ext _ _› | refine Ext.alloc ?_ _ | refine Ext.drew ?_ | refine Ext.drewN ?_ _ | (refine Ext.setCell ?_ (by first | omega | (simp; done) | (simp; omega)) _) | refine Ext.trans ?_ ‹Ext _ _›)))⟩
          rw [H1.out (by omega), Hs.out, ← Hby.out, if_neg c2]
        case measure => simp [intOf]; omega
    · by_cases c2 : j = s.size
      · subst c2
        have He : Hid (lnsF ((ls s).drop s.size) b s.size = [(b, s.size)]) := Lib.hid (lnsF_end _ _ _ (by rw [ls_len]; omega))
        go_wp2_with (first | (at_builtin; refine app_s 89 (.agg #[.int .i64 0, .int .i64 0]) 16 Try.underlying89 Try.infoPair rfl w _ rfl _ _ rfl _ _ (D) ((b, s.size)) _ rfl rfl (Hown.out.ext (by (repeat (first | exact Ext.refl _ | exact ‹Ext _ _› | refine Ext.alloc ?_ _ | refine Ext.drew ?_ | refine Ext.drewN ?_ _ | (refine Ext.setCell ?_ (by first | omega | (simp; done) | (simp; omega)) _) | refine Ext.trans ?_ ‹Ext _ _›)))) (by (repeat (first | exact Ext.refl _ | exact ‹Ext _ _› | refine Ext.alloc ?_ _ | refine Ext.drew ?_ | refine Ext.drewN ?_ _ | (refine Ext.setCell ?_ (by first | omega | (simp; done) | (simp; omega)) _) | refine Ext.trans ?_ ‹Ext _ _›))) rfl (by omega) (by decide) ?_; intro a2 cap2 w2 hown2 hx2))
        go_roundw
        case rel =>
          refine ⟨s.size + 1, s.size + 1, a2, cap2, D ++ [(b, s.size)], by go_num, by go_num, by simp, by omega, by (simp <;> omega), Lib.hid (fun h => by omega), Lib.hid (fun _ => ?_), Lib.hid hown2, (by (repeat (first | exact Ext.refl _ | exact ‹Ext _ _› | refine Ext.alloc ?_ _ | refine Ext.drew ?_ | refine Ext.drewN ?_ _ | (refine Ext.setCell ?_ (by first | omega | (simp; done) | (simp; omega)) _) | refine Ext.trans ?_ ‹Ext _ _›)))⟩
          rw [H1.out (by omega), He.out]
        case measure => (simp [intOf] <;> omega)
      · have c3 : j = s.size + 1 := by omega
        have hD2 := H2.out c3
        subst c3
        go_wp2
        go_ret
        subst hD2
        exact ⟨a, cap, by rw [Hl.out]; first | rfl | (simp; done), by rw [Hl.out]; exact Hown.out, (by (repeat (first | exact Ext.refl _ | exact ‹Ext _ _› | refine Ext.alloc ?_ _ | refine Ext.drew ?_ | refine Ext.drewN ?_ _ | (refine Ext.setCell ?_ (by first | omega | (simp; done) | (simp; omega)) _) | refine Ext.trans ?_ ‹Ext _ _›)))⟩

theorem linesL_at {l : List UInt8} {k : Nat} (h : k < (linesL l).length) : startI l k = ((linesL l)[k].1 : Nat) ∧ endI l k = ((linesL l)[k].2 : Nat) ∧ validL l = true := by
  rcases Bool.eq_false_or_eq_true (validL l) with hv | hv
  · have e : linesL l = lns l := by unfold linesL; simp [hv]
    have hl : lineI l k = some (linesL l)[k] := by
      unfold lineI; rw [if_pos ⟨hv, by omega⟩, Int.toNat_natCast]
      simp only [e] at h ⊢
      exact List.getElem?_eq_getElem h
    unfold startI endI; rw [hl]; exact ⟨rfl, rfl, hv⟩
  · have e : linesL l = [] := by unfold linesL; simp [hv]
    rw [e] at h; simp at h
theorem linesL_out {l : List UInt8} {k : Int} (h : k < 0 ∨ ((linesL l).length : Int) ≤ k) : startI l k = -1 ∧ endI l k = -1 := by
  have hl : lineI l k = none := by
    unfold lineI
    split
    · rename_i hc
      have e : linesL l = lns l := by unfold linesL; simp [hc.1]
      rw [e] at h
      exact List.getElem?_eq_none (by omega)
    · rfl
  unfold startI endI; rw [hl]; exact ⟨rfl, rfl⟩
theorem linesL_count (l : List UInt8) : ((linesL l).length : Int) = lcountI l := by
  unfold linesL lcountI; split
  · rw [lns_len]; simp
  · simp
set_option maxHeartbeats 4000000 in
set_option maxRecDepth 100000 in
theorem r4start_c (s : ByteArray) (k : Int) (w : World) (hs : s.size ≤ 1099511627775) : Calls Try.prog 63 #[.string s, .int .i64 k] w fun e w' => e = .returned (.int .i64 (startI (ls s) k)) ∧ Ext w w' := by
  by_cases hk : k < 0 ∨ ((linesL (ls s)).length : Int) ≤ k
  · have Ho := Lib.hid (linesL_out hk).1
    go_enter Try.func63, Try.ntmps63
    go_wp2_with (first | (go_at_call 102; refine (r4lines_c _ _ hs).mono ?_; rintro e w1 ⟨a, cap, rfl, hown, hx1⟩))
    all_goals (first | (go_ret; exact ⟨ret1 Ho.out.symm, (by (repeat (first | exact Ext.refl _ | exact ‹Ext _ _› | refine Ext.alloc ?_ _ | refine Ext.drew ?_ | refine Ext.drewN ?_ _ | (refine Ext.setCell ?_ (by first | omega | (simp; done) | (simp; omega)) _) | refine Ext.trans ?_ ‹Ext _ _›)))⟩) | (exfalso; omega))
  · obtain ⟨n, rfl⟩ : ∃ n : Nat, k = n := ⟨k.toNat, by omega⟩
    have hn : n < (linesL (ls s)).length := by omega
    have Ho := Lib.hid (linesL_at hn).1
    clear hk
    go_enter Try.func63, Try.ntmps63
    go_wp2_with (first | (go_at_call 102; refine (r4lines_c _ _ hs).mono ?_; rintro e w1 ⟨a, cap, rfl, hown, hx1⟩; obtain ⟨g, o, rfl, hc0, hc1⟩ := RdS.pair (OwnS.rd hown) n hn))
    all_goals (go_ret; exact ⟨ret1 Ho.out.symm, (by (repeat (first | exact Ext.refl _ | exact ‹Ext _ _› | refine Ext.alloc ?_ _ | refine Ext.drew ?_ | refine Ext.drewN ?_ _ | (refine Ext.setCell ?_ (by first | omega | (simp; done) | (simp; omega)) _) | refine Ext.trans ?_ ‹Ext _ _›)))⟩)

set_option maxHeartbeats 4000000 in
set_option maxRecDepth 100000 in
theorem r4end_c (s : ByteArray) (k : Int) (w : World) (hs : s.size ≤ 1099511627775) : Calls Try.prog 65 #[.string s, .int .i64 k] w fun e w' => e = .returned (.int .i64 (endI (ls s) k)) ∧ Ext w w' := by
  by_cases hk : k < 0 ∨ ((linesL (ls s)).length : Int) ≤ k
  · have Ho := Lib.hid (linesL_out hk).2
    go_enter Try.func65, Try.ntmps65
    go_wp2_with (first | (go_at_call 102; refine (r4lines_c _ _ hs).mono ?_; rintro e w1 ⟨a, cap, rfl, hown, hx1⟩))
    all_goals (first | (go_ret; exact ⟨ret1 Ho.out.symm, (by (repeat (first | exact Ext.refl _ | exact ‹Ext _ _› | refine Ext.alloc ?_ _ | refine Ext.drew ?_ | refine Ext.drewN ?_ _ | (refine Ext.setCell ?_ (by first | omega | (simp; done) | (simp; omega)) _) | refine Ext.trans ?_ ‹Ext _ _›)))⟩) | (exfalso; omega))
  · obtain ⟨n, rfl⟩ : ∃ n : Nat, k = n := ⟨k.toNat, by omega⟩
    have hn : n < (linesL (ls s)).length := by omega
    have Ho := Lib.hid (linesL_at hn).2.1
    clear hk
    go_enter Try.func65, Try.ntmps65
    go_wp2_with (first | (go_at_call 102; refine (r4lines_c _ _ hs).mono ?_; rintro e w1 ⟨a, cap, rfl, hown, hx1⟩; obtain ⟨g, o, rfl, hc0, hc1⟩ := RdS.pair (OwnS.rd hown) n hn))
    all_goals (go_ret; exact ⟨ret1 Ho.out.symm, (by (repeat (first | exact Ext.refl _ | exact ‹Ext _ _› | refine Ext.alloc ?_ _ | refine Ext.drew ?_ | refine Ext.drewN ?_ _ | (refine Ext.setCell ?_ (by first | omega | (simp; done) | (simp; omega)) _) | refine Ext.trans ?_ ‹Ext _ _›)))⟩)
/-- The last line that begins no further than p. -/
def lastAt (X : List (Nat × Nat)) (p : Int) : Nat → Int
  | 0 => -1
  | k + 1 => if ((X.getD k (0, 0)).1 : Int) ≤ p then (k : Int) else lastAt X p k
theorem lnsF_starts : ∀ (r : List UInt8) (st i : Nat), st ≤ i → ∀ j, j + 1 < (lnsF r st i).length → i < ((lnsF r st i).getD (j + 1) (0, 0)).1
  | [], st, i, _, j, h => by simp [lnsF] at h
  | b :: r, st, i, hs, j, h => by
    by_cases hb : b = 10
    · rw [lnsF, if_pos hb] at h ⊢
      rw [List.getD_cons_succ]
      obtain ⟨e, q, h1, _, _⟩ := lnsF_head r (i + 1) (i + 1)
      cases j with
      | zero => rw [h1]; simp
      | succ j =>
        have := lnsF_starts r (i + 1) (i + 1) (Nat.le_refl _) j (by simpa using h)
        omega
    · rw [lnsF, if_neg hb] at h ⊢
      have := lnsF_starts r st (i + 1) (by omega) j h
      omega
theorem lastAt_of (l : List UInt8) (p : Nat) (hp : p ≤ l.length) : lastAt (lns l) p (lns l).length = (fds l p : Nat) := by
  obtain ⟨a, ha, hl⟩ := lns_split l p hp
  obtain ⟨e, q, h1, h2, h3⟩ := lnsF_head (l.drop p) (lst l p) p
  have hlst := lst_le l p
  have hlt : fds l p < (lns l).length := by rw [ha, List.length_append, hl, h1]; simp
  have key : ∀ d, fds l p + 1 + d ≤ (lns l).length → lastAt (lns l) p (fds l p + 1 + d) = (fds l p : Nat) := by
    intro d
    induction d with
    | zero =>
      intro _
      have e0 : ((lns l).getD (fds l p) (0, 0)).1 = lst l p := by
        rw [ha, List.getD_eq_getElem?_getD, List.getElem?_append_right (by omega), hl, Nat.sub_self, h1]; rfl
      rw [Nat.add_zero, lastAt, e0, if_pos (by omega)]
    | succ d ih =>
      intro hd
      have e0 : p < ((lns l).getD (fds l p + 1 + d) (0, 0)).1 := by
        have := lnsF_starts (l.drop p) (lst l p) p hlst d (by rw [ha, List.length_append, hl] at hd; omega)
        rw [ha, List.getD_eq_getElem?_getD, List.getElem?_append_right (by omega), hl]
        rw [List.getD_eq_getElem?_getD] at this
        rw [show fds l p + 1 + d - fds l p = d + 1 by omega]
        exact this
      rw [show fds l p + 1 + (d + 1) = (fds l p + 1 + d) + 1 by omega, lastAt, if_neg (by omega)]
      exact ih (by omega)
  have := key ((lns l).length - (fds l p + 1)) (by omega)
  rwa [Nat.add_sub_cancel' (by omega)] at this
set_option maxHeartbeats 4000000 in
set_option maxRecDepth 100000 in
theorem r4of_c (s : ByteArray) (p : Int) (w : World) (hs : s.size ≤ 1099511627775) : Calls Try.prog 64 #[.string s, .int .i64 p] w fun e w' => e = .returned (.int .i64 (ofI (ls s) p)) ∧ Ext w w' := by
  by_cases h0 : p < 0 ∨ (s.size : Int) < p
  · have Ho : Hid (ofI (ls s) p = -1) := Lib.hid (by unfold ofI; rw [if_pos (by rw [ls_len]; omega)])
    go_enter Try.func64, Try.ntmps64
    go_wp2_with (first | (go_at_call 102; refine (r4lines_c _ _ hs).mono ?_; rintro e w1 ⟨a, cap, rfl, hown, hx1⟩))
    all_goals (first | (go_ret; exact ⟨ret1 Ho.out.symm, (by (repeat (first | exact Ext.refl _ | exact ‹Ext _ _› | refine Ext.alloc ?_ _ | refine Ext.drew ?_ | refine Ext.drewN ?_ _ | (refine Ext.setCell ?_ (by first | omega | (simp; done) | (simp; omega)) _) | refine Ext.trans ?_ ‹Ext _ _›)))⟩) | (exfalso; omega))
  · obtain ⟨k, rfl⟩ : ∃ k : Nat, p = k := ⟨p.toNat, by omega⟩
    have hk : k ≤ s.size := by omega
    clear h0
    have hll := linesL_len s
    have Ho : Hid (lastAt (linesL (ls s)) k (linesL (ls s)).length = ofI (ls s) k) := Lib.hid (by
      unfold linesL ofI
      rcases Bool.eq_false_or_eq_true (validL (ls s)) with hv | hv
      · rw [if_pos hv, if_neg (by rw [ls_len, hv]; simp; omega), Int.toNat_natCast]
        exact lastAt_of _ _ (by rw [ls_len]; exact hk)
      · simp [hv, lastAt])
    go_enter Try.func64, Try.ntmps64
    go_wp2_with (first | (go_at_call 102; refine (r4lines_c _ _ hs).mono ?_; rintro e w1 ⟨a, cap, rfl, hown, hx1⟩))
    go_loopw [6] (fun v wr => ∃ j : Nat, v = .int .i64 ((j : Int) - 1) ∧ j ≤ (linesL (ls s)).length ∧ lastAt (linesL (ls s)) k j = lastAt (linesL (ls s)) k (linesL (ls s)).length ∧ Ext w1 wr) (fun v _ => (intOf v + 1).toNat)
    case atStart => exact ⟨(linesL (ls s)).length, rfl, by omega, rfl, Ext.refl _⟩
    case round =>
      obtain ⟨j, rfl, hj, hok, hx⟩ := hrel
      have Hok := Lib.hid hok
      clear hok
      rcases Nat.eq_zero_or_pos j with h0 | h0
      · subst h0
        have Hn : Hid (ofI (ls s) k = -1) := Lib.hid (by rw [← Ho.out, ← Hok.out]; rfl)
        go_wp2
        go_ret
        exact ⟨ret1 Hn.out.symm, (by (repeat (first | exact Ext.refl _ | exact ‹Ext _ _› | refine Ext.alloc ?_ _ | refine Ext.drew ?_ | refine Ext.drewN ?_ _ | (refine Ext.setCell ?_ (by first | omega | (simp; done) | (simp; omega)) _) | refine Ext.trans ?_ ‹Ext _ _›)))⟩
      · obtain ⟨i, rfl⟩ : ∃ i, j = i + 1 := ⟨j - 1, by omega⟩
        have e1 : ((i + 1 : Nat) : Int) - 1 = (i : Int) := by omega
        rw [e1]
        have hi : i < (linesL (ls s)).length := by omega
        have Hs : Hid (lastAt (linesL (ls s)) k (i + 1) = if ((linesL (ls s))[i].1 : Int) ≤ k then (i : Int) else lastAt (linesL (ls s)) k i) := Lib.hid (by
          rw [lastAt, List.getD_eq_getElem?_getD, List.getElem?_eq_getElem hi]; rfl)
        obtain ⟨g, o, rfl, hc0, hc1⟩ := RdS.pair ((OwnS.rd hown).ext hx) i hi
        clear e1
        go_wp2
        · go_ret
          refine ⟨ret1 ?_, (by (repeat (first | exact Ext.refl _ | exact ‹Ext _ _› | refine Ext.alloc ?_ _ | refine Ext.drew ?_ | refine Ext.drewN ?_ _ | (refine Ext.setCell ?_ (by first | omega | (simp; done) | (simp; omega)) _) | refine Ext.trans ?_ ‹Ext _ _›)))⟩
          rw [← Ho.out, ← Hok.out, Hs.out, if_pos (by omega)]
        · go_roundw
          case rel =>
            refine ⟨i, by go_num, by omega, ?_, (by (repeat (first | exact Ext.refl _ | exact ‹Ext _ _› | refine Ext.alloc ?_ _ | refine Ext.drew ?_ | refine Ext.drewN ?_ _ | (refine Ext.setCell ?_ (by first | omega | (simp; done) | (simp; omega)) _) | refine Ext.trans ?_ ‹Ext _ _›)))⟩
            rw [← Hok.out, Hs.out, if_neg (by omega)]
          case measure => (simp [intOf] <;> omega)

end Go.Proofs.Ytnmcdkekflnekaa
/- The contracts of the reference calamusref05: classes. -/
namespace Go.Proofs.Ytnmcdkekflnekaa
open Go.RowKit
set_option linter.unusedVariables false
set_option linter.unusedSimpArgs false
def bsI (l : List UInt8) : List Int := l.map fun x => (x.toNat : Int)
theorem bsI_len (l : List UInt8) : (bsI l).length = l.length := by simp [bsI]
theorem bsI_at (s : ByteArray) (j : Nat) (h : j < s.size) : (bsI (ls s))[j]'(by rw [bsI_len, ls_len]; exact h) = ((s[j].toNat : Nat) : Int) := by
  have h' : j < (ls s).length := by rw [ls_len]; exact h
  simp only [bsI, List.getElem_map]
  rw [byL_eq s j h]; unfold byL; rw [List.getD_eq_getElem?_getD, List.getElem?_eq_getElem h']; rfl
set_option maxHeartbeats 4000000 in
set_option maxRecDepth 100000 in
theorem rin_c (s : ByteArray) (b : Int) (w : World) (hs : s.size ≤ 1152921504606846976) : Calls Try.prog 136 #[.string s, .int .u8 b] w fun e w' => e = .returned (.int .i64 (findF (bsI (ls s)) b 0)) ∧ Ext w w' := by
  go_enter Try.func136, Try.ntmps136
  go_wp2
  go_loopw [5] (fun i wr => ∃ k : Nat, k ≤ s.size ∧ i = .int .i64 k ∧ findF ((bsI (ls s)).drop k) b k = findF (bsI (ls s)) b 0 ∧ Ext w wr) (fun i _ => s.size - (intOf i).toNat)
  case atStart => exact ⟨0, by omega, rfl, by simp, (by (repeat (first | exact Ext.refl _ | exact ‹Ext _ _› | refine Ext.alloc ?_ _ | refine Ext.drew ?_ | refine Ext.drewN ?_ _ | (refine Ext.setCell ?_ (by first | omega | (simp; done) | (simp; omega)) _) | refine Ext.trans ?_ ‹Ext _ _›)))⟩
  case round =>
    obtain ⟨k, hk, rfl, hok, hx⟩ := hrel
    have Hok := Lib.hid hok
    clear hok
    by_cases hlt : k < s.size
    · have hb := bsI_at s k hlt
      have Hs := Lib.hid (findF_step (bsI (ls s)) b k (by rw [bsI_len, ls_len]; exact hlt))
      rw [hb] at Hs
      clear hb
      go_wp2
      all_goals (try simp only [beq_iff_eq, beq_eq_false_iff_ne] at *)
      · go_ret
        refine ⟨ret1 ?_, (by (repeat (first | exact Ext.refl _ | exact ‹Ext _ _› | refine Ext.alloc ?_ _ | refine Ext.drew ?_ | refine Ext.drewN ?_ _ | (refine Ext.setCell ?_ (by first | omega | (simp; done) | (simp; omega)) _) | refine Ext.trans ?_ ‹Ext _ _›)))⟩
        rw [← Hok.out, Hs.out, if_pos (by assumption)]
      · go_roundw
        case rel =>
          refine ⟨k + 1, by omega, by go_num, ?_, (by (repeat (first | exact Ext.refl _ | exact ‹Ext _ _› | refine Ext.alloc ?_ _ | refine Ext.drew ?_ | refine Ext.drewN ?_ _ | (refine Ext.setCell ?_ (by first | omega | (simp; done) | (simp; omega)) _) | refine Ext.trans ?_ ‹Ext _ _›)))⟩
          rw [← Hok.out, Hs.out, if_neg (by assumption)]
        case measure => (simp [intOf] <;> omega)
    · have Hs := Lib.hid (findF_end (bsI (ls s)) b k (by rw [bsI_len, ls_len]; omega))
      go_wp2
      go_ret
      exact ⟨ret1 (by rw [← Hok.out, Hs.out]), (by (repeat (first | exact Ext.refl _ | exact ‹Ext _ _› | refine Ext.alloc ?_ _ | refine Ext.drew ?_ | refine Ext.drewN ?_ _ | (refine Ext.setCell ?_ (by first | omega | (simp; done) | (simp; omega)) _) | refine Ext.trans ?_ ‹Ext _ _›)))⟩

def alnumB (b : Int) : Bool := lettB b || (decide (48 ≤ b) && decide (b ≤ 57)) || decide (b = 95)
def kindR (l : List UInt8) (big : Bool) : Int :=
  if l = [] then 0 else if l = [10] then 4 else if byL l 0 = 32 ∨ byL l 0 = 9 then 1 else if 1 < l.length ∨ big = true ∨ alnumB (byL l 0) = true then 2 else 3
theorem in_blank : ∀ n : Fin 256, decide (0 ≤ findF (bsI (ls ⟨#[32, 9]⟩)) (n.val : Int) 0) = (decide ((n.val : Int) = 32) || decide ((n.val : Int) = 9)) := by decide +kernel
def alnumL : ByteArray := ⟨#[97, 98, 99, 100, 101, 102, 103, 104, 105, 106, 107, 108, 109, 110, 111, 112, 113, 114, 115, 116, 117, 118, 119, 120, 121, 122, 65, 66, 67, 68, 69, 70, 71, 72, 73, 74, 75, 76, 77, 78, 79, 80, 81, 82, 83, 84, 85, 86, 87, 88, 89, 90, 48, 49, 50, 51, 52, 53, 54, 55, 56, 57, 95]⟩
theorem in_alnum : ∀ n : Fin 256, decide (0 ≤ findF (bsI (ls alnumL)) (n.val : Int) 0) = alnumB n.val := by decide +kernel
theorem in_blank' (x : UInt8) : 0 ≤ findF (bsI (ls ⟨#[32, 9]⟩)) ((x.toNat : Nat) : Int) 0 ↔ (((x.toNat : Nat) : Int) = 32 ∨ ((x.toNat : Nat) : Int) = 9) := by
  have h := in_blank ⟨x.toNat, x.toNat_lt⟩
  rw [Bool.eq_iff_iff] at h; simpa using h
theorem in_alnum' (x : UInt8) : 0 ≤ findF (bsI (ls alnumL)) ((x.toNat : Nat) : Int) 0 ↔ alnumB ((x.toNat : Nat) : Int) = true := by
  have h := in_alnum ⟨x.toNat, x.toNat_lt⟩
  rw [Bool.eq_iff_iff] at h; simpa using h
theorem ls_nil {s : ByteArray} (h : 0 < s.size) : ls s ≠ [] := by intro e; have := ls_len s; rw [e] at this; simp at this; omega
set_option maxHeartbeats 4000000 in
set_option maxRecDepth 100000 in
theorem rkind_c (s : ByteArray) (big : Bool) (w : World) (hs : s.size ≤ 1099511627775) : Calls Try.prog 117 #[.string s, .bool big] w fun e w' => e = .returned (.int .i64 (kindR (ls s) big)) ∧ Ext w w' := by
  rcases Nat.eq_zero_or_pos s.size with h0 | h0
  · have He := emp_t s h0
    have Hk : Hid (kindR (ls s) big = 0) := Lib.hid (by unfold kindR; rw [if_pos (by rw [← List.length_eq_zero_iff, ls_len]; exact h0)])
    clear h0
    go_enter Try.func117, Try.ntmps117
    go_wp2
    go_ret
    exact ⟨ret1 Hk.out.symm, (by (repeat (first | exact Ext.refl _ | exact ‹Ext _ _› | refine Ext.alloc ?_ _ | refine Ext.drew ?_ | refine Ext.drewN ?_ _ | (refine Ext.setCell ?_ (by first | omega | (simp; done) | (simp; omega)) _) | refine Ext.trans ?_ ‹Ext _ _›)))⟩
  have He := emp_f s h0
  rcases Bool.eq_false_or_eq_true (s.toList == [10]) with h10 | h10
  · have Hk : Hid (kindR (ls s) big = 4) := Lib.hid (by
      rw [Lib.toList_data, beq_iff_eq] at h10
      unfold kindR; rw [if_neg (ls_nil h0), if_pos h10])
    go_enter Try.func117, Try.ntmps117
    go_wp2
    go_ret
    exact ⟨ret1 Hk.out.symm, (by (repeat (first | exact Ext.refl _ | exact ‹Ext _ _› | refine Ext.alloc ?_ _ | refine Ext.drew ?_ | refine Ext.drewN ?_ _ | (refine Ext.setCell ?_ (by first | omega | (simp; done) | (simp; omega)) _) | refine Ext.trans ?_ ‹Ext _ _›)))⟩
  have Hb := Lib.hid (in_blank' s[0])
  have Ha := Lib.hid (in_alnum' s[0])
  have Hk : Hid (kindR (ls s) big = if ((s[0].toNat : Nat) : Int) = 32 ∨ ((s[0].toNat : Nat) : Int) = 9 then 1 else if 1 < s.size ∨ big = true ∨ alnumB ((s[0].toNat : Nat) : Int) = true then 2 else 3) := Lib.hid (by
    rw [Lib.toList_data, beq_eq_false_iff_ne] at h10
    unfold kindR; rw [if_neg (ls_nil h0), if_neg h10, byL_eq s 0 h0, ls_len])
  go_enter Try.func117, Try.ntmps117
  go_wp2_with (first | (go_at_call 136; refine (rin_c _ _ _ (by first | omega | decide)).mono ?_; rintro e w1 ⟨rfl, hx1⟩))
  all_goals (go_ret; refine ⟨ret1 ?_, (by (repeat (first | exact Ext.refl _ | exact ‹Ext _ _› | refine Ext.alloc ?_ _ | refine Ext.drew ?_ | refine Ext.drewN ?_ _ | (refine Ext.setCell ?_ (by first | omega | (simp; done) | (simp; omega)) _) | refine Ext.trans ?_ ‹Ext _ _›)))⟩; rw [Hk.out])
  all_goals first
    | (rw [if_pos (Hb.out.1 (by assumption))]; done)
    | (rw [if_neg (fun h => absurd (Hb.out.2 h) (by omega))]; first
        | (rw [if_pos (.inl (by omega))]; done)
        | (rw [if_pos (.inr (.inl (by assumption)))]; done)
        | (rw [if_pos (by rename _ ∨ _ => hq; rcases hq with h | h; exact .inl (by omega); exact .inr (.inr (Ha.out.1 h)))]; done)
        | (rw [if_neg (by rintro (h | h | h); omega; contradiction; exact absurd (Ha.out.2 h) (Int.not_le.2 (by rename _ ∧ _ => hq; exact hq.2)))]; done))

theorem runeL_at {l : List UInt8} {k : Nat} (h : placeB l k = true) (hk : k < l.length) : ∃ n, szL (l.drop k) = n ∧ 1 ≤ n ∧ runeL l k = (l.drop k).take n ∧ ((l.drop k).take n).length = n ∧ byL ((l.drop k).take n) 0 = byL l k := by
  obtain ⟨hz, hle⟩ := sz_at h hk
  refine ⟨szL (l.drop k), rfl, by omega, ?_, by rw [List.length_take, List.length_drop]; omega, ?_⟩
  · unfold runeL; rw [if_pos ⟨h, by omega⟩, Int.toNat_natCast]
  · rw [byL_take (l.drop k) (by omega), byL_drop]; rfl
theorem runeL_out {l : List UInt8} {p : Int} (h : ¬ (placeB l p = true ∧ p ≠ l.length)) : runeL l p = [] := by unfold runeL; rw [if_neg h]
theorem kindR_of (l : List UInt8) (p : Int) (big : Bool) : kindR (runeL l p) big = kindI l p big := by
  by_cases h : placeB l p = true ∧ p ≠ l.length
  · obtain ⟨h1, h2⟩ := h
    have h3 := h1
    unfold placeB at h3; simp only [Bool.and_eq_true, decide_eq_true_eq] at h3
    obtain ⟨k, rfl⟩ : ∃ k : Nat, p = k := ⟨p.toNat, by omega⟩
    have hk : k < l.length := by omega
    obtain ⟨n, hn, h1n, e1, e2, e3⟩ := runeL_at h1 hk
    have hc : clsI l k = ofB (byL l k) := by unfold clsI; rw [if_pos ⟨h1, by omega⟩, Int.toNat_natCast]
    obtain ⟨hz, _⟩ := sz_at h1 hk
    obtain ⟨_, h4, _, h5⟩ := szL_pos hz
    rw [byL_drop, Nat.add_zero, hn] at h4
    have hb0 := byL_lo l k
    have hb1 := byL_hi l k
    have key : n = 1 ↔ byL l k < 128 := by
      have : fSize (byL l k) = 1 ↔ byL l k < 128 := by unfold fSize; repeat' (first | omega | split)
      omega
    have hten : (l.drop k).take n = [10] ↔ byL l k = 10 := by
      constructor
      · intro e; rw [← e3, e]; rfl
      · intro e
        have : n = 1 := by omega
        subst this
        rw [List.drop_eq_getElem_cons hk]
        have := byL_ten hk
        rw [e] at this
        simp at this
        simp [this]
    rw [e1]
    unfold kindR kindI bigI
    rw [hc, if_neg (by intro e; rw [e] at e2; simp at e2; omega), e2, e3]
    simp only [hten]
    have hal : alnumB (byL l k) = true ↔ (lettB (byL l k) = true ∨ (48 ≤ byL l k ∧ byL l k ≤ 57) ∨ byL l k = 95) := by unfold alnumB; simp [or_assoc]
    simp only [hal]
    unfold ofB
    by_cases hP : lettB (byL l k) = true <;> cases big <;> simp [hP] <;> (repeat' split) <;> first | rfl | omega
  · rw [runeL_out h]
    have hc : clsI l p = 0 := by unfold clsI; rw [if_neg h]
    unfold kindI bigI; rw [hc]; cases big <;> rfl
set_option maxHeartbeats 4000000 in
set_option maxRecDepth 100000 in
theorem r5of_c (s : ByteArray) (p : Int) (big : Bool) (w : World) (hs : s.size ≤ 1099511627775) : Calls Try.prog 88 #[.string s, .int .i64 p, .bool big] w fun e w' => e = .returned (.int .i64 (kindI (ls s) p big)) ∧ Ext w w' := by
  have Hk := Lib.hid (kindR_of (ls s) p big)
  have Hl : Hid ((⟨(runeL (ls s) p).toArray⟩ : ByteArray).size ≤ 1099511627775) := Lib.hid (by
    rw [Lib.size_eq]; simp only [List.toList_toArray]
    unfold runeL; split
    · rw [List.length_take]; have := szL_hi ((ls s).drop p.toNat); omega
    · simp)
  go_enter Try.func88, Try.ntmps88
  go_wp2_with (first | (go_at_call 118; refine (rrune_c _ _ _ hs).mono ?_; rintro e w1 ⟨rfl, hx1⟩) | (go_at_call 117; refine (rkind_c _ _ _ Hl.out).mono ?_; rintro e w1 ⟨rfl, hx1⟩))
  go_ret
  exact ⟨ret1 Hk.out, (by (repeat (first | exact Ext.refl _ | exact ‹Ext _ _› | refine Ext.alloc ?_ _ | refine Ext.drew ?_ | refine Ext.drewN ?_ _ | (refine Ext.setCell ?_ (by first | omega | (simp; done) | (simp; omega)) _) | refine Ext.trans ?_ ‹Ext _ _›)))⟩

theorem dnI_at {l : List UInt8} {c : Int} {big : Bool} {a m f : Nat} (h : a ≤ m) : dnI l c big a (m + 1) f = if placeB l m = true then (if kindI l m big = c then dnI l c big a m m else f) else dnI l c big a m f := by rw [dnI, if_neg (by omega)]
theorem dnI_stop (l : List UInt8) (c : Int) (big : Bool) (a f : Nat) : dnI l c big a a f = f := by
  cases a with
  | zero => rfl
  | succ n => rw [dnI, if_pos (by omega)]
theorem upI_at {l : List UInt8} {c : Int} {big : Bool} {e i : Nat} {t : Int} (h : i < e) : upI l c big (e - i) i t = if placeB l i = true then (if kindI l i big = c then upI l c big (e - (i + 1)) (i + 1) (nextI l i) else t) else upI l c big (e - (i + 1)) (i + 1) t := by
  rw [show e - i = (e - (i + 1)) + 1 by omega, upI]
end Go.Proofs.Ytnmcdkekflnekaa
/- The contracts of the packages class and calamusref05 in the printer's form. -/
namespace Go.Proofs.Ytnmcdkekflnekaa
open Go.RowKit
set_option linter.unusedVariables false
set_option linter.unusedSimpArgs false
def class_Of.f (a0 : ByteArray) (a1 : Int) : Option (Int) := if a0.size ≤ 1099511627775 then some (clsI (ls a0) a1) else none
theorem class_Of.eq (a0 : ByteArray) (a1 : Int) (hg : a0.size ≤ 1099511627775) : class_Of.f a0 a1 = some (clsI (ls a0) a1) := if_pos hg
theorem class_Of.calls (a0 : ByteArray) (a1 : Int) (r : Int) (w : World) (h : class_Of.f a0 a1 = some r) : Calls Try.prog 86 #[.string a0, .int .i64 a1] w fun e w' => e = .returned (.int .i64 r) ∧ Below w.heap.size w w' := by
  unfold class_Of.f at h
  split at h
  · cases h; exact cof_c a0 a1 w (by omega)
  · cases h
def calamusref05_Kind.f (a0 : ByteArray) (a1 : Bool) : Option (Int) := if a0.size ≤ 1099511627775 then some (kindR (ls a0) a1) else none
theorem calamusref05_Kind.eq (a0 : ByteArray) (a1 : Bool) (hg : a0.size ≤ 1099511627775) : calamusref05_Kind.f a0 a1 = some (kindR (ls a0) a1) := if_pos hg
theorem calamusref05_Kind.calls (a0 : ByteArray) (a1 : Bool) (r : Int) (w : World) (h : calamusref05_Kind.f a0 a1 = some r) : Calls Try.prog 117 #[.string a0, .bool a1] w fun e w' => e = .returned (.int .i64 r) ∧ Below w.heap.size w w' := by
  unfold calamusref05_Kind.f at h
  split at h
  · cases h; exact rkind_c a0 a1 w (by omega)
  · cases h
def calamusref05_Of.f (a0 : ByteArray) (a1 : Int) (a2 : Bool) : Option (Int) := if a0.size ≤ 1099511627775 then some (kindI (ls a0) a1 a2) else none
theorem calamusref05_Of.eq (a0 : ByteArray) (a1 : Int) (a2 : Bool) (hg : a0.size ≤ 1099511627775) : calamusref05_Of.f a0 a1 a2 = some (kindI (ls a0) a1 a2) := if_pos hg
theorem calamusref05_Of.calls (a0 : ByteArray) (a1 : Int) (a2 : Bool) (r : Int) (w : World) (h : calamusref05_Of.f a0 a1 a2 = some r) : Calls Try.prog 88 #[.string a0, .int .i64 a1, .bool a2] w fun e w' => e = .returned (.int .i64 r) ∧ Below w.heap.size w w' := by
  unfold calamusref05_Of.f at h
  split at h
  · cases h; exact r5of_c a0 a1 a2 w (by omega)
  · cases h
end Go.Proofs.Ytnmcdkekflnekaa
-- Printed by this work's xp.py out of the translation. Lean checks it.
namespace Go.Proofs.Ytnmcdkekflnekaa.QE
open Go.RowKit Go.Proofs.YtnmcdkekflnekaaW.PrintWords Go.Proofs.YtnmcdkekflnekaaW.PrintLast Go.Proofs.YtnmcdkekflnekaaW.PrintMore
attribute [local go_sem] max2_int min2_int max_two min_two max_three min_three max_four min_four   -- for this text's walks alone
set_option linter.unusedVariables false
set_option linter.unusedSimpArgs false


/-! ### calamuslaw25_EntryTypes -/
def calamuslaw25_EntryTypes.j0 : Nat → ByteArray → Int → ByteArray → Int → Int → Bool → Option (Bool)
  | 0, _, _, _, _, _, _ => none
  | k + 1, x0, x1, x2, x3, x4, x30 => if x30 = true then ((calamuslaw25_lives.f).bind fun t129 => (some t129)) else ((entry_Type.f k x0 x1 x2).bind fun bt130 => ((calamusref25_Type.f k x0 x1 x2).bind fun bt133 => ((entry_Again.f k x0 x1 x3 x4).bind fun bt136 => ((calamusref25_Again.f k x0 x1 x3 x4).bind fun bt139 => (if bt130.1.toList = bt133.1.toList then (if bt130.2.1 = bt133.2.1 then (if bt130.2.2 = bt133.2.2 then (if bt136.1.toList = bt139.1.toList then (if bt136.2.1 = bt139.2.1 then (if bt136.2.2 = bt139.2.2 then ((calamuslaw25_lives.f).bind fun t142 => (some t142)) else (some false)) else (some false)) else (some false)) else (some false)) else (some false)) else (some false))))))
def calamuslaw25_EntryTypes.f (k : Nat) (a0 : ByteArray) (a1 : Int) (a2 : ByteArray) (a3 : Int) (a4 : Int) : Option (Bool) := if (a0.size : Int) > 500 then (calamuslaw25_EntryTypes.j0 k a0 a1 a2 a3 a4 true) else (calamuslaw25_EntryTypes.j0 k a0 a1 a2 a3 a4 (decide ((a2.size : Int) > 5000)))
theorem calamuslaw25_EntryTypes.mono_l : ∀ k, (∀ y0 y1 y2 y3 y4 y5, LeO (calamuslaw25_EntryTypes.j0 k y0 y1 y2 y3 y4 y5) (calamuslaw25_EntryTypes.j0 (k + 1) y0 y1 y2 y3 y4 y5))
  | 0 => fun _ _ _ _ _ _ r h => by simp [calamuslaw25_EntryTypes.j0] at h
  | k + 1 => by
    have ih0 := calamuslaw25_EntryTypes.mono_l k
    · intro y0 y1 y2 y3 y4 y5
      unfold calamuslaw25_EntryTypes.j0
      repeat' first
      | (with_reducible exact ih0 _ _ _ _ _ _)
      | (with_reducible exact calamusref25_Again.mono _ _ _ _ _)
      | (with_reducible exact calamusref25_Type.mono _ _ _ _)
      | (with_reducible exact entry_Again.mono _ _ _ _ _)
      | (with_reducible exact entry_Type.mono _ _ _ _)
      | (with_reducible exact LeO.refl _)
      | (with_reducible exact LeO.none _)
      | (with_reducible refine LeO.ite ?_ ?_)
      | (with_reducible refine LeO.bind ?_ (fun _ => ?_))
      | exact ih0 _ _ _ _ _ _
      | exact calamusref25_Again.mono _ _ _ _ _
      | exact calamusref25_Type.mono _ _ _ _
      | exact entry_Again.mono _ _ _ _ _
      | exact entry_Type.mono _ _ _ _
      | exact LeO.none _
      | refine LeO.ite ?_ ?_
      | refine LeO.bind ?_ (fun _ => ?_)
theorem calamuslaw25_EntryTypes.mono : ∀ a0 a1 a2 a3 a4 k, LeO (calamuslaw25_EntryTypes.f k a0 a1 a2 a3 a4) (calamuslaw25_EntryTypes.f (k + 1) a0 a1 a2 a3 a4) := by
  intro a0 a1 a2 a3 a4 k
  have ih0 := calamuslaw25_EntryTypes.mono_l k
  unfold calamuslaw25_EntryTypes.f
  repeat' first
      | (with_reducible exact ih0 _ _ _ _ _ _)
      | (with_reducible exact calamusref25_Again.mono _ _ _ _ _)
      | (with_reducible exact calamusref25_Type.mono _ _ _ _)
      | (with_reducible exact entry_Again.mono _ _ _ _ _)
      | (with_reducible exact entry_Type.mono _ _ _ _)
      | (with_reducible exact LeO.refl _)
      | (with_reducible exact LeO.none _)
      | (with_reducible refine LeO.ite ?_ ?_)
      | (with_reducible refine LeO.bind ?_ (fun _ => ?_))
      | exact ih0 _ _ _ _ _ _
      | exact calamusref25_Again.mono _ _ _ _ _
      | exact calamusref25_Type.mono _ _ _ _
      | exact entry_Again.mono _ _ _ _ _
      | exact entry_Type.mono _ _ _ _
      | exact LeO.none _
      | refine LeO.ite ?_ ?_
      | refine LeO.bind ?_ (fun _ => ?_)
set_option maxHeartbeats 8000000 in
set_option maxRecDepth 100000 in
theorem calamuslaw25_EntryTypes.calls (k : Nat) (a0 : ByteArray) (a1 : Int) (a2 : ByteArray) (a3 : Int) (a4 : Int) (r : Bool) (w : World) (h : calamuslaw25_EntryTypes.f k a0 a1 a2 a3 a4 = some r) :
    Calls Try.prog 8 #[.string a0, .int .i64 a1, .string a2, .int .i64 a3, .int .i64 a4] w fun e w' => e = .returned (.bool r) ∧ Below w.heap.size w w' := by
  have HB := Aside0.mk (Below.refl w.heap.size w)
  have H : (if (a0.size : Int) > 500 then (calamuslaw25_EntryTypes.j0 k a0 a1 a2 a3 a4 true) else (calamuslaw25_EntryTypes.j0 k a0 a1 a2 a3 a4 (decide ((a2.size : Int) > 5000)))) = some r := h
  clear h
  have HC6 := Aside0.mk H
  clear H
  go_enter Try.func8, Try.ntmps8
  go_upto_region 1 with (fail)
  go_cut [30] (fun v30 wc => ∃ (kq : Nat) (x30_5 : Bool), v30 = .bool x30_5 ∧ Aside0 (calamuslaw25_EntryTypes.j0 kq a0 a1 a2 a3 a4 x30_5 = some r) ∧ Aside0 (kq ≤ k) ∧ Aside0 (Below w.heap.size w wc))
  case first =>
    have H := HC6.out
    clear HC6
    by_cases c7 : (a0.size : Int) > 500
    · rw [if_pos c7] at H
      have c7b0 : decide (500 < (a0.size : Int)) = true := decide_eq_true c7
      have c7b1 : decide (500 < a0.size) = true := decide_eq_true (by omega)
      clear c7
      (first | rw [c7b0] | (simp only [i64_w, i32_w]; rw [c7b0]) | skip)
      have H' := Aside0.mk H
      clear H
      go_wp2
      go_meet
      case rel => exact ⟨_, (true), (by first | rfl | (simp; done) | (simp [*]; done)), H', ⟨by first | omega | exact Nat.le_refl _⟩, ⟨by repeat (first | (with_reducible first | exact HB.out | apply below_alloc | apply pw_below_drewN | apply below_drew1) | exact HB.out)⟩⟩
    · rw [if_neg c7] at H
      have c7b0 : decide (500 < (a0.size : Int)) = false := decide_eq_false c7
      have c7b1 : decide (500 < a0.size) = false := decide_eq_false (by omega)
      clear c7
      (first | rw [c7b0] | (simp only [i64_w, i32_w]; rw [c7b0]) | skip)
      have H' := Aside0.mk H
      clear H
      go_wp2
      go_meet
      case rel => exact ⟨_, (decide ((a2.size : Int) > 5000)), (by first | rfl | (simp; done) | (simp [*]; done)), H', ⟨by first | omega | exact Nat.le_refl _⟩, ⟨by repeat (first | (with_reducible first | exact HB.out | apply below_alloc | apply pw_below_drewN | apply below_drew1) | exact HB.out)⟩⟩
  case rest =>
    clear HC6
    try clear p2
    try clear c7
    try clear c7b0
    try clear c7b1
    obtain ⟨kq, x30_5, rfl, HA, HJ5, HB⟩ := hcut
    cases kq with
    | zero => exact absurd HA.out (by simp [calamuslaw25_EntryTypes.j0])
    | succ kj5 =>
      have H := HA.out
      clear HA
      simp only [calamuslaw25_EntryTypes.j0] at H
      by_cases c8 : x30_5 = true
      · subst c8
        have H1 : ((calamuslaw25_lives.f).bind fun t129 => (some t129)) = some r := by rw [if_pos rfl] at H; exact H
        clear H
        have H := H1
        clear H1
        replace H := Option.bind_eq_some_iff.mp H
        obtain ⟨t129, A90, H⟩ := H
        replace H : (some t129) = some r := H
        have A9 := Aside0.mk A90
        clear A90
        obtain rfl := Option.some.inj H
        go_wp2_with (first | ((with_reducible refine gate_callee (f := 14) rfl ?_); refine goesL_ (some 31) rfl rfl Try.func14 (by kernel_rfl) rfl #[] rfl (by (try simp only [List.map_toArray, List.map_cons, List.map_nil]); first | done | rfl | (simp only [List.length_drop, List.length_take]; rfl)) ?_; (with_reducible refine (calamuslaw25_lives.calls  t129 _ A9.out).mono ?_); rintro e w10 ⟨rfl, hb⟩; refine ⟨_, rfl, ?_⟩; have n0_ := Aside0.mk (below_step (by repeat (first | (with_reducible first | exact HB.out | apply below_alloc | apply pw_below_drewN | apply below_drew1) | exact HB.out)) hb); clear HB; have HB := n0_; clear n0_; (try clear hb); (try clear hb2); (try clear hk); (try clear hi)))
        go_ret
        exact ⟨by first | rfl | (simp [errW_none, errW_some] <;> rfl) | (simp [*, errW_none, errW_some] <;> rfl), by repeat (first | (with_reducible first | exact HB.out | apply below_alloc | apply pw_below_drewN | apply below_drew1) | exact HB.out)⟩
      · replace c8 := Bool.eq_false_iff.mpr c8
        subst c8
        have H1 : ((entry_Type.f kj5 a0 a1 a2).bind fun bt130 => ((calamusref25_Type.f kj5 a0 a1 a2).bind fun bt133 => ((entry_Again.f kj5 a0 a1 a3 a4).bind fun bt136 => ((calamusref25_Again.f kj5 a0 a1 a3 a4).bind fun bt139 => (if bt130.1.toList = bt133.1.toList then (if bt130.2.1 = bt133.2.1 then (if bt130.2.2 = bt133.2.2 then (if bt136.1.toList = bt139.1.toList then (if bt136.2.1 = bt139.2.1 then (if bt136.2.2 = bt139.2.2 then ((calamuslaw25_lives.f).bind fun t142 => (some t142)) else (some false)) else (some false)) else (some false)) else (some false)) else (some false)) else (some false)))))) = some r := by rw [if_neg (show ¬ (false = true) by decide)] at H; exact H
        clear H
        have H := H1
        clear H1
        replace H := Option.bind_eq_some_iff.mp H
        obtain ⟨⟨t130, t131, t132⟩, A110, H⟩ := H
        replace H : ((calamusref25_Type.f kj5 a0 a1 a2).bind fun bt133 => ((entry_Again.f kj5 a0 a1 a3 a4).bind fun bt136 => ((calamusref25_Again.f kj5 a0 a1 a3 a4).bind fun bt139 => (if t130.toList = bt133.1.toList then (if t131 = bt133.2.1 then (if t132 = bt133.2.2 then (if bt136.1.toList = bt139.1.toList then (if bt136.2.1 = bt139.2.1 then (if bt136.2.2 = bt139.2.2 then ((calamuslaw25_lives.f).bind fun t142 => (some t142)) else (some false)) else (some false)) else (some false)) else (some false)) else (some false)) else (some false))))) = some r := H
        have A11 := Aside0.mk A110
        clear A110
        replace H := Option.bind_eq_some_iff.mp H
        obtain ⟨⟨t133, t134, t135⟩, A120, H⟩ := H
        replace H : ((entry_Again.f kj5 a0 a1 a3 a4).bind fun bt136 => ((calamusref25_Again.f kj5 a0 a1 a3 a4).bind fun bt139 => (if t130.toList = t133.toList then (if t131 = t134 then (if t132 = t135 then (if bt136.1.toList = bt139.1.toList then (if bt136.2.1 = bt139.2.1 then (if bt136.2.2 = bt139.2.2 then ((calamuslaw25_lives.f).bind fun t142 => (some t142)) else (some false)) else (some false)) else (some false)) else (some false)) else (some false)) else (some false)))) = some r := H
        have A12 := Aside0.mk A120
        clear A120
        replace H := Option.bind_eq_some_iff.mp H
        obtain ⟨⟨t136, t137, t138⟩, A130, H⟩ := H
        replace H : ((calamusref25_Again.f kj5 a0 a1 a3 a4).bind fun bt139 => (if t130.toList = t133.toList then (if t131 = t134 then (if t132 = t135 then (if t136.toList = bt139.1.toList then (if t137 = bt139.2.1 then (if t138 = bt139.2.2 then ((calamuslaw25_lives.f).bind fun t142 => (some t142)) else (some false)) else (some false)) else (some false)) else (some false)) else (some false)) else (some false))) = some r := H
        have A13 := Aside0.mk A130
        clear A130
        replace H := Option.bind_eq_some_iff.mp H
        obtain ⟨⟨t139, t140, t141⟩, A140, H⟩ := H
        replace H : (if t130.toList = t133.toList then (if t131 = t134 then (if t132 = t135 then (if t136.toList = t139.toList then (if t137 = t140 then (if t138 = t141 then ((calamuslaw25_lives.f).bind fun t142 => (some t142)) else (some false)) else (some false)) else (some false)) else (some false)) else (some false)) else (some false)) = some r := H
        have A14 := Aside0.mk A140
        clear A140
        by_cases c15 : t130.toList = t133.toList
        · rw [if_pos c15] at H
          have c15b0 : (t130.toList == t133.toList) = true := beq_iff_eq.mpr c15
          have c15b1 : (t130.toList != t133.toList) = false := bne_eq_false_iff_eq.mpr c15
          clear c15
          by_cases c16 : t131 = t134
          · rw [if_pos c16] at H
            have c16b0 : (t131 == t134) = true := beq_iff_eq.mpr c16
            have c16b1 : (t131 != t134) = false := bne_eq_false_iff_eq.mpr c16
            clear c16
            by_cases c17 : t132 = t135
            · rw [if_pos c17] at H
              have c17b0 : (t132 == t135) = true := beq_iff_eq.mpr c17
              have c17b1 : (t132 != t135) = false := bne_eq_false_iff_eq.mpr c17
              clear c17
              by_cases c18 : t136.toList = t139.toList
              · rw [if_pos c18] at H
                have c18b0 : (t136.toList == t139.toList) = true := beq_iff_eq.mpr c18
                have c18b1 : (t136.toList != t139.toList) = false := bne_eq_false_iff_eq.mpr c18
                clear c18
                by_cases c19 : t137 = t140
                · rw [if_pos c19] at H
                  have c19b0 : (t137 == t140) = true := beq_iff_eq.mpr c19
                  have c19b1 : (t137 != t140) = false := bne_eq_false_iff_eq.mpr c19
                  clear c19
                  by_cases c20 : t138 = t141
                  · rw [if_pos c20] at H
                    have c20b0 : (t138 == t141) = true := beq_iff_eq.mpr c20
                    have c20b1 : (t138 != t141) = false := bne_eq_false_iff_eq.mpr c20
                    clear c20
                    replace H := Option.bind_eq_some_iff.mp H
                    obtain ⟨t142, A210, H⟩ := H
                    replace H : (some t142) = some r := H
                    have A21 := Aside0.mk A210
                    clear A210
                    obtain rfl := Option.some.inj H
                    go_wp2_with (first | ((with_reducible refine gate_callee (f := 15) rfl ?_); refine goesL_ (some 36) rfl rfl Try.func15 (by kernel_rfl) rfl #[.string a0, .int .i64 a1, .string a2] rfl (by (try simp only [List.map_toArray, List.map_cons, List.map_nil]); first | done | rfl | (simp only [List.length_drop, List.length_take]; rfl)) ?_; (with_reducible refine (entry_Type.calls kj5 a0 a1 a2 t130 t131 t132 _ A11.out).mono ?_); rintro e w22 ⟨rfl, hb⟩; refine ⟨_, rfl, ?_⟩; have n0_ := Aside0.mk (below_step (by repeat (first | (with_reducible first | exact HB.out | apply below_alloc | apply pw_below_drewN | apply below_drew1) | exact HB.out)) hb); clear HB; have HB := n0_; clear n0_; (try clear hb); (try clear hb2); (try clear hk); (try clear hi)) | ((with_reducible refine gate_callee (f := 32) rfl ?_); refine goesL_ (some 44) rfl rfl Try.func32 (by kernel_rfl) rfl #[.string a0, .int .i64 a1, .string a2] rfl (by (try simp only [List.map_toArray, List.map_cons, List.map_nil]); first | done | rfl | (simp only [List.length_drop, List.length_take]; rfl)) ?_; (with_reducible refine (calamusref25_Type.calls kj5 a0 a1 a2 t133 t134 t135 _ A12.out).mono ?_); rintro e w23 ⟨rfl, hb⟩; refine ⟨_, rfl, ?_⟩; have n0_ := Aside0.mk (below_step (by repeat (first | (with_reducible first | exact HB.out | apply below_alloc | apply pw_below_drewN | apply below_drew1) | exact HB.out)) hb); clear HB; have HB := n0_; clear n0_; (try clear hb); (try clear hb2); (try clear hk); (try clear hi)) | ((with_reducible refine gate_callee (f := 33) rfl ?_); refine goesL_ (some 53) rfl rfl Try.func33 (by kernel_rfl) rfl #[.string a0, .int .i64 a1, .int .i64 a3, .int .i64 a4] rfl (by (try simp only [List.map_toArray, List.map_cons, List.map_nil]); first | done | rfl | (simp only [List.length_drop, List.length_take]; rfl)) ?_; (with_reducible refine (entry_Again.calls kj5 a0 a1 a3 a4 t136 t137 t138 _ A13.out).mono ?_); rintro e w24 ⟨rfl, hb⟩; refine ⟨_, rfl, ?_⟩; have n0_ := Aside0.mk (below_step (by repeat (first | (with_reducible first | exact HB.out | apply below_alloc | apply pw_below_drewN | apply below_drew1) | exact HB.out)) hb); clear HB; have HB := n0_; clear n0_; (try clear hb); (try clear hb2); (try clear hk); (try clear hi)) | ((with_reducible refine gate_callee (f := 34) rfl ?_); refine goesL_ (some 62) rfl rfl Try.func34 (by kernel_rfl) rfl #[.string a0, .int .i64 a1, .int .i64 a3, .int .i64 a4] rfl (by (try simp only [List.map_toArray, List.map_cons, List.map_nil]); first | done | rfl | (simp only [List.length_drop, List.length_take]; rfl)) ?_; (with_reducible refine (calamusref25_Again.calls kj5 a0 a1 a3 a4 t139 t140 t141 _ A14.out).mono ?_); rintro e w25 ⟨rfl, hb⟩; refine ⟨_, rfl, ?_⟩; have n0_ := Aside0.mk (below_step (by repeat (first | (with_reducible first | exact HB.out | apply below_alloc | apply pw_below_drewN | apply below_drew1) | exact HB.out)) hb); clear HB; have HB := n0_; clear n0_; (try clear hb); (try clear hb2); (try clear hk); (try clear hi)) | (go_at_call 14; (with_reducible refine (calamuslaw25_lives.calls  t142 _ A21.out).mono ?_); rintro e w26 ⟨rfl, hb⟩; have n0_ := Aside0.mk (below_step (by repeat (first | (with_reducible first | exact HB.out | apply below_alloc | apply pw_below_drewN | apply below_drew1) | exact HB.out)) hb); clear HB; have HB := n0_; clear n0_; (try clear hb); (try clear hb2); (try clear hk); (try clear hi)))
                    go_ret
                    exact ⟨by first | rfl | (simp [errW_none, errW_some] <;> rfl) | (simp [*, errW_none, errW_some] <;> rfl), by repeat (first | (with_reducible first | exact HB.out | apply below_alloc | apply pw_below_drewN | apply below_drew1) | exact HB.out)⟩
                  · rw [if_neg c20] at H
                    have c20b0 : (t138 == t141) = false := beq_eq_false_iff_ne.mpr c20
                    have c20b1 : (t138 != t141) = true := bne_iff_ne.mpr c20
                    obtain rfl := Option.some.inj H
                    go_wp2_with (first | ((with_reducible refine gate_callee (f := 15) rfl ?_); refine goesL_ (some 36) rfl rfl Try.func15 (by kernel_rfl) rfl #[.string a0, .int .i64 a1, .string a2] rfl (by (try simp only [List.map_toArray, List.map_cons, List.map_nil]); first | done | rfl | (simp only [List.length_drop, List.length_take]; rfl)) ?_; (with_reducible refine (entry_Type.calls kj5 a0 a1 a2 t130 t131 t132 _ A11.out).mono ?_); rintro e w27 ⟨rfl, hb⟩; refine ⟨_, rfl, ?_⟩; have n0_ := Aside0.mk (below_step (by repeat (first | (with_reducible first | exact HB.out | apply below_alloc | apply pw_below_drewN | apply below_drew1) | exact HB.out)) hb); clear HB; have HB := n0_; clear n0_; (try clear hb); (try clear hb2); (try clear hk); (try clear hi)) | ((with_reducible refine gate_callee (f := 32) rfl ?_); refine goesL_ (some 44) rfl rfl Try.func32 (by kernel_rfl) rfl #[.string a0, .int .i64 a1, .string a2] rfl (by (try simp only [List.map_toArray, List.map_cons, List.map_nil]); first | done | rfl | (simp only [List.length_drop, List.length_take]; rfl)) ?_; (with_reducible refine (calamusref25_Type.calls kj5 a0 a1 a2 t133 t134 t135 _ A12.out).mono ?_); rintro e w28 ⟨rfl, hb⟩; refine ⟨_, rfl, ?_⟩; have n0_ := Aside0.mk (below_step (by repeat (first | (with_reducible first | exact HB.out | apply below_alloc | apply pw_below_drewN | apply below_drew1) | exact HB.out)) hb); clear HB; have HB := n0_; clear n0_; (try clear hb); (try clear hb2); (try clear hk); (try clear hi)) | ((with_reducible refine gate_callee (f := 33) rfl ?_); refine goesL_ (some 53) rfl rfl Try.func33 (by kernel_rfl) rfl #[.string a0, .int .i64 a1, .int .i64 a3, .int .i64 a4] rfl (by (try simp only [List.map_toArray, List.map_cons, List.map_nil]); first | done | rfl | (simp only [List.length_drop, List.length_take]; rfl)) ?_; (with_reducible refine (entry_Again.calls kj5 a0 a1 a3 a4 t136 t137 t138 _ A13.out).mono ?_); rintro e w29 ⟨rfl, hb⟩; refine ⟨_, rfl, ?_⟩; have n0_ := Aside0.mk (below_step (by repeat (first | (with_reducible first | exact HB.out | apply below_alloc | apply pw_below_drewN | apply below_drew1) | exact HB.out)) hb); clear HB; have HB := n0_; clear n0_; (try clear hb); (try clear hb2); (try clear hk); (try clear hi)) | ((with_reducible refine gate_callee (f := 34) rfl ?_); refine goesL_ (some 62) rfl rfl Try.func34 (by kernel_rfl) rfl #[.string a0, .int .i64 a1, .int .i64 a3, .int .i64 a4] rfl (by (try simp only [List.map_toArray, List.map_cons, List.map_nil]); first | done | rfl | (simp only [List.length_drop, List.length_take]; rfl)) ?_; (with_reducible refine (calamusref25_Again.calls kj5 a0 a1 a3 a4 t139 t140 t141 _ A14.out).mono ?_); rintro e w30 ⟨rfl, hb⟩; refine ⟨_, rfl, ?_⟩; have n0_ := Aside0.mk (below_step (by repeat (first | (with_reducible first | exact HB.out | apply below_alloc | apply pw_below_drewN | apply below_drew1) | exact HB.out)) hb); clear HB; have HB := n0_; clear n0_; (try clear hb); (try clear hb2); (try clear hk); (try clear hi)))
                    go_ret
                    exact ⟨by first | rfl | (simp [errW_none, errW_some] <;> rfl) | (simp [*, errW_none, errW_some] <;> rfl), by repeat (first | (with_reducible first | exact HB.out | apply below_alloc | apply pw_below_drewN | apply below_drew1) | exact HB.out)⟩
                · rw [if_neg c19] at H
                  have c19b0 : (t137 == t140) = false := beq_eq_false_iff_ne.mpr c19
                  have c19b1 : (t137 != t140) = true := bne_iff_ne.mpr c19
                  obtain rfl := Option.some.inj H
                  go_wp2_with (first | ((with_reducible refine gate_callee (f := 15) rfl ?_); refine goesL_ (some 36) rfl rfl Try.func15 (by kernel_rfl) rfl #[.string a0, .int .i64 a1, .string a2] rfl (by (try simp only [List.map_toArray, List.map_cons, List.map_nil]); first | done | rfl | (simp only [List.length_drop, List.length_take]; rfl)) ?_; (with_reducible refine (entry_Type.calls kj5 a0 a1 a2 t130 t131 t132 _ A11.out).mono ?_); rintro e w31 ⟨rfl, hb⟩; refine ⟨_, rfl, ?_⟩; have n0_ := Aside0.mk (below_step (by repeat (first | (with_reducible first | exact HB.out | apply below_alloc | apply pw_below_drewN | apply below_drew1) | exact HB.out)) hb); clear HB; have HB := n0_; clear n0_; (try clear hb); (try clear hb2); (try clear hk); (try clear hi)) | ((with_reducible refine gate_callee (f := 32) rfl ?_); refine goesL_ (some 44) rfl rfl Try.func32 (by kernel_rfl) rfl #[.string a0, .int .i64 a1, .string a2] rfl (by (try simp only [List.map_toArray, List.map_cons, List.map_nil]); first | done | rfl | (simp only [List.length_drop, List.length_take]; rfl)) ?_; (with_reducible refine (calamusref25_Type.calls kj5 a0 a1 a2 t133 t134 t135 _ A12.out).mono ?_); rintro e w32 ⟨rfl, hb⟩; refine ⟨_, rfl, ?_⟩; have n0_ := Aside0.mk (below_step (by repeat (first | (with_reducible first | exact HB.out | apply below_alloc | apply pw_below_drewN | apply below_drew1) | exact HB.out)) hb); clear HB; have HB := n0_; clear n0_; (try clear hb); (try clear hb2); (try clear hk); (try clear hi)) | ((with_reducible refine gate_callee (f := 33) rfl ?_); refine goesL_ (some 53) rfl rfl Try.func33 (by kernel_rfl) rfl #[.string a0, .int .i64 a1, .int .i64 a3, .int .i64 a4] rfl (by (try simp only [List.map_toArray, List.map_cons, List.map_nil]); first | done | rfl | (simp only [List.length_drop, List.length_take]; rfl)) ?_; (with_reducible refine (entry_Again.calls kj5 a0 a1 a3 a4 t136 t137 t138 _ A13.out).mono ?_); rintro e w33 ⟨rfl, hb⟩; refine ⟨_, rfl, ?_⟩; have n0_ := Aside0.mk (below_step (by repeat (first | (with_reducible first | exact HB.out | apply below_alloc | apply pw_below_drewN | apply below_drew1) | exact HB.out)) hb); clear HB; have HB := n0_; clear n0_; (try clear hb); (try clear hb2); (try clear hk); (try clear hi)) | ((with_reducible refine gate_callee (f := 34) rfl ?_); refine goesL_ (some 62) rfl rfl Try.func34 (by kernel_rfl) rfl #[.string a0, .int .i64 a1, .int .i64 a3, .int .i64 a4] rfl (by (try simp only [List.map_toArray, List.map_cons, List.map_nil]); first | done | rfl | (simp only [List.length_drop, List.length_take]; rfl)) ?_; (with_reducible refine (calamusref25_Again.calls kj5 a0 a1 a3 a4 t139 t140 t141 _ A14.out).mono ?_); rintro e w34 ⟨rfl, hb⟩; refine ⟨_, rfl, ?_⟩; have n0_ := Aside0.mk (below_step (by repeat (first | (with_reducible first | exact HB.out | apply below_alloc | apply pw_below_drewN | apply below_drew1) | exact HB.out)) hb); clear HB; have HB := n0_; clear n0_; (try clear hb); (try clear hb2); (try clear hk); (try clear hi)))
                  go_ret
                  exact ⟨by first | rfl | (simp [errW_none, errW_some] <;> rfl) | (simp [*, errW_none, errW_some] <;> rfl), by repeat (first | (with_reducible first | exact HB.out | apply below_alloc | apply pw_below_drewN | apply below_drew1) | exact HB.out)⟩
              · rw [if_neg c18] at H
                have c18b0 : (t136.toList == t139.toList) = false := beq_eq_false_iff_ne.mpr c18
                have c18b1 : (t136.toList != t139.toList) = true := bne_iff_ne.mpr c18
                obtain rfl := Option.some.inj H
                go_wp2_with (first | ((with_reducible refine gate_callee (f := 15) rfl ?_); refine goesL_ (some 36) rfl rfl Try.func15 (by kernel_rfl) rfl #[.string a0, .int .i64 a1, .string a2] rfl (by (try simp only [List.map_toArray, List.map_cons, List.map_nil]); first | done | rfl | (simp only [List.length_drop, List.length_take]; rfl)) ?_; (with_reducible refine (entry_Type.calls kj5 a0 a1 a2 t130 t131 t132 _ A11.out).mono ?_); rintro e w35 ⟨rfl, hb⟩; refine ⟨_, rfl, ?_⟩; have n0_ := Aside0.mk (below_step (by repeat (first | (with_reducible first | exact HB.out | apply below_alloc | apply pw_below_drewN | apply below_drew1) | exact HB.out)) hb); clear HB; have HB := n0_; clear n0_; (try clear hb); (try clear hb2); (try clear hk); (try clear hi)) | ((with_reducible refine gate_callee (f := 32) rfl ?_); refine goesL_ (some 44) rfl rfl Try.func32 (by kernel_rfl) rfl #[.string a0, .int .i64 a1, .string a2] rfl (by (try simp only [List.map_toArray, List.map_cons, List.map_nil]); first | done | rfl | (simp only [List.length_drop, List.length_take]; rfl)) ?_; (with_reducible refine (calamusref25_Type.calls kj5 a0 a1 a2 t133 t134 t135 _ A12.out).mono ?_); rintro e w36 ⟨rfl, hb⟩; refine ⟨_, rfl, ?_⟩; have n0_ := Aside0.mk (below_step (by repeat (first | (with_reducible first | exact HB.out | apply below_alloc | apply pw_below_drewN | apply below_drew1) | exact HB.out)) hb); clear HB; have HB := n0_; clear n0_; (try clear hb); (try clear hb2); (try clear hk); (try clear hi)) | ((with_reducible refine gate_callee (f := 33) rfl ?_); refine goesL_ (some 53) rfl rfl Try.func33 (by kernel_rfl) rfl #[.string a0, .int .i64 a1, .int .i64 a3, .int .i64 a4] rfl (by (try simp only [List.map_toArray, List.map_cons, List.map_nil]); first | done | rfl | (simp only [List.length_drop, List.length_take]; rfl)) ?_; (with_reducible refine (entry_Again.calls kj5 a0 a1 a3 a4 t136 t137 t138 _ A13.out).mono ?_); rintro e w37 ⟨rfl, hb⟩; refine ⟨_, rfl, ?_⟩; have n0_ := Aside0.mk (below_step (by repeat (first | (with_reducible first | exact HB.out | apply below_alloc | apply pw_below_drewN | apply below_drew1) | exact HB.out)) hb); clear HB; have HB := n0_; clear n0_; (try clear hb); (try clear hb2); (try clear hk); (try clear hi)) | ((with_reducible refine gate_callee (f := 34) rfl ?_); refine goesL_ (some 62) rfl rfl Try.func34 (by kernel_rfl) rfl #[.string a0, .int .i64 a1, .int .i64 a3, .int .i64 a4] rfl (by (try simp only [List.map_toArray, List.map_cons, List.map_nil]); first | done | rfl | (simp only [List.length_drop, List.length_take]; rfl)) ?_; (with_reducible refine (calamusref25_Again.calls kj5 a0 a1 a3 a4 t139 t140 t141 _ A14.out).mono ?_); rintro e w38 ⟨rfl, hb⟩; refine ⟨_, rfl, ?_⟩; have n0_ := Aside0.mk (below_step (by repeat (first | (with_reducible first | exact HB.out | apply below_alloc | apply pw_below_drewN | apply below_drew1) | exact HB.out)) hb); clear HB; have HB := n0_; clear n0_; (try clear hb); (try clear hb2); (try clear hk); (try clear hi)))
                go_ret
                exact ⟨by first | rfl | (simp [errW_none, errW_some] <;> rfl) | (simp [*, errW_none, errW_some] <;> rfl), by repeat (first | (with_reducible first | exact HB.out | apply below_alloc | apply pw_below_drewN | apply below_drew1) | exact HB.out)⟩
            · rw [if_neg c17] at H
              have c17b0 : (t132 == t135) = false := beq_eq_false_iff_ne.mpr c17
              have c17b1 : (t132 != t135) = true := bne_iff_ne.mpr c17
              obtain rfl := Option.some.inj H
              go_wp2_with (first | ((with_reducible refine gate_callee (f := 15) rfl ?_); refine goesL_ (some 36) rfl rfl Try.func15 (by kernel_rfl) rfl #[.string a0, .int .i64 a1, .string a2] rfl (by (try simp only [List.map_toArray, List.map_cons, List.map_nil]); first | done | rfl | (simp only [List.length_drop, List.length_take]; rfl)) ?_; (with_reducible refine (entry_Type.calls kj5 a0 a1 a2 t130 t131 t132 _ A11.out).mono ?_); rintro e w39 ⟨rfl, hb⟩; refine ⟨_, rfl, ?_⟩; have n0_ := Aside0.mk (below_step (by repeat (first | (with_reducible first | exact HB.out | apply below_alloc | apply pw_below_drewN | apply below_drew1) | exact HB.out)) hb); clear HB; have HB := n0_; clear n0_; (try clear hb); (try clear hb2); (try clear hk); (try clear hi)) | ((with_reducible refine gate_callee (f := 32) rfl ?_); refine goesL_ (some 44) rfl rfl Try.func32 (by kernel_rfl) rfl #[.string a0, .int .i64 a1, .string a2] rfl (by (try simp only [List.map_toArray, List.map_cons, List.map_nil]); first | done | rfl | (simp only [List.length_drop, List.length_take]; rfl)) ?_; (with_reducible refine (calamusref25_Type.calls kj5 a0 a1 a2 t133 t134 t135 _ A12.out).mono ?_); rintro e w40 ⟨rfl, hb⟩; refine ⟨_, rfl, ?_⟩; have n0_ := Aside0.mk (below_step (by repeat (first | (with_reducible first | exact HB.out | apply below_alloc | apply pw_below_drewN | apply below_drew1) | exact HB.out)) hb); clear HB; have HB := n0_; clear n0_; (try clear hb); (try clear hb2); (try clear hk); (try clear hi)) | ((with_reducible refine gate_callee (f := 33) rfl ?_); refine goesL_ (some 53) rfl rfl Try.func33 (by kernel_rfl) rfl #[.string a0, .int .i64 a1, .int .i64 a3, .int .i64 a4] rfl (by (try simp only [List.map_toArray, List.map_cons, List.map_nil]); first | done | rfl | (simp only [List.length_drop, List.length_take]; rfl)) ?_; (with_reducible refine (entry_Again.calls kj5 a0 a1 a3 a4 t136 t137 t138 _ A13.out).mono ?_); rintro e w41 ⟨rfl, hb⟩; refine ⟨_, rfl, ?_⟩; have n0_ := Aside0.mk (below_step (by repeat (first | (with_reducible first | exact HB.out | apply below_alloc | apply pw_below_drewN | apply below_drew1) | exact HB.out)) hb); clear HB; have HB := n0_; clear n0_; (try clear hb); (try clear hb2); (try clear hk); (try clear hi)) | ((with_reducible refine gate_callee (f := 34) rfl ?_); refine goesL_ (some 62) rfl rfl Try.func34 (by kernel_rfl) rfl #[.string a0, .int .i64 a1, .int .i64 a3, .int .i64 a4] rfl (by (try simp only [List.map_toArray, List.map_cons, List.map_nil]); first | done | rfl | (simp only [List.length_drop, List.length_take]; rfl)) ?_; (with_reducible refine (calamusref25_Again.calls kj5 a0 a1 a3 a4 t139 t140 t141 _ A14.out).mono ?_); rintro e w42 ⟨rfl, hb⟩; refine ⟨_, rfl, ?_⟩; have n0_ := Aside0.mk (below_step (by repeat (first | (with_reducible first | exact HB.out | apply below_alloc | apply pw_below_drewN | apply below_drew1) | exact HB.out)) hb); clear HB; have HB := n0_; clear n0_; (try clear hb); (try clear hb2); (try clear hk); (try clear hi)))
              go_ret
              exact ⟨by first | rfl | (simp [errW_none, errW_some] <;> rfl) | (simp [*, errW_none, errW_some] <;> rfl), by repeat (first | (with_reducible first | exact HB.out | apply below_alloc | apply pw_below_drewN | apply below_drew1) | exact HB.out)⟩
          · rw [if_neg c16] at H
            have c16b0 : (t131 == t134) = false := beq_eq_false_iff_ne.mpr c16
            have c16b1 : (t131 != t134) = true := bne_iff_ne.mpr c16
            obtain rfl := Option.some.inj H
            go_wp2_with (first | ((with_reducible refine gate_callee (f := 15) rfl ?_); refine goesL_ (some 36) rfl rfl Try.func15 (by kernel_rfl) rfl #[.string a0, .int .i64 a1, .string a2] rfl (by (try simp only [List.map_toArray, List.map_cons, List.map_nil]); first | done | rfl | (simp only [List.length_drop, List.length_take]; rfl)) ?_; (with_reducible refine (entry_Type.calls kj5 a0 a1 a2 t130 t131 t132 _ A11.out).mono ?_); rintro e w43 ⟨rfl, hb⟩; refine ⟨_, rfl, ?_⟩; have n0_ := Aside0.mk (below_step (by repeat (first | (with_reducible first | exact HB.out | apply below_alloc | apply pw_below_drewN | apply below_drew1) | exact HB.out)) hb); clear HB; have HB := n0_; clear n0_; (try clear hb); (try clear hb2); (try clear hk); (try clear hi)) | ((with_reducible refine gate_callee (f := 32) rfl ?_); refine goesL_ (some 44) rfl rfl Try.func32 (by kernel_rfl) rfl #[.string a0, .int .i64 a1, .string a2] rfl (by (try simp only [List.map_toArray, List.map_cons, List.map_nil]); first | done | rfl | (simp only [List.length_drop, List.length_take]; rfl)) ?_; (with_reducible refine (calamusref25_Type.calls kj5 a0 a1 a2 t133 t134 t135 _ A12.out).mono ?_); rintro e w44 ⟨rfl, hb⟩; refine ⟨_, rfl, ?_⟩; have n0_ := Aside0.mk (below_step (by repeat (first | (with_reducible first | exact HB.out | apply below_alloc | apply pw_below_drewN | apply below_drew1) | exact HB.out)) hb); clear HB; have HB := n0_; clear n0_; (try clear hb); (try clear hb2); (try clear hk); (try clear hi)) | ((with_reducible refine gate_callee (f := 33) rfl ?_); refine goesL_ (some 53) rfl rfl Try.func33 (by kernel_rfl) rfl #[.string a0, .int .i64 a1, .int .i64 a3, .int .i64 a4] rfl (by (try simp only [List.map_toArray, List.map_cons, List.map_nil]); first | done | rfl | (simp only [List.length_drop, List.length_take]; rfl)) ?_; (with_reducible refine (entry_Again.calls kj5 a0 a1 a3 a4 t136 t137 t138 _ A13.out).mono ?_); rintro e w45 ⟨rfl, hb⟩; refine ⟨_, rfl, ?_⟩; have n0_ := Aside0.mk (below_step (by repeat (first | (with_reducible first | exact HB.out | apply below_alloc | apply pw_below_drewN | apply below_drew1) | exact HB.out)) hb); clear HB; have HB := n0_; clear n0_; (try clear hb); (try clear hb2); (try clear hk); (try clear hi)) | ((with_reducible refine gate_callee (f := 34) rfl ?_); refine goesL_ (some 62) rfl rfl Try.func34 (by kernel_rfl) rfl #[.string a0, .int .i64 a1, .int .i64 a3, .int .i64 a4] rfl (by (try simp only [List.map_toArray, List.map_cons, List.map_nil]); first | done | rfl | (simp only [List.length_drop, List.length_take]; rfl)) ?_; (with_reducible refine (calamusref25_Again.calls kj5 a0 a1 a3 a4 t139 t140 t141 _ A14.out).mono ?_); rintro e w46 ⟨rfl, hb⟩; refine ⟨_, rfl, ?_⟩; have n0_ := Aside0.mk (below_step (by repeat (first | (with_reducible first | exact HB.out | apply below_alloc | apply pw_below_drewN | apply below_drew1) | exact HB.out)) hb); clear HB; have HB := n0_; clear n0_; (try clear hb); (try clear hb2); (try clear hk); (try clear hi)))
            go_ret
            exact ⟨by first | rfl | (simp [errW_none, errW_some] <;> rfl) | (simp [*, errW_none, errW_some] <;> rfl), by repeat (first | (with_reducible first | exact HB.out | apply below_alloc | apply pw_below_drewN | apply below_drew1) | exact HB.out)⟩
        · rw [if_neg c15] at H
          have c15b0 : (t130.toList == t133.toList) = false := beq_eq_false_iff_ne.mpr c15
          have c15b1 : (t130.toList != t133.toList) = true := bne_iff_ne.mpr c15
          obtain rfl := Option.some.inj H
          go_wp2_with (first | ((with_reducible refine gate_callee (f := 15) rfl ?_); refine goesL_ (some 36) rfl rfl Try.func15 (by kernel_rfl) rfl #[.string a0, .int .i64 a1, .string a2] rfl (by (try simp only [List.map_toArray, List.map_cons, List.map_nil]); first | done | rfl | (simp only [List.length_drop, List.length_take]; rfl)) ?_; (with_reducible refine (entry_Type.calls kj5 a0 a1 a2 t130 t131 t132 _ A11.out).mono ?_); rintro e w47 ⟨rfl, hb⟩; refine ⟨_, rfl, ?_⟩; have n0_ := Aside0.mk (below_step (by repeat (first | (with_reducible first | exact HB.out | apply below_alloc | apply pw_below_drewN | apply below_drew1) | exact HB.out)) hb); clear HB; have HB := n0_; clear n0_; (try clear hb); (try clear hb2); (try clear hk); (try clear hi)) | ((with_reducible refine gate_callee (f := 32) rfl ?_); refine goesL_ (some 44) rfl rfl Try.func32 (by kernel_rfl) rfl #[.string a0, .int .i64 a1, .string a2] rfl (by (try simp only [List.map_toArray, List.map_cons, List.map_nil]); first | done | rfl | (simp only [List.length_drop, List.length_take]; rfl)) ?_; (with_reducible refine (calamusref25_Type.calls kj5 a0 a1 a2 t133 t134 t135 _ A12.out).mono ?_); rintro e w48 ⟨rfl, hb⟩; refine ⟨_, rfl, ?_⟩; have n0_ := Aside0.mk (below_step (by repeat (first | (with_reducible first | exact HB.out | apply below_alloc | apply pw_below_drewN | apply below_drew1) | exact HB.out)) hb); clear HB; have HB := n0_; clear n0_; (try clear hb); (try clear hb2); (try clear hk); (try clear hi)) | ((with_reducible refine gate_callee (f := 33) rfl ?_); refine goesL_ (some 53) rfl rfl Try.func33 (by kernel_rfl) rfl #[.string a0, .int .i64 a1, .int .i64 a3, .int .i64 a4] rfl (by (try simp only [List.map_toArray, List.map_cons, List.map_nil]); first | done | rfl | (simp only [List.length_drop, List.length_take]; rfl)) ?_; (with_reducible refine (entry_Again.calls kj5 a0 a1 a3 a4 t136 t137 t138 _ A13.out).mono ?_); rintro e w49 ⟨rfl, hb⟩; refine ⟨_, rfl, ?_⟩; have n0_ := Aside0.mk (below_step (by repeat (first | (with_reducible first | exact HB.out | apply below_alloc | apply pw_below_drewN | apply below_drew1) | exact HB.out)) hb); clear HB; have HB := n0_; clear n0_; (try clear hb); (try clear hb2); (try clear hk); (try clear hi)) | ((with_reducible refine gate_callee (f := 34) rfl ?_); refine goesL_ (some 62) rfl rfl Try.func34 (by kernel_rfl) rfl #[.string a0, .int .i64 a1, .int .i64 a3, .int .i64 a4] rfl (by (try simp only [List.map_toArray, List.map_cons, List.map_nil]); first | done | rfl | (simp only [List.length_drop, List.length_take]; rfl)) ?_; (with_reducible refine (calamusref25_Again.calls kj5 a0 a1 a3 a4 t139 t140 t141 _ A14.out).mono ?_); rintro e w50 ⟨rfl, hb⟩; refine ⟨_, rfl, ?_⟩; have n0_ := Aside0.mk (below_step (by repeat (first | (with_reducible first | exact HB.out | apply below_alloc | apply pw_below_drewN | apply below_drew1) | exact HB.out)) hb); clear HB; have HB := n0_; clear n0_; (try clear hb); (try clear hb2); (try clear hk); (try clear hi)))
          go_ret
          exact ⟨by first | rfl | (simp [errW_none, errW_some] <;> rfl) | (simp [*, errW_none, errW_some] <;> rfl), by repeat (first | (with_reducible first | exact HB.out | apply below_alloc | apply pw_below_drewN | apply below_drew1) | exact HB.out)⟩

/-- THE ONE PURE STATEMENT of calamuslaw25_EntryTypes: yours. -/
def calamuslaw25_EntryTypes.Pure : Prop := ∀ (a0 : ByteArray) (a1 : Int) (a2 : ByteArray) (a3 : Int) (a4 : Int), a0.size ≤ 140737488351232 → (Lit.int .i64 a1).wf = true → a2.size ≤ 140737488351232 → (Lit.int .i64 a3).wf = true → (Lit.int .i64 a4).wf = true → ∃ k, calamuslaw25_EntryTypes.f k a0 a1 a2 a3 a4 = some true
theorem calamuslaw25_EntryTypes.walk (P : calamuslaw25_EntryTypes.Pure) (a0 : ByteArray) (a1 : Int) (a2 : ByteArray) (a3 : Int) (a4 : Int) (w : World) (w0 : a0.size ≤ 140737488351232) (w1 : (Lit.int .i64 a1).wf = true) (w2 : a2.size ≤ 140737488351232) (w3 : (Lit.int .i64 a3).wf = true) (w4 : (Lit.int .i64 a4).wf = true) :
    Calls Try.prog 8 #[.string a0, .int .i64 a1, .string a2, .int .i64 a3, .int .i64 a4] w fun e w' => e = .returned (.bool true) ∧ Below w.heap.size w w' := by
  obtain ⟨k, h⟩ := P a0 a1 a2 a3 a4 w0 w1 w2 w3 w4
  refine (calamuslaw25_EntryTypes.calls k a0 a1 a2 a3 a4 true w h).mono ?_
  rintro e w' ⟨rfl, hd⟩
  exact ⟨rfl, hd⟩


end Go.Proofs.Ytnmcdkekflnekaa.QE
/- The statement EntryTypes in plain words. -/
namespace Go.Proofs.Ytnmcdkekflnekaa
open Go.RowKit
set_option linter.unusedVariables false
set_option linter.unusedSimpArgs false
open Go.RowKit Go.Proofs.Ytnmcdkekflnekaa.QE Go.Proofs.YtnmcdkekflnekaaW.PrintWords Go.Proofs.YtnmcdkekflnekaaW.PrintMore
theorem rtype_ev (t : ByteArray) (p : Int) (s : ByteArray) (ht : t.size ≤ 1000000) (hs : s.size ≤ 1000000) : Ev (fun k => calamusref25_Type.f k t p s) (typeF t p s) := by
  unfold calamusref25_Type.f typeF
  rw [calamusref03_Place.eq t p (by omega), calamusref03_Valid.eq s (by omega)]
  simp only [Option.bind_some]
  rcases Bool.eq_false_or_eq_true (placeB (ls t) p) with hp | hp
  · refine Ev.pos hp ?_
    rcases Bool.eq_false_or_eq_true (validL (ls s)) with hv | hv
    · rw [if_pos ⟨hp, hv⟩, hv]
      obtain ⟨a, rfl, ha⟩ := place_nat hp
      rw [ls_len] at ha
      have hz : (t.extract 0 (a : Int).toNat ++ s ++ t.extract (a : Int).toNat t.size).size = t.size + s.size := by
        simp only [ByteArray.size_extract, ByteArray.size_append]; omega
      refine Ev.step (fun _ => (by rw [calamusref25_Type.j0])) ?_
      rw [w64 (n := (a : Int) + s.size) (by omega) (by omega)]
      refine Ev.neg (by decide) (Ev.pos (show (0 : Int) ≤ a by omega) (Ev.pos (show (a : Int) ≤ t.size by omega) (Ev.pos ?_ (Ev.pos ?_ (Ev.ite (fun h => ?_) (fun h => ?_))))))
      · simp only [ByteArray.size_extract]; omega
      · simp only [ByteArray.size_extract, ByteArray.size_append]; omega
      · rw [hz] at h
        rw [if_pos (show t.size + s.size > 4096 by omega)]; exact Ev.ret rfl
      · rw [hz] at h
        rw [if_neg (show ¬ t.size + s.size > 4096 by omega)]; exact Ev.ret rfl
    · rw [if_neg (by rw [hv]; simp), hv]
      refine Ev.step (fun _ => (by rw [calamusref25_Type.j0])) ?_
      exact Ev.pos rfl (Ev.ret rfl)
  · refine Ev.neg (by rw [hp]; decide) ?_
    rw [if_neg (by rw [hp]; simp)]
    refine Ev.step (fun _ => (by rw [calamusref25_Type.j0])) ?_
    exact Ev.pos rfl (Ev.ret rfl)
theorem rep_valid {l : List UInt8} (h : validL l = true) : ∀ n, validL (Lib.repeatL l n) = true
  | 0 => validL_nil
  | n + 1 => valid_cat _ _ _ (Nat.le_refl _) h (rep_valid h n)
theorem rep_snoc (l : List UInt8) : ∀ n, Lib.repeatL l (n + 1) = Lib.repeatL l n ++ l
  | 0 => by simp [Lib.repeatL]
  | n + 1 => by
    show l ++ Lib.repeatL l (n + 1) = (l ++ Lib.repeatL l n) ++ l
    rw [rep_snoc l n, List.append_assoc]
theorem ls_repS (s : ByteArray) (n : Nat) : ls (repS s n) = Lib.repeatL (ls s) n := by unfold repS ls; simp
theorem repS_size (s : ByteArray) (n : Nat) : (repS s n).size = n * s.size := by rw [size_ls, ls_repS, Lib.repeatL_length, ls_len]
/-- What was typed, put in again. -/
def agF (t : ByteArray) (p f n : Int) : ByteArray × Int × Int :=
  if placeB (ls t) p = true ∧ placeB (ls t) f = true ∧ f ≤ p then
    (if n < 2 ∨ p = f then (t, p, 0)
    else if (t.size : Int) + (n - 1) * (p - f) > 4096 then (⟨#[]⟩, 0, 8)
    else (t.extract 0 p.toNat ++ repS (t.extract f.toNat p.toNat) (n - 1) ++ t.extract p.toNat t.size, p + (n - 1) * (p - f), 0))
  else (⟨#[]⟩, 0, 1)
theorem mul_big {n d : Int} (hn : 4096 ≤ n) (hd : 1 ≤ d) : 4096 ≤ n * d := by
  have : n * 1 ≤ n * d := Int.mul_le_mul_of_nonneg_left hd (by omega)
  omega
theorem again_ev (t : ByteArray) (p f n : Int) (ht : t.size ≤ 500) (hn : -9223372036854775808 ≤ n ∧ n ≤ 9223372036854775807) : Ev (fun k => entry_Again.f k t p f n) (agF t p f n) := by
  unfold entry_Again.f agF
  rw [utf_Place.eq t p (by omega), utf_Place.eq t f (by omega)]
  simp only [Option.bind_some]
  have bad : ∀ b, b = true → Ev (fun k => entry_Again.j0 k t p f n b) (⟨#[]⟩, 0, 1) := by
    rintro b rfl
    refine Ev.step (fun _ => (by rw [entry_Again.j0])) ?_
    exact Ev.pos rfl (Ev.ret rfl)
  rcases Bool.eq_false_or_eq_true (placeB (ls t) p) with hp | hp
  · refine Ev.pos hp ?_
    rcases Bool.eq_false_or_eq_true (placeB (ls t) f) with hf | hf
    · refine Ev.pos hf ?_
      by_cases hle : f ≤ p
      · rw [if_pos (show placeB (ls t) p = true ∧ placeB (ls t) f = true ∧ f ≤ p from ⟨hp, hf, hle⟩), decide_eq_false (show ¬ f > p by omega)]
        obtain ⟨a, rfl, ha⟩ := place_nat hp
        obtain ⟨b, rfl, hb⟩ := place_nat hf
        rw [ls_len] at ha hb
        have hs : (t.extract (b : Int).toNat (a : Int).toNat).size = a - b := by simp only [ByteArray.size_extract]; omega
        have j1t : n < 2 ∨ (a : Int) = b → Ev (fun k => entry_Again.j1 k t a n (t.extract (b : Int).toNat (a : Int).toNat) true) (if n < 2 ∨ (a : Int) = b then (t, (a : Int), (0 : Int)) else if (t.size : Int) + (n - 1) * (a - b) > 4096 then (⟨#[]⟩, 0, 8) else (t.extract 0 (a : Int).toNat ++ repS (t.extract (b : Int).toNat (a : Int).toNat) (n - 1) ++ t.extract (a : Int).toNat t.size, a + (n - 1) * (a - b), 0)) := by
          intro h
          rw [if_pos h]
          refine Ev.step (fun _ => (by rw [entry_Again.j1])) ?_
          exact Ev.pos rfl (Ev.ret rfl)
        refine Ev.step (fun _ => (by rw [entry_Again.j0])) ?_
        refine Ev.neg (by decide) (Ev.pos (by omega) (Ev.pos (by omega) (Ev.pos (by omega) (Ev.ite (fun h => j1t (.inl h)) (fun h => ?_)))))
        by_cases he : a = b
        · have : ((t.extract (b : Int).toNat (a : Int).toNat).toList == ([] : List UInt8)) = true := by rw [beq_iff_eq, empty_iff, hs]; omega
          rw [this]; exact j1t (.inr (by omega))
        · have : ((t.extract (b : Int).toNat (a : Int).toNat).toList == ([] : List UInt8)) = false := by rw [beq_eq_false_iff_ne, Ne, empty_iff, hs]; omega
          rw [this, if_neg (show ¬ (n < 2 ∨ (a : Int) = b) by omega)]
          refine Ev.step (fun _ => (by rw [entry_Again.j1])) ?_
          refine Ev.neg (by decide) ?_
          have room : (t.size : Int) + (n - 1) * (a - b) > 4096 → Ev (fun k => entry_Again.j2 k t a n (t.extract (b : Int).toNat (a : Int).toNat) true) (if (t.size : Int) + (n - 1) * (a - b) > 4096 then (⟨#[]⟩, (0 : Int), (8 : Int)) else (t.extract 0 (a : Int).toNat ++ repS (t.extract (b : Int).toNat (a : Int).toNat) (n - 1) ++ t.extract (a : Int).toNat t.size, a + (n - 1) * (a - b), 0)) := by
            intro h
            rw [if_pos h]
            refine Ev.step (fun _ => (by rw [entry_Again.j2])) ?_
            exact Ev.pos rfl (Ev.ret rfl)
          refine Ev.ite (fun h4 => ?_) (fun h4 => ?_)
          · exact room (by have := mul_big (n := n - 1) (d := (a : Int) - b) (by omega) (by omega); omega)
          · obtain ⟨m, rfl⟩ : ∃ m : Nat, n = (m : Int) + 1 := ⟨(n - 1).toNat, by omega⟩
            have hmul : m * (a - b) ≤ 4096 * 500 := Nat.mul_le_mul (by omega) (by omega)
            have em : ((m : Int) + 1 - 1) = m := by omega
            have ed : ((a : Int) - b) = ((a - b : Nat) : Int) := by omega
            have ex : (m : Int) * ((a - b : Nat) : Int) = ((m * (a - b) : Nat) : Int) := by simp
            rw [em, ed, ex] at room ⊢
            rw [hs, w64 (n := (m : Int)) (by omega) (by omega), ex, w64 (n := ((m * (a - b) : Nat) : Int)) (by omega) (by omega), w64 (n := (t.size : Int) + ((m * (a - b) : Nat) : Int)) (by omega) (by omega)]
            by_cases h5 : (t.size : Int) + ((m * (a - b) : Nat) : Int) > 4096
            · rw [decide_eq_true h5]; exact room h5
            · rw [decide_eq_false h5, if_neg h5]
              refine Ev.step (fun _ => (by rw [entry_Again.j2])) ?_
              rw [em, w64 (n := (m : Int)) (by omega) (by omega)]
              refine Ev.neg (by decide) (Ev.call (strings_Repeat.eq _ _ ⟨by omega, by omega, by rw [hs, Int.toNat_natCast, Nat.mul_comm]; omega⟩) ?_)
              have hz : (repS (t.extract (b : Int).toNat (a : Int).toNat) m).size = m * (a - b) := by rw [repS_size, hs]
              refine Ev.bind (type_ev t a _ (by omega) (by rw [hz]; omega)) ?_
              have hv : validL (ls (repS (t.extract (b : Int).toNat (a : Int).toNat) m)) = true := by
                rw [ls_repS]
                refine rep_valid ?_ m
                rw [ls_ext2]
                exact row_valid (a := b) (b := a) (by omega) hf hp
              have e : typeF t a (repS (t.extract (b : Int).toNat (a : Int).toNat) m) = (t.extract 0 a ++ repS (t.extract (b : Int).toNat (a : Int).toNat) m ++ t.extract a t.size, (a : Int) + ((m * (a - b) : Nat) : Int), 0) := by
                unfold typeF; rw [if_pos ⟨hp, hv⟩, hz, if_neg (show ¬ t.size + m * (a - b) > 4096 by omega)]; rfl
              rw [e]
              exact Ev.ret rfl
      · rw [if_neg (show ¬ (placeB (ls t) p = true ∧ placeB (ls t) f = true ∧ f ≤ p) from fun h => hle h.2.2)]
        exact bad _ (decide_eq_true (by omega))
    · rw [if_neg (show ¬ (placeB (ls t) p = true ∧ placeB (ls t) f = true ∧ f ≤ p) by rw [hf]; simp)]
      exact Ev.neg (by rw [hf]; decide) (bad _ rfl)
  · rw [if_neg (show ¬ (placeB (ls t) p = true ∧ placeB (ls t) f = true ∧ f ≤ p) by rw [hp]; simp)]
    exact Ev.neg (by rw [hp]; decide) (bad _ rfl)
/-- The document's rounds: i times it stands there. -/
def agL (t s : List UInt8) (p i : Nat) : List UInt8 := t.take p ++ (Lib.repeatL s i ++ t.drop p)
theorem agL_len {t s : List UInt8} {p i : Nat} (hp : p ≤ t.length) : (agL t s p i).length = t.length + i * s.length := by
  unfold agL; simp only [List.length_append, List.length_take, List.length_drop, Lib.repeatL_length]; omega
theorem agL_step {t s : List UInt8} {p i : Nat} (hp : p ≤ t.length) : (agL t s p i).take (p + i * s.length) ++ s ++ (agL t s p i).drop (p + i * s.length) = agL t s p (i + 1) := by
  have l1 : (t.take p).length = p := by rw [List.length_take]; omega
  have l2 : (t.take p ++ Lib.repeatL s i).length = p + i * s.length := by rw [List.length_append, l1, Lib.repeatL_length]
  unfold agL
  rw [← List.append_assoc, ← l2, List.take_left, List.drop_left, rep_snoc]
  simp
theorem rag_l0 (t s : ByteArray) (p : Nat) (n : Int) (hp : p ≤ t.size) (ht : t.size ≤ 500) (hs : 0 < s.size) (hs2 : s.size ≤ 500) (R : ByteArray × Int × Int)
    (hR : (t.size : Int) + (n - 1) * s.size > 4096 → R = (⟨#[]⟩, 0, 8)) (hR2 : ¬ (t.size : Int) + (n - 1) * s.size > 4096 → ∀ m : Nat, n = (m : Int) + 1 → ∀ u : ByteArray, ls u = agL (ls t) (ls s) p m → R = (u, ((p + m * s.size : Nat) : Int), 0)) (hn : 1 ≤ n ∧ n ≤ 9223372036854775807) :
    ∀ (d i : Nat) (u : ByteArray), 4097 ≤ d + u.size → ls u = agL (ls t) (ls s) p i → u.size ≤ 4096 → (i : Int) + 1 ≤ n → i ≤ 5000 →
      Ev (fun k => calamusref25_Again.l0 k u ((p + i * s.size : Nat) : Int) n s ((i : Int) + 1)) R := by
  intro d
  induction d with
  | zero => intro i u h1 _ h2; omega
  | succ d ih =>
    intro i u hd hu hu2 hi hi2
    have hz : u.size = t.size + i * s.size := by
      rw [size_ls, hu, agL_len (by rw [ls_len]; exact hp), ls_len, ls_len]
    refine Ev.step (fun _ => (by rw [calamusref25_Again.l0])) ?_
    refine Ev.ite (fun h => ?_) (fun h => ?_)
    · have hne : (s.toList != ([] : List UInt8)) = true := by rw [bne_iff_ne, Ne, empty_iff]; omega
      rw [hne]
      refine Ev.step (fun _ => (by rw [calamusref25_Again.j2])) ?_
      have hz2 : (u.extract 0 ((p + i * s.size : Nat) : Int).toNat ++ s ++ u.extract ((p + i * s.size : Nat) : Int).toNat u.size).size = u.size + s.size := by
        simp only [ByteArray.size_extract, ByteArray.size_append]; omega
      have hmul : ((i + 1 : Nat) : Int) * s.size ≤ (n - 1) * s.size := Int.mul_le_mul_of_nonneg_right (by omega) (by omega)
      have hmul2 : ((i + 1 : Nat) : Int) * s.size = (i * s.size : Nat) + s.size := by rw [← Int.natCast_mul, Nat.add_mul]; omega
      refine Ev.pos rfl (Ev.pos (by omega) (Ev.pos (by omega) (Ev.pos ?_ (Ev.pos ?_ (Ev.ite (fun h5 => ?_) (fun h5 => ?_))))))
      · simp only [ByteArray.size_extract]; omega
      · simp only [ByteArray.size_extract, ByteArray.size_append]; omega
      · rw [hz2] at h5
        rw [hR (by omega)]
        exact Ev.ret rfl
      · rw [hz2] at h5
        rw [w64 (n := ((p + i * s.size : Nat) : Int) + s.size) (by omega) (by omega), w64 (n := (i : Int) + 1 + 1) (by omega) (by omega)]
        have e1 : ((p + i * s.size : Nat) : Int) + s.size = ((p + (i + 1) * s.size : Nat) : Int) := by rw [Nat.add_mul]; omega
        rw [e1]
        have hi5 : i + 1 ≤ 4096 := by
          have := Nat.mul_le_mul_left (i + 1) hs
          rw [Nat.add_mul] at this; omega
        refine ih (i + 1) _ (by rw [hz2]; omega) ?_ (by rw [hz2]; omega) (by omega) (by omega)
        rw [ls_cat, ls_cat, ls_ext, ls_ext2, hu, Int.toNat_natCast]
        have := agL_step (t := ls t) (s := ls s) (p := p) (i := i) (by rw [ls_len]; exact hp)
        rw [ls_len] at this
        simpa using this
    · have hin : n = (i : Int) + 1 := by omega
      refine Ev.step (fun _ => (by rw [calamusref25_Again.j2])) ?_
      refine Ev.neg (by decide) (Ev.ret ?_)
      refine (hR2 ?_ i hin u hu).symm
      rw [hin]
      have : ((i : Int) + 1 - 1) * s.size = (i * s.size : Nat) := by rw [Int.natCast_mul]; congr 1; omega
      rw [this]; omega
theorem ragain_ev (t : ByteArray) (p f n : Int) (ht : t.size ≤ 500) (hn : -9223372036854775808 ≤ n ∧ n ≤ 9223372036854775807) : Ev (fun k => calamusref25_Again.f k t p f n) (agF t p f n) := by
  unfold calamusref25_Again.f agF
  rw [calamusref03_Place.eq t p (by omega), calamusref03_Place.eq t f (by omega)]
  simp only [Option.bind_some]
  have bad : ∀ b, b = true → Ev (fun k => calamusref25_Again.j0 k t p f n b) (⟨#[]⟩, 0, 1) := by
    rintro b rfl
    refine Ev.step (fun _ => (by rw [calamusref25_Again.j0])) ?_
    exact Ev.pos rfl (Ev.ret rfl)
  rcases Bool.eq_false_or_eq_true (placeB (ls t) p) with hp | hp
  · refine Ev.pos hp ?_
    rcases Bool.eq_false_or_eq_true (placeB (ls t) f) with hf | hf
    · refine Ev.pos hf ?_
      by_cases hle : f ≤ p
      · rw [if_pos (show placeB (ls t) p = true ∧ placeB (ls t) f = true ∧ f ≤ p from ⟨hp, hf, hle⟩), decide_eq_false (show ¬ f > p by omega)]
        obtain ⟨a, rfl, ha⟩ := place_nat hp
        obtain ⟨b, rfl, hb⟩ := place_nat hf
        rw [ls_len] at ha hb
        have hs : (t.extract (b : Int).toNat (a : Int).toNat).size = a - b := by simp only [ByteArray.size_extract]; omega
        refine Ev.step (fun _ => (by rw [calamusref25_Again.j0])) ?_
        refine Ev.neg (by decide) (Ev.pos (by omega) (Ev.pos (by omega) (Ev.pos (by omega) ?_)))
        by_cases hq : n < 2 ∨ (a : Int) = b
        · rw [if_pos hq]
          refine Ev.step (fun _ => (by rw [calamusref25_Again.l0])) ?_
          have stop : Ev (fun k => calamusref25_Again.j2 k t a n (t.extract (b : Int).toNat (a : Int).toNat) 1 false) (t, (a : Int), (0 : Int)) := by
            refine Ev.step (fun _ => (by rw [calamusref25_Again.j2])) ?_
            exact Ev.neg (by decide) (Ev.ret rfl)
          refine Ev.ite (fun h => ?_) (fun h => stop)
          have : ((t.extract (b : Int).toNat (a : Int).toNat).toList != ([] : List UInt8)) = false := by
            rw [bne_eq_false_iff_eq, empty_iff, hs]; omega
          rw [this]; exact stop
        · rw [if_neg hq]
          have key := rag_l0 t (t.extract (b : Int).toNat (a : Int).toNat) a n ha ht (by rw [hs]; omega) (by rw [hs]; omega)
            (if (t.size : Int) + (n - 1) * (a - b) > 4096 then (⟨#[]⟩, (0 : Int), (8 : Int)) else (t.extract 0 (a : Int).toNat ++ repS (t.extract (b : Int).toNat (a : Int).toNat) (n - 1) ++ t.extract (a : Int).toNat t.size, a + (n - 1) * (a - b), 0))
            (fun h => by rw [hs, show ((a - b : Nat) : Int) = (a : Int) - b by omega] at h; rw [if_pos h])
            (fun h m hm u hu => by
              rw [hs, show ((a - b : Nat) : Int) = (a : Int) - b by omega] at h
              rw [if_neg h, hs]
              have em : n - 1 = (m : Int) := by omega
              have e2 : (a : Int) + (m : Int) * (a - b) = ((a + m * (a - b) : Nat) : Int) := by rw [show (a : Int) - b = ((a - b : Nat) : Int) by omega]; simp
              rw [em, e2]
              congr 1
              refine ba_ext ?_
              rw [hu, ls_cat, ls_cat, ls_ext, ls_ext2, ls_repS]
              unfold agL; simp)
            (by omega) 4097 0 t (by omega) (by unfold agL; simp [Lib.repeatL]) (by omega) (by omega) (by omega)
          simpa using key
      · rw [if_neg (show ¬ (placeB (ls t) p = true ∧ placeB (ls t) f = true ∧ f ≤ p) from fun h => hle h.2.2)]
        exact bad _ (decide_eq_true (by omega))
    · rw [if_neg (show ¬ (placeB (ls t) p = true ∧ placeB (ls t) f = true ∧ f ≤ p) by rw [hf]; simp)]
      exact Ev.neg (by rw [hf]; decide) (bad _ rfl)
  · rw [if_neg (show ¬ (placeB (ls t) p = true ∧ placeB (ls t) f = true ∧ f ≤ p) by rw [hp]; simp)]
    exact Ev.neg (by rw [hp]; decide) (bad _ rfl)
theorem EntryTypes_p (t : ByteArray) (p : Int) (s : ByteArray) (f n : Int) (ht : t.size ≤ 140737488351232) (hp : -9223372036854775808 ≤ p ∧ p ≤ 9223372036854775807) (hs : s.size ≤ 140737488351232) (hf : -9223372036854775808 ≤ f ∧ f ≤ 9223372036854775807) (hn : -9223372036854775808 ≤ n ∧ n ≤ 9223372036854775807) : ∃ k, calamuslaw25_EntryTypes.f k t p s f n = some true := by
  refine Ev.at ?_
  unfold calamuslaw25_EntryTypes.f
  have lv : Ev (fun k => calamuslaw25_EntryTypes.j0 k t p s f n true) true := by
    refine Ev.step (fun _ => (by rw [calamuslaw25_EntryTypes.j0])) ?_
    exact Ev.pos rfl lives25'
  refine Ev.ite (fun h => lv) (fun h => ?_)
  by_cases h2 : (s.size : Int) > 5000
  · rw [decide_eq_true h2]; exact lv
  · rw [decide_eq_false h2]
    refine Ev.step (fun _ => (by rw [calamuslaw25_EntryTypes.j0])) ?_
    refine Ev.neg (by decide) (Ev.bind (type_ev t p s (by omega) (by omega)) (Ev.bind (rtype_ev t p s (by omega) (by omega)) (Ev.bind (again_ev t p f n (by omega) hn) (Ev.bind (ragain_ev t p f n (by omega) hn) ?_))))
    exact Ev.pos rfl (Ev.pos rfl (Ev.pos rfl (Ev.pos rfl (Ev.pos rfl (Ev.pos rfl lives25')))))
end Go.Proofs.Ytnmcdkekflnekaa
