/- Joined by merge.py out of this work's texts: R4, R4b, XL, XF, QC0, L4, U2, XU, QC1, PCn, PCh, PCr, PCl, QC2, PCm. -/
import Derived.Test.YtgapekdcoedmgaaDoorZCN0
import Derived.Test.YtgapekdcoedmgaaDoorProg
import Derived.Below
import Derived.Deep.Draws
import Derived.Deep.AppendLies
import Derived.Maps.AppendAt
import Derived.OwnWalk
import Derived.Laws.BytesArg
import Derived.Laws.MakeOwn
import Derived.Laws.OwnMore
import Derived.Deep.OwnRows
import Derived.Tactics
import Derived.Lib.ConvBytes
import Derived.Laws.Slices
import Derived.WalkKit
import Derived.KernelRfl
import Derived.RowKit3
import Derived.Deep.LoopGhost
import Derived.Deep.QuietTactic
import Derived.BigQuiet
import Derived.WideLaws
import Derived.Deep.DeepCutAuto
import Derived.Deep.CutBlock
import Derived.Deep.RegionHeld3
import Derived.Laws.Rows
import Derived.Lib.AppendStr
import Derived.ArgAppend
import Derived.Laws.IdiomCopy
import Derived.OrdersHeld
import Derived.Laws.BitsLemmas
import Derived.RowKit
import Derived.Test.YtgapekdcoedmgaaDoorWWords
import Derived.Test.YtgapekdcoedmgaaDoorWLast
import Derived.Test.YtgapekdcoedmgaaDoorWTab
import Derived.Test.YtgapekdcoedmgaaDoorWQPut
import Derived.Test.YtgapekdcoedmgaaDoorWApart
import Derived.Test.YtgapekdcoedmgaaDoorWArr
import Derived.Test.YtgapekdcoedmgaaDoorWZeros
import Derived.Test.YtgapekdcoedmgaaDoorWFoot
import Derived.Test.YtgapekdcoedmgaaDoorWKept
import Derived.Test.YtgapekdcoedmgaaDoorWShare
import Derived.Test.YtgapekdcoedmgaaDoorWN
import Derived.Test.YtgapekdcoedmgaaDoorWFootNe
import Derived.Test.YtgapekdcoedmgaaDoorWEqStruct
import Derived.Test.YtgapekdcoedmgaaDoorWRepsOne
import Derived.Test.YtgapekdcoedmgaaDoorWNEv
import Derived.Test.YtgapekdcoedmgaaDoorWMore
/- The contracts of the reference calamusref04. -/
namespace Go.Proofs.YtgapekdcoedmgaaDoor
open Go.RowKit
set_option linter.unusedVariables false
set_option linter.unusedSimpArgs false
def linesL (l : List UInt8) : List (Nat × Nat) := if validL l then lns l else []
theorem Tryd.infoPair : (Tryd.prog.info? 54).map (fun i => (i.zero, i.size, i.bytes)) = some (some (.agg #[.int .i64 0, .int .i64 0]), 2, 16) := by kernel_rfl
theorem linesL_len (s : ByteArray) : (linesL (ls s)).length ≤ s.size + 1 := by
  unfold linesL; split
  · rw [lns_len]; have := tens_le (ls s); rw [ls_len] at this; omega
  · simp
set_option maxHeartbeats 4000000 in
set_option maxRecDepth 100000 in
theorem r4lines_c (s : ByteArray) (w : World) (hs : s.size ≤ 1099511627775) : Calls Tryd.prog 64 #[.string s] w fun e w' => ∃ a cap, e = .returned (.slice a (linesL (ls s)).length cap) ∧ OwnS EncP 54 w.heap.size w' a cap (linesL (ls s)) ∧ Ext w w' := by
  rcases Bool.eq_false_or_eq_true (validL (ls s)) with hv | hv
  case inr =>
    have Hl : Hid (linesL (ls s) = []) := Lib.hid (by unfold linesL; simp [hv])
    go_enter Tryd.func64, Tryd.ntmps64
    go_wp2_with (first | (go_at_call 45; refine (rvalid_c _ _ hs).mono ?_; rintro e w1 ⟨rfl, hx1⟩))
    go_ret
    exact ⟨none, 0, by rw [Hl.out]; rfl, by rw [Hl.out]; exact OwnS.nil _ _, (by (repeat (first | exact Ext.refl _ | exact ‹Ext _ _› | refine Ext.alloc ?_ _ | refine Ext.drew ?_ | refine Ext.drewN ?_ _ | (refine Ext.setCell ?_ (by first | omega | (simp; done) | (simp; omega)) _) | refine Ext.trans ?_ ‹Ext _ _›)))⟩
  have Hl : Hid (linesL (ls s) = lns (ls s)) := Lib.hid (by unfold linesL; simp [hv])
  go_enter Tryd.func64, Tryd.ntmps64
  go_wp2_with (first | (go_at_call 45; refine (rvalid_c _ _ hs).mono ?_; rintro e w1 ⟨rfl, hx1⟩))
  go_loopw [3, 4, 5] (fun v f i wr => ∃ (j b : Nat) (a : Option Addr) (cap : Nat) (D : List (Nat × Nat)), i = .int .i64 j ∧ f = .int .i64 b ∧ v = .slice a D.length cap ∧ j ≤ s.size + 1 ∧ D.length ≤ j ∧ Hid (j ≤ s.size → lns (ls s) = D ++ lnsF ((ls s).drop j) b j) ∧ Hid (j = s.size + 1 → D = lns (ls s)) ∧ Hid (OwnS EncP 54 w.heap.size wr a cap D) ∧ Ext w wr) (fun _ _ i _ => s.size + 1 - (intOf i).toNat)
  case atStart => exact ⟨0, 0, none, 0, [], rfl, rfl, rfl, by omega, by simp, Lib.hid (fun _ => by simp [lns]), Lib.hid (fun h => by omega), Lib.hid (OwnS.nil _ _), (by (repeat (first | exact Ext.refl _ | exact ‹Ext _ _› | refine Ext.alloc ?_ _ | refine Ext.drew ?_ | refine Ext.drewN ?_ _ | (refine Ext.setCell ?_ (by first | omega | (simp; done) | (simp; omega)) _) | refine Ext.trans ?_ ‹Ext _ _›)))⟩
  case round =>
    obtain ⟨j, b, a, cap, D, rfl, rfl, rfl, hj, hD, H1, H2, Hown, hx⟩ := hrel
    by_cases c1 : j < s.size
    · have Hs := Lib.hid (lnsF_step (ls s) b j (by rw [ls_len]; exact c1))
      have Hby := Lib.hid (byL_eq s j c1)
      by_cases c2 : (s[j].toNat : Int) = 10
      · go_wp2_with (first | (at_builtin; refine app_s 52 (.agg #[.int .i64 0, .int .i64 0]) 16 Tryd.underlying52 Tryd.infoPair rfl w _ rfl _ _ rfl _ _ (D) ((b, j)) _ rfl rfl (Hown.out.ext (by (repeat (first | exact Ext.refl _ | exact ‹Ext _ _› | refine Ext.alloc ?_ _ | refine Ext.drew ?_ | refine Ext.drewN ?_ _ | (refine Ext.setCell ?_ (by first | omega | (simp; done) | (simp; omega)) _) | refine Ext.trans ?_ ‹Ext _ _›)))) (by (repeat (first | exact Ext.refl _ | exact ‹Ext _ _› | refine Ext.alloc ?_ _ | refine Ext.drew ?_ | refine Ext.drewN ?_ _ | (refine Ext.setCell ?_ (by first | omega | (simp; done) | (simp; omega)) _) | refine Ext.trans ?_ ‹Ext _ _›))) rfl (by omega) (by decide) ?_; intro a2 cap2 w2 hown2 hx2))
        go_roundw
        case rel =>
          refine ⟨j + 1, j + 1, a2, cap2, D ++ [(b, j)], by go_num, by go_num, by simp, by omega, by (simp <;> omega), Lib.hid (fun _ => ?_), Lib.hid (fun h => by omega), Lib.hid hown2, (by (repeat (first | exact Ext.refl _ | exact ‹Ext _ _› | refine Ext.alloc ?_ _ | refine Ext.drew ?_ | refine Ext.drewN ?_ _ | (refine Ext.setCell ?_ (by first | omega | (simp; done) | (simp; omega)) _) | refine Ext.trans ?_ ‹Ext _ _›)))⟩
          rw [H1.out (by omega), Hs.out, ← Hby.out, if_pos c2]; simp
        case measure => simp [intOf]; omega
      · have c3 : ((s[j].toNat : Int) == 10) = false := by simp; omega
        go_wp2
        go_roundw
        case rel =>
          refine ⟨j + 1, b, a, cap, D, by go_num, rfl, rfl, by omega, by omega, Lib.hid (fun _ => ?_), Lib.hid (fun h => by omega), Hown, (by (repeat (first | exact Ext.refl _ | exact ‹Ext _ _› | refine Ext.alloc ?_ _ | refine Ext.drew ?_ | refine Ext.drewN ?_ _ | (refine Ext.setCell ?_ (by first | omega | (simp; done) | (simp; omega)) _) | refine Ext.trans ?_ ‹Ext _ _›)))⟩
          rw [H1.out (by omega), Hs.out, ← Hby.out, if_neg c2]
        case measure => simp [intOf]; omega
    · by_cases c2 : j = s.size
      · subst c2
        have He : Hid (lnsF ((ls s).drop s.size) b s.size = [(b, s.size)]) := Lib.hid (lnsF_end _ _ _ (by rw [ls_len]; omega))
        go_wp2_with (first | (at_builtin; refine app_s 52 (.agg #[.int .i64 0, .int .i64 0]) 16 Tryd.underlying52 Tryd.infoPair rfl w _ rfl _ _ rfl _ _ (D) ((b, s.size)) _ rfl rfl (Hown.out.ext (by (repeat (first | exact Ext.refl _ | exact ‹Ext _ _› | refine Ext.alloc ?_ _ | refine Ext.drew ?_ | refine Ext.drewN ?_ _ | (refine Ext.setCell ?_ (by first | omega | (simp; done) | (simp; omega)) _) | refine Ext.trans ?_ ‹Ext _ _›)))) (by (repeat (first | exact Ext.refl _ | exact ‹Ext _ _› | refine Ext.alloc ?_ _ | refine Ext.drew ?_ | refine Ext.drewN ?_ _ | (refine Ext.setCell ?_ (by first | omega | (simp; done) | (simp; omega)) _) | refine Ext.trans ?_ ‹Ext _ _›))) rfl (by omega) (by decide) ?_; intro a2 cap2 w2 hown2 hx2))
        go_roundw
        case rel =>
          refine ⟨s.size + 1, s.size + 1, a2, cap2, D ++ [(b, s.size)], by go_num, by go_num, by simp, by omega, by (simp <;> omega), Lib.hid (fun h => by omega), Lib.hid (fun _ => ?_), Lib.hid hown2, (by (repeat (first | exact Ext.refl _ | exact ‹Ext _ _› | refine Ext.alloc ?_ _ | refine Ext.drew ?_ | refine Ext.drewN ?_ _ | (refine Ext.setCell ?_ (by first | omega | (simp; done) | (simp; omega)) _) | refine Ext.trans ?_ ‹Ext _ _›)))⟩
          rw [H1.out (by omega), He.out]
        case measure => (simp [intOf] <;> omega)
      · have c3 : j = s.size + 1 := by omega
        have hD2 := H2.out c3
        subst c3
        go_wp2
        go_ret
        subst hD2
        exact ⟨a, cap, by rw [Hl.out]; first | rfl | (simp; done), by rw [Hl.out]; exact Hown.out, (by (repeat (first | exact Ext.refl _ | exact ‹Ext _ _› | refine Ext.alloc ?_ _ | refine Ext.drew ?_ | refine Ext.drewN ?_ _ | (refine Ext.setCell ?_ (by first | omega | (simp; done) | (simp; omega)) _) | refine Ext.trans ?_ ‹Ext _ _›)))⟩

theorem linesL_at {l : List UInt8} {k : Nat} (h : k < (linesL l).length) : startI l k = ((linesL l)[k].1 : Nat) ∧ endI l k = ((linesL l)[k].2 : Nat) ∧ validL l = true := by
  rcases Bool.eq_false_or_eq_true (validL l) with hv | hv
  · have e : linesL l = lns l := by unfold linesL; simp [hv]
    have hl : lineI l k = some (linesL l)[k] := by
      unfold lineI; rw [if_pos ⟨hv, by omega⟩, Int.toNat_natCast]
      simp only [e] at h ⊢
      exact List.getElem?_eq_getElem h
    unfold startI endI; rw [hl]; exact ⟨rfl, rfl, hv⟩
  · have e : linesL l = [] := by unfold linesL; simp [hv]
    rw [e] at h; simp at h
theorem linesL_out {l : List UInt8} {k : Int} (h : k < 0 ∨ ((linesL l).length : Int) ≤ k) : startI l k = -1 ∧ endI l k = -1 := by
  have hl : lineI l k = none := by
    unfold lineI
    split
    · rename_i hc
      have e : linesL l = lns l := by unfold linesL; simp [hc.1]
      rw [e] at h
      exact List.getElem?_eq_none (by omega)
    · rfl
  unfold startI endI; rw [hl]; exact ⟨rfl, rfl⟩
theorem linesL_count (l : List UInt8) : ((linesL l).length : Int) = lcountI l := by
  unfold linesL lcountI; split
  · rw [lns_len]; simp
  · simp
set_option maxHeartbeats 4000000 in
set_option maxRecDepth 100000 in
theorem r4start_c (s : ByteArray) (k : Int) (w : World) (hs : s.size ≤ 1099511627775) : Calls Tryd.prog 43 #[.string s, .int .i64 k] w fun e w' => e = .returned (.int .i64 (startI (ls s) k)) ∧ Ext w w' := by
  by_cases hk : k < 0 ∨ ((linesL (ls s)).length : Int) ≤ k
  · have Ho := Lib.hid (linesL_out hk).1
    go_enter Tryd.func43, Tryd.ntmps43
    go_wp2_with (first | (go_at_call 64; refine (r4lines_c _ _ hs).mono ?_; rintro e w1 ⟨a, cap, rfl, hown, hx1⟩))
    all_goals (first | (go_ret; exact ⟨ret1 Ho.out.symm, (by (repeat (first | exact Ext.refl _ | exact ‹Ext _ _› | refine Ext.alloc ?_ _ | refine Ext.drew ?_ | refine Ext.drewN ?_ _ | (refine Ext.setCell ?_ (by first | omega | (simp; done) | (simp; omega)) _) | refine Ext.trans ?_ ‹Ext _ _›)))⟩) | (exfalso; omega))
  · obtain ⟨n, rfl⟩ : ∃ n : Nat, k = n := ⟨k.toNat, by omega⟩
    have hn : n < (linesL (ls s)).length := by omega
    have Ho := Lib.hid (linesL_at hn).1
    clear hk
    go_enter Tryd.func43, Tryd.ntmps43
    go_wp2_with (first | (go_at_call 64; refine (r4lines_c _ _ hs).mono ?_; rintro e w1 ⟨a, cap, rfl, hown, hx1⟩; obtain ⟨g, o, rfl, hc0, hc1⟩ := RdS.pair (OwnS.rd hown) n hn))
    all_goals (go_ret; exact ⟨ret1 Ho.out.symm, (by (repeat (first | exact Ext.refl _ | exact ‹Ext _ _› | refine Ext.alloc ?_ _ | refine Ext.drew ?_ | refine Ext.drewN ?_ _ | (refine Ext.setCell ?_ (by first | omega | (simp; done) | (simp; omega)) _) | refine Ext.trans ?_ ‹Ext _ _›)))⟩)

set_option maxHeartbeats 4000000 in
set_option maxRecDepth 100000 in
theorem r4end_c (s : ByteArray) (k : Int) (w : World) (hs : s.size ≤ 1099511627775) : Calls Tryd.prog 42 #[.string s, .int .i64 k] w fun e w' => e = .returned (.int .i64 (endI (ls s) k)) ∧ Ext w w' := by
  by_cases hk : k < 0 ∨ ((linesL (ls s)).length : Int) ≤ k
  · have Ho := Lib.hid (linesL_out hk).2
    go_enter Tryd.func42, Tryd.ntmps42
    go_wp2_with (first | (go_at_call 64; refine (r4lines_c _ _ hs).mono ?_; rintro e w1 ⟨a, cap, rfl, hown, hx1⟩))
    all_goals (first | (go_ret; exact ⟨ret1 Ho.out.symm, (by (repeat (first | exact Ext.refl _ | exact ‹Ext _ _› | refine Ext.alloc ?_ _ | refine Ext.drew ?_ | refine Ext.drewN ?_ _ | (refine Ext.setCell ?_ (by first | omega | (simp; done) | (simp; omega)) _) | refine Ext.trans ?_ ‹Ext _ _›)))⟩) | (exfalso; omega))
  · obtain ⟨n, rfl⟩ : ∃ n : Nat, k = n := ⟨k.toNat, by omega⟩
    have hn : n < (linesL (ls s)).length := by omega
    have Ho := Lib.hid (linesL_at hn).2.1
    clear hk
    go_enter Tryd.func42, Tryd.ntmps42
    go_wp2_with (first | (go_at_call 64; refine (r4lines_c _ _ hs).mono ?_; rintro e w1 ⟨a, cap, rfl, hown, hx1⟩; obtain ⟨g, o, rfl, hc0, hc1⟩ := RdS.pair (OwnS.rd hown) n hn))
    all_goals (go_ret; exact ⟨ret1 Ho.out.symm, (by (repeat (first | exact Ext.refl _ | exact ‹Ext _ _› | refine Ext.alloc ?_ _ | refine Ext.drew ?_ | refine Ext.drewN ?_ _ | (refine Ext.setCell ?_ (by first | omega | (simp; done) | (simp; omega)) _) | refine Ext.trans ?_ ‹Ext _ _›)))⟩)
def lastAt (X : List (Nat × Nat)) (p : Int) : Nat → Int
  | 0 => -1
  | k + 1 => if ((X.getD k (0, 0)).1 : Int) ≤ p then (k : Int) else lastAt X p k
theorem lnsF_starts : ∀ (r : List UInt8) (st i : Nat), st ≤ i → ∀ j, j + 1 < (lnsF r st i).length → i < ((lnsF r st i).getD (j + 1) (0, 0)).1
  | [], st, i, _, j, h => by simp [lnsF] at h
  | b :: r, st, i, hs, j, h => by
    by_cases hb : b = 10
    · rw [lnsF, if_pos hb] at h ⊢
      rw [List.getD_cons_succ]
      obtain ⟨e, q, h1, _, _⟩ := lnsF_head r (i + 1) (i + 1)
      cases j with
      | zero => rw [h1]; simp
      | succ j =>
        have := lnsF_starts r (i + 1) (i + 1) (Nat.le_refl _) j (by simpa using h)
        omega
    · rw [lnsF, if_neg hb] at h ⊢
      have := lnsF_starts r st (i + 1) (by omega) j h
      omega
theorem lastAt_of (l : List UInt8) (p : Nat) (hp : p ≤ l.length) : lastAt (lns l) p (lns l).length = (fds l p : Nat) := by
  obtain ⟨a, ha, hl⟩ := lns_split l p hp
  obtain ⟨e, q, h1, h2, h3⟩ := lnsF_head (l.drop p) (lst l p) p
  have hlst := lst_le l p
  have hlt : fds l p < (lns l).length := by rw [ha, List.length_append, hl, h1]; simp
  have key : ∀ d, fds l p + 1 + d ≤ (lns l).length → lastAt (lns l) p (fds l p + 1 + d) = (fds l p : Nat) := by
    intro d
    induction d with
    | zero =>
      intro _
      have e0 : ((lns l).getD (fds l p) (0, 0)).1 = lst l p := by
        rw [ha, List.getD_eq_getElem?_getD, List.getElem?_append_right (by omega), hl, Nat.sub_self, h1]; rfl
      rw [Nat.add_zero, lastAt, e0, if_pos (by omega)]
    | succ d ih =>
      intro hd
      have e0 : p < ((lns l).getD (fds l p + 1 + d) (0, 0)).1 := by
        have := lnsF_starts (l.drop p) (lst l p) p hlst d (by rw [ha, List.length_append, hl] at hd; omega)
        rw [ha, List.getD_eq_getElem?_getD, List.getElem?_append_right (by omega), hl]
        rw [List.getD_eq_getElem?_getD] at this
        rw [show fds l p + 1 + d - fds l p = d + 1 by omega]
        exact this
      rw [show fds l p + 1 + (d + 1) = (fds l p + 1 + d) + 1 by omega, lastAt, if_neg (by omega)]
      exact ih (by omega)
  have := key ((lns l).length - (fds l p + 1)) (by omega)
  rwa [Nat.add_sub_cancel' (by omega)] at this
set_option maxHeartbeats 4000000 in
set_option maxRecDepth 100000 in
theorem r4of_c (s : ByteArray) (p : Int) (w : World) (hs : s.size ≤ 1099511627775) : Calls Tryd.prog 41 #[.string s, .int .i64 p] w fun e w' => e = .returned (.int .i64 (ofI (ls s) p)) ∧ Ext w w' := by
  by_cases h0 : p < 0 ∨ (s.size : Int) < p
  · have Ho : Hid (ofI (ls s) p = -1) := Lib.hid (by unfold ofI; rw [if_pos (by rw [ls_len]; omega)])
    go_enter Tryd.func41, Tryd.ntmps41
    go_wp2_with (first | (go_at_call 64; refine (r4lines_c _ _ hs).mono ?_; rintro e w1 ⟨a, cap, rfl, hown, hx1⟩))
    all_goals (first | (go_ret; exact ⟨ret1 Ho.out.symm, (by (repeat (first | exact Ext.refl _ | exact ‹Ext _ _› | refine Ext.alloc ?_ _ | refine Ext.drew ?_ | refine Ext.drewN ?_ _ | (refine Ext.setCell ?_ (by first | omega | (simp; done) | (simp; omega)) _) | refine Ext.trans ?_ ‹Ext _ _›)))⟩) | (exfalso; omega))
  · obtain ⟨k, rfl⟩ : ∃ k : Nat, p = k := ⟨p.toNat, by omega⟩
    have hk : k ≤ s.size := by omega
    clear h0
    have hll := linesL_len s
    have Ho : Hid (lastAt (linesL (ls s)) k (linesL (ls s)).length = ofI (ls s) k) := Lib.hid (by
      unfold linesL ofI
      rcases Bool.eq_false_or_eq_true (validL (ls s)) with hv | hv
      · rw [if_pos hv, if_neg (by rw [ls_len, hv]; simp; omega), Int.toNat_natCast]
        exact lastAt_of _ _ (by rw [ls_len]; exact hk)
      · simp [hv, lastAt])
    go_enter Tryd.func41, Tryd.ntmps41
    go_wp2_with (first | (go_at_call 64; refine (r4lines_c _ _ hs).mono ?_; rintro e w1 ⟨a, cap, rfl, hown, hx1⟩))
    go_loopw [6] (fun v wr => ∃ j : Nat, v = .int .i64 ((j : Int) - 1) ∧ j ≤ (linesL (ls s)).length ∧ lastAt (linesL (ls s)) k j = lastAt (linesL (ls s)) k (linesL (ls s)).length ∧ Ext w1 wr) (fun v _ => (intOf v + 1).toNat)
    case atStart => exact ⟨(linesL (ls s)).length, rfl, by omega, rfl, Ext.refl _⟩
    case round =>
      obtain ⟨j, rfl, hj, hok, hx⟩ := hrel
      have Hok := Lib.hid hok
      clear hok
      rcases Nat.eq_zero_or_pos j with h0 | h0
      · subst h0
        have Hn : Hid (ofI (ls s) k = -1) := Lib.hid (by rw [← Ho.out, ← Hok.out]; rfl)
        go_wp2
        go_ret
        exact ⟨ret1 Hn.out.symm, (by (repeat (first | exact Ext.refl _ | exact ‹Ext _ _› | refine Ext.alloc ?_ _ | refine Ext.drew ?_ | refine Ext.drewN ?_ _ | (refine Ext.setCell ?_ (by first | omega | (simp; done) | (simp; omega)) _) | refine Ext.trans ?_ ‹Ext _ _›)))⟩
      · obtain ⟨i, rfl⟩ : ∃ i, j = i + 1 := ⟨j - 1, by omega⟩
        have e1 : ((i + 1 : Nat) : Int) - 1 = (i : Int) := by omega
        rw [e1]
        have hi : i < (linesL (ls s)).length := by omega
        have Hs : Hid (lastAt (linesL (ls s)) k (i + 1) = if ((linesL (ls s))[i].1 : Int) ≤ k then (i : Int) else lastAt (linesL (ls s)) k i) := Lib.hid (by
          rw [lastAt, List.getD_eq_getElem?_getD, List.getElem?_eq_getElem hi]; rfl)
        obtain ⟨g, o, rfl, hc0, hc1⟩ := RdS.pair ((OwnS.rd hown).ext hx) i hi
        clear e1
        go_wp2
        · go_ret
          refine ⟨ret1 ?_, (by (repeat (first | exact Ext.refl _ | exact ‹Ext _ _› | refine Ext.alloc ?_ _ | refine Ext.drew ?_ | refine Ext.drewN ?_ _ | (refine Ext.setCell ?_ (by first | omega | (simp; done) | (simp; omega)) _) | refine Ext.trans ?_ ‹Ext _ _›)))⟩
          rw [← Ho.out, ← Hok.out, Hs.out, if_pos (by omega)]
        · go_roundw
          case rel =>
            refine ⟨i, by go_num, by omega, ?_, (by (repeat (first | exact Ext.refl _ | exact ‹Ext _ _› | refine Ext.alloc ?_ _ | refine Ext.drew ?_ | refine Ext.drewN ?_ _ | (refine Ext.setCell ?_ (by first | omega | (simp; done) | (simp; omega)) _) | refine Ext.trans ?_ ‹Ext _ _›)))⟩
            rw [← Hok.out, Hs.out, if_neg (by omega)]
          case measure => (simp [intOf] <;> omega)

end Go.Proofs.YtgapekdcoedmgaaDoor
/- The contracts of calamusref04.Column and At. -/
namespace Go.Proofs.YtgapekdcoedmgaaDoor
open Go.RowKit
set_option linter.unusedVariables false
set_option linter.unusedSimpArgs false
theorem up_sub (s : ByteArray) (k : Nat) : ls (s.extract (lst (ls s) k) k) = upL (ls s) k := by unfold upL; exact Lib.extract_data s _ _

end Go.Proofs.YtgapekdcoedmgaaDoor
/- The contracts of the packages line and calamusref04 in the printer's form. -/
namespace Go.Proofs.YtgapekdcoedmgaaDoor
open Go.RowKit
set_option linter.unusedVariables false
set_option linter.unusedSimpArgs false
def line_Count.f (a0 : ByteArray) : Option (Int) := if a0.size ≤ 1099511627775 then some (lcountI (ls a0)) else none
theorem line_Count.eq (a0 : ByteArray) (hg : a0.size ≤ 1099511627775) : line_Count.f a0 = some (lcountI (ls a0)) := if_pos hg
theorem line_Count.calls (a0 : ByteArray) (r : Int) (w : World) (h : line_Count.f a0 = some r) : Calls Tryd.prog 36 #[.string a0] w fun e w' => e = .returned (.int .i64 r) ∧ Below w.heap.size w w' := by
  unfold line_Count.f at h
  split at h
  · cases h; exact lcount_c a0 w (by omega)
  · cases h
def line_Start.f (a0 : ByteArray) (a1 : Int) : Option (Int) := if a0.size ≤ 1099511627775 then some (startI (ls a0) a1) else none
theorem line_Start.eq (a0 : ByteArray) (a1 : Int) (hg : a0.size ≤ 1099511627775) : line_Start.f a0 a1 = some (startI (ls a0) a1) := if_pos hg
theorem line_Start.calls (a0 : ByteArray) (a1 : Int) (r : Int) (w : World) (h : line_Start.f a0 a1 = some r) : Calls Tryd.prog 26 #[.string a0, .int .i64 a1] w fun e w' => e = .returned (.int .i64 r) ∧ Below w.heap.size w w' := by
  unfold line_Start.f at h
  split at h
  · cases h; exact lstart_c a0 a1 w (by omega)
  · cases h
def line_End.f (a0 : ByteArray) (a1 : Int) : Option (Int) := if a0.size ≤ 1099511627775 then some (endI (ls a0) a1) else none
theorem line_End.eq (a0 : ByteArray) (a1 : Int) (hg : a0.size ≤ 1099511627775) : line_End.f a0 a1 = some (endI (ls a0) a1) := if_pos hg
theorem line_End.calls (a0 : ByteArray) (a1 : Int) (r : Int) (w : World) (h : line_End.f a0 a1 = some r) : Calls Tryd.prog 27 #[.string a0, .int .i64 a1] w fun e w' => e = .returned (.int .i64 r) ∧ Below w.heap.size w w' := by
  unfold line_End.f at h
  split at h
  · cases h; exact lend_c a0 a1 w (by omega)
  · cases h
def line_Of.f (a0 : ByteArray) (a1 : Int) : Option (Int) := if a0.size ≤ 1099511627775 then some (ofI (ls a0) a1) else none
theorem line_Of.eq (a0 : ByteArray) (a1 : Int) (hg : a0.size ≤ 1099511627775) : line_Of.f a0 a1 = some (ofI (ls a0) a1) := if_pos hg
theorem line_Of.calls (a0 : ByteArray) (a1 : Int) (r : Int) (w : World) (h : line_Of.f a0 a1 = some r) : Calls Tryd.prog 23 #[.string a0, .int .i64 a1] w fun e w' => e = .returned (.int .i64 r) ∧ Below w.heap.size w w' := by
  unfold line_Of.f at h
  split at h
  · cases h; exact lof_c a0 a1 w (by omega)
  · cases h
def line_Column.f (a0 : ByteArray) (a1 : Int) : Option (Int) := if a0.size ≤ 1099511627775 then some (colI (ls a0) a1) else none
theorem line_Column.eq (a0 : ByteArray) (a1 : Int) (hg : a0.size ≤ 1099511627775) : line_Column.f a0 a1 = some (colI (ls a0) a1) := if_pos hg
theorem line_Column.calls (a0 : ByteArray) (a1 : Int) (r : Int) (w : World) (h : line_Column.f a0 a1 = some r) : Calls Tryd.prog 25 #[.string a0, .int .i64 a1] w fun e w' => e = .returned (.int .i64 r) ∧ Below w.heap.size w w' := by
  unfold line_Column.f at h
  split at h
  · cases h; exact lcolumn_c a0 a1 w (by omega)
  · cases h
def line_At.f (a0 : ByteArray) (a1 : Int) (a2 : Int) : Option (Int) := if a0.size ≤ 1099511627775 ∧ a2 ≤ 9223372036854775807 then some (atI (ls a0) a1 a2) else none
theorem line_At.eq (a0 : ByteArray) (a1 : Int) (a2 : Int) (hg : a0.size ≤ 1099511627775 ∧ a2 ≤ 9223372036854775807) : line_At.f a0 a1 a2 = some (atI (ls a0) a1 a2) := if_pos hg
theorem line_At.calls (a0 : ByteArray) (a1 : Int) (a2 : Int) (r : Int) (w : World) (h : line_At.f a0 a1 a2 = some r) : Calls Tryd.prog 24 #[.string a0, .int .i64 a1, .int .i64 a2] w fun e w' => e = .returned (.int .i64 r) ∧ Below w.heap.size w w' := by
  unfold line_At.f at h
  split at h
  · cases h; exact lat_c a0 a1 a2 w (by omega) (by omega)
  · cases h
def line_Clamp.f (a0 : ByteArray) (a1 : Int) : Option (Int) := if a0.size ≤ 1099511627775 then some (clampI (ls a0) a1) else none
theorem line_Clamp.eq (a0 : ByteArray) (a1 : Int) (hg : a0.size ≤ 1099511627775) : line_Clamp.f a0 a1 = some (clampI (ls a0) a1) := if_pos hg
theorem line_Clamp.calls (a0 : ByteArray) (a1 : Int) (r : Int) (w : World) (h : line_Clamp.f a0 a1 = some r) : Calls Tryd.prog 18 #[.string a0, .int .i64 a1] w fun e w' => e = .returned (.int .i64 r) ∧ Below w.heap.size w w' := by
  unfold line_Clamp.f at h
  split at h
  · cases h; exact clamp_c a0 a1 w (by omega)
  · cases h
def calamusref04_Start.f (a0 : ByteArray) (a1 : Int) : Option (Int) := if a0.size ≤ 1099511627775 then some (startI (ls a0) a1) else none
theorem calamusref04_Start.eq (a0 : ByteArray) (a1 : Int) (hg : a0.size ≤ 1099511627775) : calamusref04_Start.f a0 a1 = some (startI (ls a0) a1) := if_pos hg
theorem calamusref04_Start.calls (a0 : ByteArray) (a1 : Int) (r : Int) (w : World) (h : calamusref04_Start.f a0 a1 = some r) : Calls Tryd.prog 43 #[.string a0, .int .i64 a1] w fun e w' => e = .returned (.int .i64 r) ∧ Below w.heap.size w w' := by
  unfold calamusref04_Start.f at h
  split at h
  · cases h; exact r4start_c a0 a1 w (by omega)
  · cases h
def calamusref04_End.f (a0 : ByteArray) (a1 : Int) : Option (Int) := if a0.size ≤ 1099511627775 then some (endI (ls a0) a1) else none
theorem calamusref04_End.eq (a0 : ByteArray) (a1 : Int) (hg : a0.size ≤ 1099511627775) : calamusref04_End.f a0 a1 = some (endI (ls a0) a1) := if_pos hg
theorem calamusref04_End.calls (a0 : ByteArray) (a1 : Int) (r : Int) (w : World) (h : calamusref04_End.f a0 a1 = some r) : Calls Tryd.prog 42 #[.string a0, .int .i64 a1] w fun e w' => e = .returned (.int .i64 r) ∧ Below w.heap.size w w' := by
  unfold calamusref04_End.f at h
  split at h
  · cases h; exact r4end_c a0 a1 w (by omega)
  · cases h
def calamusref04_Of.f (a0 : ByteArray) (a1 : Int) : Option (Int) := if a0.size ≤ 1099511627775 then some (ofI (ls a0) a1) else none
theorem calamusref04_Of.eq (a0 : ByteArray) (a1 : Int) (hg : a0.size ≤ 1099511627775) : calamusref04_Of.f a0 a1 = some (ofI (ls a0) a1) := if_pos hg
theorem calamusref04_Of.calls (a0 : ByteArray) (a1 : Int) (r : Int) (w : World) (h : calamusref04_Of.f a0 a1 = some r) : Calls Tryd.prog 41 #[.string a0, .int .i64 a1] w fun e w' => e = .returned (.int .i64 r) ∧ Below w.heap.size w w' := by
  unfold calamusref04_Of.f at h
  split at h
  · cases h; exact r4of_c a0 a1 w (by omega)
  · cases h
end Go.Proofs.YtgapekdcoedmgaaDoor
/- The contract of line.find in the printer's form. -/
namespace Go.Proofs.YtgapekdcoedmgaaDoor
open Go.RowKit
set_option linter.unusedVariables false
set_option linter.unusedSimpArgs false
def line_find.f (a0 : ByteArray) (a1 : Int) : Option (Int × Int × Bool) := if a0.size ≤ 1099511627775 then some (startI (ls a0) a1, endI (ls a0) a1, (lineI (ls a0) a1).isSome) else none
theorem line_find.eq (a0 : ByteArray) (a1 : Int) (hg : a0.size ≤ 1099511627775) : line_find.f a0 a1 = some (startI (ls a0) a1, endI (ls a0) a1, (lineI (ls a0) a1).isSome) := if_pos hg
theorem line_find.calls (a0 : ByteArray) (a1 : Int) (r1 : Int) (r2 : Int) (r3 : Bool) (w : World) (h : line_find.f a0 a1 = some (r1, r2, r3)) : Calls Tryd.prog 47 #[.string a0, .int .i64 a1] w fun e w' => e = .returned (.tuple #[.int .i64 r1, .int .i64 r2, .bool r3]) ∧ Below w.heap.size w w' := by
  unfold line_find.f at h
  split at h
  · cases h; exact lfind_c a0 a1 w (by omega)
  · cases h
end Go.Proofs.YtgapekdcoedmgaaDoor
-- Printed by this work's xp.py out of the translation. Lean checks it.
namespace Go.Proofs.YtgapekdcoedmgaaDoor.QC
open Go.RowKit Go.Proofs.YtgapekdcoedmgaaDoorW.PrintWords Go.Proofs.YtgapekdcoedmgaaDoorW.PrintLast Go.Proofs.YtgapekdcoedmgaaDoorW.PrintMore
attribute [local go_sem] max2_int min2_int max_two min_two max_three min_three max_four min_four   -- for this text's walks alone
set_option linter.unusedVariables false
set_option linter.unusedSimpArgs false



def errW : Option Int → Value
  | none => .nilIface
  | some c => .iface 0 (.int .i64 c)
theorem errW_none : errW none = .nilIface := rfl
theorem errW_some (c : Int) : errW (some c) = .iface 0 (.int .i64 c) := rfl

-- the values' own types

end Go.Proofs.YtgapekdcoedmgaaDoor.QC
/- The contract of line.Normal. -/
namespace Go.Proofs.YtgapekdcoedmgaaDoor
open Go.RowKit
set_option linter.unusedVariables false
set_option linter.unusedSimpArgs false
set_option maxHeartbeats 4000000 in
set_option maxRecDepth 100000 in
theorem lnormal_c (s : ByteArray) (p : Int) (w : World) (hs : s.size ≤ 1099511627775) : Calls Tryd.prog 16 #[.string s, .int .i64 p] w fun e w' => e = .returned (.bool (normalB (ls s) p)) ∧ Ext w w' := by
  rcases place_cases s p with hp | ⟨q, rfl, hq, hp, hv⟩
  · have H : Hid (normalB (ls s) p = false) := Lib.hid (by unfold normalB; rw [hp]; rfl)
    go_enter Tryd.func16, Tryd.ntmps16
    go_wp2_with (first | (go_at_call 37; refine (place_c _ _ _ (by omega)).mono ?_; rintro e w1 ⟨rfl, hx1⟩))
    go_ret
    exact ⟨retb H.out.symm, (by (repeat (first | exact Ext.refl _ | exact ‹Ext _ _› | refine Ext.alloc ?_ _ | refine Ext.drew ?_ | refine Ext.drewN ?_ _ | (refine Ext.setCell ?_ (by first | omega | (simp; done) | (simp; omega)) _) | refine Ext.trans ?_ ‹Ext _ _›)))⟩
  · have H : Hid (normalB (ls s) q = (!endsB (ls s) q || decide (lst (ls s) q = q))) := Lib.hid (by unfold normalB; rw [hp, Int.toNat_natCast, Bool.true_and])
    obtain ⟨b, hb⟩ : ∃ b, endsB (ls s) q = b := ⟨_, rfl⟩
    have Hb := Lib.hid hb
    obtain ⟨m, hm⟩ : ∃ m, lst (ls s) q = m := ⟨_, rfl⟩
    have Hm := Lib.hid hm
    have hbeg : ∀ w, Calls Tryd.prog 39 #[.string s, .int .i64 q] w fun e w' => e = .returned (.int .i64 (m : Nat)) ∧ Ext w w' := fun w => by rw [← hm]; exact begin_c s q hq w hs
    clear hm
    cases b with
    | true =>
      go_enter Tryd.func16, Tryd.ntmps16
      go_wp2_with (first | (go_at_call 37; refine (place_c _ _ _ (by omega)).mono ?_; rintro e w1 ⟨rfl, hx1⟩) | (go_at_call 38; refine (ends_c s q hq _ hs).mono ?_; rintro e w1 ⟨rfl, hx1⟩) | (go_at_call 39; refine (hbeg _).mono ?_; rintro e w1 ⟨rfl, hx1⟩))
      all_goals (go_ret; refine ⟨retb ?_, (by (repeat (first | exact Ext.refl _ | exact ‹Ext _ _› | refine Ext.alloc ?_ _ | refine Ext.drew ?_ | refine Ext.drewN ?_ _ | (refine Ext.setCell ?_ (by first | omega | (simp; done) | (simp; omega)) _) | refine Ext.trans ?_ ‹Ext _ _›)))⟩; rw [H.out, Hb.out, Hm.out]; first | rfl | (rw [Bool.eq_iff_iff]; simp <;> omega) | (simp <;> omega))
    | false =>
      go_enter Tryd.func16, Tryd.ntmps16
      go_wp2_with (first | (go_at_call 37; refine (place_c _ _ _ (by omega)).mono ?_; rintro e w1 ⟨rfl, hx1⟩) | (go_at_call 38; refine (ends_c s q hq _ hs).mono ?_; rintro e w1 ⟨rfl, hx1⟩))
      go_ret
      exact ⟨retb (by rw [H.out, Hb.out]; rfl), (by (repeat (first | exact Ext.refl _ | exact ‹Ext _ _› | refine Ext.alloc ?_ _ | refine Ext.drew ?_ | refine Ext.drewN ?_ _ | (refine Ext.setCell ?_ (by first | omega | (simp; done) | (simp; omega)) _) | refine Ext.trans ?_ ‹Ext _ _›)))⟩
def line_Normal.f (a0 : ByteArray) (a1 : Int) : Option (Bool) := if a0.size ≤ 1099511627775 then some (normalB (ls a0) a1) else none
theorem line_Normal.eq (a0 : ByteArray) (a1 : Int) (hg : a0.size ≤ 1099511627775) : line_Normal.f a0 a1 = some (normalB (ls a0) a1) := if_pos hg
theorem line_Normal.calls (a0 : ByteArray) (a1 : Int) (r : Bool) (w : World) (h : line_Normal.f a0 a1 = some r) : Calls Tryd.prog 16 #[.string a0, .int .i64 a1] w fun e w' => e = .returned (.bool r) ∧ Below w.heap.size w w' := by
  unfold line_Normal.f at h
  split at h
  · cases h; exact lnormal_c a0 a1 w (by omega)
  · cases h
end Go.Proofs.YtgapekdcoedmgaaDoor
/- The contract of utf.Rune. -/
namespace Go.Proofs.YtgapekdcoedmgaaDoor
open Go.RowKit
set_option linter.unusedVariables false
set_option linter.unusedSimpArgs false
end Go.Proofs.YtgapekdcoedmgaaDoor
/- The contracts of the packages utf, calamusref03 and class in the printer's form. -/
namespace Go.Proofs.YtgapekdcoedmgaaDoor
open Go.RowKit
set_option linter.unusedVariables false
set_option linter.unusedSimpArgs false
def utf_Valid.f (a0 : ByteArray) : Option (Bool) := if a0.size ≤ 1099511627775 then some (validL (ls a0)) else none
theorem utf_Valid.eq (a0 : ByteArray) (hg : a0.size ≤ 1099511627775) : utf_Valid.f a0 = some (validL (ls a0)) := if_pos hg
theorem utf_Valid.calls (a0 : ByteArray) (r : Bool) (w : World) (h : utf_Valid.f a0 = some r) : Calls Tryd.prog 22 #[.string a0] w fun e w' => e = .returned (.bool r) ∧ Below w.heap.size w w' := by
  unfold utf_Valid.f at h
  split at h
  · cases h; exact valid_c a0 w (by omega)
  · cases h
def utf_inner.f (a0 : Int) : Option (Bool) := if 0 ≤ a0 ∧ a0 ≤ 255 then some (inn a0) else none
theorem utf_inner.eq (a0 : Int) (hg : 0 ≤ a0 ∧ a0 ≤ 255) : utf_inner.f a0 = some (inn a0) := if_pos hg
theorem utf_inner.calls (a0 : Int) (r : Bool) (w : World) (h : utf_inner.f a0 = some r) : Calls Tryd.prog 60 #[.int .u8 a0] w fun e w' => e = .returned (.bool r) ∧ Below w.heap.size w w' := by
  unfold utf_inner.f at h
  split at h
  · cases h; exact inner_c a0 (by omega) (by omega) w
  · cases h
def utf_Place.f (a0 : ByteArray) (a1 : Int) : Option (Bool) := if a0.size ≤ 1099511627775 then some (placeB (ls a0) a1) else none
theorem utf_Place.eq (a0 : ByteArray) (a1 : Int) (hg : a0.size ≤ 1099511627775) : utf_Place.f a0 a1 = some (placeB (ls a0) a1) := if_pos hg
theorem utf_Place.calls (a0 : ByteArray) (a1 : Int) (r : Bool) (w : World) (h : utf_Place.f a0 a1 = some r) : Calls Tryd.prog 37 #[.string a0, .int .i64 a1] w fun e w' => e = .returned (.bool r) ∧ Below w.heap.size w w' := by
  unfold utf_Place.f at h
  split at h
  · cases h; exact place_c a0 a1 w (by omega)
  · cases h
def utf_Next.f (a0 : ByteArray) (a1 : Int) : Option (Int) := if a0.size ≤ 1099511627775 then some (nextI (ls a0) a1) else none
theorem utf_Next.eq (a0 : ByteArray) (a1 : Int) (hg : a0.size ≤ 1099511627775) : utf_Next.f a0 a1 = some (nextI (ls a0) a1) := if_pos hg
theorem utf_Next.calls (a0 : ByteArray) (a1 : Int) (r : Int) (w : World) (h : utf_Next.f a0 a1 = some r) : Calls Tryd.prog 54 #[.string a0, .int .i64 a1] w fun e w' => e = .returned (.int .i64 r) ∧ Below w.heap.size w w' := by
  unfold utf_Next.f at h
  split at h
  · cases h; exact next_c a0 a1 w (by omega)
  · cases h
def utf_Prev.f (a0 : ByteArray) (a1 : Int) : Option (Int) := if a0.size ≤ 1099511627775 then some (prevI (ls a0) a1) else none
theorem utf_Prev.eq (a0 : ByteArray) (a1 : Int) (hg : a0.size ≤ 1099511627775) : utf_Prev.f a0 a1 = some (prevI (ls a0) a1) := if_pos hg
theorem utf_Prev.calls (a0 : ByteArray) (a1 : Int) (r : Int) (w : World) (h : utf_Prev.f a0 a1 = some r) : Calls Tryd.prog 44 #[.string a0, .int .i64 a1] w fun e w' => e = .returned (.int .i64 r) ∧ Below w.heap.size w w' := by
  unfold utf_Prev.f at h
  split at h
  · cases h; exact prev_c a0 a1 w (by omega)
  · cases h
def utf_Count.f (a0 : ByteArray) : Option (Int) := if a0.size ≤ 1099511627775 then some (countI (ls a0)) else none
theorem utf_Count.eq (a0 : ByteArray) (hg : a0.size ≤ 1099511627775) : utf_Count.f a0 = some (countI (ls a0)) := if_pos hg
theorem utf_Count.calls (a0 : ByteArray) (r : Int) (w : World) (h : utf_Count.f a0 = some r) : Calls Tryd.prog 51 #[.string a0] w fun e w' => e = .returned (.int .i64 r) ∧ Below w.heap.size w w' := by
  unfold utf_Count.f at h
  split at h
  · cases h; exact count_c a0 w (by omega)
  · cases h
def utf_Offset.f (a0 : ByteArray) (a1 : Int) : Option (Int) := if a0.size ≤ 1099511627775 ∧ a1 ≤ 9223372036854775807 then some (offI (ls a0) a1) else none
theorem utf_Offset.eq (a0 : ByteArray) (a1 : Int) (hg : a0.size ≤ 1099511627775 ∧ a1 ≤ 9223372036854775807) : utf_Offset.f a0 a1 = some (offI (ls a0) a1) := if_pos hg
theorem utf_Offset.calls (a0 : ByteArray) (a1 : Int) (r : Int) (w : World) (h : utf_Offset.f a0 a1 = some r) : Calls Tryd.prog 50 #[.string a0, .int .i64 a1] w fun e w' => e = .returned (.int .i64 r) ∧ Below w.heap.size w w' := by
  unfold utf_Offset.f at h
  split at h
  · cases h; exact offset_c a0 a1 w (by omega) (by omega)
  · cases h
def calamusref03_Valid.f (a0 : ByteArray) : Option (Bool) := if a0.size ≤ 1099511627775 then some (validL (ls a0)) else none
theorem calamusref03_Valid.eq (a0 : ByteArray) (hg : a0.size ≤ 1099511627775) : calamusref03_Valid.f a0 = some (validL (ls a0)) := if_pos hg
theorem calamusref03_Valid.calls (a0 : ByteArray) (r : Bool) (w : World) (h : calamusref03_Valid.f a0 = some r) : Calls Tryd.prog 45 #[.string a0] w fun e w' => e = .returned (.bool r) ∧ Below w.heap.size w w' := by
  unfold calamusref03_Valid.f at h
  split at h
  · cases h; exact rvalid_c a0 w (by omega)
  · cases h
def calamusref03_Place.f (a0 : ByteArray) (a1 : Int) : Option (Bool) := if a0.size ≤ 1099511627775 then some (placeB (ls a0) a1) else none
theorem calamusref03_Place.eq (a0 : ByteArray) (a1 : Int) (hg : a0.size ≤ 1099511627775) : calamusref03_Place.f a0 a1 = some (placeB (ls a0) a1) := if_pos hg
theorem calamusref03_Place.calls (a0 : ByteArray) (a1 : Int) (r : Bool) (w : World) (h : calamusref03_Place.f a0 a1 = some r) : Calls Tryd.prog 40 #[.string a0, .int .i64 a1] w fun e w' => e = .returned (.bool r) ∧ Below w.heap.size w w' := by
  unfold calamusref03_Place.f at h
  split at h
  · cases h; exact rplace_c a0 a1 w (by omega)
  · cases h
def calamusref03_Prev.f (a0 : ByteArray) (a1 : Int) : Option (Int) := if a0.size ≤ 1099511627775 then some (prevI (ls a0) a1) else none
theorem calamusref03_Prev.eq (a0 : ByteArray) (a1 : Int) (hg : a0.size ≤ 1099511627775) : calamusref03_Prev.f a0 a1 = some (prevI (ls a0) a1) := if_pos hg
theorem calamusref03_Prev.calls (a0 : ByteArray) (a1 : Int) (r : Int) (w : World) (h : calamusref03_Prev.f a0 a1 = some r) : Calls Tryd.prog 46 #[.string a0, .int .i64 a1] w fun e w' => e = .returned (.int .i64 r) ∧ Below w.heap.size w w' := by
  unfold calamusref03_Prev.f at h
  split at h
  · cases h; exact rprev_c a0 a1 w (by omega)
  · cases h
end Go.Proofs.YtgapekdcoedmgaaDoor
-- Printed by this work's xp.py out of the translation. Lean checks it.
namespace Go.Proofs.YtgapekdcoedmgaaDoor.QC
open Go.RowKit Go.Proofs.YtgapekdcoedmgaaDoorW.PrintWords Go.Proofs.YtgapekdcoedmgaaDoorW.PrintLast Go.Proofs.YtgapekdcoedmgaaDoorW.PrintMore
attribute [local go_sem] max2_int min2_int max_two min_two max_three min_three max_four min_four   -- for this text's walks alone
set_option linter.unusedVariables false
set_option linter.unusedSimpArgs false




/-! ### calamuslaw04_lives -/
def calamuslaw04_lives.f  : Option (Bool) := (line_Count.f (⟨#[97, 98, 10, 10, 99, 100]⟩ : ByteArray)).bind fun t101 => (if t101 = 3 then ((line_Clamp.f (⟨#[97, 98, 10, 10, 99, 100]⟩ : ByteArray) 2).bind fun t102 => (if t102 = 1 then ((line_Clamp.f (⟨#[97, 98, 10, 10, 99, 100]⟩ : ByteArray) 3).bind fun t103 => (if t103 = 3 then ((line_Clamp.f (⟨#[97, 98, 10, 10, 99, 100]⟩ : ByteArray) 9).bind fun t104 => (some (t104 == 5))) else (some false))) else (some false))) else (some false))
set_option maxHeartbeats 8000000 in
set_option maxRecDepth 100000 in
theorem calamuslaw04_lives.calls  (r : Bool) (w : World) (h : calamuslaw04_lives.f  = some r) :
    Calls Tryd.prog 15 #[] w fun e w' => e = .returned (.bool r) ∧ Below w.heap.size w w' := by
  have HB := Aside0.mk (Below.refl w.heap.size w)
  have H : ((line_Count.f (⟨#[97, 98, 10, 10, 99, 100]⟩ : ByteArray)).bind fun t101 => (if t101 = 3 then ((line_Clamp.f (⟨#[97, 98, 10, 10, 99, 100]⟩ : ByteArray) 2).bind fun t102 => (if t102 = 1 then ((line_Clamp.f (⟨#[97, 98, 10, 10, 99, 100]⟩ : ByteArray) 3).bind fun t103 => (if t103 = 3 then ((line_Clamp.f (⟨#[97, 98, 10, 10, 99, 100]⟩ : ByteArray) 9).bind fun t104 => (some (t104 == 5))) else (some false))) else (some false))) else (some false))) = some r := h
  clear h
  replace H := Option.bind_eq_some_iff.mp H
  obtain ⟨t101, A10, H⟩ := H
  replace H : (if t101 = 3 then ((line_Clamp.f (⟨#[97, 98, 10, 10, 99, 100]⟩ : ByteArray) 2).bind fun t102 => (if t102 = 1 then ((line_Clamp.f (⟨#[97, 98, 10, 10, 99, 100]⟩ : ByteArray) 3).bind fun t103 => (if t103 = 3 then ((line_Clamp.f (⟨#[97, 98, 10, 10, 99, 100]⟩ : ByteArray) 9).bind fun t104 => (some (t104 == 5))) else (some false))) else (some false))) else (some false)) = some r := H
  have A1 := Aside0.mk A10
  clear A10
  by_cases c2 : t101 = 3
  · rw [if_pos c2] at H
    have c2b0 : (t101 == 3) = true := beq_iff_eq.mpr c2
    have c2b1 : (t101 != 3) = false := bne_eq_false_iff_eq.mpr c2
    clear c2
    replace H := Option.bind_eq_some_iff.mp H
    obtain ⟨t102, A30, H⟩ := H
    replace H : (if t102 = 1 then ((line_Clamp.f (⟨#[97, 98, 10, 10, 99, 100]⟩ : ByteArray) 3).bind fun t103 => (if t103 = 3 then ((line_Clamp.f (⟨#[97, 98, 10, 10, 99, 100]⟩ : ByteArray) 9).bind fun t104 => (some (t104 == 5))) else (some false))) else (some false)) = some r := H
    have A3 := Aside0.mk A30
    clear A30
    by_cases c4 : t102 = 1
    · rw [if_pos c4] at H
      have c4b0 : (t102 == 1) = true := beq_iff_eq.mpr c4
      have c4b1 : (t102 != 1) = false := bne_eq_false_iff_eq.mpr c4
      clear c4
      replace H := Option.bind_eq_some_iff.mp H
      obtain ⟨t103, A50, H⟩ := H
      replace H : (if t103 = 3 then ((line_Clamp.f (⟨#[97, 98, 10, 10, 99, 100]⟩ : ByteArray) 9).bind fun t104 => (some (t104 == 5))) else (some false)) = some r := H
      have A5 := Aside0.mk A50
      clear A50
      by_cases c6 : t103 = 3
      · rw [if_pos c6] at H
        have c6b0 : (t103 == 3) = true := beq_iff_eq.mpr c6
        have c6b1 : (t103 != 3) = false := bne_eq_false_iff_eq.mpr c6
        clear c6
        replace H := Option.bind_eq_some_iff.mp H
        obtain ⟨t104, A70, H⟩ := H
        replace H : (some (t104 == 5)) = some r := H
        have A7 := Aside0.mk A70
        clear A70
        obtain rfl := Option.some.inj H
        go_enter Tryd.func15, Tryd.ntmps15
        go_wp2_with (first | ((with_reducible refine gate_callee (f := 36) rfl ?_); refine goesL_ (some 1) rfl rfl Tryd.func36 (by kernel_rfl) rfl #[.string (⟨#[97, 98, 10, 10, 99, 100]⟩ : ByteArray)] rfl (by (try simp only [List.map_toArray, List.map_cons, List.map_nil]); first | done | rfl | (simp only [List.length_drop, List.length_take]; rfl)) ?_; (with_reducible refine (line_Count.calls (⟨#[97, 98, 10, 10, 99, 100]⟩ : ByteArray) t101 _ A1.out).mono ?_); rintro e w8 ⟨rfl, hb⟩; refine ⟨_, rfl, ?_⟩; have n0_ := Aside0.mk (below_step (by repeat (first | (with_reducible first | exact HB.out | apply below_alloc | apply pw_below_drewN | apply below_drew1) | exact HB.out)) hb); clear HB; have HB := n0_; clear n0_; (try clear hb); (try clear hb2); (try clear hk); (try clear hi)) | (go_at_call 18; (with_reducible refine (line_Clamp.calls (⟨#[97, 98, 10, 10, 99, 100]⟩ : ByteArray) 2 t102 _ A3.out).mono ?_); rintro e w9 ⟨rfl, hb⟩; have n0_ := Aside0.mk (below_step (by repeat (first | (with_reducible first | exact HB.out | apply below_alloc | apply pw_below_drewN | apply below_drew1) | exact HB.out)) hb); clear HB; have HB := n0_; clear n0_; (try clear hb); (try clear hb2); (try clear hk); (try clear hi)) | (go_at_call 18; (with_reducible refine (line_Clamp.calls (⟨#[97, 98, 10, 10, 99, 100]⟩ : ByteArray) 3 t103 _ A5.out).mono ?_); rintro e w10 ⟨rfl, hb⟩; have n0_ := Aside0.mk (below_step (by repeat (first | (with_reducible first | exact HB.out | apply below_alloc | apply pw_below_drewN | apply below_drew1) | exact HB.out)) hb); clear HB; have HB := n0_; clear n0_; (try clear hb); (try clear hb2); (try clear hk); (try clear hi)) | (go_at_call 18; (with_reducible refine (line_Clamp.calls (⟨#[97, 98, 10, 10, 99, 100]⟩ : ByteArray) 9 t104 _ A7.out).mono ?_); rintro e w11 ⟨rfl, hb⟩; have n0_ := Aside0.mk (below_step (by repeat (first | (with_reducible first | exact HB.out | apply below_alloc | apply pw_below_drewN | apply below_drew1) | exact HB.out)) hb); clear HB; have HB := n0_; clear n0_; (try clear hb); (try clear hb2); (try clear hk); (try clear hi)))
        go_ret
        exact ⟨by first | rfl | (simp [errW_none, errW_some] <;> rfl) | (simp [*, errW_none, errW_some] <;> rfl), by repeat (first | (with_reducible first | exact HB.out | apply below_alloc | apply pw_below_drewN | apply below_drew1) | exact HB.out)⟩
      · rw [if_neg c6] at H
        have c6b0 : (t103 == 3) = false := beq_eq_false_iff_ne.mpr c6
        have c6b1 : (t103 != 3) = true := bne_iff_ne.mpr c6
        obtain rfl := Option.some.inj H
        go_enter Tryd.func15, Tryd.ntmps15
        go_wp2_with (first | ((with_reducible refine gate_callee (f := 36) rfl ?_); refine goesL_ (some 1) rfl rfl Tryd.func36 (by kernel_rfl) rfl #[.string (⟨#[97, 98, 10, 10, 99, 100]⟩ : ByteArray)] rfl (by (try simp only [List.map_toArray, List.map_cons, List.map_nil]); first | done | rfl | (simp only [List.length_drop, List.length_take]; rfl)) ?_; (with_reducible refine (line_Count.calls (⟨#[97, 98, 10, 10, 99, 100]⟩ : ByteArray) t101 _ A1.out).mono ?_); rintro e w12 ⟨rfl, hb⟩; refine ⟨_, rfl, ?_⟩; have n0_ := Aside0.mk (below_step (by repeat (first | (with_reducible first | exact HB.out | apply below_alloc | apply pw_below_drewN | apply below_drew1) | exact HB.out)) hb); clear HB; have HB := n0_; clear n0_; (try clear hb); (try clear hb2); (try clear hk); (try clear hi)) | (go_at_call 18; (with_reducible refine (line_Clamp.calls (⟨#[97, 98, 10, 10, 99, 100]⟩ : ByteArray) 2 t102 _ A3.out).mono ?_); rintro e w13 ⟨rfl, hb⟩; have n0_ := Aside0.mk (below_step (by repeat (first | (with_reducible first | exact HB.out | apply below_alloc | apply pw_below_drewN | apply below_drew1) | exact HB.out)) hb); clear HB; have HB := n0_; clear n0_; (try clear hb); (try clear hb2); (try clear hk); (try clear hi)) | (go_at_call 18; (with_reducible refine (line_Clamp.calls (⟨#[97, 98, 10, 10, 99, 100]⟩ : ByteArray) 3 t103 _ A5.out).mono ?_); rintro e w14 ⟨rfl, hb⟩; have n0_ := Aside0.mk (below_step (by repeat (first | (with_reducible first | exact HB.out | apply below_alloc | apply pw_below_drewN | apply below_drew1) | exact HB.out)) hb); clear HB; have HB := n0_; clear n0_; (try clear hb); (try clear hb2); (try clear hk); (try clear hi)))
        go_ret
        exact ⟨by first | rfl | (simp [errW_none, errW_some] <;> rfl) | (simp [*, errW_none, errW_some] <;> rfl), by repeat (first | (with_reducible first | exact HB.out | apply below_alloc | apply pw_below_drewN | apply below_drew1) | exact HB.out)⟩
    · rw [if_neg c4] at H
      have c4b0 : (t102 == 1) = false := beq_eq_false_iff_ne.mpr c4
      have c4b1 : (t102 != 1) = true := bne_iff_ne.mpr c4
      obtain rfl := Option.some.inj H
      go_enter Tryd.func15, Tryd.ntmps15
      go_wp2_with (first | ((with_reducible refine gate_callee (f := 36) rfl ?_); refine goesL_ (some 1) rfl rfl Tryd.func36 (by kernel_rfl) rfl #[.string (⟨#[97, 98, 10, 10, 99, 100]⟩ : ByteArray)] rfl (by (try simp only [List.map_toArray, List.map_cons, List.map_nil]); first | done | rfl | (simp only [List.length_drop, List.length_take]; rfl)) ?_; (with_reducible refine (line_Count.calls (⟨#[97, 98, 10, 10, 99, 100]⟩ : ByteArray) t101 _ A1.out).mono ?_); rintro e w15 ⟨rfl, hb⟩; refine ⟨_, rfl, ?_⟩; have n0_ := Aside0.mk (below_step (by repeat (first | (with_reducible first | exact HB.out | apply below_alloc | apply pw_below_drewN | apply below_drew1) | exact HB.out)) hb); clear HB; have HB := n0_; clear n0_; (try clear hb); (try clear hb2); (try clear hk); (try clear hi)) | (go_at_call 18; (with_reducible refine (line_Clamp.calls (⟨#[97, 98, 10, 10, 99, 100]⟩ : ByteArray) 2 t102 _ A3.out).mono ?_); rintro e w16 ⟨rfl, hb⟩; have n0_ := Aside0.mk (below_step (by repeat (first | (with_reducible first | exact HB.out | apply below_alloc | apply pw_below_drewN | apply below_drew1) | exact HB.out)) hb); clear HB; have HB := n0_; clear n0_; (try clear hb); (try clear hb2); (try clear hk); (try clear hi)))
      go_ret
      exact ⟨by first | rfl | (simp [errW_none, errW_some] <;> rfl) | (simp [*, errW_none, errW_some] <;> rfl), by repeat (first | (with_reducible first | exact HB.out | apply below_alloc | apply pw_below_drewN | apply below_drew1) | exact HB.out)⟩
  · rw [if_neg c2] at H
    have c2b0 : (t101 == 3) = false := beq_eq_false_iff_ne.mpr c2
    have c2b1 : (t101 != 3) = true := bne_iff_ne.mpr c2
    obtain rfl := Option.some.inj H
    go_enter Tryd.func15, Tryd.ntmps15
    go_wp2_with (first | ((with_reducible refine gate_callee (f := 36) rfl ?_); refine goesL_ (some 1) rfl rfl Tryd.func36 (by kernel_rfl) rfl #[.string (⟨#[97, 98, 10, 10, 99, 100]⟩ : ByteArray)] rfl (by (try simp only [List.map_toArray, List.map_cons, List.map_nil]); first | done | rfl | (simp only [List.length_drop, List.length_take]; rfl)) ?_; (with_reducible refine (line_Count.calls (⟨#[97, 98, 10, 10, 99, 100]⟩ : ByteArray) t101 _ A1.out).mono ?_); rintro e w17 ⟨rfl, hb⟩; refine ⟨_, rfl, ?_⟩; have n0_ := Aside0.mk (below_step (by repeat (first | (with_reducible first | exact HB.out | apply below_alloc | apply pw_below_drewN | apply below_drew1) | exact HB.out)) hb); clear HB; have HB := n0_; clear n0_; (try clear hb); (try clear hb2); (try clear hk); (try clear hi)))
    go_ret
    exact ⟨by first | rfl | (simp [errW_none, errW_some] <;> rfl) | (simp [*, errW_none, errW_some] <;> rfl), by repeat (first | (with_reducible first | exact HB.out | apply below_alloc | apply pw_below_drewN | apply below_drew1) | exact HB.out)⟩






/-! ### calamusref04_Normal -/
def calamusref04_Normal.f (a0 : ByteArray) (a1 : Int) : Option (Bool) := (calamusref03_Place.f a0 a1).bind fun t105 => (if t105 = true then ((calamusref04_Of.f a0 a1).bind fun t106 => ((calamusref04_End.f a0 t106).bind fun t107 => (if a1 < t107 then (some true) else ((calamusref04_Start.f a0 t106).bind fun t108 => (some (t108 == a1)))))) else (some false))
set_option maxHeartbeats 8000000 in
set_option maxRecDepth 100000 in
theorem calamusref04_Normal.calls (a0 : ByteArray) (a1 : Int) (r : Bool) (w : World) (h : calamusref04_Normal.f a0 a1 = some r) :
    Calls Tryd.prog 17 #[.string a0, .int .i64 a1] w fun e w' => e = .returned (.bool r) ∧ Below w.heap.size w w' := by
  have HB := Aside0.mk (Below.refl w.heap.size w)
  have H : ((calamusref03_Place.f a0 a1).bind fun t105 => (if t105 = true then ((calamusref04_Of.f a0 a1).bind fun t106 => ((calamusref04_End.f a0 t106).bind fun t107 => (if a1 < t107 then (some true) else ((calamusref04_Start.f a0 t106).bind fun t108 => (some (t108 == a1)))))) else (some false))) = some r := h
  clear h
  replace H := Option.bind_eq_some_iff.mp H
  obtain ⟨t105, A30, H⟩ := H
  replace H : (if t105 = true then ((calamusref04_Of.f a0 a1).bind fun t106 => ((calamusref04_End.f a0 t106).bind fun t107 => (if a1 < t107 then (some true) else ((calamusref04_Start.f a0 t106).bind fun t108 => (some (t108 == a1)))))) else (some false)) = some r := H
  have A3 := Aside0.mk A30
  clear A30
  by_cases c4 : t105 = true
  · subst c4
    have H1 : ((calamusref04_Of.f a0 a1).bind fun t106 => ((calamusref04_End.f a0 t106).bind fun t107 => (if a1 < t107 then (some true) else ((calamusref04_Start.f a0 t106).bind fun t108 => (some (t108 == a1)))))) = some r := by rw [if_pos rfl] at H; exact H
    clear H
    have H := H1
    clear H1
    replace H := Option.bind_eq_some_iff.mp H
    obtain ⟨t106, A50, H⟩ := H
    replace H : ((calamusref04_End.f a0 t106).bind fun t107 => (if a1 < t107 then (some true) else ((calamusref04_Start.f a0 t106).bind fun t108 => (some (t108 == a1))))) = some r := H
    have A5 := Aside0.mk A50
    clear A50
    replace H := Option.bind_eq_some_iff.mp H
    obtain ⟨t107, A60, H⟩ := H
    replace H : (if a1 < t107 then (some true) else ((calamusref04_Start.f a0 t106).bind fun t108 => (some (t108 == a1)))) = some r := H
    have A6 := Aside0.mk A60
    clear A60
    by_cases c7 : a1 < t107
    · rw [if_pos c7] at H
      have c7b0 : decide (a1 < t107) = true := decide_eq_true c7
      clear c7
      obtain rfl := Option.some.inj H
      go_enter Tryd.func17, Tryd.ntmps17
      go_wp2_with (first | ((with_reducible refine gate_callee (f := 40) rfl ?_); refine goesL_ (some 8) rfl rfl Tryd.func40 (by kernel_rfl) rfl #[.string a0, .int .i64 a1] rfl (by (try simp only [List.map_toArray, List.map_cons, List.map_nil]); first | done | rfl | (simp only [List.length_drop, List.length_take]; rfl)) ?_; (with_reducible refine (calamusref03_Place.calls a0 a1 true _ A3.out).mono ?_); rintro e w8 ⟨rfl, hb⟩; refine ⟨_, rfl, ?_⟩; have n0_ := Aside0.mk (below_step (by repeat (first | (with_reducible first | exact HB.out | apply below_alloc | apply pw_below_drewN | apply below_drew1) | exact HB.out)) hb); clear HB; have HB := n0_; clear n0_; (try clear hb); (try clear hb2); (try clear hk); (try clear hi)) | ((with_reducible refine gate_callee (f := 41) rfl ?_); refine goesL_ (some 12) rfl rfl Tryd.func41 (by kernel_rfl) rfl #[.string a0, .int .i64 a1] rfl (by (try simp only [List.map_toArray, List.map_cons, List.map_nil]); first | done | rfl | (simp only [List.length_drop, List.length_take]; rfl)) ?_; (with_reducible refine (calamusref04_Of.calls a0 a1 t106 _ A5.out).mono ?_); rintro e w9 ⟨rfl, hb⟩; refine ⟨_, rfl, ?_⟩; have n0_ := Aside0.mk (below_step (by repeat (first | (with_reducible first | exact HB.out | apply below_alloc | apply pw_below_drewN | apply below_drew1) | exact HB.out)) hb); clear HB; have HB := n0_; clear n0_; (try clear hb); (try clear hb2); (try clear hk); (try clear hi)) | ((with_reducible refine gate_callee (f := 42) rfl ?_); refine goesL_ (some 16) rfl rfl Tryd.func42 (by kernel_rfl) rfl #[.string a0, .int .i64 t106] rfl (by (try simp only [List.map_toArray, List.map_cons, List.map_nil]); first | done | rfl | (simp only [List.length_drop, List.length_take]; rfl)) ?_; (with_reducible refine (calamusref04_End.calls a0 t106 t107 _ A6.out).mono ?_); rintro e w10 ⟨rfl, hb⟩; refine ⟨_, rfl, ?_⟩; have n0_ := Aside0.mk (below_step (by repeat (first | (with_reducible first | exact HB.out | apply below_alloc | apply pw_below_drewN | apply below_drew1) | exact HB.out)) hb); clear HB; have HB := n0_; clear n0_; (try clear hb); (try clear hb2); (try clear hk); (try clear hi)))
      go_ret
      exact ⟨by first | rfl | (simp [errW_none, errW_some] <;> rfl) | (simp [*, errW_none, errW_some] <;> rfl), by repeat (first | (with_reducible first | exact HB.out | apply below_alloc | apply pw_below_drewN | apply below_drew1) | exact HB.out)⟩
    · rw [if_neg c7] at H
      have c7b0 : decide (a1 < t107) = false := decide_eq_false c7
      clear c7
      replace H := Option.bind_eq_some_iff.mp H
      obtain ⟨t108, A110, H⟩ := H
      replace H : (some (t108 == a1)) = some r := H
      have A11 := Aside0.mk A110
      clear A110
      obtain rfl := Option.some.inj H
      go_enter Tryd.func17, Tryd.ntmps17
      go_wp2_with (first | ((with_reducible refine gate_callee (f := 40) rfl ?_); refine goesL_ (some 8) rfl rfl Tryd.func40 (by kernel_rfl) rfl #[.string a0, .int .i64 a1] rfl (by (try simp only [List.map_toArray, List.map_cons, List.map_nil]); first | done | rfl | (simp only [List.length_drop, List.length_take]; rfl)) ?_; (with_reducible refine (calamusref03_Place.calls a0 a1 true _ A3.out).mono ?_); rintro e w12 ⟨rfl, hb⟩; refine ⟨_, rfl, ?_⟩; have n0_ := Aside0.mk (below_step (by repeat (first | (with_reducible first | exact HB.out | apply below_alloc | apply pw_below_drewN | apply below_drew1) | exact HB.out)) hb); clear HB; have HB := n0_; clear n0_; (try clear hb); (try clear hb2); (try clear hk); (try clear hi)) | ((with_reducible refine gate_callee (f := 41) rfl ?_); refine goesL_ (some 12) rfl rfl Tryd.func41 (by kernel_rfl) rfl #[.string a0, .int .i64 a1] rfl (by (try simp only [List.map_toArray, List.map_cons, List.map_nil]); first | done | rfl | (simp only [List.length_drop, List.length_take]; rfl)) ?_; (with_reducible refine (calamusref04_Of.calls a0 a1 t106 _ A5.out).mono ?_); rintro e w13 ⟨rfl, hb⟩; refine ⟨_, rfl, ?_⟩; have n0_ := Aside0.mk (below_step (by repeat (first | (with_reducible first | exact HB.out | apply below_alloc | apply pw_below_drewN | apply below_drew1) | exact HB.out)) hb); clear HB; have HB := n0_; clear n0_; (try clear hb); (try clear hb2); (try clear hk); (try clear hi)) | ((with_reducible refine gate_callee (f := 42) rfl ?_); refine goesL_ (some 16) rfl rfl Tryd.func42 (by kernel_rfl) rfl #[.string a0, .int .i64 t106] rfl (by (try simp only [List.map_toArray, List.map_cons, List.map_nil]); first | done | rfl | (simp only [List.length_drop, List.length_take]; rfl)) ?_; (with_reducible refine (calamusref04_End.calls a0 t106 t107 _ A6.out).mono ?_); rintro e w14 ⟨rfl, hb⟩; refine ⟨_, rfl, ?_⟩; have n0_ := Aside0.mk (below_step (by repeat (first | (with_reducible first | exact HB.out | apply below_alloc | apply pw_below_drewN | apply below_drew1) | exact HB.out)) hb); clear HB; have HB := n0_; clear n0_; (try clear hb); (try clear hb2); (try clear hk); (try clear hi)) | (go_at_call 43; (with_reducible refine (calamusref04_Start.calls a0 t106 t108 _ A11.out).mono ?_); rintro e w15 ⟨rfl, hb⟩; have n0_ := Aside0.mk (below_step (by repeat (first | (with_reducible first | exact HB.out | apply below_alloc | apply pw_below_drewN | apply below_drew1) | exact HB.out)) hb); clear HB; have HB := n0_; clear n0_; (try clear hb); (try clear hb2); (try clear hk); (try clear hi)))
      go_ret
      exact ⟨by first | rfl | (simp [errW_none, errW_some] <;> rfl) | (simp [*, errW_none, errW_some] <;> rfl), by repeat (first | (with_reducible first | exact HB.out | apply below_alloc | apply pw_below_drewN | apply below_drew1) | exact HB.out)⟩
  · replace c4 := Bool.eq_false_iff.mpr c4
    subst c4
    have H1 : (some false) = some r := by rw [if_neg (show ¬ (false = true) by decide)] at H; exact H
    clear H
    have H := H1
    clear H1
    obtain rfl := Option.some.inj H
    go_enter Tryd.func17, Tryd.ntmps17
    go_wp2_with (first | ((with_reducible refine gate_callee (f := 40) rfl ?_); refine goesL_ (some 8) rfl rfl Tryd.func40 (by kernel_rfl) rfl #[.string a0, .int .i64 a1] rfl (by (try simp only [List.map_toArray, List.map_cons, List.map_nil]); first | done | rfl | (simp only [List.length_drop, List.length_take]; rfl)) ?_; (with_reducible refine (calamusref03_Place.calls a0 a1 false _ A3.out).mono ?_); rintro e w16 ⟨rfl, hb⟩; refine ⟨_, rfl, ?_⟩; have n0_ := Aside0.mk (below_step (by repeat (first | (with_reducible first | exact HB.out | apply below_alloc | apply pw_below_drewN | apply below_drew1) | exact HB.out)) hb); clear HB; have HB := n0_; clear n0_; (try clear hb); (try clear hb2); (try clear hk); (try clear hi)))
    go_ret
    exact ⟨by first | rfl | (simp [errW_none, errW_some] <;> rfl) | (simp [*, errW_none, errW_some] <;> rfl), by repeat (first | (with_reducible first | exact HB.out | apply below_alloc | apply pw_below_drewN | apply below_drew1) | exact HB.out)⟩



/-! ### calamusref04_Clamp -/
mutual
def calamusref04_Clamp.j0 : Nat → ByteArray → Int → Option (Int)
  | 0, _, _ => none
  | k + 1, x0, x1 => if x1 > (x0.size : Int) then (calamusref04_Clamp.j1 k x0 (x0.size : Int)) else (calamusref04_Clamp.j1 k x0 x1)
def calamusref04_Clamp.j1 : Nat → ByteArray → Int → Option (Int)
  | 0, _, _ => none
  | k + 1, x0, x1 => calamusref04_Clamp.l0 k x0 x1
def calamusref04_Clamp.l0 : Nat → ByteArray → Int → Option (Int)
  | 0, _, _ => none
  | k + 1, x0, x1 => (calamusref03_Place.f x0 x1).bind fun t110 => (if t110 = true then ((calamusref04_Normal.f x0 x1).bind fun t111 => (if t111 = true then (some x1) else ((calamusref03_Prev.f x0 x1).bind fun t112 => (some t112)))) else (calamusref04_Clamp.l0 k x0 (wrap64 (x1 - 1))))
end
def calamusref04_Clamp.f (k : Nat) (a0 : ByteArray) (a1 : Int) : Option (Int) := (calamusref03_Valid.f a0).bind fun t109 => (if t109 = true then (if a1 < 0 then (calamusref04_Clamp.j0 k a0 0) else (calamusref04_Clamp.j0 k a0 a1)) else (some 0))
theorem calamusref04_Clamp.mono_l : ∀ k, (∀ y0 y1, LeO (calamusref04_Clamp.j0 k y0 y1) (calamusref04_Clamp.j0 (k + 1) y0 y1)) ∧ (∀ y0 y1, LeO (calamusref04_Clamp.j1 k y0 y1) (calamusref04_Clamp.j1 (k + 1) y0 y1)) ∧ (∀ y0 y1, LeO (calamusref04_Clamp.l0 k y0 y1) (calamusref04_Clamp.l0 (k + 1) y0 y1))
  | 0 => ⟨fun _ _ r h => by simp [calamusref04_Clamp.j0] at h, fun _ _ r h => by simp [calamusref04_Clamp.j1] at h, fun _ _ r h => by simp [calamusref04_Clamp.l0] at h⟩
  | k + 1 => by
    obtain ⟨ih0, ih1, ih2⟩ := calamusref04_Clamp.mono_l k
    refine ⟨?_, ?_, ?_⟩
    · intro y0 y1
      unfold calamusref04_Clamp.j0
      repeat' first
      | (with_reducible exact ih0 _ _)
      | (with_reducible exact ih1 _ _)
      | (with_reducible exact ih2 _ _)
      | (with_reducible exact LeO.refl _)
      | (with_reducible exact LeO.none _)
      | (with_reducible refine LeO.ite ?_ ?_)
      | (with_reducible refine LeO.bind ?_ (fun _ => ?_))
      | exact ih0 _ _
      | exact ih1 _ _
      | exact ih2 _ _
      | exact LeO.none _
      | refine LeO.ite ?_ ?_
      | refine LeO.bind ?_ (fun _ => ?_)
    · intro y0 y1
      unfold calamusref04_Clamp.j1
      repeat' first
      | (with_reducible exact ih0 _ _)
      | (with_reducible exact ih1 _ _)
      | (with_reducible exact ih2 _ _)
      | (with_reducible exact LeO.refl _)
      | (with_reducible exact LeO.none _)
      | (with_reducible refine LeO.ite ?_ ?_)
      | (with_reducible refine LeO.bind ?_ (fun _ => ?_))
      | exact ih0 _ _
      | exact ih1 _ _
      | exact ih2 _ _
      | exact LeO.none _
      | refine LeO.ite ?_ ?_
      | refine LeO.bind ?_ (fun _ => ?_)
    · intro y0 y1
      unfold calamusref04_Clamp.l0
      repeat' first
      | (with_reducible exact ih0 _ _)
      | (with_reducible exact ih1 _ _)
      | (with_reducible exact ih2 _ _)
      | (with_reducible exact LeO.refl _)
      | (with_reducible exact LeO.none _)
      | (with_reducible refine LeO.ite ?_ ?_)
      | (with_reducible refine LeO.bind ?_ (fun _ => ?_))
      | exact ih0 _ _
      | exact ih1 _ _
      | exact ih2 _ _
      | exact LeO.none _
      | refine LeO.ite ?_ ?_
      | refine LeO.bind ?_ (fun _ => ?_)
theorem calamusref04_Clamp.mono : ∀ a0 a1 k, LeO (calamusref04_Clamp.f k a0 a1) (calamusref04_Clamp.f (k + 1) a0 a1) := by
  intro a0 a1 k
  obtain ⟨ih0, ih1, ih2⟩ := calamusref04_Clamp.mono_l k
  unfold calamusref04_Clamp.f
  repeat' first
      | (with_reducible exact ih0 _ _)
      | (with_reducible exact ih1 _ _)
      | (with_reducible exact ih2 _ _)
      | (with_reducible exact LeO.refl _)
      | (with_reducible exact LeO.none _)
      | (with_reducible refine LeO.ite ?_ ?_)
      | (with_reducible refine LeO.bind ?_ (fun _ => ?_))
      | exact ih0 _ _
      | exact ih1 _ _
      | exact ih2 _ _
      | exact LeO.none _
      | refine LeO.ite ?_ ?_
      | refine LeO.bind ?_ (fun _ => ?_)
set_option maxHeartbeats 8000000 in
set_option maxRecDepth 100000 in
theorem calamusref04_Clamp.calls (k : Nat) (a0 : ByteArray) (a1 : Int) (r : Int) (w : World) (h : calamusref04_Clamp.f k a0 a1 = some r) :
    Calls Tryd.prog 19 #[.string a0, .int .i64 a1] w fun e w' => e = .returned (.int .i64 r) ∧ Below w.heap.size w w' := by
  have HB := Aside0.mk (Below.refl w.heap.size w)
  have H : ((calamusref03_Valid.f a0).bind fun t109 => (if t109 = true then (if a1 < 0 then (calamusref04_Clamp.j0 k a0 0) else (calamusref04_Clamp.j0 k a0 a1)) else (some 0))) = some r := h
  clear h
  replace H := Option.bind_eq_some_iff.mp H
  obtain ⟨t109, A30, H⟩ := H
  replace H : (if t109 = true then (if a1 < 0 then (calamusref04_Clamp.j0 k a0 0) else (calamusref04_Clamp.j0 k a0 a1)) else (some 0)) = some r := H
  have A3 := Aside0.mk A30
  clear A30
  by_cases c4 : t109 = true
  · subst c4
    have H1 : (if a1 < 0 then (calamusref04_Clamp.j0 k a0 0) else (calamusref04_Clamp.j0 k a0 a1)) = some r := by rw [if_pos rfl] at H; exact H
    clear H
    have H := H1
    clear H1
    have HC5 := Aside0.mk H
    clear H
    go_enter Tryd.func19, Tryd.ntmps19
    go_upto_if 9 with (first | ((with_reducible refine gate_callee (f := 45) rfl ?_); refine goesL_ (some 6) rfl rfl Tryd.func45 (by kernel_rfl) rfl #[.string a0] rfl (by (try simp only [List.map_toArray, List.map_cons, List.map_nil]); first | done | rfl | (simp only [List.length_drop, List.length_take]; rfl)) ?_; (with_reducible refine (calamusref03_Valid.calls a0 true _ A3.out).mono ?_); rintro e w6 ⟨rfl, hb⟩; refine ⟨_, rfl, ?_⟩; have n0_ := Aside0.mk (below_step (by repeat (first | (with_reducible first | exact HB.out | apply below_alloc | apply pw_below_drewN | apply below_drew1) | exact HB.out)) hb); clear HB; have HB := n0_; clear n0_; (try clear hb); (try clear hb2); (try clear hk); (try clear hi)))
    (try simp only [Act.put, List.setIfInBounds_toArray, List.set_cons_zero, List.set_cons_succ])
    go_cut [1] (fun v1 wc => ∃ (kq : Nat) (x1_4 : Int), v1 = .int .i64 x1_4 ∧ Aside0 (calamusref04_Clamp.j0 kq a0 x1_4 = some r) ∧ Aside0 (kq ≤ k) ∧ Aside0 (Below w.heap.size w wc))
    case first =>
      have H := HC5.out
      clear HC5
      by_cases c7 : a1 < 0
      · rw [if_pos c7] at H
        have c7b0 : decide (a1 < 0) = true := decide_eq_true c7
        clear c7
        (first | rw [c7b0] | (simp only [i64_w, i32_w]; rw [c7b0]) | skip)
        have H' := Aside0.mk H
        clear H
        go_wp2
        go_meet
        case rel => exact ⟨_, (0), (by first | rfl | (simp; done) | (simp [*]; done)), H', ⟨by first | omega | exact Nat.le_refl _⟩, ⟨by repeat (first | (with_reducible first | exact HB.out | apply below_alloc | apply pw_below_drewN | apply below_drew1) | exact HB.out)⟩⟩
      · rw [if_neg c7] at H
        have c7b0 : decide (a1 < 0) = false := decide_eq_false c7
        clear c7
        (first | rw [c7b0] | (simp only [i64_w, i32_w]; rw [c7b0]) | skip)
        have H' := Aside0.mk H
        clear H
        go_wp2
        go_meet
        case rel => exact ⟨_, (a1), (by first | rfl | (simp; done) | (simp [*]; done)), H', ⟨by first | omega | exact Nat.le_refl _⟩, ⟨by repeat (first | (with_reducible first | exact HB.out | apply below_alloc | apply pw_below_drewN | apply below_drew1) | exact HB.out)⟩⟩
    case rest =>
      clear HC5
      try clear c1
      try clear p2
      try clear c4
      try clear c7
      try clear c7b0
      obtain ⟨kq, x1_4, rfl, HA, HJ4, HB⟩ := hcut
      cases kq with
      | zero => exact absurd HA.out (by simp [calamusref04_Clamp.j0])
      | succ kj4 =>
        have H := HA.out
        clear HA
        simp only [calamusref04_Clamp.j0] at H
        have HC8 := Aside0.mk H
        clear H
        go_upto_if 13 with (fail)
        go_cut [1] (fun v1 wc => ∃ (kq : Nat) (x1_7 : Int), v1 = .int .i64 x1_7 ∧ Aside0 (calamusref04_Clamp.j1 kq a0 x1_7 = some r) ∧ Aside0 (kq ≤ kj4) ∧ Aside0 (Below w.heap.size w wc))
        case first =>
          have H := HC8.out
          clear HC8
          by_cases c9 : x1_4 > (a0.size : Int)
          · rw [if_pos c9] at H
            have c9b0 : decide ((a0.size : Int) < x1_4) = true := decide_eq_true c9
            clear c9
            (first | rw [c9b0] | (simp only [i64_w, i32_w]; rw [c9b0]) | skip)
            have H' := Aside0.mk H
            clear H
            go_wp2
            go_meet
            case rel => exact ⟨_, ((a0.size : Int)), (by first | rfl | (simp; done) | (simp [*]; done)), H', ⟨by have := HJ4.out; first | omega | exact Nat.le_refl _⟩, ⟨by repeat (first | (with_reducible first | exact HB.out | apply below_alloc | apply pw_below_drewN | apply below_drew1) | exact HB.out)⟩⟩
          · rw [if_neg c9] at H
            have c9b0 : decide ((a0.size : Int) < x1_4) = false := decide_eq_false c9
            clear c9
            (first | rw [c9b0] | (simp only [i64_w, i32_w]; rw [c9b0]) | skip)
            have H' := Aside0.mk H
            clear H
            go_wp2
            go_meet
            case rel => exact ⟨_, (x1_4), (by first | rfl | (simp; done) | (simp [*]; done)), H', ⟨by have := HJ4.out; first | omega | exact Nat.le_refl _⟩, ⟨by repeat (first | (with_reducible first | exact HB.out | apply below_alloc | apply pw_below_drewN | apply below_drew1) | exact HB.out)⟩⟩
        case rest =>
          clear HC8
          try clear c1
          try clear p2
          try clear c4
          try clear c7
          try clear c7b0
          try clear c9
          try clear c9b0
          try clear p2
          obtain ⟨kq, x1_7, rfl, HA, HJ7, HB⟩ := hcut
          cases kq with
          | zero => exact absurd HA.out (by simp [calamusref04_Clamp.j1])
          | succ kj7 =>
            have H := HA.out
            clear HA
            simp only [calamusref04_Clamp.j1] at H
            have H' := Aside0.mk H
            clear H
            go_wp2
            go_loopg [1] kj7 (fun kq v1 w' => ∃ (x1_3 : Int), v1 = .int .i64 x1_3 ∧ Aside0 (calamusref04_Clamp.l0 kq a0 x1_3 = some r) ∧ Aside0 (kq ≤ kj7) ∧ Aside0 (Below w.heap.size w w'))
            case atStart => exact ⟨(x1_7), (by first | rfl | (simp; done) | (simp [*]; done)), H', ⟨Nat.le_refl _⟩, ⟨by repeat (first | (with_reducible first | exact HB.out | apply below_alloc | apply pw_below_drewN | apply below_drew1) | exact HB.out)⟩⟩
            case round =>
              clear H'
              try clear c1
              try clear p2
              try clear c4
              try clear c7
              try clear c7b0
              try clear c9
              try clear c9b0
              try clear p2
              obtain ⟨x1_3, rfl, HA, HK3, HB⟩ := hrel
              cases gk with
              | zero => exact absurd HA.out (by simp [calamusref04_Clamp.l0])
              | succ k3 =>
                have H := HA.out
                clear HA
                simp only [calamusref04_Clamp.l0] at H
                replace H := Option.bind_eq_some_iff.mp H
                obtain ⟨t110, A100, H⟩ := H
                replace H : (if t110 = true then ((calamusref04_Normal.f a0 x1_3).bind fun t111 => (if t111 = true then (some x1_3) else ((calamusref03_Prev.f a0 x1_3).bind fun t112 => (some t112)))) else (calamusref04_Clamp.l0 k3 a0 (wrap64 (x1_3 - 1)))) = some r := H
                have A10 := Aside0.mk A100
                clear A100
                by_cases c11 : t110 = true
                · subst c11
                  have H1 : ((calamusref04_Normal.f a0 x1_3).bind fun t111 => (if t111 = true then (some x1_3) else ((calamusref03_Prev.f a0 x1_3).bind fun t112 => (some t112)))) = some r := by rw [if_pos rfl] at H; exact H
                  clear H
                  have H := H1
                  clear H1
                  replace H := Option.bind_eq_some_iff.mp H
                  obtain ⟨t111, A120, H⟩ := H
                  replace H : (if t111 = true then (some x1_3) else ((calamusref03_Prev.f a0 x1_3).bind fun t112 => (some t112))) = some r := H
                  have A12 := Aside0.mk A120
                  clear A120
                  by_cases c13 : t111 = true
                  · subst c13
                    have H1 : (some x1_3) = some r := by rw [if_pos rfl] at H; exact H
                    clear H
                    have H := H1
                    clear H1
                    obtain rfl := Option.some.inj H
                    go_wp2_with (first | ((with_reducible refine gate_callee (f := 40) rfl ?_); refine goesL_ (some 18) rfl rfl Tryd.func40 (by kernel_rfl) rfl #[.string a0, .int .i64 x1_3] rfl (by (try simp only [List.map_toArray, List.map_cons, List.map_nil]); first | done | rfl | (simp only [List.length_drop, List.length_take]; rfl)) ?_; (with_reducible refine (calamusref03_Place.calls a0 x1_3 true _ A10.out).mono ?_); rintro e w14 ⟨rfl, hb⟩; refine ⟨_, rfl, ?_⟩; have n0_ := Aside0.mk (below_step (by repeat (first | (with_reducible first | exact HB.out | apply below_alloc | apply pw_below_drewN | apply below_drew1) | exact HB.out)) hb); clear HB; have HB := n0_; clear n0_; (try clear hb); (try clear hb2); (try clear hk); (try clear hi)) | ((with_reducible refine gate_callee (f := 17) rfl ?_); refine goesL_ (some 24) rfl rfl Tryd.func17 (by kernel_rfl) rfl #[.string a0, .int .i64 x1_3] rfl (by (try simp only [List.map_toArray, List.map_cons, List.map_nil]); first | done | rfl | (simp only [List.length_drop, List.length_take]; rfl)) ?_; (with_reducible refine (calamusref04_Normal.calls a0 x1_3 true _ A12.out).mono ?_); rintro e w15 ⟨rfl, hb⟩; refine ⟨_, rfl, ?_⟩; have n0_ := Aside0.mk (below_step (by repeat (first | (with_reducible first | exact HB.out | apply below_alloc | apply pw_below_drewN | apply below_drew1) | exact HB.out)) hb); clear HB; have HB := n0_; clear n0_; (try clear hb); (try clear hb2); (try clear hk); (try clear hi)))
                    go_ret
                    exact ⟨by first | rfl | (simp [errW_none, errW_some] <;> rfl) | (simp [*, errW_none, errW_some] <;> rfl), by repeat (first | (with_reducible first | exact HB.out | apply below_alloc | apply pw_below_drewN | apply below_drew1) | exact HB.out)⟩
                  · replace c13 := Bool.eq_false_iff.mpr c13
                    subst c13
                    have H1 : ((calamusref03_Prev.f a0 x1_3).bind fun t112 => (some t112)) = some r := by rw [if_neg (show ¬ (false = true) by decide)] at H; exact H
                    clear H
                    have H := H1
                    clear H1
                    replace H := Option.bind_eq_some_iff.mp H
                    obtain ⟨t112, A160, H⟩ := H
                    replace H : (some t112) = some r := H
                    have A16 := Aside0.mk A160
                    clear A160
                    obtain rfl := Option.some.inj H
                    go_wp2_with (first | ((with_reducible refine gate_callee (f := 40) rfl ?_); refine goesL_ (some 18) rfl rfl Tryd.func40 (by kernel_rfl) rfl #[.string a0, .int .i64 x1_3] rfl (by (try simp only [List.map_toArray, List.map_cons, List.map_nil]); first | done | rfl | (simp only [List.length_drop, List.length_take]; rfl)) ?_; (with_reducible refine (calamusref03_Place.calls a0 x1_3 true _ A10.out).mono ?_); rintro e w17 ⟨rfl, hb⟩; refine ⟨_, rfl, ?_⟩; have n0_ := Aside0.mk (below_step (by repeat (first | (with_reducible first | exact HB.out | apply below_alloc | apply pw_below_drewN | apply below_drew1) | exact HB.out)) hb); clear HB; have HB := n0_; clear n0_; (try clear hb); (try clear hb2); (try clear hk); (try clear hi)) | ((with_reducible refine gate_callee (f := 17) rfl ?_); refine goesL_ (some 24) rfl rfl Tryd.func17 (by kernel_rfl) rfl #[.string a0, .int .i64 x1_3] rfl (by (try simp only [List.map_toArray, List.map_cons, List.map_nil]); first | done | rfl | (simp only [List.length_drop, List.length_take]; rfl)) ?_; (with_reducible refine (calamusref04_Normal.calls a0 x1_3 false _ A12.out).mono ?_); rintro e w18 ⟨rfl, hb⟩; refine ⟨_, rfl, ?_⟩; have n0_ := Aside0.mk (below_step (by repeat (first | (with_reducible first | exact HB.out | apply below_alloc | apply pw_below_drewN | apply below_drew1) | exact HB.out)) hb); clear HB; have HB := n0_; clear n0_; (try clear hb); (try clear hb2); (try clear hk); (try clear hi)) | ((with_reducible refine gate_callee (f := 46) rfl ?_); refine goesL_ (some 28) rfl rfl Tryd.func46 (by kernel_rfl) rfl #[.string a0, .int .i64 x1_3] rfl (by (try simp only [List.map_toArray, List.map_cons, List.map_nil]); first | done | rfl | (simp only [List.length_drop, List.length_take]; rfl)) ?_; (with_reducible refine (calamusref03_Prev.calls a0 x1_3 t112 _ A16.out).mono ?_); rintro e w19 ⟨rfl, hb⟩; refine ⟨_, rfl, ?_⟩; have n0_ := Aside0.mk (below_step (by repeat (first | (with_reducible first | exact HB.out | apply below_alloc | apply pw_below_drewN | apply below_drew1) | exact HB.out)) hb); clear HB; have HB := n0_; clear n0_; (try clear hb); (try clear hb2); (try clear hk); (try clear hi)))
                    go_ret
                    exact ⟨by first | rfl | (simp [errW_none, errW_some] <;> rfl) | (simp [*, errW_none, errW_some] <;> rfl), by repeat (first | (with_reducible first | exact HB.out | apply below_alloc | apply pw_below_drewN | apply below_drew1) | exact HB.out)⟩
                · replace c11 := Bool.eq_false_iff.mpr c11
                  subst c11
                  have H1 : (calamusref04_Clamp.l0 k3 a0 (wrap64 (x1_3 - 1))) = some r := by rw [if_neg (show ¬ (false = true) by decide)] at H; exact H
                  clear H
                  have H := H1
                  clear H1
                  have H' := Aside0.mk H
                  clear H
                  go_wp2_with (first | ((with_reducible refine gate_callee (f := 40) rfl ?_); refine goesL_ (some 18) rfl rfl Tryd.func40 (by kernel_rfl) rfl #[.string a0, .int .i64 x1_3] rfl (by (try simp only [List.map_toArray, List.map_cons, List.map_nil]); first | done | rfl | (simp only [List.length_drop, List.length_take]; rfl)) ?_; (with_reducible refine (calamusref03_Place.calls a0 x1_3 false _ A10.out).mono ?_); rintro e w20 ⟨rfl, hb⟩; refine ⟨_, rfl, ?_⟩; have n0_ := Aside0.mk (below_step (by repeat (first | (with_reducible first | exact HB.out | apply below_alloc | apply pw_below_drewN | apply below_drew1) | exact HB.out)) hb); clear HB; have HB := n0_; clear n0_; (try clear hb); (try clear hb2); (try clear hk); (try clear hi)))
                  go_roundg k3
                  case measure => have := HJ4.out; have := HJ7.out; have := HK3.out; omega
                  case rel => exact ⟨(wrap64 (x1_3 - 1)), (by first | rfl | (simp; done) | (simp [*]; done)), H', ⟨by have := HJ4.out; have := HJ7.out; have := HK3.out; omega⟩, ⟨by repeat (first | (with_reducible first | exact HB.out | apply below_alloc | apply pw_below_drewN | apply below_drew1) | exact HB.out)⟩⟩
  · replace c4 := Bool.eq_false_iff.mpr c4
    subst c4
    have H1 : (some 0) = some r := by rw [if_neg (show ¬ (false = true) by decide)] at H; exact H
    clear H
    have H := H1
    clear H1
    obtain rfl := Option.some.inj H
    go_enter Tryd.func19, Tryd.ntmps19
    go_wp2_with (first | ((with_reducible refine gate_callee (f := 45) rfl ?_); refine goesL_ (some 6) rfl rfl Tryd.func45 (by kernel_rfl) rfl #[.string a0] rfl (by (try simp only [List.map_toArray, List.map_cons, List.map_nil]); first | done | rfl | (simp only [List.length_drop, List.length_take]; rfl)) ?_; (with_reducible refine (calamusref03_Valid.calls a0 false _ A3.out).mono ?_); rintro e w21 ⟨rfl, hb⟩; refine ⟨_, rfl, ?_⟩; have n0_ := Aside0.mk (below_step (by repeat (first | (with_reducible first | exact HB.out | apply below_alloc | apply pw_below_drewN | apply below_drew1) | exact HB.out)) hb); clear HB; have HB := n0_; clear n0_; (try clear hb); (try clear hb2); (try clear hk); (try clear hi)))
    go_ret
    exact ⟨by first | rfl | (simp [errW_none, errW_some] <;> rfl) | (simp [*, errW_none, errW_some] <;> rfl), by repeat (first | (with_reducible first | exact HB.out | apply below_alloc | apply pw_below_drewN | apply below_drew1) | exact HB.out)⟩



/-! ### line_First -/
def line_First.f (a0 : ByteArray) (a1 : Int) : Option (Int) := (line_find.f a0 a1).bind fun bt113 => (if bt113.2.2 = true then (if 0 ≤ bt113.1 then (if bt113.1 ≤ bt113.2.1 then (if bt113.2.1 ≤ (a0.size : Int) then ((strings_TrimLeft.f (a0.extract (bt113.1 : Int).toNat (bt113.2.1 : Int).toNat) (⟨#[32, 9]⟩ : ByteArray)).bind fun t116 => (if t116.toList = ([] : List UInt8) then ((line_Clamp.f a0 bt113.2.1).bind fun t117 => (some t117)) else (some (wrap64 (bt113.2.1 - (t116.size : Int)))))) else (none)) else (none)) else (none)) else (some (-1)))
set_option maxHeartbeats 8000000 in
set_option maxRecDepth 100000 in
theorem line_First.calls (a0 : ByteArray) (a1 : Int) (r : Int) (w : World) (h : line_First.f a0 a1 = some r) :
    Calls Tryd.prog 20 #[.string a0, .int .i64 a1] w fun e w' => e = .returned (.int .i64 r) ∧ Below w.heap.size w w' := by
  have HB := Aside0.mk (Below.refl w.heap.size w)
  have H : ((line_find.f a0 a1).bind fun bt113 => (if bt113.2.2 = true then (if 0 ≤ bt113.1 then (if bt113.1 ≤ bt113.2.1 then (if bt113.2.1 ≤ (a0.size : Int) then ((strings_TrimLeft.f (a0.extract (bt113.1 : Int).toNat (bt113.2.1 : Int).toNat) (⟨#[32, 9]⟩ : ByteArray)).bind fun t116 => (if t116.toList = ([] : List UInt8) then ((line_Clamp.f a0 bt113.2.1).bind fun t117 => (some t117)) else (some (wrap64 (bt113.2.1 - (t116.size : Int)))))) else (none)) else (none)) else (none)) else (some (-1)))) = some r := h
  clear h
  replace H := Option.bind_eq_some_iff.mp H
  obtain ⟨⟨t113, t114, t115⟩, A30, H⟩ := H
  replace H : (if t115 = true then (if 0 ≤ t113 then (if t113 ≤ t114 then (if t114 ≤ (a0.size : Int) then ((strings_TrimLeft.f (a0.extract (t113 : Int).toNat (t114 : Int).toNat) (⟨#[32, 9]⟩ : ByteArray)).bind fun t116 => (if t116.toList = ([] : List UInt8) then ((line_Clamp.f a0 t114).bind fun t117 => (some t117)) else (some (wrap64 (t114 - (t116.size : Int)))))) else (none)) else (none)) else (none)) else (some (-1))) = some r := H
  have A3 := Aside0.mk A30
  clear A30
  by_cases c4 : t115 = true
  · subst c4
    have H1 : (if 0 ≤ t113 then (if t113 ≤ t114 then (if t114 ≤ (a0.size : Int) then ((strings_TrimLeft.f (a0.extract (t113 : Int).toNat (t114 : Int).toNat) (⟨#[32, 9]⟩ : ByteArray)).bind fun t116 => (if t116.toList = ([] : List UInt8) then ((line_Clamp.f a0 t114).bind fun t117 => (some t117)) else (some (wrap64 (t114 - (t116.size : Int)))))) else (none)) else (none)) else (none)) = some r := by rw [if_pos rfl] at H; exact H
    clear H
    have H := H1
    clear H1
    by_cases c5 : 0 ≤ t113
    · rw [if_pos c5] at H
      have c5b0 := eq_true c5
      have c5b1 : decide (0 ≤ t113) = true := decide_eq_true c5
      clear c5
      by_cases c6 : t113 ≤ t114
      · rw [if_pos c6] at H
        have c6b0 := eq_true c6
        have c6b1 : decide (t113 ≤ t114) = true := decide_eq_true c6
        clear c6
        by_cases c7 : t114 ≤ (a0.size : Int)
        · rw [if_pos c7] at H
          have c7b0 := eq_true c7
          have c7b1 : decide (t114 ≤ (a0.size : Int)) = true := decide_eq_true c7
          clear c7
          replace H := Option.bind_eq_some_iff.mp H
          obtain ⟨t116, A80, H⟩ := H
          replace H : (if t116.toList = ([] : List UInt8) then ((line_Clamp.f a0 t114).bind fun t117 => (some t117)) else (some (wrap64 (t114 - (t116.size : Int))))) = some r := H
          have A8 := Aside0.mk A80
          clear A80
          by_cases c9 : t116.toList = ([] : List UInt8)
          · rw [if_pos c9] at H
            have c9b0 : (t116.toList == ([] : List UInt8)) = true := beq_iff_eq.mpr c9
            have c9b1 : (t116.toList != ([] : List UInt8)) = false := bne_eq_false_iff_eq.mpr c9
            clear c9
            replace H := Option.bind_eq_some_iff.mp H
            obtain ⟨t117, A100, H⟩ := H
            replace H : (some t117) = some r := H
            have A10 := Aside0.mk A100
            clear A100
            obtain rfl := Option.some.inj H
            go_enter Tryd.func20, Tryd.ntmps20
            go_wp2_with (first | ((with_reducible refine gate_callee (f := 47) rfl ?_); refine goesL_ (some 12) rfl rfl Tryd.func47 (by kernel_rfl) rfl #[.string a0, .int .i64 a1] rfl (by (try simp only [List.map_toArray, List.map_cons, List.map_nil]); first | done | rfl | (simp only [List.length_drop, List.length_take]; rfl)) ?_; (with_reducible refine (line_find.calls a0 a1 t113 t114 true _ A3.out).mono ?_); rintro e w11 ⟨rfl, hb⟩; refine ⟨_, rfl, ?_⟩; have n0_ := Aside0.mk (below_step (by repeat (first | (with_reducible first | exact HB.out | apply below_alloc | apply pw_below_drewN | apply below_drew1) | exact HB.out)) hb); clear HB; have HB := n0_; clear n0_; (try clear hb); (try clear hb2); (try clear hk); (try clear hi)) | ((with_reducible refine gate_callee (f := 34) rfl ?_); refine goesL_ (some 22) rfl rfl Tryd.func34 (by kernel_rfl) rfl #[.string (a0.extract (t113 : Int).toNat (t114 : Int).toNat), .string (⟨#[32, 9]⟩ : ByteArray)] rfl (by (try simp only [List.map_toArray, List.map_cons, List.map_nil]); first | done | rfl | (simp only [List.length_drop, List.length_take]; rfl)) ?_; (with_reducible refine (strings_TrimLeft.calls (a0.extract (t113 : Int).toNat (t114 : Int).toNat) (⟨#[32, 9]⟩ : ByteArray) t116 _ A8.out).mono ?_); rintro e w12 ⟨rfl, hb⟩; refine ⟨_, rfl, ?_⟩; have n0_ := Aside0.mk (below_step (by repeat (first | (with_reducible first | exact HB.out | apply below_alloc | apply pw_below_drewN | apply below_drew1) | exact HB.out)) hb); clear HB; have HB := n0_; clear n0_; (try clear hb); (try clear hb2); (try clear hk); (try clear hi)) | ((with_reducible refine gate_callee (f := 18) rfl ?_); refine goesL_ (some 27) rfl rfl Tryd.func18 (by kernel_rfl) rfl #[.string a0, .int .i64 t114] rfl (by (try simp only [List.map_toArray, List.map_cons, List.map_nil]); first | done | rfl | (simp only [List.length_drop, List.length_take]; rfl)) ?_; (with_reducible refine (line_Clamp.calls a0 t114 t117 _ A10.out).mono ?_); rintro e w13 ⟨rfl, hb⟩; refine ⟨_, rfl, ?_⟩; have n0_ := Aside0.mk (below_step (by repeat (first | (with_reducible first | exact HB.out | apply below_alloc | apply pw_below_drewN | apply below_drew1) | exact HB.out)) hb); clear HB; have HB := n0_; clear n0_; (try clear hb); (try clear hb2); (try clear hk); (try clear hi)))
            go_ret
            exact ⟨by first | rfl | (simp [errW_none, errW_some] <;> rfl) | (simp [*, errW_none, errW_some] <;> rfl), by repeat (first | (with_reducible first | exact HB.out | apply below_alloc | apply pw_below_drewN | apply below_drew1) | exact HB.out)⟩
          · rw [if_neg c9] at H
            have c9b0 : (t116.toList == ([] : List UInt8)) = false := beq_eq_false_iff_ne.mpr c9
            have c9b1 : (t116.toList != ([] : List UInt8)) = true := bne_iff_ne.mpr c9
            obtain rfl := Option.some.inj H
            go_enter Tryd.func20, Tryd.ntmps20
            go_wp2_with (first | ((with_reducible refine gate_callee (f := 47) rfl ?_); refine goesL_ (some 12) rfl rfl Tryd.func47 (by kernel_rfl) rfl #[.string a0, .int .i64 a1] rfl (by (try simp only [List.map_toArray, List.map_cons, List.map_nil]); first | done | rfl | (simp only [List.length_drop, List.length_take]; rfl)) ?_; (with_reducible refine (line_find.calls a0 a1 t113 t114 true _ A3.out).mono ?_); rintro e w14 ⟨rfl, hb⟩; refine ⟨_, rfl, ?_⟩; have n0_ := Aside0.mk (below_step (by repeat (first | (with_reducible first | exact HB.out | apply below_alloc | apply pw_below_drewN | apply below_drew1) | exact HB.out)) hb); clear HB; have HB := n0_; clear n0_; (try clear hb); (try clear hb2); (try clear hk); (try clear hi)) | ((with_reducible refine gate_callee (f := 34) rfl ?_); refine goesL_ (some 22) rfl rfl Tryd.func34 (by kernel_rfl) rfl #[.string (a0.extract (t113 : Int).toNat (t114 : Int).toNat), .string (⟨#[32, 9]⟩ : ByteArray)] rfl (by (try simp only [List.map_toArray, List.map_cons, List.map_nil]); first | done | rfl | (simp only [List.length_drop, List.length_take]; rfl)) ?_; (with_reducible refine (strings_TrimLeft.calls (a0.extract (t113 : Int).toNat (t114 : Int).toNat) (⟨#[32, 9]⟩ : ByteArray) t116 _ A8.out).mono ?_); rintro e w15 ⟨rfl, hb⟩; refine ⟨_, rfl, ?_⟩; have n0_ := Aside0.mk (below_step (by repeat (first | (with_reducible first | exact HB.out | apply below_alloc | apply pw_below_drewN | apply below_drew1) | exact HB.out)) hb); clear HB; have HB := n0_; clear n0_; (try clear hb); (try clear hb2); (try clear hk); (try clear hi)))
            go_ret
            exact ⟨by first | rfl | (simp [errW_none, errW_some] <;> rfl) | (simp [*, errW_none, errW_some] <;> rfl), by repeat (first | (with_reducible first | exact HB.out | apply below_alloc | apply pw_below_drewN | apply below_drew1) | exact HB.out)⟩
        · rw [if_neg c7] at H
          exact absurd H (by simp)
      · rw [if_neg c6] at H
        exact absurd H (by simp)
    · rw [if_neg c5] at H
      exact absurd H (by simp)
  · replace c4 := Bool.eq_false_iff.mpr c4
    subst c4
    have H1 : (some (-1)) = some r := by rw [if_neg (show ¬ (false = true) by decide)] at H; exact H
    clear H
    have H := H1
    clear H1
    obtain rfl := Option.some.inj H
    go_enter Tryd.func20, Tryd.ntmps20
    go_wp2_with (first | ((with_reducible refine gate_callee (f := 47) rfl ?_); refine goesL_ (some 12) rfl rfl Tryd.func47 (by kernel_rfl) rfl #[.string a0, .int .i64 a1] rfl (by (try simp only [List.map_toArray, List.map_cons, List.map_nil]); first | done | rfl | (simp only [List.length_drop, List.length_take]; rfl)) ?_; (with_reducible refine (line_find.calls a0 a1 t113 t114 false _ A3.out).mono ?_); rintro e w16 ⟨rfl, hb⟩; refine ⟨_, rfl, ?_⟩; have n0_ := Aside0.mk (below_step (by repeat (first | (with_reducible first | exact HB.out | apply below_alloc | apply pw_below_drewN | apply below_drew1) | exact HB.out)) hb); clear HB; have HB := n0_; clear n0_; (try clear hb); (try clear hb2); (try clear hk); (try clear hi)))
    go_ret
    exact ⟨by first | rfl | (simp [errW_none, errW_some] <;> rfl) | (simp [*, errW_none, errW_some] <;> rfl), by repeat (first | (with_reducible first | exact HB.out | apply below_alloc | apply pw_below_drewN | apply below_drew1) | exact HB.out)⟩

/-! ### calamusref04_First -/
mutual
def calamusref04_First.j1 : Nat → ByteArray → Int → Int → Option (Int)
  | 0, _, _, _ => none
  | k + 1, x0, x1, x5 => (calamusref04_End.f x0 x1).bind fun t121 => (if x5 = t121 then ((calamusref04_Clamp.f k x0 x5).bind fun t122 => (some t122)) else (some x5))
def calamusref04_First.l0 : Nat → ByteArray → Int → Int → Option (Int)
  | 0, _, _, _ => none
  | k + 1, x0, x1, x5 => (calamusref04_End.f x0 x1).bind fun t120 => (if x5 < t120 then (if 0 ≤ x5 then (if x5 < (x0.size : Int) then (if (bt x0 x5) = 32 then (calamusref04_First.l0 k x0 x1 (wrap64 (x5 + 1))) else (if (bt x0 x5) = 9 then (calamusref04_First.l0 k x0 x1 (wrap64 (x5 + 1))) else (calamusref04_First.j1 k x0 x1 x5))) else (none)) else (none)) else (calamusref04_First.j1 k x0 x1 x5))
end
def calamusref04_First.f (k : Nat) (a0 : ByteArray) (a1 : Int) : Option (Int) := (calamusref04_Start.f a0 a1).bind fun t118 => (if t118 < 0 then (some (-1)) else ((calamusref04_Start.f a0 a1).bind fun t119 => (calamusref04_First.l0 k a0 a1 t119)))
theorem calamusref04_First.mono_l : ∀ k, (∀ y0 y1 y2, LeO (calamusref04_First.j1 k y0 y1 y2) (calamusref04_First.j1 (k + 1) y0 y1 y2)) ∧ (∀ y0 y1 y2, LeO (calamusref04_First.l0 k y0 y1 y2) (calamusref04_First.l0 (k + 1) y0 y1 y2))
  | 0 => ⟨fun _ _ _ r h => by simp [calamusref04_First.j1] at h, fun _ _ _ r h => by simp [calamusref04_First.l0] at h⟩
  | k + 1 => by
    obtain ⟨ih0, ih1⟩ := calamusref04_First.mono_l k
    refine ⟨?_, ?_⟩
    · intro y0 y1 y2
      unfold calamusref04_First.j1
      repeat' first
      | (with_reducible exact ih0 _ _ _)
      | (with_reducible exact ih1 _ _ _)
      | (with_reducible exact calamusref04_Clamp.mono _ _ _)
      | (with_reducible exact LeO.refl _)
      | (with_reducible exact LeO.none _)
      | (with_reducible refine LeO.ite ?_ ?_)
      | (with_reducible refine LeO.bind ?_ (fun _ => ?_))
      | exact ih0 _ _ _
      | exact ih1 _ _ _
      | exact calamusref04_Clamp.mono _ _ _
      | exact LeO.none _
      | refine LeO.ite ?_ ?_
      | refine LeO.bind ?_ (fun _ => ?_)
    · intro y0 y1 y2
      unfold calamusref04_First.l0
      repeat' first
      | (with_reducible exact ih0 _ _ _)
      | (with_reducible exact ih1 _ _ _)
      | (with_reducible exact calamusref04_Clamp.mono _ _ _)
      | (with_reducible exact LeO.refl _)
      | (with_reducible exact LeO.none _)
      | (with_reducible refine LeO.ite ?_ ?_)
      | (with_reducible refine LeO.bind ?_ (fun _ => ?_))
      | exact ih0 _ _ _
      | exact ih1 _ _ _
      | exact calamusref04_Clamp.mono _ _ _
      | exact LeO.none _
      | refine LeO.ite ?_ ?_
      | refine LeO.bind ?_ (fun _ => ?_)
theorem calamusref04_First.mono : ∀ a0 a1 k, LeO (calamusref04_First.f k a0 a1) (calamusref04_First.f (k + 1) a0 a1) := by
  intro a0 a1 k
  obtain ⟨ih0, ih1⟩ := calamusref04_First.mono_l k
  unfold calamusref04_First.f
  repeat' first
      | (with_reducible exact ih0 _ _ _)
      | (with_reducible exact ih1 _ _ _)
      | (with_reducible exact calamusref04_Clamp.mono _ _ _)
      | (with_reducible exact LeO.refl _)
      | (with_reducible exact LeO.none _)
      | (with_reducible refine LeO.ite ?_ ?_)
      | (with_reducible refine LeO.bind ?_ (fun _ => ?_))
      | exact ih0 _ _ _
      | exact ih1 _ _ _
      | exact calamusref04_Clamp.mono _ _ _
      | exact LeO.none _
      | refine LeO.ite ?_ ?_
      | refine LeO.bind ?_ (fun _ => ?_)
set_option maxHeartbeats 8000000 in
set_option maxRecDepth 100000 in
theorem calamusref04_First.calls (k : Nat) (a0 : ByteArray) (a1 : Int) (r : Int) (w : World) (h : calamusref04_First.f k a0 a1 = some r) :
    Calls Tryd.prog 21 #[.string a0, .int .i64 a1] w fun e w' => e = .returned (.int .i64 r) ∧ Below w.heap.size w w' := by
  have HB := Aside0.mk (Below.refl w.heap.size w)
  have H : ((calamusref04_Start.f a0 a1).bind fun t118 => (if t118 < 0 then (some (-1)) else ((calamusref04_Start.f a0 a1).bind fun t119 => (calamusref04_First.l0 k a0 a1 t119)))) = some r := h
  clear h
  replace H := Option.bind_eq_some_iff.mp H
  obtain ⟨t118, A30, H⟩ := H
  replace H : (if t118 < 0 then (some (-1)) else ((calamusref04_Start.f a0 a1).bind fun t119 => (calamusref04_First.l0 k a0 a1 t119))) = some r := H
  have A3 := Aside0.mk A30
  clear A30
  by_cases c4 : t118 < 0
  · rw [if_pos c4] at H
    have c4b0 : decide (t118 < 0) = true := decide_eq_true c4
    clear c4
    obtain rfl := Option.some.inj H
    go_enter Tryd.func21, Tryd.ntmps21
    go_wp2_with (first | ((with_reducible refine gate_callee (f := 43) rfl ?_); refine goesL_ (some 8) rfl rfl Tryd.func43 (by kernel_rfl) rfl #[.string a0, .int .i64 a1] rfl (by (try simp only [List.map_toArray, List.map_cons, List.map_nil]); first | done | rfl | (simp only [List.length_drop, List.length_take]; rfl)) ?_; (with_reducible refine (calamusref04_Start.calls a0 a1 t118 _ A3.out).mono ?_); rintro e w5 ⟨rfl, hb⟩; refine ⟨_, rfl, ?_⟩; have n0_ := Aside0.mk (below_step (by repeat (first | (with_reducible first | exact HB.out | apply below_alloc | apply pw_below_drewN | apply below_drew1) | exact HB.out)) hb); clear HB; have HB := n0_; clear n0_; (try clear hb); (try clear hb2); (try clear hk); (try clear hi)))
    go_ret
    exact ⟨by first | rfl | (simp [errW_none, errW_some] <;> rfl) | (simp [*, errW_none, errW_some] <;> rfl), by repeat (first | (with_reducible first | exact HB.out | apply below_alloc | apply pw_below_drewN | apply below_drew1) | exact HB.out)⟩
  · rw [if_neg c4] at H
    have c4b0 : decide (t118 < 0) = false := decide_eq_false c4
    clear c4
    replace H := Option.bind_eq_some_iff.mp H
    obtain ⟨t119, A60, H⟩ := H
    replace H : (calamusref04_First.l0 k a0 a1 t119) = some r := H
    have A6 := Aside0.mk A60
    clear A60
    have HC7 := Aside0.mk H
    clear H
    go_enter Tryd.func21, Tryd.ntmps21
    go_upto_block 0 with (first | ((with_reducible refine gate_callee (f := 43) rfl ?_); refine goesL_ (some 8) rfl rfl Tryd.func43 (by kernel_rfl) rfl #[.string a0, .int .i64 a1] rfl (by (try simp only [List.map_toArray, List.map_cons, List.map_nil]); first | done | rfl | (simp only [List.length_drop, List.length_take]; rfl)) ?_; (with_reducible refine (calamusref04_Start.calls a0 a1 t118 _ A3.out).mono ?_); rintro e w8 ⟨rfl, hb⟩; refine ⟨_, rfl, ?_⟩; have n0_ := Aside0.mk (below_step (by repeat (first | (with_reducible first | exact HB.out | apply below_alloc | apply pw_below_drewN | apply below_drew1) | exact HB.out)) hb); clear HB; have HB := n0_; clear n0_; (try clear hb); (try clear hb2); (try clear hk); (try clear hi)) | ((with_reducible refine gate_callee (f := 43) rfl ?_); refine goesL_ (some 12) rfl rfl Tryd.func43 (by kernel_rfl) rfl #[.string a0, .int .i64 a1] rfl (by (try simp only [List.map_toArray, List.map_cons, List.map_nil]); first | done | rfl | (simp only [List.length_drop, List.length_take]; rfl)) ?_; (with_reducible refine (calamusref04_Start.calls a0 a1 t119 _ A6.out).mono ?_); rintro e w9 ⟨rfl, hb⟩; refine ⟨_, rfl, ?_⟩; have n0_ := Aside0.mk (below_step (by repeat (first | (with_reducible first | exact HB.out | apply below_alloc | apply pw_below_drewN | apply below_drew1) | exact HB.out)) hb); clear HB; have HB := n0_; clear n0_; (try clear hb); (try clear hb2); (try clear hk); (try clear hi)))
    (try simp only [Act.put, List.setIfInBounds_toArray, List.set_cons_zero, List.set_cons_succ])
    go_cut [5] (fun v5 wc => ∃ (kq : Nat) (x5_6 : Int), v5 = .int .i64 x5_6 ∧ Aside0 (calamusref04_First.j1 kq a0 a1 x5_6 = some r) ∧ Aside0 (kq ≤ k) ∧ Aside0 (Below w.heap.size w wc))
    case first =>
      have H := HC7.out
      clear HC7
      have H' := Aside0.mk H
      clear H
      go_wp2
      go_loopg [5] k (fun kq v5 w' => ∃ (x5_1 : Int), v5 = .int .i64 x5_1 ∧ Aside0 (calamusref04_First.l0 kq a0 a1 x5_1 = some r) ∧ Aside0 (kq ≤ k) ∧ Aside0 (Below w.heap.size w w'))
      case atStart => exact ⟨(t119), (by first | rfl | (simp; done) | (simp [*]; done)), H', ⟨Nat.le_refl _⟩, ⟨by repeat (first | (with_reducible first | exact HB.out | apply below_alloc | apply pw_below_drewN | apply below_drew1) | exact HB.out)⟩⟩
      case round =>
        clear H'
        try clear c2
        try clear p2
        try clear c4
        try clear c4b0
        obtain ⟨x5_1, rfl, HA, HK1, HB⟩ := hrel
        cases gk with
        | zero => exact absurd HA.out (by simp [calamusref04_First.l0])
        | succ k1 =>
          have H := HA.out
          clear HA
          simp only [calamusref04_First.l0] at H
          replace H := Option.bind_eq_some_iff.mp H
          obtain ⟨t120, A100, H⟩ := H
          replace H : (if x5_1 < t120 then (if 0 ≤ x5_1 then (if x5_1 < (a0.size : Int) then (if (bt a0 x5_1) = 32 then (calamusref04_First.l0 k1 a0 a1 (wrap64 (x5_1 + 1))) else (if (bt a0 x5_1) = 9 then (calamusref04_First.l0 k1 a0 a1 (wrap64 (x5_1 + 1))) else (calamusref04_First.j1 k1 a0 a1 x5_1))) else (none)) else (none)) else (calamusref04_First.j1 k1 a0 a1 x5_1)) = some r := H
          have A10 := Aside0.mk A100
          clear A100
          by_cases c11 : x5_1 < t120
          · rw [if_pos c11] at H
            have c11b0 : decide (x5_1 < t120) = true := decide_eq_true c11
            clear c11
            (first | rw [c11b0] | (simp only [i64_w, i32_w]; rw [c11b0]) | skip)
            by_cases c12 : 0 ≤ x5_1
            · rw [if_pos c12] at H
              have c12b0 : decide (0 ≤ x5_1) = true := decide_eq_true c12
              clear c12
              by_cases c13 : x5_1 < (a0.size : Int)
              · rw [if_pos c13] at H
                have c13b0 : decide (x5_1 < (a0.size : Int)) = true := decide_eq_true c13
                clear c13
                by_cases c15 : (bt a0 x5_1) = 32
                · rw [if_pos c15] at H
                  have c15b0 : ((bt a0 x5_1) == 32) = true := beq_iff_eq.mpr c15
                  have c15b1 : ((bt a0 x5_1) != 32) = false := bne_eq_false_iff_eq.mpr c15
                  clear c15
                  have H' := Aside0.mk H
                  clear H
                  go_wp2_with (first | ((with_reducible refine gate_callee (f := 42) rfl ?_); refine goesL_ (some 16) rfl rfl Tryd.func42 (by kernel_rfl) rfl #[.string a0, .int .i64 a1] rfl (by (try simp only [List.map_toArray, List.map_cons, List.map_nil]); first | done | rfl | (simp only [List.length_drop, List.length_take]; rfl)) ?_; (with_reducible refine (calamusref04_End.calls a0 a1 t120 _ A10.out).mono ?_); rintro e w16 ⟨rfl, hb⟩; refine ⟨_, rfl, ?_⟩; have n0_ := Aside0.mk (below_step (by repeat (first | (with_reducible first | exact HB.out | apply below_alloc | apply pw_below_drewN | apply below_drew1) | exact HB.out)) hb); clear HB; have HB := n0_; clear n0_; (try clear hb); (try clear hb2); (try clear hk); (try clear hi); have p14 : 0 ≤ (x5_1 : Int) := of_decide_eq_true (by first | (with_reducible assumption) | assumption); have q14 : x5_1 < (a0.size : Int) := of_decide_eq_true (by first | (with_reducible assumption) | assumption); have hx14 := bt_at a0 x5_1; replace p14 := eq_true p14; replace q14 := eq_true q14))
                  go_roundg k1
                  case measure => have := HK1.out; omega
                  case rel => exact ⟨(wrap64 (x5_1 + 1)), (by first | rfl | (simp; done) | (simp [*]; done)), H', ⟨by have := HK1.out; omega⟩, ⟨by repeat (first | (with_reducible first | exact HB.out | apply below_alloc | apply pw_below_drewN | apply below_drew1) | exact HB.out)⟩⟩
                · rw [if_neg c15] at H
                  have c15b0 : ((bt a0 x5_1) == 32) = false := beq_eq_false_iff_ne.mpr c15
                  have c15b1 : ((bt a0 x5_1) != 32) = true := bne_iff_ne.mpr c15
                  by_cases c18 : (bt a0 x5_1) = 9
                  · rw [if_pos c18] at H
                    have c18b0 : ((bt a0 x5_1) == 9) = true := beq_iff_eq.mpr c18
                    have c18b1 : ((bt a0 x5_1) != 9) = false := bne_eq_false_iff_eq.mpr c18
                    clear c18
                    have H' := Aside0.mk H
                    clear H
                    go_wp2_with (first | ((with_reducible refine gate_callee (f := 42) rfl ?_); refine goesL_ (some 16) rfl rfl Tryd.func42 (by kernel_rfl) rfl #[.string a0, .int .i64 a1] rfl (by (try simp only [List.map_toArray, List.map_cons, List.map_nil]); first | done | rfl | (simp only [List.length_drop, List.length_take]; rfl)) ?_; (with_reducible refine (calamusref04_End.calls a0 a1 t120 _ A10.out).mono ?_); rintro e w19 ⟨rfl, hb⟩; refine ⟨_, rfl, ?_⟩; have n0_ := Aside0.mk (below_step (by repeat (first | (with_reducible first | exact HB.out | apply below_alloc | apply pw_below_drewN | apply below_drew1) | exact HB.out)) hb); clear HB; have HB := n0_; clear n0_; (try clear hb); (try clear hb2); (try clear hk); (try clear hi); have p14 : 0 ≤ (x5_1 : Int) := of_decide_eq_true (by first | (with_reducible assumption) | assumption); have q14 : x5_1 < (a0.size : Int) := of_decide_eq_true (by first | (with_reducible assumption) | assumption); have hx14 := bt_at a0 x5_1; replace p14 := eq_true p14; replace q14 := eq_true q14; have p17 : 0 ≤ (x5_1 : Int) := of_decide_eq_true (by first | (with_reducible assumption) | assumption); have q17 : x5_1 < (a0.size : Int) := of_decide_eq_true (by first | (with_reducible assumption) | assumption); have hx17 := bt_at a0 x5_1; replace p17 := eq_true p17; replace q17 := eq_true q17))
                    go_roundg k1
                    case measure => have := HK1.out; omega
                    case rel => exact ⟨(wrap64 (x5_1 + 1)), (by first | rfl | (simp; done) | (simp [*]; done)), H', ⟨by have := HK1.out; omega⟩, ⟨by repeat (first | (with_reducible first | exact HB.out | apply below_alloc | apply pw_below_drewN | apply below_drew1) | exact HB.out)⟩⟩
                  · rw [if_neg c18] at H
                    have c18b0 : ((bt a0 x5_1) == 9) = false := beq_eq_false_iff_ne.mpr c18
                    have c18b1 : ((bt a0 x5_1) != 9) = true := bne_iff_ne.mpr c18
                    have H' := Aside0.mk H
                    clear H
                    go_wp2_with (first | ((with_reducible refine gate_callee (f := 42) rfl ?_); refine goesL_ (some 16) rfl rfl Tryd.func42 (by kernel_rfl) rfl #[.string a0, .int .i64 a1] rfl (by (try simp only [List.map_toArray, List.map_cons, List.map_nil]); first | done | rfl | (simp only [List.length_drop, List.length_take]; rfl)) ?_; (with_reducible refine (calamusref04_End.calls a0 a1 t120 _ A10.out).mono ?_); rintro e w20 ⟨rfl, hb⟩; refine ⟨_, rfl, ?_⟩; have n0_ := Aside0.mk (below_step (by repeat (first | (with_reducible first | exact HB.out | apply below_alloc | apply pw_below_drewN | apply below_drew1) | exact HB.out)) hb); clear HB; have HB := n0_; clear n0_; (try clear hb); (try clear hb2); (try clear hk); (try clear hi); have p14 : 0 ≤ (x5_1 : Int) := of_decide_eq_true (by first | (with_reducible assumption) | assumption); have q14 : x5_1 < (a0.size : Int) := of_decide_eq_true (by first | (with_reducible assumption) | assumption); have hx14 := bt_at a0 x5_1; replace p14 := eq_true p14; replace q14 := eq_true q14; have p17 : 0 ≤ (x5_1 : Int) := of_decide_eq_true (by first | (with_reducible assumption) | assumption); have q17 : x5_1 < (a0.size : Int) := of_decide_eq_true (by first | (with_reducible assumption) | assumption); have hx17 := bt_at a0 x5_1; replace p17 := eq_true p17; replace q17 := eq_true q17))
                    go_meet
                    case rel => exact ⟨_, (x5_1), (by first | rfl | (simp; done) | (simp [*]; done)), H', ⟨by have := HK1.out; first | omega | exact Nat.le_refl _⟩, ⟨by repeat (first | (with_reducible first | exact HB.out | apply below_alloc | apply pw_below_drewN | apply below_drew1) | exact HB.out)⟩⟩
              · rw [if_neg c13] at H
                exact absurd H (by simp)
            · rw [if_neg c12] at H
              exact absurd H (by simp)
          · rw [if_neg c11] at H
            have c11b0 : decide (x5_1 < t120) = false := decide_eq_false c11
            clear c11
            (first | rw [c11b0] | (simp only [i64_w, i32_w]; rw [c11b0]) | skip)
            have H' := Aside0.mk H
            clear H
            go_wp2_with (first | ((with_reducible refine gate_callee (f := 42) rfl ?_); refine goesL_ (some 16) rfl rfl Tryd.func42 (by kernel_rfl) rfl #[.string a0, .int .i64 a1] rfl (by (try simp only [List.map_toArray, List.map_cons, List.map_nil]); first | done | rfl | (simp only [List.length_drop, List.length_take]; rfl)) ?_; (with_reducible refine (calamusref04_End.calls a0 a1 t120 _ A10.out).mono ?_); rintro e w21 ⟨rfl, hb⟩; refine ⟨_, rfl, ?_⟩; have n0_ := Aside0.mk (below_step (by repeat (first | (with_reducible first | exact HB.out | apply below_alloc | apply pw_below_drewN | apply below_drew1) | exact HB.out)) hb); clear HB; have HB := n0_; clear n0_; (try clear hb); (try clear hb2); (try clear hk); (try clear hi)))
            go_meet
            case rel => exact ⟨_, (x5_1), (by first | rfl | (simp; done) | (simp [*]; done)), H', ⟨by have := HK1.out; first | omega | exact Nat.le_refl _⟩, ⟨by repeat (first | (with_reducible first | exact HB.out | apply below_alloc | apply pw_below_drewN | apply below_drew1) | exact HB.out)⟩⟩
    case rest =>
      clear HC7
      try clear c1
      try clear p1
      try clear q1
      try clear hx1
      try clear c2
      try clear p2
      try clear c4
      try clear c4b0
      try clear p6
      try clear c11
      try clear c11b0
      try clear c12
      try clear c12b0
      try clear c13
      try clear c13b0
      try clear p14
      try clear q14
      try clear hx14
      try clear c15
      try clear c15b0
      try clear c15b1
      try clear p17
      try clear q17
      try clear hx17
      try clear c18
      try clear c18b0
      try clear c18b1
      try clear c21
      try clear p14
      try clear p17
      try clear p2
      try clear q14
      try clear q17
      obtain ⟨kq, x5_6, rfl, HA, HJ6, HB⟩ := hcut
      cases kq with
      | zero => exact absurd HA.out (by simp [calamusref04_First.j1])
      | succ kj6 =>
        have H := HA.out
        clear HA
        simp only [calamusref04_First.j1] at H
        replace H := Option.bind_eq_some_iff.mp H
        obtain ⟨t121, A220, H⟩ := H
        replace H : (if x5_6 = t121 then ((calamusref04_Clamp.f kj6 a0 x5_6).bind fun t122 => (some t122)) else (some x5_6)) = some r := H
        have A22 := Aside0.mk A220
        clear A220
        by_cases c23 : x5_6 = t121
        · rw [if_pos c23] at H
          have c23b0 : (x5_6 == t121) = true := beq_iff_eq.mpr c23
          have c23b1 : (x5_6 != t121) = false := bne_eq_false_iff_eq.mpr c23
          clear c23
          replace H := Option.bind_eq_some_iff.mp H
          obtain ⟨t122, A240, H⟩ := H
          replace H : (some t122) = some r := H
          have A24 := Aside0.mk A240
          clear A240
          obtain rfl := Option.some.inj H
          go_wp2_with (first | ((with_reducible refine gate_callee (f := 42) rfl ?_); refine goesL_ (some 35) rfl rfl Tryd.func42 (by kernel_rfl) rfl #[.string a0, .int .i64 a1] rfl (by (try simp only [List.map_toArray, List.map_cons, List.map_nil]); first | done | rfl | (simp only [List.length_drop, List.length_take]; rfl)) ?_; (with_reducible refine (calamusref04_End.calls a0 a1 t121 _ A22.out).mono ?_); rintro e w25 ⟨rfl, hb⟩; refine ⟨_, rfl, ?_⟩; have n0_ := Aside0.mk (below_step (by repeat (first | (with_reducible first | exact HB.out | apply below_alloc | apply pw_below_drewN | apply below_drew1) | exact HB.out)) hb); clear HB; have HB := n0_; clear n0_; (try clear hb); (try clear hb2); (try clear hk); (try clear hi)) | ((with_reducible refine gate_callee (f := 19) rfl ?_); refine goesL_ (some 39) rfl rfl Tryd.func19 (by kernel_rfl) rfl #[.string a0, .int .i64 x5_6] rfl (by (try simp only [List.map_toArray, List.map_cons, List.map_nil]); first | done | rfl | (simp only [List.length_drop, List.length_take]; rfl)) ?_; (with_reducible refine (calamusref04_Clamp.calls kj6 a0 x5_6 t122 _ A24.out).mono ?_); rintro e w26 ⟨rfl, hb⟩; refine ⟨_, rfl, ?_⟩; have n0_ := Aside0.mk (below_step (by repeat (first | (with_reducible first | exact HB.out | apply below_alloc | apply pw_below_drewN | apply below_drew1) | exact HB.out)) hb); clear HB; have HB := n0_; clear n0_; (try clear hb); (try clear hb2); (try clear hk); (try clear hi)))
          go_ret
          exact ⟨by first | rfl | (simp [errW_none, errW_some] <;> rfl) | (simp [*, errW_none, errW_some] <;> rfl), by repeat (first | (with_reducible first | exact HB.out | apply below_alloc | apply pw_below_drewN | apply below_drew1) | exact HB.out)⟩
        · rw [if_neg c23] at H
          have c23b0 : (x5_6 == t121) = false := beq_eq_false_iff_ne.mpr c23
          have c23b1 : (x5_6 != t121) = true := bne_iff_ne.mpr c23
          obtain rfl := Option.some.inj H
          go_wp2_with (first | ((with_reducible refine gate_callee (f := 42) rfl ?_); refine goesL_ (some 35) rfl rfl Tryd.func42 (by kernel_rfl) rfl #[.string a0, .int .i64 a1] rfl (by (try simp only [List.map_toArray, List.map_cons, List.map_nil]); first | done | rfl | (simp only [List.length_drop, List.length_take]; rfl)) ?_; (with_reducible refine (calamusref04_End.calls a0 a1 t121 _ A22.out).mono ?_); rintro e w27 ⟨rfl, hb⟩; refine ⟨_, rfl, ?_⟩; have n0_ := Aside0.mk (below_step (by repeat (first | (with_reducible first | exact HB.out | apply below_alloc | apply pw_below_drewN | apply below_drew1) | exact HB.out)) hb); clear HB; have HB := n0_; clear n0_; (try clear hb); (try clear hb2); (try clear hk); (try clear hi)))
          go_ret
          exact ⟨by first | rfl | (simp [errW_none, errW_some] <;> rfl) | (simp [*, errW_none, errW_some] <;> rfl), by repeat (first | (with_reducible first | exact HB.out | apply below_alloc | apply pw_below_drewN | apply below_drew1) | exact HB.out)⟩

/-! ### calamuslaw04_LineNormal -/
def calamuslaw04_LineNormal.f (k : Nat) (a0 : ByteArray) (a1 : Int) (a2 : Int) : Option (Bool) := if (a0.size : Int) > 1000 then ((calamuslaw04_lives.f).bind fun t123 => (some t123)) else ((line_Normal.f a0 a1).bind fun t124 => ((calamusref04_Normal.f a0 a1).bind fun t125 => (if (t124 == t125) = true then ((line_Clamp.f a0 a1).bind fun t126 => ((calamusref04_Clamp.f k a0 a1).bind fun t127 => (if t126 = t127 then ((line_First.f a0 a2).bind fun t128 => ((calamusref04_First.f k a0 a2).bind fun t129 => (if t128 = t129 then ((calamuslaw04_lives.f).bind fun t130 => (some t130)) else (some false)))) else (some false)))) else (some false))))
theorem calamuslaw04_LineNormal.mono : ∀ a0 a1 a2 k, LeO (calamuslaw04_LineNormal.f k a0 a1 a2) (calamuslaw04_LineNormal.f (k + 1) a0 a1 a2) := by
  intro a0 a1 a2 k
  unfold calamuslaw04_LineNormal.f
  repeat' first
      | (with_reducible exact calamusref04_Clamp.mono _ _ _)
      | (with_reducible exact calamusref04_First.mono _ _ _)
      | (with_reducible exact LeO.refl _)
      | (with_reducible exact LeO.none _)
      | (with_reducible refine LeO.ite ?_ ?_)
      | (with_reducible refine LeO.bind ?_ (fun _ => ?_))
      | exact calamusref04_Clamp.mono _ _ _
      | exact calamusref04_First.mono _ _ _
      | exact LeO.none _
      | refine LeO.ite ?_ ?_
      | refine LeO.bind ?_ (fun _ => ?_)
set_option maxHeartbeats 8000000 in
set_option maxRecDepth 100000 in
theorem calamuslaw04_LineNormal.calls (k : Nat) (a0 : ByteArray) (a1 : Int) (a2 : Int) (r : Bool) (w : World) (h : calamuslaw04_LineNormal.f k a0 a1 a2 = some r) :
    Calls Tryd.prog 4 #[.string a0, .int .i64 a1, .int .i64 a2] w fun e w' => e = .returned (.bool r) ∧ Below w.heap.size w w' := by
  have HB := Aside0.mk (Below.refl w.heap.size w)
  have H : (if (a0.size : Int) > 1000 then ((calamuslaw04_lives.f).bind fun t123 => (some t123)) else ((line_Normal.f a0 a1).bind fun t124 => ((calamusref04_Normal.f a0 a1).bind fun t125 => (if (t124 == t125) = true then ((line_Clamp.f a0 a1).bind fun t126 => ((calamusref04_Clamp.f k a0 a1).bind fun t127 => (if t126 = t127 then ((line_First.f a0 a2).bind fun t128 => ((calamusref04_First.f k a0 a2).bind fun t129 => (if t128 = t129 then ((calamuslaw04_lives.f).bind fun t130 => (some t130)) else (some false)))) else (some false)))) else (some false))))) = some r := h
  clear h
  by_cases c4 : (a0.size : Int) > 1000
  · rw [if_pos c4] at H
    have c4b0 : decide (1000 < (a0.size : Int)) = true := decide_eq_true c4
    have c4b1 : decide (1000 < a0.size) = true := decide_eq_true (by omega)
    clear c4
    replace H := Option.bind_eq_some_iff.mp H
    obtain ⟨t123, A50, H⟩ := H
    replace H : (some t123) = some r := H
    have A5 := Aside0.mk A50
    clear A50
    obtain rfl := Option.some.inj H
    go_enter Tryd.func4, Tryd.ntmps4
    go_wp2_with (first | ((with_reducible refine gate_callee (f := 15) rfl ?_); refine goesL_ (some 10) rfl rfl Tryd.func15 (by kernel_rfl) rfl #[] rfl (by (try simp only [List.map_toArray, List.map_cons, List.map_nil]); first | done | rfl | (simp only [List.length_drop, List.length_take]; rfl)) ?_; (with_reducible refine (calamuslaw04_lives.calls  t123 _ A5.out).mono ?_); rintro e w6 ⟨rfl, hb⟩; refine ⟨_, rfl, ?_⟩; have n0_ := Aside0.mk (below_step (by repeat (first | (with_reducible first | exact HB.out | apply below_alloc | apply pw_below_drewN | apply below_drew1) | exact HB.out)) hb); clear HB; have HB := n0_; clear n0_; (try clear hb); (try clear hb2); (try clear hk); (try clear hi)))
    go_ret
    exact ⟨by first | rfl | (simp [errW_none, errW_some] <;> rfl) | (simp [*, errW_none, errW_some] <;> rfl), by repeat (first | (with_reducible first | exact HB.out | apply below_alloc | apply pw_below_drewN | apply below_drew1) | exact HB.out)⟩
  · rw [if_neg c4] at H
    have c4b0 : decide (1000 < (a0.size : Int)) = false := decide_eq_false c4
    have c4b1 : decide (1000 < a0.size) = false := decide_eq_false (by omega)
    clear c4
    replace H := Option.bind_eq_some_iff.mp H
    obtain ⟨t124, A70, H⟩ := H
    replace H : ((calamusref04_Normal.f a0 a1).bind fun t125 => (if (t124 == t125) = true then ((line_Clamp.f a0 a1).bind fun t126 => ((calamusref04_Clamp.f k a0 a1).bind fun t127 => (if t126 = t127 then ((line_First.f a0 a2).bind fun t128 => ((calamusref04_First.f k a0 a2).bind fun t129 => (if t128 = t129 then ((calamuslaw04_lives.f).bind fun t130 => (some t130)) else (some false)))) else (some false)))) else (some false))) = some r := H
    have A7 := Aside0.mk A70
    clear A70
    replace H := Option.bind_eq_some_iff.mp H
    obtain ⟨t125, A80, H⟩ := H
    replace H : (if (t124 == t125) = true then ((line_Clamp.f a0 a1).bind fun t126 => ((calamusref04_Clamp.f k a0 a1).bind fun t127 => (if t126 = t127 then ((line_First.f a0 a2).bind fun t128 => ((calamusref04_First.f k a0 a2).bind fun t129 => (if t128 = t129 then ((calamuslaw04_lives.f).bind fun t130 => (some t130)) else (some false)))) else (some false)))) else (some false)) = some r := H
    have A8 := Aside0.mk A80
    clear A80
    by_cases c9 : (t124 == t125) = true
    · rw [if_pos c9] at H
      have c9b0 : (t124 == t125) = true := c9
      (try (have c9b1 : decide (t124 = t125) = true := by simpa using c9))
      (try (have c9b2 : (t124 == t125) = true := by simpa using c9))
      clear c9
      replace H := Option.bind_eq_some_iff.mp H
      obtain ⟨t126, A100, H⟩ := H
      replace H : ((calamusref04_Clamp.f k a0 a1).bind fun t127 => (if t126 = t127 then ((line_First.f a0 a2).bind fun t128 => ((calamusref04_First.f k a0 a2).bind fun t129 => (if t128 = t129 then ((calamuslaw04_lives.f).bind fun t130 => (some t130)) else (some false)))) else (some false))) = some r := H
      have A10 := Aside0.mk A100
      clear A100
      replace H := Option.bind_eq_some_iff.mp H
      obtain ⟨t127, A110, H⟩ := H
      replace H : (if t126 = t127 then ((line_First.f a0 a2).bind fun t128 => ((calamusref04_First.f k a0 a2).bind fun t129 => (if t128 = t129 then ((calamuslaw04_lives.f).bind fun t130 => (some t130)) else (some false)))) else (some false)) = some r := H
      have A11 := Aside0.mk A110
      clear A110
      by_cases c12 : t126 = t127
      · rw [if_pos c12] at H
        have c12b0 : (t126 == t127) = true := beq_iff_eq.mpr c12
        have c12b1 : (t126 != t127) = false := bne_eq_false_iff_eq.mpr c12
        clear c12
        replace H := Option.bind_eq_some_iff.mp H
        obtain ⟨t128, A130, H⟩ := H
        replace H : ((calamusref04_First.f k a0 a2).bind fun t129 => (if t128 = t129 then ((calamuslaw04_lives.f).bind fun t130 => (some t130)) else (some false))) = some r := H
        have A13 := Aside0.mk A130
        clear A130
        replace H := Option.bind_eq_some_iff.mp H
        obtain ⟨t129, A140, H⟩ := H
        replace H : (if t128 = t129 then ((calamuslaw04_lives.f).bind fun t130 => (some t130)) else (some false)) = some r := H
        have A14 := Aside0.mk A140
        clear A140
        by_cases c15 : t128 = t129
        · rw [if_pos c15] at H
          have c15b0 : (t128 == t129) = true := beq_iff_eq.mpr c15
          have c15b1 : (t128 != t129) = false := bne_eq_false_iff_eq.mpr c15
          clear c15
          replace H := Option.bind_eq_some_iff.mp H
          obtain ⟨t130, A160, H⟩ := H
          replace H : (some t130) = some r := H
          have A16 := Aside0.mk A160
          clear A160
          obtain rfl := Option.some.inj H
          go_enter Tryd.func4, Tryd.ntmps4
          go_wp2_with (first | ((with_reducible refine gate_callee (f := 16) rfl ?_); refine goesL_ (some 13) rfl rfl Tryd.func16 (by kernel_rfl) rfl #[.string a0, .int .i64 a1] rfl (by (try simp only [List.map_toArray, List.map_cons, List.map_nil]); first | done | rfl | (simp only [List.length_drop, List.length_take]; rfl)) ?_; (with_reducible refine (line_Normal.calls a0 a1 t124 _ A7.out).mono ?_); rintro e w17 ⟨rfl, hb⟩; refine ⟨_, rfl, ?_⟩; have n0_ := Aside0.mk (below_step (by repeat (first | (with_reducible first | exact HB.out | apply below_alloc | apply pw_below_drewN | apply below_drew1) | exact HB.out)) hb); clear HB; have HB := n0_; clear n0_; (try clear hb); (try clear hb2); (try clear hk); (try clear hi)) | ((with_reducible refine gate_callee (f := 17) rfl ?_); refine goesL_ (some 16) rfl rfl Tryd.func17 (by kernel_rfl) rfl #[.string a0, .int .i64 a1] rfl (by (try simp only [List.map_toArray, List.map_cons, List.map_nil]); first | done | rfl | (simp only [List.length_drop, List.length_take]; rfl)) ?_; (with_reducible refine (calamusref04_Normal.calls a0 a1 t125 _ A8.out).mono ?_); rintro e w18 ⟨rfl, hb⟩; refine ⟨_, rfl, ?_⟩; have n0_ := Aside0.mk (below_step (by repeat (first | (with_reducible first | exact HB.out | apply below_alloc | apply pw_below_drewN | apply below_drew1) | exact HB.out)) hb); clear HB; have HB := n0_; clear n0_; (try clear hb); (try clear hb2); (try clear hk); (try clear hi)) | (go_at_call 18; (with_reducible refine (line_Clamp.calls a0 a1 t126 _ A10.out).mono ?_); rintro e w19 ⟨rfl, hb⟩; have n0_ := Aside0.mk (below_step (by repeat (first | (with_reducible first | exact HB.out | apply below_alloc | apply pw_below_drewN | apply below_drew1) | exact HB.out)) hb); clear HB; have HB := n0_; clear n0_; (try clear hb); (try clear hb2); (try clear hk); (try clear hi)) | (go_at_call 19; (with_reducible refine (calamusref04_Clamp.calls k a0 a1 t127 _ A11.out).mono ?_); rintro e w20 ⟨rfl, hb⟩; have n0_ := Aside0.mk (below_step (by repeat (first | (with_reducible first | exact HB.out | apply below_alloc | apply pw_below_drewN | apply below_drew1) | exact HB.out)) hb); clear HB; have HB := n0_; clear n0_; (try clear hb); (try clear hb2); (try clear hk); (try clear hi)) | (go_at_call 20; (with_reducible refine (line_First.calls a0 a2 t128 _ A13.out).mono ?_); rintro e w21 ⟨rfl, hb⟩; have n0_ := Aside0.mk (below_step (by repeat (first | (with_reducible first | exact HB.out | apply below_alloc | apply pw_below_drewN | apply below_drew1) | exact HB.out)) hb); clear HB; have HB := n0_; clear n0_; (try clear hb); (try clear hb2); (try clear hk); (try clear hi)) | (go_at_call 21; (with_reducible refine (calamusref04_First.calls k a0 a2 t129 _ A14.out).mono ?_); rintro e w22 ⟨rfl, hb⟩; have n0_ := Aside0.mk (below_step (by repeat (first | (with_reducible first | exact HB.out | apply below_alloc | apply pw_below_drewN | apply below_drew1) | exact HB.out)) hb); clear HB; have HB := n0_; clear n0_; (try clear hb); (try clear hb2); (try clear hk); (try clear hi)) | (go_at_call 15; (with_reducible refine (calamuslaw04_lives.calls  t130 _ A16.out).mono ?_); rintro e w23 ⟨rfl, hb⟩; have n0_ := Aside0.mk (below_step (by repeat (first | (with_reducible first | exact HB.out | apply below_alloc | apply pw_below_drewN | apply below_drew1) | exact HB.out)) hb); clear HB; have HB := n0_; clear n0_; (try clear hb); (try clear hb2); (try clear hk); (try clear hi)))
          go_ret
          exact ⟨by first | rfl | (simp [errW_none, errW_some] <;> rfl) | (simp [*, errW_none, errW_some] <;> rfl), by repeat (first | (with_reducible first | exact HB.out | apply below_alloc | apply pw_below_drewN | apply below_drew1) | exact HB.out)⟩
        · rw [if_neg c15] at H
          have c15b0 : (t128 == t129) = false := beq_eq_false_iff_ne.mpr c15
          have c15b1 : (t128 != t129) = true := bne_iff_ne.mpr c15
          obtain rfl := Option.some.inj H
          go_enter Tryd.func4, Tryd.ntmps4
          go_wp2_with (first | ((with_reducible refine gate_callee (f := 16) rfl ?_); refine goesL_ (some 13) rfl rfl Tryd.func16 (by kernel_rfl) rfl #[.string a0, .int .i64 a1] rfl (by (try simp only [List.map_toArray, List.map_cons, List.map_nil]); first | done | rfl | (simp only [List.length_drop, List.length_take]; rfl)) ?_; (with_reducible refine (line_Normal.calls a0 a1 t124 _ A7.out).mono ?_); rintro e w24 ⟨rfl, hb⟩; refine ⟨_, rfl, ?_⟩; have n0_ := Aside0.mk (below_step (by repeat (first | (with_reducible first | exact HB.out | apply below_alloc | apply pw_below_drewN | apply below_drew1) | exact HB.out)) hb); clear HB; have HB := n0_; clear n0_; (try clear hb); (try clear hb2); (try clear hk); (try clear hi)) | ((with_reducible refine gate_callee (f := 17) rfl ?_); refine goesL_ (some 16) rfl rfl Tryd.func17 (by kernel_rfl) rfl #[.string a0, .int .i64 a1] rfl (by (try simp only [List.map_toArray, List.map_cons, List.map_nil]); first | done | rfl | (simp only [List.length_drop, List.length_take]; rfl)) ?_; (with_reducible refine (calamusref04_Normal.calls a0 a1 t125 _ A8.out).mono ?_); rintro e w25 ⟨rfl, hb⟩; refine ⟨_, rfl, ?_⟩; have n0_ := Aside0.mk (below_step (by repeat (first | (with_reducible first | exact HB.out | apply below_alloc | apply pw_below_drewN | apply below_drew1) | exact HB.out)) hb); clear HB; have HB := n0_; clear n0_; (try clear hb); (try clear hb2); (try clear hk); (try clear hi)) | (go_at_call 18; (with_reducible refine (line_Clamp.calls a0 a1 t126 _ A10.out).mono ?_); rintro e w26 ⟨rfl, hb⟩; have n0_ := Aside0.mk (below_step (by repeat (first | (with_reducible first | exact HB.out | apply below_alloc | apply pw_below_drewN | apply below_drew1) | exact HB.out)) hb); clear HB; have HB := n0_; clear n0_; (try clear hb); (try clear hb2); (try clear hk); (try clear hi)) | (go_at_call 19; (with_reducible refine (calamusref04_Clamp.calls k a0 a1 t127 _ A11.out).mono ?_); rintro e w27 ⟨rfl, hb⟩; have n0_ := Aside0.mk (below_step (by repeat (first | (with_reducible first | exact HB.out | apply below_alloc | apply pw_below_drewN | apply below_drew1) | exact HB.out)) hb); clear HB; have HB := n0_; clear n0_; (try clear hb); (try clear hb2); (try clear hk); (try clear hi)) | (go_at_call 20; (with_reducible refine (line_First.calls a0 a2 t128 _ A13.out).mono ?_); rintro e w28 ⟨rfl, hb⟩; have n0_ := Aside0.mk (below_step (by repeat (first | (with_reducible first | exact HB.out | apply below_alloc | apply pw_below_drewN | apply below_drew1) | exact HB.out)) hb); clear HB; have HB := n0_; clear n0_; (try clear hb); (try clear hb2); (try clear hk); (try clear hi)) | (go_at_call 21; (with_reducible refine (calamusref04_First.calls k a0 a2 t129 _ A14.out).mono ?_); rintro e w29 ⟨rfl, hb⟩; have n0_ := Aside0.mk (below_step (by repeat (first | (with_reducible first | exact HB.out | apply below_alloc | apply pw_below_drewN | apply below_drew1) | exact HB.out)) hb); clear HB; have HB := n0_; clear n0_; (try clear hb); (try clear hb2); (try clear hk); (try clear hi)))
          go_ret
          exact ⟨by first | rfl | (simp [errW_none, errW_some] <;> rfl) | (simp [*, errW_none, errW_some] <;> rfl), by repeat (first | (with_reducible first | exact HB.out | apply below_alloc | apply pw_below_drewN | apply below_drew1) | exact HB.out)⟩
      · rw [if_neg c12] at H
        have c12b0 : (t126 == t127) = false := beq_eq_false_iff_ne.mpr c12
        have c12b1 : (t126 != t127) = true := bne_iff_ne.mpr c12
        obtain rfl := Option.some.inj H
        go_enter Tryd.func4, Tryd.ntmps4
        go_wp2_with (first | ((with_reducible refine gate_callee (f := 16) rfl ?_); refine goesL_ (some 13) rfl rfl Tryd.func16 (by kernel_rfl) rfl #[.string a0, .int .i64 a1] rfl (by (try simp only [List.map_toArray, List.map_cons, List.map_nil]); first | done | rfl | (simp only [List.length_drop, List.length_take]; rfl)) ?_; (with_reducible refine (line_Normal.calls a0 a1 t124 _ A7.out).mono ?_); rintro e w30 ⟨rfl, hb⟩; refine ⟨_, rfl, ?_⟩; have n0_ := Aside0.mk (below_step (by repeat (first | (with_reducible first | exact HB.out | apply below_alloc | apply pw_below_drewN | apply below_drew1) | exact HB.out)) hb); clear HB; have HB := n0_; clear n0_; (try clear hb); (try clear hb2); (try clear hk); (try clear hi)) | ((with_reducible refine gate_callee (f := 17) rfl ?_); refine goesL_ (some 16) rfl rfl Tryd.func17 (by kernel_rfl) rfl #[.string a0, .int .i64 a1] rfl (by (try simp only [List.map_toArray, List.map_cons, List.map_nil]); first | done | rfl | (simp only [List.length_drop, List.length_take]; rfl)) ?_; (with_reducible refine (calamusref04_Normal.calls a0 a1 t125 _ A8.out).mono ?_); rintro e w31 ⟨rfl, hb⟩; refine ⟨_, rfl, ?_⟩; have n0_ := Aside0.mk (below_step (by repeat (first | (with_reducible first | exact HB.out | apply below_alloc | apply pw_below_drewN | apply below_drew1) | exact HB.out)) hb); clear HB; have HB := n0_; clear n0_; (try clear hb); (try clear hb2); (try clear hk); (try clear hi)) | (go_at_call 18; (with_reducible refine (line_Clamp.calls a0 a1 t126 _ A10.out).mono ?_); rintro e w32 ⟨rfl, hb⟩; have n0_ := Aside0.mk (below_step (by repeat (first | (with_reducible first | exact HB.out | apply below_alloc | apply pw_below_drewN | apply below_drew1) | exact HB.out)) hb); clear HB; have HB := n0_; clear n0_; (try clear hb); (try clear hb2); (try clear hk); (try clear hi)) | (go_at_call 19; (with_reducible refine (calamusref04_Clamp.calls k a0 a1 t127 _ A11.out).mono ?_); rintro e w33 ⟨rfl, hb⟩; have n0_ := Aside0.mk (below_step (by repeat (first | (with_reducible first | exact HB.out | apply below_alloc | apply pw_below_drewN | apply below_drew1) | exact HB.out)) hb); clear HB; have HB := n0_; clear n0_; (try clear hb); (try clear hb2); (try clear hk); (try clear hi)))
        go_ret
        exact ⟨by first | rfl | (simp [errW_none, errW_some] <;> rfl) | (simp [*, errW_none, errW_some] <;> rfl), by repeat (first | (with_reducible first | exact HB.out | apply below_alloc | apply pw_below_drewN | apply below_drew1) | exact HB.out)⟩
    · rw [if_neg c9] at H
      have c9b0 : (t124 == t125) = false := by simpa using c9
      (try (have c9b1 : decide (t124 = t125) = false := by simpa using c9))
      (try (have c9b2 : (t124 == t125) = false := by simpa using c9))
      (try (have c9b3 : ¬ (t124 = t125) := by simpa using c9))
      clear c9
      obtain rfl := Option.some.inj H
      go_enter Tryd.func4, Tryd.ntmps4
      go_wp2_with (first | ((with_reducible refine gate_callee (f := 16) rfl ?_); refine goesL_ (some 13) rfl rfl Tryd.func16 (by kernel_rfl) rfl #[.string a0, .int .i64 a1] rfl (by (try simp only [List.map_toArray, List.map_cons, List.map_nil]); first | done | rfl | (simp only [List.length_drop, List.length_take]; rfl)) ?_; (with_reducible refine (line_Normal.calls a0 a1 t124 _ A7.out).mono ?_); rintro e w34 ⟨rfl, hb⟩; refine ⟨_, rfl, ?_⟩; have n0_ := Aside0.mk (below_step (by repeat (first | (with_reducible first | exact HB.out | apply below_alloc | apply pw_below_drewN | apply below_drew1) | exact HB.out)) hb); clear HB; have HB := n0_; clear n0_; (try clear hb); (try clear hb2); (try clear hk); (try clear hi)) | ((with_reducible refine gate_callee (f := 17) rfl ?_); refine goesL_ (some 16) rfl rfl Tryd.func17 (by kernel_rfl) rfl #[.string a0, .int .i64 a1] rfl (by (try simp only [List.map_toArray, List.map_cons, List.map_nil]); first | done | rfl | (simp only [List.length_drop, List.length_take]; rfl)) ?_; (with_reducible refine (calamusref04_Normal.calls a0 a1 t125 _ A8.out).mono ?_); rintro e w35 ⟨rfl, hb⟩; refine ⟨_, rfl, ?_⟩; have n0_ := Aside0.mk (below_step (by repeat (first | (with_reducible first | exact HB.out | apply below_alloc | apply pw_below_drewN | apply below_drew1) | exact HB.out)) hb); clear HB; have HB := n0_; clear n0_; (try clear hb); (try clear hb2); (try clear hk); (try clear hi)))
      go_ret
      exact ⟨by first | rfl | (simp [errW_none, errW_some] <;> rfl) | (simp [*, errW_none, errW_some] <;> rfl), by repeat (first | (with_reducible first | exact HB.out | apply below_alloc | apply pw_below_drewN | apply below_drew1) | exact HB.out)⟩

def calamuslaw04_LineNormal.Pure : Prop := ∀ (a0 : ByteArray) (a1 : Int) (a2 : Int), a0.size ≤ 140737488351232 → (Lit.int .i64 a1).wf = true → (Lit.int .i64 a2).wf = true → ∃ k, calamuslaw04_LineNormal.f k a0 a1 a2 = some true
theorem calamuslaw04_LineNormal.walk (P : calamuslaw04_LineNormal.Pure) (a0 : ByteArray) (a1 : Int) (a2 : Int) (w : World) (w0 : a0.size ≤ 140737488351232) (w1 : (Lit.int .i64 a1).wf = true) (w2 : (Lit.int .i64 a2).wf = true) :
    Calls Tryd.prog 4 #[.string a0, .int .i64 a1, .int .i64 a2] w fun e w' => e = .returned (.bool true) ∧ Below w.heap.size w w' := by
  obtain ⟨k, h⟩ := P a0 a1 a2 w0 w1 w2
  refine (calamuslaw04_LineNormal.calls k a0 a1 a2 true w h).mono ?_
  rintro e w' ⟨rfl, hd⟩
  exact ⟨rfl, hd⟩







end Go.Proofs.YtgapekdcoedmgaaDoor.QC
/- line.First in plain words (over MOD QC of the door seat of group C; turn the MOD for another seat). -/
namespace Go.Proofs.YtgapekdcoedmgaaDoor
open Go.RowKit
set_option linter.unusedVariables false
set_option linter.unusedSimpArgs false
open Go.RowKit Go.Proofs.YtgapekdcoedmgaaDoor.QC Go.Proofs.YtgapekdcoedmgaaDoorW.PrintWords Go.Proofs.YtgapekdcoedmgaaDoorW.PrintMore
theorem first_val (t : ByteArray) (k : Int) (ht : t.size ≤ 1000000) : line_First.f t k = some (firstI (ls t) k) := by
  unfold line_First.f firstI
  rw [line_find.eq t k (by omega)]
  simp only [Option.bind_some]
  cases hl : lineI (ls t) k with
  | none => simp
  | some x =>
    obtain ⟨a1, a2, a3, _, _⟩ := lineI_le hl
    rw [ls_len] at a2
    have hs : startI (ls t) k = x.1 := by unfold startI; rw [hl]
    have he : endI (ls t) k = x.2 := by unfold endI; rw [hl]
    rw [hs, he]
    have hrow : ls (t.extract x.1 x.2) = rowL (ls t) x := ls_ext2 t x.1 x.2
    have hrl : (rowL (ls t) x).length = x.2 - x.1 := rowL_len a1 (by rw [ls_len]; exact a2)
    have hbl := blk_le (rowL (ls t) x)
    have hts : (trS (t.extract x.1 x.2) ⟨#[32, 9]⟩).size = (x.2 - x.1) - blk (rowL (ls t) x) := by
      rw [trS_size _ _ rfl, hrow, ← ls_len, hrow, hrl]
    rw [if_pos (show (some x).isSome = true from rfl), if_pos (show (0 : Int) ≤ x.1 by omega), if_pos (show (x.1 : Int) ≤ x.2 by omega), if_pos (show (x.2 : Int) ≤ t.size by omega), Int.toNat_natCast, Int.toNat_natCast, strings_TrimLeft.eq _ _ ⟨by decide, by decide⟩]
    simp only [Option.bind_some]
    rw [line_Clamp.eq t _ (by omega)]
    simp only [Option.bind_some]
    rw [hrl]
    by_cases hc : blk (rowL (ls t) x) = x.2 - x.1
    · rw [if_pos ((empty_iff _).2 (by rw [hts]; omega)), if_pos hc]
    · rw [if_neg (fun h => hc (by have := (empty_iff _).1 h; rw [hts] at this; omega)), if_neg hc, w64 (by rw [hts]; omega) (by rw [hts]; omega), hts]
      congr 1; omega
end Go.Proofs.YtgapekdcoedmgaaDoor
/- Where a line's first sign is: plain facts. -/
namespace Go.Proofs.YtgapekdcoedmgaaDoor
open Go.RowKit
set_option linter.unusedVariables false
set_option linter.unusedSimpArgs false
theorem blk_places {l : List UInt8} {a b : Nat} (hv : validL l = true) (hb : b ≤ l.length) (hpb : placeB l b = true) : ∀ (d p : Nat), b - p ≤ d → p ≤ b → placeB l p = true → placeB l (p + blk (rowL l (p, b)) : Nat) = true ∧ p + blk (rowL l (p, b)) ≤ b := by
  intro d
  induction d with
  | zero =>
    intro p h1 h2 hp
    obtain rfl : p = b := by omega
    rw [blk_nil]; exact ⟨hp, Nat.le_refl _⟩
  | succ d ih =>
    intro p h1 h2 hp
    by_cases he : p = b
    · subst he; rw [blk_nil]; exact ⟨hp, Nat.le_refl _⟩
    · by_cases hbl : byL l p = 32 ∨ byL l p = 9
      · rw [blk_yes (by omega) hb hbl]
        obtain ⟨hz, hle⟩ := sz_at hp (show p < l.length by omega)
        obtain ⟨_, h2s, _, _⟩ := szL_pos hz
        rw [byL_drop, Nat.add_zero] at h2s
        have h3 : szL (l.drop p) = 1 := by
          have e32 : fSize 32 = 1 := by decide
          have e9 : fSize 9 = 1 := by decide
          rcases hbl with h | h <;> rw [h] at h2s <;> omega
        have hn := place_next hp (show p < l.length by omega)
        rw [h3] at hn
        obtain ⟨g1, g2⟩ := ih (p + 1) (by omega) (by omega) hn
        rw [show p + (blk (rowL l (p + 1, b)) + 1) = p + 1 + blk (rowL l (p + 1, b)) by omega]
        exact ⟨g1, g2⟩
      · rw [blk_no (by omega) hb hbl]; exact ⟨hp, by omega⟩
theorem in_line' {l : List UInt8} {p e j : Nat} (hp : placeB l p = true) (he : endI l (ofI l p) = e) (h1 : lst l p ≤ j) (h2 : j ≤ e) : ofI l j = ofI l p := by
  obtain ⟨_, hle, hv⟩ := valid_at hp
  obtain ⟨g1, g2⟩ := line_fds hp he
  obtain ⟨_, _, e3⟩ := end_gt hp he
  have up : ∀ (i d : Nat), i + d ≤ l.length → fds l i ≤ fds l (i + d) := by
    intro i d
    induction d with
    | zero => intro _; exact Nat.le_refl _
    | succ d ih => intro h; have := ih (by omega); rw [← Nat.add_assoc, fds_succ l (i + d) (by omega)]; omega
  have a1 := up (lst l p) (j - lst l p) (by omega)
  have a2 := up j (e - j) (by omega)
  rw [show lst l p + (j - lst l p) = j by omega] at a1
  rw [show j + (e - j) = e by omega] at a2
  obtain ⟨s1, _, _⟩ := start_of (p := j) (show j ≤ l.length by omega) hv
  obtain ⟨t1, _, _⟩ := start_of hle hv
  rw [s1, t1]; omega
theorem first_facts {l : List UInt8} {c : Nat} (hc : placeB l c = true) : ∃ f : Nat, firstI l (ofI l c) = f ∧ ofI l f = ofI l c ∧ normalB l f = true := by
  obtain ⟨_, hle, hv⟩ := valid_at hc
  obtain ⟨e, h1, h2, h3, h4, h5, h6, h7, h8⟩ := line_pair hc
  have hrl : (rowL l (lst l c, e)).length = e - lst l c := rowL_len (show lst l c ≤ e by omega) h6
  have hee := line_end hc h3
  unfold firstI
  rw [h1]
  show ∃ f : Nat, (if blk (rowL l (lst l c, e)) = (rowL l (lst l c, e)).length then clampI l (e : Nat) else ((lst l c + blk (rowL l (lst l c, e)) : Nat) : Int)) = (f : Int) ∧ _
  rw [hrl]
  split
  · obtain ⟨q, g1, g2, g3⟩ := clamp_cases hv (e : Nat)
    refine ⟨q, g1, ?_, g3⟩
    have hcut : cutI l (e : Nat) = e := by unfold cutI; omega
    have hle2 : lst l e = lst l c := by
      have o := in_line' hc h3 (j := e) (by omega) (Nat.le_refl _)
      obtain ⟨_, s2, _⟩ := start_of (p := e) h6 hv
      rw [o, h2] at s2; omega
    have hval : clampI l (e : Nat) = if endsB l e = true ∧ lst l e < e then prevI l (e : Nat) else (e : Nat) := by
      unfold clampI
      rw [if_pos hv]
      show (if endsB l (downTo l (cutI l (e : Nat))) = true ∧ lst l (downTo l (cutI l (e : Nat))) < downTo l (cutI l (e : Nat)) then prevI l (downTo l (cutI l (e : Nat)) : Nat) else (downTo l (cutI l (e : Nat)) : Nat)) = _
      rw [hcut, downTo_hit h8]
    rw [hval] at g1
    split at g1
    · rename_i hcc
      rw [prevI_at h8 (by omega)] at g1
      have := prev_ge' h8 h7 (by omega)
      have h9 := (prev_gap hv (e - 1) (by omega)).1
      exact in_line' hc h3 (by omega) (by omega)
    · have : q = e := by omega
      subst this; exact in_line' hc h3 (by omega) (Nat.le_refl _)
  · rename_i hne
    obtain ⟨g1, g2⟩ := blk_places (a := lst l c) hv h6 h8 _ _ (Nat.le_refl _) (show lst l c ≤ e by omega) h7
    refine ⟨_, rfl, in_line' hc h3 (by omega) g2, ?_⟩
    unfold normalB
    rw [g1, Int.toNat_natCast]
    have hlt : lst l c + blk (rowL l (lst l c, e)) < e := by have := blk_le (rowL l (lst l c, e)); omega
    have hq := in_line' hc h3 (j := lst l c + blk (rowL l (lst l c, e))) (by omega) g2
    have hend : endsB l (lst l c + blk (rowL l (lst l c, e))) = false := by
      have h10 := (end_gt g1 (by rw [hq]; exact h3)).1.1 hlt
      unfold endsB
      rw [decide_eq_false (by omega), decide_eq_false h10.2]; rfl
    rw [hend]; rfl
end Go.Proofs.YtgapekdcoedmgaaDoor
/- The document's normal places and first signs (calamusref04) and the statements LineNormal, LineLeads in plain words (MOD QC). -/
namespace Go.Proofs.YtgapekdcoedmgaaDoor
open Go.RowKit
set_option linter.unusedVariables false
set_option linter.unusedSimpArgs false
open Go.RowKit Go.Proofs.YtgapekdcoedmgaaDoor.QC Go.Proofs.YtgapekdcoedmgaaDoorW.PrintWords Go.Proofs.YtgapekdcoedmgaaDoorW.PrintMore
theorem rnormal_val (t : ByteArray) (p : Int) (ht : t.size ≤ 1000000) : calamusref04_Normal.f t p = some (normalB (ls t) p) := by
  unfold calamusref04_Normal.f normalB
  rw [calamusref03_Place.eq t p (by omega)]
  simp only [Option.bind_some]
  split
  · rename_i hp
    obtain ⟨a, rfl, ha⟩ : ∃ a : Nat, p = a ∧ a ≤ (ls t).length := by
      unfold placeB at hp; simp at hp; exact ⟨p.toNat, by omega, by simp; omega⟩
    obtain ⟨_, hl, hv⟩ := valid_at hp
    obtain ⟨h1, h2, e, h3, h4, h5⟩ := start_of hl hv
    have he := line_end hp h3
    rw [calamusref04_Of.eq t a (by omega)]
    simp only [Option.bind_some]
    rw [calamusref04_End.eq t _ (by omega), h3]
    simp only [Option.bind_some]
    rw [hp, Bool.true_and, Int.toNat_natCast]
    split
    · rename_i hlt
      have : endsB (ls t) a = false := by
        unfold endsB
        have := (end_gt hp h3).1.1 (by omega)
        rw [decide_eq_false (by omega), decide_eq_false this.2]; rfl
      rw [this]; rfl
    · rename_i hlt
      have hae : a = e := by omega
      subst hae
      have : endsB (ls t) a = true := by unfold endsB; simpa using he
      rw [this, calamusref04_Start.eq t _ (by omega), h2]
      simp only [Option.bind_some]
      congr 1
      rw [Bool.eq_iff_iff]; simp; omega
  · rename_i hp
    rw [show placeB (ls t) p = false by simpa using hp]; rfl
theorem rclamp_l0' (t : ByteArray) (ht : t.size ≤ 1000000) (hv : validL (ls t) = true) : ∀ k : Nat, k ≤ t.size → Ev (fun n => calamusref04_Clamp.l0 n t k) (if endsB (ls t) (downTo (ls t) k) = true ∧ lst (ls t) (downTo (ls t) k) < downTo (ls t) k then prevI (ls t) (downTo (ls t) k : Nat) else (downTo (ls t) k : Nat)) := by
  have hit : ∀ k : Nat, k ≤ t.size → placeB (ls t) k = true → Ev (fun n => calamusref04_Clamp.l0 n t k) (if endsB (ls t) k = true ∧ lst (ls t) k < k then prevI (ls t) (k : Nat) else (k : Nat)) := by
    intro k hk hp
    refine Ev.step (fun _ => (by rw [calamusref04_Clamp.l0])) ?_
    rw [calamusref03_Place.eq t k (by omega), rnormal_val t k ht, calamusref03_Prev.eq t k (by omega)]
    simp only [Option.bind_some]
    have hle := lst_le (ls t) k
    refine Ev.pos hp (Ev.ite (fun h => ?_) (fun h => ?_))
    · rw [if_neg (show ¬ (endsB (ls t) k = true ∧ lst (ls t) k < k) from fun hc => by
        unfold normalB at h; rw [hp, Int.toNat_natCast, hc.1] at h; simp at h; omega)]
      exact Ev.ret rfl
    · rw [if_pos (show endsB (ls t) k = true ∧ lst (ls t) k < k by
        unfold normalB at h; rw [hp, Int.toNat_natCast] at h; simp at h; exact ⟨h.1, by omega⟩)]
      exact Ev.ret rfl
  intro k
  induction k with
  | zero => intro hk; exact hit 0 hk (place_zero hv)
  | succ k ih =>
    intro hk
    rcases Bool.eq_false_or_eq_true (placeB (ls t) ((k + 1 : Nat) : Int)) with hp | hp
    · rw [downTo_hit hp]; exact hit (k + 1) hk hp
    · rw [downTo_miss hp]
      refine Ev.step (fun _ => (by rw [calamusref04_Clamp.l0])) ?_
      rw [calamusref03_Place.eq t _ (by omega)]
      simp only [Option.bind_some]
      rw [w64 (n := ((k + 1 : Nat) : Int) - 1) (by omega) (by omega), show ((k + 1 : Nat) : Int) - 1 = k by omega]
      exact Ev.neg (by rw [hp]; decide) (ih (by omega))
theorem rclamp_ev' (t : ByteArray) (p : Int) (ht : t.size ≤ 1000000) : Ev (fun k => calamusref04_Clamp.f k t p) (clampI (ls t) p) := by
  unfold calamusref04_Clamp.f clampI
  rw [calamusref03_Valid.eq t (by omega)]
  simp only [Option.bind_some]
  refine Ev.ite (fun hv => ?_) (fun hv => ?_)
  · rw [if_pos hv]
    have key : ∀ x : Int, x = cutI (ls t) p → Ev (fun k => calamusref04_Clamp.j1 k t x) (let q := downTo (ls t) (cutI (ls t) p); if endsB (ls t) q = true ∧ lst (ls t) q < q then prevI (ls t) q else q) := by
      rintro x rfl
      refine Ev.step (fun _ => (by rw [calamusref04_Clamp.j1])) ?_
      exact rclamp_l0' t ht hv _ (by unfold cutI; rw [ls_len]; omega)
    refine Ev.ite (fun h => ?_) (fun h => ?_)
    · refine Ev.step (fun _ => (by rw [calamusref04_Clamp.j0])) ?_
      exact Ev.neg (by omega) (key _ (by unfold cutI; rw [ls_len]; omega))
    · refine Ev.step (fun _ => (by rw [calamusref04_Clamp.j0])) ?_
      refine Ev.ite (fun h2 => ?_) (fun h2 => ?_)
      · exact key _ (by unfold cutI; rw [ls_len]; omega)
      · exact key _ (by unfold cutI; rw [ls_len]; omega)
  · rw [if_neg hv]; exact Ev.ret rfl
theorem rfirst_l0 (t : ByteArray) (ht : t.size ≤ 1000000) (k : Int) (b : Nat) (hb : b ≤ t.size) (he : endI (ls t) k = b) : ∀ (d p : Nat), b - p ≤ d → p ≤ b → Ev (fun n => calamusref04_First.l0 n t k p) (if p + blk (rowL (ls t) (p, b)) = b then clampI (ls t) b else ((p + blk (rowL (ls t) (p, b)) : Nat) : Int)) := by
  have hbl : b ≤ (ls t).length := by rw [ls_len]; exact hb
  have stop : ∀ p : Nat, p ≤ b → (p = b ∨ p < b ∧ ¬ (byL (ls t) p = 32 ∨ byL (ls t) p = 9)) → Ev (fun n => calamusref04_First.j1 n t k p) (if p + blk (rowL (ls t) (p, b)) = b then clampI (ls t) b else ((p + blk (rowL (ls t) (p, b)) : Nat) : Int)) := by
    intro p hp h
    refine Ev.step (fun _ => (by rw [calamusref04_First.j1])) ?_
    rw [calamusref04_End.eq t k (by omega), he]
    simp only [Option.bind_some]
    rcases h with rfl | ⟨h1, h2⟩
    · rw [blk_nil, if_pos (show p + 0 = p from rfl)]
      exact Ev.pos rfl (Ev.bind (rclamp_ev' t p ht) (Ev.ret rfl))
    · rw [blk_no h1 hbl h2, if_neg (show ¬ p + 0 = b by omega)]
      exact Ev.neg (by omega) (Ev.ret rfl)
  intro d
  induction d with
  | zero =>
    intro p h1 h2
    obtain rfl : p = b := by omega
    refine Ev.step (fun _ => (by rw [calamusref04_First.l0])) ?_
    rw [calamusref04_End.eq t k (by omega), he]
    simp only [Option.bind_some]
    exact Ev.neg (by omega) (stop p (Nat.le_refl _) (.inl rfl))
  | succ d ih =>
    intro p h1 h2
    by_cases hpb : p = b
    · exact ih p (by omega) h2
    · have hn := ih (p + 1) (by omega) (by omega)
      refine Ev.step (fun _ => (by rw [calamusref04_First.l0])) ?_
      rw [calamusref04_End.eq t k (by omega), he, bt_nat t p (by omega)]
      simp only [Option.bind_some]
      rw [w64 (n := (p : Int) + 1) (by omega) (by omega), show (p : Int) + 1 = ((p + 1 : Nat) : Int) by omega]
      have on : (byL (ls t) p = 32 ∨ byL (ls t) p = 9) → Ev (fun n => calamusref04_First.l0 n t k ((p + 1 : Nat) : Int)) (if p + blk (rowL (ls t) (p, b)) = b then clampI (ls t) b else ((p + blk (rowL (ls t) (p, b)) : Nat) : Int)) := by
        intro h
        rw [blk_yes (by omega) hbl h, show p + (blk (rowL (ls t) (p + 1, b)) + 1) = p + 1 + blk (rowL (ls t) (p + 1, b)) by omega]
        exact hn
      refine Ev.pos (by omega) (Ev.pos (by omega) (Ev.pos (by omega) (Ev.ite (fun h => on (.inl h)) (fun h => Ev.ite (fun h3 => on (.inr h3)) (fun h3 => stop p h2 (.inr ⟨by omega, by omega⟩))))))
theorem rfirst_ev (t : ByteArray) (k : Int) (ht : t.size ≤ 1000000) : Ev (fun n => calamusref04_First.f n t k) (firstI (ls t) k) := by
  unfold calamusref04_First.f firstI
  rw [calamusref04_Start.eq t k (by omega)]
  simp only [Option.bind_some]
  cases hl : lineI (ls t) k with
  | none =>
    have hs : startI (ls t) k = -1 := by unfold startI; rw [hl]
    rw [hs]; exact Ev.pos (by omega) (Ev.ret rfl)
  | some x =>
    obtain ⟨a1, a2, a3, _, _⟩ := lineI_le hl
    rw [ls_len] at a2
    have hs : startI (ls t) k = x.1 := by unfold startI; rw [hl]
    have he : endI (ls t) k = x.2 := by unfold endI; rw [hl]
    have hrl : (rowL (ls t) x).length = x.2 - x.1 := rowL_len a1 (by rw [ls_len]; exact a2)
    have key := rfirst_l0 t ht k x.2 a2 he _ x.1 (Nat.le_refl _) a1
    rw [hs]
    show Ev _ (if blk (rowL (ls t) x) = (rowL (ls t) x).length then clampI (ls t) x.2 else ((x.1 + blk (rowL (ls t) x) : Nat) : Int))
    rw [hrl]
    have e : (if x.1 + blk (rowL (ls t) (x.1, x.2)) = x.2 then clampI (ls t) x.2 else ((x.1 + blk (rowL (ls t) (x.1, x.2)) : Nat) : Int)) = (if blk (rowL (ls t) x) = x.2 - x.1 then clampI (ls t) x.2 else ((x.1 + blk (rowL (ls t) x) : Nat) : Int)) := by
      by_cases hc : blk (rowL (ls t) x) = x.2 - x.1
      · rw [if_pos hc, if_pos (show x.1 + blk (rowL (ls t) (x.1, x.2)) = x.2 by have : blk (rowL (ls t) (x.1, x.2)) = x.2 - x.1 := hc; omega)]
      · rw [if_neg hc, if_neg (show ¬ x.1 + blk (rowL (ls t) (x.1, x.2)) = x.2 by intro h; exact hc (by have : blk (rowL (ls t) (x.1, x.2)) = blk (rowL (ls t) x) := rfl; omega))]
    rw [e] at key
    exact Ev.neg (by omega) key
end Go.Proofs.YtgapekdcoedmgaaDoor
/- The statement LineNormal in plain words. -/
namespace Go.Proofs.YtgapekdcoedmgaaDoor
open Go.RowKit
set_option linter.unusedVariables false
set_option linter.unusedSimpArgs false
open Go.RowKit Go.Proofs.YtgapekdcoedmgaaDoor.QC Go.Proofs.YtgapekdcoedmgaaDoorW.PrintWords Go.Proofs.YtgapekdcoedmgaaDoorW.PrintMore
theorem lives04 : calamuslaw04_lives.f = some true := by
  have h1 : lcountI (ls ⟨#[97, 98, 10, 10, 99, 100]⟩) = 3 := by decide +kernel
  have h2 : clampI (ls ⟨#[97, 98, 10, 10, 99, 100]⟩) 2 = 1 := by decide +kernel
  have h3 : clampI (ls ⟨#[97, 98, 10, 10, 99, 100]⟩) 3 = 3 := by decide +kernel
  have h4 : clampI (ls ⟨#[97, 98, 10, 10, 99, 100]⟩) 9 = 5 := by decide +kernel
  unfold calamuslaw04_lives.f
  rw [line_Count.eq _ (by decide), line_Clamp.eq _ 2 (by decide), line_Clamp.eq _ 3 (by decide), line_Clamp.eq _ 9 (by decide), h1, h2, h3, h4]
  rfl
theorem lives04' : Ev (fun _ => calamuslaw04_lives.f.bind fun t => some t) true := ⟨0, fun _ _ => by rw [lives04]; rfl⟩
theorem LineNormal_p (t : ByteArray) (p k : Int) (ht : t.size ≤ 140737488351232) (hp : -9223372036854775808 ≤ p ∧ p ≤ 9223372036854775807) (hk : -9223372036854775808 ≤ k ∧ k ≤ 9223372036854775807) : ∃ m, calamuslaw04_LineNormal.f m t p k = some true := by
  refine Ev.at ?_
  unfold calamuslaw04_LineNormal.f
  refine Ev.ite (fun _ => lives04') (fun h => ?_)
  have hz : t.size ≤ 1000000 := by omega
  refine Ev.call (line_Normal.eq t p (by omega)) (Ev.call (rnormal_val t p hz) (Ev.pos (by simp) (Ev.call (line_Clamp.eq t p (by omega)) (Ev.bind (rclamp_ev' t p hz) (Ev.pos rfl (Ev.call (first_val t k hz) (Ev.bind (rfirst_ev t k hz) (Ev.pos rfl lives04'))))))))
end Go.Proofs.YtgapekdcoedmgaaDoor
-- Printed by this work's xp.py out of the translation. Lean checks it.
namespace Go.Proofs.YtgapekdcoedmgaaDoor.QC
open Go.RowKit Go.Proofs.YtgapekdcoedmgaaDoorW.PrintWords Go.Proofs.YtgapekdcoedmgaaDoorW.PrintLast Go.Proofs.YtgapekdcoedmgaaDoorW.PrintMore
attribute [local go_sem] max2_int min2_int max_two min_two max_three min_three max_four min_four   -- for this text's walks alone
set_option linter.unusedVariables false
set_option linter.unusedSimpArgs false


/-! ### calamuslaw04_LineLeads -/
mutual
def calamuslaw04_LineLeads.j0 : Nat → ByteArray → Int → Bool → Option (Bool)
  | 0, _, _, _ => none
  | k + 1, x0, x1, x14 => if x14 = true then ((calamuslaw04_lives.f).bind fun t132 => (some t132)) else ((line_Clamp.f x0 x1).bind fun t133 => ((line_Normal.f x0 t133).bind fun t134 => (if t134 = true then ((line_Clamp.f x0 t133).bind fun t135 => (if t135 = t133 then ((line_Normal.f x0 x1).bind fun t136 => (if t136 = true then (calamuslaw04_LineLeads.j1 k x0 t133 (t133 != x1)) else (calamuslaw04_LineLeads.j1 k x0 t133 false))) else (calamuslaw04_LineLeads.j1 k x0 t133 true))) else (calamuslaw04_LineLeads.j1 k x0 t133 true))))
def calamuslaw04_LineLeads.j1 : Nat → ByteArray → Int → Bool → Option (Bool)
  | 0, _, _, _ => none
  | k + 1, x0, x5, x39 => if x39 = true then (some false) else ((line_Of.f x0 x5).bind fun t137 => ((line_Column.f x0 x5).bind fun t138 => ((line_At.f x0 t137 t138).bind fun t139 => (if t139 = x5 then ((line_First.f x0 t137).bind fun t140 => ((line_Of.f x0 t140).bind fun t141 => (if t141 = t137 then ((line_First.f x0 t137).bind fun t142 => ((line_Normal.f x0 t142).bind fun t143 => (calamuslaw04_LineLeads.j2 k x0 t137 (!t143)))) else (calamuslaw04_LineLeads.j2 k x0 t137 true)))) else (calamuslaw04_LineLeads.j2 k x0 t137 true)))))
def calamuslaw04_LineLeads.j2 : Nat → ByteArray → Int → Bool → Option (Bool)
  | 0, _, _, _ => none
  | k + 1, x0, x6, x67 => if x67 = true then (some false) else ((line_At.f x0 x6 (-1)).bind fun t144 => ((line_Start.f x0 x6).bind fun t145 => (if t144 = t145 then ((line_At.f x0 x6 (wrap64 ((x0.size : Int) + 1))).bind fun t146 => ((line_End.f x0 x6).bind fun t147 => (if t146 = t147 then ((calamuslaw04_lives.f).bind fun t148 => (some t148)) else (some false)))) else (some false))))
end
def calamuslaw04_LineLeads.f (k : Nat) (a0 : ByteArray) (a1 : Int) : Option (Bool) := if (a0.size : Int) > 1000 then (calamuslaw04_LineLeads.j0 k a0 a1 true) else ((utf_Valid.f a0).bind fun t131 => (calamuslaw04_LineLeads.j0 k a0 a1 (!t131)))
theorem calamuslaw04_LineLeads.mono_l : ∀ k, (∀ y0 y1 y2, LeO (calamuslaw04_LineLeads.j0 k y0 y1 y2) (calamuslaw04_LineLeads.j0 (k + 1) y0 y1 y2)) ∧ (∀ y0 y1 y2, LeO (calamuslaw04_LineLeads.j1 k y0 y1 y2) (calamuslaw04_LineLeads.j1 (k + 1) y0 y1 y2)) ∧ (∀ y0 y1 y2, LeO (calamuslaw04_LineLeads.j2 k y0 y1 y2) (calamuslaw04_LineLeads.j2 (k + 1) y0 y1 y2))
  | 0 => ⟨fun _ _ _ r h => by simp [calamuslaw04_LineLeads.j0] at h, fun _ _ _ r h => by simp [calamuslaw04_LineLeads.j1] at h, fun _ _ _ r h => by simp [calamuslaw04_LineLeads.j2] at h⟩
  | k + 1 => by
    obtain ⟨ih0, ih1, ih2⟩ := calamuslaw04_LineLeads.mono_l k
    refine ⟨?_, ?_, ?_⟩
    · intro y0 y1 y2
      unfold calamuslaw04_LineLeads.j0
      repeat' first
      | (with_reducible exact ih0 _ _ _)
      | (with_reducible exact ih1 _ _ _)
      | (with_reducible exact ih2 _ _ _)
      | (with_reducible exact LeO.refl _)
      | (with_reducible exact LeO.none _)
      | (with_reducible refine LeO.ite ?_ ?_)
      | (with_reducible refine LeO.bind ?_ (fun _ => ?_))
      | exact ih0 _ _ _
      | exact ih1 _ _ _
      | exact ih2 _ _ _
      | exact LeO.none _
      | refine LeO.ite ?_ ?_
      | refine LeO.bind ?_ (fun _ => ?_)
    · intro y0 y1 y2
      unfold calamuslaw04_LineLeads.j1
      repeat' first
      | (with_reducible exact ih0 _ _ _)
      | (with_reducible exact ih1 _ _ _)
      | (with_reducible exact ih2 _ _ _)
      | (with_reducible exact LeO.refl _)
      | (with_reducible exact LeO.none _)
      | (with_reducible refine LeO.ite ?_ ?_)
      | (with_reducible refine LeO.bind ?_ (fun _ => ?_))
      | exact ih0 _ _ _
      | exact ih1 _ _ _
      | exact ih2 _ _ _
      | exact LeO.none _
      | refine LeO.ite ?_ ?_
      | refine LeO.bind ?_ (fun _ => ?_)
    · intro y0 y1 y2
      unfold calamuslaw04_LineLeads.j2
      repeat' first
      | (with_reducible exact ih0 _ _ _)
      | (with_reducible exact ih1 _ _ _)
      | (with_reducible exact ih2 _ _ _)
      | (with_reducible exact LeO.refl _)
      | (with_reducible exact LeO.none _)
      | (with_reducible refine LeO.ite ?_ ?_)
      | (with_reducible refine LeO.bind ?_ (fun _ => ?_))
      | exact ih0 _ _ _
      | exact ih1 _ _ _
      | exact ih2 _ _ _
      | exact LeO.none _
      | refine LeO.ite ?_ ?_
      | refine LeO.bind ?_ (fun _ => ?_)
theorem calamuslaw04_LineLeads.mono : ∀ a0 a1 k, LeO (calamuslaw04_LineLeads.f k a0 a1) (calamuslaw04_LineLeads.f (k + 1) a0 a1) := by
  intro a0 a1 k
  obtain ⟨ih0, ih1, ih2⟩ := calamuslaw04_LineLeads.mono_l k
  unfold calamuslaw04_LineLeads.f
  repeat' first
      | (with_reducible exact ih0 _ _ _)
      | (with_reducible exact ih1 _ _ _)
      | (with_reducible exact ih2 _ _ _)
      | (with_reducible exact LeO.refl _)
      | (with_reducible exact LeO.none _)
      | (with_reducible refine LeO.ite ?_ ?_)
      | (with_reducible refine LeO.bind ?_ (fun _ => ?_))
      | exact ih0 _ _ _
      | exact ih1 _ _ _
      | exact ih2 _ _ _
      | exact LeO.none _
      | refine LeO.ite ?_ ?_
      | refine LeO.bind ?_ (fun _ => ?_)
set_option maxHeartbeats 8000000 in
set_option maxRecDepth 100000 in
theorem calamuslaw04_LineLeads.calls (k : Nat) (a0 : ByteArray) (a1 : Int) (r : Bool) (w : World) (h : calamuslaw04_LineLeads.f k a0 a1 = some r) :
    Calls Tryd.prog 5 #[.string a0, .int .i64 a1] w fun e w' => e = .returned (.bool r) ∧ Below w.heap.size w w' := by
  have HB := Aside0.mk (Below.refl w.heap.size w)
  have H : (if (a0.size : Int) > 1000 then (calamuslaw04_LineLeads.j0 k a0 a1 true) else ((utf_Valid.f a0).bind fun t131 => (calamuslaw04_LineLeads.j0 k a0 a1 (!t131)))) = some r := h
  clear h
  have HC3 := Aside0.mk H
  clear H
  go_enter Tryd.func5, Tryd.ntmps5
  go_upto_region 1 with (fail)
  go_cut [14] (fun v14 wc => ∃ (kq : Nat) (x14_2 : Bool), v14 = .bool x14_2 ∧ Aside0 (calamuslaw04_LineLeads.j0 kq a0 a1 x14_2 = some r) ∧ Aside0 (kq ≤ k) ∧ Aside0 (Below w.heap.size w wc))
  case first =>
    have H := HC3.out
    clear HC3
    by_cases c4 : (a0.size : Int) > 1000
    · rw [if_pos c4] at H
      have c4b0 : decide (1000 < (a0.size : Int)) = true := decide_eq_true c4
      have c4b1 : decide (1000 < a0.size) = true := decide_eq_true (by omega)
      clear c4
      (first | rw [c4b0] | (simp only [i64_w, i32_w]; rw [c4b0]) | skip)
      have H' := Aside0.mk H
      clear H
      go_wp2
      go_meet
      case rel => exact ⟨_, (true), (by first | rfl | (simp; done) | (simp [*]; done)), H', ⟨by first | omega | exact Nat.le_refl _⟩, ⟨by repeat (first | (with_reducible first | exact HB.out | apply below_alloc | apply pw_below_drewN | apply below_drew1) | exact HB.out)⟩⟩
    · rw [if_neg c4] at H
      have c4b0 : decide (1000 < (a0.size : Int)) = false := decide_eq_false c4
      have c4b1 : decide (1000 < a0.size) = false := decide_eq_false (by omega)
      clear c4
      (first | rw [c4b0] | (simp only [i64_w, i32_w]; rw [c4b0]) | skip)
      replace H := Option.bind_eq_some_iff.mp H
      obtain ⟨t131, A50, H⟩ := H
      replace H : (calamuslaw04_LineLeads.j0 k a0 a1 (!t131)) = some r := H
      have A5 := Aside0.mk A50
      clear A50
      have H' := Aside0.mk H
      clear H
      go_wp2_with (first | (go_at_call 22; (with_reducible refine (utf_Valid.calls a0 t131 _ A5.out).mono ?_); rintro e w6 ⟨rfl, hb⟩; have n0_ := Aside0.mk (below_step (by repeat (first | (with_reducible first | exact HB.out | apply below_alloc | apply pw_below_drewN | apply below_drew1) | exact HB.out)) hb); clear HB; have HB := n0_; clear n0_; (try clear hb); (try clear hb2); (try clear hk); (try clear hi)))
      go_meet
      case rel => exact ⟨_, (!t131), (by first | rfl | (simp; done) | (simp [*]; done)), H', ⟨by first | omega | exact Nat.le_refl _⟩, ⟨by repeat (first | (with_reducible first | exact HB.out | apply below_alloc | apply pw_below_drewN | apply below_drew1) | exact HB.out)⟩⟩
  case rest =>
    clear HC3
    try clear p2
    try clear c4
    try clear c4b0
    try clear c4b1
    try clear c5
    obtain ⟨kq, x14_2, rfl, HA, HJ2, HB⟩ := hcut
    cases kq with
    | zero => exact absurd HA.out (by simp [calamuslaw04_LineLeads.j0])
    | succ kj2 =>
      have H := HA.out
      clear HA
      simp only [calamuslaw04_LineLeads.j0] at H
      by_cases c7 : x14_2 = true
      · subst c7
        have H1 : ((calamuslaw04_lives.f).bind fun t132 => (some t132)) = some r := by rw [if_pos rfl] at H; exact H
        clear H
        have H := H1
        clear H1
        replace H := Option.bind_eq_some_iff.mp H
        obtain ⟨t132, A80, H⟩ := H
        replace H : (some t132) = some r := H
        have A8 := Aside0.mk A80
        clear A80
        obtain rfl := Option.some.inj H
        go_wp2_with (first | ((with_reducible refine gate_callee (f := 15) rfl ?_); refine goesL_ (some 15) rfl rfl Tryd.func15 (by kernel_rfl) rfl #[] rfl (by (try simp only [List.map_toArray, List.map_cons, List.map_nil]); first | done | rfl | (simp only [List.length_drop, List.length_take]; rfl)) ?_; (with_reducible refine (calamuslaw04_lives.calls  t132 _ A8.out).mono ?_); rintro e w9 ⟨rfl, hb⟩; refine ⟨_, rfl, ?_⟩; have n0_ := Aside0.mk (below_step (by repeat (first | (with_reducible first | exact HB.out | apply below_alloc | apply pw_below_drewN | apply below_drew1) | exact HB.out)) hb); clear HB; have HB := n0_; clear n0_; (try clear hb); (try clear hb2); (try clear hk); (try clear hi)))
        go_ret
        exact ⟨by first | rfl | (simp [errW_none, errW_some] <;> rfl) | (simp [*, errW_none, errW_some] <;> rfl), by repeat (first | (with_reducible first | exact HB.out | apply below_alloc | apply pw_below_drewN | apply below_drew1) | exact HB.out)⟩
      · replace c7 := Bool.eq_false_iff.mpr c7
        subst c7
        have H1 : ((line_Clamp.f a0 a1).bind fun t133 => ((line_Normal.f a0 t133).bind fun t134 => (if t134 = true then ((line_Clamp.f a0 t133).bind fun t135 => (if t135 = t133 then ((line_Normal.f a0 a1).bind fun t136 => (if t136 = true then (calamuslaw04_LineLeads.j1 kj2 a0 t133 (t133 != a1)) else (calamuslaw04_LineLeads.j1 kj2 a0 t133 false))) else (calamuslaw04_LineLeads.j1 kj2 a0 t133 true))) else (calamuslaw04_LineLeads.j1 kj2 a0 t133 true)))) = some r := by rw [if_neg (show ¬ (false = true) by decide)] at H; exact H
        clear H
        have H := H1
        clear H1
        replace H := Option.bind_eq_some_iff.mp H
        obtain ⟨t133, A100, H⟩ := H
        replace H : ((line_Normal.f a0 t133).bind fun t134 => (if t134 = true then ((line_Clamp.f a0 t133).bind fun t135 => (if t135 = t133 then ((line_Normal.f a0 a1).bind fun t136 => (if t136 = true then (calamuslaw04_LineLeads.j1 kj2 a0 t133 (t133 != a1)) else (calamuslaw04_LineLeads.j1 kj2 a0 t133 false))) else (calamuslaw04_LineLeads.j1 kj2 a0 t133 true))) else (calamuslaw04_LineLeads.j1 kj2 a0 t133 true))) = some r := H
        have A10 := Aside0.mk A100
        clear A100
        have HC11 := Aside0.mk H
        clear H
        go_upto_region 4 with (first | ((with_reducible refine gate_callee (f := 18) rfl ?_); refine goesL_ (some 18) rfl rfl Tryd.func18 (by kernel_rfl) rfl #[.string a0, .int .i64 a1] rfl (by (try simp only [List.map_toArray, List.map_cons, List.map_nil]); first | done | rfl | (simp only [List.length_drop, List.length_take]; rfl)) ?_; (with_reducible refine (line_Clamp.calls a0 a1 t133 _ A10.out).mono ?_); rintro e w12 ⟨rfl, hb⟩; refine ⟨_, rfl, ?_⟩; have n0_ := Aside0.mk (below_step (by repeat (first | (with_reducible first | exact HB.out | apply below_alloc | apply pw_below_drewN | apply below_drew1) | exact HB.out)) hb); clear HB; have HB := n0_; clear n0_; (try clear hb); (try clear hb2); (try clear hk); (try clear hi)))
        (try simp only [Act.put, List.setIfInBounds_toArray, List.set_cons_zero, List.set_cons_succ])
        go_cut [39] (fun v39 wc => ∃ (kq : Nat) (x39_10 : Bool), v39 = .bool x39_10 ∧ Aside0 (calamuslaw04_LineLeads.j1 kq a0 t133 x39_10 = some r) ∧ Aside0 (kq ≤ kj2) ∧ Aside0 (Below w.heap.size w wc))
        case first =>
          have H := HC11.out
          clear HC11
          replace H := Option.bind_eq_some_iff.mp H
          obtain ⟨t134, A130, H⟩ := H
          replace H : (if t134 = true then ((line_Clamp.f a0 t133).bind fun t135 => (if t135 = t133 then ((line_Normal.f a0 a1).bind fun t136 => (if t136 = true then (calamuslaw04_LineLeads.j1 kj2 a0 t133 (t133 != a1)) else (calamuslaw04_LineLeads.j1 kj2 a0 t133 false))) else (calamuslaw04_LineLeads.j1 kj2 a0 t133 true))) else (calamuslaw04_LineLeads.j1 kj2 a0 t133 true)) = some r := H
          have A13 := Aside0.mk A130
          clear A130
          by_cases c14 : t134 = true
          · subst c14
            have H1 : ((line_Clamp.f a0 t133).bind fun t135 => (if t135 = t133 then ((line_Normal.f a0 a1).bind fun t136 => (if t136 = true then (calamuslaw04_LineLeads.j1 kj2 a0 t133 (t133 != a1)) else (calamuslaw04_LineLeads.j1 kj2 a0 t133 false))) else (calamuslaw04_LineLeads.j1 kj2 a0 t133 true))) = some r := by rw [if_pos rfl] at H; exact H
            clear H
            have H := H1
            clear H1
            replace H := Option.bind_eq_some_iff.mp H
            obtain ⟨t135, A150, H⟩ := H
            replace H : (if t135 = t133 then ((line_Normal.f a0 a1).bind fun t136 => (if t136 = true then (calamuslaw04_LineLeads.j1 kj2 a0 t133 (t133 != a1)) else (calamuslaw04_LineLeads.j1 kj2 a0 t133 false))) else (calamuslaw04_LineLeads.j1 kj2 a0 t133 true)) = some r := H
            have A15 := Aside0.mk A150
            clear A150
            by_cases c16 : t135 = t133
            · rw [if_pos c16] at H
              have c16b0 : (t135 == t133) = true := beq_iff_eq.mpr c16
              have c16b1 : (t135 != t133) = false := bne_eq_false_iff_eq.mpr c16
              clear c16
              (first | rw [c16b0] | (simp only [i64_w, i32_w]; rw [c16b0]) | skip)
              replace H := Option.bind_eq_some_iff.mp H
              obtain ⟨t136, A170, H⟩ := H
              replace H : (if t136 = true then (calamuslaw04_LineLeads.j1 kj2 a0 t133 (t133 != a1)) else (calamuslaw04_LineLeads.j1 kj2 a0 t133 false)) = some r := H
              have A17 := Aside0.mk A170
              clear A170
              by_cases c18 : t136 = true
              · subst c18
                have H1 : (calamuslaw04_LineLeads.j1 kj2 a0 t133 (t133 != a1)) = some r := by rw [if_pos rfl] at H; exact H
                clear H
                have H := H1
                clear H1
                have H' := Aside0.mk H
                clear H
                go_wp2_with (first | ((with_reducible refine gate_callee (f := 16) rfl ?_); refine goesL_ (some 21) rfl rfl Tryd.func16 (by kernel_rfl) rfl #[.string a0, .int .i64 t133] rfl (by (try simp only [List.map_toArray, List.map_cons, List.map_nil]); first | done | rfl | (simp only [List.length_drop, List.length_take]; rfl)) ?_; (with_reducible refine (line_Normal.calls a0 t133 true _ A13.out).mono ?_); rintro e w19 ⟨rfl, hb⟩; refine ⟨_, rfl, ?_⟩; have n0_ := Aside0.mk (below_step (by repeat (first | (with_reducible first | exact HB.out | apply below_alloc | apply pw_below_drewN | apply below_drew1) | exact HB.out)) hb); clear HB; have HB := n0_; clear n0_; (try clear hb); (try clear hb2); (try clear hk); (try clear hi)) | (go_at_call 18; (with_reducible refine (line_Clamp.calls a0 t133 t135 _ A15.out).mono ?_); rintro e w20 ⟨rfl, hb⟩; have n0_ := Aside0.mk (below_step (by repeat (first | (with_reducible first | exact HB.out | apply below_alloc | apply pw_below_drewN | apply below_drew1) | exact HB.out)) hb); clear HB; have HB := n0_; clear n0_; (try clear hb); (try clear hb2); (try clear hk); (try clear hi)) | (go_at_call 16; (with_reducible refine (line_Normal.calls a0 a1 true _ A17.out).mono ?_); rintro e w21 ⟨rfl, hb⟩; have n0_ := Aside0.mk (below_step (by repeat (first | (with_reducible first | exact HB.out | apply below_alloc | apply pw_below_drewN | apply below_drew1) | exact HB.out)) hb); clear HB; have HB := n0_; clear n0_; (try clear hb); (try clear hb2); (try clear hk); (try clear hi)))
                go_meet
                case rel => exact ⟨_, ((t133 != a1)), (by first | rfl | (simp; done) | (simp [*]; done)), H', ⟨by have := HJ2.out; first | omega | exact Nat.le_refl _⟩, ⟨by repeat (first | (with_reducible first | exact HB.out | apply below_alloc | apply pw_below_drewN | apply below_drew1) | exact HB.out)⟩⟩
              · replace c18 := Bool.eq_false_iff.mpr c18
                subst c18
                have H1 : (calamuslaw04_LineLeads.j1 kj2 a0 t133 false) = some r := by rw [if_neg (show ¬ (false = true) by decide)] at H; exact H
                clear H
                have H := H1
                clear H1
                have H' := Aside0.mk H
                clear H
                go_wp2_with (first | ((with_reducible refine gate_callee (f := 16) rfl ?_); refine goesL_ (some 21) rfl rfl Tryd.func16 (by kernel_rfl) rfl #[.string a0, .int .i64 t133] rfl (by (try simp only [List.map_toArray, List.map_cons, List.map_nil]); first | done | rfl | (simp only [List.length_drop, List.length_take]; rfl)) ?_; (with_reducible refine (line_Normal.calls a0 t133 true _ A13.out).mono ?_); rintro e w22 ⟨rfl, hb⟩; refine ⟨_, rfl, ?_⟩; have n0_ := Aside0.mk (below_step (by repeat (first | (with_reducible first | exact HB.out | apply below_alloc | apply pw_below_drewN | apply below_drew1) | exact HB.out)) hb); clear HB; have HB := n0_; clear n0_; (try clear hb); (try clear hb2); (try clear hk); (try clear hi)) | (go_at_call 18; (with_reducible refine (line_Clamp.calls a0 t133 t135 _ A15.out).mono ?_); rintro e w23 ⟨rfl, hb⟩; have n0_ := Aside0.mk (below_step (by repeat (first | (with_reducible first | exact HB.out | apply below_alloc | apply pw_below_drewN | apply below_drew1) | exact HB.out)) hb); clear HB; have HB := n0_; clear n0_; (try clear hb); (try clear hb2); (try clear hk); (try clear hi)) | (go_at_call 16; (with_reducible refine (line_Normal.calls a0 a1 false _ A17.out).mono ?_); rintro e w24 ⟨rfl, hb⟩; have n0_ := Aside0.mk (below_step (by repeat (first | (with_reducible first | exact HB.out | apply below_alloc | apply pw_below_drewN | apply below_drew1) | exact HB.out)) hb); clear HB; have HB := n0_; clear n0_; (try clear hb); (try clear hb2); (try clear hk); (try clear hi)))
                go_meet
                case rel => exact ⟨_, (false), (by first | rfl | (simp; done) | (simp [*]; done)), H', ⟨by have := HJ2.out; first | omega | exact Nat.le_refl _⟩, ⟨by repeat (first | (with_reducible first | exact HB.out | apply below_alloc | apply pw_below_drewN | apply below_drew1) | exact HB.out)⟩⟩
            · rw [if_neg c16] at H
              have c16b0 : (t135 == t133) = false := beq_eq_false_iff_ne.mpr c16
              have c16b1 : (t135 != t133) = true := bne_iff_ne.mpr c16
              (first | rw [c16b0] | (simp only [i64_w, i32_w]; rw [c16b0]) | skip)
              have H' := Aside0.mk H
              clear H
              go_wp2_with (first | ((with_reducible refine gate_callee (f := 16) rfl ?_); refine goesL_ (some 21) rfl rfl Tryd.func16 (by kernel_rfl) rfl #[.string a0, .int .i64 t133] rfl (by (try simp only [List.map_toArray, List.map_cons, List.map_nil]); first | done | rfl | (simp only [List.length_drop, List.length_take]; rfl)) ?_; (with_reducible refine (line_Normal.calls a0 t133 true _ A13.out).mono ?_); rintro e w25 ⟨rfl, hb⟩; refine ⟨_, rfl, ?_⟩; have n0_ := Aside0.mk (below_step (by repeat (first | (with_reducible first | exact HB.out | apply below_alloc | apply pw_below_drewN | apply below_drew1) | exact HB.out)) hb); clear HB; have HB := n0_; clear n0_; (try clear hb); (try clear hb2); (try clear hk); (try clear hi)) | (go_at_call 18; (with_reducible refine (line_Clamp.calls a0 t133 t135 _ A15.out).mono ?_); rintro e w26 ⟨rfl, hb⟩; have n0_ := Aside0.mk (below_step (by repeat (first | (with_reducible first | exact HB.out | apply below_alloc | apply pw_below_drewN | apply below_drew1) | exact HB.out)) hb); clear HB; have HB := n0_; clear n0_; (try clear hb); (try clear hb2); (try clear hk); (try clear hi)))
              go_meet
              case rel => exact ⟨_, (true), (by first | rfl | (simp; done) | (simp [*]; done)), H', ⟨by have := HJ2.out; first | omega | exact Nat.le_refl _⟩, ⟨by repeat (first | (with_reducible first | exact HB.out | apply below_alloc | apply pw_below_drewN | apply below_drew1) | exact HB.out)⟩⟩
          · replace c14 := Bool.eq_false_iff.mpr c14
            subst c14
            have H1 : (calamuslaw04_LineLeads.j1 kj2 a0 t133 true) = some r := by rw [if_neg (show ¬ (false = true) by decide)] at H; exact H
            clear H
            have H := H1
            clear H1
            have H' := Aside0.mk H
            clear H
            go_wp2_with (first | ((with_reducible refine gate_callee (f := 16) rfl ?_); refine goesL_ (some 21) rfl rfl Tryd.func16 (by kernel_rfl) rfl #[.string a0, .int .i64 t133] rfl (by (try simp only [List.map_toArray, List.map_cons, List.map_nil]); first | done | rfl | (simp only [List.length_drop, List.length_take]; rfl)) ?_; (with_reducible refine (line_Normal.calls a0 t133 false _ A13.out).mono ?_); rintro e w27 ⟨rfl, hb⟩; refine ⟨_, rfl, ?_⟩; have n0_ := Aside0.mk (below_step (by repeat (first | (with_reducible first | exact HB.out | apply below_alloc | apply pw_below_drewN | apply below_drew1) | exact HB.out)) hb); clear HB; have HB := n0_; clear n0_; (try clear hb); (try clear hb2); (try clear hk); (try clear hi)))
            go_meet
            case rel => exact ⟨_, (true), (by first | rfl | (simp; done) | (simp [*]; done)), H', ⟨by have := HJ2.out; first | omega | exact Nat.le_refl _⟩, ⟨by repeat (first | (with_reducible first | exact HB.out | apply below_alloc | apply pw_below_drewN | apply below_drew1) | exact HB.out)⟩⟩
        case rest =>
          clear HC11
          try clear c1
          try clear p2
          try clear c4
          try clear c4b0
          try clear c4b1
          try clear c5
          try clear c7
          try clear c14
          try clear c15
          try clear c16
          try clear c16b0
          try clear c16b1
          try clear c18
          try clear p2
          obtain ⟨kq, x39_10, rfl, HA, HJ10, HB⟩ := hcut
          cases kq with
          | zero => exact absurd HA.out (by simp [calamuslaw04_LineLeads.j1])
          | succ kj10 =>
            have H := HA.out
            clear HA
            simp only [calamuslaw04_LineLeads.j1] at H
            by_cases c28 : x39_10 = true
            · subst c28
              have H1 : (some false) = some r := by rw [if_pos rfl] at H; exact H
              clear H
              have H := H1
              clear H1
              obtain rfl := Option.some.inj H
              go_wp2
              go_ret
              exact ⟨by first | rfl | (simp [errW_none, errW_some] <;> rfl) | (simp [*, errW_none, errW_some] <;> rfl), by repeat (first | (with_reducible first | exact HB.out | apply below_alloc | apply pw_below_drewN | apply below_drew1) | exact HB.out)⟩
            · replace c28 := Bool.eq_false_iff.mpr c28
              subst c28
              have H1 : ((line_Of.f a0 t133).bind fun t137 => ((line_Column.f a0 t133).bind fun t138 => ((line_At.f a0 t137 t138).bind fun t139 => (if t139 = t133 then ((line_First.f a0 t137).bind fun t140 => ((line_Of.f a0 t140).bind fun t141 => (if t141 = t137 then ((line_First.f a0 t137).bind fun t142 => ((line_Normal.f a0 t142).bind fun t143 => (calamuslaw04_LineLeads.j2 kj10 a0 t137 (!t143)))) else (calamuslaw04_LineLeads.j2 kj10 a0 t137 true)))) else (calamuslaw04_LineLeads.j2 kj10 a0 t137 true))))) = some r := by rw [if_neg (show ¬ (false = true) by decide)] at H; exact H
              clear H
              have H := H1
              clear H1
              replace H := Option.bind_eq_some_iff.mp H
              obtain ⟨t137, A290, H⟩ := H
              replace H : ((line_Column.f a0 t133).bind fun t138 => ((line_At.f a0 t137 t138).bind fun t139 => (if t139 = t133 then ((line_First.f a0 t137).bind fun t140 => ((line_Of.f a0 t140).bind fun t141 => (if t141 = t137 then ((line_First.f a0 t137).bind fun t142 => ((line_Normal.f a0 t142).bind fun t143 => (calamuslaw04_LineLeads.j2 kj10 a0 t137 (!t143)))) else (calamuslaw04_LineLeads.j2 kj10 a0 t137 true)))) else (calamuslaw04_LineLeads.j2 kj10 a0 t137 true)))) = some r := H
              have A29 := Aside0.mk A290
              clear A290
              have HC30 := Aside0.mk H
              clear H
              go_upto_region 7 with (first | ((with_reducible refine gate_callee (f := 23) rfl ?_); refine goesL_ (some 42) rfl rfl Tryd.func23 (by kernel_rfl) rfl #[.string a0, .int .i64 t133] rfl (by (try simp only [List.map_toArray, List.map_cons, List.map_nil]); first | done | rfl | (simp only [List.length_drop, List.length_take]; rfl)) ?_; (with_reducible refine (line_Of.calls a0 t133 t137 _ A29.out).mono ?_); rintro e w31 ⟨rfl, hb⟩; refine ⟨_, rfl, ?_⟩; have n0_ := Aside0.mk (below_step (by repeat (first | (with_reducible first | exact HB.out | apply below_alloc | apply pw_below_drewN | apply below_drew1) | exact HB.out)) hb); clear HB; have HB := n0_; clear n0_; (try clear hb); (try clear hb2); (try clear hk); (try clear hi)))
              (try simp only [Act.put, List.setIfInBounds_toArray, List.set_cons_zero, List.set_cons_succ])
              go_cut [67] (fun v67 wc => ∃ (kq : Nat) (x67_29 : Bool), v67 = .bool x67_29 ∧ Aside0 (calamuslaw04_LineLeads.j2 kq a0 t137 x67_29 = some r) ∧ Aside0 (kq ≤ kj10) ∧ Aside0 (Below w.heap.size w wc))
              case first =>
                have H := HC30.out
                clear HC30
                replace H := Option.bind_eq_some_iff.mp H
                obtain ⟨t138, A320, H⟩ := H
                replace H : ((line_At.f a0 t137 t138).bind fun t139 => (if t139 = t133 then ((line_First.f a0 t137).bind fun t140 => ((line_Of.f a0 t140).bind fun t141 => (if t141 = t137 then ((line_First.f a0 t137).bind fun t142 => ((line_Normal.f a0 t142).bind fun t143 => (calamuslaw04_LineLeads.j2 kj10 a0 t137 (!t143)))) else (calamuslaw04_LineLeads.j2 kj10 a0 t137 true)))) else (calamuslaw04_LineLeads.j2 kj10 a0 t137 true))) = some r := H
                have A32 := Aside0.mk A320
                clear A320
                replace H := Option.bind_eq_some_iff.mp H
                obtain ⟨t139, A330, H⟩ := H
                replace H : (if t139 = t133 then ((line_First.f a0 t137).bind fun t140 => ((line_Of.f a0 t140).bind fun t141 => (if t141 = t137 then ((line_First.f a0 t137).bind fun t142 => ((line_Normal.f a0 t142).bind fun t143 => (calamuslaw04_LineLeads.j2 kj10 a0 t137 (!t143)))) else (calamuslaw04_LineLeads.j2 kj10 a0 t137 true)))) else (calamuslaw04_LineLeads.j2 kj10 a0 t137 true)) = some r := H
                have A33 := Aside0.mk A330
                clear A330
                by_cases c34 : t139 = t133
                · rw [if_pos c34] at H
                  have c34b0 : (t139 == t133) = true := beq_iff_eq.mpr c34
                  have c34b1 : (t139 != t133) = false := bne_eq_false_iff_eq.mpr c34
                  clear c34
                  (first | rw [c34b0] | (simp only [i64_w, i32_w]; rw [c34b0]) | skip)
                  replace H := Option.bind_eq_some_iff.mp H
                  obtain ⟨t140, A350, H⟩ := H
                  replace H : ((line_Of.f a0 t140).bind fun t141 => (if t141 = t137 then ((line_First.f a0 t137).bind fun t142 => ((line_Normal.f a0 t142).bind fun t143 => (calamuslaw04_LineLeads.j2 kj10 a0 t137 (!t143)))) else (calamuslaw04_LineLeads.j2 kj10 a0 t137 true))) = some r := H
                  have A35 := Aside0.mk A350
                  clear A350
                  replace H := Option.bind_eq_some_iff.mp H
                  obtain ⟨t141, A360, H⟩ := H
                  replace H : (if t141 = t137 then ((line_First.f a0 t137).bind fun t142 => ((line_Normal.f a0 t142).bind fun t143 => (calamuslaw04_LineLeads.j2 kj10 a0 t137 (!t143)))) else (calamuslaw04_LineLeads.j2 kj10 a0 t137 true)) = some r := H
                  have A36 := Aside0.mk A360
                  clear A360
                  by_cases c37 : t141 = t137
                  · rw [if_pos c37] at H
                    have c37b0 : (t141 == t137) = true := beq_iff_eq.mpr c37
                    have c37b1 : (t141 != t137) = false := bne_eq_false_iff_eq.mpr c37
                    clear c37
                    replace H := Option.bind_eq_some_iff.mp H
                    obtain ⟨t142, A380, H⟩ := H
                    obtain rfl : t142 = t140 := Option.some.inj (A380.symm.trans A35.out)
                    replace H : ((line_Normal.f a0 t142).bind fun t143 => (calamuslaw04_LineLeads.j2 kj10 a0 t137 (!t143))) = some r := H
                    have A38 := Aside0.mk A380
                    clear A380
                    replace H := Option.bind_eq_some_iff.mp H
                    obtain ⟨t143, A390, H⟩ := H
                    replace H : (calamuslaw04_LineLeads.j2 kj10 a0 t137 (!t143)) = some r := H
                    have A39 := Aside0.mk A390
                    clear A390
                    have H' := Aside0.mk H
                    clear H
                    go_wp2_with (first | ((with_reducible refine gate_callee (f := 25) rfl ?_); refine goesL_ (some 47) rfl rfl Tryd.func25 (by kernel_rfl) rfl #[.string a0, .int .i64 t133] rfl (by (try simp only [List.map_toArray, List.map_cons, List.map_nil]); first | done | rfl | (simp only [List.length_drop, List.length_take]; rfl)) ?_; (with_reducible refine (line_Column.calls a0 t133 t138 _ A32.out).mono ?_); rintro e w40 ⟨rfl, hb⟩; refine ⟨_, rfl, ?_⟩; have n0_ := Aside0.mk (below_step (by repeat (first | (with_reducible first | exact HB.out | apply below_alloc | apply pw_below_drewN | apply below_drew1) | exact HB.out)) hb); clear HB; have HB := n0_; clear n0_; (try clear hb); (try clear hb2); (try clear hk); (try clear hi)) | ((with_reducible refine gate_callee (f := 24) rfl ?_); refine goesL_ (some 48) rfl rfl Tryd.func24 (by kernel_rfl) rfl #[.string a0, .int .i64 t137, .int .i64 t138] rfl (by (try simp only [List.map_toArray, List.map_cons, List.map_nil]); first | done | rfl | (simp only [List.length_drop, List.length_take]; rfl)) ?_; (with_reducible refine (line_At.calls a0 t137 t138 t139 _ A33.out).mono ?_); rintro e w41 ⟨rfl, hb⟩; refine ⟨_, rfl, ?_⟩; have n0_ := Aside0.mk (below_step (by repeat (first | (with_reducible first | exact HB.out | apply below_alloc | apply pw_below_drewN | apply below_drew1) | exact HB.out)) hb); clear HB; have HB := n0_; clear n0_; (try clear hb); (try clear hb2); (try clear hk); (try clear hi)) | (go_at_call 20; (with_reducible refine (line_First.calls a0 t137 t142 _ A35.out).mono ?_); rintro e w42 ⟨rfl, hb⟩; have n0_ := Aside0.mk (below_step (by repeat (first | (with_reducible first | exact HB.out | apply below_alloc | apply pw_below_drewN | apply below_drew1) | exact HB.out)) hb); clear HB; have HB := n0_; clear n0_; (try clear hb); (try clear hb2); (try clear hk); (try clear hi)) | (go_at_call 23; (with_reducible refine (line_Of.calls a0 t142 t141 _ A36.out).mono ?_); rintro e w43 ⟨rfl, hb⟩; have n0_ := Aside0.mk (below_step (by repeat (first | (with_reducible first | exact HB.out | apply below_alloc | apply pw_below_drewN | apply below_drew1) | exact HB.out)) hb); clear HB; have HB := n0_; clear n0_; (try clear hb); (try clear hb2); (try clear hk); (try clear hi)) | (go_at_call 20; (with_reducible refine (line_First.calls a0 t137 t142 _ A38.out).mono ?_); rintro e w44 ⟨rfl, hb⟩; have n0_ := Aside0.mk (below_step (by repeat (first | (with_reducible first | exact HB.out | apply below_alloc | apply pw_below_drewN | apply below_drew1) | exact HB.out)) hb); clear HB; have HB := n0_; clear n0_; (try clear hb); (try clear hb2); (try clear hk); (try clear hi)) | (go_at_call 16; (with_reducible refine (line_Normal.calls a0 t142 t143 _ A39.out).mono ?_); rintro e w45 ⟨rfl, hb⟩; have n0_ := Aside0.mk (below_step (by repeat (first | (with_reducible first | exact HB.out | apply below_alloc | apply pw_below_drewN | apply below_drew1) | exact HB.out)) hb); clear HB; have HB := n0_; clear n0_; (try clear hb); (try clear hb2); (try clear hk); (try clear hi)))
                    go_meet
                    case rel => exact ⟨_, (!t143), (by first | rfl | (simp; done) | (simp [*]; done)), H', ⟨by have := HJ2.out; have := HJ10.out; first | omega | exact Nat.le_refl _⟩, ⟨by repeat (first | (with_reducible first | exact HB.out | apply below_alloc | apply pw_below_drewN | apply below_drew1) | exact HB.out)⟩⟩
                  · rw [if_neg c37] at H
                    have c37b0 : (t141 == t137) = false := beq_eq_false_iff_ne.mpr c37
                    have c37b1 : (t141 != t137) = true := bne_iff_ne.mpr c37
                    have H' := Aside0.mk H
                    clear H
                    go_wp2_with (first | ((with_reducible refine gate_callee (f := 25) rfl ?_); refine goesL_ (some 47) rfl rfl Tryd.func25 (by kernel_rfl) rfl #[.string a0, .int .i64 t133] rfl (by (try simp only [List.map_toArray, List.map_cons, List.map_nil]); first | done | rfl | (simp only [List.length_drop, List.length_take]; rfl)) ?_; (with_reducible refine (line_Column.calls a0 t133 t138 _ A32.out).mono ?_); rintro e w46 ⟨rfl, hb⟩; refine ⟨_, rfl, ?_⟩; have n0_ := Aside0.mk (below_step (by repeat (first | (with_reducible first | exact HB.out | apply below_alloc | apply pw_below_drewN | apply below_drew1) | exact HB.out)) hb); clear HB; have HB := n0_; clear n0_; (try clear hb); (try clear hb2); (try clear hk); (try clear hi)) | ((with_reducible refine gate_callee (f := 24) rfl ?_); refine goesL_ (some 48) rfl rfl Tryd.func24 (by kernel_rfl) rfl #[.string a0, .int .i64 t137, .int .i64 t138] rfl (by (try simp only [List.map_toArray, List.map_cons, List.map_nil]); first | done | rfl | (simp only [List.length_drop, List.length_take]; rfl)) ?_; (with_reducible refine (line_At.calls a0 t137 t138 t139 _ A33.out).mono ?_); rintro e w47 ⟨rfl, hb⟩; refine ⟨_, rfl, ?_⟩; have n0_ := Aside0.mk (below_step (by repeat (first | (with_reducible first | exact HB.out | apply below_alloc | apply pw_below_drewN | apply below_drew1) | exact HB.out)) hb); clear HB; have HB := n0_; clear n0_; (try clear hb); (try clear hb2); (try clear hk); (try clear hi)) | (go_at_call 20; (with_reducible refine (line_First.calls a0 t137 t140 _ A35.out).mono ?_); rintro e w48 ⟨rfl, hb⟩; have n0_ := Aside0.mk (below_step (by repeat (first | (with_reducible first | exact HB.out | apply below_alloc | apply pw_below_drewN | apply below_drew1) | exact HB.out)) hb); clear HB; have HB := n0_; clear n0_; (try clear hb); (try clear hb2); (try clear hk); (try clear hi)) | (go_at_call 23; (with_reducible refine (line_Of.calls a0 t140 t141 _ A36.out).mono ?_); rintro e w49 ⟨rfl, hb⟩; have n0_ := Aside0.mk (below_step (by repeat (first | (with_reducible first | exact HB.out | apply below_alloc | apply pw_below_drewN | apply below_drew1) | exact HB.out)) hb); clear HB; have HB := n0_; clear n0_; (try clear hb); (try clear hb2); (try clear hk); (try clear hi)))
                    go_meet
                    case rel => exact ⟨_, (true), (by first | rfl | (simp; done) | (simp [*]; done)), H', ⟨by have := HJ2.out; have := HJ10.out; first | omega | exact Nat.le_refl _⟩, ⟨by repeat (first | (with_reducible first | exact HB.out | apply below_alloc | apply pw_below_drewN | apply below_drew1) | exact HB.out)⟩⟩
                · rw [if_neg c34] at H
                  have c34b0 : (t139 == t133) = false := beq_eq_false_iff_ne.mpr c34
                  have c34b1 : (t139 != t133) = true := bne_iff_ne.mpr c34
                  (first | rw [c34b0] | (simp only [i64_w, i32_w]; rw [c34b0]) | skip)
                  have H' := Aside0.mk H
                  clear H
                  go_wp2_with (first | ((with_reducible refine gate_callee (f := 25) rfl ?_); refine goesL_ (some 47) rfl rfl Tryd.func25 (by kernel_rfl) rfl #[.string a0, .int .i64 t133] rfl (by (try simp only [List.map_toArray, List.map_cons, List.map_nil]); first | done | rfl | (simp only [List.length_drop, List.length_take]; rfl)) ?_; (with_reducible refine (line_Column.calls a0 t133 t138 _ A32.out).mono ?_); rintro e w50 ⟨rfl, hb⟩; refine ⟨_, rfl, ?_⟩; have n0_ := Aside0.mk (below_step (by repeat (first | (with_reducible first | exact HB.out | apply below_alloc | apply pw_below_drewN | apply below_drew1) | exact HB.out)) hb); clear HB; have HB := n0_; clear n0_; (try clear hb); (try clear hb2); (try clear hk); (try clear hi)) | ((with_reducible refine gate_callee (f := 24) rfl ?_); refine goesL_ (some 48) rfl rfl Tryd.func24 (by kernel_rfl) rfl #[.string a0, .int .i64 t137, .int .i64 t138] rfl (by (try simp only [List.map_toArray, List.map_cons, List.map_nil]); first | done | rfl | (simp only [List.length_drop, List.length_take]; rfl)) ?_; (with_reducible refine (line_At.calls a0 t137 t138 t139 _ A33.out).mono ?_); rintro e w51 ⟨rfl, hb⟩; refine ⟨_, rfl, ?_⟩; have n0_ := Aside0.mk (below_step (by repeat (first | (with_reducible first | exact HB.out | apply below_alloc | apply pw_below_drewN | apply below_drew1) | exact HB.out)) hb); clear HB; have HB := n0_; clear n0_; (try clear hb); (try clear hb2); (try clear hk); (try clear hi)))
                  go_meet
                  case rel => exact ⟨_, (true), (by first | rfl | (simp; done) | (simp [*]; done)), H', ⟨by have := HJ2.out; have := HJ10.out; first | omega | exact Nat.le_refl _⟩, ⟨by repeat (first | (with_reducible first | exact HB.out | apply below_alloc | apply pw_below_drewN | apply below_drew1) | exact HB.out)⟩⟩
              case rest =>
                clear HC30
                try clear c1
                try clear c2
                try clear p2
                try clear c3
                try clear c4
                try clear c4b0
                try clear c4b1
                try clear c5
                try clear c7
                try clear c14
                try clear c15
                try clear c16
                try clear c16b0
                try clear c16b1
                try clear c18
                try clear c23
                try clear c24
                try clear c25
                try clear c28
                try clear c34
                try clear c34b0
                try clear c34b1
                try clear c37
                try clear c37b0
                try clear c37b1
                try clear p2
                obtain ⟨kq, x67_29, rfl, HA, HJ29, HB⟩ := hcut
                cases kq with
                | zero => exact absurd HA.out (by simp [calamuslaw04_LineLeads.j2])
                | succ kj29 =>
                  have H := HA.out
                  clear HA
                  simp only [calamuslaw04_LineLeads.j2] at H
                  by_cases c52 : x67_29 = true
                  · subst c52
                    have H1 : (some false) = some r := by rw [if_pos rfl] at H; exact H
                    clear H
                    have H := H1
                    clear H1
                    obtain rfl := Option.some.inj H
                    go_wp2
                    go_ret
                    exact ⟨by first | rfl | (simp [errW_none, errW_some] <;> rfl) | (simp [*, errW_none, errW_some] <;> rfl), by repeat (first | (with_reducible first | exact HB.out | apply below_alloc | apply pw_below_drewN | apply below_drew1) | exact HB.out)⟩
                  · replace c52 := Bool.eq_false_iff.mpr c52
                    subst c52
                    have H1 : ((line_At.f a0 t137 (-1)).bind fun t144 => ((line_Start.f a0 t137).bind fun t145 => (if t144 = t145 then ((line_At.f a0 t137 (wrap64 ((a0.size : Int) + 1))).bind fun t146 => ((line_End.f a0 t137).bind fun t147 => (if t146 = t147 then ((calamuslaw04_lives.f).bind fun t148 => (some t148)) else (some false)))) else (some false)))) = some r := by rw [if_neg (show ¬ (false = true) by decide)] at H; exact H
                    clear H
                    have H := H1
                    clear H1
                    replace H := Option.bind_eq_some_iff.mp H
                    obtain ⟨t144, A530, H⟩ := H
                    replace H : ((line_Start.f a0 t137).bind fun t145 => (if t144 = t145 then ((line_At.f a0 t137 (wrap64 ((a0.size : Int) + 1))).bind fun t146 => ((line_End.f a0 t137).bind fun t147 => (if t146 = t147 then ((calamuslaw04_lives.f).bind fun t148 => (some t148)) else (some false)))) else (some false))) = some r := H
                    have A53 := Aside0.mk A530
                    clear A530
                    replace H := Option.bind_eq_some_iff.mp H
                    obtain ⟨t145, A540, H⟩ := H
                    replace H : (if t144 = t145 then ((line_At.f a0 t137 (wrap64 ((a0.size : Int) + 1))).bind fun t146 => ((line_End.f a0 t137).bind fun t147 => (if t146 = t147 then ((calamuslaw04_lives.f).bind fun t148 => (some t148)) else (some false)))) else (some false)) = some r := H
                    have A54 := Aside0.mk A540
                    clear A540
                    by_cases c55 : t144 = t145
                    · rw [if_pos c55] at H
                      have c55b0 : (t144 == t145) = true := beq_iff_eq.mpr c55
                      have c55b1 : (t144 != t145) = false := bne_eq_false_iff_eq.mpr c55
                      clear c55
                      replace H := Option.bind_eq_some_iff.mp H
                      obtain ⟨t146, A560, H⟩ := H
                      replace H : ((line_End.f a0 t137).bind fun t147 => (if t146 = t147 then ((calamuslaw04_lives.f).bind fun t148 => (some t148)) else (some false))) = some r := H
                      have A56 := Aside0.mk A560
                      clear A560
                      replace H := Option.bind_eq_some_iff.mp H
                      obtain ⟨t147, A570, H⟩ := H
                      replace H : (if t146 = t147 then ((calamuslaw04_lives.f).bind fun t148 => (some t148)) else (some false)) = some r := H
                      have A57 := Aside0.mk A570
                      clear A570
                      by_cases c58 : t146 = t147
                      · rw [if_pos c58] at H
                        have c58b0 : (t146 == t147) = true := beq_iff_eq.mpr c58
                        have c58b1 : (t146 != t147) = false := bne_eq_false_iff_eq.mpr c58
                        clear c58
                        replace H := Option.bind_eq_some_iff.mp H
                        obtain ⟨t148, A590, H⟩ := H
                        replace H : (some t148) = some r := H
                        have A59 := Aside0.mk A590
                        clear A590
                        obtain rfl := Option.some.inj H
                        go_wp2_with (first | ((with_reducible refine gate_callee (f := 24) rfl ?_); refine goesL_ (some 70) rfl rfl Tryd.func24 (by kernel_rfl) rfl #[.string a0, .int .i64 t137, .int .i64 (-1)] rfl (by (try simp only [List.map_toArray, List.map_cons, List.map_nil]); first | done | rfl | (simp only [List.length_drop, List.length_take]; rfl)) ?_; (with_reducible refine (line_At.calls a0 t137 (-1) t144 _ A53.out).mono ?_); rintro e w60 ⟨rfl, hb⟩; refine ⟨_, rfl, ?_⟩; have n0_ := Aside0.mk (below_step (by repeat (first | (with_reducible first | exact HB.out | apply below_alloc | apply pw_below_drewN | apply below_drew1) | exact HB.out)) hb); clear HB; have HB := n0_; clear n0_; (try clear hb); (try clear hb2); (try clear hk); (try clear hi)) | ((with_reducible refine gate_callee (f := 26) rfl ?_); refine goesL_ (some 73) rfl rfl Tryd.func26 (by kernel_rfl) rfl #[.string a0, .int .i64 t137] rfl (by (try simp only [List.map_toArray, List.map_cons, List.map_nil]); first | done | rfl | (simp only [List.length_drop, List.length_take]; rfl)) ?_; (with_reducible refine (line_Start.calls a0 t137 t145 _ A54.out).mono ?_); rintro e w61 ⟨rfl, hb⟩; refine ⟨_, rfl, ?_⟩; have n0_ := Aside0.mk (below_step (by repeat (first | (with_reducible first | exact HB.out | apply below_alloc | apply pw_below_drewN | apply below_drew1) | exact HB.out)) hb); clear HB; have HB := n0_; clear n0_; (try clear hb); (try clear hb2); (try clear hk); (try clear hi)) | (go_at_call 24; (with_reducible refine (line_At.calls a0 t137 (wrap64 ((a0.size : Int) + 1)) t146 _ A56.out).mono ?_); rintro e w62 ⟨rfl, hb⟩; have n0_ := Aside0.mk (below_step (by repeat (first | (with_reducible first | exact HB.out | apply below_alloc | apply pw_below_drewN | apply below_drew1) | exact HB.out)) hb); clear HB; have HB := n0_; clear n0_; (try clear hb); (try clear hb2); (try clear hk); (try clear hi)) | (go_at_call 27; (with_reducible refine (line_End.calls a0 t137 t147 _ A57.out).mono ?_); rintro e w63 ⟨rfl, hb⟩; have n0_ := Aside0.mk (below_step (by repeat (first | (with_reducible first | exact HB.out | apply below_alloc | apply pw_below_drewN | apply below_drew1) | exact HB.out)) hb); clear HB; have HB := n0_; clear n0_; (try clear hb); (try clear hb2); (try clear hk); (try clear hi)) | (go_at_call 15; (with_reducible refine (calamuslaw04_lives.calls  t148 _ A59.out).mono ?_); rintro e w64 ⟨rfl, hb⟩; have n0_ := Aside0.mk (below_step (by repeat (first | (with_reducible first | exact HB.out | apply below_alloc | apply pw_below_drewN | apply below_drew1) | exact HB.out)) hb); clear HB; have HB := n0_; clear n0_; (try clear hb); (try clear hb2); (try clear hk); (try clear hi)))
                        go_ret
                        exact ⟨by first | rfl | (simp [errW_none, errW_some] <;> rfl) | (simp [*, errW_none, errW_some] <;> rfl), by repeat (first | (with_reducible first | exact HB.out | apply below_alloc | apply pw_below_drewN | apply below_drew1) | exact HB.out)⟩
                      · rw [if_neg c58] at H
                        have c58b0 : (t146 == t147) = false := beq_eq_false_iff_ne.mpr c58
                        have c58b1 : (t146 != t147) = true := bne_iff_ne.mpr c58
                        obtain rfl := Option.some.inj H
                        go_wp2_with (first | ((with_reducible refine gate_callee (f := 24) rfl ?_); refine goesL_ (some 70) rfl rfl Tryd.func24 (by kernel_rfl) rfl #[.string a0, .int .i64 t137, .int .i64 (-1)] rfl (by (try simp only [List.map_toArray, List.map_cons, List.map_nil]); first | done | rfl | (simp only [List.length_drop, List.length_take]; rfl)) ?_; (with_reducible refine (line_At.calls a0 t137 (-1) t144 _ A53.out).mono ?_); rintro e w65 ⟨rfl, hb⟩; refine ⟨_, rfl, ?_⟩; have n0_ := Aside0.mk (below_step (by repeat (first | (with_reducible first | exact HB.out | apply below_alloc | apply pw_below_drewN | apply below_drew1) | exact HB.out)) hb); clear HB; have HB := n0_; clear n0_; (try clear hb); (try clear hb2); (try clear hk); (try clear hi)) | ((with_reducible refine gate_callee (f := 26) rfl ?_); refine goesL_ (some 73) rfl rfl Tryd.func26 (by kernel_rfl) rfl #[.string a0, .int .i64 t137] rfl (by (try simp only [List.map_toArray, List.map_cons, List.map_nil]); first | done | rfl | (simp only [List.length_drop, List.length_take]; rfl)) ?_; (with_reducible refine (line_Start.calls a0 t137 t145 _ A54.out).mono ?_); rintro e w66 ⟨rfl, hb⟩; refine ⟨_, rfl, ?_⟩; have n0_ := Aside0.mk (below_step (by repeat (first | (with_reducible first | exact HB.out | apply below_alloc | apply pw_below_drewN | apply below_drew1) | exact HB.out)) hb); clear HB; have HB := n0_; clear n0_; (try clear hb); (try clear hb2); (try clear hk); (try clear hi)) | (go_at_call 24; (with_reducible refine (line_At.calls a0 t137 (wrap64 ((a0.size : Int) + 1)) t146 _ A56.out).mono ?_); rintro e w67 ⟨rfl, hb⟩; have n0_ := Aside0.mk (below_step (by repeat (first | (with_reducible first | exact HB.out | apply below_alloc | apply pw_below_drewN | apply below_drew1) | exact HB.out)) hb); clear HB; have HB := n0_; clear n0_; (try clear hb); (try clear hb2); (try clear hk); (try clear hi)) | (go_at_call 27; (with_reducible refine (line_End.calls a0 t137 t147 _ A57.out).mono ?_); rintro e w68 ⟨rfl, hb⟩; have n0_ := Aside0.mk (below_step (by repeat (first | (with_reducible first | exact HB.out | apply below_alloc | apply pw_below_drewN | apply below_drew1) | exact HB.out)) hb); clear HB; have HB := n0_; clear n0_; (try clear hb); (try clear hb2); (try clear hk); (try clear hi)))
                        go_ret
                        exact ⟨by first | rfl | (simp [errW_none, errW_some] <;> rfl) | (simp [*, errW_none, errW_some] <;> rfl), by repeat (first | (with_reducible first | exact HB.out | apply below_alloc | apply pw_below_drewN | apply below_drew1) | exact HB.out)⟩
                    · rw [if_neg c55] at H
                      have c55b0 : (t144 == t145) = false := beq_eq_false_iff_ne.mpr c55
                      have c55b1 : (t144 != t145) = true := bne_iff_ne.mpr c55
                      obtain rfl := Option.some.inj H
                      go_wp2_with (first | ((with_reducible refine gate_callee (f := 24) rfl ?_); refine goesL_ (some 70) rfl rfl Tryd.func24 (by kernel_rfl) rfl #[.string a0, .int .i64 t137, .int .i64 (-1)] rfl (by (try simp only [List.map_toArray, List.map_cons, List.map_nil]); first | done | rfl | (simp only [List.length_drop, List.length_take]; rfl)) ?_; (with_reducible refine (line_At.calls a0 t137 (-1) t144 _ A53.out).mono ?_); rintro e w69 ⟨rfl, hb⟩; refine ⟨_, rfl, ?_⟩; have n0_ := Aside0.mk (below_step (by repeat (first | (with_reducible first | exact HB.out | apply below_alloc | apply pw_below_drewN | apply below_drew1) | exact HB.out)) hb); clear HB; have HB := n0_; clear n0_; (try clear hb); (try clear hb2); (try clear hk); (try clear hi)) | ((with_reducible refine gate_callee (f := 26) rfl ?_); refine goesL_ (some 73) rfl rfl Tryd.func26 (by kernel_rfl) rfl #[.string a0, .int .i64 t137] rfl (by (try simp only [List.map_toArray, List.map_cons, List.map_nil]); first | done | rfl | (simp only [List.length_drop, List.length_take]; rfl)) ?_; (with_reducible refine (line_Start.calls a0 t137 t145 _ A54.out).mono ?_); rintro e w70 ⟨rfl, hb⟩; refine ⟨_, rfl, ?_⟩; have n0_ := Aside0.mk (below_step (by repeat (first | (with_reducible first | exact HB.out | apply below_alloc | apply pw_below_drewN | apply below_drew1) | exact HB.out)) hb); clear HB; have HB := n0_; clear n0_; (try clear hb); (try clear hb2); (try clear hk); (try clear hi)))
                      go_ret
                      exact ⟨by first | rfl | (simp [errW_none, errW_some] <;> rfl) | (simp [*, errW_none, errW_some] <;> rfl), by repeat (first | (with_reducible first | exact HB.out | apply below_alloc | apply pw_below_drewN | apply below_drew1) | exact HB.out)⟩

def calamuslaw04_LineLeads.Pure : Prop := ∀ (a0 : ByteArray) (a1 : Int), a0.size ≤ 140737488351232 → (Lit.int .i64 a1).wf = true → ∃ k, calamuslaw04_LineLeads.f k a0 a1 = some true
theorem calamuslaw04_LineLeads.walk (P : calamuslaw04_LineLeads.Pure) (a0 : ByteArray) (a1 : Int) (w : World) (w0 : a0.size ≤ 140737488351232) (w1 : (Lit.int .i64 a1).wf = true) :
    Calls Tryd.prog 5 #[.string a0, .int .i64 a1] w fun e w' => e = .returned (.bool true) ∧ Below w.heap.size w w' := by
  obtain ⟨k, h⟩ := P a0 a1 w0 w1
  refine (calamuslaw04_LineLeads.calls k a0 a1 true w h).mono ?_
  rintro e w' ⟨rfl, hd⟩
  exact ⟨rfl, hd⟩

end Go.Proofs.YtgapekdcoedmgaaDoor.QC
/- The statement LineLeads in plain words. -/
namespace Go.Proofs.YtgapekdcoedmgaaDoor
open Go.RowKit
set_option linter.unusedVariables false
set_option linter.unusedSimpArgs false
open Go.RowKit Go.Proofs.YtgapekdcoedmgaaDoor.QC Go.Proofs.YtgapekdcoedmgaaDoorW.PrintWords Go.Proofs.YtgapekdcoedmgaaDoorW.PrintMore
theorem LineLeads_p (t : ByteArray) (p : Int) (ht : t.size ≤ 140737488351232) (hp : -9223372036854775808 ≤ p ∧ p ≤ 9223372036854775807) : ∃ m, calamuslaw04_LineLeads.f m t p = some true := by
  refine Ev.at ?_
  unfold calamuslaw04_LineLeads.f
  have lv : Ev (fun m => calamuslaw04_LineLeads.j0 m t p true) true := by
    refine Ev.step (fun _ => (by rw [calamuslaw04_LineLeads.j0])) ?_
    exact Ev.pos rfl lives04'
  refine Ev.ite (fun _ => lv) (fun h => ?_)
  have hz : t.size ≤ 1000000 := by omega
  rw [utf_Valid.eq t (by omega)]
  simp only [Option.bind_some]
  rcases Bool.eq_false_or_eq_true (validL (ls t)) with hv | hv
  case inr => rw [hv]; exact lv
  rw [hv]
  obtain ⟨c, hc, hcp, hcn⟩ := clamp_cases hv p
  obtain ⟨ac1, ac2, ac3⟩ := at_col hcp
  obtain ⟨f, hf1, hf2, hf3⟩ := first_facts hcp
  have hlen : (ls t).length = t.size := ls_len t
  have hcol : colI (ls t) c ≤ 9223372036854775807 := by
    unfold colI; rw [if_pos hcp]
    unfold countI
    split
    · have h1 : cntL (upL (ls t) ((c : Int)).toNat) ≤ (upL (ls t) ((c : Int)).toNat).length := List.length_filter_le _ _
      have h2 : (upL (ls t) ((c : Int)).toNat).length ≤ t.size := by unfold upL; rw [List.length_take, List.length_drop, hlen]; omega
      omega
    · omega
  have j2 : Ev (fun m => calamuslaw04_LineLeads.j2 m t (ofI (ls t) c) false) true := by
    refine Ev.step (fun _ => (by rw [calamuslaw04_LineLeads.j2])) ?_
    rw [w64 (n := (t.size : Int) + 1) (by omega) (by omega)]
    have ac3' : atI (ls t) (ofI (ls t) c) ((t.size : Int) + 1) = endI (ls t) (ofI (ls t) c) := by rw [← ac3, hlen]; first | done | rfl | (congr 1; omega)
    refine Ev.neg (by decide) (Ev.call (line_At.eq t _ _ ⟨by omega, by omega⟩) (Ev.call (line_Start.eq t _ (by omega)) (Ev.pos ac2 (Ev.call (line_At.eq t _ _ ⟨by omega, by omega⟩) (Ev.call (line_End.eq t _ (by omega)) (Ev.pos ac3' lives04'))))))
  have j1 : Ev (fun m => calamuslaw04_LineLeads.j1 m t c false) true := by
    refine Ev.step (fun _ => (by rw [calamuslaw04_LineLeads.j1])) ?_
    refine Ev.neg (by decide) (Ev.call (line_Of.eq t c (by omega)) (Ev.call (line_Column.eq t c (by omega)) (Ev.call (line_At.eq t _ _ ⟨by omega, hcol⟩) (Ev.pos ac1 (Ev.call (first_val t _ hz) ?_)))))
    rw [hf1]
    refine Ev.call (line_Of.eq t f (by omega)) (Ev.pos hf2 (Ev.call (first_val t _ hz) ?_))
    rw [hf1]
    refine Ev.call (line_Normal.eq t f (by omega)) ?_
    rw [hf3]; exact j2
  refine Ev.step (fun _ => (by rw [calamuslaw04_LineLeads.j0])) ?_
  refine Ev.neg (by decide) (Ev.call (line_Clamp.eq t p (by omega)) ?_)
  rw [hc]
  refine Ev.call (line_Normal.eq t c (by omega)) (Ev.pos hcn (Ev.call (line_Clamp.eq t c (by omega)) (Ev.pos (clamp_self hcn) (Ev.call (line_Normal.eq t p (by omega)) (Ev.ite (fun hn => ?_) (fun _ => j1))))))
  have hpc : (c : Int) = p := by
    have hpp : placeB (ls t) p = true := by unfold normalB at hn; rw [Bool.and_eq_true] at hn; exact hn.1
    obtain ⟨a, rfl, _⟩ : ∃ a : Nat, p = a ∧ a ≤ (ls t).length := by
      unfold placeB at hpp; simp at hpp; exact ⟨p.toNat, by omega, by simp; omega⟩
    rw [clamp_self hn] at hc; omega
  rw [← hpc]
  simpa using j1
end Go.Proofs.YtgapekdcoedmgaaDoor
