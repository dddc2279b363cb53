/- The contracts of the reference calamusref04. -/
import Derived.Test.YtgapekdcoedmgaaR3c
import Derived.Test.YtgapekdcoedmgaaML2
import Derived.Test.YtgapekdcoedmgaaSg
namespace Go.Proofs.Ytgapekdcoedmgaa
open Go.RowKit
set_option linter.unusedVariables false
set_option linter.unusedSimpArgs false
def linesL (l : List UInt8) : List (Nat × Nat) := if validL l then lns l else []
theorem Try.infoPair : (Try.prog.info? 46).map (fun i => (i.zero, i.size, i.bytes)) = some (some (.agg #[.int .i64 0, .int .i64 0]), 2, 16) := by kernel_rfl
theorem linesL_len (s : ByteArray) : (linesL (ls s)).length ≤ s.size + 1 := by
  unfold linesL; split
  · rw [lns_len]; have := tens_le (ls s); rw [ls_len] at this; omega
  · simp
set_option maxHeartbeats 4000000 in
set_option maxRecDepth 100000 in
theorem r4lines_c (s : ByteArray) (w : World) (hs : s.size ≤ 1099511627775) : Calls Try.prog 48 #[.string s] w fun e w' => ∃ a cap, e = .returned (.slice a (linesL (ls s)).length cap) ∧ OwnS EncP 46 w.heap.size w' a cap (linesL (ls s)) ∧ Ext w w' := by
  rcases Bool.eq_false_or_eq_true (validL (ls s)) with hv | hv
  case inr =>
    have Hl : Hid (linesL (ls s) = []) := Lib.hid (by unfold linesL; simp [hv])
    go_enter Try.func48, Try.ntmps48
    go_wp2_with (first | (go_at_call 63; refine (rvalid_c _ _ hs).mono ?_; rintro e w1 ⟨rfl, hx1⟩))
    go_ret
    exact ⟨none, 0, by rw [Hl.out]; rfl, by rw [Hl.out]; exact OwnS.nil _ _, (by (repeat (first | exact Ext.refl _ | exact ‹Ext _ _› | refine Ext.alloc ?_ _ | refine Ext.drew ?_ | refine Ext.drewN ?_ _ | (refine Ext.setCell ?_ (by first | omega | (simp; done) | (simp; omega)) _) | refine Ext.trans ?_ ‹Ext _ _›)))⟩
  have Hl : Hid (linesL (ls s) = lns (ls s)) := Lib.hid (by unfold linesL; simp [hv])
  go_enter Try.func48, Try.ntmps48
  go_wp2_with (first | (go_at_call 63; refine (rvalid_c _ _ hs).mono ?_; rintro e w1 ⟨rfl, hx1⟩))
  go_loopw [3, 4, 5] (fun v f i wr => ∃ (j b : Nat) (a : Option Addr) (cap : Nat) (D : List (Nat × Nat)), i = .int .i64 j ∧ f = .int .i64 b ∧ v = .slice a D.length cap ∧ j ≤ s.size + 1 ∧ D.length ≤ j ∧ Hid (j ≤ s.size → lns (ls s) = D ++ lnsF ((ls s).drop j) b j) ∧ Hid (j = s.size + 1 → D = lns (ls s)) ∧ Hid (OwnS EncP 46 w.heap.size wr a cap D) ∧ Ext w wr) (fun _ _ i _ => s.size + 1 - (intOf i).toNat)
  case atStart => exact ⟨0, 0, none, 0, [], rfl, rfl, rfl, by omega, by simp, Lib.hid (fun _ => by simp [lns]), Lib.hid (fun h => by omega), Lib.hid (OwnS.nil _ _), (by (repeat (first | exact Ext.refl _ | exact ‹Ext _ _› | refine Ext.alloc ?_ _ | refine Ext.drew ?_ | refine Ext.drewN ?_ _ | (refine Ext.setCell ?_ (by first | omega | (simp; done) | (simp; omega)) _) | refine Ext.trans ?_ ‹Ext _ _›)))⟩
  case round =>
    obtain ⟨j, b, a, cap, D, rfl, rfl, rfl, hj, hD, H1, H2, Hown, hx⟩ := hrel
    by_cases c1 : j < s.size
    · have Hs := Lib.hid (lnsF_step (ls s) b j (by rw [ls_len]; exact c1))
      have Hby := Lib.hid (byL_eq s j c1)
      by_cases c2 : (s[j].toNat : Int) = 10
      · go_wp2_with (first | (at_builtin; refine app_s 42 (.agg #[.int .i64 0, .int .i64 0]) 16 Try.underlying42 Try.infoPair rfl w _ rfl _ _ rfl _ _ (D) ((b, j)) _ rfl rfl (Hown.out.ext (by (repeat (first | exact Ext.refl _ | exact ‹Ext _ _› | refine Ext.alloc ?_ _ | refine Ext.drew ?_ | refine Ext.drewN ?_ _ | (refine Ext.setCell ?_ (by first | omega | (simp; done) | (simp; omega)) _) | refine Ext.trans ?_ ‹Ext _ _›)))) (by (repeat (first | exact Ext.refl _ | exact ‹Ext _ _› | refine Ext.alloc ?_ _ | refine Ext.drew ?_ | refine Ext.drewN ?_ _ | (refine Ext.setCell ?_ (by first | omega | (simp; done) | (simp; omega)) _) | refine Ext.trans ?_ ‹Ext _ _›))) rfl (by omega) (by decide) ?_; intro a2 cap2 w2 hown2 hx2))
        go_roundw
        case rel =>
          refine ⟨j + 1, j + 1, a2, cap2, D ++ [(b, j)], by go_num, by go_num, by simp, by omega, by (simp <;> omega), Lib.hid (fun _ => ?_), Lib.hid (fun h => by omega), Lib.hid hown2, (by (repeat (first | exact Ext.refl _ | exact ‹Ext _ _› | refine Ext.alloc ?_ _ | refine Ext.drew ?_ | refine Ext.drewN ?_ _ | (refine Ext.setCell ?_ (by first | omega | (simp; done) | (simp; omega)) _) | refine Ext.trans ?_ ‹Ext _ _›)))⟩
          rw [H1.out (by omega), Hs.out, ← Hby.out, if_pos c2]; simp
        case measure => simp [intOf]; omega
      · have c3 : ((s[j].toNat : Int) == 10) = false := by simp; omega
        go_wp2
        go_roundw
        case rel =>
          refine ⟨j + 1, b, a, cap, D, by go_num, rfl, rfl, by omega, by omega, Lib.hid (fun _ => ?_), Lib.hid (fun h => by omega), Hown, (by (repeat (first | exact Ext.refl _ | exact ‹Ext _ _› | refine Ext.alloc ?_ _ | refine Ext.drew ?_ | refine Ext.drewN ?_ _ | (refine Ext.setCell ?_ (by first | omega | (simp; done) | (simp; omega)) _) | refine Ext.trans ?_ ‹Ext _ _›)))⟩
          rw [H1.out (by omega), Hs.out, ← Hby.out, if_neg c2]
        case measure => simp [intOf]; omega
    · by_cases c2 : j = s.size
      · subst c2
        have He : Hid (lnsF ((ls s).drop s.size) b s.size = [(b, s.size)]) := Lib.hid (lnsF_end _ _ _ (by rw [ls_len]; omega))
        go_wp2_with (first | (at_builtin; refine app_s 42 (.agg #[.int .i64 0, .int .i64 0]) 16 Try.underlying42 Try.infoPair rfl w _ rfl _ _ rfl _ _ (D) ((b, s.size)) _ rfl rfl (Hown.out.ext (by (repeat (first | exact Ext.refl _ | exact ‹Ext _ _› | refine Ext.alloc ?_ _ | refine Ext.drew ?_ | refine Ext.drewN ?_ _ | (refine Ext.setCell ?_ (by first | omega | (simp; done) | (simp; omega)) _) | refine Ext.trans ?_ ‹Ext _ _›)))) (by (repeat (first | exact Ext.refl _ | exact ‹Ext _ _› | refine Ext.alloc ?_ _ | refine Ext.drew ?_ | refine Ext.drewN ?_ _ | (refine Ext.setCell ?_ (by first | omega | (simp; done) | (simp; omega)) _) | refine Ext.trans ?_ ‹Ext _ _›))) rfl (by omega) (by decide) ?_; intro a2 cap2 w2 hown2 hx2))
        go_roundw
        case rel =>
          refine ⟨s.size + 1, s.size + 1, a2, cap2, D ++ [(b, s.size)], by go_num, by go_num, by simp, by omega, by (simp <;> omega), Lib.hid (fun h => by omega), Lib.hid (fun _ => ?_), Lib.hid hown2, (by (repeat (first | exact Ext.refl _ | exact ‹Ext _ _› | refine Ext.alloc ?_ _ | refine Ext.drew ?_ | refine Ext.drewN ?_ _ | (refine Ext.setCell ?_ (by first | omega | (simp; done) | (simp; omega)) _) | refine Ext.trans ?_ ‹Ext _ _›)))⟩
          rw [H1.out (by omega), He.out]
        case measure => (simp [intOf] <;> omega)
      · have c3 : j = s.size + 1 := by omega
        have hD2 := H2.out c3
        subst c3
        go_wp2
        go_ret
        subst hD2
        exact ⟨a, cap, by rw [Hl.out]; first | rfl | (simp; done), by rw [Hl.out]; exact Hown.out, (by (repeat (first | exact Ext.refl _ | exact ‹Ext _ _› | refine Ext.alloc ?_ _ | refine Ext.drew ?_ | refine Ext.drewN ?_ _ | (refine Ext.setCell ?_ (by first | omega | (simp; done) | (simp; omega)) _) | refine Ext.trans ?_ ‹Ext _ _›)))⟩

theorem linesL_at {l : List UInt8} {k : Nat} (h : k < (linesL l).length) : startI l k = ((linesL l)[k].1 : Nat) ∧ endI l k = ((linesL l)[k].2 : Nat) ∧ validL l = true := by
  rcases Bool.eq_false_or_eq_true (validL l) with hv | hv
  · have e : linesL l = lns l := by unfold linesL; simp [hv]
    have hl : lineI l k = some (linesL l)[k] := by
      unfold lineI; rw [if_pos ⟨hv, by omega⟩, Int.toNat_natCast]
      simp only [e] at h ⊢
      exact List.getElem?_eq_getElem h
    unfold startI endI; rw [hl]; exact ⟨rfl, rfl, hv⟩
  · have e : linesL l = [] := by unfold linesL; simp [hv]
    rw [e] at h; simp at h
theorem linesL_out {l : List UInt8} {k : Int} (h : k < 0 ∨ ((linesL l).length : Int) ≤ k) : startI l k = -1 ∧ endI l k = -1 := by
  have hl : lineI l k = none := by
    unfold lineI
    split
    · rename_i hc
      have e : linesL l = lns l := by unfold linesL; simp [hc.1]
      rw [e] at h
      exact List.getElem?_eq_none (by omega)
    · rfl
  unfold startI endI; rw [hl]; exact ⟨rfl, rfl⟩
theorem linesL_count (l : List UInt8) : ((linesL l).length : Int) = lcountI l := by
  unfold linesL lcountI; split
  · rw [lns_len]; simp
  · simp
set_option maxHeartbeats 4000000 in
set_option maxRecDepth 100000 in
theorem r4count_c (s : ByteArray) (w : World) (hs : s.size ≤ 1099511627775) : Calls Try.prog 24 #[.string s] w fun e w' => e = .returned (.int .i64 (lcountI (ls s))) ∧ Ext w w' := by
  have Hc := Lib.hid (linesL_count (ls s))
  go_enter Try.func24, Try.ntmps24
  go_wp2_with (first | (go_at_call 48; refine (r4lines_c _ _ hs).mono ?_; rintro e w1 ⟨a, cap, rfl, hown, hx1⟩))
  go_ret
  exact ⟨ret1 Hc.out, (by (repeat (first | exact Ext.refl _ | exact ‹Ext _ _› | refine Ext.alloc ?_ _ | refine Ext.drew ?_ | refine Ext.drewN ?_ _ | (refine Ext.setCell ?_ (by first | omega | (simp; done) | (simp; omega)) _) | refine Ext.trans ?_ ‹Ext _ _›)))⟩
set_option maxHeartbeats 4000000 in
set_option maxRecDepth 100000 in
theorem r4start_c (s : ByteArray) (k : Int) (w : World) (hs : s.size ≤ 1099511627775) : Calls Try.prog 26 #[.string s, .int .i64 k] w fun e w' => e = .returned (.int .i64 (startI (ls s) k)) ∧ Ext w w' := by
  by_cases hk : k < 0 ∨ ((linesL (ls s)).length : Int) ≤ k
  · have Ho := Lib.hid (linesL_out hk).1
    go_enter Try.func26, Try.ntmps26
    go_wp2_with (first | (go_at_call 48; refine (r4lines_c _ _ hs).mono ?_; rintro e w1 ⟨a, cap, rfl, hown, hx1⟩))
    all_goals (first | (go_ret; exact ⟨ret1 Ho.out.symm, (by (repeat (first | exact Ext.refl _ | exact ‹Ext _ _› | refine Ext.alloc ?_ _ | refine Ext.drew ?_ | refine Ext.drewN ?_ _ | (refine Ext.setCell ?_ (by first | omega | (simp; done) | (simp; omega)) _) | refine Ext.trans ?_ ‹Ext _ _›)))⟩) | (exfalso; omega))
  · obtain ⟨n, rfl⟩ : ∃ n : Nat, k = n := ⟨k.toNat, by omega⟩
    have hn : n < (linesL (ls s)).length := by omega
    have Ho := Lib.hid (linesL_at hn).1
    clear hk
    go_enter Try.func26, Try.ntmps26
    go_wp2_with (first | (go_at_call 48; refine (r4lines_c _ _ hs).mono ?_; rintro e w1 ⟨a, cap, rfl, hown, hx1⟩; obtain ⟨g, o, rfl, hc0, hc1⟩ := RdS.pair (OwnS.rd hown) n hn))
    all_goals (go_ret; exact ⟨ret1 Ho.out.symm, (by (repeat (first | exact Ext.refl _ | exact ‹Ext _ _› | refine Ext.alloc ?_ _ | refine Ext.drew ?_ | refine Ext.drewN ?_ _ | (refine Ext.setCell ?_ (by first | omega | (simp; done) | (simp; omega)) _) | refine Ext.trans ?_ ‹Ext _ _›)))⟩)

set_option maxHeartbeats 4000000 in
set_option maxRecDepth 100000 in
theorem r4end_c (s : ByteArray) (k : Int) (w : World) (hs : s.size ≤ 1099511627775) : Calls Try.prog 28 #[.string s, .int .i64 k] w fun e w' => e = .returned (.int .i64 (endI (ls s) k)) ∧ Ext w w' := by
  by_cases hk : k < 0 ∨ ((linesL (ls s)).length : Int) ≤ k
  · have Ho := Lib.hid (linesL_out hk).2
    go_enter Try.func28, Try.ntmps28
    go_wp2_with (first | (go_at_call 48; refine (r4lines_c _ _ hs).mono ?_; rintro e w1 ⟨a, cap, rfl, hown, hx1⟩))
    all_goals (first | (go_ret; exact ⟨ret1 Ho.out.symm, (by (repeat (first | exact Ext.refl _ | exact ‹Ext _ _› | refine Ext.alloc ?_ _ | refine Ext.drew ?_ | refine Ext.drewN ?_ _ | (refine Ext.setCell ?_ (by first | omega | (simp; done) | (simp; omega)) _) | refine Ext.trans ?_ ‹Ext _ _›)))⟩) | (exfalso; omega))
  · obtain ⟨n, rfl⟩ : ∃ n : Nat, k = n := ⟨k.toNat, by omega⟩
    have hn : n < (linesL (ls s)).length := by omega
    have Ho := Lib.hid (linesL_at hn).2.1
    clear hk
    go_enter Try.func28, Try.ntmps28
    go_wp2_with (first | (go_at_call 48; refine (r4lines_c _ _ hs).mono ?_; rintro e w1 ⟨a, cap, rfl, hown, hx1⟩; obtain ⟨g, o, rfl, hc0, hc1⟩ := RdS.pair (OwnS.rd hown) n hn))
    all_goals (go_ret; exact ⟨ret1 Ho.out.symm, (by (repeat (first | exact Ext.refl _ | exact ‹Ext _ _› | refine Ext.alloc ?_ _ | refine Ext.drew ?_ | refine Ext.drewN ?_ _ | (refine Ext.setCell ?_ (by first | omega | (simp; done) | (simp; omega)) _) | refine Ext.trans ?_ ‹Ext _ _›)))⟩)
/-- The last line that begins no further than p. -/
def lastAt (X : List (Nat × Nat)) (p : Int) : Nat → Int
  | 0 => -1
  | k + 1 => if ((X.getD k (0, 0)).1 : Int) ≤ p then (k : Int) else lastAt X p k
theorem lnsF_starts : ∀ (r : List UInt8) (st i : Nat), st ≤ i → ∀ j, j + 1 < (lnsF r st i).length → i < ((lnsF r st i).getD (j + 1) (0, 0)).1
  | [], st, i, _, j, h => by simp [lnsF] at h
  | b :: r, st, i, hs, j, h => by
    by_cases hb : b = 10
    · rw [lnsF, if_pos hb] at h ⊢
      rw [List.getD_cons_succ]
      obtain ⟨e, q, h1, _, _⟩ := lnsF_head r (i + 1) (i + 1)
      cases j with
      | zero => rw [h1]; simp
      | succ j =>
        have := lnsF_starts r (i + 1) (i + 1) (Nat.le_refl _) j (by simpa using h)
        omega
    · rw [lnsF, if_neg hb] at h ⊢
      have := lnsF_starts r st (i + 1) (by omega) j h
      omega
theorem lastAt_of (l : List UInt8) (p : Nat) (hp : p ≤ l.length) : lastAt (lns l) p (lns l).length = (fds l p : Nat) := by
  obtain ⟨a, ha, hl⟩ := lns_split l p hp
  obtain ⟨e, q, h1, h2, h3⟩ := lnsF_head (l.drop p) (lst l p) p
  have hlst := lst_le l p
  have hlt : fds l p < (lns l).length := by rw [ha, List.length_append, hl, h1]; simp
  have key : ∀ d, fds l p + 1 + d ≤ (lns l).length → lastAt (lns l) p (fds l p + 1 + d) = (fds l p : Nat) := by
    intro d
    induction d with
    | zero =>
      intro _
      have e0 : ((lns l).getD (fds l p) (0, 0)).1 = lst l p := by
        rw [ha, List.getD_eq_getElem?_getD, List.getElem?_append_right (by omega), hl, Nat.sub_self, h1]; rfl
      rw [Nat.add_zero, lastAt, e0, if_pos (by omega)]
    | succ d ih =>
      intro hd
      have e0 : p < ((lns l).getD (fds l p + 1 + d) (0, 0)).1 := by
        have := lnsF_starts (l.drop p) (lst l p) p hlst d (by rw [ha, List.length_append, hl] at hd; omega)
        rw [ha, List.getD_eq_getElem?_getD, List.getElem?_append_right (by omega), hl]
        rw [List.getD_eq_getElem?_getD] at this
        rw [show fds l p + 1 + d - fds l p = d + 1 by omega]
        exact this
      rw [show fds l p + 1 + (d + 1) = (fds l p + 1 + d) + 1 by omega, lastAt, if_neg (by omega)]
      exact ih (by omega)
  have := key ((lns l).length - (fds l p + 1)) (by omega)
  rwa [Nat.add_sub_cancel' (by omega)] at this
set_option maxHeartbeats 4000000 in
set_option maxRecDepth 100000 in
theorem r4of_c (s : ByteArray) (p : Int) (w : World) (hs : s.size ≤ 1099511627775) : Calls Try.prog 29 #[.string s, .int .i64 p] w fun e w' => e = .returned (.int .i64 (ofI (ls s) p)) ∧ Ext w w' := by
  by_cases h0 : p < 0 ∨ (s.size : Int) < p
  · have Ho : Hid (ofI (ls s) p = -1) := Lib.hid (by unfold ofI; rw [if_pos (by rw [ls_len]; omega)])
    go_enter Try.func29, Try.ntmps29
    go_wp2_with (first | (go_at_call 48; refine (r4lines_c _ _ hs).mono ?_; rintro e w1 ⟨a, cap, rfl, hown, hx1⟩))
    all_goals (first | (go_ret; exact ⟨ret1 Ho.out.symm, (by (repeat (first | exact Ext.refl _ | exact ‹Ext _ _› | refine Ext.alloc ?_ _ | refine Ext.drew ?_ | refine Ext.drewN ?_ _ | (refine Ext.setCell ?_ (by first | omega | (simp; done) | (simp; omega)) _) | refine Ext.trans ?_ ‹Ext _ _›)))⟩) | (exfalso; omega))
  · obtain ⟨k, rfl⟩ : ∃ k : Nat, p = k := ⟨p.toNat, by omega⟩
    have hk : k ≤ s.size := by omega
    clear h0
    have hll := linesL_len s
    have Ho : Hid (lastAt (linesL (ls s)) k (linesL (ls s)).length = ofI (ls s) k) := Lib.hid (by
      unfold linesL ofI
      rcases Bool.eq_false_or_eq_true (validL (ls s)) with hv | hv
      · rw [if_pos hv, if_neg (by rw [ls_len, hv]; simp; omega), Int.toNat_natCast]
        exact lastAt_of _ _ (by rw [ls_len]; exact hk)
      · simp [hv, lastAt])
    go_enter Try.func29, Try.ntmps29
    go_wp2_with (first | (go_at_call 48; refine (r4lines_c _ _ hs).mono ?_; rintro e w1 ⟨a, cap, rfl, hown, hx1⟩))
    go_loopw [6] (fun v wr => ∃ j : Nat, v = .int .i64 ((j : Int) - 1) ∧ j ≤ (linesL (ls s)).length ∧ lastAt (linesL (ls s)) k j = lastAt (linesL (ls s)) k (linesL (ls s)).length ∧ Ext w1 wr) (fun v _ => (intOf v + 1).toNat)
    case atStart => exact ⟨(linesL (ls s)).length, rfl, by omega, rfl, Ext.refl _⟩
    case round =>
      obtain ⟨j, rfl, hj, hok, hx⟩ := hrel
      have Hok := Lib.hid hok
      clear hok
      rcases Nat.eq_zero_or_pos j with h0 | h0
      · subst h0
        have Hn : Hid (ofI (ls s) k = -1) := Lib.hid (by rw [← Ho.out, ← Hok.out]; rfl)
        go_wp2
        go_ret
        exact ⟨ret1 Hn.out.symm, (by (repeat (first | exact Ext.refl _ | exact ‹Ext _ _› | refine Ext.alloc ?_ _ | refine Ext.drew ?_ | refine Ext.drewN ?_ _ | (refine Ext.setCell ?_ (by first | omega | (simp; done) | (simp; omega)) _) | refine Ext.trans ?_ ‹Ext _ _›)))⟩
      · obtain ⟨i, rfl⟩ : ∃ i, j = i + 1 := ⟨j - 1, by omega⟩
        have e1 : ((i + 1 : Nat) : Int) - 1 = (i : Int) := by omega
        rw [e1]
        have hi : i < (linesL (ls s)).length := by omega
        have Hs : Hid (lastAt (linesL (ls s)) k (i + 1) = if ((linesL (ls s))[i].1 : Int) ≤ k then (i : Int) else lastAt (linesL (ls s)) k i) := Lib.hid (by
          rw [lastAt, List.getD_eq_getElem?_getD, List.getElem?_eq_getElem hi]; rfl)
        obtain ⟨g, o, rfl, hc0, hc1⟩ := RdS.pair ((OwnS.rd hown).ext hx) i hi
        clear e1
        go_wp2
        · go_ret
          refine ⟨ret1 ?_, (by (repeat (first | exact Ext.refl _ | exact ‹Ext _ _› | refine Ext.alloc ?_ _ | refine Ext.drew ?_ | refine Ext.drewN ?_ _ | (refine Ext.setCell ?_ (by first | omega | (simp; done) | (simp; omega)) _) | refine Ext.trans ?_ ‹Ext _ _›)))⟩
          rw [← Ho.out, ← Hok.out, Hs.out, if_pos (by omega)]
        · go_roundw
          case rel =>
            refine ⟨i, by go_num, by omega, ?_, (by (repeat (first | exact Ext.refl _ | exact ‹Ext _ _› | refine Ext.alloc ?_ _ | refine Ext.drew ?_ | refine Ext.drewN ?_ _ | (refine Ext.setCell ?_ (by first | omega | (simp; done) | (simp; omega)) _) | refine Ext.trans ?_ ‹Ext _ _›)))⟩
            rw [← Hok.out, Hs.out, if_neg (by omega)]
          case measure => (simp [intOf] <;> omega)

end Go.Proofs.Ytgapekdcoedmgaa
