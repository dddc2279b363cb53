/- The contracts of calamusref04.Column and At. -/
import Derived.Test.YtgapekdcoedmgaaR4
import Derived.Test.YtgapekdcoedmgaaMC
import Derived.Test.YtgapekdcoedmgaaML4
namespace Go.Proofs.Ytgapekdcoedmgaa
open Go.RowKit
set_option linter.unusedVariables false
set_option linter.unusedSimpArgs false
theorem up_sub (s : ByteArray) (k : Nat) : ls (s.extract (lst (ls s) k) k) = upL (ls s) k := by unfold upL; exact Lib.extract_data s _ _
set_option maxHeartbeats 4000000 in
set_option maxRecDepth 100000 in
theorem r4column_c (s : ByteArray) (p : Int) (w : World) (hs : s.size ≤ 1099511627775) : Calls Try.prog 31 #[.string s, .int .i64 p] w fun e w' => e = .returned (.int .i64 (colI (ls s) p)) ∧ Ext w w' := by
  rcases place_cases s p with hp | ⟨k, rfl, hk, hp, hv⟩
  · have Hc : Hid (colI (ls s) p = -1) := Lib.hid (by unfold colI; simp [hp])
    go_enter Try.func31, Try.ntmps31
    go_wp2_with (first | (go_at_call 34; refine (rplace_c _ _ _ hs).mono ?_; rintro e w1 ⟨rfl, hx1⟩))
    go_ret
    exact ⟨ret1 Hc.out.symm, (by (repeat (first | exact Ext.refl _ | exact ‹Ext _ _› | refine Ext.alloc ?_ _ | refine Ext.drew ?_ | refine Ext.drewN ?_ _ | (refine Ext.setCell ?_ (by first | omega | (simp; done) | (simp; omega)) _) | refine Ext.trans ?_ ‹Ext _ _›)))⟩
  · obtain ⟨h1, h2, _⟩ := start_of (l := ls s) (p := k) (by rw [ls_len]; omega) hv
    have h3 := lst_le (ls s) k
    have Hc : Hid (colI (ls s) k = countI (ls (s.extract (lst (ls s) k) k))) := Lib.hid (by unfold colI; rw [if_pos hp, up_sub]; rfl)
    obtain ⟨a, ha⟩ : ∃ a, a = lst (ls s) k := ⟨_, rfl⟩
    rw [← ha] at h2 h3 Hc
    have hsz : (s.extract a k).size ≤ 1099511627775 := by rw [ByteArray.size_extract]; omega
    clear ha h1
    go_enter Try.func31, Try.ntmps31
    go_wp2_with (first | (go_at_call 34; refine (rplace_c _ _ _ hs).mono ?_; rintro e w1 ⟨rfl, hx1⟩) | (go_at_call 29; refine (r4of_c _ _ _ hs).mono ?_; rintro e w1 ⟨rfl, hx1⟩) | (go_at_call 26; refine (r4start_c _ _ _ hs).mono ?_; rintro e w1 ⟨rfl, hx1⟩) | (go_at_call 52; refine (rcount_c _ _ hsz).mono ?_; rintro e w1 ⟨rfl, hx1⟩))
    all_goals (first | (go_ret; exact ⟨ret1 Hc.out.symm, (by (repeat (first | exact Ext.refl _ | exact ‹Ext _ _› | refine Ext.alloc ?_ _ | refine Ext.drew ?_ | refine Ext.drewN ?_ _ | (refine Ext.setCell ?_ (by first | omega | (simp; done) | (simp; omega)) _) | refine Ext.trans ?_ ‹Ext _ _›)))⟩) | (exfalso; omega))
set_option maxHeartbeats 4000000 in
set_option maxRecDepth 100000 in
theorem r4at_c (s : ByteArray) (k col : Int) (w : World) (hs : s.size ≤ 1099511627775) (hc : -9223372036854775808 ≤ col ∧ col ≤ 9223372036854775807) : Calls Try.prog 33 #[.string s, .int .i64 k, .int .i64 col] w fun e w' => e = .returned (.int .i64 (atI (ls s) k col)) ∧ Ext w w' := by
  rcases hl : lineI (ls s) k with _ | ⟨a, b⟩
  · have Ha : Hid (atI (ls s) k col = -1) := Lib.hid (by unfold atI; rw [hl])
    have h1 : startI (ls s) k = -1 := by unfold startI; rw [hl]
    clear hl
    go_enter Try.func33, Try.ntmps33
    go_wp2_with (first | (go_at_call 26; refine (r4start_c _ _ _ hs).mono ?_; rintro e w1 ⟨rfl, hx1⟩))
    go_ret
    exact ⟨ret1 Ha.out.symm, (by (repeat (first | exact Ext.refl _ | exact ‹Ext _ _› | refine Ext.alloc ?_ _ | refine Ext.drew ?_ | refine Ext.drewN ?_ _ | (refine Ext.setCell ?_ (by first | omega | (simp; done) | (simp; omega)) _) | refine Ext.trans ?_ ‹Ext _ _›)))⟩
  · obtain ⟨g1, g2, hv, g4, g5⟩ := lineI_le hl
    simp only at g1 g2
    have h1 : startI (ls s) k = a := by unfold startI; rw [hl]
    have h2 : endI (ls s) k = b := by unfold endI; rw [hl]
    have hpb := end_place hv (List.mem_of_getElem? g5)
    have hpa := start_place hv (List.mem_of_getElem? g5)
    simp only at hpa hpb
    have Ha : Hid (atI (ls s) k col = vAt (ls s) b a col) := Lib.hid (vAt_eq hl (row_valid g1 hpa hpb))
    rw [ls_len] at g2
    have HB := Lib.hid hpb
    have HA := Lib.hid hpa
    clear hl hpa hpb g5
    go_enter Try.func33, Try.ntmps33
    go_wp2_with (first | (go_at_call 26; refine (r4start_c _ _ _ hs).mono ?_; rintro e w1 ⟨rfl, hx1⟩) | (go_at_call 28; refine (r4end_c _ _ _ hs).mono ?_; rintro e w1 ⟨rfl, hx1⟩) | (go_at_call 35; refine (rnext_c _ _ _ hs).mono ?_; rintro e w1 ⟨rfl, hx1⟩))
    go_loopw [2, 7] (fun cv pv wr => ∃ (q : Nat) (c : Int), q ≤ b ∧ placeB (ls s) q = true ∧ pv = .int .i64 q ∧ cv = .int .i64 c ∧ -9223372036854775808 ≤ c ∧ c ≤ 9223372036854775807 ∧ vAt (ls s) b q c = vAt (ls s) b a col ∧ Ext w wr) (fun _ pv _ => b - (intOf pv).toNat)
    case atStart => exact ⟨a, col, g1, HA.out, rfl, rfl, hc.1, hc.2, rfl, (by (repeat (first | exact Ext.refl _ | exact ‹Ext _ _› | refine Ext.alloc ?_ _ | refine Ext.drew ?_ | refine Ext.drewN ?_ _ | (refine Ext.setCell ?_ (by first | omega | (simp; done) | (simp; omega)) _) | refine Ext.trans ?_ ‹Ext _ _›)))⟩
    case round =>
      obtain ⟨q, c, hq, hpq, rfl, rfl, hc1, hc2, hok, hx⟩ := hrel
      have Hok := Lib.hid hok
      have HQ := Lib.hid hpq
      clear hok hpq
      by_cases h0 : 0 < c
      · by_cases hlt : q < b
        · obtain ⟨n, m1, m2, m3, m4, m5⟩ := vAt_step h0 hlt HQ.out HB.out
          have M1 := Lib.hid m1
          have M4 := Lib.hid m4
          have M5 := Lib.hid m5
          clear m1 m4 m5
          go_wp2_with (first | (go_at_call 26; refine (r4start_c _ _ _ hs).mono ?_; rintro e w1 ⟨rfl, hx1⟩) | (go_at_call 28; refine (r4end_c _ _ _ hs).mono ?_; rintro e w1 ⟨rfl, hx1⟩) | (go_at_call 35; refine (rnext_c _ _ _ hs).mono ?_; rintro e w1 ⟨rfl, hx1⟩))
          go_roundw
          case rel => exact ⟨n, c - 1, m3, M4.out, by rw [M1.out], by go_num, by omega, by omega, by rw [← M5.out]; exact Hok.out, (by (repeat (first | exact Ext.refl _ | exact ‹Ext _ _› | refine Ext.alloc ?_ _ | refine Ext.drew ?_ | refine Ext.drewN ?_ _ | (refine Ext.setCell ?_ (by first | omega | (simp; done) | (simp; omega)) _) | refine Ext.trans ?_ ‹Ext _ _›)))⟩
          case measure => rw [M1.out]; (simp [intOf] <;> omega)
        · have eq : q = b := by omega
          subst eq
          have Hd : Hid (atI (ls s) k col = q) := Lib.hid (by rw [Ha.out, ← Hok.out, vAt_end])
          go_wp2_with (first | (go_at_call 26; refine (r4start_c _ _ _ hs).mono ?_; rintro e w1 ⟨rfl, hx1⟩) | (go_at_call 28; refine (r4end_c _ _ _ hs).mono ?_; rintro e w1 ⟨rfl, hx1⟩) | (go_at_call 35; refine (rnext_c _ _ _ hs).mono ?_; rintro e w1 ⟨rfl, hx1⟩))
          go_ret
          exact ⟨ret1 Hd.out.symm, (by (repeat (first | exact Ext.refl _ | exact ‹Ext _ _› | refine Ext.alloc ?_ _ | refine Ext.drew ?_ | refine Ext.drewN ?_ _ | (refine Ext.setCell ?_ (by first | omega | (simp; done) | (simp; omega)) _) | refine Ext.trans ?_ ‹Ext _ _›)))⟩
      · have Hd : Hid (atI (ls s) k col = q) := Lib.hid (by
          rw [Ha.out, ← Hok.out]
          by_cases hlt : q < b
          · refine vAt_stop (by omega) hlt (by rw [ls_len]; omega) ?_
            rcases place_inn HQ.out with h | h
            · rw [ls_len] at h; omega
            · exact h
          · have : q = b := by omega
            subst this; exact vAt_end _ _ _)
        go_wp2_with (first | (go_at_call 26; refine (r4start_c _ _ _ hs).mono ?_; rintro e w1 ⟨rfl, hx1⟩) | (go_at_call 28; refine (r4end_c _ _ _ hs).mono ?_; rintro e w1 ⟨rfl, hx1⟩) | (go_at_call 35; refine (rnext_c _ _ _ hs).mono ?_; rintro e w1 ⟨rfl, hx1⟩))
        go_ret
        exact ⟨ret1 Hd.out.symm, (by (repeat (first | exact Ext.refl _ | exact ‹Ext _ _› | refine Ext.alloc ?_ _ | refine Ext.drew ?_ | refine Ext.drewN ?_ _ | (refine Ext.setCell ?_ (by first | omega | (simp; done) | (simp; omega)) _) | refine Ext.trans ?_ ‹Ext _ _›)))⟩

end Go.Proofs.Ytgapekdcoedmgaa
