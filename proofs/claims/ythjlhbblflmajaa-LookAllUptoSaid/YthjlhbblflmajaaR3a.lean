/- The contracts of the reference calamusref03. -/
import Derived.Test.YthjlhbblflmajaaU1
import Derived.Test.YthjlhbblflmajaaMU2
namespace Go.Proofs.Ythjlhbblflmajaa
open Go.RowKit
set_option linter.unusedVariables false
set_option linter.unusedSimpArgs false
theorem bytes_ret {a : List UInt8} {b : List UInt8} (h : a = b) : Ending.returned (.string ⟨a.toArray⟩) = .returned (.string ⟨b.toArray⟩) := by rw [h]
theorem bytes_retE {a : ByteArray} {b : List UInt8} (h : a.data.toList = b) : Ending.returned (.string a) = .returned (.string ⟨b.toArray⟩) := by rw [← h, Lib.mk_data]
set_option maxHeartbeats 4000000 in
set_option maxRecDepth 100000 in
theorem rbytes_c (n : Int) (w : World) : Calls Try.prog 95 #[.int .i64 n] w fun e w' => e = .returned (.string ⟨(bytesL n).toArray⟩) ∧ Ext w w' := by
  have k1 := fun (W : World) (a : Int) => conv_new (P := Try.prog) W 103 9 5 [a] Try.underlying103 Try.underlying5 Try.underlying9 #[.int .u8 a] 1 rfl rfl
  have k2 := fun (W : World) (a b : Int) => conv_new (P := Try.prog) W 103 9 5 [a, b] Try.underlying103 Try.underlying5 Try.underlying9 #[.int .u8 a, .int .u8 b] 2 rfl rfl
  have k3 := fun (W : World) (a b c : Int) => conv_new (P := Try.prog) W 103 9 5 [a, b, c] Try.underlying103 Try.underlying5 Try.underlying9 #[.int .u8 a, .int .u8 b, .int .u8 c] 3 rfl rfl
  have k4 := fun (W : World) (a b c d : Int) => conv_new (P := Try.prog) W 103 9 5 [a, b, c, d] Try.underlying103 Try.underlying5 Try.underlying9 #[.int .u8 a, .int .u8 b, .int .u8 c, .int .u8 d] 4 rfl rfl
  go_enter Try.func95, Try.ntmps95
  go_wp2
  all_goals clear k1 k2 k3 k4
  all_goals (go_ret; refine ⟨bytes_retE ?_, (by (repeat (first | exact Ext.refl _ | exact ‹Ext _ _› | refine Ext.alloc ?_ _ | refine Ext.drew ?_ | refine Ext.drewN ?_ _ | (refine Ext.setCell ?_ (by first | omega | (simp; done) | (simp; omega)) _) | refine Ext.trans ?_ ‹Ext _ _›)))⟩; unfold bytesL)
  all_goals first
    | (rw [if_pos (by omega)]; done)
    | (rw [if_neg (by omega), if_pos (by omega)]; done)
    | (rw [if_neg (by omega), if_neg (by omega), if_pos (by omega)]; done)
    | (rw [if_neg (by omega), if_neg (by omega), if_neg (by omega), if_pos (by omega)]; done)
    | (rw [if_neg (by omega), if_neg (by omega), if_neg (by omega), if_neg (by omega)]; done)

set_option maxHeartbeats 4000000 in
set_option maxRecDepth 100000 in
theorem rnumber_2 (s : ByteArray) (hc : s.size = 2) (w : World) : Calls Try.prog 96 #[.string s] w fun e w' => e = .returned (.int .i64 (numI (ls s))) ∧ Ext w w' := by
  have HN := Lib.hid (numI_2 (l := ls s) (by rw [ls_len]; exact hc))
  have H0 := Lib.hid (byL_eq s 0 (by omega))
  have y0 : 0 ≤ ((s[0]'(by omega)).toNat : Int) ∧ ((s[0]'(by omega)).toNat : Int) ≤ 255 := by have := (s[0]'(by omega)).toNat_lt; omega
  have H1 := Lib.hid (byL_eq s 1 (by omega))
  have y1 : 0 ≤ ((s[1]'(by omega)).toNat : Int) ∧ ((s[1]'(by omega)).toNat : Int) ≤ 255 := by have := (s[1]'(by omega)).toNat_lt; omega
  go_enter Try.func96, Try.ntmps96
  go_wp2
  go_rounds 3
  all_goals (go_ret; refine ⟨ret1 ?_, (by (repeat (first | exact Ext.refl _ | exact ‹Ext _ _› | refine Ext.alloc ?_ _ | refine Ext.drew ?_ | refine Ext.drewN ?_ _ | (refine Ext.setCell ?_ (by first | omega | (simp; done) | (simp; omega)) _) | refine Ext.trans ?_ ‹Ext _ _›)))⟩; rw [HN.out, ← H0.out, ← H1.out]; unfold num2; repeat' (first | omega | split))

set_option maxHeartbeats 4000000 in
set_option maxRecDepth 100000 in
theorem rnumber_3 (s : ByteArray) (hc : s.size = 3) (w : World) : Calls Try.prog 96 #[.string s] w fun e w' => e = .returned (.int .i64 (numI (ls s))) ∧ Ext w w' := by
  have HN := Lib.hid (numI_3 (l := ls s) (by rw [ls_len]; exact hc))
  have H0 := Lib.hid (byL_eq s 0 (by omega))
  have y0 : 0 ≤ ((s[0]'(by omega)).toNat : Int) ∧ ((s[0]'(by omega)).toNat : Int) ≤ 255 := by have := (s[0]'(by omega)).toNat_lt; omega
  have H1 := Lib.hid (byL_eq s 1 (by omega))
  have y1 : 0 ≤ ((s[1]'(by omega)).toNat : Int) ∧ ((s[1]'(by omega)).toNat : Int) ≤ 255 := by have := (s[1]'(by omega)).toNat_lt; omega
  have H2 := Lib.hid (byL_eq s 2 (by omega))
  have y2 : 0 ≤ ((s[2]'(by omega)).toNat : Int) ∧ ((s[2]'(by omega)).toNat : Int) ≤ 255 := by have := (s[2]'(by omega)).toNat_lt; omega
  go_enter Try.func96, Try.ntmps96
  go_wp2
  go_rounds 4
  all_goals (go_ret; refine ⟨ret1 ?_, (by (repeat (first | exact Ext.refl _ | exact ‹Ext _ _› | refine Ext.alloc ?_ _ | refine Ext.drew ?_ | refine Ext.drewN ?_ _ | (refine Ext.setCell ?_ (by first | omega | (simp; done) | (simp; omega)) _) | refine Ext.trans ?_ ‹Ext _ _›)))⟩; rw [HN.out, ← H0.out, ← H1.out, ← H2.out]; unfold num3; repeat' (first | omega | split))

set_option maxHeartbeats 4000000 in
set_option maxRecDepth 100000 in
theorem rnumber_4 (s : ByteArray) (hc : s.size = 4) (w : World) : Calls Try.prog 96 #[.string s] w fun e w' => e = .returned (.int .i64 (numI (ls s))) ∧ Ext w w' := by
  have HN := Lib.hid (numI_4 (l := ls s) (by rw [ls_len]; exact hc))
  have H0 := Lib.hid (byL_eq s 0 (by omega))
  have y0 : 0 ≤ ((s[0]'(by omega)).toNat : Int) ∧ ((s[0]'(by omega)).toNat : Int) ≤ 255 := by have := (s[0]'(by omega)).toNat_lt; omega
  have H1 := Lib.hid (byL_eq s 1 (by omega))
  have y1 : 0 ≤ ((s[1]'(by omega)).toNat : Int) ∧ ((s[1]'(by omega)).toNat : Int) ≤ 255 := by have := (s[1]'(by omega)).toNat_lt; omega
  have H2 := Lib.hid (byL_eq s 2 (by omega))
  have y2 : 0 ≤ ((s[2]'(by omega)).toNat : Int) ∧ ((s[2]'(by omega)).toNat : Int) ≤ 255 := by have := (s[2]'(by omega)).toNat_lt; omega
  have H3 := Lib.hid (byL_eq s 3 (by omega))
  have y3 : 0 ≤ ((s[3]'(by omega)).toNat : Int) ∧ ((s[3]'(by omega)).toNat : Int) ≤ 255 := by have := (s[3]'(by omega)).toNat_lt; omega
  go_enter Try.func96, Try.ntmps96
  go_wp2
  go_rounds 5
  all_goals (go_ret; refine ⟨ret1 ?_, (by (repeat (first | exact Ext.refl _ | exact ‹Ext _ _› | refine Ext.alloc ?_ _ | refine Ext.drew ?_ | refine Ext.drewN ?_ _ | (refine Ext.setCell ?_ (by first | omega | (simp; done) | (simp; omega)) _) | refine Ext.trans ?_ ‹Ext _ _›)))⟩; rw [HN.out, ← H0.out, ← H1.out, ← H2.out, ← H3.out]; unfold num4; repeat' (first | omega | split))

set_option maxHeartbeats 4000000 in
set_option maxRecDepth 100000 in
theorem rnumber_1 (s : ByteArray) (hc : s.size = 1) (w : World) : Calls Try.prog 96 #[.string s] w fun e w' => e = .returned (.int .i64 (numI (ls s))) ∧ Ext w w' := by
  have HN := Lib.hid (numI_1 (l := ls s) (by rw [ls_len]; exact hc))
  have H0 := Lib.hid (byL_eq s 0 (by omega))
  have y0 : 0 ≤ ((s[0]'(by omega)).toNat : Int) ∧ ((s[0]'(by omega)).toNat : Int) ≤ 255 := by have := (s[0]'(by omega)).toNat_lt; omega
  go_enter Try.func96, Try.ntmps96
  go_wp2
  all_goals (go_ret; refine ⟨ret1 ?_, (by (repeat (first | exact Ext.refl _ | exact ‹Ext _ _› | refine Ext.alloc ?_ _ | refine Ext.drew ?_ | refine Ext.drewN ?_ _ | (refine Ext.setCell ?_ (by first | omega | (simp; done) | (simp; omega)) _) | refine Ext.trans ?_ ‹Ext _ _›)))⟩; rw [HN.out, ← H0.out])
theorem rnumber_c (s : ByteArray) (h1 : 1 ≤ s.size) (h2 : s.size ≤ 4) (w : World) : Calls Try.prog 96 #[.string s] w fun e w' => e = .returned (.int .i64 (numI (ls s))) ∧ Ext w w' := by
  have hc : s.size = 1 ∨ s.size = 2 ∨ s.size = 3 ∨ s.size = 4 := by omega
  rcases hc with hc | hc | hc | hc
  · exact rnumber_1 s hc w
  · exact rnumber_2 s hc w
  · exact rnumber_3 s hc w
  · exact rnumber_4 s hc w

theorem is_bool (s : ByteArray) (h1 : 1 ≤ s.size) (h2 : s.size ≤ 4) : (bytesL (numI (ls s)) == s.toList) = isL (ls s) := by
  rw [Lib.toList_data]
  exact is_eq (ls s) (by rw [ls_len]; exact h1) (by rw [ls_len]; exact h2)
set_option maxHeartbeats 4000000 in
set_option maxRecDepth 100000 in
theorem ris_c (s : ByteArray) (w : World) : Calls Try.prog 85 #[.string s] w fun e w' => e = .returned (.bool (isL (ls s))) ∧ Ext w w' := by
  by_cases h1 : 1 ≤ s.size
  · by_cases h2 : s.size ≤ 4
    · have HI := Lib.hid (is_bool s h1 h2)
      go_enter Try.func85, Try.ntmps85
      go_wp2_with (first | (go_at_call 95; refine (rbytes_c _ _).mono ?_; rintro e w1 ⟨rfl, hx1⟩) | (go_at_call 96; refine (rnumber_c _ h1 h2 _).mono ?_; rintro e w1 ⟨rfl, hx1⟩))
      go_ret
      exact ⟨retb HI.out, (by (repeat (first | exact Ext.refl _ | exact ‹Ext _ _› | refine Ext.alloc ?_ _ | refine Ext.drew ?_ | refine Ext.drewN ?_ _ | (refine Ext.setCell ?_ (by first | omega | (simp; done) | (simp; omega)) _) | refine Ext.trans ?_ ‹Ext _ _›)))⟩
    · have h3 : 5 ≤ s.size := by omega
      clear h2
      have HI : Hid (isL (ls s) = false) := Lib.hid (is_long _ (by rw [ls_len]; omega))
      go_enter Try.func85, Try.ntmps85
      go_wp2_with (first | (go_at_call 95; refine (rbytes_c _ _).mono ?_; rintro e w1 ⟨rfl, hx1⟩))
      go_ret
      exact ⟨retb HI.out.symm, (by (repeat (first | exact Ext.refl _ | exact ‹Ext _ _› | refine Ext.alloc ?_ _ | refine Ext.drew ?_ | refine Ext.drewN ?_ _ | (refine Ext.setCell ?_ (by first | omega | (simp; done) | (simp; omega)) _) | refine Ext.trans ?_ ‹Ext _ _›)))⟩
  · have h3 : s.size = 0 := by omega
    clear h1
    have HI : Hid (isL (ls s) = false) := Lib.hid (is_none _ (by rw [ls_len]; omega))
    go_enter Try.func85, Try.ntmps85
    go_wp2_with (first | (go_at_call 95; refine (rbytes_c _ _).mono ?_; rintro e w1 ⟨rfl, hx1⟩))
    go_ret
    exact ⟨retb HI.out.symm, (by (repeat (first | exact Ext.refl _ | exact ‹Ext _ _› | refine Ext.alloc ?_ _ | refine Ext.drew ?_ | refine Ext.drewN ?_ _ | (refine Ext.setCell ?_ (by first | omega | (simp; done) | (simp; omega)) _) | refine Ext.trans ?_ ‹Ext _ _›)))⟩

end Go.Proofs.Ythjlhbblflmajaa
