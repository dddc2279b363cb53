/- Joined by merge.py out of this work's texts: R3a, R3b, R3c, XU, PE, Lk, Hs, ML4, ML3, MV, PHp, MN, PHs, QX0, QX1, PBX, QX2, PHgX. -/
import Derived.Test.YthjlhbblflmajaaZHA0
import Derived.Test.YthjlhbblflmajaaWWords
import Derived.Test.YthjlhbblflmajaaWMore
import Derived.RangeFuncBox
import Derived.Sort.QuietIn
import Derived.Maps.AppendAt
import Derived.Maps.OwnIn
import Derived.Laws.EntriesVeiled
import Derived.Test.YthjlhbblflmajaaProg
import Derived.Below
import Derived.Deep.Draws
import Derived.Deep.AppendLies
import Derived.OwnWalk
import Derived.Laws.BytesArg
import Derived.Laws.MakeOwn
import Derived.Laws.OwnMore
import Derived.Deep.OwnRows
import Derived.Tactics
import Derived.Lib.ConvBytes
import Derived.Laws.Slices
import Derived.WalkKit
import Derived.KernelRfl
import Derived.RowKit3
import Derived.Deep.LoopGhost
import Derived.Deep.QuietTactic
import Derived.BigQuiet
import Derived.WideLaws
import Derived.Deep.DeepCutAuto
import Derived.Deep.CutBlock
import Derived.Deep.RegionHeld3
import Derived.Laws.Rows
import Derived.Lib.AppendStr
import Derived.ArgAppend
import Derived.Laws.IdiomCopy
import Derived.OrdersHeld
import Derived.Laws.BitsLemmas
import Derived.RowKit
import Derived.Test.YthjlhbblflmajaaWLast
import Derived.Test.YthjlhbblflmajaaWTab
import Derived.Test.YthjlhbblflmajaaWQPut
import Derived.Test.YthjlhbblflmajaaWApart
import Derived.Test.YthjlhbblflmajaaWArr
import Derived.Test.YthjlhbblflmajaaWZeros
import Derived.Test.YthjlhbblflmajaaWFoot
import Derived.Test.YthjlhbblflmajaaWKept
import Derived.Test.YthjlhbblflmajaaWShare
import Derived.Test.YthjlhbblflmajaaWN
import Derived.Test.YthjlhbblflmajaaWFootNe
import Derived.Test.YthjlhbblflmajaaWEqStruct
import Derived.Test.YthjlhbblflmajaaWRepsOne
import Derived.Test.YthjlhbblflmajaaWNEv
/- The contracts of the reference calamusref03. -/
namespace Go.Proofs.Ythjlhbblflmajaa
open Go.RowKit
set_option linter.unusedVariables false
set_option linter.unusedSimpArgs false
theorem bytes_ret {a : List UInt8} {b : List UInt8} (h : a = b) : Ending.returned (.string ⟨a.toArray⟩) = .returned (.string ⟨b.toArray⟩) := by rw [h]
theorem bytes_retE {a : ByteArray} {b : List UInt8} (h : a.data.toList = b) : Ending.returned (.string a) = .returned (.string ⟨b.toArray⟩) := by rw [← h, Lib.mk_data]
set_option maxHeartbeats 4000000 in
set_option maxRecDepth 100000 in
theorem rbytes_c (n : Int) (w : World) : Calls Try.prog 95 #[.int .i64 n] w fun e w' => e = .returned (.string ⟨(bytesL n).toArray⟩) ∧ Ext w w' := by
  have k1 := fun (W : World) (a : Int) => conv_new (P := Try.prog) W 103 9 5 [a] Try.underlying103 Try.underlying5 Try.underlying9 #[.int .u8 a] 1 rfl rfl
  have k2 := fun (W : World) (a b : Int) => conv_new (P := Try.prog) W 103 9 5 [a, b] Try.underlying103 Try.underlying5 Try.underlying9 #[.int .u8 a, .int .u8 b] 2 rfl rfl
  have k3 := fun (W : World) (a b c : Int) => conv_new (P := Try.prog) W 103 9 5 [a, b, c] Try.underlying103 Try.underlying5 Try.underlying9 #[.int .u8 a, .int .u8 b, .int .u8 c] 3 rfl rfl
  have k4 := fun (W : World) (a b c d : Int) => conv_new (P := Try.prog) W 103 9 5 [a, b, c, d] Try.underlying103 Try.underlying5 Try.underlying9 #[.int .u8 a, .int .u8 b, .int .u8 c, .int .u8 d] 4 rfl rfl
  go_enter Try.func95, Try.ntmps95
  go_wp2
  all_goals clear k1 k2 k3 k4
  all_goals (go_ret; refine ⟨bytes_retE ?_, (by (repeat (first | exact Ext.refl _ | exact ‹Ext _ _› | refine Ext.alloc ?_ _ | refine Ext.drew ?_ | refine Ext.drewN ?_ _ | (refine Ext.setCell ?_ (by first | omega | (simp; done) | (simp; omega)) _) | refine Ext.trans ?_ ‹Ext _ _›)))⟩; unfold bytesL)
  all_goals first
    | (rw [if_pos (by omega)]; done)
    | (rw [if_neg (by omega), if_pos (by omega)]; done)
    | (rw [if_neg (by omega), if_neg (by omega), if_pos (by omega)]; done)
    | (rw [if_neg (by omega), if_neg (by omega), if_neg (by omega), if_pos (by omega)]; done)
    | (rw [if_neg (by omega), if_neg (by omega), if_neg (by omega), if_neg (by omega)]; done)

set_option maxHeartbeats 4000000 in
set_option maxRecDepth 100000 in
theorem rnumber_2 (s : ByteArray) (hc : s.size = 2) (w : World) : Calls Try.prog 96 #[.string s] w fun e w' => e = .returned (.int .i64 (numI (ls s))) ∧ Ext w w' := by
  have HN := Lib.hid (numI_2 (l := ls s) (by rw [ls_len]; exact hc))
  have H0 := Lib.hid (byL_eq s 0 (by omega))
  have y0 : 0 ≤ ((s[0]'(by omega)).toNat : Int) ∧ ((s[0]'(by omega)).toNat : Int) ≤ 255 := by have := (s[0]'(by omega)).toNat_lt; omega
  have H1 := Lib.hid (byL_eq s 1 (by omega))
  have y1 : 0 ≤ ((s[1]'(by omega)).toNat : Int) ∧ ((s[1]'(by omega)).toNat : Int) ≤ 255 := by have := (s[1]'(by omega)).toNat_lt; omega
  go_enter Try.func96, Try.ntmps96
  go_wp2
  go_rounds 3
  all_goals (go_ret; refine ⟨ret1 ?_, (by (repeat (first | exact Ext.refl _ | exact ‹Ext _ _› | refine Ext.alloc ?_ _ | refine Ext.drew ?_ | refine Ext.drewN ?_ _ | (refine Ext.setCell ?_ (by first | omega | (simp; done) | (simp; omega)) _) | refine Ext.trans ?_ ‹Ext _ _›)))⟩; rw [HN.out, ← H0.out, ← H1.out]; unfold num2; repeat' (first | omega | split))

set_option maxHeartbeats 4000000 in
set_option maxRecDepth 100000 in
theorem rnumber_3 (s : ByteArray) (hc : s.size = 3) (w : World) : Calls Try.prog 96 #[.string s] w fun e w' => e = .returned (.int .i64 (numI (ls s))) ∧ Ext w w' := by
  have HN := Lib.hid (numI_3 (l := ls s) (by rw [ls_len]; exact hc))
  have H0 := Lib.hid (byL_eq s 0 (by omega))
  have y0 : 0 ≤ ((s[0]'(by omega)).toNat : Int) ∧ ((s[0]'(by omega)).toNat : Int) ≤ 255 := by have := (s[0]'(by omega)).toNat_lt; omega
  have H1 := Lib.hid (byL_eq s 1 (by omega))
  have y1 : 0 ≤ ((s[1]'(by omega)).toNat : Int) ∧ ((s[1]'(by omega)).toNat : Int) ≤ 255 := by have := (s[1]'(by omega)).toNat_lt; omega
  have H2 := Lib.hid (byL_eq s 2 (by omega))
  have y2 : 0 ≤ ((s[2]'(by omega)).toNat : Int) ∧ ((s[2]'(by omega)).toNat : Int) ≤ 255 := by have := (s[2]'(by omega)).toNat_lt; omega
  go_enter Try.func96, Try.ntmps96
  go_wp2
  go_rounds 4
  all_goals (go_ret; refine ⟨ret1 ?_, (by (repeat (first | exact Ext.refl _ | exact ‹Ext _ _› | refine Ext.alloc ?_ _ | refine Ext.drew ?_ | refine Ext.drewN ?_ _ | (refine Ext.setCell ?_ (by first | omega | (simp; done) | (simp; omega)) _) | refine Ext.trans ?_ ‹Ext _ _›)))⟩; rw [HN.out, ← H0.out, ← H1.out, ← H2.out]; unfold num3; repeat' (first | omega | split))

set_option maxHeartbeats 4000000 in
set_option maxRecDepth 100000 in
theorem rnumber_4 (s : ByteArray) (hc : s.size = 4) (w : World) : Calls Try.prog 96 #[.string s] w fun e w' => e = .returned (.int .i64 (numI (ls s))) ∧ Ext w w' := by
  have HN := Lib.hid (numI_4 (l := ls s) (by rw [ls_len]; exact hc))
  have H0 := Lib.hid (byL_eq s 0 (by omega))
  have y0 : 0 ≤ ((s[0]'(by omega)).toNat : Int) ∧ ((s[0]'(by omega)).toNat : Int) ≤ 255 := by have := (s[0]'(by omega)).toNat_lt; omega
  have H1 := Lib.hid (byL_eq s 1 (by omega))
  have y1 : 0 ≤ ((s[1]'(by omega)).toNat : Int) ∧ ((s[1]'(by omega)).toNat : Int) ≤ 255 := by have := (s[1]'(by omega)).toNat_lt; omega
  have H2 := Lib.hid (byL_eq s 2 (by omega))
  have y2 : 0 ≤ ((s[2]'(by omega)).toNat : Int) ∧ ((s[2]'(by omega)).toNat : Int) ≤ 255 := by have := (s[2]'(by omega)).toNat_lt; omega
  have H3 := Lib.hid (byL_eq s 3 (by omega))
  have y3 : 0 ≤ ((s[3]'(by omega)).toNat : Int) ∧ ((s[3]'(by omega)).toNat : Int) ≤ 255 := by have := (s[3]'(by omega)).toNat_lt; omega
  go_enter Try.func96, Try.ntmps96
  go_wp2
  go_rounds 5
  all_goals (go_ret; refine ⟨ret1 ?_, (by (repeat (first | exact Ext.refl _ | exact ‹Ext _ _› | refine Ext.alloc ?_ _ | refine Ext.drew ?_ | refine Ext.drewN ?_ _ | (refine Ext.setCell ?_ (by first | omega | (simp; done) | (simp; omega)) _) | refine Ext.trans ?_ ‹Ext _ _›)))⟩; rw [HN.out, ← H0.out, ← H1.out, ← H2.out, ← H3.out]; unfold num4; repeat' (first | omega | split))

set_option maxHeartbeats 4000000 in
set_option maxRecDepth 100000 in
theorem rnumber_1 (s : ByteArray) (hc : s.size = 1) (w : World) : Calls Try.prog 96 #[.string s] w fun e w' => e = .returned (.int .i64 (numI (ls s))) ∧ Ext w w' := by
  have HN := Lib.hid (numI_1 (l := ls s) (by rw [ls_len]; exact hc))
  have H0 := Lib.hid (byL_eq s 0 (by omega))
  have y0 : 0 ≤ ((s[0]'(by omega)).toNat : Int) ∧ ((s[0]'(by omega)).toNat : Int) ≤ 255 := by have := (s[0]'(by omega)).toNat_lt; omega
  go_enter Try.func96, Try.ntmps96
  go_wp2
  all_goals (go_ret; refine ⟨ret1 ?_, (by (repeat (first | exact Ext.refl _ | exact ‹Ext _ _› | refine Ext.alloc ?_ _ | refine Ext.drew ?_ | refine Ext.drewN ?_ _ | (refine Ext.setCell ?_ (by first | omega | (simp; done) | (simp; omega)) _) | refine Ext.trans ?_ ‹Ext _ _›)))⟩; rw [HN.out, ← H0.out])
theorem rnumber_c (s : ByteArray) (h1 : 1 ≤ s.size) (h2 : s.size ≤ 4) (w : World) : Calls Try.prog 96 #[.string s] w fun e w' => e = .returned (.int .i64 (numI (ls s))) ∧ Ext w w' := by
  have hc : s.size = 1 ∨ s.size = 2 ∨ s.size = 3 ∨ s.size = 4 := by omega
  rcases hc with hc | hc | hc | hc
  · exact rnumber_1 s hc w
  · exact rnumber_2 s hc w
  · exact rnumber_3 s hc w
  · exact rnumber_4 s hc w

theorem is_bool (s : ByteArray) (h1 : 1 ≤ s.size) (h2 : s.size ≤ 4) : (bytesL (numI (ls s)) == s.toList) = isL (ls s) := by
  rw [Lib.toList_data]
  exact is_eq (ls s) (by rw [ls_len]; exact h1) (by rw [ls_len]; exact h2)
set_option maxHeartbeats 4000000 in
set_option maxRecDepth 100000 in
theorem ris_c (s : ByteArray) (w : World) : Calls Try.prog 85 #[.string s] w fun e w' => e = .returned (.bool (isL (ls s))) ∧ Ext w w' := by
  by_cases h1 : 1 ≤ s.size
  · by_cases h2 : s.size ≤ 4
    · have HI := Lib.hid (is_bool s h1 h2)
      go_enter Try.func85, Try.ntmps85
      go_wp2_with (first | (go_at_call 95; refine (rbytes_c _ _).mono ?_; rintro e w1 ⟨rfl, hx1⟩) | (go_at_call 96; refine (rnumber_c _ h1 h2 _).mono ?_; rintro e w1 ⟨rfl, hx1⟩))
      go_ret
      exact ⟨retb HI.out, (by (repeat (first | exact Ext.refl _ | exact ‹Ext _ _› | refine Ext.alloc ?_ _ | refine Ext.drew ?_ | refine Ext.drewN ?_ _ | (refine Ext.setCell ?_ (by first | omega | (simp; done) | (simp; omega)) _) | refine Ext.trans ?_ ‹Ext _ _›)))⟩
    · have h3 : 5 ≤ s.size := by omega
      clear h2
      have HI : Hid (isL (ls s) = false) := Lib.hid (is_long _ (by rw [ls_len]; omega))
      go_enter Try.func85, Try.ntmps85
      go_wp2_with (first | (go_at_call 95; refine (rbytes_c _ _).mono ?_; rintro e w1 ⟨rfl, hx1⟩))
      go_ret
      exact ⟨retb HI.out.symm, (by (repeat (first | exact Ext.refl _ | exact ‹Ext _ _› | refine Ext.alloc ?_ _ | refine Ext.drew ?_ | refine Ext.drewN ?_ _ | (refine Ext.setCell ?_ (by first | omega | (simp; done) | (simp; omega)) _) | refine Ext.trans ?_ ‹Ext _ _›)))⟩
  · have h3 : s.size = 0 := by omega
    clear h1
    have HI : Hid (isL (ls s) = false) := Lib.hid (is_none _ (by rw [ls_len]; omega))
    go_enter Try.func85, Try.ntmps85
    go_wp2_with (first | (go_at_call 95; refine (rbytes_c _ _).mono ?_; rintro e w1 ⟨rfl, hx1⟩))
    go_ret
    exact ⟨retb HI.out.symm, (by (repeat (first | exact Ext.refl _ | exact ‹Ext _ _› | refine Ext.alloc ?_ _ | refine Ext.drew ?_ | refine Ext.drewN ?_ _ | (refine Ext.setCell ?_ (by first | omega | (simp; done) | (simp; omega)) _) | refine Ext.trans ?_ ‹Ext _ _›)))⟩

end Go.Proofs.Ythjlhbblflmajaa
/- The contracts of the reference calamusref03, by its places. -/
namespace Go.Proofs.Ythjlhbblflmajaa
open Go.RowKit
set_option linter.unusedVariables false
set_option linter.unusedSimpArgs false
theorem is_ext (s : ByteArray) (i n : Nat) (hn : 1 ≤ n) (hi : i + n ≤ s.size) : isL (ls (s.extract i (i + n))) = decide (szL ((ls s).drop i) = n) := by
  rw [ls_ext2, Nat.add_sub_cancel_left]
  exact is_take _ n hn (by rw [List.length_drop, ls_len]; omega)
def upTo (l : List UInt8) (i : Nat) : List Int := (plcTo l i).map Int.ofNat ++ [(i : Int)]
theorem upTo_len (l : List UInt8) (i : Nat) : (upTo l i).length ≤ i + 1 := by unfold upTo; have := plcTo_len l i; simp; omega
theorem upTo_next (l : List UInt8) (i n : Nat) (hn : szL (l.drop i) = n) (h0 : n ≠ 0) : upTo l i ++ [(i : Int) + n] = upTo l (i + n) := by
  unfold upTo; rw [plcTo_add l i n hn h0]; simp
theorem upTo_end (l : List UInt8) (h : validL l = true) : upTo l l.length = splitI l := by rw [splitI_ok h]; rfl
set_option maxHeartbeats 4000000 in
set_option maxRecDepth 100000 in
theorem rsplit_c (s : ByteArray) (w : World) (hs : s.size ≤ 1099511627775) : Calls Try.prog 71 #[.string s] w fun e w' => ∃ a cap, e = .returned (.slice a (splitI (ls s)).length cap) ∧ OwnI w.heap.size w' a cap (splitI (ls s)) ∧ Ext w w' := by
  go_enter Try.func71, Try.ntmps71
  go_wp2
  go_loopw [3, 4] (fun v i wr => ∃ (k : Nat) (a : Option Addr) (cap : Nat), k ≤ s.size ∧ i = .int .i64 k ∧ v = .slice a (upTo (ls s) k).length cap ∧ OwnI w.heap.size wr a cap (upTo (ls s) k) ∧ validL ((ls s).drop k) = validL (ls s) ∧ Ext w wr) (fun _ i _ => s.size - (intOf i).toNat)
  case atStart => exact ⟨0, some ⟨w.heap.size, 0, none⟩, 1, by omega, rfl, rfl, OwnI.lit w (Nat.le_refl _) [0] _ rfl (by simp), by simp, (by (repeat (first | exact Ext.refl _ | exact ‹Ext _ _› | refine Ext.alloc ?_ _ | refine Ext.drew ?_ | refine Ext.drewN ?_ _ | (refine Ext.setCell ?_ (by first | omega | (simp; done) | (simp; omega)) _) | refine Ext.trans ?_ ‹Ext _ _›)))⟩
  case round =>
    obtain ⟨k, a, cap, hk, rfl, rfl, hown, hok, hx⟩ := hrel
    have Hok := Lib.hid hok
    have Hown := Lib.hid hown
    clear hok hown
    have hul := upTo_len (ls s) k
    by_cases hlt : k < s.size
    · obtain ⟨wo, rfl⟩ : ∃ wo : World, wo = wr := ⟨_, rfl⟩
      go_wp2
      go_loopw [5] (fun v w2 => ∃ n : Nat, 1 ≤ n ∧ n ≤ 5 ∧ v = .int .i64 n ∧ (szL ((ls s).drop k) = 0 ∨ n ≤ szL ((ls s).drop k)) ∧ Ext wo w2) (fun v _ => 5 - (intOf v).toNat)
      case atStart => exact ⟨1, by omega, by omega, rfl, by omega, (by (repeat (first | exact Ext.refl _ | exact ‹Ext _ _› | refine Ext.alloc ?_ _ | refine Ext.drew ?_ | refine Ext.drewN ?_ _ | (refine Ext.setCell ?_ (by first | omega | (simp; done) | (simp; omega)) _) | refine Ext.trans ?_ ‹Ext _ _›)))⟩
      case round =>
        obtain ⟨n, hn1, hn5, rfl, hz, hx2⟩ := hrel
        have hlu := upTo_len (ls s) k
        go_wp2_with (first | (go_at_call 85; refine (ris_c _ _).mono ?_; rintro e w1 ⟨rfl, hx1⟩) | (at_builtin; refine app_i w _ rfl _ _ rfl _ _ (upTo (ls s) k) _ rfl (Hown.out.ext (by (repeat (first | exact Ext.refl _ | exact ‹Ext _ _› | refine Ext.alloc ?_ _ | refine Ext.drew ?_ | refine Ext.drewN ?_ _ | (refine Ext.setCell ?_ (by first | omega | (simp; done) | (simp; omega)) _) | refine Ext.trans ?_ ‹Ext _ _›)))) (by (repeat (first | exact Ext.refl _ | exact ‹Ext _ _› | refine Ext.alloc ?_ _ | refine Ext.drew ?_ | refine Ext.drewN ?_ _ | (refine Ext.setCell ?_ (by first | omega | (simp; done) | (simp; omega)) _) | refine Ext.trans ?_ ‹Ext _ _›))) rfl (by omega) ?_; intro a2 cap2 w2 hown2 hx2))
        all_goals (try simp only [Bool.not_eq_true', Bool.not_eq_false'] at *)
        · go_roundw
          case rel =>
            have hi : isL (ls (s.extract k (k + n))) = false := by rename_i h; rcases h with h | h; (exfalso; omega); exact h
            rw [is_ext s k n hn1 (by omega), decide_eq_false_iff_not] at hi
            exact ⟨n + 1, by omega, by omega, by go_num, by omega, (by (repeat (first | exact Ext.refl _ | exact ‹Ext _ _› | refine Ext.alloc ?_ _ | refine Ext.drew ?_ | refine Ext.drewN ?_ _ | (refine Ext.setCell ?_ (by first | omega | (simp; done) | (simp; omega)) _) | refine Ext.trans ?_ ‹Ext _ _›)))⟩
          case measure => simp [intOf]; omega
        · have hi : isL (ls (s.extract k (k + n))) = true := by
            have h : (k : Int) + n ≤ s.size ∧ isL (ls (s.extract k (k + n))) = true := by assumption
            exact h.2
          rw [is_ext s k n hn1 (by omega), decide_eq_true_eq] at hi
          go_roundw
          case rel =>
            have hnx := upTo_next (ls s) k n hi (by omega)
            refine ⟨k + n, a2, cap2, by omega, by go_num, ?_, ?_, ?_, (by (repeat (first | exact Ext.refl _ | exact ‹Ext _ _› | refine Ext.alloc ?_ _ | refine Ext.drew ?_ | refine Ext.drewN ?_ _ | (refine Ext.setCell ?_ (by first | omega | (simp; done) | (simp; omega)) _) | refine Ext.trans ?_ ‹Ext _ _›)))⟩
            · rw [← hnx]; simp
            · rw [← hnx]; exact hown2
            · rw [← Hok.out, validL_step (l := (ls s).drop k) (by rw [List.length_drop, ls_len]; omega) (by omega), hi, List.drop_drop]
          case measure => simp [intOf]; omega
        · go_roundw
          case rel =>
            have hz2 := szL_le ((ls s).drop k)
            rw [List.length_drop, ls_len] at hz2
            exact ⟨n + 1, by omega, by omega, by go_num, by omega, (by (repeat (first | exact Ext.refl _ | exact ‹Ext _ _› | refine Ext.alloc ?_ _ | refine Ext.drew ?_ | refine Ext.drewN ?_ _ | (refine Ext.setCell ?_ (by first | omega | (simp; done) | (simp; omega)) _) | refine Ext.trans ?_ ‹Ext _ _›)))⟩
          case measure => simp [intOf]; omega
        · have hz4 := szL_hi ((ls s).drop k)
          have hv : validL (ls s) = false := by rw [← Hok.out]; exact validL_bad (by rw [List.length_drop, ls_len]; omega) (by omega)
          go_ret
          exact ⟨none, 0, by rw [splitI_bad hv]; rfl, by rw [splitI_bad hv]; exact OwnI.nil _ _, (by (repeat (first | exact Ext.refl _ | exact ‹Ext _ _› | refine Ext.alloc ?_ _ | refine Ext.drew ?_ | refine Ext.drewN ?_ _ | (refine Ext.setCell ?_ (by first | omega | (simp; done) | (simp; omega)) _) | refine Ext.trans ?_ ‹Ext _ _›)))⟩
    · have hk' : k = s.size := by omega
      subst hk'
      have hv : validL (ls s) = true := by rw [← Hok.out, ← ls_len s, List.drop_length]; exact validL_nil
      have He : Hid (upTo (ls s) s.size = splitI (ls s)) := Lib.hid (by rw [← ls_len s]; exact upTo_end _ hv)
      go_wp2
      go_ret
      exact ⟨a, cap, by first | rfl | (simp; done) | (rw [← He.out]; rfl) | (simp [He.out]; done), by rw [← He.out]; exact Hown.out, (by (repeat (first | exact Ext.refl _ | exact ‹Ext _ _› | refine Ext.alloc ?_ _ | refine Ext.drew ?_ | refine Ext.drewN ?_ _ | (refine Ext.setCell ?_ (by first | omega | (simp; done) | (simp; omega)) _) | refine Ext.trans ?_ ‹Ext _ _›)))⟩

set_option maxHeartbeats 4000000 in
set_option maxRecDepth 100000 in
theorem rfind_c (a : Option Addr) (cap : Nat) (xs : List Int) (p : Int) (w : World) (hr : RdI w a xs) (hl : xs.length ≤ 1152921504606846976) : Calls Try.prog 74 #[.slice a xs.length cap, .int .i64 p] w fun e w' => e = .returned (.int .i64 (findF xs p 0)) ∧ Ext w w' := by
  have HR := Lib.hid hr
  clear hr
  go_enter Try.func74, Try.ntmps74
  go_wp2
  go_loopw [5] (fun i wr => ∃ k : Nat, k ≤ xs.length ∧ i = .int .i64 k ∧ findF (xs.drop k) p k = findF xs p 0 ∧ Ext w wr) (fun i _ => xs.length - (intOf i).toNat)
  case atStart => exact ⟨0, by omega, rfl, by simp, (by (repeat (first | exact Ext.refl _ | exact ‹Ext _ _› | refine Ext.alloc ?_ _ | refine Ext.drew ?_ | refine Ext.drewN ?_ _ | (refine Ext.setCell ?_ (by first | omega | (simp; done) | (simp; omega)) _) | refine Ext.trans ?_ ‹Ext _ _›)))⟩
  case round =>
    obtain ⟨k, hk, rfl, hok, hx⟩ := hrel
    have Hok := Lib.hid hok
    clear hok
    by_cases hlt : k < xs.length
    · have Hs := Lib.hid (findF_step xs p k hlt)
      obtain ⟨g, o, rfl, hc⟩ := (HR.out.ext hx) k hlt
      go_wp2
      all_goals (try simp only [beq_iff_eq, beq_eq_false_iff_ne] at *)
      · go_ret
        refine ⟨ret1 ?_, (by (repeat (first | exact Ext.refl _ | exact ‹Ext _ _› | refine Ext.alloc ?_ _ | refine Ext.drew ?_ | refine Ext.drewN ?_ _ | (refine Ext.setCell ?_ (by first | omega | (simp; done) | (simp; omega)) _) | refine Ext.trans ?_ ‹Ext _ _›)))⟩
        rw [← Hok.out, Hs.out, if_pos (by assumption)]
      · go_roundw
        case rel =>
          refine ⟨k + 1, by omega, by go_num, ?_, (by (repeat (first | exact Ext.refl _ | exact ‹Ext _ _› | refine Ext.alloc ?_ _ | refine Ext.drew ?_ | refine Ext.drewN ?_ _ | (refine Ext.setCell ?_ (by first | omega | (simp; done) | (simp; omega)) _) | refine Ext.trans ?_ ‹Ext _ _›)))⟩
          rw [← Hok.out, Hs.out, if_neg (by assumption)]
        case measure => simp [intOf]; omega
    · have Hs := Lib.hid (findF_end xs p k (by omega))
      go_wp2
      go_ret
      exact ⟨ret1 (by rw [← Hok.out, Hs.out]), (by (repeat (first | exact Ext.refl _ | exact ‹Ext _ _› | refine Ext.alloc ?_ _ | refine Ext.drew ?_ | refine Ext.drewN ?_ _ | (refine Ext.setCell ?_ (by first | omega | (simp; done) | (simp; omega)) _) | refine Ext.trans ?_ ‹Ext _ _›)))⟩

set_option maxHeartbeats 4000000 in
set_option maxRecDepth 100000 in
theorem rvalid_c (s : ByteArray) (w : World) (hs : s.size ≤ 1099511627775) : Calls Try.prog 54 #[.string s] w fun e w' => e = .returned (.bool (validL (ls s))) ∧ Ext w w' := by
  have hsl := splitI_len (ls s)
  rw [ls_len] at hsl
  have Hv : Hid (decide (0 < (splitI (ls s)).length) = validL (ls s)) := Lib.hid (by
    unfold splitI plcs
    rcases Bool.eq_false_or_eq_true (validL (ls s)) with h | h <;> simp [h])
  go_enter Try.func54, Try.ntmps54
  go_wp2_with (first | (go_at_call 71; refine (rsplit_c _ _ hs).mono ?_; rintro e w1 ⟨a, cap, rfl, hown, hx1⟩))
  all_goals (go_ret; exact ⟨retb Hv.out, (by (repeat (first | exact Ext.refl _ | exact ‹Ext _ _› | refine Ext.alloc ?_ _ | refine Ext.drew ?_ | refine Ext.drewN ?_ _ | (refine Ext.setCell ?_ (by first | omega | (simp; done) | (simp; omega)) _) | refine Ext.trans ?_ ‹Ext _ _›)))⟩)

set_option maxHeartbeats 4000000 in
set_option maxRecDepth 100000 in
theorem rplace_c (s : ByteArray) (p : Int) (w : World) (hs : s.size ≤ 1099511627775) : Calls Try.prog 56 #[.string s, .int .i64 p] w fun e w' => e = .returned (.bool (placeB (ls s) p)) ∧ Ext w w' := by
  have hsl := splitI_len (ls s)
  rw [ls_len] at hsl
  have Hp := Lib.hid (place_find (ls s) p)
  go_enter Try.func56, Try.ntmps56
  go_wp2_with (first | (go_at_call 71; refine (rsplit_c _ _ hs).mono ?_; rintro e w1 ⟨a, cap, rfl, hown, hx1⟩) | (go_at_call 74; refine (rfind_c _ _ (splitI (ls s)) _ _ (OwnI.rd (by assumption)) (by omega)).mono ?_; rintro e w1 ⟨rfl, hx1⟩))
  all_goals (go_ret; exact ⟨retb Hp.out, (by (repeat (first | exact Ext.refl _ | exact ‹Ext _ _› | refine Ext.alloc ?_ _ | refine Ext.drew ?_ | refine Ext.drewN ?_ _ | (refine Ext.setCell ?_ (by first | omega | (simp; done) | (simp; omega)) _) | refine Ext.trans ?_ ‹Ext _ _›)))⟩)

end Go.Proofs.Ythjlhbblflmajaa
/- The contracts of the reference calamusref03, from place to place. -/
namespace Go.Proofs.Ythjlhbblflmajaa
open Go.RowKit
set_option linter.unusedVariables false
set_option linter.unusedSimpArgs false
end Go.Proofs.Ythjlhbblflmajaa
/- The contracts of the packages utf, calamusref03 and class in the printer's form. -/
namespace Go.Proofs.Ythjlhbblflmajaa
open Go.RowKit
set_option linter.unusedVariables false
set_option linter.unusedSimpArgs false
def utf_Valid.f (a0 : ByteArray) : Option (Bool) := if a0.size ≤ 1099511627775 then some (validL (ls a0)) else none
theorem utf_Valid.eq (a0 : ByteArray) (hg : a0.size ≤ 1099511627775) : utf_Valid.f a0 = some (validL (ls a0)) := if_pos hg
theorem utf_Valid.calls (a0 : ByteArray) (r : Bool) (w : World) (h : utf_Valid.f a0 = some r) : Calls Try.prog 45 #[.string a0] w fun e w' => e = .returned (.bool r) ∧ Below w.heap.size w w' := by
  unfold utf_Valid.f at h
  split at h
  · cases h; exact valid_c a0 w (by omega)
  · cases h
def utf_inner.f (a0 : Int) : Option (Bool) := if 0 ≤ a0 ∧ a0 ≤ 255 then some (inn a0) else none
theorem utf_inner.eq (a0 : Int) (hg : 0 ≤ a0 ∧ a0 ≤ 255) : utf_inner.f a0 = some (inn a0) := if_pos hg
theorem utf_inner.calls (a0 : Int) (r : Bool) (w : World) (h : utf_inner.f a0 = some r) : Calls Try.prog 57 #[.int .u8 a0] w fun e w' => e = .returned (.bool r) ∧ Below w.heap.size w w' := by
  unfold utf_inner.f at h
  split at h
  · cases h; exact inner_c a0 (by omega) (by omega) w
  · cases h
def utf_Place.f (a0 : ByteArray) (a1 : Int) : Option (Bool) := if a0.size ≤ 1099511627775 then some (placeB (ls a0) a1) else none
theorem utf_Place.eq (a0 : ByteArray) (a1 : Int) (hg : a0.size ≤ 1099511627775) : utf_Place.f a0 a1 = some (placeB (ls a0) a1) := if_pos hg
theorem utf_Place.calls (a0 : ByteArray) (a1 : Int) (r : Bool) (w : World) (h : utf_Place.f a0 a1 = some r) : Calls Try.prog 35 #[.string a0, .int .i64 a1] w fun e w' => e = .returned (.bool r) ∧ Below w.heap.size w w' := by
  unfold utf_Place.f at h
  split at h
  · cases h; exact place_c a0 a1 w (by omega)
  · cases h
def utf_Next.f (a0 : ByteArray) (a1 : Int) : Option (Int) := if a0.size ≤ 1099511627775 then some (nextI (ls a0) a1) else none
theorem utf_Next.eq (a0 : ByteArray) (a1 : Int) (hg : a0.size ≤ 1099511627775) : utf_Next.f a0 a1 = some (nextI (ls a0) a1) := if_pos hg
theorem utf_Next.calls (a0 : ByteArray) (a1 : Int) (r : Int) (w : World) (h : utf_Next.f a0 a1 = some r) : Calls Try.prog 79 #[.string a0, .int .i64 a1] w fun e w' => e = .returned (.int .i64 r) ∧ Below w.heap.size w w' := by
  unfold utf_Next.f at h
  split at h
  · cases h; exact next_c a0 a1 w (by omega)
  · cases h
def calamusref03_Valid.f (a0 : ByteArray) : Option (Bool) := if a0.size ≤ 1099511627775 then some (validL (ls a0)) else none
theorem calamusref03_Valid.eq (a0 : ByteArray) (hg : a0.size ≤ 1099511627775) : calamusref03_Valid.f a0 = some (validL (ls a0)) := if_pos hg
theorem calamusref03_Valid.calls (a0 : ByteArray) (r : Bool) (w : World) (h : calamusref03_Valid.f a0 = some r) : Calls Try.prog 54 #[.string a0] w fun e w' => e = .returned (.bool r) ∧ Below w.heap.size w w' := by
  unfold calamusref03_Valid.f at h
  split at h
  · cases h; exact rvalid_c a0 w (by omega)
  · cases h
def calamusref03_Place.f (a0 : ByteArray) (a1 : Int) : Option (Bool) := if a0.size ≤ 1099511627775 then some (placeB (ls a0) a1) else none
theorem calamusref03_Place.eq (a0 : ByteArray) (a1 : Int) (hg : a0.size ≤ 1099511627775) : calamusref03_Place.f a0 a1 = some (placeB (ls a0) a1) := if_pos hg
theorem calamusref03_Place.calls (a0 : ByteArray) (a1 : Int) (r : Bool) (w : World) (h : calamusref03_Place.f a0 a1 = some r) : Calls Try.prog 56 #[.string a0, .int .i64 a1] w fun e w' => e = .returned (.bool r) ∧ Below w.heap.size w w' := by
  unfold calamusref03_Place.f at h
  split at h
  · cases h; exact rplace_c a0 a1 w (by omega)
  · cases h
end Go.Proofs.Ythjlhbblflmajaa
/- Words for the plain proofs: functions with rounds, ranges of whole numbers. -/
namespace Go.Proofs.Ythjlhbblflmajaa
open Go.RowKit
set_option linter.unusedVariables false
set_option linter.unusedSimpArgs false
open Go.RowKit Go.Proofs.YthjlhbblflmajaaW.PrintWords Go.Proofs.YthjlhbblflmajaaW.PrintMore

theorem Ev.pos {α : Type} {c : Prop} [Decidable c] {a b : Nat → Option α} {r : α} (h : c) (k : Ev a r) : Ev (fun n => if c then a n else b n) r := by
  obtain ⟨K, hk⟩ := k
  exact ⟨K, fun n hn => by show (if c then a n else b n) = _; rw [if_pos h]; exact hk n hn⟩
theorem Ev.neg {α : Type} {c : Prop} [Decidable c] {a b : Nat → Option α} {r : α} (h : ¬ c) (k : Ev b r) : Ev (fun n => if c then a n else b n) r := by
  obtain ⟨K, hk⟩ := k
  exact ⟨K, fun n hn => by show (if c then a n else b n) = _; rw [if_neg h]; exact hk n hn⟩
theorem Ev.ite {α : Type} {c : Prop} [Decidable c] {a b : Nat → Option α} {r : α} (h1 : c → Ev a r) (h2 : ¬ c → Ev b r) : Ev (fun n => if c then a n else b n) r := by
  by_cases h : c
  · exact Ev.pos h (h1 h)
  · exact Ev.neg h (h2 h)
theorem Ev.eq {α : Type} {g : Nat → Option α} {r r' : α} (h : Ev g r) (e : r = r') : Ev g r' := e ▸ h
theorem Ev.ret {α : Type} {r r' : α} (e : r = r') : Ev (fun _ => some r) r' := ⟨0, fun _ _ => by rw [e]⟩
theorem Ev.val {α : Type} {g : Option α} {r : α} (e : g = some r) : Ev (fun _ => g) r := ⟨0, fun _ _ => e⟩
theorem Ev.call {α β : Type} {g : Option α} {f : Nat → α → Option β} {a : α} {r : β} (h : g = some a) (k : Ev (fun n => f n a) r) : Ev (fun n => g.bind (f n)) r := Ev.bind (Ev.val h) k
theorem Ev.at {α : Type} {g : Nat → Option α} {r : α} (h : Ev g r) : ∃ k, g k = some r := h.rounds
theorem kdR_int {base : Nat} {w : World} {v : Value} {xs : List Int} (h : w.ownsRow base 3 1 v xs.length (xs.map (Value.int .i64))) : Kd.R (Kd.int .i64) 3 w base (fun _ => True) v xs := by
  refine ⟨fun _ _ => trivial, _, h, by simp [Kd.int, Kd.scalar], fun j p hj => ?_⟩
  obtain ⟨hl, rfl⟩ := List.getElem?_eq_some_iff.1 hj
  show ((xs.map (Value.int .i64)).drop (j * 1)).take 1 = [Value.int .i64 xs[j]]
  rw [Nat.mul_one, List.drop_eq_getElem_cons (by simpa using hl)]
  simp
theorem w64 {n : Int} (h0 : -9223372036854775808 ≤ n) (h1 : n ≤ 9223372036854775807) : wrap64 n = n := IntWalk.wrap64_in n ⟨h0, h1⟩
theorem mx_eq (a b : Int) : mx a b = max a b := by unfold mx; omega
theorem mn_eq (a b : Int) : mn a b = min a b := by unfold mn; omega
theorem bt_nat (s : ByteArray) (k : Nat) (h : k < s.size) : bt s k = byL (ls s) k := by
  unfold bt
  rw [dif_pos (by simpa using h), ← byL_eq s k h]
  rfl
theorem bt_byL (s : ByteArray) (i : Int) (h0 : 0 ≤ i) (h : i < s.size) : bt s i = byL (ls s) i.toNat := by
  obtain ⟨k, rfl⟩ : ∃ k : Nat, i = k := ⟨i.toNat, by omega⟩
  rw [bt_nat s k (by omega)]; rfl
theorem rd_nat (xs : List Int) (k : Nat) (h : k < xs.length) : rd xs k = xs[k] := by
  unfold rd; simp [List.getD_eq_getElem?_getD, List.getElem?_eq_getElem h]
theorem rd_getD (xs : List Int) (k : Nat) : rd xs k = xs.getD k 0 := rfl
theorem empty_iff (s : ByteArray) : s.toList = [] ↔ s.size = 0 := by
  rw [Lib.toList_data, ← List.length_eq_zero_iff, ← Lib.size_eq]
theorem toList_ls (s : ByteArray) : s.toList = ls s := Lib.toList_data s
theorem size_ls (s : ByteArray) : s.size = (ls s).length := (ls_len s).symm
theorem ba_ext {s t : ByteArray} (h : ls s = ls t) : s = t := by
  apply ByteArray.ext; exact Array.toList_inj.1 h
end Go.Proofs.Ythjlhbblflmajaa
/- The contract of look.All: an iterator's values, collected. -/
namespace Go.Proofs.Ythjlhbblflmajaa
open Go.RowKit
set_option linter.unusedVariables false
set_option linter.unusedSimpArgs false
open Go.Shelf Go.Proofs.YthjlhbblflmajaaW
attribute [local go_sem] Oper.semAt_some

def MaxLen (w : World) : Prop := ∃ m : Int, w.cell? ⟨0, 0, none⟩ = some (.int .i64 m)
theorem MaxLen.below {w w' : World} (h : MaxLen w) (hb : Below w.heap.size w w') : MaxLen w' := by
  obtain ⟨m, h⟩ := h
  exact ⟨m, by rw [Below.cell hb (World.block_lt_of_cell? w _ h)]; exact h⟩
theorem MaxLen.drewN {w : World} (h : MaxLen w) (n : Nat) : MaxLen (w.drewN n) := by
  obtain ⟨m, h⟩ := h
  exact ⟨m, by simpa using h⟩
theorem index_any (s p : ByteArray) (hs : s.size < 4294967281) (w : World) (h : MaxLen w) : Calls Try.prog 70 #[.string s, .string p] w fun e w' => e = .returned (.int .i64 (Lib.index (ls s) (ls p))) ∧ w' = w := by
  obtain ⟨m, h⟩ := h
  exact Try.strings_Index s p m w hs h

def encI (x : Nat) : Array Value := #[.int .i64 x]

set_option maxHeartbeats 4000000 in
set_option maxRecDepth 100000 in
theorem each1_c (n : Nat) (hn : 2 ≤ n) (l B C : Nat) (s p : ByteArray) (hs : s.size ≤ 1000000000) (hp0 : 0 < p.size) (J Jx : List Nat → World → Prop)
    (hY : ∀ pre x W, J pre W → pre.length < (occF (ls s) (ls p) 0).length → YieldAt Fence.wide (n - 1) Try.prog l (encI x) W fun e W' =>
      (e = .returned (.bool true) ∧ J (pre ++ [x]) W' ∧ (KeepC B W W' ∧ KeepC C W W' ∧ KeepC 0 W W')) ∨ (e = .returned (.bool false) ∧ Jx (pre ++ [x]) W'))
    (hJd : ∀ pre W m, J pre W → J pre (W.drewN m))
    (W : World) (hM : MaxLen W) (hB : W.cell? ⟨B, 0, none⟩ = some (.string s)) (hC : W.cell? ⟨C, 0, none⟩ = some (.string p)) (h0 : J [] W) :
    CallsIn Fence.wide n Try.prog 69 #[.func (.yield l) #[] #[], .pointer (some ⟨B, 0, none⟩), .pointer (some ⟨C, 0, none⟩)] W fun e W' => (∃ v, e = .returned v) ∧
      ((∃ ys, ys = occF (ls s) (ls p) 0 ∧ J ys W') ∨ (∃ pre, pre <+: occF (ls s) (ls p) 0 ∧ Jx pre W')) := by
  refine callsIn_of_wp Try.func69 rfl trivial ?_ rfl
  simp only [Try.ntmps69, List.size_toArray, List.length_cons, List.length_nil, Nat.reduceAdd, Nat.reduceSub, Array.replicate_succ, Array.replicate_zero, List.push_toArray, List.append_toArray, List.nil_append, List.cons_append]
  gi_wp2
  gi_loopw [4] (fun q wr => ∃ (i : Nat) (pre : List Nat), q = .int .i64 i ∧ i ≤ s.size ∧ occF (ls s) (ls p) 0 = pre ++ occF (ls s) (ls p) i ∧ J pre wr ∧ MaxLen wr ∧ wr.cell? ⟨B, 0, none⟩ = some (.string s) ∧ wr.cell? ⟨C, 0, none⟩ = some (.string p))
    (fun q _ => s.size + 1 - (intOf q).toNat)
  case atStart => exact ⟨0, [], rfl, by omega, by simp, h0, hM, hB, hC⟩
  case round =>
    obtain ⟨i, pre, rfl, hi, hpre, hJ, hM, hc, hd⟩ := hrel
    have Hpre := Lib.hid hpre
    have HM := Lib.hid hM
    clear hpre hM
    have hix : ls (s.extract i s.size) = (ls s).drop i := ls_ext s i
    have hge := Lib.index_ge ((ls s).drop i) (ls p)
    by_cases hneg : Lib.index ((ls s).drop i) (ls p) < 0
    · have hlast := occF_none (l := ls s) (p := ls p) (i := i) (by rw [ls_len]; exact hi) hneg
      have hm1 : Lib.index (ls (s.extract i s.size)) (ls p) = -1 := by rw [hix]; omega
      have hall : occF (ls s) (ls p) 0 = pre := by rw [Hpre.out, hlast, List.append_nil]
      have Hall := Lib.hid hall
      clear hall hlast hneg hge hix
      gi_wp2
      (refine wpIn_region_quiet_lit rfl (by kernel_rfl) (by kernel_rfl) ?_; (repeat (gi_big_quiet_step (fail))); (refine wpQuietIn_step (fun _ _ _ _ => trivial) (fun K hK => ?_)); go_simp; apply Exists.intro; refine ⟨fun _ => ?_, hK _ ?_⟩; (focus (refine ⟨fun _ => by omega, ?_⟩; gi_at_call 70; exact CallsIn.quiet_of_same (callsIn_wide.2 (index_any _ _ (by simp; omega) _ (HM.out.drewN _))))); clear hK K; (repeat (gi_big_quiet_step (fail))); refine wpQuietIn_nil ?_; intro _ hw'; obtain ⟨nq, hw''⟩ := hw'; subst hw'')
      rw [hm1]
      gi_wp2
      refine bodyPost_ret (results_none rfl _ _ _) rfl ?_
      exact ⟨⟨_, rfl⟩, .inl ⟨_, Hall.out.symm, hJd _ _ _ hJ⟩⟩
    · obtain ⟨m, hm⟩ : ∃ m : Nat, Lib.index ((ls s).drop i) (ls p) = m := ⟨(Lib.index ((ls s).drop i) (ls p)).toNat, by omega⟩
      obtain ⟨h1, h2⟩ := occF_next (l := ls s) (p := ls p) (i := i) (by rw [ls_len]; exact hi) hm
      rw [ls_len, ls_len] at h2
      have hm1 : Lib.index (ls (s.extract i s.size)) (ls p) = m := by rw [hix]; exact hm
      have H1 := Lib.hid h1
      clear h1 hm hneg hge hix
      gi_wp2
      (refine wpIn_region_quiet_lit rfl (by kernel_rfl) (by kernel_rfl) ?_; (repeat (gi_big_quiet_step (fail))); (refine wpQuietIn_step (fun _ _ _ _ => trivial) (fun K hK => ?_)); go_simp; apply Exists.intro; refine ⟨fun _ => ?_, hK _ ?_⟩; (focus (refine ⟨fun _ => by omega, ?_⟩; gi_at_call 70; exact CallsIn.quiet_of_same (callsIn_wide.2 (index_any _ _ (by simp; omega) _ (HM.out.drewN _))))); clear hK K; (repeat (gi_big_quiet_step (fail))); refine wpQuietIn_nil ?_; intro _ hw'; obtain ⟨nq, hw''⟩ := hw'; subst hw'')
      rw [hm1]
      clear hm1
      obtain ⟨fn, tmps, assign, body, hy, hR⟩ := hY pre (i + m) (wr.drewN nq) (hJd _ _ _ hJ) (by rw [Hpre.out, H1.out]; simp)
      dsimp only [encI] at hy
      simp only [Int.natCast_add] at hy
      gi_wp2
      refine ⟨fun _ => by omega, hR.mono ?_⟩
      rintro e W3 (⟨rfl, hJ3, hk3, hk4, hk5⟩ | ⟨rfl, hJx3⟩)
      · have hc3 := hk3 (.string s) (by simpa using hc)
        have hd3 := hk4 (.string p) (by simpa using hd)
        have hM3 : MaxLen W3 := by obtain ⟨q, hq⟩ := HM.out.drewN nq; exact ⟨q, hk5 _ hq⟩
        gi_wp2
        go_roundw
        case rel => exact ⟨i + m + 1, pre ++ [i + m], by go_num, by omega, by rw [Hpre.out, H1.out]; simp, hJ3, hM3, hc3, hd3⟩
        case measure => simp [intOf]; omega
      · gi_wp2
        refine bodyPost_ret (results_none rfl _ _ _) rfl ?_
        exact ⟨⟨_, rfl⟩, .inr ⟨_, ⟨occF (ls s) (ls p) (i + m + 1), by rw [Hpre.out, H1.out]; simp⟩, hJx3⟩⟩

theorem grownBy_drewN (W : World) (m : Nat) : W.grownBy (W.drewN m) none := by
  have h := (Ext.drewN (Ext.refl W) m)
  exact ⟨h.os, h.tape, h.output, h.size, fun k hk _ => Below.block h k hk⟩
def KeepL (B C : Nat) (W W' : World) : Prop := KeepC B W W' ∧ KeepC C W W' ∧ KeepC 0 W W'
theorem KeepL.t {B C : Nat} {X Y Z : World} (h : KeepL B C X Y) (k : KeepL B C Y Z) : KeepL B C X Z := ⟨h.1.t k.1, h.2.1.t k.2.1, h.2.2.t k.2.2⟩
theorem KeepL.of_ext {B C : Nat} {W W' : World} (h : Ext W W') : KeepL B C W W' := ⟨KeepC.of_ext h, KeepC.of_ext h, KeepC.of_ext h⟩
theorem each_stops (n : Nat) (hn : 2 ≤ n) (B C : Nat) (s p : ByteArray) (hs : s.size ≤ 1000000000) (hp0 : 0 < p.size) (w : World) (hM : MaxLen w) (hB : w.cell? ⟨B, 0, none⟩ = some (.string s)) (hC : w.cell? ⟨C, 0, none⟩ = some (.string p)) :
    SeqStopsK Fence.wide n Try.prog 69 #[.pointer (some ⟨B, 0, none⟩), .pointer (some ⟨C, 0, none⟩)] encI (KeepL B C) (fun ys => ys = occF (ls s) (ls p) 0) (fun pre => pre <+: occF (ls s) (ls p) 0) (occF (ls s) (ls p) 0).length w := fun l J Jx W hW hJ _ hY h0 =>
  each1_c n hn l B C s p hs hp0 J Jx hY (fun pre W m h => hJ pre W _ none h (grownBy_drewN W m) (fun r e => by cases e)) W (hM.below hW) (KeepC.of_ext hW _ hB) (KeepC.of_ext hW _ hC) h0

set_option maxHeartbeats 4000000 in
set_option maxRecDepth 100000 in
theorem each_c (s p : ByteArray) (w : World) : Calls Try.prog 53 #[.string s, .string p] w fun e w' => e = .returned (.func (.func 69) #[] #[.pointer (some ⟨w.heap.size, 0, none⟩), .pointer (some ⟨w.heap.size + 1, 0, none⟩)]) ∧ w' = (w.alloc (.cells #[.string s] 9)).alloc (.cells #[.string p] 9) := by
  go_enter Try.func53, Try.ntmps53
  go_wp2
  go_ret
  exact ⟨rfl, rfl⟩

theorem box_ne {W : World} {B : Nat} {t : TypeId} {v : Value} {row : Option Nat} (h : Boxed W B t v) (hr : ∀ r, row = some r → ∃ o : Obj, W.heap[r]? = some o ∧ o.isCells = false) : some B ≠ row := by
  intro e
  obtain ⟨o, ho, hc⟩ := hr B e.symm
  rw [show W.heap[B]? = _ from h] at ho; cases ho; cases hc
theorem keepC_of {W W' : World} {B : Nat} {t t' : TypeId} {u : Value} (h : Boxed W B t u) (h' : Boxed W' B t' u) : KeepC B W W' := fun v e => by
  rw [h.cell] at e; cases e; exact h'.cell
def RowI (base : Nat) (w : World) (v : Value) (xs : List Int) : Prop := w.ownsRow base 3 1 v xs.length (xs.map (Value.int .i64))

set_option maxHeartbeats 4000000 in
set_option maxRecDepth 100000 in
theorem all_bad (s p : ByteArray) (w : World) (hs : s.size ≤ 1000000000) (hp : p.size ≤ 1152921504606846976) (h : p.size = 0 ∨ validL (ls s) = false ∨ validL (ls p) = false) :
    Calls Try.prog 31 #[.string s, .string p] w fun e w' => ∃ v, e = .returned v ∧ RowI w.heap.size w' v (lookI (ls s) (ls p)) ∧ Ext w w' := by
  have hl : lookI (ls s) (ls p) = [] := by
    unfold lookI
    rw [if_neg]
    rintro ⟨h1, h2, h3⟩
    rcases h with h | h | h
    · exact h1 (List.length_eq_zero_iff.1 (by rw [ls_len]; exact h))
    · rw [h2] at h; cases h
    · rw [h3] at h; cases h
  rw [hl]
  clear hl
  by_cases h0 : p.size = 0
  · have he := emp_t p h0
    clear h h0
    go_enter Try.func31, Try.ntmps31
    go_wp2
    go_ret
    exact ⟨_, rfl, ⟨rfl, .inl ⟨rfl, rfl⟩⟩, (by (repeat (first | exact Ext.refl _ | exact ‹Ext _ _› | refine Ext.alloc ?_ _ | refine Ext.drew ?_ | refine Ext.drewN ?_ _ | (refine Ext.setCell ?_ (by first | omega | (simp; done) | (simp; omega)) _) | refine Ext.trans ?_ ‹Ext _ _›)))⟩
  · have he := emp_f p (by omega)
    rcases Bool.eq_false_or_eq_true (validL (ls s)) with hv | hv
    · have hv2 : validL (ls p) = false := by
        rcases h with h | h | h
        · exact absurd h h0
        · rw [hv] at h; cases h
        · exact h
      clear h h0
      go_enter Try.func31, Try.ntmps31
      go_wp2_with (first | (go_at_call 45; refine (valid_c _ _ (by omega)).mono ?_; rintro e w1 ⟨rfl, hx1⟩))
      go_ret
      exact ⟨_, rfl, ⟨rfl, .inl ⟨rfl, rfl⟩⟩, (by (repeat (first | exact Ext.refl _ | exact ‹Ext _ _› | refine Ext.alloc ?_ _ | refine Ext.drew ?_ | refine Ext.drewN ?_ _ | (refine Ext.setCell ?_ (by first | omega | (simp; done) | (simp; omega)) _) | refine Ext.trans ?_ ‹Ext _ _›)))⟩
    · clear h h0
      go_enter Try.func31, Try.ntmps31
      go_wp2_with (first | (go_at_call 45; refine (valid_c _ _ (by omega)).mono ?_; rintro e w1 ⟨rfl, hx1⟩))
      go_ret
      exact ⟨_, rfl, ⟨rfl, .inl ⟨rfl, rfl⟩⟩, (by (repeat (first | exact Ext.refl _ | exact ‹Ext _ _› | refine Ext.alloc ?_ _ | refine Ext.drew ?_ | refine Ext.drewN ?_ _ | (refine Ext.setCell ?_ (by first | omega | (simp; done) | (simp; omega)) _) | refine Ext.trans ?_ ‹Ext _ _›)))⟩

set_option maxHeartbeats 4000000 in
set_option maxRecDepth 100000 in
theorem all_ok (s p : ByteArray) (w : World) (hM : MaxLen w) (hs : s.size ≤ 1000000000) (hp : p.size ≤ 1152921504606846976) (h0 : p.size ≠ 0) (hv : validL (ls s) = true) (hv2 : validL (ls p) = true) :
    Calls Try.prog 31 #[.string s, .string p] w fun e w' => ∃ v, e = .returned v ∧ RowI w.heap.size w' v (lookI (ls s) (ls p)) ∧ Ext w w' := by
  have hl : lookI (ls s) (ls p) = (occF (ls s) (ls p) 0).map Int.ofNat := by
    unfold lookI
    rw [if_pos]
    refine ⟨fun e => h0 ?_, hv, hv2⟩
    rw [← ls_len, e]; rfl
  rw [hl]
  clear hl
  have he := emp_f p (by omega)
  have hN := occF_len (ls s) (ls p) 0
  rw [ls_len] at hN
  have Hp0 : Hid (0 < p.size) := Lib.hid (by omega)
  clear h0
  have HN := Lib.hid hN
  have HM := Lib.hid hM
  clear hN hM
  obtain ⟨i0, hi, hz0, hz1, hz2⟩ := info_parts Try.infoInt
  refine (callsIn_wide (n := 5)).1 ?_
  refine callsIn_of_wp_marks Try.func31 rfl trivial ?_ rfl
  simp only [Try.ntmps31, List.size_toArray, List.length_cons, List.length_nil, Nat.reduceAdd, Nat.reduceSub, Array.replicate_succ, Array.replicate_zero, List.push_toArray, List.append_toArray, List.nil_append, List.cons_append]
  gi_wp2_with (first | ((first | refine ⟨trivial, (fun _ => by omega), ?_⟩ | refine ⟨trivial, ?_⟩); gi_at_call 45; refine (callsIn_wide.2 (valid_c _ _ (by omega))).mono ?_; rintro e w1 ⟨rfl, hx1⟩) | ((first | refine ⟨trivial, (fun _ => by omega), ?_⟩ | refine ⟨trivial, ?_⟩); gi_at_call 53; refine (callsIn_wide.2 (each_c _ _ _)).mono ?_; rintro e w2 ⟨rfl, rfl⟩))
  have hx : Ext w w1 := (by (repeat (first | exact Ext.refl _ | exact ‹Ext _ _› | refine Ext.alloc ?_ _ | refine Ext.drew ?_ | refine Ext.drewN ?_ _ | (refine Ext.setCell ?_ (by first | omega | (simp; done) | (simp; omega)) _) | refine Ext.trans ?_ ‹Ext _ _›)))
  have hM1 : MaxLen w1 := HM.out.below hx
  have h0w : 0 < w.heap.size := by obtain ⟨m, hm⟩ := HM.out; exact World.block_lt_of_cell? w _ hm
  clear hx1
  have bO := Boxed.new w1 47 (.slice none 0 0)
  have bB := Boxed.new (w1.alloc (.cells #[.slice none 0 0] 47)) 9 (.string s)
  have bC := Boxed.new ((w1.alloc (.cells #[.slice none 0 0] 47)).alloc (.cells #[.string s] 9)) 9 (.string p)
  simp only [World.size_alloc] at bB bC
  obtain ⟨W0, hW0⟩ : ∃ W0, ((w1.alloc (.cells #[.slice none 0 0] 47)).alloc (.cells #[.string s] 9)).alloc (.cells #[.string p] 9) = W0 := ⟨_, rfl⟩
  have x0 : Ext w1 W0 := by rw [← hW0]; exact (((Ext.refl _).alloc _).alloc _).alloc _
  have s0 : W0.heap.size = w1.heap.size + 3 := by rw [← hW0]; simp
  have c0 : Boxed W0 w1.heap.size 47 (.slice none 0 0) := by rw [← hW0]; exact (bO.alloc _).alloc _
  have c1 : Boxed W0 (w1.heap.size + 1) 9 (.string s) := by rw [← hW0]; exact bB.alloc _
  have c2 : Boxed W0 (w1.heap.size + 1 + 1) 9 (.string p) := by rw [← hW0]; exact bC
  have xw : Ext w W0 := hx.trans x0
  have hM0 : MaxLen W0 := hM1.below x0
  rw [hW0]
  clear hW0 bO bB bC
  have hp0 : 0 < p.size := Hp0.out
  have sz := hx.size
  refine wpIn_rangeFunc_ownF rfl (by omega) (gf := 69) (lb := #[.pointer (some ⟨w1.heap.size + 1, 0, none⟩), .pointer (some ⟨w1.heap.size + 1 + 1, 0, none⟩)]) rfl trivial (enters_of Try.func69 (by kernel_rfl) rfl)
    (each_stops 4 (by omega) (w1.heap.size + 1) (w1.heap.size + 1 + 1) s p hs hp0 W0 hM0 c1.cell c2.cell) KeepL.t (fun W l o o' h a b c => ⟨KeepC.b (w := W0) W l o o' h a b c, KeepC.b (w := W0) W l o o' h a b c, KeepC.b (w := W0) W l o o' h a b c⟩) (Below.refl _ _) (fun _ => rfl)
    (fun pre W => ((∃ v, Boxed W w1.heap.size 47 v ∧ W.ownsRow w.heap.size 3 1 v pre.length ((pre.map Int.ofNat).map (Value.int .i64)) ∧ True) ∧ (Boxed W (w1.heap.size + 1) 9 (.string s) ∧ Boxed W (w1.heap.size + 1 + 1) 9 (.string p))) ∧ Below w.heap.size w W)
    (fun _ _ _ => False)
    (OwnFrom.and (OwnFrom.and (Own.from (holdsRow_own w.heap.size w1.heap.size 47 3 1 (fun pre : List Nat => pre.length) (fun pre : List Nat => (pre.map Int.ofNat).map (Value.int .i64)) (fun _ _ => True)) _) (Own.from (fun s A B row hs hg hr => ⟨hs.1.kept hg (box_ne hs.1 hr), hs.2.kept hg (box_ne hs.2 hr)⟩) _)) (ownFrom_below (Nat.le_refl _) (by omega)))
    (fun _ _ _ _ _ hs _ _ => hs)
    ⟨⟨⟨_, c0, World.ownsRow_nil _ _ _ _, trivial⟩, c1, c2⟩, xw⟩
    (fun x => { tmps := #[.string s, .string p, undef, undef, .slice none 0 0, .pointer (some ⟨w1.heap.size, 0, none⟩), .int .i64 (x : Nat), .string p, .bool false, .bool false, .string s, .bool true, .bool false, .bool false, .bool false, .string p, .bool true, .bool false, .bool false, .string s, .string p, .func (.func 69) #[] #[.pointer (some ⟨w1.heap.size + 1, 0, none⟩), .pointer (some ⟨w1.heap.size + 1 + 1, 0, none⟩)], .int .i64 (x : Nat), undef, undef, undef, undef, undef], defers := [] }) ?assign ?body ?done ?stop
  case assign =>
    intro l x W K hK
    simp only [encI]
    gi_wp2
    exact hK
  case body =>
    rintro l pre x W ⟨⟨⟨v, hv, hrow, _⟩, hb1, hb2⟩, hB⟩ hlt
    have hc := hv.cell
    have hN := HN.out
    have hl1 : ((pre.map Int.ofNat).map (Value.int .i64)).length = pre.length := by simp
    gi_wp2_with (gi_at_builtin; refine wpListIn_append_own _ rfl _ _ 47 rfl w.heap.size 3 i0 (.int .i64 0) 1 8 Try.underlying47 hi hz0 hz1 hz2 rfl (by decide) _ _ _ rfl (hrow.alloc _) ⟨W.heap.size, 0, none⟩ 1 1 [.int .i64 (x : Nat)] rfl rfl (cell_one_new _ _ _) (by simp [Value.oneCell']) (by unfold maxLen; omega) (by omega) (by have := hB.size; simp; omega) ?_; intro v' w2 hown' hgrow _; obtain ⟨g', cap', rfl⟩ := ownsRow_succ hown'; obtain ⟨hv1, hv2, hr2, hk2, hbe2⟩ := hv.appended (by decide) hrow hB.size sz hown' hgrow; have hc1 := hv1.cell; have hf1 := hv1.frozen; have q1 := ((hb1.alloc _).kept hgrow (hb1.not_row (by decide) hrow)).kept (grownBy_setCell' w2 w1.heap.size (.slice (some ⟨g', 0, none⟩) (pre.length + 1) cap')) (by simp); have q2 := ((hb2.alloc _).kept hgrow (hb2.not_row (by decide) hrow)).kept (grownBy_setCell' w2 w1.heap.size (.slice (some ⟨g', 0, none⟩) (pre.length + 1) cap')) (by simp; omega))
    refine ⟨hk2, ⟨keepC_of hb1 q1, keepC_of hb2 q2, fun u e => by rw [Below.cell hbe2 (p := ⟨0, 0, none⟩) h0w]; exact e⟩, ⟨⟨_, hv2, by simpa using hr2, trivial⟩, q1, q2⟩, hB.trans hbe2⟩
  case done =>
    rintro D ys W hD rfl ⟨⟨⟨v, hv, hrow, _⟩, _, _⟩, hB⟩ hK
    have hc := hv.cell
    gi_wp2
    refine ⟨by simp, .inl ⟨_, _, rfl, run_takeDeferred hK, ?_⟩⟩
    exact ⟨_, results_tmp rfl _ _ _, v, rfl, by unfold RowI; rw [List.length_map]; exact ownsRow_putObj hrow _ hK rfl, hB.trans (belowK_b (w := w) (Nat.le_refl _) W D _ _ (by omega) hK rfl rfl)⟩
  case stop =>
    rintro D c pre W _ _ h _
    exact h.elim

theorem all_c (s p : ByteArray) (w : World) (hM : MaxLen w) (hs : s.size ≤ 1000000000) (hp : p.size ≤ 1152921504606846976) :
    Calls Try.prog 31 #[.string s, .string p] w fun e w' => ∃ v, e = .returned v ∧ RowI w.heap.size w' v (lookI (ls s) (ls p)) ∧ Ext w w' := by
  by_cases h : p.size = 0 ∨ validL (ls s) = false ∨ validL (ls p) = false
  · exact all_bad s p w hs hp h
  · simp only [not_or, Bool.not_eq_false] at h
    exact all_ok s p w hM hs hp h.1 h.2.1 h.2.2

/- EXTM look.All -/
def look_All.f (a0 : ByteArray) (a1 : ByteArray) : Option (List Int) := if a0.size ≤ 1000000000 ∧ a1.size ≤ 1152921504606846976 then some (lookI (ls a0) (ls a1)) else none
theorem look_All.eq (a0 a1 : ByteArray) (hg : a0.size ≤ 1000000000 ∧ a1.size ≤ 1152921504606846976) : look_All.f a0 a1 = some (lookI (ls a0) (ls a1)) := if_pos hg
theorem look_All.calls (a0 : ByteArray) (a1 : ByteArray) (r : List Int) (w : World) (hM : MaxLen w) (h : look_All.f a0 a1 = some r) :
    Calls Try.prog 31 #[.string a0, .string a1] w fun e w' => ∃ v0_ : Value, e = .returned (v0_) ∧ PrintWords.Kd.R (PrintWords.Kd.int .i64) 3 w' w.heap.size (fun _ => True) v0_ r ∧ Below w.heap.size w w' := by
  unfold look_All.f at h
  split at h
  · cases h
    exact (all_c a0 a1 w hM (by omega) (by omega)).mono fun e w' ⟨v, he, hr, hx⟩ => ⟨v, he, kdR_int hr, hx⟩
  · cases h
end Go.Proofs.Ythjlhbblflmajaa
/- The contracts of hop.words, hop.Starts and hop.Ends. -/
namespace Go.Proofs.Ythjlhbblflmajaa
open Go.RowKit
set_option linter.unusedVariables false
set_option linter.unusedSimpArgs false
open Go.Shelf Go.Proofs.YthjlhbblflmajaaW
attribute [local go_sem] Oper.semAt_some

theorem wl_len (l : List UInt8) (big : Bool) : ∀ (n p : Nat) (last : Int) (fr : Nat) (prev : Int), (wl l big n p last fr prev).length ≤ 2 * n
  | 0, _, _, _, _ => by simp [wl]
  | n + 1, p, last, fr, prev => by
    have ih := wl_len l big n (p + szL (l.drop p)) (kc l big p) (if kc l big p ≠ last then p else fr) p
    rw [wl_step]
    simp only [List.length_append]
    have h1 : (if kc l big p ≠ last ∧ last ≠ 0 then [((fr, prev) : Nat × Int)] else []).length ≤ 1 := by split <;> simp
    have h2 : (if kc l big p = 0 ∧ emB l p = true then [((p, -1) : Nat × Int)] else []).length ≤ 1 := by split <;> simp
    have h3 : (if p = l.length then [] else wl l big n (p + szL (l.drop p)) (kc l big p) (if kc l big p ≠ last then p else fr) p).length ≤ 2 * n := by
      split
      · simp
      · exact ih
    omega
theorem wordsI_len (l : List UInt8) (big : Bool) : (wordsI l big).length ≤ 2 * l.length + 2 := by
  have := wl_len l big (l.length + 1) 0 0 0 (-1); unfold wordsI; omega
def starts0 (xs : List (Nat × Int)) : List Int := xs.map fun x => (x.1 : Int)
def ends0 (xs : List (Nat × Int)) : List Int := (xs.filter fun x => decide (0 ≤ x.2)).map fun x => x.2
def startsI (l : List UInt8) (big : Bool) : List Int := if validL l = true then starts0 (wordsI l big) else []
def endsI (l : List UInt8) (big : Bool) : List Int := if validL l = true then ends0 (wordsI l big) else []
theorem starts0_len (xs : List (Nat × Int)) : (starts0 xs).length ≤ xs.length := by simp [starts0]
theorem ends0_len (xs : List (Nat × Int)) : (ends0 xs).length ≤ xs.length := by simp only [ends0, List.length_map]; exact List.length_filter_le _ _
theorem starts0_snoc (xs : List (Nat × Int)) (x : Nat × Int) : starts0 (xs ++ [x]) = starts0 xs ++ [(x.1 : Int)] := by simp [starts0]
theorem ends0_yes (xs : List (Nat × Int)) (x : Nat × Int) (h : 0 ≤ x.2) : ends0 (xs ++ [x]) = ends0 xs ++ [x.2] := by simp [ends0, h]
theorem ends0_no (xs : List (Nat × Int)) (x : Nat × Int) (h : ¬ 0 ≤ x.2) : ends0 (xs ++ [x]) = ends0 xs := by simp [ends0, h]

def PvL (Bl : Nat) (W : World) (r : Nat) : Prop := Bl < W.heap.size ∧ r ≠ Bl ∧ ∀ v, Boxed W Bl 47 v → some r ≠ v.ownBlock
theorem pvL_ok (Bl : Nat) : PvOk (PvL Bl) where
  below A B r h hb := ⟨Nat.lt_of_lt_of_le h.1 hb.size, h.2.1, fun v hv => h.2.2 v ((Below.block hb Bl h.1).symm.trans hv)⟩
  set A r r' u h h' := ⟨Nat.lt_of_lt_of_le h.1 (grownBy_setCell' A r' u).size, h.2.1, fun v hv => h.2.2 v (((grownBy_setCell' A r' u).block Bl h.1 (fun e => h'.2.1 (by cases e; rfl))).symm.trans hv)⟩
theorem boxed_inj {W : World} {B : Nat} {t : TypeId} {v v' : Value} (h : Boxed W B t v) (h' : Boxed W B t v') : v' = v := by
  have := h.symm.trans h'; simp at this; exact this.symm
theorem kpP_trans {Pv : World → Nat → Prop} {A B C : World} (h : KpP Pv A B) (k : KpP Pv B C) : KpP Pv A C := fun r t u p b => k r t u (h r t u p b).1 (h r t u p b).2
theorem kp_putObj {Bl : Nat} {W : World} {l : Nat} {o : Obj} (o' : Obj) (hl : Bl < l) (ho : W.heap[l]? = some o) (hc : o.isCells = false) : KpP (PvL Bl) W (W.putObj l o') := by
  intro r t u p b
  have hg := grownBy_putObj' W l o'
  have hr : some r ≠ some l := by
    intro e; cases e
    rw [show W.heap[l]? = _ from b] at ho; cases ho; cases hc
  exact ⟨⟨Nat.lt_of_lt_of_le p.1 hg.size, p.2.1, fun v hv => p.2.2 v ((hg.block Bl p.1 (fun e => by cases e; omega)).symm.trans hv)⟩, b.kept hg hr⟩
theorem kp_appended {Bl : Nat} {W w2 : World} {v v' : Value} {tmp : Obj} (hv : Boxed W Bl 47 v) (hv1 : Boxed w2 Bl 47 v) (hgrow : (W.alloc tmp).grownBy w2 v.ownBlock) (hat : v'.ownBlock = v.ownBlock ∨ v'.ownBlock = some (W.alloc tmp).heap.size) :
    KpP (PvL Bl) W (w2.setCell ⟨Bl, 0, none⟩ v') := by
  intro r t u p b
  have b2 : Boxed w2 r t u := (b.alloc tmp).kept hgrow (p.2.2 v hv)
  have b3 := b2.kept (grownBy_setCell' w2 Bl v') (by simpa using p.2.1)
  refine ⟨⟨(hv1.set v').lt, p.2.1, ?_⟩, b3⟩
  intro v2 hv2
  rw [boxed_inj (hv1.set v') hv2]
  rcases hat with h | h
  · rw [h]; exact p.2.2 v hv
  · rw [h, World.size_alloc]
    intro e
    have := b.lt
    cases e; omega
theorem grownBy_ext {A B : World} (h : Below A.heap.size A B) : A.grownBy B none := ⟨h.os, h.tape, h.output, h.size, fun k hk _ => Below.block h k hk⟩
def HoldL (f : List (Nat × Int) → List Int) (w : World) (Bl : Nat) (pre : List (Nat × Int)) (W : World) : Prop :=
  (∃ v, Boxed W Bl 47 v ∧ W.ownsRow w.heap.size 3 1 v (f pre).length ((f pre).map (Value.int .i64)) ∧ True) ∧ Below w.heap.size w W
theorem holdL_own (f : List (Nat × Int) → List Int) (w : World) (Bl c : Nat) (hc : w.heap.size ≤ c) : OwnFrom c (HoldL f w Bl) :=
  OwnFrom.and (Own.from (holdsRow_own w.heap.size Bl 47 3 1 (fun pre : List (Nat × Int) => (f pre).length) (fun pre => (f pre).map (Value.int .i64)) (fun _ _ => True)) _) (ownFrom_below (Nat.le_refl _) hc)
theorem holdL_step (f : List (Nat × Int) → List Int) (w : World) (Bl c : Nat) (hc : w.heap.size ≤ c) (pre : List (Nat × Int)) (A B : World) (h : HoldL f w Bl pre A) (k : StP (PvL Bl) c A B) : HoldL f w Bl pre B := by
  obtain ⟨⟨v, hv, hr, _⟩, hB⟩ := h
  rcases k with hb | ⟨r, u, hr0, hp, rfl⟩
  · have hg := grownBy_ext hb
    exact ⟨⟨v, hv.kept hg (by simp), hr.kept hg (by rcases v.ownBlock with _ | _ <;> simp), trivial⟩, hB.trans (hb.mono hB.size)⟩
  · have hg := grownBy_setCell' A r u
    exact ⟨⟨v, hv.kept hg (fun e => hp.2.1 (by cases e; rfl)), hr.kept hg (.inr fun e => hp.2.2 v hv e.symm), trivial⟩, hB.setCell (p := ⟨r, 0, none⟩) (by show w.heap.size ≤ r; omega) u⟩
theorem stP_other {Bl c d : Nat} (A B : World) (k : Nat) (h : StP (PvL Bl) c A B) (_ : d ≤ k) (h2 : k < c) (h3 : k < A.heap.size) : B.heap[k]? = A.heap[k]? := by
  rcases h with hb | ⟨r, u, hr, _, rfl⟩
  · exact Below.block hb k h3
  · exact (grownBy_setCell' A r u).block k h3 (fun e => by cases e; omega)

theorem words_seq (n : Nat) (hn : 2 ≤ n) (Bl Bt Bk : Nat) (s : ByteArray) (big : Bool) (hs : s.size ≤ 1000000000) (hv : validL (ls s) = true) (w : World) (hl : Boxed w Bl 47 (.slice none 0 0)) (ht : Boxed w Bt 9 (.string s))
    (hk : Boxed w Bk 87 (.func (.func (if big then 76 else 75)) #[] #[])) (n1 : Bt ≠ Bl) (n2 : Bk ≠ Bl) :
    SeqR Fence.wide n Try.prog 77 #[.pointer (some ⟨Bt, 0, none⟩), .pointer (some ⟨Bk, 0, none⟩)] encW (KpP (PvL Bl)) (StP (PvL Bl)) (fun xs => xs = wordsI (ls s) big) (fun _ => True) (wordsI (ls s) big).length w := by
  intro l J Jx W hW hJ _ hY h0
  have hl' := Boxed.below hl hW
  have hp (W' : World) (hx : Below W.heap.size W W') (r : Nat) (hr : r ≠ Bl) : PvL Bl W' r := ⟨Nat.lt_of_lt_of_le hl'.lt hx.size, hr, fun v hv => by
    rw [boxed_inj (Boxed.below hl' hx) hv]; simp [Value.ownBlock]⟩
  have hh : ∀ W' r, Below W.heap.size W W' → W.heap.size ≤ r → PvL Bl W' r := fun W' r hx hr => hp W' hx r (by have := hl'.lt; omega)
  cases big with
  | false => exact words_false n hn l Bt Bk s hs hv (PvL Bl) (pvL_ok Bl) J Jx W hJ ⟨Boxed.below ht hW, hp W (Below.refl _ _) Bt n1⟩ ⟨Boxed.below hk hW, hp W (Below.refl _ _) Bk n2⟩ hh hY h0
  | true => exact words_true n hn l Bt Bk s hs hv (PvL Bl) (pvL_ok Bl) J Jx W hJ ⟨Boxed.below ht hW, hp W (Below.refl _ _) Bt n1⟩ ⟨Boxed.below hk hW, hp W (Below.refl _ _) Bk n2⟩ hh hY h0

set_option maxHeartbeats 4000000 in
set_option maxRecDepth 100000 in
theorem words_c (s : ByteArray) (big : Bool) (w : World) : Calls Try.prog 58 #[.string s, .bool big] w fun e w' =>
    e = .returned (.func (.func 77) #[] #[.pointer (some ⟨w.heap.size, 0, none⟩), .pointer (some ⟨w.heap.size + 1, 0, none⟩)]) ∧
    w'.heap.size = w.heap.size + 2 ∧ Ext w w' ∧ Boxed w' w.heap.size 9 (.string s) ∧ Boxed w' (w.heap.size + 1) 87 (.func (.func (if big then 76 else 75)) #[] #[]) := by
  have b0 : Boxed (w.alloc (.cells #[.string s] 9)) w.heap.size 9 (.string s) := Boxed.new _ _ _
  obtain ⟨W1, e1⟩ : ∃ W1, w.alloc (.cells #[.string s] 9) = W1 := ⟨_, rfl⟩
  have z1 : W1.heap.size = w.heap.size + 1 := by rw [← e1, World.size_alloc]
  have b1 (v : Value) : Boxed (W1.alloc (.cells #[v] 87)) (w.heap.size + 1) 87 v := by rw [← z1]; exact Boxed.new _ _ _
  have x1 : Ext w W1 := by rw [← e1]; exact (Ext.refl _).alloc _
  have c1 : ((w.alloc (.cells #[.string s] 9)).alloc (.cells #[.nilFunc] 87)).cell? ⟨w.heap.size + 1, 0, none⟩ = some .nilFunc := by rw [e1]; exact (b1 _).cell
  have f1 : ((w.alloc (.cells #[.string s] 9)).alloc (.cells #[.nilFunc] 87)).frozen? ⟨w.heap.size + 1, 0, none⟩ = false := by rw [e1]; exact (b1 _).frozen
  rw [e1] at b0
  have E1 := Lib.hid e1
  clear e1
  cases big with
  | false =>
    go_enter Try.func58, Try.ntmps58
    go_wp2
    go_ret
    rw [E1.out]
    exact ⟨rfl, by simp [z1], x1.alloc _, b0.alloc _, b1 _⟩
  | true =>
    go_enter Try.func58, Try.ntmps58
    go_wp2
    go_ret
    rw [E1.out]
    exact ⟨rfl, by simp [z1], x1.alloc _, b0.alloc _, b1 _⟩

set_option maxHeartbeats 4000000 in
set_option maxRecDepth 100000 in
theorem starts_bad (s : ByteArray) (big : Bool) (w : World) (hs : s.size ≤ 1000000000) (hv : validL (ls s) = false) :
    Calls Try.prog 37 #[.string s, .bool big] w fun e w' => ∃ v, e = .returned v ∧ RowI w.heap.size w' v (startsI (ls s) big) ∧ Ext w w' := by
  have hl : startsI (ls s) big = [] := by unfold startsI; rw [if_neg (by rw [hv]; simp)]
  rw [hl]
  clear hl
  go_enter Try.func37, Try.ntmps37
  go_wp2_with (first | (go_at_call 45; refine (valid_c _ _ (by omega)).mono ?_; rintro e w1 ⟨rfl, hx1⟩))
  go_ret
  exact ⟨_, rfl, ⟨rfl, .inl ⟨rfl, rfl⟩⟩, (by (repeat (first | exact Ext.refl _ | exact ‹Ext _ _› | refine Ext.alloc ?_ _ | refine Ext.drew ?_ | refine Ext.drewN ?_ _ | (refine Ext.setCell ?_ (by first | omega | (simp; done) | (simp; omega)) _) | refine Ext.trans ?_ ‹Ext _ _›)))⟩
set_option maxHeartbeats 4000000 in
set_option maxRecDepth 100000 in
theorem starts_ok (s : ByteArray) (big : Bool) (w : World) (hs : s.size ≤ 1000000000) (hv : validL (ls s) = true) :
    Calls Try.prog 37 #[.string s, .bool big] w fun e w' => ∃ v, e = .returned v ∧ RowI w.heap.size w' v (startsI (ls s) big) ∧ Ext w w' := by
  have hl : startsI (ls s) big = starts0 (wordsI (ls s) big) := by unfold startsI; rw [if_pos hv]
  rw [hl]
  clear hl
  have hN := wordsI_len (ls s) big
  rw [ls_len] at hN
  have HN := Lib.hid hN
  have HV := Lib.hid hv
  clear hN
  obtain ⟨i0, hi, hz0, hz1, hz2⟩ := info_parts Try.infoInt
  refine (callsIn_wide (n := 5)).1 ?_
  refine callsIn_of_wp_marks Try.func37 rfl trivial ?_ rfl
  simp only [Try.ntmps37, List.size_toArray, List.length_cons, List.length_nil, Nat.reduceAdd, Nat.reduceSub, Array.replicate_succ, Array.replicate_zero, List.push_toArray, List.append_toArray, List.nil_append, List.cons_append]
  gi_wp2_with (first | ((first | refine ⟨trivial, (fun _ => by omega), ?_⟩ | refine ⟨trivial, ?_⟩); gi_at_call 45; refine (callsIn_wide.2 (valid_c _ _ (by omega))).mono ?_; rintro e w1 ⟨rfl, hx1⟩) | ((first | refine ⟨trivial, (fun _ => by omega), ?_⟩ | refine ⟨trivial, ?_⟩); gi_at_call 58; refine (callsIn_wide.2 (words_c _ _ _)).mono ?_; rintro e w2 ⟨rfl, hz3, hx2, bt, bk⟩))
  have hx : Ext w w1 := (by (repeat (first | exact Ext.refl _ | exact ‹Ext _ _› | refine Ext.alloc ?_ _ | refine Ext.drew ?_ | refine Ext.drewN ?_ _ | (refine Ext.setCell ?_ (by first | omega | (simp; done) | (simp; omega)) _) | refine Ext.trans ?_ ‹Ext _ _›)))
  have bO := Boxed.below (Boxed.new w1 47 (.slice none 0 0)) hx2
  have x2 : Ext w1 w2 := ((Ext.refl w1).alloc _).trans hx2
  have xw : Ext w w2 := hx.trans x2
  simp only [World.size_alloc] at hz3 bt bk ⊢
  clear hx1 hx2
  have sz := hx.size
  refine wpIn_rangeFunc_R rfl (by omega) (gf := 77) (lb := #[.pointer (some ⟨w1.heap.size + 1, 0, none⟩), .pointer (some ⟨w1.heap.size + 1 + 1, 0, none⟩)]) rfl trivial (enters_of Try.func77 (by kernel_rfl) rfl)
    (words_seq 4 (by omega) w1.heap.size (w1.heap.size + 1) (w1.heap.size + 1 + 1) s big hs HV.out w2 bO bt bk (by omega) (by omega)) kpP_trans (fun W l o o' h1 h2 ho hc => kp_putObj o' (by omega) ho hc) (Below.refl _ _) (fun _ => rfl)
    (fun A B k h h1 h2 h3 => stP_other A B k h h1 h2 h3)
    (HoldL starts0 w w1.heap.size) (fun _ _ _ => False)
    (holdL_own _ w _ _ (by omega)) (fun _ _ _ _ _ hs _ _ => hs)
    (fun pre A B h k => holdL_step _ w _ _ (by omega) pre A B h k) (fun _ _ _ _ h _ => h)
    ⟨⟨_, bO, World.ownsRow_nil _ _ _ _, trivial⟩, xw⟩
    (fun x => { tmps := #[.string s, .bool big, undef, undef, .slice none 0 0, .pointer (some ⟨w1.heap.size, 0, none⟩), .int .i64 x.1, .string s, .bool true, .bool false, .string s, .bool big, .func (.func 77) #[] #[.pointer (some ⟨w1.heap.size + 1, 0, none⟩), .pointer (some ⟨w1.heap.size + 1 + 1, 0, none⟩)], .int .i64 x.1, .int .i64 x.2, undef, undef, undef, undef, undef], defers := [] }) ?assign ?body ?done ?stop
  case assign =>
    intro l x W K hK
    simp only [encW]
    gi_wp2
    exact hK
  case body =>
    rintro l pre x W ⟨⟨v, hv, hrow, _⟩, hB⟩ hlt
    have hc := hv.cell
    have hN := HN.out
    have hl0 := starts0_len pre
    gi_wp2_with (gi_at_builtin; refine wpListIn_append_own_at _ rfl _ _ 47 rfl w.heap.size 3 i0 (.int .i64 0) 1 8 Try.underlying47 hi hz0 hz1 hz2 rfl (by decide) _ _ _ rfl (hrow.alloc _) ⟨W.heap.size, 0, none⟩ 1 1 [.int .i64 x.1] rfl rfl (cell_one_new _ _ _) (by simp [Value.oneCell']) (by unfold maxLen; omega) (by omega) (by have := hB.size; simp; omega) ?_; intro v' w2 hown' hgrow _ hat; obtain ⟨g', cap', rfl⟩ := ownsRow_succ hown'; obtain ⟨hv1, hv2, hr2, hk2, hbe2⟩ := hv.appended (by decide) hrow hB.size sz hown' hgrow; have hkp := kp_appended hv hv1 hgrow hat; have hc1 := hv1.cell; have hf1 := hv1.frozen; clear hat)
    refine ⟨hk2, hkp, ⟨⟨_, hv2, ?_, trivial⟩, hB.trans hbe2⟩⟩
    rw [starts0_snoc, List.map_append, List.length_append]
    exact hr2
  case done =>
    rintro D ys W hD rfl ⟨⟨v, hv, hrow, _⟩, hB⟩ hK
    have hc := hv.cell
    gi_wp2
    refine ⟨by simp, .inl ⟨_, _, rfl, run_takeDeferred hK, ?_⟩⟩
    exact ⟨_, results_tmp rfl _ _ _, v, rfl, ownsRow_putObj hrow _ hK rfl, hB.trans (belowK_b (w := w) (Nat.le_refl _) W D _ _ (by omega) hK rfl rfl)⟩
  case stop =>
    rintro D c pre W _ _ h _
    exact h.elim
theorem starts_c (s : ByteArray) (big : Bool) (w : World) (hs : s.size ≤ 1000000000) :
    Calls Try.prog 37 #[.string s, .bool big] w fun e w' => ∃ v, e = .returned v ∧ RowI w.heap.size w' v (startsI (ls s) big) ∧ Ext w w' := by
  rcases Bool.eq_false_or_eq_true (validL (ls s)) with hv | hv
  · exact starts_ok s big w hs hv
  · exact starts_bad s big w hs hv
/- EXT hop.Starts -/
def hop_Starts.f (a0 : ByteArray) (a1 : Bool) : Option (List Int) := if a0.size ≤ 1000000000 then some (startsI (ls a0) a1) else none
theorem hop_Starts.eq (a0 : ByteArray) (a1 : Bool) (hg : a0.size ≤ 1000000000) : hop_Starts.f a0 a1 = some (startsI (ls a0) a1) := if_pos hg
theorem hop_Starts.calls (a0 : ByteArray) (a1 : Bool) (r : List Int) (w : World) (h : hop_Starts.f a0 a1 = some r) :
    Calls Try.prog 37 #[.string a0, .bool a1] w fun e w' => ∃ v0_ : Value, e = .returned (v0_) ∧ PrintWords.Kd.R (PrintWords.Kd.int .i64) 3 w' w.heap.size (fun _ => True) v0_ r ∧ Below w.heap.size w w' := by
  unfold hop_Starts.f at h
  split at h
  · cases h
    exact (starts_c a0 a1 w (by omega)).mono fun e w' ⟨v, he, hr, hx⟩ => ⟨v, he, kdR_int hr, hx⟩
  · cases h

set_option maxHeartbeats 4000000 in
set_option maxRecDepth 100000 in
theorem ends_bad (s : ByteArray) (big : Bool) (w : World) (hs : s.size ≤ 1000000000) (hv : validL (ls s) = false) :
    Calls Try.prog 39 #[.string s, .bool big] w fun e w' => ∃ v, e = .returned v ∧ RowI w.heap.size w' v (endsI (ls s) big) ∧ Ext w w' := by
  have hl : endsI (ls s) big = [] := by unfold endsI; rw [if_neg (by rw [hv]; simp)]
  rw [hl]
  clear hl
  go_enter Try.func39, Try.ntmps39
  go_wp2_with (first | (go_at_call 45; refine (valid_c _ _ (by omega)).mono ?_; rintro e w1 ⟨rfl, hx1⟩))
  go_ret
  exact ⟨_, rfl, ⟨rfl, .inl ⟨rfl, rfl⟩⟩, (by (repeat (first | exact Ext.refl _ | exact ‹Ext _ _› | refine Ext.alloc ?_ _ | refine Ext.drew ?_ | refine Ext.drewN ?_ _ | (refine Ext.setCell ?_ (by first | omega | (simp; done) | (simp; omega)) _) | refine Ext.trans ?_ ‹Ext _ _›)))⟩
set_option maxHeartbeats 4000000 in
set_option maxRecDepth 100000 in
theorem ends_ok (s : ByteArray) (big : Bool) (w : World) (hs : s.size ≤ 1000000000) (hv : validL (ls s) = true) :
    Calls Try.prog 39 #[.string s, .bool big] w fun e w' => ∃ v, e = .returned v ∧ RowI w.heap.size w' v (endsI (ls s) big) ∧ Ext w w' := by
  have hl : endsI (ls s) big = ends0 (wordsI (ls s) big) := by unfold endsI; rw [if_pos hv]
  rw [hl]
  clear hl
  have hN := wordsI_len (ls s) big
  rw [ls_len] at hN
  have HN := Lib.hid hN
  have HV := Lib.hid hv
  clear hN
  obtain ⟨i0, hi, hz0, hz1, hz2⟩ := info_parts Try.infoInt
  refine (callsIn_wide (n := 5)).1 ?_
  refine callsIn_of_wp_marks Try.func39 rfl trivial ?_ rfl
  simp only [Try.ntmps39, List.size_toArray, List.length_cons, List.length_nil, Nat.reduceAdd, Nat.reduceSub, Array.replicate_succ, Array.replicate_zero, List.push_toArray, List.append_toArray, List.nil_append, List.cons_append]
  gi_wp2_with (first | ((first | refine ⟨trivial, (fun _ => by omega), ?_⟩ | refine ⟨trivial, ?_⟩); gi_at_call 45; refine (callsIn_wide.2 (valid_c _ _ (by omega))).mono ?_; rintro e w1 ⟨rfl, hx1⟩) | ((first | refine ⟨trivial, (fun _ => by omega), ?_⟩ | refine ⟨trivial, ?_⟩); gi_at_call 58; refine (callsIn_wide.2 (words_c _ _ _)).mono ?_; rintro e w2 ⟨rfl, hz3, hx2, bt, bk⟩))
  have hx : Ext w w1 := (by (repeat (first | exact Ext.refl _ | exact ‹Ext _ _› | refine Ext.alloc ?_ _ | refine Ext.drew ?_ | refine Ext.drewN ?_ _ | (refine Ext.setCell ?_ (by first | omega | (simp; done) | (simp; omega)) _) | refine Ext.trans ?_ ‹Ext _ _›)))
  have bO := Boxed.below (Boxed.new w1 47 (.slice none 0 0)) hx2
  have x2 : Ext w1 w2 := ((Ext.refl w1).alloc _).trans hx2
  have xw : Ext w w2 := hx.trans x2
  simp only [World.size_alloc] at hz3 bt bk ⊢
  clear hx1 hx2
  have sz := hx.size
  refine wpIn_rangeFunc_R rfl (by omega) (gf := 77) (lb := #[.pointer (some ⟨w1.heap.size + 1, 0, none⟩), .pointer (some ⟨w1.heap.size + 1 + 1, 0, none⟩)]) rfl trivial (enters_of Try.func77 (by kernel_rfl) rfl)
    (words_seq 4 (by omega) w1.heap.size (w1.heap.size + 1) (w1.heap.size + 1 + 1) s big hs HV.out w2 bO bt bk (by omega) (by omega)) kpP_trans (fun W l o o' h1 h2 ho hc => kp_putObj o' (by omega) ho hc) (Below.refl _ _) (fun _ => rfl)
    (fun A B k h h1 h2 h3 => stP_other A B k h h1 h2 h3)
    (HoldL ends0 w w1.heap.size) (fun _ _ _ => False)
    (holdL_own _ w _ _ (by omega)) (fun _ _ _ _ _ hs _ _ => hs)
    (fun pre A B h k => holdL_step _ w _ _ (by omega) pre A B h k) (fun _ _ _ _ h _ => h)
    ⟨⟨_, bO, World.ownsRow_nil _ _ _ _, trivial⟩, xw⟩
    (fun x => { tmps := #[.string s, .bool big, undef, undef, .slice none 0 0, .pointer (some ⟨w1.heap.size, 0, none⟩), undef, .int .i64 x.2, .string s, .bool true, .bool false, .string s, .bool big, .func (.func 77) #[] #[.pointer (some ⟨w1.heap.size + 1, 0, none⟩), .pointer (some ⟨w1.heap.size + 1 + 1, 0, none⟩)], .int .i64 x.1, .int .i64 x.2, undef, undef, undef, undef, undef, undef, undef], defers := [] }) ?assign ?body ?done ?stop
  case assign =>
    intro l x W K hK
    simp only [encW]
    gi_wp2
    exact hK
  case body =>
    rintro l pre x W ⟨⟨v, hv, hrow, _⟩, hB⟩ hlt
    have hc := hv.cell
    have hN := HN.out
    have hl0 := ends0_len pre
    by_cases hx0 : 0 ≤ x.2
    · have g0 : decide ((0 : Int) ≤ x.2) = true := by simpa using hx0
      gi_wp2_with (gi_at_builtin; refine wpListIn_append_own_at _ rfl _ _ 47 rfl w.heap.size 3 i0 (.int .i64 0) 1 8 Try.underlying47 hi hz0 hz1 hz2 rfl (by decide) _ _ _ rfl (hrow.alloc _) ⟨W.heap.size, 0, none⟩ 1 1 [.int .i64 x.2] rfl rfl (cell_one_new _ _ _) (by simp [Value.oneCell']) (by unfold maxLen; omega) (by omega) (by have := hB.size; simp; omega) ?_; intro v' w2 hown' hgrow _ hat; obtain ⟨g', cap', rfl⟩ := ownsRow_succ hown'; obtain ⟨hv1, hv2, hr2, hk2, hbe2⟩ := hv.appended (by decide) hrow hB.size sz hown' hgrow; have hkp := kp_appended hv hv1 hgrow hat; have hc1 := hv1.cell; have hf1 := hv1.frozen; clear hat)
      refine ⟨hk2, hkp, ⟨⟨_, hv2, ?_, trivial⟩, hB.trans hbe2⟩⟩
      rw [ends0_yes _ _ hx0, List.map_append, List.length_append]
      exact hr2
    · have g0 : decide ((0 : Int) ≤ x.2) = false := by simpa using hx0
      gi_wp2
      exact ⟨KeepsOthers.refl _, fun r t u p b => ⟨p, b⟩, ⟨⟨v, hv, by rw [ends0_no _ _ (by omega)]; exact hrow, trivial⟩, hB⟩⟩
  case done =>
    rintro D ys W hD rfl ⟨⟨v, hv, hrow, _⟩, hB⟩ hK
    have hc := hv.cell
    gi_wp2
    refine ⟨by simp, .inl ⟨_, _, rfl, run_takeDeferred hK, ?_⟩⟩
    exact ⟨_, results_tmp rfl _ _ _, v, rfl, ownsRow_putObj hrow _ hK rfl, hB.trans (belowK_b (w := w) (Nat.le_refl _) W D _ _ (by omega) hK rfl rfl)⟩
  case stop =>
    rintro D c pre W _ _ h _
    exact h.elim
theorem ends_c (s : ByteArray) (big : Bool) (w : World) (hs : s.size ≤ 1000000000) :
    Calls Try.prog 39 #[.string s, .bool big] w fun e w' => ∃ v, e = .returned v ∧ RowI w.heap.size w' v (endsI (ls s) big) ∧ Ext w w' := by
  rcases Bool.eq_false_or_eq_true (validL (ls s)) with hv | hv
  · exact ends_ok s big w hs hv
  · exact ends_bad s big w hs hv
/- EXT hop.Ends -/
def hop_Ends.f (a0 : ByteArray) (a1 : Bool) : Option (List Int) := if a0.size ≤ 1000000000 then some (endsI (ls a0) a1) else none
theorem hop_Ends.eq (a0 : ByteArray) (a1 : Bool) (hg : a0.size ≤ 1000000000) : hop_Ends.f a0 a1 = some (endsI (ls a0) a1) := if_pos hg
theorem hop_Ends.calls (a0 : ByteArray) (a1 : Bool) (r : List Int) (w : World) (h : hop_Ends.f a0 a1 = some r) :
    Calls Try.prog 39 #[.string a0, .bool a1] w fun e w' => ∃ v0_ : Value, e = .returned (v0_) ∧ PrintWords.Kd.R (PrintWords.Kd.int .i64) 3 w' w.heap.size (fun _ => True) v0_ r ∧ Below w.heap.size w w' := by
  unfold hop_Ends.f at h
  split at h
  · cases h
    exact (ends_c a0 a1 w (by omega)).mono fun e w' ⟨v, he, hr, hx⟩ => ⟨v, he, kdR_int hr, hx⟩
  · cases h
end Go.Proofs.Ythjlhbblflmajaa
/- The place of a column, stepwise: plain facts. -/
namespace Go.Proofs.Ythjlhbblflmajaa
open Go.RowKit
set_option linter.unusedVariables false
set_option linter.unusedSimpArgs false
theorem byL_tk (l : List UInt8) {n k : Nat} (h : k < n) : byL (l.take n) k = byL l k := by
  unfold byL; rw [List.getD_eq_getElem?_getD, List.getElem?_take_of_lt h, ← List.getD_eq_getElem?_getD]
theorem begOk_tk (l : List UInt8) {k : Nat} : ∀ n, n ≤ k → begOk (l.take k) n = begOk l n
  | 0, _ => by simp [begOk]
  | n + 1, h => by rw [begOk_succ (l.take k) n, begOk_succ l n, begOk_tk l n (by omega), byL_tk l (n := k) (k := 0) (by omega), byL_tk l (n := k) (k := n) (by omega)]
theorem sz_tk {l : List UInt8} {k : Nat} (hz : szL l ≠ 0) (hk : szL l ≤ k) : szL (l.take k) = szL l := by
  obtain ⟨h0, h1, h2, h3⟩ := szL_pos hz
  exact szL_of (by rw [List.length_take]; omega) (by rw [byL_tk _ (by omega)]; exact h1) (by rw [List.length_take]; omega) (by rw [begOk_tk l _ hk]; exact h3)
theorem valid_tk : ∀ (m : Nat) (l : List UInt8) (k : Nat), l.length ≤ m → validL l = true → k ≤ l.length → (k = l.length ∨ inn (byL l k) = false) → validL (l.take k) = true
  | 0, l, k, hm, hv, hk, hb => by
    have : k = 0 := by omega
    subst this; rw [List.take_zero]; rfl
  | m + 1, l, k, hm, hv, hk, hb => by
    by_cases h0 : k = 0
    · subst h0; rw [List.take_zero]; rfl
    · have hl : l.length ≠ 0 := by omega
      have hz := valid_sz hv hl
      have hle := szL_le l
      have hsk : szL l ≤ k := by
        rcases Nat.lt_or_ge k (szL l) with h | h
        · have := inn_rest hz (j := k) (by omega) h
          rcases hb with h2 | h2
          · omega
          · rw [h2] at this; exact absurd this (by simp)
        · exact h
      rw [validL_step (by rw [List.length_take]; omega) (by rw [sz_tk hz hsk]; exact hz), sz_tk hz hsk, List.drop_take]
      rw [validL_step hl hz] at hv
      refine valid_tk m (l.drop (szL l)) (k - szL l) (by rw [List.length_drop]; omega) hv (by rw [List.length_drop]; omega) ?_
      rcases hb with h | h
      · left; rw [List.length_drop]; omega
      · right; rw [byL_drop, Nat.add_sub_cancel' hsk]; exact h
theorem place_inn {l : List UInt8} {k : Nat} (h : placeB l k = true) : k = l.length ∨ inn (byL l k) = false := by
  unfold placeB at h
  simp only [Bool.and_eq_true, Bool.or_eq_true, decide_eq_true_eq, Bool.not_eq_true', Int.toNat_natCast] at h
  rcases h.1.2 with h | h
  · left; omega
  · right; exact h
theorem row_valid {l : List UInt8} {a b : Nat} (hab : a ≤ b) (ha : placeB l a = true) (hb : placeB l b = true) : validL (rowL l (a, b)) = true := by
  obtain ⟨h1, h2, h3⟩ := valid_at ha
  obtain ⟨_, h4, _⟩ := valid_at hb
  unfold rowL
  refine valid_tk _ _ _ (Nat.le_refl _) h1 (by rw [List.length_drop]; omega) ?_
  rcases place_inn hb with h | h
  · left; rw [List.length_drop]; simp only; omega
  · right; rw [byL_drop]; simp only; rw [Nat.add_sub_cancel' hab]; exact h
theorem row_cons {l : List UInt8} {j b : Nat} (hj : j < b) (hb : b ≤ l.length) : rowL l (j, b) = (l[j]'(by omega)) :: rowL l (j + 1, b) := by
  unfold rowL
  simp only
  rw [List.drop_eq_getElem_cons (by omega : j < l.length), show b - j = (b - (j + 1)) + 1 by omega, List.take_succ_cons]
theorem row_nil (l : List UInt8) (b : Nat) : rowL l (b, b) = [] := by unfold rowL; simp
theorem inn_get {l : List UInt8} {j : Nat} (h : j < l.length) : ((l[j].toNat : Nat) : Int) = byL l j := by
  unfold byL; rw [List.getD_eq_getElem?_getD, List.getElem?_eq_getElem h]; rfl
theorem offF_shift : ∀ (r : List UInt8) (i d : Nat) (k : Int), offF r (i + d) k = if offF r i k < 0 then -1 else offF r i k + d
  | [], i, d, k => by
    unfold offF
    split <;> simp
    omega
  | b :: r, i, d, k => by
    rw [offF, offF]
    have h1 := offF_shift r (i + 1) d k
    have h2 := offF_shift r (i + 1) d (k - 1)
    rw [show i + d + 1 = i + 1 + d by omega]
    split
    · exact h1
    · split
      · rw [if_neg (by omega)]; omega
      · exact h2
def vAt (l : List UInt8) (b p : Nat) (c : Int) : Int := if offF (rowL l (p, b)) p (max c 0) < 0 then b else offF (rowL l (p, b)) p (max c 0)
theorem vAt_eq {l : List UInt8} {k col : Int} {a b : Nat} (hl : lineI l k = some (a, b)) (hv : validL (rowL l (a, b)) = true) : atI l k col = vAt l b a col := by
  have hoff : offI (rowL l (a, b)) (max col 0) = offF (rowL l (a, b)) 0 (max col 0) := by
    unfold offI; rw [if_neg]
    rintro (h | h)
    · omega
    · rw [hv] at h; exact absurd h (by simp)
  unfold atI; rw [hl]
  simp only
  rw [hoff]
  unfold vAt
  have h := offF_shift (rowL l (a, b)) 0 a (max col 0)
  rw [Nat.zero_add] at h
  rw [h]
  split
  · rename_i h2; simp
  · rename_i h2
    rw [if_neg (by omega)]; omega
theorem vAt_end (l : List UInt8) (b : Nat) (c : Int) : vAt l b b c = b := by
  unfold vAt; rw [row_nil]; unfold offF; repeat' (first | omega | split)
theorem vAt_stop {l : List UInt8} {b p : Nat} {c : Int} (hc : c ≤ 0) (hp : p < b) (hb : b ≤ l.length) (hi : inn (byL l p) = false) : vAt l b p c = p := by
  unfold vAt
  rw [row_cons hp hb, offF, inn_get, hi, show max c 0 = 0 by omega]
  simp
  intro h; omega
theorem off_skip {l : List UInt8} {b : Nat} {k : Int} (hb : b ≤ l.length) : ∀ (d j : Nat), j + d ≤ b → (∀ i, j ≤ i → i < j + d → inn (byL l i) = true) → offF (rowL l (j, b)) j k = offF (rowL l (j + d, b)) (j + d) k
  | 0, j, _, _ => rfl
  | d + 1, j, h, hi => by
    rw [row_cons (by omega) hb, offF, inn_get, if_pos (hi j (by omega) (by omega)), off_skip hb d (j + 1) (by omega) (fun i a c => hi i (by omega) (by omega))]
    rw [show j + 1 + d = j + (d + 1) by omega]
theorem vAt_step {l : List UInt8} {b p : Nat} {c : Int} (hc : 0 < c) (hp : p < b) (hpp : placeB l p = true) (hpb : placeB l b = true) : ∃ n : Nat, nextI l p = n ∧ p < n ∧ n ≤ b ∧ placeB l n = true ∧ vAt l b p c = vAt l b n (c - 1) := by
  obtain ⟨_, hb, hv⟩ := valid_at hpb
  obtain ⟨hz, hle⟩ := sz_at hpp (by omega)
  have h1 : nextI l p = ((p + szL (l.drop p) : Nat) : Int) := by unfold nextI; rw [if_pos ⟨hpp, by omega⟩, Int.toNat_natCast]; simp
  have hin : ∀ i, p + 1 ≤ i → i < p + szL (l.drop p) → inn (byL l i) = true := by
    intro i a c
    have := inn_rest hz (j := i - p) (by omega) (by omega)
    rw [byL_drop, Nat.add_sub_cancel' (by omega)] at this; exact this
  have hnb : p + szL (l.drop p) ≤ b := by
    rcases Nat.lt_or_ge b (p + szL (l.drop p)) with h | h
    · have h3 := hin b (by omega) h
      rcases place_inn hpb with h4 | h4
      · omega
      · rw [h4] at h3; exact absurd h3 (by simp)
    · exact h
  refine ⟨_, h1, by omega, hnb, place_next hpp (by omega), ?_⟩
  have hi : inn (byL l p) = false := by
    rcases place_inn hpp with h4 | h4
    · omega
    · exact h4
  have key : offF (rowL l (p, b)) p (max c 0) = offF (rowL l (p + szL (l.drop p), b)) (p + szL (l.drop p)) (max (c - 1) 0) := by
    rw [row_cons hp hb, offF, inn_get, hi, if_neg (by simp), if_neg (by omega), show max c 0 - 1 = max (c - 1) 0 by omega]
    have := off_skip (k := max (c - 1) 0) hb (szL (l.drop p) - 1) (p + 1) (by omega) (fun i a c => hin i a (by omega))
    rw [this, show p + 1 + (szL (l.drop p) - 1) = p + szL (l.drop p) by omega]
  unfold vAt
  rw [key]

end Go.Proofs.Ythjlhbblflmajaa
/- The lines one behind the other: plain facts. -/
namespace Go.Proofs.Ythjlhbblflmajaa
open Go.RowKit
set_option linter.unusedVariables false
set_option linter.unusedSimpArgs false
theorem lnsF_next : ∀ (r : List UInt8) (st i : Nat) (l : List UInt8), l.drop i = r → i + r.length = l.length → ∀ j, j + 1 < (lnsF r st i).length → ∃ x y, (lnsF r st i)[j]? = some x ∧ (lnsF r st i)[j + 1]? = some y ∧ y.1 = x.2 + 1 ∧ byL l x.2 = 10 ∧ x.2 < l.length
  | [], st, i, l, _, _, j, h => by simp [lnsF] at h
  | b :: r, st, i, l, hd, hl, j, h => by
    have hi : i < l.length := by simp at hl; omega
    have hd' : l.drop (i + 1) = r := by rw [← List.drop_drop, hd]; rfl
    have hb : l[i] = b := by have := List.drop_eq_getElem_cons hi; rw [hd] at this; simpa using (List.cons.inj this).1.symm
    by_cases e : b = 10
    · rw [lnsF, if_pos e] at h ⊢
      cases j with
      | zero =>
        obtain ⟨e', q, h1, _, _⟩ := lnsF_head r (i + 1) (i + 1)
        refine ⟨(st, i), (i + 1, e'), rfl, by rw [h1]; rfl, rfl, by rw [byL_ten hi, hb]; exact e, hi⟩
      | succ j =>
        obtain ⟨x, y, h1, h2, h3⟩ := lnsF_next r (i + 1) (i + 1) l hd' (by simp at hl; omega) j (by simpa using h)
        exact ⟨x, y, by simpa using h1, by simpa using h2, h3⟩
    · rw [lnsF, if_neg e] at h ⊢
      exact lnsF_next r st (i + 1) l hd' (by simp at hl; omega) j h
theorem lnsF_last : ∀ (r : List UInt8) (st i : Nat), ∃ x, (lnsF r st i)[(lnsF r st i).length - 1]? = some x ∧ x.2 = i + r.length
  | [], st, i => ⟨(st, i), by simp [lnsF], by simp⟩
  | b :: r, st, i => by
    rw [lnsF]
    split
    · obtain ⟨x, h1, h2⟩ := lnsF_last r (i + 1) (i + 1)
      have : (lnsF r (i + 1) (i + 1)).length ≠ 0 := by rw [lnsF_len]; omega
      refine ⟨x, ?_, by simp; omega⟩
      rw [List.length_cons, Nat.add_sub_cancel, List.getElem?_cons, if_neg this]; exact h1
    · obtain ⟨x, h1, h2⟩ := lnsF_last r st (i + 1)
      exact ⟨x, h1, by simp; omega⟩
theorem lnsF_fds : ∀ (r : List UInt8) (st i : Nat) (l : List UInt8), l.drop i = r → i + r.length = l.length → fds l i = fds l st → ∀ j x, (lnsF r st i)[j]? = some x → fds l x.1 = fds l st + j ∧ fds l x.2 = fds l st + j
  | [], st, i, l, _, _, hf, j, x, h => by
    cases j with
    | zero => simp [lnsF] at h; subst h; exact ⟨rfl, hf⟩
    | succ j => simp [lnsF] at h
  | b :: r, st, i, l, hd, hl, hf, j, x, h => by
    have hi : i < l.length := by simp at hl; omega
    have hd' : l.drop (i + 1) = r := by rw [← List.drop_drop, hd]; rfl
    have hb : l[i] = b := by have := List.drop_eq_getElem_cons hi; rw [hd] at this; simpa using (List.cons.inj this).1.symm
    have hs := fds_succ l i hi
    have hbi : byL l i = 10 ↔ b = 10 := by rw [byL_ten hi, hb]
    rw [lnsF] at h
    split at h
    · rename_i e
      rw [if_pos (hbi.2 e)] at hs
      cases j with
      | zero => simp at h; subst h; exact ⟨rfl, hf⟩
      | succ j =>
        obtain ⟨h1, h2⟩ := lnsF_fds r (i + 1) (i + 1) l hd' (by simp at hl; omega) rfl j x (by simpa using h)
        constructor <;> omega
    · rename_i e
      rw [if_neg (fun h => e (hbi.1 h))] at hs
      obtain ⟨h1, h2⟩ := lnsF_fds r st (i + 1) l hd' (by simp at hl; omega) (by omega) j x h
      exact ⟨h1, h2⟩
def pre (l : List UInt8) (j : Nat) : Nat := if j = 0 then 0 else ((lns l).getD (j - 1) (0, 0)).2
theorem pre_all (l : List UInt8) : pre l (tens l + 1) = l.length := by
  obtain ⟨x, h1, h2⟩ := lnsF_last l 0 0
  unfold pre
  rw [if_neg (by omega), List.getD_eq_getElem?_getD]
  have : lns l = lnsF l 0 0 := rfl
  rw [← this, lns_len] at h1
  rw [h1]; simpa using h2
theorem whole_at {l : List UInt8} {j : Nat} (hv : validL l = true) (hj : j < tens l + 1) : ∃ f e : Nat, startI l j = f ∧ endI l j = e ∧ f ≤ e ∧ e ≤ l.length ∧ ofI l f = j ∧ ofI l e = j ∧ l.take (pre l (j + 1)) = (if j = 0 then [] else l.take (pre l j) ++ [10]) ++ (l.drop f).take (e - f) := by
  have hlen : j < (lns l).length := by rw [lns_len]; exact hj
  obtain ⟨⟨f, e⟩, hx⟩ : ∃ x, (lns l)[j]? = some x := ⟨_, List.getElem?_eq_getElem hlen⟩
  have hle := lines_le l (f, e) (List.mem_of_getElem? hx)
  simp only at hle
  have hl : lineI l j = some (f, e) := by unfold lineI; rw [if_pos ⟨hv, by omega⟩, Int.toNat_natCast]; exact hx
  obtain ⟨d1, d2⟩ := lnsF_fds l 0 0 l rfl (by simp) rfl j (f, e) hx
  have d0 : fds l 0 = 0 := by simp [fds, tens]
  simp only [d0, Nat.zero_add] at d1 d2
  refine ⟨f, e, by unfold startI; rw [hl], by unfold endI; rw [hl], hle.1, hle.2, ?_, ?_, ?_⟩
  · rw [(start_of (p := f) (by omega) hv).1, d1]
  · rw [(start_of (p := e) (by omega) hv).1, d2]
  · have hp : pre l (j + 1) = e := by unfold pre; rw [if_neg (by omega), List.getD_eq_getElem?_getD, Nat.add_sub_cancel, hx]; rfl
    rw [hp]
    cases j with
    | zero =>
      obtain ⟨e', q, h1, _, _⟩ := lnsF_head l 0 0
      have : lns l = (0, e') :: q := h1
      rw [this] at hx
      simp at hx
      obtain ⟨rfl, rfl⟩ := hx
      simp
    | succ j =>
      obtain ⟨x, y, h1, h2, h3, h4, h5⟩ := lnsF_next l 0 0 l rfl (by simp) j hlen
      have hxx : (lns l)[j]? = some x := h1
      have hyy : (lns l)[j + 1]? = some y := h2
      rw [hx] at hyy
      have : y = (f, e) := by simpa using hyy.symm
      subst this
      have hp2 : pre l (j + 1) = x.2 := by unfold pre; rw [if_neg (by omega), List.getD_eq_getElem?_getD, Nat.add_sub_cancel, hxx]; rfl
      rw [hp2, if_neg (by omega)]
      simp only at h3
      rw [h3] at hle ⊢
      have h6 : l.take (x.2 + 1) = l.take x.2 ++ [10] := by
        rw [List.take_add_one, List.getElem?_eq_getElem h5]
        have := byL_ten h5
        rw [h4] at this; simp at this; simp [this]
      rw [← h6]
      have key := List.take_add (l := l) (i := x.2 + 1) (j := e - (x.2 + 1))
      rw [show x.2 + 1 + (e - (x.2 + 1)) = e by omega] at key
      exact key

end Go.Proofs.Ythjlhbblflmajaa
/- Texts one behind the other; where a line ends: plain facts. -/
namespace Go.Proofs.Ythjlhbblflmajaa
open Go.RowKit
set_option linter.unusedVariables false
set_option linter.unusedSimpArgs false
theorem valid_app : ∀ (m : Nat) (a b : List UInt8), a.length ≤ m → validL a = true → validL b = true → validL (a ++ b) = true
  | 0, a, b, hm, _, hb => by
    have : a = [] := List.length_eq_zero_iff.1 (by omega)
    subst this; exact hb
  | m + 1, a, b, hm, ha, hb => by
    by_cases h0 : a.length = 0
    · have : a = [] := List.length_eq_zero_iff.1 h0
      subst this; exact hb
    · have hz := valid_sz ha h0
      have hle := szL_le a
      have h1 := (sz_take a (szL a) (by omega) hle).2 rfl
      have h2 : (a ++ b).take (szL a) = a.take (szL a) := List.take_append_of_le_length hle
      have h3 : szL (a ++ b) = szL a := by
        refine (sz_take (a ++ b) (szL a) (by omega) (by rw [List.length_append]; omega)).1 ?_
        rw [h2]; exact h1
      have h4 : (a ++ b).drop (szL a) = a.drop (szL a) ++ b := List.drop_append_of_le_length hle
      rw [validL_step (by rw [List.length_append]; omega) (by rw [h3]; exact hz), h3, h4]
      refine valid_app m _ b (by rw [List.length_drop]; omega) ?_ hb
      rw [← validL_step h0 hz]; exact ha
theorem valid_append {a b : List UInt8} (ha : validL a = true) (hb : validL b = true) : validL (a ++ b) = true := valid_app a.length a b (Nat.le_refl _) ha hb
theorem place_le {l : List UInt8} {k : Nat} (h : placeB l k = true) : k ≤ l.length := (valid_at h).2.1
theorem place_valid {l : List UInt8} {p : Int} (h : placeB l p = true) : validL l = true := by
  unfold placeB at h; simp only [Bool.and_eq_true] at h; exact h.2
theorem place_take {l : List UInt8} {k : Nat} (h : placeB l k = true) : validL (l.take k) = true :=
  valid_tk _ l k (Nat.le_refl _) (place_valid h) (place_le h) (place_inn h)
theorem place_drop {l : List UInt8} {k : Nat} (h : placeB l k = true) : validL (l.drop k) = true := (valid_at h).1
theorem place_iff {l : List UInt8} {k : Nat} : placeB l k = true ↔ k ≤ l.length ∧ validL (l.take k) = true ∧ validL (l.drop k) = true := by
  constructor
  · intro h; exact ⟨place_le h, place_take h, place_drop h⟩
  · rintro ⟨h1, h2, h3⟩
    refine place_mk ?_ h1 ?_
    · have := valid_append h2 h3; rwa [List.take_append_drop] at this
    · by_cases he : k = l.length
      · exact .inl he
      · refine .inr ?_
        have := valid_first h3 (by rw [List.length_drop]; omega)
        rwa [byL_drop] at this
theorem place_app {a b : List UInt8} (ha : validL a = true) (hb : validL b = true) : placeB (a ++ b) (a.length : Nat) = true :=
  place_iff.2 ⟨by rw [List.length_append]; omega, by rw [List.take_left]; exact ha, by rw [List.drop_left]; exact hb⟩
theorem place_int {l : List UInt8} {p : Int} (h : placeB l p = true) : ∃ k : Nat, p = k ∧ k ≤ l.length := by
  have h' := h
  unfold placeB at h'
  simp only [Bool.and_eq_true, decide_eq_true_eq] at h'
  exact ⟨p.toNat, by omega, by omega⟩
theorem byL_app1 {a b : List UInt8} {k : Nat} (h : k < a.length) : byL (a ++ b) k = byL a k := by
  unfold byL; rw [List.getD_eq_getElem?_getD, List.getD_eq_getElem?_getD, List.getElem?_append_left h]
theorem byL_app2 {a b : List UInt8} {k : Nat} (h : a.length ≤ k) : byL (a ++ b) k = byL b (k - a.length) := by
  unfold byL; rw [List.getD_eq_getElem?_getD, List.getD_eq_getElem?_getD, List.getElem?_append_right h]
theorem end_gt {l : List UInt8} {p e : Nat} (h : placeB l p = true) (he : endI l (ofI l p) = e) : (p < e ↔ p < l.length ∧ byL l p ≠ 10) ∧ p ≤ e ∧ e ≤ l.length := by
  have hv := place_valid h
  have hp := place_le h
  obtain ⟨ho, -, -⟩ := start_of hp hv
  obtain ⟨a, ha, hl⟩ := lns_split l p hp
  have key : ∀ e', (lns l)[fds l p]? = some (lst l p, e') → e' = e := by
    intro e' h1
    have h2 : lineI l (ofI l p) = some (lst l p, e') := by
      unfold lineI
      rw [ho, if_pos ⟨hv, by omega⟩]
      simpa using h1
    have : endI l (ofI l p) = e' := by unfold endI; rw [h2]
    omega
  have key2 : ∀ e' r, lnsF (l.drop p) (lst l p) p = (lst l p, e') :: r → e' = e := by
    intro e' r h1
    refine key e' ?_
    rw [ha, h1, ← hl]; simp
  by_cases hc : p < l.length
  · have hs := lnsF_step l (lst l p) p hc
    by_cases ht : byL l p = 10
    · rw [if_pos ht] at hs
      have := key2 _ _ hs
      subst this
      exact ⟨⟨fun h => by omega, fun h => absurd ht h.2⟩, Nat.le_refl _, hp⟩
    · rw [if_neg ht] at hs
      obtain ⟨e', q, h1, h2, h3⟩ := lnsF_head (l.drop (p + 1)) (lst l p) (p + 1)
      rw [h1] at hs
      have := key2 _ _ hs
      subst this
      rw [List.length_drop] at h3
      exact ⟨⟨fun _ => ⟨hc, ht⟩, fun _ => by omega⟩, by omega, by omega⟩
  · have hs := lnsF_end l (lst l p) p (by omega)
    have := key2 _ _ hs
    subst this
    exact ⟨⟨fun h => by omega, fun h => absurd h.1 hc⟩, Nat.le_refl _, hp⟩
theorem line_fds {l : List UInt8} {p e : Nat} (h : placeB l p = true) (he : endI l (ofI l p) = e) : fds l (lst l p) = fds l p ∧ fds l e = fds l p := by
  have hv := place_valid h
  have hp := place_le h
  obtain ⟨ho, -, -⟩ := start_of hp hv
  obtain ⟨e', h1, -, -⟩ := line_of l p hp
  have h2 : lineI l (ofI l p) = some (lst l p, e') := by
    unfold lineI
    rw [ho, if_pos ⟨hv, by omega⟩]
    simpa using h1
  have h3 : endI l (ofI l p) = e' := by unfold endI; rw [h2]
  have : e' = e := by omega
  subst this
  have := lnsF_fds l 0 0 l rfl (by simp) rfl (fds l p) (lst l p, e') h1
  have hz : fds l 0 = 0 := by simp [fds, tens]
  rw [hz] at this
  dsimp only at this
  omega
theorem ofI_at {l : List UInt8} {p : Nat} (h : placeB l p = true) : ofI l p = fds l p := (start_of (place_le h) (place_valid h)).1
theorem fds_drop (l : List UInt8) (i : Nat) : fds l i + tens (l.drop i) = tens l := by
  unfold fds tens
  rw [← List.count_append, List.take_append_drop]
theorem tens_append (a b : List UInt8) : tens (a ++ b) = tens a + tens b := by unfold tens; rw [List.count_append]
theorem lst_zero_or {l : List UInt8} {p : Nat} : lst l p = 0 ∨ (0 < lst l p ∧ byL l (lst l p - 1) = 10) := by
  by_cases h : lst l p = 0
  · exact .inl h
  · exact .inr ⟨by omega, lst_ten l p (by omega)⟩
end Go.Proofs.Ythjlhbblflmajaa
/- Words, plain: the program's list of words and the document's rows tell the same starts and ends. -/
namespace Go.Proofs.Ythjlhbblflmajaa
open Go.RowKit
set_option linter.unusedVariables false
set_option linter.unusedSimpArgs false
open Go.RowKit Go.Proofs.YthjlhbblflmajaaW.PrintWords Go.Proofs.YthjlhbblflmajaaW.PrintMore
def plsF (l : List UInt8) : Nat → Nat → List Nat
  | 0, _ => []
  | n + 1, p => p :: (if p = l.length then [] else plsF l n (p + szL (l.drop p)))
theorem plsF_all {l : List UInt8} : ∀ (n p : Nat), placeB l p = true → l.length + 1 - p ≤ n → plcTo l p ++ plsF l n p = plcs l
  | 0, p, hp, hn => by have := place_le hp; omega
  | n + 1, p, hp, hn => by
    have hle := place_le hp
    unfold plsF
    by_cases he : p = l.length
    · rw [if_pos he, he]; rfl
    · rw [if_neg he]
      have hz := sz_at hp (by omega)
      have ih := plsF_all n (p + szL (l.drop p)) (place_next hp (by omega)) (by omega)
      rw [plcTo_add l p _ rfl hz.1] at ih
      rw [← ih]; simp
theorem plsF_cons {l : List UInt8} {n p : Nat} (hp : placeB l p = true) (hn : l.length + 1 - p ≤ n) : ∃ r, plsF l n p = p :: r := by
  have := place_le hp
  obtain ⟨m, rfl⟩ : ∃ m, n = m + 1 := ⟨n - 1, by omega⟩
  exact ⟨_, rfl⟩
theorem splitI_plsF {l : List UInt8} (h : validL l = true) : splitI l = (plsF l (l.length + 1) 0).map Int.ofNat := by
  have := plsF_all (l := l) (l.length + 1) 0 (place_zero h) (by omega)
  unfold splitI
  rw [h, if_pos rfl, ← this]
  simp [plcTo]
def wq (l : List UInt8) (big : Bool) : List Nat → Int → Nat → Int → List (Nat × Int)
  | [], _, _, _ => []
  | p :: r, last, fr, prev => (if kc l big p ≠ last ∧ last ≠ 0 then [(fr, prev)] else []) ++ ((if kc l big p = 0 ∧ emB l p = true then [(p, -1)] else []) ++ wq l big r (kc l big p) (if kc l big p ≠ last then p else fr) p)
theorem wl_wq (l : List UInt8) (big : Bool) : ∀ (n p : Nat) (last : Int) (fr : Nat) (prev : Int), wl l big n p last fr prev = wq l big (plsF l n p) last fr prev
  | 0, _, _, _, _ => rfl
  | n + 1, p, last, fr, prev => by
    rw [wl_step]
    show _ = (if kc l big p ≠ last ∧ last ≠ 0 then [(fr, prev)] else []) ++ ((if kc l big p = 0 ∧ emB l p = true then [(p, -1)] else []) ++ wq l big (if p = l.length then [] else plsF l n (p + szL (l.drop p))) (kc l big p) (if kc l big p ≠ last then p else fr) p)
    by_cases he : p = l.length
    · rw [if_pos he, if_pos he]; rfl
    · rw [if_neg he, if_neg he, wl_wq l big n]
def stq (l : List UInt8) (big : Bool) : List Nat → Int → List Int
  | [], _ => []
  | p :: r, last => (if (kc l big p ≠ 0 ∧ kc l big p ≠ last) ∨ emB l p = true then [(p : Int)] else []) ++ stq l big r (kc l big p)
def enq (l : List UInt8) (big : Bool) : List Nat → List Int
  | p :: q :: r => (if kc l big p ≠ 0 ∧ kc l big q ≠ kc l big p then [(p : Int)] else []) ++ enq l big (q :: r)
  | _ => []
theorem kc_end (l : List UInt8) (big : Bool) : kc l big l.length = 0 := by
  unfold kc; rw [kind_end]; rfl
theorem em_kc {l : List UInt8} {big : Bool} {p : Nat} (hp : placeB l p = true) (h : emB l p = true) : kc l big p = 0 := by
  unfold emB at h
  simp only [Bool.and_eq_true, Bool.or_eq_true, decide_eq_true_eq] at h
  by_cases he : p = l.length
  · rw [he, kc_end]
  · have h10 : byL l p = 10 := by
      rcases h.2 with h | h
      · exact absurd h he
      · exact h
    have hc : clsI l p = 4 := by
      unfold clsI
      rw [if_pos ⟨hp, by omega⟩, Int.toNat_natCast, h10]; rfl
    unfold kc kindI bigI
    rw [hc]
    cases big <;> simp
theorem starts_wq {l : List UInt8} {big : Bool} : ∀ (n p : Nat) (last : Int) (fr : Nat) (prev : Int), placeB l p = true → l.length + 1 - p ≤ n →
    starts0 (wq l big (plsF l n p) last fr prev) = (if last ≠ 0 then [(fr : Int)] else []) ++ stq l big (plsF l n p) last
  | 0, p, _, _, _, hp, hn => by have := place_le hp; omega
  | n + 1, p, last, fr, prev, hp, hn => by
    have hle := place_le hp
    have hem := em_kc (big := big) hp
    unfold plsF
    by_cases he : p = l.length
    · rw [if_pos he]
      have hk : kc l big p = 0 := by rw [he, kc_end]
      simp only [wq, stq, hk, starts0]
      by_cases h0 : last = 0
      · subst h0
        rcases Bool.eq_false_or_eq_true (emB l p) with h | h <;> simp [h]
      · have : ¬ (0 : Int) = last := fun e => h0 e.symm
        rcases Bool.eq_false_or_eq_true (emB l p) with h | h <;> simp [h, h0, this]
    · rw [if_neg he]
      have ih := starts_wq (l := l) (big := big) n (p + szL (l.drop p)) (kc l big p) (if kc l big p ≠ last then p else fr) p (place_next hp (by omega)) (by have := sz_at hp (by omega); omega)
      unfold starts0 at ih ⊢
      simp only [wq, stq, List.map_append, ih]
      generalize kc l big p = c at *
      rcases Bool.eq_false_or_eq_true (emB l p) with h | h
      · have hc := hem h
        subst hc
        by_cases h0 : last = 0
        · subst h0; simp [h]
        · have : ¬ (0 : Int) = last := fun e => h0 e.symm
          simp [h, h0, this]
      · by_cases hc0 : c = 0
        · subst hc0
          by_cases h0 : last = 0
          · subst h0; simp [h]
          · have : ¬ (0 : Int) = last := fun e => h0 e.symm
            simp [h, h0, this]
        · by_cases hcl : c = last
          · subst hcl; simp [h, hc0]
          · by_cases h0 : last = 0
            · subst h0; simp [h, hc0]
            · simp [h, hc0, hcl, h0]
theorem ends0_append (a b : List (Nat × Int)) : ends0 (a ++ b) = ends0 a ++ ends0 b := by simp [ends0]
theorem ends_wq {l : List UInt8} {big : Bool} : ∀ (n p : Nat) (last : Int) (fr : Nat) (prev : Int), placeB l p = true → l.length + 1 - p ≤ n → (last ≠ 0 → 0 ≤ prev) →
    ends0 (wq l big (plsF l n p) last fr prev) = (if last ≠ 0 ∧ kc l big p ≠ last then [prev] else []) ++ enq l big (plsF l n p)
  | 0, p, _, _, _, hp, hn, _ => by have := place_le hp; omega
  | n + 1, p, last, fr, prev, hp, hn, hpr => by
    have hle := place_le hp
    have e1 : ends0 (if kc l big p ≠ last ∧ last ≠ 0 then [(fr, prev)] else []) = if last ≠ 0 ∧ kc l big p ≠ last then [prev] else [] := by
      by_cases h : kc l big p ≠ last ∧ last ≠ 0
      · rw [if_pos h, if_pos ⟨h.2, h.1⟩]; simp [ends0, hpr h.2]
      · rw [if_neg h, if_neg (fun e => h ⟨e.2, e.1⟩)]; rfl
    have e2 : ends0 (if kc l big p = 0 ∧ emB l p = true then [((p, -1) : Nat × Int)] else []) = [] := by split <;> simp [ends0]
    unfold plsF
    by_cases he : p = l.length
    · rw [if_pos he]
      simp only [wq, ends0_append, e1, e2, enq]
      simp [ends0]
    · rw [if_neg he]
      have hnx := place_next hp (by omega)
      have hz := sz_at hp (by omega)
      have ih := ends_wq (l := l) (big := big) n (p + szL (l.drop p)) (kc l big p) (if kc l big p ≠ last then p else fr) p hnx (by omega) (fun _ => by omega)
      obtain ⟨r, hr⟩ := plsF_cons (l := l) (n := n) hnx (by omega)
      rw [hr] at ih ⊢
      show ends0 ((if kc l big p ≠ last ∧ last ≠ 0 then [(fr, prev)] else []) ++ ((if kc l big p = 0 ∧ emB l p = true then [(p, -1)] else []) ++ wq l big ((p + szL (l.drop p)) :: r) (kc l big p) (if kc l big p ≠ last then p else fr) p)) = _
      rw [ends0_append, ends0_append, e1, e2, ih]
      simp only [enq, List.nil_append]
theorem starts_eq {l : List UInt8} (big : Bool) (h : validL l = true) : startsI l big = stq l big (plsF l (l.length + 1) 0) 0 := by
  unfold startsI wordsI
  rw [if_pos h, wl_wq, starts_wq _ _ _ _ _ (place_zero h) (by omega)]
  simp
theorem ends_eq {l : List UInt8} (big : Bool) (h : validL l = true) : endsI l big = enq l big (plsF l (l.length + 1) 0) := by
  unfold endsI wordsI
  rw [if_pos h, wl_wq, ends_wq _ _ _ _ _ (place_zero h) (by omega) (by simp)]
  simp
theorem plsF_len {l : List UInt8} {n p : Nat} : (plsF l n p).length ≤ n := by
  induction n generalizing p with
  | zero => simp [plsF]
  | succ n ih =>
    unfold plsF
    split
    · simp
    · have := @ih (p + szL (l.drop p)); simp; omega
end Go.Proofs.Ythjlhbblflmajaa
/- Rising whole numbers: how many are less; the next one round about. Plain facts. -/
namespace Go.Proofs.Ythjlhbblflmajaa
open Go.RowKit
set_option linter.unusedVariables false
set_option linter.unusedSimpArgs false
def lessN (xs : List Int) (t : Int) : Nat := (xs.filter fun x => decide (x < t)).length
theorem lessN_le (xs : List Int) (t : Int) : lessN xs t ≤ xs.length := List.length_filter_le _ _
theorem lessN_at {xs : List Int} {t : Int} {i : Nat} (hi : i ≤ xs.length) (h1 : ∀ k (hk : k < xs.length), k < i → xs[k] < t) (h2 : ∀ k (hk : k < xs.length), i ≤ k → t ≤ xs[k]) : lessN xs t = i := by
  unfold lessN
  have e : xs = xs.take i ++ xs.drop i := (List.take_append_drop i xs).symm
  rw [e, List.filter_append, List.length_append]
  have a1 : (xs.take i).filter (fun x => decide (x < t)) = xs.take i := by
    rw [List.filter_eq_self]
    intro x hx
    obtain ⟨k, hk, rfl⟩ := List.getElem_of_mem hx
    rw [List.length_take] at hk
    rw [List.getElem_take]
    exact decide_eq_true (h1 k (by omega) (by omega))
  have a2 : (xs.drop i).filter (fun x => decide (x < t)) = [] := by
    rw [List.filter_eq_nil_iff]
    intro x hx
    obtain ⟨k, hk, rfl⟩ := List.getElem_of_mem hx
    rw [List.length_drop] at hk
    rw [List.getElem_drop]
    have := h2 (i + k) (by omega) (by omega)
    simp; omega
  rw [a1, a2, List.length_take]; simp; omega
theorem less_iff {xs : List Int} (hs : xs.Pairwise (· < ·)) (p : Int) (k : Nat) (hk : k < xs.length) : xs[k] < p ↔ k < lessN xs p := by
  constructor
  · intro hp
    apply Classical.byContradiction
    intro hc
    have : lessN xs p ≤ k := by omega
    have h2 : lessN xs p = (xs.filter fun x => decide (x < p)).length := rfl
    have h3 : k + 1 ≤ lessN xs p := by
      rw [h2]
      have e : xs = xs.take (k + 1) ++ xs.drop (k + 1) := (List.take_append_drop _ xs).symm
      have a1 : (xs.take (k + 1)).filter (fun x => decide (x < p)) = xs.take (k + 1) := by
        rw [List.filter_eq_self]
        intro x hx
        obtain ⟨q, hq, rfl⟩ := List.getElem_of_mem hx
        rw [List.length_take] at hq
        rw [List.getElem_take]
        refine decide_eq_true ?_
        rcases Nat.lt_or_eq_of_le (Nat.le_of_lt_succ (by omega : q < k + 1)) with h4 | h4
        · have := List.pairwise_iff_getElem.1 hs q k (by omega) (by omega) h4; omega
        · subst h4; exact hp
      rw [e, List.filter_append, List.length_append, a1, List.length_take]; omega
    omega
  · intro hp
    apply Classical.byContradiction
    intro hc
    have : lessN xs p ≤ k := by
      unfold lessN
      have e : xs = xs.take k ++ xs.drop k := (List.take_append_drop _ xs).symm
      have a2 : (xs.drop k).filter (fun x => decide (x < p)) = [] := by
        rw [List.filter_eq_nil_iff]
        intro x hx
        obtain ⟨q, hq, rfl⟩ := List.getElem_of_mem hx
        rw [List.length_drop] at hq
        rw [List.getElem_drop]
        simp only [decide_eq_true_eq, Int.not_lt]
        rcases Nat.eq_zero_or_pos q with h4 | h4
        · subst h4; simp only [Nat.add_zero]; omega
        · have := List.pairwise_iff_getElem.1 hs k (k + q) (by omega) (by omega) (by omega); omega
      rw [e, List.filter_append, List.length_append, a2, List.length_nil, Nat.add_zero]
      exact Nat.le_trans (List.length_filter_le _ _) (by rw [List.length_take]; omega)
    omega
theorem lessN_self {xs : List Int} (hs : xs.Pairwise (· < ·)) (j : Nat) (hj : j < xs.length) : lessN xs xs[j] = j :=
  lessN_at (Nat.le_of_lt hj) (fun k hk h => List.pairwise_iff_getElem.1 hs k j hk hj h) (fun k hk h => by
    rcases Nat.lt_or_eq_of_le h with h | h
    · have := List.pairwise_iff_getElem.1 hs j k hj hk h; omega
    · subst h; exact Int.le_refl _)
theorem lessN_succ {xs : List Int} (hs : xs.Pairwise (· < ·)) (j : Nat) (hj : j < xs.length) : lessN xs (xs[j] + 1) = j + 1 :=
  lessN_at hj (fun k hk h => by
    rcases Nat.lt_or_eq_of_le (Nat.le_of_lt_succ h) with h | h
    · have := List.pairwise_iff_getElem.1 hs k j hk hj h; omega
    · subst h; omega) (fun k hk h => by have := List.pairwise_iff_getElem.1 hs j k hj hk (by omega); omega)
def fwN (xs : List Int) (p : Int) (s : Nat) : Int := xs.getD ((lessN xs (p + 1) + s) % xs.length) 0
def bkN (xs : List Int) (p : Int) (s : Nat) : Int := xs.getD ((lessN xs p + (s + 1) * (xs.length - 1)) % xs.length) 0
theorem getD_at (xs : List Int) (j : Nat) (h : j < xs.length) : xs.getD j 0 = xs[j] := by simp [List.getD_eq_getElem?_getD, List.getElem?_eq_getElem h]
theorem fwN_step {xs : List Int} (hs : xs.Pairwise (· < ·)) (h0 : 0 < xs.length) (p : Int) (s m : Nat) : fwN xs (fwN xs p s) m = fwN xs p (s + m + 1) := by
  unfold fwN
  have hj := Nat.mod_lt (lessN xs (p + 1) + s) h0
  rw [getD_at xs _ hj, lessN_succ hs _ hj, Nat.add_assoc, Nat.mod_add_mod]
  congr 2; omega
theorem bkN_step {xs : List Int} (hs : xs.Pairwise (· < ·)) (h0 : 0 < xs.length) (p : Int) (s m : Nat) : bkN xs (bkN xs p s) m = bkN xs p (s + m + 1) := by
  unfold bkN
  have hj := Nat.mod_lt (lessN xs p + (s + 1) * (xs.length - 1)) h0
  rw [getD_at xs _ hj, lessN_self hs _ hj, Nat.mod_add_mod, Nat.add_assoc, ← Nat.add_mul]
  congr 4; omega
theorem bk_idx (c m s : Nat) (h0 : 0 < m) : (c + (s + 1) * (m - 1)) % m = (c + 2 * m - 1 - s % m) % m := by
  have hr := Nat.mod_lt s h0
  have hd := Nat.div_add_mod s m
  have e1 : (s + 1) * (m - 1) + (s + 1) = (s + 1) * m := by
    obtain ⟨k, rfl⟩ : ∃ k, m = k + 1 := ⟨m - 1, by omega⟩
    rw [Nat.add_sub_cancel, Nat.mul_add, Nat.mul_one]
  have e2 : c + (s + 1) * (m - 1) + m * (s / m + 2) = (c + 2 * m - 1 - s % m) + m * (s + 1) := by
    rw [Nat.mul_comm m (s + 1), ← e1, Nat.mul_add]
    omega
  rw [← Nat.add_mul_mod_self_left (c + (s + 1) * (m - 1)) m (s / m + 2), e2, Nat.add_mul_mod_self_left]
theorem bk_fw {xs : List Int} (hs : xs.Pairwise (· < ·)) (k : Nat) (hk : k < xs.length) (s : Nat) : bkN xs (fwN xs xs[k] s) s = xs[k] := by
  unfold bkN fwN
  have h0 : 0 < xs.length := by omega
  have hj := Nat.mod_lt (lessN xs (xs[k] + 1) + s) h0
  rw [getD_at xs _ hj, lessN_self hs _ hj, lessN_succ hs k hk, Nat.mod_add_mod]
  have e : (k + 1 + s + (s + 1) * (xs.length - 1)) = k + xs.length * (s + 1) := by
    have e1 : (s + 1) * (xs.length - 1) + (s + 1) = (s + 1) * xs.length := by
      obtain ⟨m, hm⟩ : ∃ m, xs.length = m + 1 := ⟨xs.length - 1, by omega⟩
      rw [hm, Nat.add_sub_cancel, Nat.mul_add, Nat.mul_one]
    rw [Nat.mul_comm xs.length, ← e1]; omega
  rw [e, Nat.add_mul_mod_self_left, Nat.mod_eq_of_lt hk, getD_at xs k hk]
theorem fw_all {xs : List Int} (hs : xs.Pairwise (· < ·)) (k : Nat) (hk : k < xs.length) : fwN xs xs[k] (xs.length - 1) = xs[k] := by
  unfold fwN
  rw [lessN_succ hs k hk]
  have e : k + 1 + (xs.length - 1) = k + xs.length := by omega
  rw [e, Nat.add_mod_right, Nat.mod_eq_of_lt hk, getD_at xs k hk]
theorem fwN_mem {xs : List Int} (h0 : 0 < xs.length) (p : Int) (s : Nat) : ∃ j, ∃ h : j < xs.length, fwN xs p s = xs[j] :=
  ⟨_, Nat.mod_lt _ h0, getD_at xs _ (Nat.mod_lt _ h0)⟩
end Go.Proofs.Ythjlhbblflmajaa
/- Motions by words, plain: the places rise; n times is once, n times. -/
namespace Go.Proofs.Ythjlhbblflmajaa
open Go.RowKit
set_option linter.unusedVariables false
set_option linter.unusedSimpArgs false
open Go.RowKit Go.Proofs.YthjlhbblflmajaaW.PrintWords Go.Proofs.YthjlhbblflmajaaW.PrintMore
theorem plsF_ge {l : List UInt8} : ∀ (n p x : Nat), x ∈ plsF l n p → p ≤ x
  | 0, _, _, h => by simp [plsF] at h
  | n + 1, p, x, h => by
    unfold plsF at h
    rcases List.mem_cons.1 h with h | h
    · omega
    · split at h
      · simp at h
      · have := plsF_ge n _ x h; omega
theorem plsF_rise {l : List UInt8} : ∀ (n p : Nat), placeB l p = true → (plsF l n p).Pairwise (· < ·)
  | 0, _, _ => List.Pairwise.nil
  | n + 1, p, hp => by
    have hle := place_le hp
    unfold plsF
    refine List.pairwise_cons.2 ⟨fun x hx => ?_, ?_⟩
    · split at hx
      · simp at hx
      · rename_i h
        have := plsF_ge n _ x hx
        have hz := sz_at hp (by omega)
        omega
    · split
      · exact List.Pairwise.nil
      · rename_i h
        exact plsF_rise n _ (place_next hp (by omega))
theorem plsF_place {l : List UInt8} : ∀ (n p x : Nat), placeB l p = true → x ∈ plsF l n p → placeB l x = true
  | 0, _, _, _, h => by simp [plsF] at h
  | n + 1, p, x, hp, h => by
    have hle := place_le hp
    unfold plsF at h
    rcases List.mem_cons.1 h with h | h
    · rw [h]; exact hp
    · split at h
      · simp at h
      · exact plsF_place n _ x (place_next hp (by omega)) h
theorem stq_sub (l : List UInt8) (big : Bool) : ∀ (qs : List Nat) (last : Int), (stq l big qs last).Sublist (qs.map Int.ofNat)
  | [], _ => List.Sublist.refl _
  | p :: r, last => by
    unfold stq
    have ih := stq_sub l big r (kc l big p)
    split
    · exact ih.cons_cons _
    · exact ih.cons _
theorem enq_sub (l : List UInt8) (big : Bool) : ∀ (qs : List Nat), (enq l big qs).Sublist (qs.map Int.ofNat)
  | [] => List.Sublist.refl _
  | [p] => by simp [enq]
  | p :: q :: r => by
    unfold enq
    have ih := enq_sub l big (q :: r)
    split
    · exact ih.cons_cons _
    · exact ih.cons _
theorem map_rise {qs : List Nat} (h : qs.Pairwise (· < ·)) : (qs.map Int.ofNat).Pairwise (· < ·) := by
  rw [List.pairwise_map]; exact h.imp fun h => Int.ofNat_lt.2 h
theorem starts_rise (l : List UInt8) (big : Bool) : (startsI l big).Pairwise (· < ·) := by
  rcases Bool.eq_false_or_eq_true (validL l) with h | h
  · rw [starts_eq big h]; exact (map_rise (plsF_rise _ _ (place_zero h))).sublist (stq_sub ..)
  · unfold startsI; rw [if_neg (by rw [h]; decide)]; exact List.Pairwise.nil
theorem ends_rise (l : List UInt8) (big : Bool) : (endsI l big).Pairwise (· < ·) := by
  rcases Bool.eq_false_or_eq_true (validL l) with h | h
  · rw [ends_eq big h]; exact (map_rise (plsF_rise _ _ (place_zero h))).sublist (enq_sub ..)
  · unfold endsI; rw [if_neg (by rw [h]; decide)]; exact List.Pairwise.nil
theorem starts_place {l : List UInt8} {big : Bool} {x : Int} (hx : x ∈ startsI l big) : placeB l x = true := by
  rcases Bool.eq_false_or_eq_true (validL l) with h | h
  · rw [starts_eq big h] at hx
    obtain ⟨y, hy, rfl⟩ := List.mem_map.1 ((stq_sub ..).subset hx)
    exact plsF_place _ _ _ (place_zero h) hy
  · unfold startsI at hx; rw [if_neg (by rw [h]; decide)] at hx; simp at hx
theorem ends_place {l : List UInt8} {big : Bool} {x : Int} (hx : x ∈ endsI l big) : placeB l x = true := by
  rcases Bool.eq_false_or_eq_true (validL l) with h | h
  · rw [ends_eq big h] at hx
    obtain ⟨y, hy, rfl⟩ := List.mem_map.1 ((enq_sub ..).subset hx)
    exact plsF_place _ _ _ (place_zero h) hy
  · unfold endsI at hx; rw [if_neg (by rw [h]; decide)] at hx; simp at hx
theorem startsI_len (l : List UInt8) (big : Bool) : (startsI l big).length ≤ 2 * l.length + 2 := by
  unfold startsI
  split
  · exact Nat.le_trans (starts0_len _) (wordsI_len l big)
  · simp
theorem endsI_len (l : List UInt8) (big : Bool) : (endsI l big).length ≤ 2 * l.length + 2 := by
  unfold endsI
  split
  · exact Nat.le_trans (ends0_len _) (wordsI_len l big)
  · simp

def stW (st : List Int) (len p : Int) : Option Int := if lessN st (p + 1) < st.length then some (st.getD (lessN st (p + 1)) 0) else if p < len then some len else none
def stB (st : List Int) (p : Int) : Option Int := if lessN st p = 0 then none else some (st.getD (lessN st p - 1) 0)
def stE (en : List Int) (p : Int) : Option Int := if lessN en (p + 1) < en.length then some (en.getD (lessN en (p + 1)) 0) else none
def runS (f : Int → Option Int) : Nat → Int → Int
  | 0, p => p
  | m + 1, p => match f p with | none => p | some q => runS f m q
def goS (f : Int → Option Int) (p : Int) (n : Nat) : Int × Bool := match f p with | none => (0, false) | some _ => (runS f n p, true)
theorem less_gt {xs : List Int} {t : Int} (h : ∀ k (hk : k < xs.length), xs[k] < t) : lessN xs t = xs.length := lessN_at (Nat.le_refl _) (fun k hk _ => h k hk) (fun k hk h2 => by omega)
theorem run_W {st : List Int} (hs : st.Pairwise (· < ·)) {len : Int} (hl : ∀ k (hk : k < st.length), st[k] ≤ len) : ∀ (m : Nat) (q : Int), q ≤ len →
    runS (stW st len) m q = if m = 0 then q else if lessN st (q + 1) + m ≤ st.length then st.getD (lessN st (q + 1) + m - 1) 0 else if q < len then len else q
  | 0, q, _ => by simp [runS]
  | m + 1, q, hq => by
    rw [if_neg (by omega)]
    show (match stW st len q with | none => q | some q => runS (stW st len) m q) = _
    by_cases h : lessN st (q + 1) < st.length
    · have e : stW st len q = some (st.getD (lessN st (q + 1)) 0) := by unfold stW; rw [if_pos h]
      rw [e, getD_at _ _ h]
      dsimp only
      rw [run_W hs hl m _ (hl _ h), lessN_succ hs _ h]
      have hlt : q < st[lessN st (q + 1)] := by
        have := less_iff hs (q + 1) (lessN st (q + 1)) h
        omega
      have hle := hl _ h
      by_cases hm : m = 0
      · subst hm
        rw [if_pos rfl, if_pos (by omega)]
        simp only [Nat.zero_add, Nat.add_sub_cancel]
        rw [getD_at _ _ h]
      · rw [if_neg hm]
        by_cases h2 : lessN st (q + 1) + 1 + m ≤ st.length
        · rw [if_pos h2, if_pos (by omega)]; congr 1; omega
        · rw [if_neg h2, if_neg (show ¬ lessN st (q + 1) + (m + 1) ≤ st.length by omega)]
          split <;> split <;> omega
    · by_cases h2 : q < len
      · have e : stW st len q = some len := by unfold stW; rw [if_neg h, if_pos h2]
        rw [e]
        dsimp only
        have hg : lessN st (len + 1) = st.length := less_gt fun k hk => by have := hl k hk; omega
        rw [run_W hs hl m len (Int.le_refl _), hg]
        have := lessN_le st (q + 1)
        rw [if_neg (show ¬ lessN st (q + 1) + (m + 1) ≤ st.length by omega), if_pos h2]
        by_cases hm : m = 0
        · rw [if_pos hm]
        · rw [if_neg hm, if_neg (by omega), if_neg (by omega)]
      · have e : stW st len q = none := by unfold stW; rw [if_neg h, if_neg h2]
        rw [e]
        dsimp only
        rw [if_neg (by omega), if_neg h2]
theorem run_B {st : List Int} (hs : st.Pairwise (· < ·)) : ∀ (m : Nat) (q : Int), runS (stB st) m q = if m = 0 ∨ lessN st q = 0 then q else st.getD (lessN st q - min m (lessN st q)) 0
  | 0, q => by simp [runS]
  | m + 1, q => by
    show (match stB st q with | none => q | some q => runS (stB st) m q) = _
    by_cases h : lessN st q = 0
    · have e : stB st q = none := by unfold stB; rw [if_pos h]
      rw [e, if_pos (.inr h)]
    · have hl := lessN_le st q
      have e : stB st q = some (st.getD (lessN st q - 1) 0) := by unfold stB; rw [if_neg h]
      rw [e, getD_at st (lessN st q - 1) (by omega)]
      dsimp only
      rw [run_B hs m, lessN_self hs, if_neg (show ¬ (m + 1 = 0 ∨ lessN st q = 0) by omega)]
      by_cases h2 : m = 0 ∨ lessN st q - 1 = 0
      · rw [if_pos h2]
        have : lessN st q - min (m + 1) (lessN st q) = lessN st q - 1 := by omega
        rw [this, getD_at st (lessN st q - 1) (by omega)]
      · rw [if_neg h2]; congr 1; omega
theorem run_E {en : List Int} (hs : en.Pairwise (· < ·)) : ∀ (m : Nat) (q : Int), runS (stE en) m q = if m = 0 ∨ lessN en (q + 1) = en.length then q else en.getD (min (lessN en (q + 1) + m - 1) (en.length - 1)) 0
  | 0, q => by simp [runS]
  | m + 1, q => by
    have hl := lessN_le en (q + 1)
    show (match stE en q with | none => q | some q => runS (stE en) m q) = _
    by_cases h : lessN en (q + 1) < en.length
    · have e : stE en q = some (en.getD (lessN en (q + 1)) 0) := by unfold stE; rw [if_pos h]
      rw [e, getD_at _ _ h]
      dsimp only
      rw [run_E hs m, lessN_succ hs _ h, if_neg (show ¬ (m + 1 = 0 ∨ lessN en (q + 1) = en.length) by omega)]
      by_cases h2 : m = 0 ∨ lessN en (q + 1) + 1 = en.length
      · rw [if_pos h2]
        have : min (lessN en (q + 1) + (m + 1) - 1) (en.length - 1) = lessN en (q + 1) := by omega
        rw [this, getD_at _ _ h]
      · rw [if_neg h2]; congr 1; omega
    · have e : stE en q = none := by unfold stE; rw [if_neg h]
      rw [e, if_pos (.inr (by omega))]
def stepH (l : List UInt8) (kd : Nat) (big : Bool) (p : Int) : Option Int := if kd = 0 then stW (startsI l big) l.length p else if kd = 1 then stB (startsI l big) p else stE (endsI l big) p
theorem getD_mem {xs : List Int} {k : Nat} (h : k < xs.length) : xs.getD k 0 ∈ xs := by rw [getD_at _ _ h]; exact List.getElem_mem _
theorem place_len {l : List UInt8} (h : validL l = true) : placeB l (l.length : Nat) = true := by
  unfold placeB; simp [h]
theorem step_place {l : List UInt8} {kd : Nat} {big : Bool} {p q : Int} (hp : placeB l p = true) (h : stepH l kd big p = some q) : placeB l q = true := by
  unfold stepH at h
  split at h
  · unfold stW at h
    split at h
    · cases h; exact starts_place (getD_mem (by assumption))
    · split at h
      · cases h; exact place_len (place_valid hp)
      · cases h
  · split at h
    · unfold stB at h
      split at h
      · cases h
      · cases h
        have := lessN_le (startsI l big) p
        exact starts_place (getD_mem (by omega))
    · unfold stE at h
      split at h
      · cases h; exact ends_place (getD_mem (by assumption))
      · cases h
theorem run_place {l : List UInt8} {kd : Nat} {big : Bool} : ∀ (m : Nat) (p : Int), placeB l p = true → placeB l (runS (stepH l kd big) m p) = true
  | 0, _, hp => hp
  | m + 1, p, hp => by
    show placeB l (match stepH l kd big p with | none => p | some q => runS (stepH l kd big) m q) = true
    cases h : stepH l kd big p with
    | none => exact hp
    | some q => exact run_place m q (step_place hp h)
theorem run_more (f : Int → Option Int) : ∀ (m : Nat) (p : Int), runS f (m + 1) p = match f (runS f m p) with | none => runS f m p | some q => q
  | 0, p => by show (match f p with | none => p | some q => runS f 0 q) = _; rfl
  | m + 1, p => by
    show (match f p with | none => p | some q => runS f (m + 1) q) = _
    have e : runS f (m + 1) p = match f p with | none => p | some q => runS f m q := rfl
    rw [e]
    cases h : f p with
    | none => dsimp only; rw [h]
    | some q => dsimp only; rw [run_more f m q]
theorem run_stop {f : Int → Option Int} {m : Nat} {p : Int} (h : f (runS f m p) = none) : ∀ j, runS f (m + j) p = runS f m p
  | 0 => rfl
  | j + 1 => by rw [← Nat.add_assoc, run_more, run_stop h j, h]
end Go.Proofs.Ythjlhbblflmajaa
-- Printed by this work's xp.py out of the translation. Lean checks it.
namespace Go.Proofs.Ythjlhbblflmajaa.QX
open Go.RowKit Go.Proofs.YthjlhbblflmajaaW.PrintWords Go.Proofs.YthjlhbblflmajaaW.PrintLast Go.Proofs.YthjlhbblflmajaaW.PrintMore
attribute [local go_sem] max2_int min2_int max_two min_two max_three min_three max_four min_four   -- for this text's walks alone
set_option linter.unusedVariables false
set_option linter.unusedSimpArgs false



def errW : Option Int → Value
  | none => .nilIface
  | some c => .iface 0 (.int .i64 c)
theorem errW_none : errW none = .nilIface := rfl
theorem errW_some (c : Int) : errW (some c) = .iface 0 (.int .i64 c) := rfl

theorem info9 : (Try.prog.info? 9).map (fun i => (i.zero, i.size, i.bytes)) = some (some (.string ⟨#[]⟩), 1, 16) := by kernel_rfl
-- the values' own types

end Go.Proofs.Ythjlhbblflmajaa.QX
-- Printed by this work's xp.py out of the translation. Lean checks it.
namespace Go.Proofs.Ythjlhbblflmajaa.QX
open Go.RowKit Go.Proofs.YthjlhbblflmajaaW.PrintWords Go.Proofs.YthjlhbblflmajaaW.PrintLast Go.Proofs.YthjlhbblflmajaaW.PrintMore
attribute [local go_sem] max2_int min2_int max_two min_two max_three min_three max_four min_four   -- for this text's walks alone
set_option linter.unusedVariables false
set_option linter.unusedSimpArgs false





/-! ### slices_Index_string_string -/
def slices_Index_string_string.l0 : Nat → List ByteArray → ByteArray → Int → Int → Option (Int)
  | 0, _, _, _, _ => none
  | k + 1, x0, x1, x7, x8 => if x8 < x7 then (if 0 ≤ x8 then (if x8 < (x0.length : Int) then (if x1.toList = (rdOf ByteArray.empty x0 x8).toList then (some x8) else (slices_Index_string_string.l0 k x0 x1 x7 (wrap64 (x8 + 1)))) else (none)) else (none)) else (some (-1))
def slices_Index_string_string.f (k : Nat) (l0 : List ByteArray) (a1 : ByteArray) : Option (Int) := slices_Index_string_string.l0 k l0 a1 (l0.length : Int) 0
theorem slices_Index_string_string.mono_l : ∀ k, (∀ y0 y1 y2 y3, LeO (slices_Index_string_string.l0 k y0 y1 y2 y3) (slices_Index_string_string.l0 (k + 1) y0 y1 y2 y3))
  | 0 => fun _ _ _ _ r h => by simp [slices_Index_string_string.l0] at h
  | k + 1 => by
    have ih0 := slices_Index_string_string.mono_l k
    · intro y0 y1 y2 y3
      unfold slices_Index_string_string.l0
      repeat' first
      | (with_reducible exact ih0 _ _ _ _)
      | (with_reducible exact LeO.refl _)
      | (with_reducible exact LeO.none _)
      | (with_reducible refine LeO.ite ?_ ?_)
      | (with_reducible refine LeO.bind ?_ (fun _ => ?_))
      | exact ih0 _ _ _ _
      | exact LeO.none _
      | refine LeO.ite ?_ ?_
      | refine LeO.bind ?_ (fun _ => ?_)
theorem slices_Index_string_string.mono : ∀ a0 a1 k, LeO (slices_Index_string_string.f k a0 a1) (slices_Index_string_string.f (k + 1) a0 a1) := by
  intro a0 a1 k
  have ih0 := slices_Index_string_string.mono_l k
  unfold slices_Index_string_string.f
  repeat' first
      | (with_reducible exact ih0 _ _ _ _)
      | (with_reducible exact LeO.refl _)
      | (with_reducible exact LeO.none _)
      | (with_reducible refine LeO.ite ?_ ?_)
      | (with_reducible refine LeO.bind ?_ (fun _ => ?_))
      | exact ih0 _ _ _ _
      | exact LeO.none _
      | refine LeO.ite ?_ ?_
      | refine LeO.bind ?_ (fun _ => ?_)
set_option maxHeartbeats 8000000 in
set_option maxRecDepth 100000 in
theorem slices_Index_string_string.calls (k : Nat) (A0 : Option Addr) (c0 : Nat) (l0 : List ByteArray) (a1 : ByteArray) (r : Int) (w : World) (hr0 : Kd.C Kd.string w A0 l0.length l0) (hc0 : l0.length ≤ c0) (h : slices_Index_string_string.f k l0 a1 = some r) :
    Calls Try.prog 81 #[.slice A0 l0.length c0, .string a1] w fun e w' => e = .returned (.int .i64 r) ∧ Drawn0 w w' := by
  have HR0 := Aside0.mk hr0
  have HC0 := Aside0.mk hc0
  clear hr0 hc0
  have H : (slices_Index_string_string.l0 k l0 a1 (l0.length : Int) 0) = some r := h
  clear h
  have H' := Aside0.mk H
  clear H
  go_enter Try.func81, Try.ntmps81
  go_wp2
  go_loopg [8] k (fun kq v8 w' => ∃ (x8_1 : Int), v8 = .int .i64 x8_1 ∧ Aside0 (slices_Index_string_string.l0 kq l0 a1 (l0.length : Int) x8_1 = some r) ∧ Aside0 (kq ≤ k) ∧ Drawn0 w w')
  case atStart => exact ⟨(0), (by first | rfl | (simp; done) | (simp [*]; done)), H', ⟨Nat.le_refl _⟩, by repeat (first | exact Drawn0.refl _ | apply Drawn0.step)⟩
  case round => as_aux_lemma =>
    clear H'
    try clear p2
    obtain ⟨x8_1, rfl, HA, HK1, ⟨m1, rfl⟩⟩ := hrel
    cases gk with
    | zero => exact absurd HA.out (by simp [slices_Index_string_string.l0])
    | succ k1 =>
      have H := HA.out
      clear HA
      simp only [slices_Index_string_string.l0] at H
      by_cases c3 : x8_1 < (l0.length : Int)
      · rw [if_pos c3] at H
        have c3b0 : decide (x8_1 < (l0.length : Int)) = true := decide_eq_true c3
        clear c3
        by_cases c4 : 0 ≤ x8_1
        · rw [if_pos c4] at H
          have c4b0 : decide (0 ≤ x8_1) = true := decide_eq_true c4
          clear c4
          by_cases c5 : x8_1 < (l0.length : Int)
          · rw [if_pos c5] at H
            have c5b0 : decide (x8_1 < (l0.length : Int)) = true := decide_eq_true c5
            clear c5
            by_cases c6 : a1.toList = (rdOf ByteArray.empty l0 x8_1).toList
            · rw [if_pos c6] at H
              have c6b0 : (a1.toList == (rdOf ByteArray.empty l0 x8_1).toList) = true := beq_iff_eq.mpr c6
              have c6b1 : (a1.toList != (rdOf ByteArray.empty l0 x8_1).toList) = false := bne_eq_false_iff_eq.mpr c6
              clear c6
              obtain rfl := Option.some.inj H
              have p101 : 0 ≤ (x8_1 : Int) := of_decide_eq_true (by first | (with_reducible assumption) | assumption)
              have q101 : x8_1 < (l0.length : Int) := of_decide_eq_true (by first | (with_reducible assumption) | assumption)
              obtain ⟨ad101, e101, hx101_0⟩ := Kd.at_string HR0.out x8_1 p101 q101
              cases e101
              replace p101 := eq_true p101
              replace q101 := eq_true q101
              go_wp2
              go_ret
              exact ⟨by first | rfl | (simp; done) | (simp [*]; done), by repeat (first | exact Drawn0.refl _ | apply Drawn0.step)⟩
            · rw [if_neg c6] at H
              have c6b0 : (a1.toList == (rdOf ByteArray.empty l0 x8_1).toList) = false := beq_eq_false_iff_ne.mpr c6
              have c6b1 : (a1.toList != (rdOf ByteArray.empty l0 x8_1).toList) = true := bne_iff_ne.mpr c6
              have H' := Aside0.mk H
              clear H
              have p101 : 0 ≤ (x8_1 : Int) := of_decide_eq_true (by first | (with_reducible assumption) | assumption)
              have q101 : x8_1 < (l0.length : Int) := of_decide_eq_true (by first | (with_reducible assumption) | assumption)
              obtain ⟨ad101, e101, hx101_0⟩ := Kd.at_string HR0.out x8_1 p101 q101
              cases e101
              replace p101 := eq_true p101
              replace q101 := eq_true q101
              go_wp2
              go_roundg k1
              case measure => have := HK1.out; omega
              case rel => exact ⟨(wrap64 (x8_1 + 1)), (by first | rfl | (simp; done) | (simp [*]; done)), H', ⟨by have := HK1.out; omega⟩, by repeat (first | exact Drawn0.refl _ | apply Drawn0.step)⟩
          · rw [if_neg c5] at H
            exact absurd H (by simp)
        · rw [if_neg c4] at H
          exact absurd H (by simp)
      · rw [if_neg c3] at H
        have c3b0 : decide (x8_1 < (l0.length : Int)) = false := decide_eq_false c3
        clear c3
        obtain rfl := Option.some.inj H
        go_wp2
        go_ret
        exact ⟨by first | rfl | (simp; done) | (simp [*]; done), by repeat (first | exact Drawn0.refl _ | apply Drawn0.step)⟩

/-! ### slices_Contains_string_string -/
def slices_Contains_string_string.f (k : Nat) (l0 : List ByteArray) (a1 : ByteArray) : Option (Bool) := (slices_Index_string_string.f k l0 a1).bind fun t102 => (some (decide (t102 ≥ 0)))
theorem slices_Contains_string_string.mono : ∀ a0 a1 k, LeO (slices_Contains_string_string.f k a0 a1) (slices_Contains_string_string.f (k + 1) a0 a1) := by
  intro a0 a1 k
  unfold slices_Contains_string_string.f
  repeat' first
      | (with_reducible exact slices_Index_string_string.mono _ _ _)
      | (with_reducible exact LeO.refl _)
      | (with_reducible exact LeO.none _)
      | (with_reducible refine LeO.ite ?_ ?_)
      | (with_reducible refine LeO.bind ?_ (fun _ => ?_))
      | exact slices_Index_string_string.mono _ _ _
      | exact LeO.none _
      | refine LeO.ite ?_ ?_
      | refine LeO.bind ?_ (fun _ => ?_)
set_option maxHeartbeats 8000000 in
set_option maxRecDepth 100000 in
theorem slices_Contains_string_string.calls (k : Nat) (A0 : Option Addr) (c0 : Nat) (l0 : List ByteArray) (a1 : ByteArray) (r : Bool) (w : World) (hr0 : Kd.C Kd.string w A0 l0.length l0) (hc0 : l0.length ≤ c0) (h : slices_Contains_string_string.f k l0 a1 = some r) :
    Calls Try.prog 62 #[.slice A0 l0.length c0, .string a1] w fun e w' => e = .returned (.bool r) ∧ Drawn0 w w' := by
  have HR0 := Aside0.mk hr0
  have HC0 := Aside0.mk hc0
  clear hr0 hc0
  have H : ((slices_Index_string_string.f k l0 a1).bind fun t102 => (some (decide (t102 ≥ 0)))) = some r := h
  clear h
  replace H := Option.bind_eq_some_iff.mp H
  obtain ⟨t102, A30, H⟩ := H
  replace H : (some (decide (t102 ≥ 0))) = some r := H
  have A3 := Aside0.mk A30
  clear A30
  obtain rfl := Option.some.inj H
  go_enter Try.func62, Try.ntmps62
  go_wp2_with (first | ((with_reducible refine gate_callee (f := 81) rfl ?_); refine goesL_ (some 7) rfl rfl Try.func81 (by kernel_rfl) rfl #[.slice A0 l0.length c0, .string a1] rfl (by (try simp only [List.map_toArray, List.map_cons, List.map_nil]); first | done | rfl | (simp only [List.length_drop, List.length_take]; rfl)) ?_; (with_reducible refine (slices_Index_string_string.calls k _ _ l0 a1 t102 _ ?side1 ?side2 A3.out).mono ?_); (case side1 => repeat (first | exact HR0.out | (with_reducible refine Kd.C_alloc ?_ _) | (with_reducible refine Kd.C_drewN ?_ _) | (with_reducible refine Kd.C_drew ?_))); (case side2 => exact HC0.out); rintro e w' ⟨rfl, ⟨nd, rfl⟩⟩; refine ⟨_, rfl, ?_⟩))
  go_ret
  exact ⟨by first | rfl | (simp; done) | (simp [*]; done), by repeat (first | exact Drawn0.refl _ | apply Drawn0.step)⟩

/-! ### hop_Has -/
def hop_Has.f (k : Nat) (a0 : ByteArray) : Option (Bool) := (slices_Contains_string_string.f k (([(⟨#[119]⟩ : ByteArray), (⟨#[98]⟩ : ByteArray), (⟨#[101]⟩ : ByteArray), (⟨#[87]⟩ : ByteArray), (⟨#[66]⟩ : ByteArray), (⟨#[69]⟩ : ByteArray)] : List ByteArray)) a0).bind fun t106 => (some t106)
theorem hop_Has.mono : ∀ a0 k, LeO (hop_Has.f k a0) (hop_Has.f (k + 1) a0) := by
  intro a0 k
  unfold hop_Has.f
  repeat' first
      | (with_reducible exact slices_Contains_string_string.mono _ _ _)
      | (with_reducible exact LeO.refl _)
      | (with_reducible exact LeO.none _)
      | (with_reducible refine LeO.ite ?_ ?_)
      | (with_reducible refine LeO.bind ?_ (fun _ => ?_))
      | exact slices_Contains_string_string.mono _ _ _
      | exact LeO.none _
      | refine LeO.ite ?_ ?_
      | refine LeO.bind ?_ (fun _ => ?_)
set_option maxHeartbeats 8000000 in
set_option maxRecDepth 100000 in
theorem hop_Has.calls (k : Nat) (a0 : ByteArray) (r : Bool) (w : World) (h : hop_Has.f k a0 = some r) :
    Calls Try.prog 43 #[.string a0] w fun e w' => e = .returned (.bool r) ∧ Below w.heap.size w w' := by
  have HB := Aside0.mk (Below.refl w.heap.size w)
  have H : ((slices_Contains_string_string.f k (([(⟨#[119]⟩ : ByteArray), (⟨#[98]⟩ : ByteArray), (⟨#[101]⟩ : ByteArray), (⟨#[87]⟩ : ByteArray), (⟨#[66]⟩ : ByteArray), (⟨#[69]⟩ : ByteArray)] : List ByteArray)) a0).bind fun t106 => (some t106)) = some r := h
  clear h
  obtain ⟨y103, hy103⟩ : ∃ y_ : List ByteArray, y_ = (([(⟨#[119]⟩ : ByteArray), (⟨#[98]⟩ : ByteArray), (⟨#[101]⟩ : ByteArray), (⟨#[87]⟩ : ByteArray), (⟨#[66]⟩ : ByteArray), (⟨#[69]⟩ : ByteArray)] : List ByteArray)) := ⟨_, rfl⟩
  replace H : ((slices_Contains_string_string.f k y103 a0).bind fun t106 => (some t106)) = some r := by first | (rw [hy103]; with_reducible exact H) | (have H2_ := (Option.bind_some _ _).symm.trans H; rw [hy103]; with_reducible exact H2_) | (have H2_ := (Option.bind_some _ _).symm.trans H; with_reducible exact H2_) | with_reducible exact H | (rw [hy103]; exact H) | exact H
  have Ny103 := Aside0.mk hy103
  clear hy103
  replace H := Option.bind_eq_some_iff.mp H
  obtain ⟨t106, A20, H⟩ := H
  replace H : (some t106) = some r := H
  have A2 := Aside0.mk A20
  clear A20
  obtain rfl := Option.some.inj H
  go_enter Try.func43, Try.ntmps43
  go_wp2_with (first | ((with_reducible refine gate_dst (N := 3) rfl ?_); refine Kd.R_lit Kd.string _ 9 ?hg (N := 3) ?hd (xs := ([(⟨#[119]⟩ : ByteArray), (⟨#[98]⟩ : ByteArray), (⟨#[101]⟩ : ByteArray), (⟨#[87]⟩ : ByteArray), (⟨#[66]⟩ : ByteArray), (⟨#[69]⟩ : ByteArray)] : List ByteArray)) (inner := [.string (⟨#[119]⟩ : ByteArray), .string (⟨#[98]⟩ : ByteArray), .string (⟨#[101]⟩ : ByteArray), .string (⟨#[87]⟩ : ByteArray), .string (⟨#[66]⟩ : ByteArray), .string (⟨#[69]⟩ : ByteArray)]) (ok := fun _ => True) (okp := fun _ => True) ?hr ?hp (fun _ hk => hk) trivial (Below.refl _ _) (Nat.le_refl _) (by simp) ?_; (case hd => rfl); (case hg => rfl); (case hr => first | (go_simp; done) | (go_simp; rfl)); (case hp => exact (Reps.one (show Kd.M Kd.string _ _ _ (⟨#[119]⟩ : ByteArray) [.string (⟨#[119]⟩ : ByteArray)] from rfl) (Reps.one (show Kd.M Kd.string _ _ _ (⟨#[98]⟩ : ByteArray) [.string (⟨#[98]⟩ : ByteArray)] from rfl) (Reps.one (show Kd.M Kd.string _ _ _ (⟨#[101]⟩ : ByteArray) [.string (⟨#[101]⟩ : ByteArray)] from rfl) (Reps.one (show Kd.M Kd.string _ _ _ (⟨#[87]⟩ : ByteArray) [.string (⟨#[87]⟩ : ByteArray)] from rfl) (Reps.one (show Kd.M Kd.string _ _ _ (⟨#[66]⟩ : ByteArray) [.string (⟨#[66]⟩ : ByteArray)] from rfl) (Reps.one (show Kd.M Kd.string _ _ _ (⟨#[69]⟩ : ByteArray) [.string (⟨#[69]⟩ : ByteArray)] from rfl) (Reps.none _ _)))))))); intro v104 w3 ho4 hb hg_ hnew_; clear hg_ hnew_; (first | rw [← Ny103.out] at ho4 | (simp only [Int.reduceToNat] at ho4; rw [← Ny103.out] at ho4)); have n0_ := Aside0.mk (Kd.R_lower ho4 (below_size (by repeat (first | (with_reducible first | exact HB.out | apply below_alloc | apply pw_below_drewN | apply below_drew1) | exact HB.out)))); have n1_ := Aside0.mk (below_step (by repeat (first | (with_reducible first | exact HB.out | apply below_alloc | apply pw_below_drewN | apply below_drew1) | exact HB.out)) hb); clear HB; have HO105 := n0_; have HB := n1_; clear n0_ n1_; clear hb ho4; obtain ⟨Ao5, co5, eo5⟩ := Kd.R_slice HO105.out; subst eo5) | ((with_reducible refine gate_callee (f := 62) rfl ?_); refine goesL_ (some 5) rfl rfl Try.func62 (by kernel_rfl) rfl #[.slice Ao5 y103.length co5, .string a0] rfl (by (try simp only [List.map_toArray, List.map_cons, List.map_nil]); first | done | rfl | (simp only [List.length_drop, List.length_take]; rfl)) ?_; (with_reducible refine (slices_Contains_string_string.calls k _ _ y103 a0 t106 _ ?side1 ?side2 A2.out).mono ?_); (case side1 => repeat (first | exact (Kd.R_reads' HO105.out).2.2 | (with_reducible refine Kd.C_alloc ?_ _) | (with_reducible refine Kd.C_drewN ?_ _) | (with_reducible refine Kd.C_drew ?_))); (case side2 => exact (Kd.R_reads' HO105.out).2.1); rintro e w' ⟨rfl, ⟨nd, rfl⟩⟩; refine ⟨_, rfl, ?_⟩))
  go_ret
  exact ⟨by first | rfl | (simp [errW_none, errW_some] <;> rfl) | (simp [*, errW_none, errW_some] <;> rfl), by repeat (first | (with_reducible first | exact HB.out | apply below_alloc | apply pw_below_drewN | apply below_drew1) | exact HB.out)⟩

/-! ### cmp_isNaN_int -/
def cmp_isNaN_int.f (a0 : Int) : Option (Bool) := some (a0 != a0)
set_option maxHeartbeats 8000000 in
set_option maxRecDepth 100000 in
theorem cmp_isNaN_int.calls (a0 : Int) (r : Bool) (w : World) (h : cmp_isNaN_int.f a0 = some r) :
    Calls Try.prog 86 #[.int .i64 a0] w fun e w' => e = .returned (.bool r) ∧ Drawn0 w w' := by
  have H : (some (a0 != a0)) = some r := h
  clear h
  obtain rfl := Option.some.inj H
  go_enter Try.func86, Try.ntmps86
  go_wp2
  go_ret
  exact ⟨by first | rfl | (simp; done) | (simp [*]; done), by repeat (first | exact Drawn0.refl _ | apply Drawn0.step)⟩

/-! ### cmp_Less_int -/
def cmp_Less_int.f (a0 : Int) (a1 : Int) : Option (Bool) := (cmp_isNaN_int.f a0).bind fun t107 => (if t107 = true then ((cmp_isNaN_int.f a1).bind fun t108 => (if t108 = true then (some (decide (a0 < a1))) else (some true))) else (some (decide (a0 < a1))))
set_option maxHeartbeats 8000000 in
set_option maxRecDepth 100000 in
theorem cmp_Less_int.calls (a0 : Int) (a1 : Int) (r : Bool) (w : World) (h : cmp_Less_int.f a0 a1 = some r) :
    Calls Try.prog 72 #[.int .i64 a0, .int .i64 a1] w fun e w' => e = .returned (.bool r) ∧ Drawn0 w w' := by
  have H : ((cmp_isNaN_int.f a0).bind fun t107 => (if t107 = true then ((cmp_isNaN_int.f a1).bind fun t108 => (if t108 = true then (some (decide (a0 < a1))) else (some true))) else (some (decide (a0 < a1))))) = some r := h
  clear h
  replace H := Option.bind_eq_some_iff.mp H
  obtain ⟨t107, A30, H⟩ := H
  replace H : (if t107 = true then ((cmp_isNaN_int.f a1).bind fun t108 => (if t108 = true then (some (decide (a0 < a1))) else (some true))) else (some (decide (a0 < a1)))) = some r := H
  have A3 := Aside0.mk A30
  clear A30
  by_cases c4 : t107 = true
  · subst c4
    have H1 : ((cmp_isNaN_int.f a1).bind fun t108 => (if t108 = true then (some (decide (a0 < a1))) else (some true))) = some r := by rw [if_pos rfl] at H; exact H
    clear H
    have H := H1
    clear H1
    replace H := Option.bind_eq_some_iff.mp H
    obtain ⟨t108, A50, H⟩ := H
    replace H : (if t108 = true then (some (decide (a0 < a1))) else (some true)) = some r := H
    have A5 := Aside0.mk A50
    clear A50
    by_cases c6 : t108 = true
    · subst c6
      have H1 : (some (decide (a0 < a1))) = some r := by rw [if_pos rfl] at H; exact H
      clear H
      have H := H1
      clear H1
      obtain rfl := Option.some.inj H
      go_enter Try.func72, Try.ntmps72
      go_wp2_with (first | ((with_reducible refine gate_callee (f := 86) rfl ?_); refine goesL_ (some 6) rfl rfl Try.func86 (by kernel_rfl) rfl #[.int .i64 a0] rfl (by (try simp only [List.map_toArray, List.map_cons, List.map_nil]); first | done | rfl | (simp only [List.length_drop, List.length_take]; rfl)) ?_; (with_reducible refine (cmp_isNaN_int.calls a0 true _ A3.out).mono ?_); rintro e w' ⟨rfl, ⟨nd, rfl⟩⟩; refine ⟨_, rfl, ?_⟩) | (go_at_call 86; (with_reducible refine (cmp_isNaN_int.calls a1 true _ A5.out).mono ?_); rintro e w' ⟨rfl, ⟨nd, rfl⟩⟩))
      go_ret
      exact ⟨by first | rfl | (simp; done) | (simp [*]; done), by repeat (first | exact Drawn0.refl _ | apply Drawn0.step)⟩
    · replace c6 := Bool.eq_false_iff.mpr c6
      subst c6
      have H1 : (some true) = some r := by rw [if_neg (show ¬ (false = true) by decide)] at H; exact H
      clear H
      have H := H1
      clear H1
      obtain rfl := Option.some.inj H
      go_enter Try.func72, Try.ntmps72
      go_wp2_with (first | ((with_reducible refine gate_callee (f := 86) rfl ?_); refine goesL_ (some 6) rfl rfl Try.func86 (by kernel_rfl) rfl #[.int .i64 a0] rfl (by (try simp only [List.map_toArray, List.map_cons, List.map_nil]); first | done | rfl | (simp only [List.length_drop, List.length_take]; rfl)) ?_; (with_reducible refine (cmp_isNaN_int.calls a0 true _ A3.out).mono ?_); rintro e w' ⟨rfl, ⟨nd, rfl⟩⟩; refine ⟨_, rfl, ?_⟩) | (go_at_call 86; (with_reducible refine (cmp_isNaN_int.calls a1 false _ A5.out).mono ?_); rintro e w' ⟨rfl, ⟨nd, rfl⟩⟩))
      go_ret
      exact ⟨by first | rfl | (simp; done) | (simp [*]; done), by repeat (first | exact Drawn0.refl _ | apply Drawn0.step)⟩
  · replace c4 := Bool.eq_false_iff.mpr c4
    subst c4
    have H1 : (some (decide (a0 < a1))) = some r := by rw [if_neg (show ¬ (false = true) by decide)] at H; exact H
    clear H
    have H := H1
    clear H1
    obtain rfl := Option.some.inj H
    go_enter Try.func72, Try.ntmps72
    go_wp2_with (first | ((with_reducible refine gate_callee (f := 86) rfl ?_); refine goesL_ (some 6) rfl rfl Try.func86 (by kernel_rfl) rfl #[.int .i64 a0] rfl (by (try simp only [List.map_toArray, List.map_cons, List.map_nil]); first | done | rfl | (simp only [List.length_drop, List.length_take]; rfl)) ?_; (with_reducible refine (cmp_isNaN_int.calls a0 false _ A3.out).mono ?_); rintro e w' ⟨rfl, ⟨nd, rfl⟩⟩; refine ⟨_, rfl, ?_⟩))
    go_ret
    exact ⟨by first | rfl | (simp; done) | (simp [*]; done), by repeat (first | exact Drawn0.refl _ | apply Drawn0.step)⟩

/-! ### slices_isNaN_int -/
def slices_isNaN_int.f (a0 : Int) : Option (Bool) := some (a0 != a0)
set_option maxHeartbeats 8000000 in
set_option maxRecDepth 100000 in
theorem slices_isNaN_int.calls (a0 : Int) (r : Bool) (w : World) (h : slices_isNaN_int.f a0 = some r) :
    Calls Try.prog 73 #[.int .i64 a0] w fun e w' => e = .returned (.bool r) ∧ Drawn0 w w' := by
  have H : (some (a0 != a0)) = some r := h
  clear h
  obtain rfl := Option.some.inj H
  go_enter Try.func73, Try.ntmps73
  go_wp2
  go_ret
  exact ⟨by first | rfl | (simp; done) | (simp [*]; done), by repeat (first | exact Drawn0.refl _ | apply Drawn0.step)⟩

/-! ### slices_BinarySearch_int_int -/
def slices_BinarySearch_int_int.l0 : Nat → List Int → Int → Int → Int → Int → Option (Int × Bool)
  | 0, _, _, _, _, _ => none
  | k + 1, x0, x1, x6, x7, x8 => if x7 < x8 then (if 0 ≤ (wrap64 ((IntKind.u64.wrap (wrap64 (x7 + x8))) / 2)) then (if (wrap64 ((IntKind.u64.wrap (wrap64 (x7 + x8))) / 2)) < (x0.length : Int) then ((cmp_Less_int.f (rd x0 (wrap64 ((IntKind.u64.wrap (wrap64 (x7 + x8))) / 2))) x1).bind fun t110 => (if t110 = true then (slices_BinarySearch_int_int.l0 k x0 x1 x6 (wrap64 ((wrap64 ((IntKind.u64.wrap (wrap64 (x7 + x8))) / 2)) + 1)) x8) else (slices_BinarySearch_int_int.l0 k x0 x1 x6 x7 (wrap64 ((IntKind.u64.wrap (wrap64 (x7 + x8))) / 2))))) else (none)) else (none)) else (if x7 < x6 then (if 0 ≤ x7 then (if x7 < (x0.length : Int) then (if (rd x0 x7) = x1 then (some (x7, true)) else ((slices_isNaN_int.f (rd x0 x7)).bind fun t113 => (if t113 = true then ((slices_isNaN_int.f x1).bind fun t114 => (some (x7, t114))) else (some (x7, false))))) else (none)) else (none)) else (some (x7, false)))
def slices_BinarySearch_int_int.f (k : Nat) (l0 : List Int) (a1 : Int) : Option (Int × Bool) := slices_BinarySearch_int_int.l0 k l0 a1 (l0.length : Int) 0 (l0.length : Int)
theorem slices_BinarySearch_int_int.mono_l : ∀ k, (∀ y0 y1 y2 y3 y4, LeO (slices_BinarySearch_int_int.l0 k y0 y1 y2 y3 y4) (slices_BinarySearch_int_int.l0 (k + 1) y0 y1 y2 y3 y4))
  | 0 => fun _ _ _ _ _ r h => by simp [slices_BinarySearch_int_int.l0] at h
  | k + 1 => by
    have ih0 := slices_BinarySearch_int_int.mono_l k
    · intro y0 y1 y2 y3 y4
      unfold slices_BinarySearch_int_int.l0
      repeat' first
      | (with_reducible exact ih0 _ _ _ _ _)
      | (with_reducible exact LeO.refl _)
      | (with_reducible exact LeO.none _)
      | (with_reducible refine LeO.ite ?_ ?_)
      | (with_reducible refine LeO.bind ?_ (fun _ => ?_))
      | exact ih0 _ _ _ _ _
      | exact LeO.none _
      | refine LeO.ite ?_ ?_
      | refine LeO.bind ?_ (fun _ => ?_)
theorem slices_BinarySearch_int_int.mono : ∀ a0 a1 k, LeO (slices_BinarySearch_int_int.f k a0 a1) (slices_BinarySearch_int_int.f (k + 1) a0 a1) := by
  intro a0 a1 k
  have ih0 := slices_BinarySearch_int_int.mono_l k
  unfold slices_BinarySearch_int_int.f
  repeat' first
      | (with_reducible exact ih0 _ _ _ _ _)
      | (with_reducible exact LeO.refl _)
      | (with_reducible exact LeO.none _)
      | (with_reducible refine LeO.ite ?_ ?_)
      | (with_reducible refine LeO.bind ?_ (fun _ => ?_))
      | exact ih0 _ _ _ _ _
      | exact LeO.none _
      | refine LeO.ite ?_ ?_
      | refine LeO.bind ?_ (fun _ => ?_)
set_option maxHeartbeats 8000000 in
set_option maxRecDepth 100000 in
theorem slices_BinarySearch_int_int.calls (k : Nat) (A0 : Option Addr) (c0 : Nat) (l0 : List Int) (a1 : Int) (r1 : Int) (r2 : Bool) (w : World) (hr0 : Kd.C (Kd.int .i64) w A0 l0.length l0) (hc0 : l0.length ≤ c0) (h : slices_BinarySearch_int_int.f k l0 a1 = some (r1, r2)) :
    Calls Try.prog 55 #[.slice A0 l0.length c0, .int .i64 a1] w fun e w' => e = .returned (.tuple #[.int .i64 r1, .bool r2]) ∧ Drawn0 w w' := by
  have HR0 := Aside0.mk hr0
  have HC0 := Aside0.mk hc0
  clear hr0 hc0
  have H : (slices_BinarySearch_int_int.l0 k l0 a1 (l0.length : Int) 0 (l0.length : Int)) = some (r1, r2) := h
  clear h
  have H' := Aside0.mk H
  clear H
  go_enter Try.func55, Try.ntmps55
  go_wp2
  go_loopg [7, 8] k (fun kq v7 v8 w' => ∃ (x7_1 : Int) (x8_1 : Int), v7 = .int .i64 x7_1 ∧ v8 = .int .i64 x8_1 ∧ Aside0 (slices_BinarySearch_int_int.l0 kq l0 a1 (l0.length : Int) x7_1 x8_1 = some (r1, r2)) ∧ Aside0 (kq ≤ k) ∧ Drawn0 w w')
  case atStart => exact ⟨(0), ((l0.length : Int)), (by first | rfl | (simp; done) | (simp [*]; done)), (by first | rfl | (simp; done) | (simp [*]; done)), H', ⟨Nat.le_refl _⟩, by repeat (first | exact Drawn0.refl _ | apply Drawn0.step)⟩
  case round => as_aux_lemma =>
    clear H'
    try clear p2
    obtain ⟨x7_1, x8_1, rfl, rfl, HA, HK1, ⟨m1, rfl⟩⟩ := hrel
    cases gk with
    | zero => exact absurd HA.out (by simp [slices_BinarySearch_int_int.l0])
    | succ k1 =>
      have H := HA.out
      clear HA
      simp only [slices_BinarySearch_int_int.l0] at H
      by_cases c3 : x7_1 < x8_1
      · rw [if_pos c3] at H
        have c3b0 : decide (x7_1 < x8_1) = true := decide_eq_true c3
        clear c3
        obtain ⟨ji4, hji4⟩ : ∃ j_ : Int, (wrap64 ((IntKind.u64.wrap (wrap64 (x7_1 + x8_1))) / 2)) = j_ := ⟨_, rfl⟩
        replace H : (if 0 ≤ (ji4) then (if (ji4) < (l0.length : Int) then ((cmp_Less_int.f (rd l0 (ji4)) a1).bind fun t110 => (if t110 = true then (slices_BinarySearch_int_int.l0 k1 l0 a1 (l0.length : Int) (wrap64 ((ji4) + 1)) x8_1) else (slices_BinarySearch_int_int.l0 k1 l0 a1 (l0.length : Int) x7_1 ji4))) else (none)) else (none)) = some (r1, r2) := by first | (rw [hji4] at H; exact H) | (simp only [hji4] at H ⊢; exact H)
        have hji4w : (IntKind.i64.wrap ((IntKind.u64.wrap (wrap64 (x7_1 + x8_1))) / 2)) = ji4 := (i64_w _).trans hji4
        by_cases c5 : 0 ≤ (ji4)
        · rw [if_pos c5] at H
          have c5b0 : decide (0 ≤ (ji4)) = true := decide_eq_true c5
          clear c5
          by_cases c6 : (ji4) < (l0.length : Int)
          · rw [if_pos c6] at H
            have c6b0 : decide ((ji4) < (l0.length : Int)) = true := decide_eq_true c6
            clear c6
            replace H := Option.bind_eq_some_iff.mp H
            obtain ⟨t110, A70, H⟩ := H
            replace H : (if t110 = true then (slices_BinarySearch_int_int.l0 k1 l0 a1 (l0.length : Int) (wrap64 ((ji4) + 1)) x8_1) else (slices_BinarySearch_int_int.l0 k1 l0 a1 (l0.length : Int) x7_1 ji4)) = some (r1, r2) := H
            have A7 := Aside0.mk A70
            clear A70
            by_cases c8 : t110 = true
            · subst c8
              have H1 : (slices_BinarySearch_int_int.l0 k1 l0 a1 (l0.length : Int) (wrap64 ((ji4) + 1)) x8_1) = some (r1, r2) := by rw [if_pos rfl] at H; exact H
              clear H
              have H := H1
              clear H1
              have H' := Aside0.mk H
              clear H
              have p109 : 0 ≤ ((ji4) : Int) := of_decide_eq_true (by first | (with_reducible assumption) | assumption)
              have q109 : (ji4) < (l0.length : Int) := of_decide_eq_true (by first | (with_reducible assumption) | assumption)
              obtain ⟨ad109, e109, hx109_0⟩ := Kd.at_int HR0.out (ji4) p109 q109
              cases e109
              replace p109 := eq_true p109
              replace q109 := eq_true q109
              go_wp2_with (first | ((with_reducible refine gate_callee (f := 72) rfl ?_); refine goesL_ (some 27) rfl rfl Try.func72 (by kernel_rfl) rfl #[.int .i64 (rd l0 (ji4)), .int .i64 a1] rfl (by (try simp only [List.map_toArray, List.map_cons, List.map_nil]); first | done | (simp only [hji4]; rfl) | rfl | (simp only [List.length_drop, List.length_take]; rfl)) ?_; (with_reducible refine (cmp_Less_int.calls (rd l0 (ji4)) a1 true _ A7.out).mono ?_); rintro e w' ⟨rfl, ⟨nd, rfl⟩⟩; refine ⟨_, rfl, ?_⟩))
              go_roundg k1
              case measure => have := HK1.out; omega
              case rel => exact ⟨(wrap64 ((ji4) + 1)), (x8_1), (by first | rfl | (simp; done) | (simp only [← hji4] <;> (first | rfl | simp)) | (simp [*]; done)), (by first | rfl | (simp; done) | (simp [*]; done)), H', ⟨by have := HK1.out; omega⟩, by repeat (first | exact Drawn0.refl _ | apply Drawn0.step)⟩
            · replace c8 := Bool.eq_false_iff.mpr c8
              subst c8
              have H1 : (slices_BinarySearch_int_int.l0 k1 l0 a1 (l0.length : Int) x7_1 ji4) = some (r1, r2) := by rw [if_neg (show ¬ (false = true) by decide)] at H; exact H
              clear H
              have H := H1
              clear H1
              have H' := Aside0.mk H
              clear H
              have p109 : 0 ≤ ((ji4) : Int) := of_decide_eq_true (by first | (with_reducible assumption) | assumption)
              have q109 : (ji4) < (l0.length : Int) := of_decide_eq_true (by first | (with_reducible assumption) | assumption)
              obtain ⟨ad109, e109, hx109_0⟩ := Kd.at_int HR0.out (ji4) p109 q109
              cases e109
              replace p109 := eq_true p109
              replace q109 := eq_true q109
              go_wp2_with (first | ((with_reducible refine gate_callee (f := 72) rfl ?_); refine goesL_ (some 27) rfl rfl Try.func72 (by kernel_rfl) rfl #[.int .i64 (rd l0 (ji4)), .int .i64 a1] rfl (by (try simp only [List.map_toArray, List.map_cons, List.map_nil]); first | done | (simp only [hji4]; rfl) | rfl | (simp only [List.length_drop, List.length_take]; rfl)) ?_; (with_reducible refine (cmp_Less_int.calls (rd l0 (ji4)) a1 false _ A7.out).mono ?_); rintro e w' ⟨rfl, ⟨nd, rfl⟩⟩; refine ⟨_, rfl, ?_⟩))
              go_roundg k1
              case measure => have := HK1.out; omega
              case rel => exact ⟨(x7_1), (ji4), (by first | rfl | (simp; done) | (simp [*]; done)), (by first | rfl | (simp; done) | (simp only [← hji4] <;> (first | rfl | simp)) | (simp [*]; done)), H', ⟨by have := HK1.out; omega⟩, by repeat (first | exact Drawn0.refl _ | apply Drawn0.step)⟩
          · rw [if_neg c6] at H
            exact absurd H (by simp)
        · rw [if_neg c5] at H
          exact absurd H (by simp)
      · rw [if_neg c3] at H
        have c3b0 : decide (x7_1 < x8_1) = false := decide_eq_false c3
        clear c3
        by_cases c9 : x7_1 < (l0.length : Int)
        · rw [if_pos c9] at H
          have c9b0 : decide (x7_1 < (l0.length : Int)) = true := decide_eq_true c9
          clear c9
          by_cases c10 : 0 ≤ x7_1
          · rw [if_pos c10] at H
            have c10b0 : decide (0 ≤ x7_1) = true := decide_eq_true c10
            clear c10
            by_cases c11 : x7_1 < (l0.length : Int)
            · rw [if_pos c11] at H
              have c11b0 : decide (x7_1 < (l0.length : Int)) = true := decide_eq_true c11
              clear c11
              by_cases c12 : (rd l0 x7_1) = a1
              · rw [if_pos c12] at H
                have c12b0 : ((rd l0 x7_1) == a1) = true := beq_iff_eq.mpr c12
                have c12b1 : ((rd l0 x7_1) != a1) = false := bne_eq_false_iff_eq.mpr c12
                clear c12
                simp only [Option.some.injEq, Prod.mk.injEq] at H
                obtain ⟨rfl, rfl⟩ := H
                have p111 : 0 ≤ (x7_1 : Int) := of_decide_eq_true (by first | (with_reducible assumption) | assumption)
                have q111 : x7_1 < (l0.length : Int) := of_decide_eq_true (by first | (with_reducible assumption) | assumption)
                obtain ⟨ad111, e111, hx111_0⟩ := Kd.at_int HR0.out x7_1 p111 q111
                cases e111
                replace p111 := eq_true p111
                replace q111 := eq_true q111
                go_wp2
                go_ret2
                exact ⟨by first | rfl | (simp; done) | (simp [*]; done), by repeat (first | exact Drawn0.refl _ | apply Drawn0.step)⟩
              · rw [if_neg c12] at H
                have c12b0 : ((rd l0 x7_1) == a1) = false := beq_eq_false_iff_ne.mpr c12
                have c12b1 : ((rd l0 x7_1) != a1) = true := bne_iff_ne.mpr c12
                replace H := Option.bind_eq_some_iff.mp H
                obtain ⟨t113, A130, H⟩ := H
                replace H : (if t113 = true then ((slices_isNaN_int.f a1).bind fun t114 => (some (x7_1, t114))) else (some (x7_1, false))) = some (r1, r2) := H
                have A13 := Aside0.mk A130
                clear A130
                by_cases c14 : t113 = true
                · subst c14
                  have H1 : ((slices_isNaN_int.f a1).bind fun t114 => (some (x7_1, t114))) = some (r1, r2) := by rw [if_pos rfl] at H; exact H
                  clear H
                  have H := H1
                  clear H1
                  replace H := Option.bind_eq_some_iff.mp H
                  obtain ⟨t114, A150, H⟩ := H
                  replace H : (some (x7_1, t114)) = some (r1, r2) := H
                  have A15 := Aside0.mk A150
                  clear A150
                  simp only [Option.some.injEq, Prod.mk.injEq] at H
                  obtain ⟨rfl, rfl⟩ := H
                  have p111 : 0 ≤ (x7_1 : Int) := of_decide_eq_true (by first | (with_reducible assumption) | assumption)
                  have q111 : x7_1 < (l0.length : Int) := of_decide_eq_true (by first | (with_reducible assumption) | assumption)
                  obtain ⟨ad111, e111, hx111_0⟩ := Kd.at_int HR0.out x7_1 p111 q111
                  cases e111
                  replace p111 := eq_true p111
                  replace q111 := eq_true q111
                  have p112 : 0 ≤ (x7_1 : Int) := of_decide_eq_true (by first | (with_reducible assumption) | assumption)
                  have q112 : x7_1 < (l0.length : Int) := of_decide_eq_true (by first | (with_reducible assumption) | assumption)
                  obtain ⟨ad112, e112, hx112_0⟩ := Kd.at_int HR0.out x7_1 p112 q112
                  obtain rfl : ad111 = ad112 := (by injection e112)
                  replace p112 := eq_true p112
                  replace q112 := eq_true q112
                  go_wp2_with (first | (go_at_call 73; (with_reducible refine (slices_isNaN_int.calls (rd l0 x7_1) true _ A13.out).mono ?_); rintro e w' ⟨rfl, ⟨nd, rfl⟩⟩) | (go_at_call 73; (with_reducible refine (slices_isNaN_int.calls a1 t114 _ A15.out).mono ?_); rintro e w' ⟨rfl, ⟨nd, rfl⟩⟩))
                  go_ret2
                  exact ⟨by first | rfl | (simp; done) | (simp [*]; done), by repeat (first | exact Drawn0.refl _ | apply Drawn0.step)⟩
                · replace c14 := Bool.eq_false_iff.mpr c14
                  subst c14
                  have H1 : (some (x7_1, false)) = some (r1, r2) := by rw [if_neg (show ¬ (false = true) by decide)] at H; exact H
                  clear H
                  have H := H1
                  clear H1
                  simp only [Option.some.injEq, Prod.mk.injEq] at H
                  obtain ⟨rfl, rfl⟩ := H
                  have p111 : 0 ≤ (x7_1 : Int) := of_decide_eq_true (by first | (with_reducible assumption) | assumption)
                  have q111 : x7_1 < (l0.length : Int) := of_decide_eq_true (by first | (with_reducible assumption) | assumption)
                  obtain ⟨ad111, e111, hx111_0⟩ := Kd.at_int HR0.out x7_1 p111 q111
                  cases e111
                  replace p111 := eq_true p111
                  replace q111 := eq_true q111
                  have p112 : 0 ≤ (x7_1 : Int) := of_decide_eq_true (by first | (with_reducible assumption) | assumption)
                  have q112 : x7_1 < (l0.length : Int) := of_decide_eq_true (by first | (with_reducible assumption) | assumption)
                  obtain ⟨ad112, e112, hx112_0⟩ := Kd.at_int HR0.out x7_1 p112 q112
                  obtain rfl : ad111 = ad112 := (by injection e112)
                  replace p112 := eq_true p112
                  replace q112 := eq_true q112
                  go_wp2_with (first | (go_at_call 73; (with_reducible refine (slices_isNaN_int.calls (rd l0 x7_1) false _ A13.out).mono ?_); rintro e w' ⟨rfl, ⟨nd, rfl⟩⟩))
                  go_ret2
                  exact ⟨by first | rfl | (simp; done) | (simp [*]; done), by repeat (first | exact Drawn0.refl _ | apply Drawn0.step)⟩
            · rw [if_neg c11] at H
              exact absurd H (by simp)
          · rw [if_neg c10] at H
            exact absurd H (by simp)
        · rw [if_neg c9] at H
          have c9b0 : decide (x7_1 < (l0.length : Int)) = false := decide_eq_false c9
          clear c9
          simp only [Option.some.injEq, Prod.mk.injEq] at H
          obtain ⟨rfl, rfl⟩ := H
          go_wp2
          go_ret2
          exact ⟨by first | rfl | (simp; done) | (simp [*]; done), by repeat (first | exact Drawn0.refl _ | apply Drawn0.step)⟩

/-! ### hop_behind -/
def hop_behind.f (k : Nat) (l0 : List Int) (a1 : Int) : Option (Int) := (slices_BinarySearch_int_int.f k l0 (wrap64 (a1 + 1))).bind fun bt115 => (some bt115.1)
theorem hop_behind.mono : ∀ a0 a1 k, LeO (hop_behind.f k a0 a1) (hop_behind.f (k + 1) a0 a1) := by
  intro a0 a1 k
  unfold hop_behind.f
  repeat' first
      | (with_reducible exact slices_BinarySearch_int_int.mono _ _ _)
      | (with_reducible exact LeO.refl _)
      | (with_reducible exact LeO.none _)
      | (with_reducible refine LeO.ite ?_ ?_)
      | (with_reducible refine LeO.bind ?_ (fun _ => ?_))
      | exact slices_BinarySearch_int_int.mono _ _ _
      | exact LeO.none _
      | refine LeO.ite ?_ ?_
      | refine LeO.bind ?_ (fun _ => ?_)
set_option maxHeartbeats 8000000 in
set_option maxRecDepth 100000 in
theorem hop_behind.calls (k : Nat) (A0 : Option Addr) (c0 : Nat) (l0 : List Int) (a1 : Int) (r : Int) (w : World) (hr0 : Kd.C (Kd.int .i64) w A0 l0.length l0) (hc0 : l0.length ≤ c0) (h : hop_behind.f k l0 a1 = some r) :
    Calls Try.prog 60 #[.slice A0 l0.length c0, .int .i64 a1] w fun e w' => e = .returned (.int .i64 r) ∧ Drawn0 w w' := by
  have HR0 := Aside0.mk hr0
  have HC0 := Aside0.mk hc0
  clear hr0 hc0
  have H : ((slices_BinarySearch_int_int.f k l0 (wrap64 (a1 + 1))).bind fun bt115 => (some bt115.1)) = some r := h
  clear h
  replace H := Option.bind_eq_some_iff.mp H
  obtain ⟨⟨t115, t116⟩, A30, H⟩ := H
  replace H : (some t115) = some r := H
  have A3 := Aside0.mk A30
  clear A30
  obtain rfl := Option.some.inj H
  go_enter Try.func60, Try.ntmps60
  go_wp2_with (first | ((with_reducible refine gate_callee (f := 55) rfl ?_); refine goesL_ (some 11) rfl rfl Try.func55 (by kernel_rfl) rfl #[.slice A0 l0.length c0, .int .i64 (wrap64 (a1 + 1))] rfl (by (try simp only [List.map_toArray, List.map_cons, List.map_nil]); first | done | rfl | (simp only [List.length_drop, List.length_take]; rfl)) ?_; (with_reducible refine (slices_BinarySearch_int_int.calls k _ _ l0 (wrap64 (a1 + 1)) t115 t116 _ ?side1 ?side2 A3.out).mono ?_); (case side1 => repeat (first | exact HR0.out | (with_reducible refine Kd.C_alloc ?_ _) | (with_reducible refine Kd.C_drewN ?_ _) | (with_reducible refine Kd.C_drew ?_))); (case side2 => exact HC0.out); rintro e w' ⟨rfl, ⟨nd, rfl⟩⟩; refine ⟨_, rfl, ?_⟩))
  go_ret
  exact ⟨by first | rfl | (simp; done) | (simp [*]; done), by repeat (first | exact Drawn0.refl _ | apply Drawn0.step)⟩

/-! ### hop_ahead -/
def hop_ahead.f (k : Nat) (l0 : List Int) (a1 : Int) : Option (Int) := (slices_BinarySearch_int_int.f k l0 a1).bind fun bt117 => (some bt117.1)
theorem hop_ahead.mono : ∀ a0 a1 k, LeO (hop_ahead.f k a0 a1) (hop_ahead.f (k + 1) a0 a1) := by
  intro a0 a1 k
  unfold hop_ahead.f
  repeat' first
      | (with_reducible exact slices_BinarySearch_int_int.mono _ _ _)
      | (with_reducible exact LeO.refl _)
      | (with_reducible exact LeO.none _)
      | (with_reducible refine LeO.ite ?_ ?_)
      | (with_reducible refine LeO.bind ?_ (fun _ => ?_))
      | exact slices_BinarySearch_int_int.mono _ _ _
      | exact LeO.none _
      | refine LeO.ite ?_ ?_
      | refine LeO.bind ?_ (fun _ => ?_)
set_option maxHeartbeats 8000000 in
set_option maxRecDepth 100000 in
theorem hop_ahead.calls (k : Nat) (A0 : Option Addr) (c0 : Nat) (l0 : List Int) (a1 : Int) (r : Int) (w : World) (hr0 : Kd.C (Kd.int .i64) w A0 l0.length l0) (hc0 : l0.length ≤ c0) (h : hop_ahead.f k l0 a1 = some r) :
    Calls Try.prog 61 #[.slice A0 l0.length c0, .int .i64 a1] w fun e w' => e = .returned (.int .i64 r) ∧ Drawn0 w w' := by
  have HR0 := Aside0.mk hr0
  have HC0 := Aside0.mk hc0
  clear hr0 hc0
  have H : ((slices_BinarySearch_int_int.f k l0 a1).bind fun bt117 => (some bt117.1)) = some r := h
  clear h
  replace H := Option.bind_eq_some_iff.mp H
  obtain ⟨⟨t117, t118⟩, A30, H⟩ := H
  replace H : (some t117) = some r := H
  have A3 := Aside0.mk A30
  clear A30
  obtain rfl := Option.some.inj H
  go_enter Try.func61, Try.ntmps61
  go_wp2_with (first | ((with_reducible refine gate_callee (f := 55) rfl ?_); refine goesL_ (some 10) rfl rfl Try.func55 (by kernel_rfl) rfl #[.slice A0 l0.length c0, .int .i64 a1] rfl (by (try simp only [List.map_toArray, List.map_cons, List.map_nil]); first | done | rfl | (simp only [List.length_drop, List.length_take]; rfl)) ?_; (with_reducible refine (slices_BinarySearch_int_int.calls k _ _ l0 a1 t117 t118 _ ?side1 ?side2 A3.out).mono ?_); (case side1 => repeat (first | exact HR0.out | (with_reducible refine Kd.C_alloc ?_ _) | (with_reducible refine Kd.C_drewN ?_ _) | (with_reducible refine Kd.C_drew ?_))); (case side2 => exact HC0.out); rintro e w' ⟨rfl, ⟨nd, rfl⟩⟩; refine ⟨_, rfl, ?_⟩))
  go_ret
  exact ⟨by first | rfl | (simp; done) | (simp [*]; done), by repeat (first | exact Drawn0.refl _ | apply Drawn0.step)⟩

end Go.Proofs.Ythjlhbblflmajaa.QX
/- slices.BinarySearch over rising whole numbers. -/
namespace Go.Proofs.Ythjlhbblflmajaa
open Go.RowKit
set_option linter.unusedVariables false
set_option linter.unusedSimpArgs false
namespace HX
open Go.RowKit Go.Proofs.Ythjlhbblflmajaa.QX Go.Proofs.YthjlhbblflmajaaW.PrintWords Go.Proofs.YthjlhbblflmajaaW.PrintMore

theorem mid_eq {i j : Int} (h0 : 0 ≤ i) (h1 : i ≤ j) (h2 : j ≤ 4611686018427387903) : wrap64 ((IntKind.u64.wrap (wrap64 (i + j))) / 2) = (i + j) / 2 := by
  rw [w64 (n := i + j) (by omega) (by omega), IntWalk.u64_in _ (by omega), w64 (by omega) (by omega)]
theorem less_ev (a b : Int) : cmp_Less_int.f a b = some (decide (a < b)) := by
  unfold cmp_Less_int.f cmp_isNaN_int.f
  simp
theorem bs_l0 {xs : List Int} {t : Int} (hn : xs.length ≤ 1099511627776) (hs : xs.Pairwise (· < ·)) : ∀ (d i j : Nat), j - i ≤ d → i ≤ j → j ≤ xs.length → (∀ k (hk : k < xs.length), k < i → xs[k] < t) → (∀ k (hk : k < xs.length), j ≤ k → t ≤ xs[k]) →
    Ev (fun k => slices_BinarySearch_int_int.l0 k xs t xs.length i j) ((lessN xs t : Int), decide (t ∈ xs)) := by
  intro d
  induction d with
  | zero =>
    intro i j hd hij hj h1 h2
    have : i = j := by omega
    subst this
    have hl := lessN_at hj h1 h2
    refine Ev.step (fun _ => rfl) (Ev.neg (by omega) ?_)
    by_cases hlt : i < xs.length
    · refine Ev.pos (by omega) (Ev.pos (by omega) (Ev.pos (by omega) ?_))
      rw [rd_nat xs i hlt, hl]
      have hi := h2 i hlt (Nat.le_refl _)
      by_cases he : xs[i] = t
      · refine Ev.pos he (Ev.ret ?_)
        rw [decide_eq_true (by rw [← he]; exact List.getElem_mem _)]
      · refine Ev.neg he ?_
        unfold slices_isNaN_int.f
        simp only [bne_self_eq_false, Option.bind_some, Bool.false_eq_true, if_false]
        refine Ev.ret ?_
        rw [decide_eq_false]
        intro hm
        obtain ⟨k, hk, hk2⟩ := List.getElem_of_mem hm
        rcases Nat.lt_trichotomy k i with h | h | h
        · have := h1 k hk h; omega
        · subst h; exact he hk2
        · have := List.pairwise_iff_getElem.1 hs i k hlt hk h; omega
    · refine Ev.neg (by omega) (Ev.ret ?_)
      rw [hl, decide_eq_false]
      intro hm
      obtain ⟨k, hk, hk2⟩ := List.getElem_of_mem hm
      have := h1 k hk (by omega); omega
  | succ d ih =>
    intro i j hd hij hj h1 h2
    by_cases he : i = j
    · exact ih i j (by omega) hij hj h1 h2
    · refine Ev.step (fun _ => rfl) (Ev.pos (by omega) ?_)
      rw [mid_eq (by omega) (by omega) (by omega)]
      obtain ⟨m, hm⟩ : ∃ m : Nat, ((i : Int) + j) / 2 = m := ⟨((i + j) / 2 : Nat), by omega⟩
      have hm1 : i ≤ m := by omega
      have hm2 : m < j := by omega
      rw [hm]
      refine Ev.pos (by omega) (Ev.pos (by omega) ?_)
      rw [less_ev, rd_nat xs m (by omega), w64 (n := (m : Int) + 1) (by omega) (by omega)]
      simp only [Option.bind_some, decide_eq_true_eq]
      refine Ev.ite (fun hc => ?_) (fun hc => ?_)
      · refine ih (m + 1) j (by omega) (by omega) hj (fun k hk hk2 => ?_) h2
        rcases Nat.lt_or_eq_of_le (Nat.le_of_lt_succ hk2) with h | h
        · have := List.pairwise_iff_getElem.1 hs k m hk (by omega) h; omega
        · subst h; exact hc
      · refine ih i m (by omega) hm1 (by omega) h1 (fun k hk hk2 => ?_)
        rcases Nat.lt_or_eq_of_le hk2 with h | h
        · have := List.pairwise_iff_getElem.1 hs m k (by omega) hk h; omega
        · subst h; omega
theorem bs_ev {xs : List Int} (t : Int) (hn : xs.length ≤ 1099511627776) (hs : xs.Pairwise (· < ·)) : Ev (fun k => slices_BinarySearch_int_int.f k xs t) ((lessN xs t : Int), decide (t ∈ xs)) := by
  unfold slices_BinarySearch_int_int.f
  exact bs_l0 hn hs xs.length 0 xs.length (by omega) (by omega) (Nat.le_refl _) (fun k _ h => by omega) (fun k hk h => by omega)
end HX
end Go.Proofs.Ythjlhbblflmajaa
-- Printed by this work's xp.py out of the translation. Lean checks it.
namespace Go.Proofs.Ythjlhbblflmajaa.QX
open Go.RowKit Go.Proofs.YthjlhbblflmajaaW.PrintWords Go.Proofs.YthjlhbblflmajaaW.PrintLast Go.Proofs.YthjlhbblflmajaaW.PrintMore
attribute [local go_sem] max2_int min2_int max_two min_two max_three min_three max_four min_four   -- for this text's walks alone
set_option linter.unusedVariables false
set_option linter.unusedSimpArgs false


/-! ### hop_Go -/
mutual
def hop_Go.j0 : Nat → ByteArray → Int → ByteArray → Int → Bool → Option (Int × Bool)
  | 0, _, _, _, _, _ => none
  | k + 1, x0, x1, x2, x3, x25 => if x25 = true then (some (0, false)) else (if x2.toList = ([119] : List UInt8) then (hop_Go.j1 k x0 x1 (mx x3 1) (Op.bytesLess x2.toList ([97] : List UInt8)) x2 (x2.toList == ([119] : List UInt8))) else (hop_Go.j1 k x0 x1 (mx x3 1) (Op.bytesLess x2.toList ([97] : List UInt8)) x2 (x2.toList == ([87] : List UInt8))))
def hop_Go.j1 : Nat → ByteArray → Int → Int → Bool → ByteArray → Bool → Option (Int × Bool)
  | 0, _, _, _, _, _, _ => none
  | k + 1, x0, x1, x3, x10, x30, x31 => if x31 = true then (if x1 = (x0.size : Int) then (some (0, false)) else ((hop_Starts.f x0 x10).bind fun t121 => ((hop_behind.f k t121 x1).bind fun t124 => (if x3 ≤ (wrap64 ((t121.length : Int) - t124)) then (if 0 ≤ (wrap64 ((wrap64 (t124 + x3)) - 1)) then (if (wrap64 ((wrap64 (t124 + x3)) - 1)) < (t121.length : Int) then (some (rd t121 (wrap64 ((wrap64 (t124 + x3)) - 1)), true)) else (none)) else (none)) else (some ((x0.size : Int), true)))))) else (if x30.toList = ([98] : List UInt8) then (hop_Go.j2 k x0 x1 x3 x10 (x30.toList == ([98] : List UInt8))) else (hop_Go.j2 k x0 x1 x3 x10 (x30.toList == ([66] : List UInt8))))
def hop_Go.j2 : Nat → ByteArray → Int → Int → Bool → Bool → Option (Int × Bool)
  | 0, _, _, _, _, _ => none
  | k + 1, x0, x1, x3, x10, x59 => if x59 = true then ((hop_Starts.f x0 x10).bind fun t126 => ((hop_ahead.f k t126 x1).bind fun t129 => (if t129 = 0 then (some (0, false)) else (if 0 ≤ (mx (wrap64 (t129 - (mn x3 t129))) 0) then (if (mx (wrap64 (t129 - (mn x3 t129))) 0) < (t126.length : Int) then (some (rd t126 (mx (wrap64 (t129 - (mn x3 t129))) 0), true)) else (none)) else (none))))) else ((hop_Ends.f x0 x10).bind fun t131 => ((hop_behind.f k t131 x1).bind fun t134 => (if t134 = (t131.length : Int) then (some (0, false)) else (if 0 ≤ (mn (wrap64 ((wrap64 (t134 + (mn x3 (t131.length : Int)))) - 1)) (wrap64 ((t131.length : Int) - 1))) then (if (mn (wrap64 ((wrap64 (t134 + (mn x3 (t131.length : Int)))) - 1)) (wrap64 ((t131.length : Int) - 1))) < (t131.length : Int) then (some (rd t131 (mn (wrap64 ((wrap64 (t134 + (mn x3 (t131.length : Int)))) - 1)) (wrap64 ((t131.length : Int) - 1))), true)) else (none)) else (none)))))
end
def hop_Go.f (k : Nat) (a0 : ByteArray) (a1 : Int) (a2 : ByteArray) (a3 : Int) : Option (Int × Bool) := (hop_Has.f k a2).bind fun t119 => (if t119 = true then ((utf_Place.f a0 a1).bind fun t120 => (hop_Go.j0 k a0 a1 a2 a3 (!t120))) else (hop_Go.j0 k a0 a1 a2 a3 true))
theorem hop_Go.mono_l : ∀ k, (∀ y0 y1 y2 y3 y4, LeO (hop_Go.j0 k y0 y1 y2 y3 y4) (hop_Go.j0 (k + 1) y0 y1 y2 y3 y4)) ∧ (∀ y0 y1 y2 y3 y4 y5, LeO (hop_Go.j1 k y0 y1 y2 y3 y4 y5) (hop_Go.j1 (k + 1) y0 y1 y2 y3 y4 y5)) ∧ (∀ y0 y1 y2 y3 y4, LeO (hop_Go.j2 k y0 y1 y2 y3 y4) (hop_Go.j2 (k + 1) y0 y1 y2 y3 y4))
  | 0 => ⟨fun _ _ _ _ _ r h => by simp [hop_Go.j0] at h, fun _ _ _ _ _ _ r h => by simp [hop_Go.j1] at h, fun _ _ _ _ _ r h => by simp [hop_Go.j2] at h⟩
  | k + 1 => by
    obtain ⟨ih0, ih1, ih2⟩ := hop_Go.mono_l k
    refine ⟨?_, ?_, ?_⟩
    · intro y0 y1 y2 y3 y4
      unfold hop_Go.j0
      repeat' first
      | (with_reducible exact ih0 _ _ _ _ _)
      | (with_reducible exact ih1 _ _ _ _ _ _)
      | (with_reducible exact ih2 _ _ _ _ _)
      | (with_reducible exact hop_Has.mono _ _)
      | (with_reducible exact hop_ahead.mono _ _ _)
      | (with_reducible exact hop_behind.mono _ _ _)
      | (with_reducible exact LeO.refl _)
      | (with_reducible exact LeO.none _)
      | (with_reducible refine LeO.ite ?_ ?_)
      | (with_reducible refine LeO.bind ?_ (fun _ => ?_))
      | exact ih0 _ _ _ _ _
      | exact ih1 _ _ _ _ _ _
      | exact ih2 _ _ _ _ _
      | exact hop_Has.mono _ _
      | exact hop_ahead.mono _ _ _
      | exact hop_behind.mono _ _ _
      | exact LeO.none _
      | refine LeO.ite ?_ ?_
      | refine LeO.bind ?_ (fun _ => ?_)
    · intro y0 y1 y2 y3 y4 y5
      unfold hop_Go.j1
      repeat' first
      | (with_reducible exact ih0 _ _ _ _ _)
      | (with_reducible exact ih1 _ _ _ _ _ _)
      | (with_reducible exact ih2 _ _ _ _ _)
      | (with_reducible exact hop_Has.mono _ _)
      | (with_reducible exact hop_ahead.mono _ _ _)
      | (with_reducible exact hop_behind.mono _ _ _)
      | (with_reducible exact LeO.refl _)
      | (with_reducible exact LeO.none _)
      | (with_reducible refine LeO.ite ?_ ?_)
      | (with_reducible refine LeO.bind ?_ (fun _ => ?_))
      | exact ih0 _ _ _ _ _
      | exact ih1 _ _ _ _ _ _
      | exact ih2 _ _ _ _ _
      | exact hop_Has.mono _ _
      | exact hop_ahead.mono _ _ _
      | exact hop_behind.mono _ _ _
      | exact LeO.none _
      | refine LeO.ite ?_ ?_
      | refine LeO.bind ?_ (fun _ => ?_)
    · intro y0 y1 y2 y3 y4
      unfold hop_Go.j2
      repeat' first
      | (with_reducible exact ih0 _ _ _ _ _)
      | (with_reducible exact ih1 _ _ _ _ _ _)
      | (with_reducible exact ih2 _ _ _ _ _)
      | (with_reducible exact hop_Has.mono _ _)
      | (with_reducible exact hop_ahead.mono _ _ _)
      | (with_reducible exact hop_behind.mono _ _ _)
      | (with_reducible exact LeO.refl _)
      | (with_reducible exact LeO.none _)
      | (with_reducible refine LeO.ite ?_ ?_)
      | (with_reducible refine LeO.bind ?_ (fun _ => ?_))
      | exact ih0 _ _ _ _ _
      | exact ih1 _ _ _ _ _ _
      | exact ih2 _ _ _ _ _
      | exact hop_Has.mono _ _
      | exact hop_ahead.mono _ _ _
      | exact hop_behind.mono _ _ _
      | exact LeO.none _
      | refine LeO.ite ?_ ?_
      | refine LeO.bind ?_ (fun _ => ?_)
theorem hop_Go.mono : ∀ a0 a1 a2 a3 k, LeO (hop_Go.f k a0 a1 a2 a3) (hop_Go.f (k + 1) a0 a1 a2 a3) := by
  intro a0 a1 a2 a3 k
  obtain ⟨ih0, ih1, ih2⟩ := hop_Go.mono_l k
  unfold hop_Go.f
  repeat' first
      | (with_reducible exact ih0 _ _ _ _ _)
      | (with_reducible exact ih1 _ _ _ _ _ _)
      | (with_reducible exact ih2 _ _ _ _ _)
      | (with_reducible exact hop_Has.mono _ _)
      | (with_reducible exact hop_ahead.mono _ _ _)
      | (with_reducible exact hop_behind.mono _ _ _)
      | (with_reducible exact LeO.refl _)
      | (with_reducible exact LeO.none _)
      | (with_reducible refine LeO.ite ?_ ?_)
      | (with_reducible refine LeO.bind ?_ (fun _ => ?_))
      | exact ih0 _ _ _ _ _
      | exact ih1 _ _ _ _ _ _
      | exact ih2 _ _ _ _ _
      | exact hop_Has.mono _ _
      | exact hop_ahead.mono _ _ _
      | exact hop_behind.mono _ _ _
      | exact LeO.none _
      | refine LeO.ite ?_ ?_
      | refine LeO.bind ?_ (fun _ => ?_)
set_option maxHeartbeats 8000000 in
set_option maxRecDepth 100000 in
theorem hop_Go.calls (k : Nat) (a0 : ByteArray) (a1 : Int) (a2 : ByteArray) (a3 : Int) (r1 : Int) (r2 : Bool) (w : World) (h : hop_Go.f k a0 a1 a2 a3 = some (r1, r2)) :
    Calls Try.prog 41 #[.string a0, .int .i64 a1, .string a2, .int .i64 a3] w fun e w' => e = .returned (.tuple #[.int .i64 r1, .bool r2]) ∧ Below w.heap.size w w' := by
  have HB := Aside0.mk (Below.refl w.heap.size w)
  have H : ((hop_Has.f k a2).bind fun t119 => (if t119 = true then ((utf_Place.f a0 a1).bind fun t120 => (hop_Go.j0 k a0 a1 a2 a3 (!t120))) else (hop_Go.j0 k a0 a1 a2 a3 true))) = some (r1, r2) := h
  clear h
  have HC5 := Aside0.mk H
  clear H
  go_enter Try.func41, Try.ntmps41
  go_upto_region 1 with (fail)
  go_cut [25] (fun v25 wc => ∃ (kq : Nat) (x25_4 : Bool), v25 = .bool x25_4 ∧ Aside0 (hop_Go.j0 kq a0 a1 a2 a3 x25_4 = some (r1, r2)) ∧ Aside0 (kq ≤ k) ∧ Aside0 (Below w.heap.size w wc))
  case first => as_aux_lemma =>
    have H := HC5.out
    clear HC5
    replace H := Option.bind_eq_some_iff.mp H
    obtain ⟨t119, A60, H⟩ := H
    replace H : (if t119 = true then ((utf_Place.f a0 a1).bind fun t120 => (hop_Go.j0 k a0 a1 a2 a3 (!t120))) else (hop_Go.j0 k a0 a1 a2 a3 true)) = some (r1, r2) := H
    have A6 := Aside0.mk A60
    clear A60
    by_cases c7 : t119 = true
    · subst c7
      have H1 : ((utf_Place.f a0 a1).bind fun t120 => (hop_Go.j0 k a0 a1 a2 a3 (!t120))) = some (r1, r2) := by rw [if_pos rfl] at H; exact H
      clear H
      have H := H1
      clear H1
      replace H := Option.bind_eq_some_iff.mp H
      obtain ⟨t120, A80, H⟩ := H
      replace H : (hop_Go.j0 k a0 a1 a2 a3 (!t120)) = some (r1, r2) := H
      have A8 := Aside0.mk A80
      clear A80
      have H' := Aside0.mk H
      clear H
      go_wp2_with (first | ((with_reducible refine gate_callee (f := 43) rfl ?_); refine goesL_ (some 18) rfl rfl Try.func43 (by kernel_rfl) rfl #[.string a2] rfl (by (try simp only [List.map_toArray, List.map_cons, List.map_nil]); first | done | rfl | (simp only [List.length_drop, List.length_take]; rfl)) ?_; (with_reducible refine (hop_Has.calls k a2 true _ A6.out).mono ?_); rintro e w9 ⟨rfl, hb⟩; refine ⟨_, rfl, ?_⟩; have n0_ := Aside0.mk (below_step (by repeat (first | (with_reducible first | exact HB.out | apply below_alloc | apply pw_below_drewN | apply below_drew1) | exact HB.out)) hb); clear HB; have HB := n0_; clear n0_; (try clear hb); (try clear hb2); (try clear hk); (try clear hi)) | (go_at_call 35; (with_reducible refine (utf_Place.calls a0 a1 t120 _ A8.out).mono ?_); rintro e w10 ⟨rfl, hb⟩; have n0_ := Aside0.mk (below_step (by repeat (first | (with_reducible first | exact HB.out | apply below_alloc | apply pw_below_drewN | apply below_drew1) | exact HB.out)) hb); clear HB; have HB := n0_; clear n0_; (try clear hb); (try clear hb2); (try clear hk); (try clear hi)))
      go_meet
      case rel => exact ⟨_, (!t120), (by first | rfl | (simp; done) | (simp [*]; done)), H', ⟨by first | omega | exact Nat.le_refl _⟩, ⟨by repeat (first | (with_reducible first | exact HB.out | apply below_alloc | apply pw_below_drewN | apply below_drew1) | exact HB.out)⟩⟩
    · replace c7 := Bool.eq_false_iff.mpr c7
      subst c7
      have H1 : (hop_Go.j0 k a0 a1 a2 a3 true) = some (r1, r2) := by rw [if_neg (show ¬ (false = true) by decide)] at H; exact H
      clear H
      have H := H1
      clear H1
      have H' := Aside0.mk H
      clear H
      go_wp2_with (first | ((with_reducible refine gate_callee (f := 43) rfl ?_); refine goesL_ (some 18) rfl rfl Try.func43 (by kernel_rfl) rfl #[.string a2] rfl (by (try simp only [List.map_toArray, List.map_cons, List.map_nil]); first | done | rfl | (simp only [List.length_drop, List.length_take]; rfl)) ?_; (with_reducible refine (hop_Has.calls k a2 false _ A6.out).mono ?_); rintro e w11 ⟨rfl, hb⟩; refine ⟨_, rfl, ?_⟩; have n0_ := Aside0.mk (below_step (by repeat (first | (with_reducible first | exact HB.out | apply below_alloc | apply pw_below_drewN | apply below_drew1) | exact HB.out)) hb); clear HB; have HB := n0_; clear n0_; (try clear hb); (try clear hb2); (try clear hk); (try clear hi)))
      go_meet
      case rel => exact ⟨_, (true), (by first | rfl | (simp; done) | (simp [*]; done)), H', ⟨by first | omega | exact Nat.le_refl _⟩, ⟨by repeat (first | (with_reducible first | exact HB.out | apply below_alloc | apply pw_below_drewN | apply below_drew1) | exact HB.out)⟩⟩
  case rest => as_aux_lemma =>
    clear HC5
    try clear p2
    try clear c4
    try clear c7
    obtain ⟨kq, x25_4, rfl, HA, HJ4, HB⟩ := hcut
    cases kq with
    | zero => exact absurd HA.out (by simp [hop_Go.j0])
    | succ kj4 =>
      have H := HA.out
      clear HA
      simp only [hop_Go.j0] at H
      by_cases c12 : x25_4 = true
      · subst c12
        have H1 : (some (0, false)) = some (r1, r2) := by rw [if_pos rfl] at H; exact H
        clear H
        have H := H1
        clear H1
        simp only [Option.some.injEq, Prod.mk.injEq] at H
        obtain ⟨rfl, rfl⟩ := H
        go_wp2
        go_ret2
        exact ⟨by first | rfl | (simp [errW_none, errW_some] <;> rfl) | (simp [*, errW_none, errW_some] <;> rfl), by repeat (first | (with_reducible first | exact HB.out | apply below_alloc | apply pw_below_drewN | apply below_drew1) | exact HB.out)⟩
      · replace c12 := Bool.eq_false_iff.mpr c12
        subst c12
        have H1 : (if a2.toList = ([119] : List UInt8) then (hop_Go.j1 kj4 a0 a1 (mx a3 1) (Op.bytesLess a2.toList ([97] : List UInt8)) a2 (a2.toList == ([119] : List UInt8))) else (hop_Go.j1 kj4 a0 a1 (mx a3 1) (Op.bytesLess a2.toList ([97] : List UInt8)) a2 (a2.toList == ([87] : List UInt8)))) = some (r1, r2) := by rw [if_neg (show ¬ (false = true) by decide)] at H; exact H
        clear H
        have H := H1
        clear H1
        obtain ⟨ji13, hji13⟩ : ∃ j_ : Int, (mx a3 1) = j_ := ⟨_, rfl⟩
        replace H : (if a2.toList = ([119] : List UInt8) then (hop_Go.j1 kj4 a0 a1 ji13 (Op.bytesLess a2.toList ([97] : List UInt8)) a2 (a2.toList == ([119] : List UInt8))) else (hop_Go.j1 kj4 a0 a1 ji13 (Op.bytesLess a2.toList ([97] : List UInt8)) a2 (a2.toList == ([87] : List UInt8)))) = some (r1, r2) := by first | (rw [hji13] at H; exact H) | (simp only [hji13] at H ⊢; exact H)
        have hji13_ : (if a3 < 1 then 1 else a3) = ji13 := hji13
        have HC14 := Aside0.mk H
        clear H
        go_upto_if 31 with (fail)
        go_cut [31] (fun v31 wc => ∃ (kq : Nat) (x31_13 : Bool), v31 = .bool x31_13 ∧ Aside0 (hop_Go.j1 kq a0 a1 ji13 (Op.bytesLess a2.toList ([97] : List UInt8)) a2 x31_13 = some (r1, r2)) ∧ Aside0 (kq ≤ kj4) ∧ Aside0 (Below w.heap.size w wc))
        case first => as_aux_lemma =>
          have H := HC14.out
          clear HC14
          by_cases c15 : a2.toList = ([119] : List UInt8)
          · rw [if_pos c15] at H
            have c15b0 : (a2.toList == ([119] : List UInt8)) = true := beq_iff_eq.mpr c15
            have c15b1 : (a2.toList != ([119] : List UInt8)) = false := bne_eq_false_iff_eq.mpr c15
            clear c15
            (first | rw [c15b0] | (simp only [i64_w, i32_w]; rw [c15b0]) | skip)
            have H' := Aside0.mk H
            clear H
            go_wp2
            go_meet
            case rel => exact ⟨_, ((a2.toList == ([119] : List UInt8))), (by first | rfl | (simp; done) | (simp [*]; done)), H', ⟨by have := HJ4.out; first | omega | exact Nat.le_refl _⟩, ⟨by repeat (first | (with_reducible first | exact HB.out | apply below_alloc | apply pw_below_drewN | apply below_drew1) | exact HB.out)⟩⟩
          · rw [if_neg c15] at H
            have c15b0 : (a2.toList == ([119] : List UInt8)) = false := beq_eq_false_iff_ne.mpr c15
            have c15b1 : (a2.toList != ([119] : List UInt8)) = true := bne_iff_ne.mpr c15
            (first | rw [c15b0] | (simp only [i64_w, i32_w]; rw [c15b0]) | skip)
            have H' := Aside0.mk H
            clear H
            go_wp2
            go_meet
            case rel => exact ⟨_, ((a2.toList == ([87] : List UInt8))), (by first | rfl | (simp; done) | (simp [*]; done)), H', ⟨by have := HJ4.out; first | omega | exact Nat.le_refl _⟩, ⟨by repeat (first | (with_reducible first | exact HB.out | apply below_alloc | apply pw_below_drewN | apply below_drew1) | exact HB.out)⟩⟩
        case rest => as_aux_lemma =>
          clear HC14
          try clear c1
          try clear p2
          try clear c4
          try clear c7
          try clear c12
          try clear c15
          try clear c15b0
          try clear c15b1
          try clear p2
          obtain ⟨kq, x31_13, rfl, HA, HJ13, HB⟩ := hcut
          cases kq with
          | zero => exact absurd HA.out (by simp [hop_Go.j1])
          | succ kj13 =>
            have H := HA.out
            clear HA
            simp only [hop_Go.j1] at H
            by_cases c16 : x31_13 = true
            · subst c16
              have H1 : (if a1 = (a0.size : Int) then (some (0, false)) else ((hop_Starts.f a0 (Op.bytesLess a2.toList ([97] : List UInt8))).bind fun t121 => ((hop_behind.f kj13 t121 a1).bind fun t124 => (if ji13 ≤ (wrap64 ((t121.length : Int) - t124)) then (if 0 ≤ (wrap64 ((wrap64 (t124 + ji13)) - 1)) then (if (wrap64 ((wrap64 (t124 + ji13)) - 1)) < (t121.length : Int) then (some (rd t121 (wrap64 ((wrap64 (t124 + ji13)) - 1)), true)) else (none)) else (none)) else (some ((a0.size : Int), true)))))) = some (r1, r2) := by rw [if_pos rfl] at H; exact H
              clear H
              have H := H1
              clear H1
              by_cases c17 : a1 = (a0.size : Int)
              · rw [if_pos c17] at H
                have c17b0 : (a1 == (a0.size : Int)) = true := beq_iff_eq.mpr c17
                have c17b1 : (a1 != (a0.size : Int)) = false := bne_eq_false_iff_eq.mpr c17
                clear c17
                simp only [Option.some.injEq, Prod.mk.injEq] at H
                obtain ⟨rfl, rfl⟩ := H
                go_wp2
                go_ret2
                exact ⟨by first | rfl | (simp [errW_none, errW_some] <;> rfl) | (simp only [← hji13]; first | rfl | (simp [errW_none, errW_some] <;> rfl)) | (simp [*, errW_none, errW_some] <;> rfl), by repeat (first | (with_reducible first | exact HB.out | apply below_alloc | apply pw_below_drewN | apply below_drew1) | exact HB.out)⟩
              · rw [if_neg c17] at H
                have c17b0 : (a1 == (a0.size : Int)) = false := beq_eq_false_iff_ne.mpr c17
                have c17b1 : (a1 != (a0.size : Int)) = true := bne_iff_ne.mpr c17
                replace H := Option.bind_eq_some_iff.mp H
                obtain ⟨t121, A180, H⟩ := H
                replace H : ((hop_behind.f kj13 t121 a1).bind fun t124 => (if ji13 ≤ (wrap64 ((t121.length : Int) - t124)) then (if 0 ≤ (wrap64 ((wrap64 (t124 + ji13)) - 1)) then (if (wrap64 ((wrap64 (t124 + ji13)) - 1)) < (t121.length : Int) then (some (rd t121 (wrap64 ((wrap64 (t124 + ji13)) - 1)), true)) else (none)) else (none)) else (some ((a0.size : Int), true)))) = some (r1, r2) := H
                have A18 := Aside0.mk A180
                clear A180
                replace H := Option.bind_eq_some_iff.mp H
                obtain ⟨t124, A190, H⟩ := H
                replace H : (if ji13 ≤ (wrap64 ((t121.length : Int) - t124)) then (if 0 ≤ (wrap64 ((wrap64 (t124 + ji13)) - 1)) then (if (wrap64 ((wrap64 (t124 + ji13)) - 1)) < (t121.length : Int) then (some (rd t121 (wrap64 ((wrap64 (t124 + ji13)) - 1)), true)) else (none)) else (none)) else (some ((a0.size : Int), true))) = some (r1, r2) := H
                have A19 := Aside0.mk A190
                clear A190
                by_cases c20 : ji13 ≤ (wrap64 ((t121.length : Int) - t124))
                · rw [if_pos c20] at H
                  have c20b0 : decide (ji13 ≤ (wrap64 ((t121.length : Int) - t124))) = true := decide_eq_true c20
                  clear c20
                  obtain ⟨ji21, hji21⟩ : ∃ j_ : Int, (wrap64 ((wrap64 (t124 + ji13)) - 1)) = j_ := ⟨_, rfl⟩
                  replace H : (if 0 ≤ (ji21) then (if (ji21) < (t121.length : Int) then (some (rd t121 (ji21), true)) else (none)) else (none)) = some (r1, r2) := by first | (rw [hji21] at H; exact H) | (simp only [hji21] at H ⊢; exact H)
                  (try rw [hji21] at A18)
                  (try rw [hji21] at A19)
                  have hji21w : (IntKind.i64.wrap ((wrap64 (t124 + ji13)) - 1)) = ji21 := (i64_w _).trans hji21
                  by_cases c22 : 0 ≤ (ji21)
                  · rw [if_pos c22] at H
                    have c22b0 : decide (0 ≤ (ji21)) = true := decide_eq_true c22
                    clear c22
                    by_cases c23 : (ji21) < (t121.length : Int)
                    · rw [if_pos c23] at H
                      have c23b0 : decide ((ji21) < (t121.length : Int)) = true := decide_eq_true c23
                      clear c23
                      simp only [Option.some.injEq, Prod.mk.injEq] at H
                      obtain ⟨rfl, rfl⟩ := H
                      go_wp2_with (first | ((with_reducible refine gate_callee (f := 37) rfl ?_); refine goesL_ (some 40) rfl rfl Try.func37 (by kernel_rfl) rfl #[.string a0, .bool (Op.bytesLess a2.toList ([97] : List UInt8))] rfl (by (try simp only [List.map_toArray, List.map_cons, List.map_nil]); first | done | rfl | (simp only [List.length_drop, List.length_take]; rfl)) ?_; (with_reducible refine (hop_Starts.calls a0 (Op.bytesLess a2.toList ([97] : List UInt8)) t121 _ A18.out).mono ?_); rintro e w24 ⟨v122, rfl, ho0, hb⟩; refine ⟨_, rfl, ?_⟩; have n0_ := Aside0.mk (Kd.R_lower ho0 (below_size (by repeat (first | (with_reducible first | exact HB.out | apply below_alloc | apply pw_below_drewN | apply below_drew1) | exact HB.out)))); have n1_ := Aside0.mk (below_step (by repeat (first | (with_reducible first | exact HB.out | apply below_alloc | apply pw_below_drewN | apply below_drew1) | exact HB.out)) hb); clear HB; have HO123 := n0_; have HB := n1_; clear n0_ n1_; (try clear hb); (try clear hb2); (try clear hk); (try clear hi); (try clear ho0); obtain ⟨Ao25, co25, eo25⟩ := Kd.R_slice HO123.out; subst eo25) | ((with_reducible refine gate_callee (f := 60) rfl ?_); refine goesL_ (some 43) rfl rfl Try.func60 (by kernel_rfl) rfl #[.slice Ao25 t121.length co25, .int .i64 a1] rfl (by (try simp only [List.map_toArray, List.map_cons, List.map_nil]); first | done | rfl | (simp only [List.length_drop, List.length_take]; rfl)) ?_; (with_reducible refine (hop_behind.calls kj13 _ _ t121 a1 t124 _ ?side1 ?side2 A19.out).mono ?_); (case side1 => repeat (first | exact (Kd.R_reads' HO123.out).2.2 | (with_reducible refine Kd.C_alloc ?_ _) | (with_reducible refine Kd.C_drewN ?_ _) | (with_reducible refine Kd.C_drew ?_))); (case side2 => exact (Kd.R_reads' HO123.out).2.1); rintro e w' ⟨rfl, ⟨nd, rfl⟩⟩; refine ⟨_, rfl, ?_⟩; have p125 : 0 ≤ ((ji21) : Int) := of_decide_eq_true (by first | (with_reducible assumption) | assumption); have q125 : (ji21) < (t121.length : Int) := of_decide_eq_true (by first | (with_reducible assumption) | assumption); obtain ⟨ad125, e125, hx125_0⟩ := Kd.at_int (Kd.R_reads' HO123.out).2.2 (ji21) p125 q125; cases e125; replace p125 := eq_true p125; replace q125 := eq_true q125))
                      go_ret2
                      exact ⟨by first | rfl | (simp [errW_none, errW_some] <;> rfl) | (simp only [← hji13, ← hji21]; first | rfl | (simp [errW_none, errW_some] <;> rfl)) | (simp [*, errW_none, errW_some] <;> rfl), by repeat (first | (with_reducible first | exact HB.out | apply below_alloc | apply pw_below_drewN | apply below_drew1) | exact HB.out)⟩
                    · rw [if_neg c23] at H
                      exact absurd H (by simp)
                  · rw [if_neg c22] at H
                    exact absurd H (by simp)
                · rw [if_neg c20] at H
                  have c20b0 : decide (ji13 ≤ (wrap64 ((t121.length : Int) - t124))) = false := decide_eq_false c20
                  clear c20
                  simp only [Option.some.injEq, Prod.mk.injEq] at H
                  obtain ⟨rfl, rfl⟩ := H
                  go_wp2_with (first | ((with_reducible refine gate_callee (f := 37) rfl ?_); refine goesL_ (some 40) rfl rfl Try.func37 (by kernel_rfl) rfl #[.string a0, .bool (Op.bytesLess a2.toList ([97] : List UInt8))] rfl (by (try simp only [List.map_toArray, List.map_cons, List.map_nil]); first | done | rfl | (simp only [List.length_drop, List.length_take]; rfl)) ?_; (with_reducible refine (hop_Starts.calls a0 (Op.bytesLess a2.toList ([97] : List UInt8)) t121 _ A18.out).mono ?_); rintro e w26 ⟨v122, rfl, ho0, hb⟩; refine ⟨_, rfl, ?_⟩; have n0_ := Aside0.mk (Kd.R_lower ho0 (below_size (by repeat (first | (with_reducible first | exact HB.out | apply below_alloc | apply pw_below_drewN | apply below_drew1) | exact HB.out)))); have n1_ := Aside0.mk (below_step (by repeat (first | (with_reducible first | exact HB.out | apply below_alloc | apply pw_below_drewN | apply below_drew1) | exact HB.out)) hb); clear HB; have HO123 := n0_; have HB := n1_; clear n0_ n1_; (try clear hb); (try clear hb2); (try clear hk); (try clear hi); (try clear ho0); obtain ⟨Ao27, co27, eo27⟩ := Kd.R_slice HO123.out; subst eo27) | ((with_reducible refine gate_callee (f := 60) rfl ?_); refine goesL_ (some 43) rfl rfl Try.func60 (by kernel_rfl) rfl #[.slice Ao27 t121.length co27, .int .i64 a1] rfl (by (try simp only [List.map_toArray, List.map_cons, List.map_nil]); first | done | rfl | (simp only [List.length_drop, List.length_take]; rfl)) ?_; (with_reducible refine (hop_behind.calls kj13 _ _ t121 a1 t124 _ ?side1 ?side2 A19.out).mono ?_); (case side1 => repeat (first | exact (Kd.R_reads' HO123.out).2.2 | (with_reducible refine Kd.C_alloc ?_ _) | (with_reducible refine Kd.C_drewN ?_ _) | (with_reducible refine Kd.C_drew ?_))); (case side2 => exact (Kd.R_reads' HO123.out).2.1); rintro e w' ⟨rfl, ⟨nd, rfl⟩⟩; refine ⟨_, rfl, ?_⟩))
                  go_ret2
                  exact ⟨by first | rfl | (simp [errW_none, errW_some] <;> rfl) | (simp only [← hji13]; first | rfl | (simp [errW_none, errW_some] <;> rfl)) | (simp [*, errW_none, errW_some] <;> rfl), by repeat (first | (with_reducible first | exact HB.out | apply below_alloc | apply pw_below_drewN | apply below_drew1) | exact HB.out)⟩
            · replace c16 := Bool.eq_false_iff.mpr c16
              subst c16
              have H1 : (if a2.toList = ([98] : List UInt8) then (hop_Go.j2 kj13 a0 a1 ji13 (Op.bytesLess a2.toList ([97] : List UInt8)) (a2.toList == ([98] : List UInt8))) else (hop_Go.j2 kj13 a0 a1 ji13 (Op.bytesLess a2.toList ([97] : List UInt8)) (a2.toList == ([66] : List UInt8)))) = some (r1, r2) := by rw [if_neg (show ¬ (false = true) by decide)] at H; exact H
              clear H
              have H := H1
              clear H1
              have HC28 := Aside0.mk H
              clear H
              go_upto_if 59 with (fail)
              go_cut [59] (fun v59 wc => ∃ (kq : Nat) (x59_27 : Bool), v59 = .bool x59_27 ∧ Aside0 (hop_Go.j2 kq a0 a1 ji13 (Op.bytesLess a2.toList ([97] : List UInt8)) x59_27 = some (r1, r2)) ∧ Aside0 (kq ≤ kj13) ∧ Aside0 (Below w.heap.size w wc))
              case first => as_aux_lemma =>
                have H := HC28.out
                clear HC28
                by_cases c29 : a2.toList = ([98] : List UInt8)
                · rw [if_pos c29] at H
                  have c29b0 : (a2.toList == ([98] : List UInt8)) = true := beq_iff_eq.mpr c29
                  have c29b1 : (a2.toList != ([98] : List UInt8)) = false := bne_eq_false_iff_eq.mpr c29
                  clear c29
                  (first | rw [c29b0] | (simp only [i64_w, i32_w]; rw [c29b0]) | skip)
                  have H' := Aside0.mk H
                  clear H
                  go_wp2
                  go_meet
                  case rel => exact ⟨_, ((a2.toList == ([98] : List UInt8))), (by first | rfl | (simp; done) | (simp [*]; done)), H', ⟨by have := HJ4.out; have := HJ13.out; first | omega | exact Nat.le_refl _⟩, ⟨by repeat (first | (with_reducible first | exact HB.out | apply below_alloc | apply pw_below_drewN | apply below_drew1) | exact HB.out)⟩⟩
                · rw [if_neg c29] at H
                  have c29b0 : (a2.toList == ([98] : List UInt8)) = false := beq_eq_false_iff_ne.mpr c29
                  have c29b1 : (a2.toList != ([98] : List UInt8)) = true := bne_iff_ne.mpr c29
                  (first | rw [c29b0] | (simp only [i64_w, i32_w]; rw [c29b0]) | skip)
                  have H' := Aside0.mk H
                  clear H
                  go_wp2
                  go_meet
                  case rel => exact ⟨_, ((a2.toList == ([66] : List UInt8))), (by first | rfl | (simp; done) | (simp [*]; done)), H', ⟨by have := HJ4.out; have := HJ13.out; first | omega | exact Nat.le_refl _⟩, ⟨by repeat (first | (with_reducible first | exact HB.out | apply below_alloc | apply pw_below_drewN | apply below_drew1) | exact HB.out)⟩⟩
              case rest => as_aux_lemma =>
                clear HC28
                try clear c1
                try clear p1
                try clear q1
                try clear hx1
                try clear c2
                try clear p2
                try clear c3
                try clear c4
                try clear c6
                try clear p6
                try clear c7
                try clear c12
                try clear p12
                try clear q12
                try clear hx12
                try clear c15
                try clear c15b0
                try clear c15b1
                try clear c16
                try clear c17
                try clear c17b0
                try clear c17b1
                try clear c20
                try clear c20b0
                try clear c22
                try clear c22b0
                try clear c23
                try clear c23b0
                try clear c29
                try clear c29b0
                try clear c29b1
                try clear hx125_0
                try clear p125
                try clear p2
                try clear q125
                obtain ⟨kq, x59_27, rfl, HA, HJ27, HB⟩ := hcut
                cases kq with
                | zero => exact absurd HA.out (by simp [hop_Go.j2])
                | succ kj27 =>
                  have H := HA.out
                  clear HA
                  simp only [hop_Go.j2] at H
                  by_cases c30 : x59_27 = true
                  · subst c30
                    have H1 : ((hop_Starts.f a0 (Op.bytesLess a2.toList ([97] : List UInt8))).bind fun t126 => ((hop_ahead.f kj27 t126 a1).bind fun t129 => (if t129 = 0 then (some (0, false)) else (if 0 ≤ (mx (wrap64 (t129 - (mn ji13 t129))) 0) then (if (mx (wrap64 (t129 - (mn ji13 t129))) 0) < (t126.length : Int) then (some (rd t126 (mx (wrap64 (t129 - (mn ji13 t129))) 0), true)) else (none)) else (none))))) = some (r1, r2) := by rw [if_pos rfl] at H; exact H
                    clear H
                    have H := H1
                    clear H1
                    replace H := Option.bind_eq_some_iff.mp H
                    obtain ⟨t126, A310, H⟩ := H
                    replace H : ((hop_ahead.f kj27 t126 a1).bind fun t129 => (if t129 = 0 then (some (0, false)) else (if 0 ≤ (mx (wrap64 (t129 - (mn ji13 t129))) 0) then (if (mx (wrap64 (t129 - (mn ji13 t129))) 0) < (t126.length : Int) then (some (rd t126 (mx (wrap64 (t129 - (mn ji13 t129))) 0), true)) else (none)) else (none)))) = some (r1, r2) := H
                    have A31 := Aside0.mk A310
                    clear A310
                    replace H := Option.bind_eq_some_iff.mp H
                    obtain ⟨t129, A320, H⟩ := H
                    replace H : (if t129 = 0 then (some (0, false)) else (if 0 ≤ (mx (wrap64 (t129 - (mn ji13 t129))) 0) then (if (mx (wrap64 (t129 - (mn ji13 t129))) 0) < (t126.length : Int) then (some (rd t126 (mx (wrap64 (t129 - (mn ji13 t129))) 0), true)) else (none)) else (none))) = some (r1, r2) := H
                    have A32 := Aside0.mk A320
                    clear A320
                    by_cases c33 : t129 = 0
                    · rw [if_pos c33] at H
                      have c33b0 : (t129 == 0) = true := beq_iff_eq.mpr c33
                      have c33b1 : (t129 != 0) = false := bne_eq_false_iff_eq.mpr c33
                      clear c33
                      simp only [Option.some.injEq, Prod.mk.injEq] at H
                      obtain ⟨rfl, rfl⟩ := H
                      go_wp2_with (first | ((with_reducible refine gate_callee (f := 37) rfl ?_); refine goesL_ (some 64) rfl rfl Try.func37 (by kernel_rfl) rfl #[.string a0, .bool (Op.bytesLess a2.toList ([97] : List UInt8))] rfl (by (try simp only [List.map_toArray, List.map_cons, List.map_nil]); first | done | rfl | (simp only [List.length_drop, List.length_take]; rfl)) ?_; (with_reducible refine (hop_Starts.calls a0 (Op.bytesLess a2.toList ([97] : List UInt8)) t126 _ A31.out).mono ?_); rintro e w34 ⟨v127, rfl, ho0, hb⟩; refine ⟨_, rfl, ?_⟩; have n0_ := Aside0.mk (Kd.R_lower ho0 (below_size (by repeat (first | (with_reducible first | exact HB.out | apply below_alloc | apply pw_below_drewN | apply below_drew1) | exact HB.out)))); have n1_ := Aside0.mk (below_step (by repeat (first | (with_reducible first | exact HB.out | apply below_alloc | apply pw_below_drewN | apply below_drew1) | exact HB.out)) hb); clear HB; have HO128 := n0_; have HB := n1_; clear n0_ n1_; (try clear hb); (try clear hb2); (try clear hk); (try clear hi); (try clear ho0); obtain ⟨Ao35, co35, eo35⟩ := Kd.R_slice HO128.out; subst eo35) | ((with_reducible refine gate_callee (f := 61) rfl ?_); refine goesL_ (some 67) rfl rfl Try.func61 (by kernel_rfl) rfl #[.slice Ao35 t126.length co35, .int .i64 a1] rfl (by (try simp only [List.map_toArray, List.map_cons, List.map_nil]); first | done | rfl | (simp only [List.length_drop, List.length_take]; rfl)) ?_; (with_reducible refine (hop_ahead.calls kj27 _ _ t126 a1 t129 _ ?side1 ?side2 A32.out).mono ?_); (case side1 => repeat (first | exact (Kd.R_reads' HO128.out).2.2 | (with_reducible refine Kd.C_alloc ?_ _) | (with_reducible refine Kd.C_drewN ?_ _) | (with_reducible refine Kd.C_drew ?_))); (case side2 => exact (Kd.R_reads' HO128.out).2.1); rintro e w' ⟨rfl, ⟨nd, rfl⟩⟩; refine ⟨_, rfl, ?_⟩))
                      go_ret2
                      exact ⟨by first | rfl | (simp [errW_none, errW_some] <;> rfl) | (simp only [← hji13]; first | rfl | (simp [errW_none, errW_some] <;> rfl)) | (simp [*, errW_none, errW_some] <;> rfl), by repeat (first | (with_reducible first | exact HB.out | apply below_alloc | apply pw_below_drewN | apply below_drew1) | exact HB.out)⟩
                    · rw [if_neg c33] at H
                      have c33b0 : (t129 == 0) = false := beq_eq_false_iff_ne.mpr c33
                      have c33b1 : (t129 != 0) = true := bne_iff_ne.mpr c33
                      obtain ⟨ji36, hji36⟩ : ∃ j_ : Int, (mn ji13 t129) = j_ := ⟨_, rfl⟩
                      replace H : (if 0 ≤ (mx (wrap64 (t129 - (ji36))) 0) then (if (mx (wrap64 (t129 - (ji36))) 0) < (t126.length : Int) then (some (rd t126 (mx (wrap64 (t129 - (ji36))) 0), true)) else (none)) else (none)) = some (r1, r2) := by first | (rw [hji36] at H; exact H) | (simp only [hji36] at H ⊢; exact H)
                      (try rw [hji36] at A31)
                      (try rw [hji36] at A32)
                      have hji36_ : (if t129 < ji13 then t129 else ji13) = ji36 := hji36
                      obtain ⟨ji37, hji37⟩ : ∃ j_ : Int, (mx (wrap64 (t129 - (ji36))) 0) = j_ := ⟨_, rfl⟩
                      replace H : (if 0 ≤ (ji37) then (if (ji37) < (t126.length : Int) then (some (rd t126 (ji37), true)) else (none)) else (none)) = some (r1, r2) := by first | (rw [hji37] at H; exact H) | (simp only [hji37] at H ⊢; exact H)
                      (try rw [hji37] at A31)
                      (try rw [hji37] at A32)
                      have hji37_ : (if (wrap64 (t129 - (ji36))) < 0 then 0 else (wrap64 (t129 - (ji36)))) = ji37 := hji37
                      by_cases c38 : 0 ≤ (ji37)
                      · rw [if_pos c38] at H
                        have c38b0 : decide (0 ≤ (ji37)) = true := decide_eq_true c38
                        clear c38
                        by_cases c39 : (ji37) < (t126.length : Int)
                        · rw [if_pos c39] at H
                          have c39b0 : decide ((ji37) < (t126.length : Int)) = true := decide_eq_true c39
                          clear c39
                          simp only [Option.some.injEq, Prod.mk.injEq] at H
                          obtain ⟨rfl, rfl⟩ := H
                          go_wp2_with (first | ((with_reducible refine gate_callee (f := 37) rfl ?_); refine goesL_ (some 64) rfl rfl Try.func37 (by kernel_rfl) rfl #[.string a0, .bool (Op.bytesLess a2.toList ([97] : List UInt8))] rfl (by (try simp only [List.map_toArray, List.map_cons, List.map_nil]); first | done | rfl | (simp only [List.length_drop, List.length_take]; rfl)) ?_; (with_reducible refine (hop_Starts.calls a0 (Op.bytesLess a2.toList ([97] : List UInt8)) t126 _ A31.out).mono ?_); rintro e w40 ⟨v127, rfl, ho0, hb⟩; refine ⟨_, rfl, ?_⟩; have n0_ := Aside0.mk (Kd.R_lower ho0 (below_size (by repeat (first | (with_reducible first | exact HB.out | apply below_alloc | apply pw_below_drewN | apply below_drew1) | exact HB.out)))); have n1_ := Aside0.mk (below_step (by repeat (first | (with_reducible first | exact HB.out | apply below_alloc | apply pw_below_drewN | apply below_drew1) | exact HB.out)) hb); clear HB; have HO128 := n0_; have HB := n1_; clear n0_ n1_; (try clear hb); (try clear hb2); (try clear hk); (try clear hi); (try clear ho0); obtain ⟨Ao41, co41, eo41⟩ := Kd.R_slice HO128.out; subst eo41) | ((with_reducible refine gate_callee (f := 61) rfl ?_); refine goesL_ (some 67) rfl rfl Try.func61 (by kernel_rfl) rfl #[.slice Ao41 t126.length co41, .int .i64 a1] rfl (by (try simp only [List.map_toArray, List.map_cons, List.map_nil]); first | done | rfl | (simp only [List.length_drop, List.length_take]; rfl)) ?_; (with_reducible refine (hop_ahead.calls kj27 _ _ t126 a1 t129 _ ?side1 ?side2 A32.out).mono ?_); (case side1 => repeat (first | exact (Kd.R_reads' HO128.out).2.2 | (with_reducible refine Kd.C_alloc ?_ _) | (with_reducible refine Kd.C_drewN ?_ _) | (with_reducible refine Kd.C_drew ?_))); (case side2 => exact (Kd.R_reads' HO128.out).2.1); rintro e w' ⟨rfl, ⟨nd, rfl⟩⟩; refine ⟨_, rfl, ?_⟩; have p130 : 0 ≤ ((ji37) : Int) := of_decide_eq_true (by first | (with_reducible assumption) | assumption); have q130 : (ji37) < (t126.length : Int) := of_decide_eq_true (by first | (with_reducible assumption) | assumption); obtain ⟨ad130, e130, hx130_0⟩ := Kd.at_int (Kd.R_reads' HO128.out).2.2 (ji37) p130 q130; cases e130; replace p130 := eq_true p130; replace q130 := eq_true q130))
                          go_ret2
                          exact ⟨by first | rfl | (simp [errW_none, errW_some] <;> rfl) | (simp only [← hji13, ← hji36, ← hji37]; first | rfl | (simp [errW_none, errW_some] <;> rfl)) | (simp [*, errW_none, errW_some] <;> rfl), by repeat (first | (with_reducible first | exact HB.out | apply below_alloc | apply pw_below_drewN | apply below_drew1) | exact HB.out)⟩
                        · rw [if_neg c39] at H
                          exact absurd H (by simp)
                      · rw [if_neg c38] at H
                        exact absurd H (by simp)
                  · replace c30 := Bool.eq_false_iff.mpr c30
                    subst c30
                    have H1 : ((hop_Ends.f a0 (Op.bytesLess a2.toList ([97] : List UInt8))).bind fun t131 => ((hop_behind.f kj27 t131 a1).bind fun t134 => (if t134 = (t131.length : Int) then (some (0, false)) else (if 0 ≤ (mn (wrap64 ((wrap64 (t134 + (mn ji13 (t131.length : Int)))) - 1)) (wrap64 ((t131.length : Int) - 1))) then (if (mn (wrap64 ((wrap64 (t134 + (mn ji13 (t131.length : Int)))) - 1)) (wrap64 ((t131.length : Int) - 1))) < (t131.length : Int) then (some (rd t131 (mn (wrap64 ((wrap64 (t134 + (mn ji13 (t131.length : Int)))) - 1)) (wrap64 ((t131.length : Int) - 1))), true)) else (none)) else (none))))) = some (r1, r2) := by rw [if_neg (show ¬ (false = true) by decide)] at H; exact H
                    clear H
                    have H := H1
                    clear H1
                    replace H := Option.bind_eq_some_iff.mp H
                    obtain ⟨t131, A420, H⟩ := H
                    replace H : ((hop_behind.f kj27 t131 a1).bind fun t134 => (if t134 = (t131.length : Int) then (some (0, false)) else (if 0 ≤ (mn (wrap64 ((wrap64 (t134 + (mn ji13 (t131.length : Int)))) - 1)) (wrap64 ((t131.length : Int) - 1))) then (if (mn (wrap64 ((wrap64 (t134 + (mn ji13 (t131.length : Int)))) - 1)) (wrap64 ((t131.length : Int) - 1))) < (t131.length : Int) then (some (rd t131 (mn (wrap64 ((wrap64 (t134 + (mn ji13 (t131.length : Int)))) - 1)) (wrap64 ((t131.length : Int) - 1))), true)) else (none)) else (none)))) = some (r1, r2) := H
                    have A42 := Aside0.mk A420
                    clear A420
                    replace H := Option.bind_eq_some_iff.mp H
                    obtain ⟨t134, A430, H⟩ := H
                    replace H : (if t134 = (t131.length : Int) then (some (0, false)) else (if 0 ≤ (mn (wrap64 ((wrap64 (t134 + (mn ji13 (t131.length : Int)))) - 1)) (wrap64 ((t131.length : Int) - 1))) then (if (mn (wrap64 ((wrap64 (t134 + (mn ji13 (t131.length : Int)))) - 1)) (wrap64 ((t131.length : Int) - 1))) < (t131.length : Int) then (some (rd t131 (mn (wrap64 ((wrap64 (t134 + (mn ji13 (t131.length : Int)))) - 1)) (wrap64 ((t131.length : Int) - 1))), true)) else (none)) else (none))) = some (r1, r2) := H
                    have A43 := Aside0.mk A430
                    clear A430
                    by_cases c44 : t134 = (t131.length : Int)
                    · rw [if_pos c44] at H
                      have c44b0 : (t134 == (t131.length : Int)) = true := beq_iff_eq.mpr c44
                      have c44b1 : (t134 != (t131.length : Int)) = false := bne_eq_false_iff_eq.mpr c44
                      clear c44
                      simp only [Option.some.injEq, Prod.mk.injEq] at H
                      obtain ⟨rfl, rfl⟩ := H
                      go_wp2_with (first | ((with_reducible refine gate_callee (f := 39) rfl ?_); refine goesL_ (some 81) rfl rfl Try.func39 (by kernel_rfl) rfl #[.string a0, .bool (Op.bytesLess a2.toList ([97] : List UInt8))] rfl (by (try simp only [List.map_toArray, List.map_cons, List.map_nil]); first | done | rfl | (simp only [List.length_drop, List.length_take]; rfl)) ?_; (with_reducible refine (hop_Ends.calls a0 (Op.bytesLess a2.toList ([97] : List UInt8)) t131 _ A42.out).mono ?_); rintro e w45 ⟨v132, rfl, ho0, hb⟩; refine ⟨_, rfl, ?_⟩; have n0_ := Aside0.mk (Kd.R_lower ho0 (below_size (by repeat (first | (with_reducible first | exact HB.out | apply below_alloc | apply pw_below_drewN | apply below_drew1) | exact HB.out)))); have n1_ := Aside0.mk (below_step (by repeat (first | (with_reducible first | exact HB.out | apply below_alloc | apply pw_below_drewN | apply below_drew1) | exact HB.out)) hb); clear HB; have HO133 := n0_; have HB := n1_; clear n0_ n1_; (try clear hb); (try clear hb2); (try clear hk); (try clear hi); (try clear ho0); obtain ⟨Ao46, co46, eo46⟩ := Kd.R_slice HO133.out; subst eo46) | ((with_reducible refine gate_callee (f := 60) rfl ?_); refine goesL_ (some 84) rfl rfl Try.func60 (by kernel_rfl) rfl #[.slice Ao46 t131.length co46, .int .i64 a1] rfl (by (try simp only [List.map_toArray, List.map_cons, List.map_nil]); first | done | rfl | (simp only [List.length_drop, List.length_take]; rfl)) ?_; (with_reducible refine (hop_behind.calls kj27 _ _ t131 a1 t134 _ ?side1 ?side2 A43.out).mono ?_); (case side1 => repeat (first | exact (Kd.R_reads' HO133.out).2.2 | (with_reducible refine Kd.C_alloc ?_ _) | (with_reducible refine Kd.C_drewN ?_ _) | (with_reducible refine Kd.C_drew ?_))); (case side2 => exact (Kd.R_reads' HO133.out).2.1); rintro e w' ⟨rfl, ⟨nd, rfl⟩⟩; refine ⟨_, rfl, ?_⟩))
                      go_ret2
                      exact ⟨by first | rfl | (simp [errW_none, errW_some] <;> rfl) | (simp only [← hji13]; first | rfl | (simp [errW_none, errW_some] <;> rfl)) | (simp [*, errW_none, errW_some] <;> rfl), by repeat (first | (with_reducible first | exact HB.out | apply below_alloc | apply pw_below_drewN | apply below_drew1) | exact HB.out)⟩
                    · rw [if_neg c44] at H
                      have c44b0 : (t134 == (t131.length : Int)) = false := beq_eq_false_iff_ne.mpr c44
                      have c44b1 : (t134 != (t131.length : Int)) = true := bne_iff_ne.mpr c44
                      obtain ⟨ji47, hji47⟩ : ∃ j_ : Int, (mn ji13 (t131.length : Int)) = j_ := ⟨_, rfl⟩
                      replace H : (if 0 ≤ (mn (wrap64 ((wrap64 (t134 + (ji47))) - 1)) (wrap64 ((t131.length : Int) - 1))) then (if (mn (wrap64 ((wrap64 (t134 + (ji47))) - 1)) (wrap64 ((t131.length : Int) - 1))) < (t131.length : Int) then (some (rd t131 (mn (wrap64 ((wrap64 (t134 + (ji47))) - 1)) (wrap64 ((t131.length : Int) - 1))), true)) else (none)) else (none)) = some (r1, r2) := by first | (rw [hji47] at H; exact H) | (simp only [hji47] at H ⊢; exact H)
                      (try rw [hji47] at A42)
                      (try rw [hji47] at A43)
                      have hji47_ : (if (t131.length : Int) < ji13 then (t131.length : Int) else ji13) = ji47 := hji47
                      obtain ⟨ji48, hji48⟩ : ∃ j_ : Int, (mn (wrap64 ((wrap64 (t134 + (ji47))) - 1)) (wrap64 ((t131.length : Int) - 1))) = j_ := ⟨_, rfl⟩
                      replace H : (if 0 ≤ (ji48) then (if (ji48) < (t131.length : Int) then (some (rd t131 (ji48), true)) else (none)) else (none)) = some (r1, r2) := by first | (rw [hji48] at H; exact H) | (simp only [hji48] at H ⊢; exact H)
                      (try rw [hji48] at A42)
                      (try rw [hji48] at A43)
                      have hji48_ : (if (wrap64 ((t131.length : Int) - 1)) < (wrap64 ((wrap64 (t134 + (ji47))) - 1)) then (wrap64 ((t131.length : Int) - 1)) else (wrap64 ((wrap64 (t134 + (ji47))) - 1))) = ji48 := hji48
                      by_cases c49 : 0 ≤ (ji48)
                      · rw [if_pos c49] at H
                        have c49b0 : decide (0 ≤ (ji48)) = true := decide_eq_true c49
                        clear c49
                        by_cases c50 : (ji48) < (t131.length : Int)
                        · rw [if_pos c50] at H
                          have c50b0 : decide ((ji48) < (t131.length : Int)) = true := decide_eq_true c50
                          clear c50
                          simp only [Option.some.injEq, Prod.mk.injEq] at H
                          obtain ⟨rfl, rfl⟩ := H
                          go_wp2_with (first | ((with_reducible refine gate_callee (f := 39) rfl ?_); refine goesL_ (some 81) rfl rfl Try.func39 (by kernel_rfl) rfl #[.string a0, .bool (Op.bytesLess a2.toList ([97] : List UInt8))] rfl (by (try simp only [List.map_toArray, List.map_cons, List.map_nil]); first | done | rfl | (simp only [List.length_drop, List.length_take]; rfl)) ?_; (with_reducible refine (hop_Ends.calls a0 (Op.bytesLess a2.toList ([97] : List UInt8)) t131 _ A42.out).mono ?_); rintro e w51 ⟨v132, rfl, ho0, hb⟩; refine ⟨_, rfl, ?_⟩; have n0_ := Aside0.mk (Kd.R_lower ho0 (below_size (by repeat (first | (with_reducible first | exact HB.out | apply below_alloc | apply pw_below_drewN | apply below_drew1) | exact HB.out)))); have n1_ := Aside0.mk (below_step (by repeat (first | (with_reducible first | exact HB.out | apply below_alloc | apply pw_below_drewN | apply below_drew1) | exact HB.out)) hb); clear HB; have HO133 := n0_; have HB := n1_; clear n0_ n1_; (try clear hb); (try clear hb2); (try clear hk); (try clear hi); (try clear ho0); obtain ⟨Ao52, co52, eo52⟩ := Kd.R_slice HO133.out; subst eo52) | ((with_reducible refine gate_callee (f := 60) rfl ?_); refine goesL_ (some 84) rfl rfl Try.func60 (by kernel_rfl) rfl #[.slice Ao52 t131.length co52, .int .i64 a1] rfl (by (try simp only [List.map_toArray, List.map_cons, List.map_nil]); first | done | rfl | (simp only [List.length_drop, List.length_take]; rfl)) ?_; (with_reducible refine (hop_behind.calls kj27 _ _ t131 a1 t134 _ ?side1 ?side2 A43.out).mono ?_); (case side1 => repeat (first | exact (Kd.R_reads' HO133.out).2.2 | (with_reducible refine Kd.C_alloc ?_ _) | (with_reducible refine Kd.C_drewN ?_ _) | (with_reducible refine Kd.C_drew ?_))); (case side2 => exact (Kd.R_reads' HO133.out).2.1); rintro e w' ⟨rfl, ⟨nd, rfl⟩⟩; refine ⟨_, rfl, ?_⟩; have p135 : 0 ≤ ((ji48) : Int) := of_decide_eq_true (by first | (with_reducible assumption) | assumption); have q135 : (ji48) < (t131.length : Int) := of_decide_eq_true (by first | (with_reducible assumption) | assumption); obtain ⟨ad135, e135, hx135_0⟩ := Kd.at_int (Kd.R_reads' HO133.out).2.2 (ji48) p135 q135; cases e135; replace p135 := eq_true p135; replace q135 := eq_true q135))
                          go_ret2
                          exact ⟨by first | rfl | (simp [errW_none, errW_some] <;> rfl) | (simp only [← hji13, ← hji47, ← hji48]; first | rfl | (simp [errW_none, errW_some] <;> rfl)) | (simp [*, errW_none, errW_some] <;> rfl), by repeat (first | (with_reducible first | exact HB.out | apply below_alloc | apply pw_below_drewN | apply below_drew1) | exact HB.out)⟩
                        · rw [if_neg c50] at H
                          exact absurd H (by simp)
                      · rw [if_neg c49] at H
                        exact absurd H (by simp)

/-! ### calamuslaw15_lives -/
def calamuslaw15_lives.f (k : Nat)  : Option (Bool) := (hop_Go.f k (⟨#[97, 98, 44, 32, 99]⟩ : ByteArray) 0 (⟨#[119]⟩ : ByteArray) 0).bind fun bt136 => ((hop_Go.f k (⟨#[97, 98, 44, 32, 99]⟩ : ByteArray) 0 (⟨#[87]⟩ : ByteArray) 0).bind fun bt138 => ((hop_Go.f k (⟨#[97, 98, 44, 32, 99]⟩ : ByteArray) 0 (⟨#[101]⟩ : ByteArray) 0).bind fun bt140 => (if bt136.1 = 2 then (if bt136.2 = true then (if bt138.1 = 4 then (if bt138.2 = true then (if bt140.1 = 1 then (if bt140.2 = true then ((hop_Has.f k (⟨#[69]⟩ : ByteArray)).bind fun t142 => (some t142)) else (some false)) else (some false)) else (some false)) else (some false)) else (some false)) else (some false))))
theorem calamuslaw15_lives.mono : ∀ k, LeO (calamuslaw15_lives.f k ) (calamuslaw15_lives.f (k + 1) ) := by
  intro  k
  unfold calamuslaw15_lives.f
  repeat' first
      | (with_reducible exact hop_Go.mono _ _ _ _ _)
      | (with_reducible exact hop_Has.mono _ _)
      | (with_reducible exact LeO.refl _)
      | (with_reducible exact LeO.none _)
      | (with_reducible refine LeO.ite ?_ ?_)
      | (with_reducible refine LeO.bind ?_ (fun _ => ?_))
      | exact hop_Go.mono _ _ _ _ _
      | exact hop_Has.mono _ _
      | exact LeO.none _
      | refine LeO.ite ?_ ?_
      | refine LeO.bind ?_ (fun _ => ?_)
set_option maxHeartbeats 8000000 in
set_option maxRecDepth 100000 in
theorem calamuslaw15_lives.calls (k : Nat)  (r : Bool) (w : World) (h : calamuslaw15_lives.f k  = some r) :
    Calls Try.prog 36 #[] w fun e w' => e = .returned (.bool r) ∧ Below w.heap.size w w' := by
  have HB := Aside0.mk (Below.refl w.heap.size w)
  have H : ((hop_Go.f k (⟨#[97, 98, 44, 32, 99]⟩ : ByteArray) 0 (⟨#[119]⟩ : ByteArray) 0).bind fun bt136 => ((hop_Go.f k (⟨#[97, 98, 44, 32, 99]⟩ : ByteArray) 0 (⟨#[87]⟩ : ByteArray) 0).bind fun bt138 => ((hop_Go.f k (⟨#[97, 98, 44, 32, 99]⟩ : ByteArray) 0 (⟨#[101]⟩ : ByteArray) 0).bind fun bt140 => (if bt136.1 = 2 then (if bt136.2 = true then (if bt138.1 = 4 then (if bt138.2 = true then (if bt140.1 = 1 then (if bt140.2 = true then ((hop_Has.f k (⟨#[69]⟩ : ByteArray)).bind fun t142 => (some t142)) else (some false)) else (some false)) else (some false)) else (some false)) else (some false)) else (some false))))) = some r := h
  clear h
  replace H := Option.bind_eq_some_iff.mp H
  obtain ⟨⟨t136, t137⟩, A10, H⟩ := H
  replace H : ((hop_Go.f k (⟨#[97, 98, 44, 32, 99]⟩ : ByteArray) 0 (⟨#[87]⟩ : ByteArray) 0).bind fun bt138 => ((hop_Go.f k (⟨#[97, 98, 44, 32, 99]⟩ : ByteArray) 0 (⟨#[101]⟩ : ByteArray) 0).bind fun bt140 => (if t136 = 2 then (if t137 = true then (if bt138.1 = 4 then (if bt138.2 = true then (if bt140.1 = 1 then (if bt140.2 = true then ((hop_Has.f k (⟨#[69]⟩ : ByteArray)).bind fun t142 => (some t142)) else (some false)) else (some false)) else (some false)) else (some false)) else (some false)) else (some false)))) = some r := H
  have A1 := Aside0.mk A10
  clear A10
  replace H := Option.bind_eq_some_iff.mp H
  obtain ⟨⟨t138, t139⟩, A20, H⟩ := H
  replace H : ((hop_Go.f k (⟨#[97, 98, 44, 32, 99]⟩ : ByteArray) 0 (⟨#[101]⟩ : ByteArray) 0).bind fun bt140 => (if t136 = 2 then (if t137 = true then (if t138 = 4 then (if t139 = true then (if bt140.1 = 1 then (if bt140.2 = true then ((hop_Has.f k (⟨#[69]⟩ : ByteArray)).bind fun t142 => (some t142)) else (some false)) else (some false)) else (some false)) else (some false)) else (some false)) else (some false))) = some r := H
  have A2 := Aside0.mk A20
  clear A20
  replace H := Option.bind_eq_some_iff.mp H
  obtain ⟨⟨t140, t141⟩, A30, H⟩ := H
  replace H : (if t136 = 2 then (if t137 = true then (if t138 = 4 then (if t139 = true then (if t140 = 1 then (if t141 = true then ((hop_Has.f k (⟨#[69]⟩ : ByteArray)).bind fun t142 => (some t142)) else (some false)) else (some false)) else (some false)) else (some false)) else (some false)) else (some false)) = some r := H
  have A3 := Aside0.mk A30
  clear A30
  by_cases c4 : t136 = 2
  · rw [if_pos c4] at H
    have c4b0 : (t136 == 2) = true := beq_iff_eq.mpr c4
    have c4b1 : (t136 != 2) = false := bne_eq_false_iff_eq.mpr c4
    clear c4
    by_cases c5 : t137 = true
    · subst c5
      have H1 : (if t138 = 4 then (if t139 = true then (if t140 = 1 then (if t141 = true then ((hop_Has.f k (⟨#[69]⟩ : ByteArray)).bind fun t142 => (some t142)) else (some false)) else (some false)) else (some false)) else (some false)) = some r := by rw [if_pos rfl] at H; exact H
      clear H
      have H := H1
      clear H1
      by_cases c6 : t138 = 4
      · rw [if_pos c6] at H
        have c6b0 : (t138 == 4) = true := beq_iff_eq.mpr c6
        have c6b1 : (t138 != 4) = false := bne_eq_false_iff_eq.mpr c6
        clear c6
        by_cases c7 : t139 = true
        · subst c7
          have H1 : (if t140 = 1 then (if t141 = true then ((hop_Has.f k (⟨#[69]⟩ : ByteArray)).bind fun t142 => (some t142)) else (some false)) else (some false)) = some r := by rw [if_pos rfl] at H; exact H
          clear H
          have H := H1
          clear H1
          by_cases c8 : t140 = 1
          · rw [if_pos c8] at H
            have c8b0 : (t140 == 1) = true := beq_iff_eq.mpr c8
            have c8b1 : (t140 != 1) = false := bne_eq_false_iff_eq.mpr c8
            clear c8
            by_cases c9 : t141 = true
            · subst c9
              have H1 : ((hop_Has.f k (⟨#[69]⟩ : ByteArray)).bind fun t142 => (some t142)) = some r := by rw [if_pos rfl] at H; exact H
              clear H
              have H := H1
              clear H1
              replace H := Option.bind_eq_some_iff.mp H
              obtain ⟨t142, A100, H⟩ := H
              replace H : (some t142) = some r := H
              have A10 := Aside0.mk A100
              clear A100
              obtain rfl := Option.some.inj H
              go_enter Try.func36, Try.ntmps36
              go_wp2_with (first | ((with_reducible refine gate_callee (f := 41) rfl ?_); refine goesL_ (some 8) rfl rfl Try.func41 (by kernel_rfl) rfl #[.string (⟨#[97, 98, 44, 32, 99]⟩ : ByteArray), .int .i64 0, .string (⟨#[119]⟩ : ByteArray), .int .i64 0] rfl (by (try simp only [List.map_toArray, List.map_cons, List.map_nil]); first | done | rfl | (simp only [List.length_drop, List.length_take]; rfl)) ?_; (with_reducible refine (hop_Go.calls k (⟨#[97, 98, 44, 32, 99]⟩ : ByteArray) 0 (⟨#[119]⟩ : ByteArray) 0 t136 true _ A1.out).mono ?_); rintro e w11 ⟨rfl, hb⟩; refine ⟨_, rfl, ?_⟩; have n0_ := Aside0.mk (below_step (by repeat (first | (with_reducible first | exact HB.out | apply below_alloc | apply pw_below_drewN | apply below_drew1) | exact HB.out)) hb); clear HB; have HB := n0_; clear n0_; (try clear hb); (try clear hb2); (try clear hk); (try clear hi)) | ((with_reducible refine gate_callee (f := 41) rfl ?_); refine goesL_ (some 12) rfl rfl Try.func41 (by kernel_rfl) rfl #[.string (⟨#[97, 98, 44, 32, 99]⟩ : ByteArray), .int .i64 0, .string (⟨#[87]⟩ : ByteArray), .int .i64 0] rfl (by (try simp only [List.map_toArray, List.map_cons, List.map_nil]); first | done | rfl | (simp only [List.length_drop, List.length_take]; rfl)) ?_; (with_reducible refine (hop_Go.calls k (⟨#[97, 98, 44, 32, 99]⟩ : ByteArray) 0 (⟨#[87]⟩ : ByteArray) 0 t138 true _ A2.out).mono ?_); rintro e w12 ⟨rfl, hb⟩; refine ⟨_, rfl, ?_⟩; have n0_ := Aside0.mk (below_step (by repeat (first | (with_reducible first | exact HB.out | apply below_alloc | apply pw_below_drewN | apply below_drew1) | exact HB.out)) hb); clear HB; have HB := n0_; clear n0_; (try clear hb); (try clear hb2); (try clear hk); (try clear hi)) | ((with_reducible refine gate_callee (f := 41) rfl ?_); refine goesL_ (some 16) rfl rfl Try.func41 (by kernel_rfl) rfl #[.string (⟨#[97, 98, 44, 32, 99]⟩ : ByteArray), .int .i64 0, .string (⟨#[101]⟩ : ByteArray), .int .i64 0] rfl (by (try simp only [List.map_toArray, List.map_cons, List.map_nil]); first | done | rfl | (simp only [List.length_drop, List.length_take]; rfl)) ?_; (with_reducible refine (hop_Go.calls k (⟨#[97, 98, 44, 32, 99]⟩ : ByteArray) 0 (⟨#[101]⟩ : ByteArray) 0 t140 true _ A3.out).mono ?_); rintro e w13 ⟨rfl, hb⟩; refine ⟨_, rfl, ?_⟩; have n0_ := Aside0.mk (below_step (by repeat (first | (with_reducible first | exact HB.out | apply below_alloc | apply pw_below_drewN | apply below_drew1) | exact HB.out)) hb); clear HB; have HB := n0_; clear n0_; (try clear hb); (try clear hb2); (try clear hk); (try clear hi)) | (go_at_call 43; (with_reducible refine (hop_Has.calls k (⟨#[69]⟩ : ByteArray) t142 _ A10.out).mono ?_); rintro e w14 ⟨rfl, hb⟩; have n0_ := Aside0.mk (below_step (by repeat (first | (with_reducible first | exact HB.out | apply below_alloc | apply pw_below_drewN | apply below_drew1) | exact HB.out)) hb); clear HB; have HB := n0_; clear n0_; (try clear hb); (try clear hb2); (try clear hk); (try clear hi)))
              go_ret
              exact ⟨by first | rfl | (simp [errW_none, errW_some] <;> rfl) | (simp [*, errW_none, errW_some] <;> rfl), by repeat (first | (with_reducible first | exact HB.out | apply below_alloc | apply pw_below_drewN | apply below_drew1) | exact HB.out)⟩
            · replace c9 := Bool.eq_false_iff.mpr c9
              subst c9
              have H1 : (some false) = some r := by rw [if_neg (show ¬ (false = true) by decide)] at H; exact H
              clear H
              have H := H1
              clear H1
              obtain rfl := Option.some.inj H
              go_enter Try.func36, Try.ntmps36
              go_wp2_with (first | ((with_reducible refine gate_callee (f := 41) rfl ?_); refine goesL_ (some 8) rfl rfl Try.func41 (by kernel_rfl) rfl #[.string (⟨#[97, 98, 44, 32, 99]⟩ : ByteArray), .int .i64 0, .string (⟨#[119]⟩ : ByteArray), .int .i64 0] rfl (by (try simp only [List.map_toArray, List.map_cons, List.map_nil]); first | done | rfl | (simp only [List.length_drop, List.length_take]; rfl)) ?_; (with_reducible refine (hop_Go.calls k (⟨#[97, 98, 44, 32, 99]⟩ : ByteArray) 0 (⟨#[119]⟩ : ByteArray) 0 t136 true _ A1.out).mono ?_); rintro e w15 ⟨rfl, hb⟩; refine ⟨_, rfl, ?_⟩; have n0_ := Aside0.mk (below_step (by repeat (first | (with_reducible first | exact HB.out | apply below_alloc | apply pw_below_drewN | apply below_drew1) | exact HB.out)) hb); clear HB; have HB := n0_; clear n0_; (try clear hb); (try clear hb2); (try clear hk); (try clear hi)) | ((with_reducible refine gate_callee (f := 41) rfl ?_); refine goesL_ (some 12) rfl rfl Try.func41 (by kernel_rfl) rfl #[.string (⟨#[97, 98, 44, 32, 99]⟩ : ByteArray), .int .i64 0, .string (⟨#[87]⟩ : ByteArray), .int .i64 0] rfl (by (try simp only [List.map_toArray, List.map_cons, List.map_nil]); first | done | rfl | (simp only [List.length_drop, List.length_take]; rfl)) ?_; (with_reducible refine (hop_Go.calls k (⟨#[97, 98, 44, 32, 99]⟩ : ByteArray) 0 (⟨#[87]⟩ : ByteArray) 0 t138 true _ A2.out).mono ?_); rintro e w16 ⟨rfl, hb⟩; refine ⟨_, rfl, ?_⟩; have n0_ := Aside0.mk (below_step (by repeat (first | (with_reducible first | exact HB.out | apply below_alloc | apply pw_below_drewN | apply below_drew1) | exact HB.out)) hb); clear HB; have HB := n0_; clear n0_; (try clear hb); (try clear hb2); (try clear hk); (try clear hi)) | ((with_reducible refine gate_callee (f := 41) rfl ?_); refine goesL_ (some 16) rfl rfl Try.func41 (by kernel_rfl) rfl #[.string (⟨#[97, 98, 44, 32, 99]⟩ : ByteArray), .int .i64 0, .string (⟨#[101]⟩ : ByteArray), .int .i64 0] rfl (by (try simp only [List.map_toArray, List.map_cons, List.map_nil]); first | done | rfl | (simp only [List.length_drop, List.length_take]; rfl)) ?_; (with_reducible refine (hop_Go.calls k (⟨#[97, 98, 44, 32, 99]⟩ : ByteArray) 0 (⟨#[101]⟩ : ByteArray) 0 t140 false _ A3.out).mono ?_); rintro e w17 ⟨rfl, hb⟩; refine ⟨_, rfl, ?_⟩; have n0_ := Aside0.mk (below_step (by repeat (first | (with_reducible first | exact HB.out | apply below_alloc | apply pw_below_drewN | apply below_drew1) | exact HB.out)) hb); clear HB; have HB := n0_; clear n0_; (try clear hb); (try clear hb2); (try clear hk); (try clear hi)))
              go_ret
              exact ⟨by first | rfl | (simp [errW_none, errW_some] <;> rfl) | (simp [*, errW_none, errW_some] <;> rfl), by repeat (first | (with_reducible first | exact HB.out | apply below_alloc | apply pw_below_drewN | apply below_drew1) | exact HB.out)⟩
          · rw [if_neg c8] at H
            have c8b0 : (t140 == 1) = false := beq_eq_false_iff_ne.mpr c8
            have c8b1 : (t140 != 1) = true := bne_iff_ne.mpr c8
            obtain rfl := Option.some.inj H
            go_enter Try.func36, Try.ntmps36
            go_wp2_with (first | ((with_reducible refine gate_callee (f := 41) rfl ?_); refine goesL_ (some 8) rfl rfl Try.func41 (by kernel_rfl) rfl #[.string (⟨#[97, 98, 44, 32, 99]⟩ : ByteArray), .int .i64 0, .string (⟨#[119]⟩ : ByteArray), .int .i64 0] rfl (by (try simp only [List.map_toArray, List.map_cons, List.map_nil]); first | done | rfl | (simp only [List.length_drop, List.length_take]; rfl)) ?_; (with_reducible refine (hop_Go.calls k (⟨#[97, 98, 44, 32, 99]⟩ : ByteArray) 0 (⟨#[119]⟩ : ByteArray) 0 t136 true _ A1.out).mono ?_); rintro e w18 ⟨rfl, hb⟩; refine ⟨_, rfl, ?_⟩; have n0_ := Aside0.mk (below_step (by repeat (first | (with_reducible first | exact HB.out | apply below_alloc | apply pw_below_drewN | apply below_drew1) | exact HB.out)) hb); clear HB; have HB := n0_; clear n0_; (try clear hb); (try clear hb2); (try clear hk); (try clear hi)) | ((with_reducible refine gate_callee (f := 41) rfl ?_); refine goesL_ (some 12) rfl rfl Try.func41 (by kernel_rfl) rfl #[.string (⟨#[97, 98, 44, 32, 99]⟩ : ByteArray), .int .i64 0, .string (⟨#[87]⟩ : ByteArray), .int .i64 0] rfl (by (try simp only [List.map_toArray, List.map_cons, List.map_nil]); first | done | rfl | (simp only [List.length_drop, List.length_take]; rfl)) ?_; (with_reducible refine (hop_Go.calls k (⟨#[97, 98, 44, 32, 99]⟩ : ByteArray) 0 (⟨#[87]⟩ : ByteArray) 0 t138 true _ A2.out).mono ?_); rintro e w19 ⟨rfl, hb⟩; refine ⟨_, rfl, ?_⟩; have n0_ := Aside0.mk (below_step (by repeat (first | (with_reducible first | exact HB.out | apply below_alloc | apply pw_below_drewN | apply below_drew1) | exact HB.out)) hb); clear HB; have HB := n0_; clear n0_; (try clear hb); (try clear hb2); (try clear hk); (try clear hi)) | ((with_reducible refine gate_callee (f := 41) rfl ?_); refine goesL_ (some 16) rfl rfl Try.func41 (by kernel_rfl) rfl #[.string (⟨#[97, 98, 44, 32, 99]⟩ : ByteArray), .int .i64 0, .string (⟨#[101]⟩ : ByteArray), .int .i64 0] rfl (by (try simp only [List.map_toArray, List.map_cons, List.map_nil]); first | done | rfl | (simp only [List.length_drop, List.length_take]; rfl)) ?_; (with_reducible refine (hop_Go.calls k (⟨#[97, 98, 44, 32, 99]⟩ : ByteArray) 0 (⟨#[101]⟩ : ByteArray) 0 t140 t141 _ A3.out).mono ?_); rintro e w20 ⟨rfl, hb⟩; refine ⟨_, rfl, ?_⟩; have n0_ := Aside0.mk (below_step (by repeat (first | (with_reducible first | exact HB.out | apply below_alloc | apply pw_below_drewN | apply below_drew1) | exact HB.out)) hb); clear HB; have HB := n0_; clear n0_; (try clear hb); (try clear hb2); (try clear hk); (try clear hi)))
            go_ret
            exact ⟨by first | rfl | (simp [errW_none, errW_some] <;> rfl) | (simp [*, errW_none, errW_some] <;> rfl), by repeat (first | (with_reducible first | exact HB.out | apply below_alloc | apply pw_below_drewN | apply below_drew1) | exact HB.out)⟩
        · replace c7 := Bool.eq_false_iff.mpr c7
          subst c7
          have H1 : (some false) = some r := by rw [if_neg (show ¬ (false = true) by decide)] at H; exact H
          clear H
          have H := H1
          clear H1
          obtain rfl := Option.some.inj H
          go_enter Try.func36, Try.ntmps36
          go_wp2_with (first | ((with_reducible refine gate_callee (f := 41) rfl ?_); refine goesL_ (some 8) rfl rfl Try.func41 (by kernel_rfl) rfl #[.string (⟨#[97, 98, 44, 32, 99]⟩ : ByteArray), .int .i64 0, .string (⟨#[119]⟩ : ByteArray), .int .i64 0] rfl (by (try simp only [List.map_toArray, List.map_cons, List.map_nil]); first | done | rfl | (simp only [List.length_drop, List.length_take]; rfl)) ?_; (with_reducible refine (hop_Go.calls k (⟨#[97, 98, 44, 32, 99]⟩ : ByteArray) 0 (⟨#[119]⟩ : ByteArray) 0 t136 true _ A1.out).mono ?_); rintro e w21 ⟨rfl, hb⟩; refine ⟨_, rfl, ?_⟩; have n0_ := Aside0.mk (below_step (by repeat (first | (with_reducible first | exact HB.out | apply below_alloc | apply pw_below_drewN | apply below_drew1) | exact HB.out)) hb); clear HB; have HB := n0_; clear n0_; (try clear hb); (try clear hb2); (try clear hk); (try clear hi)) | ((with_reducible refine gate_callee (f := 41) rfl ?_); refine goesL_ (some 12) rfl rfl Try.func41 (by kernel_rfl) rfl #[.string (⟨#[97, 98, 44, 32, 99]⟩ : ByteArray), .int .i64 0, .string (⟨#[87]⟩ : ByteArray), .int .i64 0] rfl (by (try simp only [List.map_toArray, List.map_cons, List.map_nil]); first | done | rfl | (simp only [List.length_drop, List.length_take]; rfl)) ?_; (with_reducible refine (hop_Go.calls k (⟨#[97, 98, 44, 32, 99]⟩ : ByteArray) 0 (⟨#[87]⟩ : ByteArray) 0 t138 false _ A2.out).mono ?_); rintro e w22 ⟨rfl, hb⟩; refine ⟨_, rfl, ?_⟩; have n0_ := Aside0.mk (below_step (by repeat (first | (with_reducible first | exact HB.out | apply below_alloc | apply pw_below_drewN | apply below_drew1) | exact HB.out)) hb); clear HB; have HB := n0_; clear n0_; (try clear hb); (try clear hb2); (try clear hk); (try clear hi)) | ((with_reducible refine gate_callee (f := 41) rfl ?_); refine goesL_ (some 16) rfl rfl Try.func41 (by kernel_rfl) rfl #[.string (⟨#[97, 98, 44, 32, 99]⟩ : ByteArray), .int .i64 0, .string (⟨#[101]⟩ : ByteArray), .int .i64 0] rfl (by (try simp only [List.map_toArray, List.map_cons, List.map_nil]); first | done | rfl | (simp only [List.length_drop, List.length_take]; rfl)) ?_; (with_reducible refine (hop_Go.calls k (⟨#[97, 98, 44, 32, 99]⟩ : ByteArray) 0 (⟨#[101]⟩ : ByteArray) 0 t140 t141 _ A3.out).mono ?_); rintro e w23 ⟨rfl, hb⟩; refine ⟨_, rfl, ?_⟩; have n0_ := Aside0.mk (below_step (by repeat (first | (with_reducible first | exact HB.out | apply below_alloc | apply pw_below_drewN | apply below_drew1) | exact HB.out)) hb); clear HB; have HB := n0_; clear n0_; (try clear hb); (try clear hb2); (try clear hk); (try clear hi)))
          go_ret
          exact ⟨by first | rfl | (simp [errW_none, errW_some] <;> rfl) | (simp [*, errW_none, errW_some] <;> rfl), by repeat (first | (with_reducible first | exact HB.out | apply below_alloc | apply pw_below_drewN | apply below_drew1) | exact HB.out)⟩
      · rw [if_neg c6] at H
        have c6b0 : (t138 == 4) = false := beq_eq_false_iff_ne.mpr c6
        have c6b1 : (t138 != 4) = true := bne_iff_ne.mpr c6
        obtain rfl := Option.some.inj H
        go_enter Try.func36, Try.ntmps36
        go_wp2_with (first | ((with_reducible refine gate_callee (f := 41) rfl ?_); refine goesL_ (some 8) rfl rfl Try.func41 (by kernel_rfl) rfl #[.string (⟨#[97, 98, 44, 32, 99]⟩ : ByteArray), .int .i64 0, .string (⟨#[119]⟩ : ByteArray), .int .i64 0] rfl (by (try simp only [List.map_toArray, List.map_cons, List.map_nil]); first | done | rfl | (simp only [List.length_drop, List.length_take]; rfl)) ?_; (with_reducible refine (hop_Go.calls k (⟨#[97, 98, 44, 32, 99]⟩ : ByteArray) 0 (⟨#[119]⟩ : ByteArray) 0 t136 true _ A1.out).mono ?_); rintro e w24 ⟨rfl, hb⟩; refine ⟨_, rfl, ?_⟩; have n0_ := Aside0.mk (below_step (by repeat (first | (with_reducible first | exact HB.out | apply below_alloc | apply pw_below_drewN | apply below_drew1) | exact HB.out)) hb); clear HB; have HB := n0_; clear n0_; (try clear hb); (try clear hb2); (try clear hk); (try clear hi)) | ((with_reducible refine gate_callee (f := 41) rfl ?_); refine goesL_ (some 12) rfl rfl Try.func41 (by kernel_rfl) rfl #[.string (⟨#[97, 98, 44, 32, 99]⟩ : ByteArray), .int .i64 0, .string (⟨#[87]⟩ : ByteArray), .int .i64 0] rfl (by (try simp only [List.map_toArray, List.map_cons, List.map_nil]); first | done | rfl | (simp only [List.length_drop, List.length_take]; rfl)) ?_; (with_reducible refine (hop_Go.calls k (⟨#[97, 98, 44, 32, 99]⟩ : ByteArray) 0 (⟨#[87]⟩ : ByteArray) 0 t138 t139 _ A2.out).mono ?_); rintro e w25 ⟨rfl, hb⟩; refine ⟨_, rfl, ?_⟩; have n0_ := Aside0.mk (below_step (by repeat (first | (with_reducible first | exact HB.out | apply below_alloc | apply pw_below_drewN | apply below_drew1) | exact HB.out)) hb); clear HB; have HB := n0_; clear n0_; (try clear hb); (try clear hb2); (try clear hk); (try clear hi)) | ((with_reducible refine gate_callee (f := 41) rfl ?_); refine goesL_ (some 16) rfl rfl Try.func41 (by kernel_rfl) rfl #[.string (⟨#[97, 98, 44, 32, 99]⟩ : ByteArray), .int .i64 0, .string (⟨#[101]⟩ : ByteArray), .int .i64 0] rfl (by (try simp only [List.map_toArray, List.map_cons, List.map_nil]); first | done | rfl | (simp only [List.length_drop, List.length_take]; rfl)) ?_; (with_reducible refine (hop_Go.calls k (⟨#[97, 98, 44, 32, 99]⟩ : ByteArray) 0 (⟨#[101]⟩ : ByteArray) 0 t140 t141 _ A3.out).mono ?_); rintro e w26 ⟨rfl, hb⟩; refine ⟨_, rfl, ?_⟩; have n0_ := Aside0.mk (below_step (by repeat (first | (with_reducible first | exact HB.out | apply below_alloc | apply pw_below_drewN | apply below_drew1) | exact HB.out)) hb); clear HB; have HB := n0_; clear n0_; (try clear hb); (try clear hb2); (try clear hk); (try clear hi)))
        go_ret
        exact ⟨by first | rfl | (simp [errW_none, errW_some] <;> rfl) | (simp [*, errW_none, errW_some] <;> rfl), by repeat (first | (with_reducible first | exact HB.out | apply below_alloc | apply pw_below_drewN | apply below_drew1) | exact HB.out)⟩
    · replace c5 := Bool.eq_false_iff.mpr c5
      subst c5
      have H1 : (some false) = some r := by rw [if_neg (show ¬ (false = true) by decide)] at H; exact H
      clear H
      have H := H1
      clear H1
      obtain rfl := Option.some.inj H
      go_enter Try.func36, Try.ntmps36
      go_wp2_with (first | ((with_reducible refine gate_callee (f := 41) rfl ?_); refine goesL_ (some 8) rfl rfl Try.func41 (by kernel_rfl) rfl #[.string (⟨#[97, 98, 44, 32, 99]⟩ : ByteArray), .int .i64 0, .string (⟨#[119]⟩ : ByteArray), .int .i64 0] rfl (by (try simp only [List.map_toArray, List.map_cons, List.map_nil]); first | done | rfl | (simp only [List.length_drop, List.length_take]; rfl)) ?_; (with_reducible refine (hop_Go.calls k (⟨#[97, 98, 44, 32, 99]⟩ : ByteArray) 0 (⟨#[119]⟩ : ByteArray) 0 t136 false _ A1.out).mono ?_); rintro e w27 ⟨rfl, hb⟩; refine ⟨_, rfl, ?_⟩; have n0_ := Aside0.mk (below_step (by repeat (first | (with_reducible first | exact HB.out | apply below_alloc | apply pw_below_drewN | apply below_drew1) | exact HB.out)) hb); clear HB; have HB := n0_; clear n0_; (try clear hb); (try clear hb2); (try clear hk); (try clear hi)) | ((with_reducible refine gate_callee (f := 41) rfl ?_); refine goesL_ (some 12) rfl rfl Try.func41 (by kernel_rfl) rfl #[.string (⟨#[97, 98, 44, 32, 99]⟩ : ByteArray), .int .i64 0, .string (⟨#[87]⟩ : ByteArray), .int .i64 0] rfl (by (try simp only [List.map_toArray, List.map_cons, List.map_nil]); first | done | rfl | (simp only [List.length_drop, List.length_take]; rfl)) ?_; (with_reducible refine (hop_Go.calls k (⟨#[97, 98, 44, 32, 99]⟩ : ByteArray) 0 (⟨#[87]⟩ : ByteArray) 0 t138 t139 _ A2.out).mono ?_); rintro e w28 ⟨rfl, hb⟩; refine ⟨_, rfl, ?_⟩; have n0_ := Aside0.mk (below_step (by repeat (first | (with_reducible first | exact HB.out | apply below_alloc | apply pw_below_drewN | apply below_drew1) | exact HB.out)) hb); clear HB; have HB := n0_; clear n0_; (try clear hb); (try clear hb2); (try clear hk); (try clear hi)) | ((with_reducible refine gate_callee (f := 41) rfl ?_); refine goesL_ (some 16) rfl rfl Try.func41 (by kernel_rfl) rfl #[.string (⟨#[97, 98, 44, 32, 99]⟩ : ByteArray), .int .i64 0, .string (⟨#[101]⟩ : ByteArray), .int .i64 0] rfl (by (try simp only [List.map_toArray, List.map_cons, List.map_nil]); first | done | rfl | (simp only [List.length_drop, List.length_take]; rfl)) ?_; (with_reducible refine (hop_Go.calls k (⟨#[97, 98, 44, 32, 99]⟩ : ByteArray) 0 (⟨#[101]⟩ : ByteArray) 0 t140 t141 _ A3.out).mono ?_); rintro e w29 ⟨rfl, hb⟩; refine ⟨_, rfl, ?_⟩; have n0_ := Aside0.mk (below_step (by repeat (first | (with_reducible first | exact HB.out | apply below_alloc | apply pw_below_drewN | apply below_drew1) | exact HB.out)) hb); clear HB; have HB := n0_; clear n0_; (try clear hb); (try clear hb2); (try clear hk); (try clear hi)))
      go_ret
      exact ⟨by first | rfl | (simp [errW_none, errW_some] <;> rfl) | (simp [*, errW_none, errW_some] <;> rfl), by repeat (first | (with_reducible first | exact HB.out | apply below_alloc | apply pw_below_drewN | apply below_drew1) | exact HB.out)⟩
  · rw [if_neg c4] at H
    have c4b0 : (t136 == 2) = false := beq_eq_false_iff_ne.mpr c4
    have c4b1 : (t136 != 2) = true := bne_iff_ne.mpr c4
    obtain rfl := Option.some.inj H
    go_enter Try.func36, Try.ntmps36
    go_wp2_with (first | ((with_reducible refine gate_callee (f := 41) rfl ?_); refine goesL_ (some 8) rfl rfl Try.func41 (by kernel_rfl) rfl #[.string (⟨#[97, 98, 44, 32, 99]⟩ : ByteArray), .int .i64 0, .string (⟨#[119]⟩ : ByteArray), .int .i64 0] rfl (by (try simp only [List.map_toArray, List.map_cons, List.map_nil]); first | done | rfl | (simp only [List.length_drop, List.length_take]; rfl)) ?_; (with_reducible refine (hop_Go.calls k (⟨#[97, 98, 44, 32, 99]⟩ : ByteArray) 0 (⟨#[119]⟩ : ByteArray) 0 t136 t137 _ A1.out).mono ?_); rintro e w30 ⟨rfl, hb⟩; refine ⟨_, rfl, ?_⟩; have n0_ := Aside0.mk (below_step (by repeat (first | (with_reducible first | exact HB.out | apply below_alloc | apply pw_below_drewN | apply below_drew1) | exact HB.out)) hb); clear HB; have HB := n0_; clear n0_; (try clear hb); (try clear hb2); (try clear hk); (try clear hi)) | ((with_reducible refine gate_callee (f := 41) rfl ?_); refine goesL_ (some 12) rfl rfl Try.func41 (by kernel_rfl) rfl #[.string (⟨#[97, 98, 44, 32, 99]⟩ : ByteArray), .int .i64 0, .string (⟨#[87]⟩ : ByteArray), .int .i64 0] rfl (by (try simp only [List.map_toArray, List.map_cons, List.map_nil]); first | done | rfl | (simp only [List.length_drop, List.length_take]; rfl)) ?_; (with_reducible refine (hop_Go.calls k (⟨#[97, 98, 44, 32, 99]⟩ : ByteArray) 0 (⟨#[87]⟩ : ByteArray) 0 t138 t139 _ A2.out).mono ?_); rintro e w31 ⟨rfl, hb⟩; refine ⟨_, rfl, ?_⟩; have n0_ := Aside0.mk (below_step (by repeat (first | (with_reducible first | exact HB.out | apply below_alloc | apply pw_below_drewN | apply below_drew1) | exact HB.out)) hb); clear HB; have HB := n0_; clear n0_; (try clear hb); (try clear hb2); (try clear hk); (try clear hi)) | ((with_reducible refine gate_callee (f := 41) rfl ?_); refine goesL_ (some 16) rfl rfl Try.func41 (by kernel_rfl) rfl #[.string (⟨#[97, 98, 44, 32, 99]⟩ : ByteArray), .int .i64 0, .string (⟨#[101]⟩ : ByteArray), .int .i64 0] rfl (by (try simp only [List.map_toArray, List.map_cons, List.map_nil]); first | done | rfl | (simp only [List.length_drop, List.length_take]; rfl)) ?_; (with_reducible refine (hop_Go.calls k (⟨#[97, 98, 44, 32, 99]⟩ : ByteArray) 0 (⟨#[101]⟩ : ByteArray) 0 t140 t141 _ A3.out).mono ?_); rintro e w32 ⟨rfl, hb⟩; refine ⟨_, rfl, ?_⟩; have n0_ := Aside0.mk (below_step (by repeat (first | (with_reducible first | exact HB.out | apply below_alloc | apply pw_below_drewN | apply below_drew1) | exact HB.out)) hb); clear HB; have HB := n0_; clear n0_; (try clear hb); (try clear hb2); (try clear hk); (try clear hi)))
    go_ret
    exact ⟨by first | rfl | (simp [errW_none, errW_some] <;> rfl) | (simp [*, errW_none, errW_some] <;> rfl), by repeat (first | (with_reducible first | exact HB.out | apply below_alloc | apply pw_below_drewN | apply below_drew1) | exact HB.out)⟩


end Go.Proofs.Ythjlhbblflmajaa.QX
/- hop.Has, hop.Go and the statements' examples: what they come to. -/
namespace Go.Proofs.Ythjlhbblflmajaa
open Go.RowKit
set_option linter.unusedVariables false
set_option linter.unusedSimpArgs false
namespace HX
open Go.RowKit Go.Proofs.Ythjlhbblflmajaa.QX Go.Proofs.YthjlhbblflmajaaW.PrintWords Go.Proofs.YthjlhbblflmajaaW.PrintMore
theorem cont_l0 (xs : List ByteArray) (a : ByteArray) (hn : xs.length ≤ 1000000) : ∀ (d i : Nat), xs.length - i ≤ d → i ≤ xs.length → ∃ R : Int, Ev (fun k => slices_Index_string_string.l0 k xs a (xs.length : Int) i) R ∧ (R ≥ 0 ↔ a.toList ∈ (xs.drop i).map ByteArray.toList) := by
  intro d
  induction d with
  | zero =>
    intro i hd hi
    refine ⟨-1, ?_, ?_⟩
    · refine Ev.step (fun _ => (by rw [slices_Index_string_string.l0])) ?_
      exact Ev.neg (by omega) (Ev.ret rfl)
    · rw [List.drop_eq_nil_of_le (by omega)]; simp
  | succ d ih =>
    intro i hd hi
    by_cases hlt : i < xs.length
    · have e : rdOf ByteArray.empty xs (i : Int) = xs[i] := by
        unfold rdOf; rw [Int.toNat_natCast]; simp [List.getD_eq_getElem?_getD, List.getElem?_eq_getElem hlt]
      by_cases hc : a.toList = xs[i].toList
      · refine ⟨(i : Int), ?_, ?_⟩
        · refine Ev.step (fun _ => (by rw [slices_Index_string_string.l0])) ?_
          rw [e]
          exact Ev.pos (by omega) (Ev.pos (by omega) (Ev.pos (by omega) (Ev.pos hc (Ev.ret rfl))))
        · rw [List.drop_eq_getElem_cons hlt, List.map_cons, hc]; exact ⟨fun _ => List.mem_cons_self .., fun _ => by omega⟩
      · obtain ⟨R, h1, h2⟩ := ih (i + 1) (by omega) (by omega)
        refine ⟨R, ?_, ?_⟩
        · refine Ev.step (fun _ => (by rw [slices_Index_string_string.l0])) ?_
          rw [e, w64 (n := (i : Int) + 1) (by omega) (by omega)]
          exact Ev.pos (by omega) (Ev.pos (by omega) (Ev.pos (by omega) (Ev.neg hc h1)))
        · rw [h2, List.drop_eq_getElem_cons hlt, List.map_cons, List.mem_cons]
          simp [hc]
    · exact ih i (by omega) hi
def hasK (a : ByteArray) : Bool := decide (a.toList ∈ ([[119], [98], [101], [87], [66], [69]] : List (List UInt8)))
theorem has_ev (a : ByteArray) : Ev (fun k => hop_Has.f k a) (hasK a) := by
  obtain ⟨R, h1, h2⟩ := cont_l0 [⟨#[119]⟩, ⟨#[98]⟩, ⟨#[101]⟩, ⟨#[87]⟩, ⟨#[66]⟩, ⟨#[69]⟩] a (by simp) 6 0 (by simp) (by simp)
  unfold hop_Has.f slices_Contains_string_string.f slices_Index_string_string.f
  refine Ev.bind (Ev.bind h1 (Ev.ret rfl)) (Ev.ret ?_)
  unfold hasK
  refine decide_eq_decide.2 (h2.trans ?_)
  simp only [List.drop_zero, List.map_cons, List.map_nil, toList_ls]
theorem behind_ev {xs : List Int} (p : Int) (hp : -1000000000 ≤ p ∧ p ≤ 1000000000) (hn : xs.length ≤ 1099511627776) (hs : xs.Pairwise (· < ·)) : Ev (fun k => hop_behind.f k xs p) (lessN xs (p + 1) : Int) := by
  unfold hop_behind.f
  rw [w64 (n := p + 1) (by omega) (by omega)]
  exact Ev.bind (bs_ev (p + 1) hn hs) (Ev.ret rfl)
theorem ahead_ev {xs : List Int} (p : Int) (hn : xs.length ≤ 1099511627776) (hs : xs.Pairwise (· < ·)) : Ev (fun k => hop_ahead.f k xs p) (lessN xs p : Int) := by
  unfold hop_ahead.f
  exact Ev.bind (bs_ev p hn hs) (Ev.ret rfl)
theorem starts_le {l : List UInt8} {big : Bool} : ∀ k (hk : k < (startsI l big).length), (startsI l big)[k] ≤ (l.length : Int) := by
  intro k hk
  obtain ⟨q, hq, hl⟩ := place_int (starts_place (List.getElem_mem hk))
  rw [hq]; omega
theorem go_j1w (t : ByteArray) (p : Int) (m : Nat) (big : Bool) (x : ByteArray) (ht : t.size ≤ 1000000) (hp : 0 ≤ p ∧ p ≤ t.size) (hm : 1 ≤ m ∧ m ≤ 1000000) :
    Ev (fun k => hop_Go.j1 k t p m big x true) (goS (stW (startsI (ls t) big) (ls t).length) p m) := by
  have hl := startsI_len (ls t) big
  have hs := starts_rise (ls t) big
  have hle := starts_le (l := ls t) (big := big)
  rw [ls_len] at hl hle
  refine Ev.step (fun _ => (by rw [hop_Go.j1])) ?_
  rw [hop_Starts.eq t big (by omega)]
  simp only [Option.bind_some]
  refine Ev.pos trivial ?_
  rw [ls_len]
  generalize startsI (ls t) big = st at *
  refine Ev.ite (fun h => Ev.ret ?_) (fun h => ?_)
  · have hg : lessN st (p + 1) = st.length := less_gt fun k hk => by have := hle k hk; omega
    unfold goS stW
    rw [hg, if_neg (by omega), if_neg (by omega)]
  · refine Ev.bind (behind_ev p (by omega) (by omega) hs) ?_
    have hc := lessN_le st (p + 1)
    rw [w64 (n := (st.length : Int) - (lessN st (p + 1) : Int)) (by omega) (by omega), w64 (n := (lessN st (p + 1) : Int) + (m : Int)) (by omega) (by omega), w64 (n := (lessN st (p + 1) : Int) + (m : Int) - 1) (by omega) (by omega)]
    have hr := run_W hs hle m p (by omega)
    have hf : ∃ q, stW st t.size p = some q := by
      unfold stW
      by_cases h2 : lessN st (p + 1) < st.length
      · exact ⟨_, by rw [if_pos h2]⟩
      · exact ⟨_, by rw [if_neg h2, if_pos (by omega)]⟩
    obtain ⟨q, hf⟩ := hf
    unfold goS
    rw [hf]
    dsimp only
    rw [hr, if_neg (show ¬ m = 0 by omega)]
    refine Ev.ite (fun h2 => Ev.pos (by omega) (Ev.pos (by omega) (Ev.ret ?_))) (fun h2 => Ev.ret ?_)
    · rw [if_pos (by omega)]
      have : (lessN st (p + 1) : Int) + (m : Int) - 1 = ((lessN st (p + 1) + m - 1 : Nat) : Int) := by omega
      rw [this, rd_getD]
    · rw [if_neg (by omega), if_pos (by omega)]
theorem go_j2b (t : ByteArray) (p : Int) (m : Nat) (big : Bool) (ht : t.size ≤ 1000000) (hm : 1 ≤ m ∧ m ≤ 1000000) :
    Ev (fun k => hop_Go.j2 k t p m big true) (goS (stB (startsI (ls t) big)) p m) := by
  have hl := startsI_len (ls t) big
  have hs := starts_rise (ls t) big
  rw [ls_len] at hl
  refine Ev.step (fun _ => (by rw [hop_Go.j2])) ?_
  rw [hop_Starts.eq t big (by omega)]
  simp only [Option.bind_some]
  refine Ev.pos trivial ?_
  generalize startsI (ls t) big = st at *
  refine Ev.bind (ahead_ev p (by omega) hs) ?_
  have hc := lessN_le st p
  rw [mn_eq, w64 (n := (lessN st p : Int) - min (m : Int) (lessN st p : Int)) (by omega) (by omega), mx_eq]
  refine Ev.ite (fun h => Ev.ret ?_) (fun h => ?_)
  · unfold goS stB
    rw [if_pos (by omega)]
  · refine Ev.pos (by omega) (Ev.pos (by omega) (Ev.ret ?_))
    unfold goS
    have hf : stB st p = some (st.getD (lessN st p - 1) 0) := by unfold stB; rw [if_neg (by omega)]
    rw [hf]
    dsimp only
    rw [run_B hs, if_neg (show ¬ (m = 0 ∨ lessN st p = 0) by omega)]
    have : max ((lessN st p : Int) - min (m : Int) (lessN st p : Int)) 0 = ((lessN st p - min m (lessN st p) : Nat) : Int) := by omega
    rw [this, rd_getD]
theorem go_j2e (t : ByteArray) (p : Int) (m : Nat) (big : Bool) (ht : t.size ≤ 1000000) (hp : 0 ≤ p ∧ p ≤ t.size) (hm : 1 ≤ m ∧ m ≤ 1000000) :
    Ev (fun k => hop_Go.j2 k t p m big false) (goS (stE (endsI (ls t) big)) p m) := by
  have hl := endsI_len (ls t) big
  have hs := ends_rise (ls t) big
  rw [ls_len] at hl
  refine Ev.step (fun _ => (by rw [hop_Go.j2])) ?_
  rw [hop_Ends.eq t big (by omega)]
  simp only [Option.bind_some]
  refine Ev.neg (by decide) ?_
  generalize endsI (ls t) big = st at *
  refine Ev.bind (behind_ev p (by omega) (by omega) hs) ?_
  have hc := lessN_le st (p + 1)
  rw [mn_eq, mn_eq, w64 (n := (lessN st (p + 1) : Int) + min (m : Int) (st.length : Int)) (by omega) (by omega), w64 (n := (lessN st (p + 1) : Int) + min (m : Int) (st.length : Int) - 1) (by omega) (by omega), w64 (n := (st.length : Int) - 1) (by omega) (by omega)]
  refine Ev.ite (fun h => Ev.ret ?_) (fun h => ?_)
  · unfold goS stE
    rw [if_neg (by omega)]
  · refine Ev.pos (by omega) (Ev.pos (by omega) (Ev.ret ?_))
    unfold goS
    have hf : stE st p = some (st.getD (lessN st (p + 1)) 0) := by unfold stE; rw [if_pos (by omega)]
    rw [hf]
    dsimp only
    rw [run_E hs, if_neg (show ¬ (m = 0 ∨ lessN st (p + 1) = st.length) by omega)]
    have : min ((lessN st (p + 1) : Int) + min (m : Int) (st.length : Int) - 1) ((st.length : Int) - 1) = ((min (lessN st (p + 1) + m - 1) (st.length - 1) : Nat) : Int) := by omega
    rw [this, rd_getD]
def kdK (a : ByteArray) : Nat := if a.toList = [119] ∨ a.toList = [87] then 0 else if a.toList = [98] ∨ a.toList = [66] then 1 else 2
def bigK (a : ByteArray) : Bool := Op.bytesLess a.toList [97]
def goI (l : List UInt8) (p : Int) (key : ByteArray) (n : Int) : Int × Bool := if hasK key = true ∧ placeB l p = true then goS (stepH l (kdK key) (bigK key)) p (max n 1).toNat else (0, false)
theorem hasK_six {a : ByteArray} (h : hasK a = true) : a.toList = [119] ∨ a.toList = [98] ∨ a.toList = [101] ∨ a.toList = [87] ∨ a.toList = [66] ∨ a.toList = [69] := by
  unfold hasK at h
  simpa using h
theorem hop_go (t : ByteArray) (p : Int) (key : ByteArray) (n : Int) (ht : t.size ≤ 1000000) (hn : n ≤ 1000000) : Ev (fun k => hop_Go.f k t p key n) (goI (ls t) p key n) := by
  unfold hop_Go.f goI
  refine Ev.bind (has_ev key) ?_
  rw [utf_Place.eq t p (by omega)]
  simp only [Option.bind_some]
  rcases Bool.eq_false_or_eq_true (hasK key) with hk | hk
  · refine Ev.pos hk ?_
    rcases Bool.eq_false_or_eq_true (placeB (ls t) p) with hv | hv
    · rw [if_pos ⟨hk, hv⟩, hv]
      have hq : 0 ≤ p ∧ p ≤ t.size := by
        rcases place_cases t p with h2 | ⟨k, rfl, hk, _⟩
        · rw [hv] at h2; cases h2
        · omega
      obtain ⟨m, hm⟩ : ∃ m : Nat, (m : Int) = max n 1 := ⟨(max n 1).toNat, by omega⟩
      have hm2 : 1 ≤ m ∧ m ≤ 1000000 := by omega
      refine Ev.step (fun _ => (by rw [hop_Go.j0])) ?_
      rw [mx_eq, ← hm, Int.toNat_natCast]
      refine Ev.neg (by decide) ?_
      have hb : bigK key = Op.bytesLess key.toList [97] := rfl
      rw [← hb]
      generalize bigK key = big
      have kw := go_j1w t p m big key ht hq hm2
      have kb := go_j2b t p m big ht hm2
      have ke := go_j2e t p m big ht hq hm2
      rcases hasK_six hk with h | h | h | h | h | h
      all_goals simp only [kdK, h]
      · exact Ev.pos (by decide) kw
      · refine Ev.neg (by decide) ?_
        refine Ev.step (fun _ => (by rw [hop_Go.j1])) ?_
        refine Ev.neg (by decide) ?_
        simp only [h]
        exact Ev.pos (by decide) kb
      · refine Ev.neg (by decide) ?_
        refine Ev.step (fun _ => (by rw [hop_Go.j1])) ?_
        refine Ev.neg (by decide) ?_
        simp only [h]
        exact Ev.neg (by decide) ke
      · exact Ev.neg (by decide) kw
      · refine Ev.neg (by decide) ?_
        refine Ev.step (fun _ => (by rw [hop_Go.j1])) ?_
        refine Ev.neg (by decide) ?_
        simp only [h]
        exact Ev.neg (by decide) kb
      · refine Ev.neg (by decide) ?_
        refine Ev.step (fun _ => (by rw [hop_Go.j1])) ?_
        refine Ev.neg (by decide) ?_
        simp only [h]
        exact Ev.neg (by decide) ke
    · rw [if_neg (by simp [hv]), hv]
      refine Ev.step (fun _ => (by rw [hop_Go.j0])) ?_
      exact Ev.pos rfl (Ev.ret rfl)
  · refine Ev.neg (by rw [hk]; decide) ?_
    rw [if_neg (by simp [hk])]
    refine Ev.step (fun _ => (by rw [hop_Go.j0])) ?_
    exact Ev.pos rfl (Ev.ret rfl)
theorem lives_ev : Ev (fun k => calamuslaw15_lives.f k) true := by
  unfold calamuslaw15_lives.f
  refine Ev.bind (Ev.eq (hop_go _ _ _ _ (by decide) (by decide)) (show _ = ((2, true) : Int × Bool) by decide +kernel)) ?_
  refine Ev.bind (Ev.eq (hop_go _ _ _ _ (by decide) (by decide)) (show _ = ((4, true) : Int × Bool) by decide +kernel)) ?_
  refine Ev.bind (Ev.eq (hop_go _ _ _ _ (by decide) (by decide)) (show _ = ((1, true) : Int × Bool) by decide +kernel)) ?_
  refine Ev.pos rfl (Ev.pos rfl (Ev.pos rfl (Ev.pos rfl (Ev.pos rfl (Ev.pos rfl ?_)))))
  exact Ev.bind (Ev.eq (has_ev _) (show _ = true by decide +kernel)) (Ev.ret rfl)
end HX
end Go.Proofs.Ythjlhbblflmajaa
