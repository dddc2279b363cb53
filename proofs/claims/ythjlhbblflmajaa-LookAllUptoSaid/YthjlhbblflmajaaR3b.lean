/- The contracts of the reference calamusref03, by its places. -/
import Derived.Test.YthjlhbblflmajaaR3a
import Derived.Test.YthjlhbblflmajaaMU3
import Derived.Test.YthjlhbblflmajaaSl
namespace Go.Proofs.Ythjlhbblflmajaa
open Go.RowKit
set_option linter.unusedVariables false
set_option linter.unusedSimpArgs false
theorem is_ext (s : ByteArray) (i n : Nat) (hn : 1 ≤ n) (hi : i + n ≤ s.size) : isL (ls (s.extract i (i + n))) = decide (szL ((ls s).drop i) = n) := by
  rw [ls_ext2, Nat.add_sub_cancel_left]
  exact is_take _ n hn (by rw [List.length_drop, ls_len]; omega)
/-- The places so far. -/
def upTo (l : List UInt8) (i : Nat) : List Int := (plcTo l i).map Int.ofNat ++ [(i : Int)]
theorem upTo_len (l : List UInt8) (i : Nat) : (upTo l i).length ≤ i + 1 := by unfold upTo; have := plcTo_len l i; simp; omega
theorem upTo_next (l : List UInt8) (i n : Nat) (hn : szL (l.drop i) = n) (h0 : n ≠ 0) : upTo l i ++ [(i : Int) + n] = upTo l (i + n) := by
  unfold upTo; rw [plcTo_add l i n hn h0]; simp
theorem upTo_end (l : List UInt8) (h : validL l = true) : upTo l l.length = splitI l := by rw [splitI_ok h]; rfl
set_option maxHeartbeats 4000000 in
set_option maxRecDepth 100000 in
theorem rsplit_c (s : ByteArray) (w : World) (hs : s.size ≤ 1099511627775) : Calls Try.prog 71 #[.string s] w fun e w' => ∃ a cap, e = .returned (.slice a (splitI (ls s)).length cap) ∧ OwnI w.heap.size w' a cap (splitI (ls s)) ∧ Ext w w' := by
  go_enter Try.func71, Try.ntmps71
  go_wp2
  go_loopw [3, 4] (fun v i wr => ∃ (k : Nat) (a : Option Addr) (cap : Nat), k ≤ s.size ∧ i = .int .i64 k ∧ v = .slice a (upTo (ls s) k).length cap ∧ OwnI w.heap.size wr a cap (upTo (ls s) k) ∧ validL ((ls s).drop k) = validL (ls s) ∧ Ext w wr) (fun _ i _ => s.size - (intOf i).toNat)
  case atStart => exact ⟨0, some ⟨w.heap.size, 0, none⟩, 1, by omega, rfl, rfl, OwnI.lit w (Nat.le_refl _) [0] _ rfl (by simp), by simp, (by (repeat (first | exact Ext.refl _ | exact ‹Ext _ _› | refine Ext.alloc ?_ _ | refine Ext.drew ?_ | refine Ext.drewN ?_ _ | (refine Ext.setCell ?_ (by first | omega | (simp; done) | (simp; omega)) _) | refine Ext.trans ?_ ‹Ext _ _›)))⟩
  case round =>
    obtain ⟨k, a, cap, hk, rfl, rfl, hown, hok, hx⟩ := hrel
    have Hok := Lib.hid hok
    have Hown := Lib.hid hown
    clear hok hown
    have hul := upTo_len (ls s) k
    by_cases hlt : k < s.size
    · obtain ⟨wo, rfl⟩ : ∃ wo : World, wo = wr := ⟨_, rfl⟩
      go_wp2
      go_loopw [5] (fun v w2 => ∃ n : Nat, 1 ≤ n ∧ n ≤ 5 ∧ v = .int .i64 n ∧ (szL ((ls s).drop k) = 0 ∨ n ≤ szL ((ls s).drop k)) ∧ Ext wo w2) (fun v _ => 5 - (intOf v).toNat)
      case atStart => exact ⟨1, by omega, by omega, rfl, by omega, (by (repeat (first | exact Ext.refl _ | exact ‹Ext _ _› | refine Ext.alloc ?_ _ | refine Ext.drew ?_ | refine Ext.drewN ?_ _ | (refine Ext.setCell ?_ (by first | omega | (simp; done) | (simp; omega)) _) | refine Ext.trans ?_ ‹Ext _ _›)))⟩
      case round =>
        obtain ⟨n, hn1, hn5, rfl, hz, hx2⟩ := hrel
        have hlu := upTo_len (ls s) k
        go_wp2_with (first | (go_at_call 85; refine (ris_c _ _).mono ?_; rintro e w1 ⟨rfl, hx1⟩) | (at_builtin; refine app_i w _ rfl _ _ rfl _ _ (upTo (ls s) k) _ rfl (Hown.out.ext (by (repeat (first | exact Ext.refl _ | exact ‹Ext _ _› | refine Ext.alloc ?_ _ | refine Ext.drew ?_ | refine Ext.drewN ?_ _ | (refine Ext.setCell ?_ (by first | omega | (simp; done) | (simp; omega)) _) | refine Ext.trans ?_ ‹Ext _ _›)))) (by (repeat (first | exact Ext.refl _ | exact ‹Ext _ _› | refine Ext.alloc ?_ _ | refine Ext.drew ?_ | refine Ext.drewN ?_ _ | (refine Ext.setCell ?_ (by first | omega | (simp; done) | (simp; omega)) _) | refine Ext.trans ?_ ‹Ext _ _›))) rfl (by omega) ?_; intro a2 cap2 w2 hown2 hx2))
        all_goals (try simp only [Bool.not_eq_true', Bool.not_eq_false'] at *)
        · go_roundw
          case rel =>
            have hi : isL (ls (s.extract k (k + n))) = false := by rename_i h; rcases h with h | h; (exfalso; omega); exact h
            rw [is_ext s k n hn1 (by omega), decide_eq_false_iff_not] at hi
            exact ⟨n + 1, by omega, by omega, by go_num, by omega, (by (repeat (first | exact Ext.refl _ | exact ‹Ext _ _› | refine Ext.alloc ?_ _ | refine Ext.drew ?_ | refine Ext.drewN ?_ _ | (refine Ext.setCell ?_ (by first | omega | (simp; done) | (simp; omega)) _) | refine Ext.trans ?_ ‹Ext _ _›)))⟩
          case measure => simp [intOf]; omega
        · have hi : isL (ls (s.extract k (k + n))) = true := by
            have h : (k : Int) + n ≤ s.size ∧ isL (ls (s.extract k (k + n))) = true := by assumption
            exact h.2
          rw [is_ext s k n hn1 (by omega), decide_eq_true_eq] at hi
          go_roundw
          case rel =>
            have hnx := upTo_next (ls s) k n hi (by omega)
            refine ⟨k + n, a2, cap2, by omega, by go_num, ?_, ?_, ?_, (by (repeat (first | exact Ext.refl _ | exact ‹Ext _ _› | refine Ext.alloc ?_ _ | refine Ext.drew ?_ | refine Ext.drewN ?_ _ | (refine Ext.setCell ?_ (by first | omega | (simp; done) | (simp; omega)) _) | refine Ext.trans ?_ ‹Ext _ _›)))⟩
            · rw [← hnx]; simp
            · rw [← hnx]; exact hown2
            · rw [← Hok.out, validL_step (l := (ls s).drop k) (by rw [List.length_drop, ls_len]; omega) (by omega), hi, List.drop_drop]
          case measure => simp [intOf]; omega
        · go_roundw
          case rel =>
            have hz2 := szL_le ((ls s).drop k)
            rw [List.length_drop, ls_len] at hz2
            exact ⟨n + 1, by omega, by omega, by go_num, by omega, (by (repeat (first | exact Ext.refl _ | exact ‹Ext _ _› | refine Ext.alloc ?_ _ | refine Ext.drew ?_ | refine Ext.drewN ?_ _ | (refine Ext.setCell ?_ (by first | omega | (simp; done) | (simp; omega)) _) | refine Ext.trans ?_ ‹Ext _ _›)))⟩
          case measure => simp [intOf]; omega
        · have hz4 := szL_hi ((ls s).drop k)
          have hv : validL (ls s) = false := by rw [← Hok.out]; exact validL_bad (by rw [List.length_drop, ls_len]; omega) (by omega)
          go_ret
          exact ⟨none, 0, by rw [splitI_bad hv]; rfl, by rw [splitI_bad hv]; exact OwnI.nil _ _, (by (repeat (first | exact Ext.refl _ | exact ‹Ext _ _› | refine Ext.alloc ?_ _ | refine Ext.drew ?_ | refine Ext.drewN ?_ _ | (refine Ext.setCell ?_ (by first | omega | (simp; done) | (simp; omega)) _) | refine Ext.trans ?_ ‹Ext _ _›)))⟩
    · have hk' : k = s.size := by omega
      subst hk'
      have hv : validL (ls s) = true := by rw [← Hok.out, ← ls_len s, List.drop_length]; exact validL_nil
      have He : Hid (upTo (ls s) s.size = splitI (ls s)) := Lib.hid (by rw [← ls_len s]; exact upTo_end _ hv)
      go_wp2
      go_ret
      exact ⟨a, cap, by first | rfl | (simp; done) | (rw [← He.out]; rfl) | (simp [He.out]; done), by rw [← He.out]; exact Hown.out, (by (repeat (first | exact Ext.refl _ | exact ‹Ext _ _› | refine Ext.alloc ?_ _ | refine Ext.drew ?_ | refine Ext.drewN ?_ _ | (refine Ext.setCell ?_ (by first | omega | (simp; done) | (simp; omega)) _) | refine Ext.trans ?_ ‹Ext _ _›)))⟩

set_option maxHeartbeats 4000000 in
set_option maxRecDepth 100000 in
theorem rfind_c (a : Option Addr) (cap : Nat) (xs : List Int) (p : Int) (w : World) (hr : RdI w a xs) (hl : xs.length ≤ 1152921504606846976) : Calls Try.prog 74 #[.slice a xs.length cap, .int .i64 p] w fun e w' => e = .returned (.int .i64 (findF xs p 0)) ∧ Ext w w' := by
  have HR := Lib.hid hr
  clear hr
  go_enter Try.func74, Try.ntmps74
  go_wp2
  go_loopw [5] (fun i wr => ∃ k : Nat, k ≤ xs.length ∧ i = .int .i64 k ∧ findF (xs.drop k) p k = findF xs p 0 ∧ Ext w wr) (fun i _ => xs.length - (intOf i).toNat)
  case atStart => exact ⟨0, by omega, rfl, by simp, (by (repeat (first | exact Ext.refl _ | exact ‹Ext _ _› | refine Ext.alloc ?_ _ | refine Ext.drew ?_ | refine Ext.drewN ?_ _ | (refine Ext.setCell ?_ (by first | omega | (simp; done) | (simp; omega)) _) | refine Ext.trans ?_ ‹Ext _ _›)))⟩
  case round =>
    obtain ⟨k, hk, rfl, hok, hx⟩ := hrel
    have Hok := Lib.hid hok
    clear hok
    by_cases hlt : k < xs.length
    · have Hs := Lib.hid (findF_step xs p k hlt)
      obtain ⟨g, o, rfl, hc⟩ := (HR.out.ext hx) k hlt
      go_wp2
      all_goals (try simp only [beq_iff_eq, beq_eq_false_iff_ne] at *)
      · go_ret
        refine ⟨ret1 ?_, (by (repeat (first | exact Ext.refl _ | exact ‹Ext _ _› | refine Ext.alloc ?_ _ | refine Ext.drew ?_ | refine Ext.drewN ?_ _ | (refine Ext.setCell ?_ (by first | omega | (simp; done) | (simp; omega)) _) | refine Ext.trans ?_ ‹Ext _ _›)))⟩
        rw [← Hok.out, Hs.out, if_pos (by assumption)]
      · go_roundw
        case rel =>
          refine ⟨k + 1, by omega, by go_num, ?_, (by (repeat (first | exact Ext.refl _ | exact ‹Ext _ _› | refine Ext.alloc ?_ _ | refine Ext.drew ?_ | refine Ext.drewN ?_ _ | (refine Ext.setCell ?_ (by first | omega | (simp; done) | (simp; omega)) _) | refine Ext.trans ?_ ‹Ext _ _›)))⟩
          rw [← Hok.out, Hs.out, if_neg (by assumption)]
        case measure => simp [intOf]; omega
    · have Hs := Lib.hid (findF_end xs p k (by omega))
      go_wp2
      go_ret
      exact ⟨ret1 (by rw [← Hok.out, Hs.out]), (by (repeat (first | exact Ext.refl _ | exact ‹Ext _ _› | refine Ext.alloc ?_ _ | refine Ext.drew ?_ | refine Ext.drewN ?_ _ | (refine Ext.setCell ?_ (by first | omega | (simp; done) | (simp; omega)) _) | refine Ext.trans ?_ ‹Ext _ _›)))⟩

set_option maxHeartbeats 4000000 in
set_option maxRecDepth 100000 in
theorem rvalid_c (s : ByteArray) (w : World) (hs : s.size ≤ 1099511627775) : Calls Try.prog 54 #[.string s] w fun e w' => e = .returned (.bool (validL (ls s))) ∧ Ext w w' := by
  have hsl := splitI_len (ls s)
  rw [ls_len] at hsl
  have Hv : Hid (decide (0 < (splitI (ls s)).length) = validL (ls s)) := Lib.hid (by
    unfold splitI plcs
    rcases Bool.eq_false_or_eq_true (validL (ls s)) with h | h <;> simp [h])
  go_enter Try.func54, Try.ntmps54
  go_wp2_with (first | (go_at_call 71; refine (rsplit_c _ _ hs).mono ?_; rintro e w1 ⟨a, cap, rfl, hown, hx1⟩))
  all_goals (go_ret; exact ⟨retb Hv.out, (by (repeat (first | exact Ext.refl _ | exact ‹Ext _ _› | refine Ext.alloc ?_ _ | refine Ext.drew ?_ | refine Ext.drewN ?_ _ | (refine Ext.setCell ?_ (by first | omega | (simp; done) | (simp; omega)) _) | refine Ext.trans ?_ ‹Ext _ _›)))⟩)

set_option maxHeartbeats 4000000 in
set_option maxRecDepth 100000 in
theorem rplace_c (s : ByteArray) (p : Int) (w : World) (hs : s.size ≤ 1099511627775) : Calls Try.prog 56 #[.string s, .int .i64 p] w fun e w' => e = .returned (.bool (placeB (ls s) p)) ∧ Ext w w' := by
  have hsl := splitI_len (ls s)
  rw [ls_len] at hsl
  have Hp := Lib.hid (place_find (ls s) p)
  go_enter Try.func56, Try.ntmps56
  go_wp2_with (first | (go_at_call 71; refine (rsplit_c _ _ hs).mono ?_; rintro e w1 ⟨a, cap, rfl, hown, hx1⟩) | (go_at_call 74; refine (rfind_c _ _ (splitI (ls s)) _ _ (OwnI.rd (by assumption)) (by omega)).mono ?_; rintro e w1 ⟨rfl, hx1⟩))
  all_goals (go_ret; exact ⟨retb Hp.out, (by (repeat (first | exact Ext.refl _ | exact ‹Ext _ _› | refine Ext.alloc ?_ _ | refine Ext.drew ?_ | refine Ext.drewN ?_ _ | (refine Ext.setCell ?_ (by first | omega | (simp; done) | (simp; omega)) _) | refine Ext.trans ?_ ‹Ext _ _›)))⟩)

end Go.Proofs.Ythjlhbblflmajaa
