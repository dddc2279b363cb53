/- The contracts of the package utf: what each of its functions hands back. -/
import Derived.Test.YthjlhbblflmajaaU
namespace Go.Proofs.Ythjlhbblflmajaa
open Go.RowKit
set_option linter.unusedVariables false
set_option linter.unusedSimpArgs false
theorem inn_bits : ∀ n : Fin 256, (bits BinOp.and IntKind.u8 (n.val : Int) 192 == 128) = inn n.val := by decide +kernel
theorem inn_eq (b : Int) (h0 : 0 ≤ b) (h1 : b ≤ 255) : (bits BinOp.and IntKind.u8 b 192 == 128) = inn b := by
  have := inn_bits ⟨b.toNat, by omega⟩
  simpa [Int.toNat_of_nonneg h0] using this
set_option maxHeartbeats 4000000 in
set_option maxRecDepth 100000 in
theorem inner_c (b : Int) (h0 : 0 ≤ b) (h1 : b ≤ 255) (w : World) : Calls Try.prog 57 #[.int .u8 b] w fun e w' => e = .returned (.bool (inn b)) ∧ Ext w w' := by
  go_enter Try.func57, Try.ntmps57
  go_wp2
  go_ret
  exact ⟨retb (inn_eq b h0 h1), (by (repeat (first | exact Ext.refl _ | exact ‹Ext _ _› | refine Ext.alloc ?_ _ | refine Ext.drew ?_ | refine Ext.drewN ?_ _ | (refine Ext.setCell ?_ (by first | omega | (simp; done) | (simp; omega)) _) | refine Ext.trans ?_ ‹Ext _ _›)))⟩

theorem inner_u (b : UInt8) (w : World) : Calls Try.prog 57 #[.int .u8 b.toNat] w fun e w' => e = .returned (.bool (inn b.toNat)) ∧ Ext w w' :=
  inner_c _ (by omega) (by have := b.toNat_lt; omega) w

theorem place_at (s : ByteArray) (p : Int) (h0 : 0 ≤ p) (h1 : p < s.size) : placeB (ls s) p = (!inn ↑s[p.toNat].toNat && validL (ls s)) := by
  unfold placeB
  rw [byL_eq s p.toNat (by omega), ls_len]
  have a : decide (0 ≤ p) = true := decide_eq_true h0
  have b : decide (p ≤ s.size) = true := decide_eq_true (by omega)
  have c : decide (p = s.size) = false := decide_eq_false (by omega)
  simp [a, b, c]
theorem place_out (s : ByteArray) (p : Int) (h : p < 0 ∨ s.size < p) : placeB (ls s) p = false := by
  unfold placeB; rw [ls_len]
  rcases h with h | h
  · have a : decide (0 ≤ p) = false := decide_eq_false (by omega)
    simp [a]
  · have a : decide (p ≤ s.size) = false := decide_eq_false (by omega)
    simp [a]
theorem place_end (s : ByteArray) (p : Int) (h : p = s.size) : placeB (ls s) p = validL (ls s) := by
  unfold placeB; rw [ls_len]; subst h; simp
set_option maxHeartbeats 4000000 in
set_option maxRecDepth 100000 in
theorem place_c (s : ByteArray) (p : Int) (w : World) (hs : s.size ≤ 1152921504606846976) : Calls Try.prog 35 #[.string s, .int .i64 p] w fun e w' => e = .returned (.bool (placeB (ls s) p)) ∧ Ext w w' := by
  go_enter Try.func35, Try.ntmps35
  go_wp2_with (first | (go_at_call 57; refine (inner_u _ _).mono ?_; rintro e w1 ⟨rfl, hx1⟩) | (go_at_call 45; refine (valid_c _ _ hs).mono ?_; rintro e w1 ⟨rfl, hx1⟩))
  all_goals (try simp only [Bool.not_eq_true', Bool.not_eq_false'] at *)
  all_goals (go_ret; refine ⟨retb ?_, (by (repeat (first | exact Ext.refl _ | exact ‹Ext _ _› | refine Ext.alloc ?_ _ | refine Ext.drew ?_ | refine Ext.drewN ?_ _ | (refine Ext.setCell ?_ (by first | omega | (simp; done) | (simp; omega)) _) | refine Ext.trans ?_ ‹Ext _ _›)))⟩)
  all_goals first
    | (rw [place_end s p (by assumption)]; done)
    | (rw [place_at s p (by omega) (by omega)]; simp [*]; done)
    | (rw [place_out s p (by omega)]; done)

set_option maxHeartbeats 4000000 in
set_option maxRecDepth 100000 in
theorem next_c (s : ByteArray) (p : Int) (w : World) (hs : s.size ≤ 1152921504606846976) : Calls Try.prog 79 #[.string s, .int .i64 p] w fun e w' => e = .returned (.int .i64 (nextI (ls s) p)) ∧ Ext w w' := by
  rcases place_cases s p with hp | ⟨k, rfl, hk, hp, hv⟩
  · go_enter Try.func79, Try.ntmps79
    go_wp2_with (first | (go_at_call 35; refine (place_c _ _ _ hs).mono ?_; rintro e w1 ⟨rfl, hx1⟩) | (go_at_call 63; refine (size_c _ _ (by simp; omega)).mono ?_; rintro e w1 ⟨rfl, hx1⟩))
    go_ret
    exact ⟨ret1 (by unfold nextI; simp [hp]), (by (repeat (first | exact Ext.refl _ | exact ‹Ext _ _› | refine Ext.alloc ?_ _ | refine Ext.drew ?_ | refine Ext.drewN ?_ _ | (refine Ext.setCell ?_ (by first | omega | (simp; done) | (simp; omega)) _) | refine Ext.trans ?_ ‹Ext _ _›)))⟩
  · have hz := szL_le ((ls s).drop k)
    rw [List.length_drop, ls_len] at hz
    have hy : szL (ls (s.extract k s.size)) ≤ s.size - k := by rw [ls_ext]; exact hz
    go_enter Try.func79, Try.ntmps79
    go_wp2_with (first | (go_at_call 35; refine (place_c _ _ _ hs).mono ?_; rintro e w1 ⟨rfl, hx1⟩) | (go_at_call 63; refine (size_c _ _ (by simp; omega)).mono ?_; rintro e w1 ⟨rfl, hx1⟩))
    all_goals (try simp only [beq_iff_eq, beq_eq_false_iff_ne] at *)
    all_goals (go_ret; refine ⟨ret1 ?_, (by (repeat (first | exact Ext.refl _ | exact ‹Ext _ _› | refine Ext.alloc ?_ _ | refine Ext.drew ?_ | refine Ext.drewN ?_ _ | (refine Ext.setCell ?_ (by first | omega | (simp; done) | (simp; omega)) _) | refine Ext.trans ?_ ‹Ext _ _›)))⟩; unfold nextI)
    · rw [if_neg (by rw [ls_len]; omega)]
    · rw [if_pos ⟨hp, by rw [ls_len]; omega⟩, ls_ext]; rfl

end Go.Proofs.Ythjlhbblflmajaa
