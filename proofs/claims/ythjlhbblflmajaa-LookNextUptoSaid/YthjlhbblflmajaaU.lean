/- The contracts of the package utf: what each of its functions hands back. -/
import Derived.Test.YthjlhbblflmajaaU0
namespace Go.Proofs.Ythjlhbblflmajaa
open Go.RowKit
set_option linter.unusedVariables false
set_option linter.unusedSimpArgs false
theorem beg_step (s : ByteArray) (k : Nat) (hk : k < s.size) (h0 : 0 < s.size) (h : begOk (ls s) k = true) (hb : okb ↑s[0].toNat k ↑s[k].toNat = true) : begOk (ls s) (k + 1) = true := by
  rw [byL_eq s 0 h0, byL_eq s k hk] at hb
  rw [begOk_succ, h, hb]; simp
theorem beg_bad (s : ByteArray) (k : Nat) (h1 : 1 ≤ k) (hk : k < s.size) (h0 : 0 < s.size) (hn : ↑k < fSize ↑s[0].toNat) (hb : okb ↑s[0].toNat k ↑s[k].toNat = false) : 0 = begA (ls s) ∧ 0 = begB (ls s) := by
  rw [byL_eq s 0 h0] at hn
  rw [byL_eq s 0 h0, byL_eq s k hk] at hb
  have : begOk (ls s) (min (ls s).length (fSize (byL (ls s) 0)).toNat) = false := by
    rcases Bool.eq_false_or_eq_true (begOk (ls s) (min (ls s).length (fSize (byL (ls s) 0)).toNat)) with hc | hc
    · have hc := begOk_le (ls s) (k := k + 1) hc (by rw [ls_len]; omega)
      rw [begOk_succ, hb] at hc
      simp at hc; omega
    · exact hc
  rw [ls_len] at this
  unfold begA begB
  rw [ls_len]
  simp [this]
theorem beg_done (s : ByteArray) (k : Nat) (h0 : 0 < s.size) (h : begOk (ls s) k = true) (hk : fSize ↑s[0].toNat ≤ k ∨ s.size ≤ k) : min (s.size : Int) (fSize ↑s[0].toNat) = begA (ls s) ∧ fSize ↑s[0].toNat = begB (ls s) := by
  rw [byL_eq s 0 h0] at hk ⊢
  have := begOk_le (ls s) (k := min (ls s).length (fSize (byL (ls s) 0)).toNat) h (by rw [ls_len]; omega)
  unfold begA begB
  have h0' : ¬ s.size = 0 := by omega
  rw [ls_len] at this ⊢
  simp only [if_neg h0', if_pos this, and_self]
set_option maxHeartbeats 4000000 in
set_option maxRecDepth 100000 in
theorem begins_c (s : ByteArray) (w : World) (hs : s.size ≤ 1152921504606846976) : Calls Try.prog 82 #[.string s] w fun e w' => e = .returned (.tuple #[.int .i64 (begA (ls s)), .int .i64 (begB (ls s))]) ∧ Ext w w' := by
  by_cases h0 : s.size = 0
  · have he := emp_t s h0
    have Hz : Hid (0 = begA (ls s) ∧ 0 = begB (ls s)) := Lib.hid (by unfold begA begB; simp [ls_len, h0])
    clear h0
    go_enter Try.func82, Try.ntmps82
    go_wp2_with (first | (go_at_call 89; refine (first_c _ _).mono ?_; rintro e w1 ⟨rfl, hx1⟩))
    go_ret2
    exact ⟨ret2 Hz.out, Ext.refl _⟩
  · have h1 : 0 < s.size := by omega
    have he := emp_f s h1
    have b0 := fSize_lo ↑s[0].toNat
    have b1 := fSize_hi ↑s[0].toNat
    clear h0
    go_enter Try.func82, Try.ntmps82
    go_wp2_with (first | (go_at_call 89; refine (first_c _ _).mono ?_; rintro e w1 ⟨rfl, hx1⟩))
    go_loopw [5] (fun i wr => ∃ k : Nat, 1 ≤ k ∧ k ≤ s.size ∧ i = .int .i64 k ∧ begOk (ls s) k = true ∧ wr.cell? ⟨w1.heap.size, 0, none⟩ = some (.int .i64 (fSize ↑s[0].toNat)) ∧ wr.cell? ⟨w1.heap.size, 1, none⟩ = some (.int .u8 (fLow ↑s[0].toNat)) ∧ wr.cell? ⟨w1.heap.size, 2, none⟩ = some (.int .u8 (fTop ↑s[0].toNat)) ∧ Ext w wr) (fun i _ => s.size - (intOf i).toNat)
    case atStart => exact ⟨1, Nat.le_refl _, h1, rfl, rfl, by simp, by simp, by simp, (by (repeat (first | exact Ext.refl _ | exact ‹Ext _ _› | refine Ext.alloc ?_ _ | refine Ext.drew ?_ | refine Ext.drewN ?_ _ | (refine Ext.setCell ?_ (by first | omega | (simp; done) | (simp; omega)) _) | refine Ext.trans ?_ ‹Ext _ _›)))⟩
    case round =>
      obtain ⟨k, hk1, hk2, rfl, hok, c0, c1, c2, hx⟩ := hrel
      have Hok := Lib.hid hok
      clear hok he
      go_wp2
      all_goals (try (go_quiet (fail)))
      all_goals go_wp2
      all_goals (try simp only [beq_iff_eq, beq_eq_false_iff_ne] at *)
      all_goals first
        | (go_ret2; refine ⟨ret2 (beg_bad s k hk1 (by omega) h1 (by omega) (by unfold okb; split <;> simp <;> omega)), (by (repeat (first | exact Ext.refl _ | exact ‹Ext _ _› | refine Ext.alloc ?_ _ | refine Ext.drew ?_ | refine Ext.drewN ?_ _ | (refine Ext.setCell ?_ (by first | omega | (simp; done) | (simp; omega)) _) | refine Ext.trans ?_ ‹Ext _ _›)))⟩)
        | (go_ret2; refine ⟨ret2 ?_, (by (repeat (first | exact Ext.refl _ | exact ‹Ext _ _› | refine Ext.alloc ?_ _ | refine Ext.drew ?_ | refine Ext.drewN ?_ _ | (refine Ext.setCell ?_ (by first | omega | (simp; done) | (simp; omega)) _) | refine Ext.trans ?_ ‹Ext _ _›)))⟩; have hd := beg_done s k h1 Hok.out (by omega); exact ⟨by omega, by omega⟩)
        | (go_roundw; (case rel => exact ⟨k + 1, by omega, by omega, by go_num, beg_step s k (by omega) h1 Hok.out (by unfold okb; split <;> simp <;> omega), c0, c1, c2, (by (repeat (first | exact Ext.refl _ | exact ‹Ext _ _› | refine Ext.alloc ?_ _ | refine Ext.drew ?_ | refine Ext.drewN ?_ _ | (refine Ext.setCell ?_ (by first | omega | (simp; done) | (simp; omega)) _) | refine Ext.trans ?_ ‹Ext _ _›)))⟩); (case measure => simp [intOf]; omega))

set_option maxHeartbeats 4000000 in
set_option maxRecDepth 100000 in
theorem size_c (s : ByteArray) (w : World) (hs : s.size ≤ 1152921504606846976) : Calls Try.prog 63 #[.string s] w fun e w' => e = .returned (.int .i64 (szL (ls s))) ∧ Ext w w' := by
  have H := Lib.hid (szL_eq (ls s))
  go_enter Try.func63, Try.ntmps63
  go_wp2_with (first | (go_at_call 82; refine (begins_c _ _ hs).mono ?_; rintro e w1 ⟨rfl, hx1⟩))
  all_goals (go_ret; refine ⟨ret1 ?_, (by (repeat (first | exact Ext.refl _ | exact ‹Ext _ _› | refine Ext.alloc ?_ _ | refine Ext.drew ?_ | refine Ext.drewN ?_ _ | (refine Ext.setCell ?_ (by first | omega | (simp; done) | (simp; omega)) _) | refine Ext.trans ?_ ‹Ext _ _›)))⟩; rw [← H.out])
  · rw [if_pos (by assumption)]
  · rw [if_neg (by omega)]

theorem valid_more (s : ByteArray) (i : Nat) (hi : i < s.size) (hn : szL (ls (s.extract i s.size)) ≠ 0) : validL ((ls s).drop i) = validL ((ls s).drop (i + szL (ls (s.extract i s.size)))) := by
  rw [ls_ext] at hn ⊢
  rw [validL_step (by rw [List.length_drop, ls_len]; omega) hn, List.drop_drop]
theorem valid_end (s : ByteArray) (i : Nat) (hi : i ≤ s.size) (hn : (s.extract i s.size).toList.isEmpty = true) : validL ((ls s).drop i) = true := by
  rw [Lib.toList_data, List.isEmpty_iff] at hn
  rw [← ls_ext]; unfold ls; rw [hn]; exact validL_nil
theorem valid_not (s : ByteArray) (i : Nat) (hi : i < s.size) (hn : szL (ls (s.extract i s.size)) = 0) : validL ((ls s).drop i) = false := by
  rw [ls_ext] at hn
  exact validL_bad (by rw [List.length_drop, ls_len]; omega) hn
theorem ext_ext (s : ByteArray) (i n : Nat) (hn : i + n ≤ s.size) : (s.extract i s.size).extract n (s.extract i s.size).size = s.extract (i + n) s.size := by
  apply ByteArray.ext
  apply Array.toList_inj.1
  have h1 := ls_ext (s.extract i s.size) n
  have h2 := ls_ext s (i + n)
  have h3 := ls_ext s i
  unfold ls at *
  rw [h1, h2, h3, List.drop_drop]

set_option maxHeartbeats 4000000 in
set_option maxRecDepth 100000 in
theorem valid_c (s : ByteArray) (w : World) (hs : s.size ≤ 1152921504606846976) : Calls Try.prog 45 #[.string s] w fun e w' => e = .returned (.bool (validL (ls s))) ∧ Ext w w' := by
  go_enter Try.func45, Try.ntmps45
  go_wp2
  go_loopw [0] (fun v wr => ∃ i : Nat, i ≤ s.size ∧ v = .string (s.extract i s.size) ∧ validL ((ls s).drop i) = validL (ls s) ∧ Ext w wr) (fun v _ => sizeV v)
  case atStart => exact ⟨0, by omega, by simp, by simp, (by (repeat (first | exact Ext.refl _ | exact ‹Ext _ _› | refine Ext.alloc ?_ _ | refine Ext.drew ?_ | refine Ext.drewN ?_ _ | (refine Ext.setCell ?_ (by first | omega | (simp; done) | (simp; omega)) _) | refine Ext.trans ?_ ‹Ext _ _›)))⟩
  case round =>
    obtain ⟨i, hi, rfl, hok, hx⟩ := hrel
    have Hok := Lib.hid hok
    clear hok
    have hle : szL (ls (s.extract i s.size)) ≤ s.size - i := by have := szL_le (ls (s.extract i s.size)); rw [ls_ext, List.length_drop, ls_len] at this; rw [ls_ext]; exact this
    go_wp2_with (first | (go_at_call 63; refine (size_c _ _ (by simp; omega)).mono ?_; rintro e w1 ⟨rfl, hx1⟩))
    all_goals (try simp only [beq_iff_eq, beq_eq_false_iff_ne, Bool.not_eq_true', Bool.not_eq_false'] at *)
    · go_ret
      have hi' : i < s.size := by
        rcases Nat.lt_or_ge i s.size with h | h
        · exact h
        · have := emp_t (s.extract i s.size) (by simp; omega); simp_all
      exact ⟨retb (by rw [← Hok.out, valid_not s i hi' (by omega)]), (by (repeat (first | exact Ext.refl _ | exact ‹Ext _ _› | refine Ext.alloc ?_ _ | refine Ext.drew ?_ | refine Ext.drewN ?_ _ | (refine Ext.setCell ?_ (by first | omega | (simp; done) | (simp; omega)) _) | refine Ext.trans ?_ ‹Ext _ _›)))⟩
    · go_roundw
      case rel =>
        have hi' : i < s.size := by omega
        refine ⟨i + szL (ls (s.extract i s.size)), by omega, ?_, ?_, (by (repeat (first | exact Ext.refl _ | exact ‹Ext _ _› | refine Ext.alloc ?_ _ | refine Ext.drew ?_ | refine Ext.drewN ?_ _ | (refine Ext.setCell ?_ (by first | omega | (simp; done) | (simp; omega)) _) | refine Ext.trans ?_ ‹Ext _ _›)))⟩
        · have := ext_ext s i (szL (ls (s.extract i s.size))) (by omega)
          simp at this
          rw [this]
        · rw [← valid_more s i hi' (by omega)]; exact Hok.out
      case measure => simp [sizeV]; omega
    · go_ret
      exact ⟨retb (by rw [← Hok.out, valid_end s i hi (by assumption)]), (by (repeat (first | exact Ext.refl _ | exact ‹Ext _ _› | refine Ext.alloc ?_ _ | refine Ext.drew ?_ | refine Ext.drewN ?_ _ | (refine Ext.setCell ?_ (by first | omega | (simp; done) | (simp; omega)) _) | refine Ext.trans ?_ ‹Ext _ _›)))⟩

end Go.Proofs.Ythjlhbblflmajaa
