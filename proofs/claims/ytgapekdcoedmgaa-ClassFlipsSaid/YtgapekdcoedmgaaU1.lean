/- The contracts of the package utf: what each of its functions hands back. -/
import Derived.Test.YtgapekdcoedmgaaU
namespace Go.Proofs.Ytgapekdcoedmgaa
open Go.RowKit
set_option linter.unusedVariables false
set_option linter.unusedSimpArgs false
theorem inn_bits : ∀ n : Fin 256, (bits BinOp.and IntKind.u8 (n.val : Int) 192 == 128) = inn n.val := by decide +kernel
theorem inn_eq (b : Int) (h0 : 0 ≤ b) (h1 : b ≤ 255) : (bits BinOp.and IntKind.u8 b 192 == 128) = inn b := by
  have := inn_bits ⟨b.toNat, by omega⟩
  simpa [Int.toNat_of_nonneg h0] using this
set_option maxHeartbeats 4000000 in
set_option maxRecDepth 100000 in
theorem inner_c (b : Int) (h0 : 0 ≤ b) (h1 : b ≤ 255) (w : World) : Calls Try.prog 42 #[.int .u8 b] w fun e w' => e = .returned (.bool (inn b)) ∧ Ext w w' := by
  go_enter Try.func42, Try.ntmps42
  go_wp2
  go_ret
  exact ⟨retb (inn_eq b h0 h1), (by (repeat (first | exact Ext.refl _ | exact ‹Ext _ _› | refine Ext.alloc ?_ _ | refine Ext.drew ?_ | refine Ext.drewN ?_ _ | (refine Ext.setCell ?_ (by first | omega | (simp; done) | (simp; omega)) _) | refine Ext.trans ?_ ‹Ext _ _›)))⟩

theorem inner_u (b : UInt8) (w : World) : Calls Try.prog 42 #[.int .u8 b.toNat] w fun e w' => e = .returned (.bool (inn b.toNat)) ∧ Ext w w' :=
  inner_c _ (by omega) (by have := b.toNat_lt; omega) w

theorem place_at (s : ByteArray) (p : Int) (h0 : 0 ≤ p) (h1 : p < s.size) : placeB (ls s) p = (!inn ↑s[p.toNat].toNat && validL (ls s)) := by
  unfold placeB
  rw [byL_eq s p.toNat (by omega), ls_len]
  have a : decide (0 ≤ p) = true := decide_eq_true h0
  have b : decide (p ≤ s.size) = true := decide_eq_true (by omega)
  have c : decide (p = s.size) = false := decide_eq_false (by omega)
  simp [a, b, c]
theorem place_out (s : ByteArray) (p : Int) (h : p < 0 ∨ s.size < p) : placeB (ls s) p = false := by
  unfold placeB; rw [ls_len]
  rcases h with h | h
  · have a : decide (0 ≤ p) = false := decide_eq_false (by omega)
    simp [a]
  · have a : decide (p ≤ s.size) = false := decide_eq_false (by omega)
    simp [a]
theorem place_end (s : ByteArray) (p : Int) (h : p = s.size) : placeB (ls s) p = validL (ls s) := by
  unfold placeB; rw [ls_len]; subst h; simp
set_option maxHeartbeats 4000000 in
set_option maxRecDepth 100000 in
theorem place_c (s : ByteArray) (p : Int) (w : World) (hs : s.size ≤ 1152921504606846976) : Calls Try.prog 36 #[.string s, .int .i64 p] w fun e w' => e = .returned (.bool (placeB (ls s) p)) ∧ Ext w w' := by
  go_enter Try.func36, Try.ntmps36
  go_wp2_with (first | (go_at_call 42; refine (inner_u _ _).mono ?_; rintro e w1 ⟨rfl, hx1⟩) | (go_at_call 15; refine (valid_c _ _ hs).mono ?_; rintro e w1 ⟨rfl, hx1⟩))
  all_goals (try simp only [Bool.not_eq_true', Bool.not_eq_false'] at *)
  all_goals (go_ret; refine ⟨retb ?_, (by (repeat (first | exact Ext.refl _ | exact ‹Ext _ _› | refine Ext.alloc ?_ _ | refine Ext.drew ?_ | refine Ext.drewN ?_ _ | (refine Ext.setCell ?_ (by first | omega | (simp; done) | (simp; omega)) _) | refine Ext.trans ?_ ‹Ext _ _›)))⟩)
  all_goals first
    | (rw [place_end s p (by assumption)]; done)
    | (rw [place_at s p (by omega) (by omega)]; simp [*]; done)
    | (rw [place_out s p (by omega)]; done)

set_option maxHeartbeats 4000000 in
set_option maxRecDepth 100000 in
theorem next_c (s : ByteArray) (p : Int) (w : World) (hs : s.size ≤ 1152921504606846976) : Calls Try.prog 17 #[.string s, .int .i64 p] w fun e w' => e = .returned (.int .i64 (nextI (ls s) p)) ∧ Ext w w' := by
  rcases place_cases s p with hp | ⟨k, rfl, hk, hp, hv⟩
  · go_enter Try.func17, Try.ntmps17
    go_wp2_with (first | (go_at_call 36; refine (place_c _ _ _ hs).mono ?_; rintro e w1 ⟨rfl, hx1⟩) | (go_at_call 40; refine (size_c _ _ (by simp; omega)).mono ?_; rintro e w1 ⟨rfl, hx1⟩))
    go_ret
    exact ⟨ret1 (by unfold nextI; simp [hp]), (by (repeat (first | exact Ext.refl _ | exact ‹Ext _ _› | refine Ext.alloc ?_ _ | refine Ext.drew ?_ | refine Ext.drewN ?_ _ | (refine Ext.setCell ?_ (by first | omega | (simp; done) | (simp; omega)) _) | refine Ext.trans ?_ ‹Ext _ _›)))⟩
  · have hz := szL_le ((ls s).drop k)
    rw [List.length_drop, ls_len] at hz
    have hy : szL (ls (s.extract k s.size)) ≤ s.size - k := by rw [ls_ext]; exact hz
    go_enter Try.func17, Try.ntmps17
    go_wp2_with (first | (go_at_call 36; refine (place_c _ _ _ hs).mono ?_; rintro e w1 ⟨rfl, hx1⟩) | (go_at_call 40; refine (size_c _ _ (by simp; omega)).mono ?_; rintro e w1 ⟨rfl, hx1⟩))
    all_goals (try simp only [beq_iff_eq, beq_eq_false_iff_ne] at *)
    all_goals (go_ret; refine ⟨ret1 ?_, (by (repeat (first | exact Ext.refl _ | exact ‹Ext _ _› | refine Ext.alloc ?_ _ | refine Ext.drew ?_ | refine Ext.drewN ?_ _ | (refine Ext.setCell ?_ (by first | omega | (simp; done) | (simp; omega)) _) | refine Ext.trans ?_ ‹Ext _ _›)))⟩; unfold nextI)
    · rw [if_neg (by rw [ls_len]; omega)]
    · rw [if_pos ⟨hp, by rw [ls_len]; omega⟩, ls_ext]; rfl

set_option maxHeartbeats 4000000 in
set_option maxRecDepth 100000 in
theorem prev_c (s : ByteArray) (p : Int) (w : World) (hs : s.size ≤ 1152921504606846976) : Calls Try.prog 18 #[.string s, .int .i64 p] w fun e w' => e = .returned (.int .i64 (prevI (ls s) p)) ∧ Ext w w' := by
  rcases place_cases s p with hp | ⟨k, rfl, hk, hp, hv⟩
  · go_enter Try.func18, Try.ntmps18
    go_wp2_with (first | (go_at_call 36; refine (place_c _ _ _ hs).mono ?_; rintro e w1 ⟨rfl, hx1⟩))
    go_ret
    exact ⟨ret1 (by unfold prevI; simp [hp]), (by (repeat (first | exact Ext.refl _ | exact ‹Ext _ _› | refine Ext.alloc ?_ _ | refine Ext.drew ?_ | refine Ext.drewN ?_ _ | (refine Ext.setCell ?_ (by first | omega | (simp; done) | (simp; omega)) _) | refine Ext.trans ?_ ‹Ext _ _›)))⟩
  · rcases Nat.eq_zero_or_pos k with h0 | h0
    · subst h0
      go_enter Try.func18, Try.ntmps18
      go_wp2_with (first | (go_at_call 36; refine (place_c _ _ _ hs).mono ?_; rintro e w1 ⟨rfl, hx1⟩))
      go_ret
      exact ⟨ret1 (by unfold prevI; simp), (by (repeat (first | exact Ext.refl _ | exact ‹Ext _ _› | refine Ext.alloc ?_ _ | refine Ext.drew ?_ | refine Ext.drewN ?_ _ | (refine Ext.setCell ?_ (by first | omega | (simp; done) | (simp; omega)) _) | refine Ext.trans ?_ ‹Ext _ _›)))⟩
    · have h00 : ((k : Int) == 0) = false := by simp; omega
      go_enter Try.func18, Try.ntmps18
      go_wp2_with (first | (go_at_call 36; refine (place_c _ _ _ hs).mono ?_; rintro e w1 ⟨rfl, hx1⟩))
      go_loopw [1] (fun v wr => ∃ j : Nat, j < s.size ∧ v = .int .i64 j ∧ prevFrom (ls s) j = prevFrom (ls s) (k - 1) ∧ Ext w wr) (fun v _ => (intOf v).toNat)
      case atStart => exact ⟨k - 1, by omega, by go_num, rfl, (by (repeat (first | exact Ext.refl _ | exact ‹Ext _ _› | refine Ext.alloc ?_ _ | refine Ext.drew ?_ | refine Ext.drewN ?_ _ | (refine Ext.setCell ?_ (by first | omega | (simp; done) | (simp; omega)) _) | refine Ext.trans ?_ ‹Ext _ _›)))⟩
      case round =>
        obtain ⟨j, hj, rfl, hok, hx⟩ := hrel
        have Hok := Lib.hid hok
        have Hby := Lib.hid (byL_eq s j hj)
        have hv0 : ¬ (inn ↑s[j].toNat = true ∧ j = 0) := by
          rintro ⟨h1, h2⟩
          have := valid_first hv (by rw [ls_len]; omega)
          subst h2
          rw [byL_eq s 0 hj] at h1
          rw [this] at h1; exact absurd h1 (by simp)
        clear hok
        rcases Bool.eq_false_or_eq_true (inn ↑s[j].toNat) with hi | hi
        · have hj0 : 1 ≤ j := by
            rcases Nat.eq_zero_or_pos j with h | h
            · exact absurd ⟨hi, h⟩ hv0
            · exact h
          clear hv0
          go_wp2_with (first | (go_at_call 42; refine (inner_u _ _).mono ?_; rintro e w1 ⟨rfl, hx1⟩))
          go_roundw
          case rel =>
            refine ⟨j - 1, by omega, by go_num, ?_, (by (repeat (first | exact Ext.refl _ | exact ‹Ext _ _› | refine Ext.alloc ?_ _ | refine Ext.drew ?_ | refine Ext.drewN ?_ _ | (refine Ext.setCell ?_ (by first | omega | (simp; done) | (simp; omega)) _) | refine Ext.trans ?_ ‹Ext _ _›)))⟩
            rw [← Hok.out]
            obtain ⟨i, rfl⟩ : ∃ i, j = i + 1 := ⟨j - 1, by omega⟩
            rw [Hby.out] at hi
            simp [prevFrom, hi]
          case measure => simp [intOf]; omega
        · clear hv0
          go_wp2_with (first | (go_at_call 42; refine (inner_u _ _).mono ?_; rintro e w1 ⟨rfl, hx1⟩))
          go_ret
          refine ⟨ret1 ?_, (by (repeat (first | exact Ext.refl _ | exact ‹Ext _ _› | refine Ext.alloc ?_ _ | refine Ext.drew ?_ | refine Ext.drewN ?_ _ | (refine Ext.setCell ?_ (by first | omega | (simp; done) | (simp; omega)) _) | refine Ext.trans ?_ ‹Ext _ _›)))⟩
          unfold prevI
          rw [if_pos ⟨hp, by omega⟩]
          have : ((k : Int).toNat - 1) = k - 1 := by omega
          rw [this, ← Hok.out]
          rw [Hby.out] at hi
          cases j with
          | zero => rfl
          | succ i => simp [prevFrom, hi]

set_option maxHeartbeats 4000000 in
set_option maxRecDepth 100000 in
theorem count_c (s : ByteArray) (w : World) (hs : s.size ≤ 1152921504606846976) : Calls Try.prog 50 #[.string s] w fun e w' => e = .returned (.int .i64 (countI (ls s))) ∧ Ext w w' := by
  rcases Bool.eq_false_or_eq_true (validL (ls s)) with hv | hv
  · have Hv := Lib.hid hv
    go_enter Try.func50, Try.ntmps50
    go_wp2_with (first | (go_at_call 15; refine (valid_c _ _ hs).mono ?_; rintro e w1 ⟨rfl, hx1⟩))
    go_loopw [3, 10] (fun n i wr => ∃ j : Nat, j ≤ s.size ∧ i = .int .i64 j ∧ n = .int .i64 (cntL ((ls s).take j)) ∧ Ext w wr) (fun _ i _ => s.size - (intOf i).toNat)
    case atStart => exact ⟨0, by omega, rfl, rfl, (by (repeat (first | exact Ext.refl _ | exact ‹Ext _ _› | refine Ext.alloc ?_ _ | refine Ext.drew ?_ | refine Ext.drewN ?_ _ | (refine Ext.setCell ?_ (by first | omega | (simp; done) | (simp; omega)) _) | refine Ext.trans ?_ ‹Ext _ _›)))⟩
    case round =>
      obtain ⟨j, hj, rfl, rfl, hx⟩ := hrel
      have hc := cnt_le (ls s) j
      by_cases hlt : j < s.size
      · have Hs := Lib.hid (cnt_succ (ls s) j (by rw [ls_len]; exact hlt))
        have Hby := Lib.hid (byL_eq s j hlt)
        rcases Bool.eq_false_or_eq_true (inn ↑s[j].toNat) with hi | hi
        all_goals
          go_wp2_with (first | (go_at_call 42; refine (inner_u _ _).mono ?_; rintro e w1 ⟨rfl, hx1⟩))
          go_roundw
          case rel =>
            refine ⟨j + 1, by omega, by go_num, ?_, (by (repeat (first | exact Ext.refl _ | exact ‹Ext _ _› | refine Ext.alloc ?_ _ | refine Ext.drew ?_ | refine Ext.drewN ?_ _ | (refine Ext.setCell ?_ (by first | omega | (simp; done) | (simp; omega)) _) | refine Ext.trans ?_ ‹Ext _ _›)))⟩
            rw [Hs.out, ← Hby.out, hi]
            first | rfl | simp
          case measure => simp [intOf]; omega
      · have hj' : j = s.size := by omega
        subst hj'
        have Hc : Hid (cntL ((ls s).take s.size) = cntL (ls s)) := Lib.hid (by rw [← ls_len s, List.take_length])
        go_wp2_with (first | (go_at_call 42; refine (inner_u _ _).mono ?_; rintro e w1 ⟨rfl, hx1⟩))
        go_ret
        exact ⟨ret1 (by unfold countI; rw [Hc.out, Hv.out]; rfl), (by (repeat (first | exact Ext.refl _ | exact ‹Ext _ _› | refine Ext.alloc ?_ _ | refine Ext.drew ?_ | refine Ext.drewN ?_ _ | (refine Ext.setCell ?_ (by first | omega | (simp; done) | (simp; omega)) _) | refine Ext.trans ?_ ‹Ext _ _›)))⟩
  · go_enter Try.func50, Try.ntmps50
    go_wp2_with (first | (go_at_call 15; refine (valid_c _ _ hs).mono ?_; rintro e w1 ⟨rfl, hx1⟩))
    go_ret
    exact ⟨ret1 (by unfold countI; simp [hv]), (by (repeat (first | exact Ext.refl _ | exact ‹Ext _ _› | refine Ext.alloc ?_ _ | refine Ext.drew ?_ | refine Ext.drewN ?_ _ | (refine Ext.setCell ?_ (by first | omega | (simp; done) | (simp; omega)) _) | refine Ext.trans ?_ ‹Ext _ _›)))⟩

set_option maxHeartbeats 4000000 in
set_option maxRecDepth 100000 in
theorem offset_c (s : ByteArray) (k : Int) (w : World) (hs : s.size ≤ 1152921504606846976) (hkm : k ≤ 9223372036854775807) : Calls Try.prog 53 #[.string s, .int .i64 k] w fun e w' => e = .returned (.int .i64 (offI (ls s) k)) ∧ Ext w w' := by
  by_cases hk : k < 0
  · go_enter Try.func53, Try.ntmps53
    go_wp2_with (first | (go_at_call 15; refine (valid_c _ _ hs).mono ?_; rintro e w1 ⟨rfl, hx1⟩))
    go_ret
    exact ⟨ret1 (by unfold offI; simp [hk]), (by (repeat (first | exact Ext.refl _ | exact ‹Ext _ _› | refine Ext.alloc ?_ _ | refine Ext.drew ?_ | refine Ext.drewN ?_ _ | (refine Ext.setCell ?_ (by first | omega | (simp; done) | (simp; omega)) _) | refine Ext.trans ?_ ‹Ext _ _›)))⟩
  have hk0 : 0 ≤ k := by omega
  clear hk
  rcases Bool.eq_false_or_eq_true (validL (ls s)) with hv | hv
  · have Hv := Lib.hid hv
    go_enter Try.func53, Try.ntmps53
    go_wp2_with (first | (go_at_call 15; refine (valid_c _ _ hs).mono ?_; rintro e w1 ⟨rfl, hx1⟩))
    go_loopw [1, 15] (fun v i wr => ∃ (j : Nat) (q : Int), j ≤ s.size ∧ i = .int .i64 j ∧ v = .int .i64 q ∧ 0 ≤ q ∧ q ≤ k ∧ offF ((ls s).drop j) j q = offF (ls s) 0 k ∧ Ext w wr) (fun _ i _ => s.size - (intOf i).toNat)
    case atStart => exact ⟨0, k, by omega, rfl, rfl, hk0, by omega, by simp, (by (repeat (first | exact Ext.refl _ | exact ‹Ext _ _› | refine Ext.alloc ?_ _ | refine Ext.drew ?_ | refine Ext.drewN ?_ _ | (refine Ext.setCell ?_ (by first | omega | (simp; done) | (simp; omega)) _) | refine Ext.trans ?_ ‹Ext _ _›)))⟩
    case round =>
      obtain ⟨j, q, hj, rfl, rfl, hq, hqk, hok, hx⟩ := hrel
      have Hok := Lib.hid hok
      clear hok
      have Hsp : Hid (offI (ls s) k = offF (ls s) 0 k) := Lib.hid (by unfold offI; rw [if_neg (by rw [Hv.out]; simp; omega)])
      by_cases hlt : j < s.size
      · have Hs := Lib.hid (off_step (ls s) j q (by rw [ls_len]; exact hlt))
        have Hby := Lib.hid (byL_eq s j hlt)
        rcases Bool.eq_false_or_eq_true (inn ↑s[j].toNat) with hi | hi
        · go_wp2_with (first | (go_at_call 42; refine (inner_u _ _).mono ?_; rintro e w1 ⟨rfl, hx1⟩))
          go_roundw
          case rel =>
            refine ⟨j + 1, q, by omega, by go_num, rfl, hq, hqk, ?_, (by (repeat (first | exact Ext.refl _ | exact ‹Ext _ _› | refine Ext.alloc ?_ _ | refine Ext.drew ?_ | refine Ext.drewN ?_ _ | (refine Ext.setCell ?_ (by first | omega | (simp; done) | (simp; omega)) _) | refine Ext.trans ?_ ‹Ext _ _›)))⟩
            rw [← Hok.out, Hs.out, ← Hby.out, hi]; simp
          case measure => simp [intOf]; omega
        · by_cases hq0 : q = 0
          · subst hq0
            go_wp2_with (first | (go_at_call 42; refine (inner_u _ _).mono ?_; rintro e w1 ⟨rfl, hx1⟩))
            go_ret
            exact ⟨ret1 (by rw [Hsp.out, ← Hok.out, Hs.out, ← Hby.out, hi]; simp), (by (repeat (first | exact Ext.refl _ | exact ‹Ext _ _› | refine Ext.alloc ?_ _ | refine Ext.drew ?_ | refine Ext.drewN ?_ _ | (refine Ext.setCell ?_ (by first | omega | (simp; done) | (simp; omega)) _) | refine Ext.trans ?_ ‹Ext _ _›)))⟩
          · have hq1 : (q == 0) = false := by simp; exact hq0
            go_wp2_with (first | (go_at_call 42; refine (inner_u _ _).mono ?_; rintro e w1 ⟨rfl, hx1⟩))
            go_roundw
            case rel =>
              refine ⟨j + 1, q - 1, by omega, by go_num, by go_num, by omega, by omega, ?_, (by (repeat (first | exact Ext.refl _ | exact ‹Ext _ _› | refine Ext.alloc ?_ _ | refine Ext.drew ?_ | refine Ext.drewN ?_ _ | (refine Ext.setCell ?_ (by first | omega | (simp; done) | (simp; omega)) _) | refine Ext.trans ?_ ‹Ext _ _›)))⟩
              rw [← Hok.out, Hs.out, ← Hby.out, hi]; simp [hq0]
            case measure => simp [intOf]; omega
      · have hj' : j = s.size := by omega
        subst hj'
        have Hend : Hid (offF ((ls s).drop s.size) s.size q = if 0 < q then -1 else (s.size : Int)) := Lib.hid (by rw [← ls_len s, List.drop_length]; rfl)
        go_wp2_with (first | (go_at_call 42; refine (inner_u _ _).mono ?_; rintro e w1 ⟨rfl, hx1⟩))
        all_goals (go_ret; refine ⟨ret1 (by rw [Hsp.out, ← Hok.out, Hend.out]; split <;> omega), (by (repeat (first | exact Ext.refl _ | exact ‹Ext _ _› | refine Ext.alloc ?_ _ | refine Ext.drew ?_ | refine Ext.drewN ?_ _ | (refine Ext.setCell ?_ (by first | omega | (simp; done) | (simp; omega)) _) | refine Ext.trans ?_ ‹Ext _ _›)))⟩)
  · go_enter Try.func53, Try.ntmps53
    go_wp2_with (first | (go_at_call 15; refine (valid_c _ _ hs).mono ?_; rintro e w1 ⟨rfl, hx1⟩))
    go_ret
    exact ⟨ret1 (by unfold offI; simp [hv]), (by (repeat (first | exact Ext.refl _ | exact ‹Ext _ _› | refine Ext.alloc ?_ _ | refine Ext.drew ?_ | refine Ext.drewN ?_ _ | (refine Ext.setCell ?_ (by first | omega | (simp; done) | (simp; omega)) _) | refine Ext.trans ?_ ‹Ext _ _›)))⟩

end Go.Proofs.Ytgapekdcoedmgaa
