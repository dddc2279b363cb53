/- The contracts of the statements of layer 5. -/
import Derived.Test.YtgapekdcoedmgaaCl
import Derived.Test.YtgapekdcoedmgaaR5
import Derived.Test.YtgapekdcoedmgaaMC2
namespace Go.Proofs.Ytgapekdcoedmgaa
open Go.RowKit
set_option linter.unusedVariables false
set_option linter.unusedSimpArgs false
def tRun : ByteArray := ⟨#[97, 98, 43, 32, 99]⟩
theorem liver1 : (runI (ls tRun) 1 false).1 = 0 := by decide +kernel
theorem liver2 : (runI (ls tRun) 1 false).2 = 2 := by decide +kernel
theorem liver3 : (runI (ls tRun) 1 true).1 = 0 := by decide +kernel
theorem liver4 : (runI (ls tRun) 1 true).2 = 3 := by decide +kernel
set_option maxHeartbeats 4000000 in
set_option maxRecDepth 100000 in
theorem lives5_c (w : World) : Calls Try.prog 9 #[] w fun e w' => e = .returned (.bool true) ∧ Ext w w' := by
  have h1 := liver1
  have h2 := liver2
  have h3 := liver3
  have h4 := liver4
  unfold tRun at h1 h2 h3 h4
  go_enter Try.func9, Try.ntmps9
  go_wp2_with (first | (go_at_call 10; refine (crun_c _ _ _ _ (by decide)).mono ?_; rintro e w1 ⟨rfl, hx1⟩))
  go_ret
  exact ⟨rfl, (by (repeat (first | exact Ext.refl _ | exact ‹Ext _ _› | refine Ext.alloc ?_ _ | refine Ext.drew ?_ | refine Ext.drewN ?_ _ | (refine Ext.setCell ?_ (by first | omega | (simp; done) | (simp; omega)) _) | refine Ext.trans ?_ ‹Ext _ _›)))⟩
theorem kind_false (l : List UInt8) (p : Int) : kindI l p false = clsI l p := rfl
theorem kind_true (l : List UInt8) (p : Int) : kindI l p true = bigI l p := rfl
set_option maxHeartbeats 4000000 in
set_option maxRecDepth 100000 in
theorem ClassRunes_c (t : ByteArray) (p : Int) (ht : t.size ≤ 140737488351232) (hp : -9223372036854775808 ≤ p ∧ p ≤ 9223372036854775807) (w : World) : Calls Try.prog 3 #[.string t, .int .i64 p] w fun e w' => e = .returned (.bool true) ∧ Ext w w' := by
  have e1 := (kind_false (ls t) p).symm
  have e2 := (kind_true (ls t) p).symm
  by_cases hs : t.size ≤ 500
  all_goals
    go_enter Try.func3, Try.ntmps3
    go_wp2_with (first | (go_at_call 9; refine (lives5_c _).mono ?_; rintro e w1 ⟨rfl, hx1⟩) | (go_at_call 10; refine (crun_c _ _ _ _ (by omega)).mono ?_; rintro e w1 ⟨rfl, hx1⟩) | (go_at_call 12; refine (cof_c _ _ _ (by omega)).mono ?_; rintro e w1 ⟨rfl, hx1⟩) | (go_at_call 14; refine (cbig_c _ _ _ (by omega)).mono ?_; rintro e w1 ⟨rfl, hx1⟩) | (go_at_call 11; refine (r5run_c _ _ _ _ (by omega)).mono ?_; rintro e w1 ⟨rfl, hx1⟩) | (go_at_call 13; refine (r5of_c _ _ _ _ (by omega)).mono ?_; rintro e w1 ⟨rfl, hx1⟩))
    all_goals (go_ret; exact ⟨rfl, (by (repeat (first | exact Ext.refl _ | exact ‹Ext _ _› | refine Ext.alloc ?_ _ | refine Ext.drew ?_ | refine Ext.drewN ?_ _ | (refine Ext.setCell ?_ (by first | omega | (simp; done) | (simp; omega)) _) | refine Ext.trans ?_ ‹Ext _ _›)))⟩)
set_option maxHeartbeats 4000000 in
set_option maxRecDepth 100000 in
theorem ClassWhole_false (t : ByteArray) (p : Int) (hs : t.size ≤ 500) (hv : validL (ls t) = true) (w : World) : Calls Try.prog 4 #[.string t, .int .i64 p, .bool false] w fun e w' => e = .returned (.bool true) ∧ Ext w w' := by
  by_cases hc : kindI (ls t) p false = 0 ∨ kindI (ls t) p false = 4
  · have h1 : (runI (ls t) p false).1 = -1 := by unfold runI; rw [if_pos hc]
    have h2 : (runI (ls t) p false).2 = -1 := by unfold runI; rw [if_pos hc]
    rw [kind_false] at hc
    rcases hc with hc | hc
    all_goals
      go_enter Try.func4, Try.ntmps4
      go_wp2_with (first | (go_at_call 9; refine (lives5_c _).mono ?_; rintro e w1 ⟨rfl, hx1⟩) | (go_at_call 10; refine (crun_c _ _ _ _ (by omega)).mono ?_; rintro e w1 ⟨rfl, hx1⟩) | (go_at_call 12; refine (cof_c _ _ _ (by omega)).mono ?_; rintro e w1 ⟨rfl, hx1⟩) | (go_at_call 14; refine (cbig_c _ _ _ (by omega)).mono ?_; rintro e w1 ⟨rfl, hx1⟩) | (go_at_call 16; refine (lof_c _ _ _ (by omega)).mono ?_; rintro e w1 ⟨rfl, hx1⟩) | (go_at_call 15; refine (valid_c _ _ (by omega)).mono ?_; rintro e w1 ⟨rfl, hx1⟩) | (go_at_call 17; refine (next_c _ _ _ (by omega)).mono ?_; rintro e w1 ⟨rfl, hx1⟩) | (go_at_call 18; refine (prev_c _ _ _ (by omega)).mono ?_; rintro e w1 ⟨rfl, hx1⟩))
      go_ret
      exact ⟨rfl, (by (repeat (first | exact Ext.refl _ | exact ‹Ext _ _› | refine Ext.alloc ?_ _ | refine Ext.drew ?_ | refine Ext.drewN ?_ _ | (refine Ext.setCell ?_ (by first | omega | (simp; done) | (simp; omega)) _) | refine Ext.trans ?_ ‹Ext _ _›)))⟩
  · obtain ⟨k, rfl, hk, hp⟩ := kind_place (l := ls t) (p := p) (big := false) (by omega)
    obtain ⟨f, u, g1, g2, g3, g4, g5, g6, g7, g8, g9, g10⟩ := run_facts hk hp (fun h => hc (.inl h)) (fun h => hc (.inr h))
    have h1 : (runI (ls t) k false).1 = f := by rw [g1]
    have h2 : (runI (ls t) k false).2 = u := by rw [g1]
    rw [ls_len] at g4
    have G5 := Lib.hid g5
    have G6 := Lib.hid g6
    have G8 := Lib.hid g8
    have H9 : (clsI (ls t) u == clsI (ls t) k) = false := by rw [beq_eq_false_iff_ne]; exact g9
    have G10 : 0 < f → (clsI (ls t) (prevI (ls t) f) == clsI (ls t) k) = false := fun h => by rw [beq_eq_false_iff_ne]; exact g10 h
    clear g1 g5 g6 g8 g9 g10 hc
    go_enter Try.func4, Try.ntmps4
    go_wp2_with (first | (go_at_call 9; refine (lives5_c _).mono ?_; rintro e w1 ⟨rfl, hx1⟩) | (go_at_call 10; refine (crun_c _ _ _ _ (by omega)).mono ?_; rintro e w1 ⟨rfl, hx1⟩) | (go_at_call 12; refine (cof_c _ _ _ (by omega)).mono ?_; rintro e w1 ⟨rfl, hx1⟩) | (go_at_call 14; refine (cbig_c _ _ _ (by omega)).mono ?_; rintro e w1 ⟨rfl, hx1⟩) | (go_at_call 16; refine (lof_c _ _ _ (by omega)).mono ?_; rintro e w1 ⟨rfl, hx1⟩) | (go_at_call 15; refine (valid_c _ _ (by omega)).mono ?_; rintro e w1 ⟨rfl, hx1⟩) | (go_at_call 17; refine (next_c _ _ _ (by omega)).mono ?_; rintro e w1 ⟨rfl, hx1⟩) | (go_at_call 18; refine (prev_c _ _ _ (by omega)).mono ?_; rintro e w1 ⟨rfl, hx1⟩))
    rename (_ ∧ _) ∧ _ => hq
    clear hq
    go_loopw [10] (fun v wr => ∃ i : Nat, f ≤ i ∧ i ≤ u ∧ placeB (ls t) i = true ∧ v = .int .i64 i ∧ Ext w wr) (fun v _ => u - (intOf v).toNat)
    case atStart => exact ⟨f, Nat.le_refl _, by omega, G5.out, rfl, (by (repeat (first | exact Ext.refl _ | exact ‹Ext _ _› | refine Ext.alloc ?_ _ | refine Ext.drew ?_ | refine Ext.drewN ?_ _ | (refine Ext.setCell ?_ (by first | omega | (simp; done) | (simp; omega)) _) | refine Ext.trans ?_ ‹Ext _ _›)))⟩
    case round =>
      obtain ⟨i, hi1, hi2, hpi, rfl, hx⟩ := hrel
      by_cases hlt : i < u
      · obtain ⟨n, m1, m2, m3, m4, m5⟩ := next_gap hpi (by rw [ls_len]; omega)
        have hnu : n ≤ u := by
          rcases Nat.lt_or_ge u n with h | h
          · have := m5 u hlt h; rw [G6.out] at this; exact absurd this (by simp)
          · exact h
        have hk2 : (clsI (ls t) i != clsI (ls t) k) = false := by
          have : clsI (ls t) i = clsI (ls t) k := G8.out i hi1 hlt hpi
          simp [this]
        have hn2 : (i : Int) < nextI (ls t) i := by omega
        have M1 := Lib.hid m1
        have M4 := Lib.hid m4
        clear m1 m4 m5 hpi
        go_wp2_with (first | (go_at_call 9; refine (lives5_c _).mono ?_; rintro e w1 ⟨rfl, hx1⟩) | (go_at_call 10; refine (crun_c _ _ _ _ (by omega)).mono ?_; rintro e w1 ⟨rfl, hx1⟩) | (go_at_call 12; refine (cof_c _ _ _ (by omega)).mono ?_; rintro e w1 ⟨rfl, hx1⟩) | (go_at_call 14; refine (cbig_c _ _ _ (by omega)).mono ?_; rintro e w1 ⟨rfl, hx1⟩) | (go_at_call 16; refine (lof_c _ _ _ (by omega)).mono ?_; rintro e w1 ⟨rfl, hx1⟩) | (go_at_call 15; refine (valid_c _ _ (by omega)).mono ?_; rintro e w1 ⟨rfl, hx1⟩) | (go_at_call 17; refine (next_c _ _ _ (by omega)).mono ?_; rintro e w1 ⟨rfl, hx1⟩) | (go_at_call 18; refine (prev_c _ _ _ (by omega)).mono ?_; rintro e w1 ⟨rfl, hx1⟩))
        go_roundw
        case rel => exact ⟨n, by omega, hnu, M4.out, by rw [M1.out], (by (repeat (first | exact Ext.refl _ | exact ‹Ext _ _› | refine Ext.alloc ?_ _ | refine Ext.drew ?_ | refine Ext.drewN ?_ _ | (refine Ext.setCell ?_ (by first | omega | (simp; done) | (simp; omega)) _) | refine Ext.trans ?_ ‹Ext _ _›)))⟩
        case measure => rw [M1.out]; simp [intOf]; omega
      · have ei : i = u := by omega
        subst ei
        rcases Nat.eq_zero_or_pos f with hf | hf
        · have hf' : f ≤ 0 := by omega
          clear hf G10
          go_wp2_with (first | (go_at_call 9; refine (lives5_c _).mono ?_; rintro e w1 ⟨rfl, hx1⟩) | (go_at_call 10; refine (crun_c _ _ _ _ (by omega)).mono ?_; rintro e w1 ⟨rfl, hx1⟩) | (go_at_call 12; refine (cof_c _ _ _ (by omega)).mono ?_; rintro e w1 ⟨rfl, hx1⟩) | (go_at_call 14; refine (cbig_c _ _ _ (by omega)).mono ?_; rintro e w1 ⟨rfl, hx1⟩) | (go_at_call 16; refine (lof_c _ _ _ (by omega)).mono ?_; rintro e w1 ⟨rfl, hx1⟩) | (go_at_call 15; refine (valid_c _ _ (by omega)).mono ?_; rintro e w1 ⟨rfl, hx1⟩) | (go_at_call 17; refine (next_c _ _ _ (by omega)).mono ?_; rintro e w1 ⟨rfl, hx1⟩) | (go_at_call 18; refine (prev_c _ _ _ (by omega)).mono ?_; rintro e w1 ⟨rfl, hx1⟩))
          go_ret
          exact ⟨rfl, (by (repeat (first | exact Ext.refl _ | exact ‹Ext _ _› | refine Ext.alloc ?_ _ | refine Ext.drew ?_ | refine Ext.drewN ?_ _ | (refine Ext.setCell ?_ (by first | omega | (simp; done) | (simp; omega)) _) | refine Ext.trans ?_ ‹Ext _ _›)))⟩
        · have g11 := G10 hf
          clear G10
          go_wp2_with (first | (go_at_call 9; refine (lives5_c _).mono ?_; rintro e w1 ⟨rfl, hx1⟩) | (go_at_call 10; refine (crun_c _ _ _ _ (by omega)).mono ?_; rintro e w1 ⟨rfl, hx1⟩) | (go_at_call 12; refine (cof_c _ _ _ (by omega)).mono ?_; rintro e w1 ⟨rfl, hx1⟩) | (go_at_call 14; refine (cbig_c _ _ _ (by omega)).mono ?_; rintro e w1 ⟨rfl, hx1⟩) | (go_at_call 16; refine (lof_c _ _ _ (by omega)).mono ?_; rintro e w1 ⟨rfl, hx1⟩) | (go_at_call 15; refine (valid_c _ _ (by omega)).mono ?_; rintro e w1 ⟨rfl, hx1⟩) | (go_at_call 17; refine (next_c _ _ _ (by omega)).mono ?_; rintro e w1 ⟨rfl, hx1⟩) | (go_at_call 18; refine (prev_c _ _ _ (by omega)).mono ?_; rintro e w1 ⟨rfl, hx1⟩))
          go_ret
          exact ⟨rfl, (by (repeat (first | exact Ext.refl _ | exact ‹Ext _ _› | refine Ext.alloc ?_ _ | refine Ext.drew ?_ | refine Ext.drewN ?_ _ | (refine Ext.setCell ?_ (by first | omega | (simp; done) | (simp; omega)) _) | refine Ext.trans ?_ ‹Ext _ _›)))⟩
set_option maxHeartbeats 4000000 in
set_option maxRecDepth 100000 in
theorem ClassWhole_true (t : ByteArray) (p : Int) (hs : t.size ≤ 500) (hv : validL (ls t) = true) (w : World) : Calls Try.prog 4 #[.string t, .int .i64 p, .bool true] w fun e w' => e = .returned (.bool true) ∧ Ext w w' := by
  by_cases hc : kindI (ls t) p true = 0 ∨ kindI (ls t) p true = 4
  · have h1 : (runI (ls t) p true).1 = -1 := by unfold runI; rw [if_pos hc]
    have h2 : (runI (ls t) p true).2 = -1 := by unfold runI; rw [if_pos hc]
    rw [kind_true] at hc
    rcases hc with hc | hc
    all_goals
      go_enter Try.func4, Try.ntmps4
      go_wp2_with (first | (go_at_call 9; refine (lives5_c _).mono ?_; rintro e w1 ⟨rfl, hx1⟩) | (go_at_call 10; refine (crun_c _ _ _ _ (by omega)).mono ?_; rintro e w1 ⟨rfl, hx1⟩) | (go_at_call 12; refine (cof_c _ _ _ (by omega)).mono ?_; rintro e w1 ⟨rfl, hx1⟩) | (go_at_call 14; refine (cbig_c _ _ _ (by omega)).mono ?_; rintro e w1 ⟨rfl, hx1⟩) | (go_at_call 16; refine (lof_c _ _ _ (by omega)).mono ?_; rintro e w1 ⟨rfl, hx1⟩) | (go_at_call 15; refine (valid_c _ _ (by omega)).mono ?_; rintro e w1 ⟨rfl, hx1⟩) | (go_at_call 17; refine (next_c _ _ _ (by omega)).mono ?_; rintro e w1 ⟨rfl, hx1⟩) | (go_at_call 18; refine (prev_c _ _ _ (by omega)).mono ?_; rintro e w1 ⟨rfl, hx1⟩))
      go_ret
      exact ⟨rfl, (by (repeat (first | exact Ext.refl _ | exact ‹Ext _ _› | refine Ext.alloc ?_ _ | refine Ext.drew ?_ | refine Ext.drewN ?_ _ | (refine Ext.setCell ?_ (by first | omega | (simp; done) | (simp; omega)) _) | refine Ext.trans ?_ ‹Ext _ _›)))⟩
  · obtain ⟨k, rfl, hk, hp⟩ := kind_place (l := ls t) (p := p) (big := true) (by omega)
    obtain ⟨f, u, g1, g2, g3, g4, g5, g6, g7, g8, g9, g10⟩ := run_facts hk hp (fun h => hc (.inl h)) (fun h => hc (.inr h))
    have h1 : (runI (ls t) k true).1 = f := by rw [g1]
    have h2 : (runI (ls t) k true).2 = u := by rw [g1]
    rw [ls_len] at g4
    have G5 := Lib.hid g5
    have G6 := Lib.hid g6
    have G8 := Lib.hid g8
    have H9 : (bigI (ls t) u == bigI (ls t) k) = false := by rw [beq_eq_false_iff_ne]; exact g9
    have G10 : 0 < f → (bigI (ls t) (prevI (ls t) f) == bigI (ls t) k) = false := fun h => by rw [beq_eq_false_iff_ne]; exact g10 h
    clear g1 g5 g6 g8 g9 g10 hc
    go_enter Try.func4, Try.ntmps4
    go_wp2_with (first | (go_at_call 9; refine (lives5_c _).mono ?_; rintro e w1 ⟨rfl, hx1⟩) | (go_at_call 10; refine (crun_c _ _ _ _ (by omega)).mono ?_; rintro e w1 ⟨rfl, hx1⟩) | (go_at_call 12; refine (cof_c _ _ _ (by omega)).mono ?_; rintro e w1 ⟨rfl, hx1⟩) | (go_at_call 14; refine (cbig_c _ _ _ (by omega)).mono ?_; rintro e w1 ⟨rfl, hx1⟩) | (go_at_call 16; refine (lof_c _ _ _ (by omega)).mono ?_; rintro e w1 ⟨rfl, hx1⟩) | (go_at_call 15; refine (valid_c _ _ (by omega)).mono ?_; rintro e w1 ⟨rfl, hx1⟩) | (go_at_call 17; refine (next_c _ _ _ (by omega)).mono ?_; rintro e w1 ⟨rfl, hx1⟩) | (go_at_call 18; refine (prev_c _ _ _ (by omega)).mono ?_; rintro e w1 ⟨rfl, hx1⟩))
    rename (_ ∧ _) ∧ _ => hq
    clear hq
    go_loopw [10] (fun v wr => ∃ i : Nat, f ≤ i ∧ i ≤ u ∧ placeB (ls t) i = true ∧ v = .int .i64 i ∧ Ext w wr) (fun v _ => u - (intOf v).toNat)
    case atStart => exact ⟨f, Nat.le_refl _, by omega, G5.out, rfl, (by (repeat (first | exact Ext.refl _ | exact ‹Ext _ _› | refine Ext.alloc ?_ _ | refine Ext.drew ?_ | refine Ext.drewN ?_ _ | (refine Ext.setCell ?_ (by first | omega | (simp; done) | (simp; omega)) _) | refine Ext.trans ?_ ‹Ext _ _›)))⟩
    case round =>
      obtain ⟨i, hi1, hi2, hpi, rfl, hx⟩ := hrel
      by_cases hlt : i < u
      · obtain ⟨n, m1, m2, m3, m4, m5⟩ := next_gap hpi (by rw [ls_len]; omega)
        have hnu : n ≤ u := by
          rcases Nat.lt_or_ge u n with h | h
          · have := m5 u hlt h; rw [G6.out] at this; exact absurd this (by simp)
          · exact h
        have hk2 : (bigI (ls t) i != bigI (ls t) k) = false := by
          have : bigI (ls t) i = bigI (ls t) k := G8.out i hi1 hlt hpi
          simp [this]
        have hn2 : (i : Int) < nextI (ls t) i := by omega
        have M1 := Lib.hid m1
        have M4 := Lib.hid m4
        clear m1 m4 m5 hpi
        go_wp2_with (first | (go_at_call 9; refine (lives5_c _).mono ?_; rintro e w1 ⟨rfl, hx1⟩) | (go_at_call 10; refine (crun_c _ _ _ _ (by omega)).mono ?_; rintro e w1 ⟨rfl, hx1⟩) | (go_at_call 12; refine (cof_c _ _ _ (by omega)).mono ?_; rintro e w1 ⟨rfl, hx1⟩) | (go_at_call 14; refine (cbig_c _ _ _ (by omega)).mono ?_; rintro e w1 ⟨rfl, hx1⟩) | (go_at_call 16; refine (lof_c _ _ _ (by omega)).mono ?_; rintro e w1 ⟨rfl, hx1⟩) | (go_at_call 15; refine (valid_c _ _ (by omega)).mono ?_; rintro e w1 ⟨rfl, hx1⟩) | (go_at_call 17; refine (next_c _ _ _ (by omega)).mono ?_; rintro e w1 ⟨rfl, hx1⟩) | (go_at_call 18; refine (prev_c _ _ _ (by omega)).mono ?_; rintro e w1 ⟨rfl, hx1⟩))
        go_roundw
        case rel => exact ⟨n, by omega, hnu, M4.out, by rw [M1.out], (by (repeat (first | exact Ext.refl _ | exact ‹Ext _ _› | refine Ext.alloc ?_ _ | refine Ext.drew ?_ | refine Ext.drewN ?_ _ | (refine Ext.setCell ?_ (by first | omega | (simp; done) | (simp; omega)) _) | refine Ext.trans ?_ ‹Ext _ _›)))⟩
        case measure => rw [M1.out]; simp [intOf]; omega
      · have ei : i = u := by omega
        subst ei
        rcases Nat.eq_zero_or_pos f with hf | hf
        · have hf' : f ≤ 0 := by omega
          clear hf G10
          go_wp2_with (first | (go_at_call 9; refine (lives5_c _).mono ?_; rintro e w1 ⟨rfl, hx1⟩) | (go_at_call 10; refine (crun_c _ _ _ _ (by omega)).mono ?_; rintro e w1 ⟨rfl, hx1⟩) | (go_at_call 12; refine (cof_c _ _ _ (by omega)).mono ?_; rintro e w1 ⟨rfl, hx1⟩) | (go_at_call 14; refine (cbig_c _ _ _ (by omega)).mono ?_; rintro e w1 ⟨rfl, hx1⟩) | (go_at_call 16; refine (lof_c _ _ _ (by omega)).mono ?_; rintro e w1 ⟨rfl, hx1⟩) | (go_at_call 15; refine (valid_c _ _ (by omega)).mono ?_; rintro e w1 ⟨rfl, hx1⟩) | (go_at_call 17; refine (next_c _ _ _ (by omega)).mono ?_; rintro e w1 ⟨rfl, hx1⟩) | (go_at_call 18; refine (prev_c _ _ _ (by omega)).mono ?_; rintro e w1 ⟨rfl, hx1⟩))
          go_ret
          exact ⟨rfl, (by (repeat (first | exact Ext.refl _ | exact ‹Ext _ _› | refine Ext.alloc ?_ _ | refine Ext.drew ?_ | refine Ext.drewN ?_ _ | (refine Ext.setCell ?_ (by first | omega | (simp; done) | (simp; omega)) _) | refine Ext.trans ?_ ‹Ext _ _›)))⟩
        · have g11 := G10 hf
          clear G10
          go_wp2_with (first | (go_at_call 9; refine (lives5_c _).mono ?_; rintro e w1 ⟨rfl, hx1⟩) | (go_at_call 10; refine (crun_c _ _ _ _ (by omega)).mono ?_; rintro e w1 ⟨rfl, hx1⟩) | (go_at_call 12; refine (cof_c _ _ _ (by omega)).mono ?_; rintro e w1 ⟨rfl, hx1⟩) | (go_at_call 14; refine (cbig_c _ _ _ (by omega)).mono ?_; rintro e w1 ⟨rfl, hx1⟩) | (go_at_call 16; refine (lof_c _ _ _ (by omega)).mono ?_; rintro e w1 ⟨rfl, hx1⟩) | (go_at_call 15; refine (valid_c _ _ (by omega)).mono ?_; rintro e w1 ⟨rfl, hx1⟩) | (go_at_call 17; refine (next_c _ _ _ (by omega)).mono ?_; rintro e w1 ⟨rfl, hx1⟩) | (go_at_call 18; refine (prev_c _ _ _ (by omega)).mono ?_; rintro e w1 ⟨rfl, hx1⟩))
          go_ret
          exact ⟨rfl, (by (repeat (first | exact Ext.refl _ | exact ‹Ext _ _› | refine Ext.alloc ?_ _ | refine Ext.drew ?_ | refine Ext.drewN ?_ _ | (refine Ext.setCell ?_ (by first | omega | (simp; done) | (simp; omega)) _) | refine Ext.trans ?_ ‹Ext _ _›)))⟩
set_option maxHeartbeats 4000000 in
set_option maxRecDepth 100000 in
theorem ClassWhole_c (t : ByteArray) (p : Int) (big : Bool) (ht : t.size ≤ 140737488351232) (hp : -9223372036854775808 ≤ p ∧ p ≤ 9223372036854775807) (w : World) : Calls Try.prog 4 #[.string t, .int .i64 p, .bool big] w fun e w' => e = .returned (.bool true) ∧ Ext w w' := by
  by_cases hs : t.size ≤ 500
  · rcases Bool.eq_false_or_eq_true (validL (ls t)) with hv | hv
    · cases big
      · exact ClassWhole_false t p hs hv w
      · exact ClassWhole_true t p hs hv w
    · go_enter Try.func4, Try.ntmps4
      go_wp2_with (first | (go_at_call 9; refine (lives5_c _).mono ?_; rintro e w1 ⟨rfl, hx1⟩) | (go_at_call 10; refine (crun_c _ _ _ _ (by omega)).mono ?_; rintro e w1 ⟨rfl, hx1⟩) | (go_at_call 12; refine (cof_c _ _ _ (by omega)).mono ?_; rintro e w1 ⟨rfl, hx1⟩) | (go_at_call 14; refine (cbig_c _ _ _ (by omega)).mono ?_; rintro e w1 ⟨rfl, hx1⟩) | (go_at_call 16; refine (lof_c _ _ _ (by omega)).mono ?_; rintro e w1 ⟨rfl, hx1⟩) | (go_at_call 15; refine (valid_c _ _ (by omega)).mono ?_; rintro e w1 ⟨rfl, hx1⟩) | (go_at_call 17; refine (next_c _ _ _ (by omega)).mono ?_; rintro e w1 ⟨rfl, hx1⟩) | (go_at_call 18; refine (prev_c _ _ _ (by omega)).mono ?_; rintro e w1 ⟨rfl, hx1⟩))
      go_ret
      exact ⟨rfl, (by (repeat (first | exact Ext.refl _ | exact ‹Ext _ _› | refine Ext.alloc ?_ _ | refine Ext.drew ?_ | refine Ext.drewN ?_ _ | (refine Ext.setCell ?_ (by first | omega | (simp; done) | (simp; omega)) _) | refine Ext.trans ?_ ‹Ext _ _›)))⟩
  · go_enter Try.func4, Try.ntmps4
    go_wp2_with (first | (go_at_call 9; refine (lives5_c _).mono ?_; rintro e w1 ⟨rfl, hx1⟩) | (go_at_call 10; refine (crun_c _ _ _ _ (by omega)).mono ?_; rintro e w1 ⟨rfl, hx1⟩) | (go_at_call 12; refine (cof_c _ _ _ (by omega)).mono ?_; rintro e w1 ⟨rfl, hx1⟩) | (go_at_call 14; refine (cbig_c _ _ _ (by omega)).mono ?_; rintro e w1 ⟨rfl, hx1⟩) | (go_at_call 16; refine (lof_c _ _ _ (by omega)).mono ?_; rintro e w1 ⟨rfl, hx1⟩) | (go_at_call 15; refine (valid_c _ _ (by omega)).mono ?_; rintro e w1 ⟨rfl, hx1⟩) | (go_at_call 17; refine (next_c _ _ _ (by omega)).mono ?_; rintro e w1 ⟨rfl, hx1⟩) | (go_at_call 18; refine (prev_c _ _ _ (by omega)).mono ?_; rintro e w1 ⟨rfl, hx1⟩))
    go_ret
    exact ⟨rfl, (by (repeat (first | exact Ext.refl _ | exact ‹Ext _ _› | refine Ext.alloc ?_ _ | refine Ext.drew ?_ | refine Ext.drewN ?_ _ | (refine Ext.setCell ?_ (by first | omega | (simp; done) | (simp; omega)) _) | refine Ext.trans ?_ ‹Ext _ _›)))⟩

end Go.Proofs.Ytgapekdcoedmgaa
