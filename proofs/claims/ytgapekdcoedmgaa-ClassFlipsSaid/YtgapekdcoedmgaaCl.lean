/- The contracts of the package class: the classes of runes, and where runes of one stand. -/
import Derived.Test.YtgapekdcoedmgaaL2
import Derived.Test.YtgapekdcoedmgaaMC
namespace Go.Proofs.Ytgapekdcoedmgaa
open Go.RowKit
set_option linter.unusedVariables false
set_option linter.unusedSimpArgs false
set_option maxHeartbeats 4000000 in
set_option maxRecDepth 100000 in
theorem letter_c (b : Int) (w : World) : Calls Try.prog 56 #[.int .u8 b] w fun e w' => e = .returned (.bool (lettB b)) ∧ Ext w w' := by
  go_enter Try.func56, Try.ntmps56
  go_wp2
  all_goals (go_ret; refine ⟨retb ?_, (by (repeat (first | exact Ext.refl _ | exact ‹Ext _ _› | refine Ext.alloc ?_ _ | refine Ext.drew ?_ | refine Ext.drewN ?_ _ | (refine Ext.setCell ?_ (by first | omega | (simp; done) | (simp; omega)) _) | refine Ext.trans ?_ ‹Ext _ _›)))⟩; unfold lettB; rw [Bool.eq_iff_iff]; simp; omega)
set_option maxHeartbeats 4000000 in
set_option maxRecDepth 100000 in
theorem of_c (b : Int) (w : World) : Calls Try.prog 37 #[.int .u8 b] w fun e w' => e = .returned (.int .i64 (ofB b)) ∧ Ext w w' := by
  go_enter Try.func37, Try.ntmps37
  go_wp2_with (first | (go_at_call 56; refine (letter_c _ _).mono ?_; rintro e w1 ⟨rfl, hx1⟩))
  all_goals (try simp only [beq_iff_eq, beq_eq_false_iff_ne] at *)
  all_goals (go_ret; refine ⟨ret1 ?_, (by (repeat (first | exact Ext.refl _ | exact ‹Ext _ _› | refine Ext.alloc ?_ _ | refine Ext.drew ?_ | refine Ext.drewN ?_ _ | (refine Ext.setCell ?_ (by first | omega | (simp; done) | (simp; omega)) _) | refine Ext.trans ?_ ‹Ext _ _›)))⟩; unfold ofB; repeat' split)
  all_goals first | rfl | (exfalso; omega) | (exfalso; simp_all <;> omega)
set_option maxHeartbeats 4000000 in
set_option maxRecDepth 100000 in
theorem cof_c (s : ByteArray) (p : Int) (w : World) (hs : s.size ≤ 1099511627775) : Calls Try.prog 12 #[.string s, .int .i64 p] w fun e w' => e = .returned (.int .i64 (clsI (ls s) p)) ∧ Ext w w' := by
  by_cases h0 : p < 0 ∨ (s.size : Int) ≤ p
  · have Hc : Hid (clsI (ls s) p = 0) := Lib.hid (by
      unfold clsI; rw [if_neg]
      rintro ⟨h1, h2⟩
      unfold placeB at h1; simp only [Bool.and_eq_true, decide_eq_true_eq, ls_len] at h1
      rw [ls_len] at h2; omega)
    go_enter Try.func12, Try.ntmps12
    go_wp2_with (first | (go_at_call 36; refine (place_c _ _ _ (by omega)).mono ?_; rintro e w1 ⟨rfl, hx1⟩))
    all_goals (first | (go_ret; exact ⟨ret1 Hc.out.symm, (by (repeat (first | exact Ext.refl _ | exact ‹Ext _ _› | refine Ext.alloc ?_ _ | refine Ext.drew ?_ | refine Ext.drewN ?_ _ | (refine Ext.setCell ?_ (by first | omega | (simp; done) | (simp; omega)) _) | refine Ext.trans ?_ ‹Ext _ _›)))⟩) | (exfalso; omega))
  · obtain ⟨k, rfl⟩ : ∃ k : Nat, p = k := ⟨p.toNat, by omega⟩
    have hk : k < s.size := by omega
    clear h0
    have Hb := Lib.hid (byL_eq s k hk)
    rcases Bool.eq_false_or_eq_true (placeB (ls s) k) with hp | hp
    · have Hc : Hid (clsI (ls s) k = ofB ↑s[k].toNat) := Lib.hid (by unfold clsI; rw [if_pos ⟨hp, by rw [ls_len]; omega⟩, Int.toNat_natCast, Hb.out])
      go_enter Try.func12, Try.ntmps12
      go_wp2_with (first | (go_at_call 36; refine (place_c _ _ _ (by omega)).mono ?_; rintro e w1 ⟨rfl, hx1⟩) | (go_at_call 37; refine (of_c _ _).mono ?_; rintro e w1 ⟨rfl, hx1⟩))
      all_goals (go_ret; exact ⟨ret1 Hc.out.symm, (by (repeat (first | exact Ext.refl _ | exact ‹Ext _ _› | refine Ext.alloc ?_ _ | refine Ext.drew ?_ | refine Ext.drewN ?_ _ | (refine Ext.setCell ?_ (by first | omega | (simp; done) | (simp; omega)) _) | refine Ext.trans ?_ ‹Ext _ _›)))⟩)
    · have Hc : Hid (clsI (ls s) k = 0) := Lib.hid (by unfold clsI; simp [hp])
      go_enter Try.func12, Try.ntmps12
      go_wp2_with (first | (go_at_call 36; refine (place_c _ _ _ (by omega)).mono ?_; rintro e w1 ⟨rfl, hx1⟩) | (go_at_call 37; refine (of_c _ _).mono ?_; rintro e w1 ⟨rfl, hx1⟩))
      all_goals (go_ret; exact ⟨ret1 Hc.out.symm, (by (repeat (first | exact Ext.refl _ | exact ‹Ext _ _› | refine Ext.alloc ?_ _ | refine Ext.drew ?_ | refine Ext.drewN ?_ _ | (refine Ext.setCell ?_ (by first | omega | (simp; done) | (simp; omega)) _) | refine Ext.trans ?_ ‹Ext _ _›)))⟩)
set_option maxHeartbeats 4000000 in
set_option maxRecDepth 100000 in
theorem cbig_c (s : ByteArray) (p : Int) (w : World) (hs : s.size ≤ 1099511627775) : Calls Try.prog 14 #[.string s, .int .i64 p] w fun e w' => e = .returned (.int .i64 (bigI (ls s) p)) ∧ Ext w w' := by
  go_enter Try.func14, Try.ntmps14
  go_wp2_with (first | (go_at_call 12; refine (cof_c _ _ _ hs).mono ?_; rintro e w1 ⟨rfl, hx1⟩))
  all_goals (try simp only [beq_iff_eq, beq_eq_false_iff_ne] at *)
  all_goals (go_ret; refine ⟨ret1 ?_, (by (repeat (first | exact Ext.refl _ | exact ‹Ext _ _› | refine Ext.alloc ?_ _ | refine Ext.drew ?_ | refine Ext.drewN ?_ _ | (refine Ext.setCell ?_ (by first | omega | (simp; done) | (simp; omega)) _) | refine Ext.trans ?_ ‹Ext _ _›)))⟩; unfold bigI)
  · rw [if_pos (by assumption)]
  · rw [if_neg (by assumption)]

theorem run_none {l : List UInt8} {p : Int} {big : Bool} (h : kindI l p big = 0 ∨ kindI l p big = 4) : (runI l p big).1 = -1 ∧ (runI l p big).2 = -1 := by unfold runI; rw [if_pos h]; exact ⟨rfl, rfl⟩
theorem kind_place {l : List UInt8} {p : Int} {big : Bool} (h : kindI l p big ≠ 0) : ∃ k : Nat, p = k ∧ k < l.length ∧ placeB l k = true := by
  have hc : clsI l p ≠ 0 := by
    intro e; apply h; unfold kindI bigI; rw [e]; cases big <;> simp
  unfold clsI at hc
  by_cases hp : placeB l p = true ∧ p ≠ l.length
  · have h1 := hp.1
    unfold placeB at h1; simp only [Bool.and_eq_true, decide_eq_true_eq] at h1
    have h2 := hp.2
    refine ⟨p.toNat, by omega, by omega, ?_⟩
    rw [Int.toNat_of_nonneg (by omega)]; exact hp.1
  · rw [if_neg hp] at hc; exact absurd rfl hc

set_option maxHeartbeats 4000000 in
set_option maxRecDepth 100000 in
theorem run_false (s : ByteArray) (p : Int) (w : World) (hs : s.size ≤ 1099511627775) : Calls Try.prog 10 #[.string s, .int .i64 p, .bool false] w fun e w' => e = .returned (.tuple #[.int .i64 (runI (ls s) p false).1, .int .i64 (runI (ls s) p false).2]) ∧ Ext w w' := by
  have Hk : Hid (kindI (ls s) p false = clsI (ls s) p) := Lib.hid rfl
  by_cases hc : kindI (ls s) p false = 0 ∨ kindI (ls s) p false = 4
  · obtain ⟨h1, h2⟩ := run_none hc
    have H1 := Lib.hid h1
    have H2 := Lib.hid h2
    rw [Hk.out] at hc
    clear h1 h2
    rcases hc with hc | hc
    all_goals
      go_enter Try.func10, Try.ntmps10
      go_wp2_with (first | (go_at_call 12; refine (cof_c _ _ _ hs).mono ?_; rintro e w1 ⟨rfl, hx1⟩))
      go_ret2
      exact ⟨ret2 ⟨H1.out.symm, H2.out.symm⟩, (by (repeat (first | exact Ext.refl _ | exact ‹Ext _ _› | refine Ext.alloc ?_ _ | refine Ext.drew ?_ | refine Ext.drewN ?_ _ | (refine Ext.setCell ?_ (by first | omega | (simp; done) | (simp; omega)) _) | refine Ext.trans ?_ ‹Ext _ _›)))⟩
  · obtain ⟨k, rfl, hk, hp⟩ := kind_place (l := ls s) (p := p) (big := false) (by omega)
    rw [ls_len] at hk
    obtain ⟨hpl, hle, hv⟩ := valid_at hp
    obtain ⟨e, q1, q2, q3, q4, q5, q6, q7⟩ := line_at hp
    rw [ls_len] at q5
    obtain ⟨c, ec⟩ : ∃ c, c = kindI (ls s) k false := ⟨_, rfl⟩
    have hc0 : (kindI (ls s) k false == 0) = false := by simp; omega
    have hc4 : (kindI (ls s) k false == 4) = false := by simp; omega
    have Hr1 : Hid ((runI (ls s) k false).1 = (dnI (ls s) (kindI (ls s) k false) false (lst (ls s) k) k k : Nat)) := Lib.hid (by unfold runI; rw [if_neg hc, q1]; simp)
    have Hr2 : Hid ((runI (ls s) k false).2 = upI (ls s) (kindI (ls s) k false) false (e - k) k k) := Lib.hid (by unfold runI; rw [if_neg hc, q2]; simp)
    rw [Hk.out] at hc0 hc4 Hr1 Hr2
    have Hv := Lib.hid hv
    have Hp := Lib.hid hp
    have H6 := Lib.hid q6
    have H7 := Lib.hid q7
    clear ec hc hpl hle hv hp q6 q7
    obtain ⟨a, ha⟩ : ∃ a, a = lst (ls s) k := ⟨_, rfl⟩
    rw [← ha] at q1 q3 Hr1 H6
    clear ha
    go_enter Try.func10, Try.ntmps10
    go_wp2_with (first | (go_at_call 12; refine (cof_c _ _ _ hs).mono ?_; rintro e w1 ⟨rfl, hx1⟩) | (go_at_call 16; refine (lof_c _ _ _ hs).mono ?_; rintro e w1 ⟨rfl, hx1⟩) | (go_at_call 25; refine (lstart_c _ _ _ hs).mono ?_; rintro e w1 ⟨rfl, hx1⟩) | (go_at_call 27; refine (lend_c _ _ _ hs).mono ?_; rintro e w1 ⟨rfl, hx1⟩) | (go_at_call 18; refine (prev_c _ _ _ (by omega)).mono ?_; rintro e w1 ⟨rfl, hx1⟩) | (go_at_call 17; refine (next_c _ _ _ (by omega)).mono ?_; rintro e w1 ⟨rfl, hx1⟩))
    go_loopw [11] (fun v wr => ∃ f : Nat, a ≤ f ∧ f ≤ k ∧ placeB (ls s) f = true ∧ v = .int .i64 f ∧ dnI (ls s) (clsI (ls s) k) false a f f = dnI (ls s) (clsI (ls s) k) false a k k ∧ Ext w wr) (fun v _ => (intOf v).toNat)
    case atStart => exact ⟨k, q3, Nat.le_refl _, Hp.out, rfl, rfl, (by (repeat (first | exact Ext.refl _ | exact ‹Ext _ _› | refine Ext.alloc ?_ _ | refine Ext.drew ?_ | refine Ext.drewN ?_ _ | (refine Ext.setCell ?_ (by first | omega | (simp; done) | (simp; omega)) _) | refine Ext.trans ?_ ‹Ext _ _›)))⟩
    case round =>
      obtain ⟨f, hf1, hf2, hpf, rfl, hok, hx⟩ := hrel
      have Hok := Lib.hid hok
      clear hok
      by_cases hlt : a < f
      · obtain ⟨g1, g2, g3, g4⟩ := dnI_step (c := clsI (ls s) k) (big := false) Hv.out (by rw [ls_len]; omega) hlt H6.out hpf
        have g4' : dnI (ls s) (clsI (ls s) k) false a f f = if clsI (ls s) (prevI (ls s) f) = clsI (ls s) k then dnI (ls s) (clsI (ls s) k) false a (prevFrom (ls s) (f - 1)) (prevFrom (ls s) (f - 1)) else f := g4
        have g5 := prevI_at hpf (by omega)
        obtain ⟨f', ef⟩ : ∃ f', f' = prevFrom (ls s) (f - 1) := ⟨_, rfl⟩
        rw [← ef] at g1 g2 g3 g4' g5
        have Hpf := Lib.hid hpf
        have G3 := Lib.hid g3
        have G4 := Lib.hid g4'
        have G5 := Lib.hid g5
        clear hpf g3 g4 g4' g5 ef
        go_wp2_with (first | (go_at_call 12; refine (cof_c _ _ _ hs).mono ?_; rintro e w1 ⟨rfl, hx1⟩) | (go_at_call 16; refine (lof_c _ _ _ hs).mono ?_; rintro e w1 ⟨rfl, hx1⟩) | (go_at_call 25; refine (lstart_c _ _ _ hs).mono ?_; rintro e w1 ⟨rfl, hx1⟩) | (go_at_call 27; refine (lend_c _ _ _ hs).mono ?_; rintro e w1 ⟨rfl, hx1⟩) | (go_at_call 18; refine (prev_c _ _ _ (by omega)).mono ?_; rintro e w1 ⟨rfl, hx1⟩) | (go_at_call 17; refine (next_c _ _ _ (by omega)).mono ?_; rintro e w1 ⟨rfl, hx1⟩))
        · go_roundw
          case rel =>
            refine ⟨f', g1, by omega, G3.out, by rw [G5.out], ?_, (by (repeat (first | exact Ext.refl _ | exact ‹Ext _ _› | refine Ext.alloc ?_ _ | refine Ext.drew ?_ | refine Ext.drewN ?_ _ | (refine Ext.setCell ?_ (by first | omega | (simp; done) | (simp; omega)) _) | refine Ext.trans ?_ ‹Ext _ _›)))⟩
            rw [← Hok.out, G4.out, if_pos (by simp_all)]
          case measure => rw [G5.out]; simp [intOf]; omega
        · have Hd : Hid (dnI (ls s) (clsI (ls s) k) false a k k = f) := Lib.hid (by rw [← Hok.out, G4.out, if_neg (by simp_all)])
          clear G4 G5 G3 Hok
          rename (clsI (ls s) (prevI (ls s) ↑f) == clsI (ls s) ↑k) = false => hne
          clear hne
          go_loopw [12] (fun v wr => ∃ t : Nat, k ≤ t ∧ t ≤ e ∧ placeB (ls s) t = true ∧ v = .int .i64 t ∧ upI (ls s) (clsI (ls s) k) false (e - t) t t = upI (ls s) (clsI (ls s) k) false (e - k) k k ∧ Ext w wr) (fun v _ => e - (intOf v).toNat)
          case atStart => exact ⟨k, Nat.le_refl _, q4, Hp.out, rfl, rfl, (by (repeat (first | exact Ext.refl _ | exact ‹Ext _ _› | refine Ext.alloc ?_ _ | refine Ext.drew ?_ | refine Ext.drewN ?_ _ | (refine Ext.setCell ?_ (by first | omega | (simp; done) | (simp; omega)) _) | refine Ext.trans ?_ ‹Ext _ _›)))⟩
          case round =>
            obtain ⟨t, ht1, ht2, hpt, rfl, hok2, hx3⟩ := hrel
            have Hok2 := Lib.hid hok2
            clear hok2
            by_cases hlt2 : t < e
            · obtain ⟨n, g1, g2, g3, g4, g5⟩ := upI_step (c := clsI (ls s) k) (big := false) (by rw [ls_len]; omega) hlt2 H7.out hpt
              have g5' : upI (ls s) (clsI (ls s) k) false (e - t) t t = if clsI (ls s) t = clsI (ls s) k then upI (ls s) (clsI (ls s) k) false (e - n) n n else (t : Int) := g5
              have G1 := Lib.hid g1
              have G4 := Lib.hid g4
              have G5 := Lib.hid g5'
              clear g1 g4 g5 g5' hpt
              go_wp2_with (first | (go_at_call 12; refine (cof_c _ _ _ hs).mono ?_; rintro e w1 ⟨rfl, hx1⟩) | (go_at_call 16; refine (lof_c _ _ _ hs).mono ?_; rintro e w1 ⟨rfl, hx1⟩) | (go_at_call 25; refine (lstart_c _ _ _ hs).mono ?_; rintro e w1 ⟨rfl, hx1⟩) | (go_at_call 27; refine (lend_c _ _ _ hs).mono ?_; rintro e w1 ⟨rfl, hx1⟩) | (go_at_call 18; refine (prev_c _ _ _ (by omega)).mono ?_; rintro e w1 ⟨rfl, hx1⟩) | (go_at_call 17; refine (next_c _ _ _ (by omega)).mono ?_; rintro e w1 ⟨rfl, hx1⟩))
              · go_roundw
                case rel =>
                  refine ⟨n, by omega, g3, G4.out, by rw [G1.out], ?_, (by (repeat (first | exact Ext.refl _ | exact ‹Ext _ _› | refine Ext.alloc ?_ _ | refine Ext.drew ?_ | refine Ext.drewN ?_ _ | (refine Ext.setCell ?_ (by first | omega | (simp; done) | (simp; omega)) _) | refine Ext.trans ?_ ‹Ext _ _›)))⟩
                  rw [← Hok2.out, G5.out, if_pos (by simp_all)]
                case measure => rw [G1.out]; simp [intOf]; omega
              · go_ret2
                refine ⟨ret2 ⟨?_, ?_⟩, (by (repeat (first | exact Ext.refl _ | exact ‹Ext _ _› | refine Ext.alloc ?_ _ | refine Ext.drew ?_ | refine Ext.drewN ?_ _ | (refine Ext.setCell ?_ (by first | omega | (simp; done) | (simp; omega)) _) | refine Ext.trans ?_ ‹Ext _ _›)))⟩
                · rw [Hr1.out, Hd.out]
                · rw [Hr2.out, ← Hok2.out, G5.out, if_neg (by simp_all)]
            · have et : t = e := by omega
              subst et
              go_wp2_with (first | (go_at_call 12; refine (cof_c _ _ _ hs).mono ?_; rintro e w1 ⟨rfl, hx1⟩) | (go_at_call 16; refine (lof_c _ _ _ hs).mono ?_; rintro e w1 ⟨rfl, hx1⟩) | (go_at_call 25; refine (lstart_c _ _ _ hs).mono ?_; rintro e w1 ⟨rfl, hx1⟩) | (go_at_call 27; refine (lend_c _ _ _ hs).mono ?_; rintro e w1 ⟨rfl, hx1⟩) | (go_at_call 18; refine (prev_c _ _ _ (by omega)).mono ?_; rintro e w1 ⟨rfl, hx1⟩) | (go_at_call 17; refine (next_c _ _ _ (by omega)).mono ?_; rintro e w1 ⟨rfl, hx1⟩))
              go_ret2
              refine ⟨ret2 ⟨?_, ?_⟩, (by (repeat (first | exact Ext.refl _ | exact ‹Ext _ _› | refine Ext.alloc ?_ _ | refine Ext.drew ?_ | refine Ext.drewN ?_ _ | (refine Ext.setCell ?_ (by first | omega | (simp; done) | (simp; omega)) _) | refine Ext.trans ?_ ‹Ext _ _›)))⟩
              · rw [Hr1.out, Hd.out]
              · rw [Hr2.out, ← Hok2.out, Nat.sub_self]; rfl
      · have ef : f = a := by omega
        subst ef
        have Hd : Hid (dnI (ls s) (clsI (ls s) k) false f k k = f) := Lib.hid (by rw [← Hok.out]; exact dnI_end _ _ _ _)
        go_wp2_with (first | (go_at_call 12; refine (cof_c _ _ _ hs).mono ?_; rintro e w1 ⟨rfl, hx1⟩) | (go_at_call 16; refine (lof_c _ _ _ hs).mono ?_; rintro e w1 ⟨rfl, hx1⟩) | (go_at_call 25; refine (lstart_c _ _ _ hs).mono ?_; rintro e w1 ⟨rfl, hx1⟩) | (go_at_call 27; refine (lend_c _ _ _ hs).mono ?_; rintro e w1 ⟨rfl, hx1⟩) | (go_at_call 18; refine (prev_c _ _ _ (by omega)).mono ?_; rintro e w1 ⟨rfl, hx1⟩) | (go_at_call 17; refine (next_c _ _ _ (by omega)).mono ?_; rintro e w1 ⟨rfl, hx1⟩))
        go_loopw [12] (fun v wr => ∃ t : Nat, k ≤ t ∧ t ≤ e ∧ placeB (ls s) t = true ∧ v = .int .i64 t ∧ upI (ls s) (clsI (ls s) k) false (e - t) t t = upI (ls s) (clsI (ls s) k) false (e - k) k k ∧ Ext w wr) (fun v _ => e - (intOf v).toNat)
        case atStart => exact ⟨k, Nat.le_refl _, q4, Hp.out, rfl, rfl, (by (repeat (first | exact Ext.refl _ | exact ‹Ext _ _› | refine Ext.alloc ?_ _ | refine Ext.drew ?_ | refine Ext.drewN ?_ _ | (refine Ext.setCell ?_ (by first | omega | (simp; done) | (simp; omega)) _) | refine Ext.trans ?_ ‹Ext _ _›)))⟩
        case round =>
          obtain ⟨t, ht1, ht2, hpt, rfl, hok2, hx3⟩ := hrel
          have Hok2 := Lib.hid hok2
          clear hok2
          by_cases hlt2 : t < e
          · obtain ⟨n, g1, g2, g3, g4, g5⟩ := upI_step (c := clsI (ls s) k) (big := false) (by rw [ls_len]; omega) hlt2 H7.out hpt
            have g5' : upI (ls s) (clsI (ls s) k) false (e - t) t t = if clsI (ls s) t = clsI (ls s) k then upI (ls s) (clsI (ls s) k) false (e - n) n n else (t : Int) := g5
            have G1 := Lib.hid g1
            have G4 := Lib.hid g4
            have G5 := Lib.hid g5'
            clear g1 g4 g5 g5' hpt
            go_wp2_with (first | (go_at_call 12; refine (cof_c _ _ _ hs).mono ?_; rintro e w1 ⟨rfl, hx1⟩) | (go_at_call 16; refine (lof_c _ _ _ hs).mono ?_; rintro e w1 ⟨rfl, hx1⟩) | (go_at_call 25; refine (lstart_c _ _ _ hs).mono ?_; rintro e w1 ⟨rfl, hx1⟩) | (go_at_call 27; refine (lend_c _ _ _ hs).mono ?_; rintro e w1 ⟨rfl, hx1⟩) | (go_at_call 18; refine (prev_c _ _ _ (by omega)).mono ?_; rintro e w1 ⟨rfl, hx1⟩) | (go_at_call 17; refine (next_c _ _ _ (by omega)).mono ?_; rintro e w1 ⟨rfl, hx1⟩))
            · go_roundw
              case rel =>
                refine ⟨n, by omega, g3, G4.out, by rw [G1.out], ?_, (by (repeat (first | exact Ext.refl _ | exact ‹Ext _ _› | refine Ext.alloc ?_ _ | refine Ext.drew ?_ | refine Ext.drewN ?_ _ | (refine Ext.setCell ?_ (by first | omega | (simp; done) | (simp; omega)) _) | refine Ext.trans ?_ ‹Ext _ _›)))⟩
                rw [← Hok2.out, G5.out, if_pos (by simp_all)]
              case measure => rw [G1.out]; simp [intOf]; omega
            · go_ret2
              refine ⟨ret2 ⟨?_, ?_⟩, (by (repeat (first | exact Ext.refl _ | exact ‹Ext _ _› | refine Ext.alloc ?_ _ | refine Ext.drew ?_ | refine Ext.drewN ?_ _ | (refine Ext.setCell ?_ (by first | omega | (simp; done) | (simp; omega)) _) | refine Ext.trans ?_ ‹Ext _ _›)))⟩
              · rw [Hr1.out, Hd.out]
              · rw [Hr2.out, ← Hok2.out, G5.out, if_neg (by simp_all)]
          · have et : t = e := by omega
            subst et
            go_wp2_with (first | (go_at_call 12; refine (cof_c _ _ _ hs).mono ?_; rintro e w1 ⟨rfl, hx1⟩) | (go_at_call 16; refine (lof_c _ _ _ hs).mono ?_; rintro e w1 ⟨rfl, hx1⟩) | (go_at_call 25; refine (lstart_c _ _ _ hs).mono ?_; rintro e w1 ⟨rfl, hx1⟩) | (go_at_call 27; refine (lend_c _ _ _ hs).mono ?_; rintro e w1 ⟨rfl, hx1⟩) | (go_at_call 18; refine (prev_c _ _ _ (by omega)).mono ?_; rintro e w1 ⟨rfl, hx1⟩) | (go_at_call 17; refine (next_c _ _ _ (by omega)).mono ?_; rintro e w1 ⟨rfl, hx1⟩))
            go_ret2
            refine ⟨ret2 ⟨?_, ?_⟩, (by (repeat (first | exact Ext.refl _ | exact ‹Ext _ _› | refine Ext.alloc ?_ _ | refine Ext.drew ?_ | refine Ext.drewN ?_ _ | (refine Ext.setCell ?_ (by first | omega | (simp; done) | (simp; omega)) _) | refine Ext.trans ?_ ‹Ext _ _›)))⟩
            · rw [Hr1.out, Hd.out]
            · rw [Hr2.out, ← Hok2.out, Nat.sub_self]; rfl
set_option maxHeartbeats 4000000 in
set_option maxRecDepth 100000 in
theorem run_true (s : ByteArray) (p : Int) (w : World) (hs : s.size ≤ 1099511627775) : Calls Try.prog 10 #[.string s, .int .i64 p, .bool true] w fun e w' => e = .returned (.tuple #[.int .i64 (runI (ls s) p true).1, .int .i64 (runI (ls s) p true).2]) ∧ Ext w w' := by
  have Hk : Hid (kindI (ls s) p true = bigI (ls s) p) := Lib.hid rfl
  by_cases hc : kindI (ls s) p true = 0 ∨ kindI (ls s) p true = 4
  · obtain ⟨h1, h2⟩ := run_none hc
    have H1 := Lib.hid h1
    have H2 := Lib.hid h2
    rw [Hk.out] at hc
    clear h1 h2
    rcases hc with hc | hc
    all_goals
      go_enter Try.func10, Try.ntmps10
      go_wp2_with (first | (go_at_call 14; refine (cbig_c _ _ _ hs).mono ?_; rintro e w1 ⟨rfl, hx1⟩))
      go_ret2
      exact ⟨ret2 ⟨H1.out.symm, H2.out.symm⟩, (by (repeat (first | exact Ext.refl _ | exact ‹Ext _ _› | refine Ext.alloc ?_ _ | refine Ext.drew ?_ | refine Ext.drewN ?_ _ | (refine Ext.setCell ?_ (by first | omega | (simp; done) | (simp; omega)) _) | refine Ext.trans ?_ ‹Ext _ _›)))⟩
  · obtain ⟨k, rfl, hk, hp⟩ := kind_place (l := ls s) (p := p) (big := true) (by omega)
    rw [ls_len] at hk
    obtain ⟨hpl, hle, hv⟩ := valid_at hp
    obtain ⟨e, q1, q2, q3, q4, q5, q6, q7⟩ := line_at hp
    rw [ls_len] at q5
    obtain ⟨c, ec⟩ : ∃ c, c = kindI (ls s) k true := ⟨_, rfl⟩
    have hc0 : (kindI (ls s) k true == 0) = false := by simp; omega
    have hc4 : (kindI (ls s) k true == 4) = false := by simp; omega
    have Hr1 : Hid ((runI (ls s) k true).1 = (dnI (ls s) (kindI (ls s) k true) true (lst (ls s) k) k k : Nat)) := Lib.hid (by unfold runI; rw [if_neg hc, q1]; simp)
    have Hr2 : Hid ((runI (ls s) k true).2 = upI (ls s) (kindI (ls s) k true) true (e - k) k k) := Lib.hid (by unfold runI; rw [if_neg hc, q2]; simp)
    rw [Hk.out] at hc0 hc4 Hr1 Hr2
    have Hv := Lib.hid hv
    have Hp := Lib.hid hp
    have H6 := Lib.hid q6
    have H7 := Lib.hid q7
    clear ec hc hpl hle hv hp q6 q7
    obtain ⟨a, ha⟩ : ∃ a, a = lst (ls s) k := ⟨_, rfl⟩
    rw [← ha] at q1 q3 Hr1 H6
    clear ha
    go_enter Try.func10, Try.ntmps10
    go_wp2_with (first | (go_at_call 14; refine (cbig_c _ _ _ hs).mono ?_; rintro e w1 ⟨rfl, hx1⟩) | (go_at_call 16; refine (lof_c _ _ _ hs).mono ?_; rintro e w1 ⟨rfl, hx1⟩) | (go_at_call 25; refine (lstart_c _ _ _ hs).mono ?_; rintro e w1 ⟨rfl, hx1⟩) | (go_at_call 27; refine (lend_c _ _ _ hs).mono ?_; rintro e w1 ⟨rfl, hx1⟩) | (go_at_call 18; refine (prev_c _ _ _ (by omega)).mono ?_; rintro e w1 ⟨rfl, hx1⟩) | (go_at_call 17; refine (next_c _ _ _ (by omega)).mono ?_; rintro e w1 ⟨rfl, hx1⟩))
    go_loopw [11] (fun v wr => ∃ f : Nat, a ≤ f ∧ f ≤ k ∧ placeB (ls s) f = true ∧ v = .int .i64 f ∧ dnI (ls s) (bigI (ls s) k) true a f f = dnI (ls s) (bigI (ls s) k) true a k k ∧ Ext w wr) (fun v _ => (intOf v).toNat)
    case atStart => exact ⟨k, q3, Nat.le_refl _, Hp.out, rfl, rfl, (by (repeat (first | exact Ext.refl _ | exact ‹Ext _ _› | refine Ext.alloc ?_ _ | refine Ext.drew ?_ | refine Ext.drewN ?_ _ | (refine Ext.setCell ?_ (by first | omega | (simp; done) | (simp; omega)) _) | refine Ext.trans ?_ ‹Ext _ _›)))⟩
    case round =>
      obtain ⟨f, hf1, hf2, hpf, rfl, hok, hx⟩ := hrel
      have Hok := Lib.hid hok
      clear hok
      by_cases hlt : a < f
      · obtain ⟨g1, g2, g3, g4⟩ := dnI_step (c := bigI (ls s) k) (big := true) Hv.out (by rw [ls_len]; omega) hlt H6.out hpf
        have g4' : dnI (ls s) (bigI (ls s) k) true a f f = if bigI (ls s) (prevI (ls s) f) = bigI (ls s) k then dnI (ls s) (bigI (ls s) k) true a (prevFrom (ls s) (f - 1)) (prevFrom (ls s) (f - 1)) else f := g4
        have g5 := prevI_at hpf (by omega)
        obtain ⟨f', ef⟩ : ∃ f', f' = prevFrom (ls s) (f - 1) := ⟨_, rfl⟩
        rw [← ef] at g1 g2 g3 g4' g5
        have Hpf := Lib.hid hpf
        have G3 := Lib.hid g3
        have G4 := Lib.hid g4'
        have G5 := Lib.hid g5
        clear hpf g3 g4 g4' g5 ef
        go_wp2_with (first | (go_at_call 14; refine (cbig_c _ _ _ hs).mono ?_; rintro e w1 ⟨rfl, hx1⟩) | (go_at_call 16; refine (lof_c _ _ _ hs).mono ?_; rintro e w1 ⟨rfl, hx1⟩) | (go_at_call 25; refine (lstart_c _ _ _ hs).mono ?_; rintro e w1 ⟨rfl, hx1⟩) | (go_at_call 27; refine (lend_c _ _ _ hs).mono ?_; rintro e w1 ⟨rfl, hx1⟩) | (go_at_call 18; refine (prev_c _ _ _ (by omega)).mono ?_; rintro e w1 ⟨rfl, hx1⟩) | (go_at_call 17; refine (next_c _ _ _ (by omega)).mono ?_; rintro e w1 ⟨rfl, hx1⟩))
        · go_roundw
          case rel =>
            refine ⟨f', g1, by omega, G3.out, by rw [G5.out], ?_, (by (repeat (first | exact Ext.refl _ | exact ‹Ext _ _› | refine Ext.alloc ?_ _ | refine Ext.drew ?_ | refine Ext.drewN ?_ _ | (refine Ext.setCell ?_ (by first | omega | (simp; done) | (simp; omega)) _) | refine Ext.trans ?_ ‹Ext _ _›)))⟩
            rw [← Hok.out, G4.out, if_pos (by simp_all)]
          case measure => rw [G5.out]; simp [intOf]; omega
        · have Hd : Hid (dnI (ls s) (bigI (ls s) k) true a k k = f) := Lib.hid (by rw [← Hok.out, G4.out, if_neg (by simp_all)])
          clear G4 G5 G3 Hok
          rename (bigI (ls s) (prevI (ls s) ↑f) == bigI (ls s) ↑k) = false => hne
          clear hne
          go_loopw [12] (fun v wr => ∃ t : Nat, k ≤ t ∧ t ≤ e ∧ placeB (ls s) t = true ∧ v = .int .i64 t ∧ upI (ls s) (bigI (ls s) k) true (e - t) t t = upI (ls s) (bigI (ls s) k) true (e - k) k k ∧ Ext w wr) (fun v _ => e - (intOf v).toNat)
          case atStart => exact ⟨k, Nat.le_refl _, q4, Hp.out, rfl, rfl, (by (repeat (first | exact Ext.refl _ | exact ‹Ext _ _› | refine Ext.alloc ?_ _ | refine Ext.drew ?_ | refine Ext.drewN ?_ _ | (refine Ext.setCell ?_ (by first | omega | (simp; done) | (simp; omega)) _) | refine Ext.trans ?_ ‹Ext _ _›)))⟩
          case round =>
            obtain ⟨t, ht1, ht2, hpt, rfl, hok2, hx3⟩ := hrel
            have Hok2 := Lib.hid hok2
            clear hok2
            by_cases hlt2 : t < e
            · obtain ⟨n, g1, g2, g3, g4, g5⟩ := upI_step (c := bigI (ls s) k) (big := true) (by rw [ls_len]; omega) hlt2 H7.out hpt
              have g5' : upI (ls s) (bigI (ls s) k) true (e - t) t t = if bigI (ls s) t = bigI (ls s) k then upI (ls s) (bigI (ls s) k) true (e - n) n n else (t : Int) := g5
              have G1 := Lib.hid g1
              have G4 := Lib.hid g4
              have G5 := Lib.hid g5'
              clear g1 g4 g5 g5' hpt
              go_wp2_with (first | (go_at_call 14; refine (cbig_c _ _ _ hs).mono ?_; rintro e w1 ⟨rfl, hx1⟩) | (go_at_call 16; refine (lof_c _ _ _ hs).mono ?_; rintro e w1 ⟨rfl, hx1⟩) | (go_at_call 25; refine (lstart_c _ _ _ hs).mono ?_; rintro e w1 ⟨rfl, hx1⟩) | (go_at_call 27; refine (lend_c _ _ _ hs).mono ?_; rintro e w1 ⟨rfl, hx1⟩) | (go_at_call 18; refine (prev_c _ _ _ (by omega)).mono ?_; rintro e w1 ⟨rfl, hx1⟩) | (go_at_call 17; refine (next_c _ _ _ (by omega)).mono ?_; rintro e w1 ⟨rfl, hx1⟩))
              · go_roundw
                case rel =>
                  refine ⟨n, by omega, g3, G4.out, by rw [G1.out], ?_, (by (repeat (first | exact Ext.refl _ | exact ‹Ext _ _› | refine Ext.alloc ?_ _ | refine Ext.drew ?_ | refine Ext.drewN ?_ _ | (refine Ext.setCell ?_ (by first | omega | (simp; done) | (simp; omega)) _) | refine Ext.trans ?_ ‹Ext _ _›)))⟩
                  rw [← Hok2.out, G5.out, if_pos (by simp_all)]
                case measure => rw [G1.out]; simp [intOf]; omega
              · go_ret2
                refine ⟨ret2 ⟨?_, ?_⟩, (by (repeat (first | exact Ext.refl _ | exact ‹Ext _ _› | refine Ext.alloc ?_ _ | refine Ext.drew ?_ | refine Ext.drewN ?_ _ | (refine Ext.setCell ?_ (by first | omega | (simp; done) | (simp; omega)) _) | refine Ext.trans ?_ ‹Ext _ _›)))⟩
                · rw [Hr1.out, Hd.out]
                · rw [Hr2.out, ← Hok2.out, G5.out, if_neg (by simp_all)]
            · have et : t = e := by omega
              subst et
              go_wp2_with (first | (go_at_call 14; refine (cbig_c _ _ _ hs).mono ?_; rintro e w1 ⟨rfl, hx1⟩) | (go_at_call 16; refine (lof_c _ _ _ hs).mono ?_; rintro e w1 ⟨rfl, hx1⟩) | (go_at_call 25; refine (lstart_c _ _ _ hs).mono ?_; rintro e w1 ⟨rfl, hx1⟩) | (go_at_call 27; refine (lend_c _ _ _ hs).mono ?_; rintro e w1 ⟨rfl, hx1⟩) | (go_at_call 18; refine (prev_c _ _ _ (by omega)).mono ?_; rintro e w1 ⟨rfl, hx1⟩) | (go_at_call 17; refine (next_c _ _ _ (by omega)).mono ?_; rintro e w1 ⟨rfl, hx1⟩))
              go_ret2
              refine ⟨ret2 ⟨?_, ?_⟩, (by (repeat (first | exact Ext.refl _ | exact ‹Ext _ _› | refine Ext.alloc ?_ _ | refine Ext.drew ?_ | refine Ext.drewN ?_ _ | (refine Ext.setCell ?_ (by first | omega | (simp; done) | (simp; omega)) _) | refine Ext.trans ?_ ‹Ext _ _›)))⟩
              · rw [Hr1.out, Hd.out]
              · rw [Hr2.out, ← Hok2.out, Nat.sub_self]; rfl
      · have ef : f = a := by omega
        subst ef
        have Hd : Hid (dnI (ls s) (bigI (ls s) k) true f k k = f) := Lib.hid (by rw [← Hok.out]; exact dnI_end _ _ _ _)
        go_wp2_with (first | (go_at_call 14; refine (cbig_c _ _ _ hs).mono ?_; rintro e w1 ⟨rfl, hx1⟩) | (go_at_call 16; refine (lof_c _ _ _ hs).mono ?_; rintro e w1 ⟨rfl, hx1⟩) | (go_at_call 25; refine (lstart_c _ _ _ hs).mono ?_; rintro e w1 ⟨rfl, hx1⟩) | (go_at_call 27; refine (lend_c _ _ _ hs).mono ?_; rintro e w1 ⟨rfl, hx1⟩) | (go_at_call 18; refine (prev_c _ _ _ (by omega)).mono ?_; rintro e w1 ⟨rfl, hx1⟩) | (go_at_call 17; refine (next_c _ _ _ (by omega)).mono ?_; rintro e w1 ⟨rfl, hx1⟩))
        go_loopw [12] (fun v wr => ∃ t : Nat, k ≤ t ∧ t ≤ e ∧ placeB (ls s) t = true ∧ v = .int .i64 t ∧ upI (ls s) (bigI (ls s) k) true (e - t) t t = upI (ls s) (bigI (ls s) k) true (e - k) k k ∧ Ext w wr) (fun v _ => e - (intOf v).toNat)
        case atStart => exact ⟨k, Nat.le_refl _, q4, Hp.out, rfl, rfl, (by (repeat (first | exact Ext.refl _ | exact ‹Ext _ _› | refine Ext.alloc ?_ _ | refine Ext.drew ?_ | refine Ext.drewN ?_ _ | (refine Ext.setCell ?_ (by first | omega | (simp; done) | (simp; omega)) _) | refine Ext.trans ?_ ‹Ext _ _›)))⟩
        case round =>
          obtain ⟨t, ht1, ht2, hpt, rfl, hok2, hx3⟩ := hrel
          have Hok2 := Lib.hid hok2
          clear hok2
          by_cases hlt2 : t < e
          · obtain ⟨n, g1, g2, g3, g4, g5⟩ := upI_step (c := bigI (ls s) k) (big := true) (by rw [ls_len]; omega) hlt2 H7.out hpt
            have g5' : upI (ls s) (bigI (ls s) k) true (e - t) t t = if bigI (ls s) t = bigI (ls s) k then upI (ls s) (bigI (ls s) k) true (e - n) n n else (t : Int) := g5
            have G1 := Lib.hid g1
            have G4 := Lib.hid g4
            have G5 := Lib.hid g5'
            clear g1 g4 g5 g5' hpt
            go_wp2_with (first | (go_at_call 14; refine (cbig_c _ _ _ hs).mono ?_; rintro e w1 ⟨rfl, hx1⟩) | (go_at_call 16; refine (lof_c _ _ _ hs).mono ?_; rintro e w1 ⟨rfl, hx1⟩) | (go_at_call 25; refine (lstart_c _ _ _ hs).mono ?_; rintro e w1 ⟨rfl, hx1⟩) | (go_at_call 27; refine (lend_c _ _ _ hs).mono ?_; rintro e w1 ⟨rfl, hx1⟩) | (go_at_call 18; refine (prev_c _ _ _ (by omega)).mono ?_; rintro e w1 ⟨rfl, hx1⟩) | (go_at_call 17; refine (next_c _ _ _ (by omega)).mono ?_; rintro e w1 ⟨rfl, hx1⟩))
            · go_roundw
              case rel =>
                refine ⟨n, by omega, g3, G4.out, by rw [G1.out], ?_, (by (repeat (first | exact Ext.refl _ | exact ‹Ext _ _› | refine Ext.alloc ?_ _ | refine Ext.drew ?_ | refine Ext.drewN ?_ _ | (refine Ext.setCell ?_ (by first | omega | (simp; done) | (simp; omega)) _) | refine Ext.trans ?_ ‹Ext _ _›)))⟩
                rw [← Hok2.out, G5.out, if_pos (by simp_all)]
              case measure => rw [G1.out]; simp [intOf]; omega
            · go_ret2
              refine ⟨ret2 ⟨?_, ?_⟩, (by (repeat (first | exact Ext.refl _ | exact ‹Ext _ _› | refine Ext.alloc ?_ _ | refine Ext.drew ?_ | refine Ext.drewN ?_ _ | (refine Ext.setCell ?_ (by first | omega | (simp; done) | (simp; omega)) _) | refine Ext.trans ?_ ‹Ext _ _›)))⟩
              · rw [Hr1.out, Hd.out]
              · rw [Hr2.out, ← Hok2.out, G5.out, if_neg (by simp_all)]
          · have et : t = e := by omega
            subst et
            go_wp2_with (first | (go_at_call 14; refine (cbig_c _ _ _ hs).mono ?_; rintro e w1 ⟨rfl, hx1⟩) | (go_at_call 16; refine (lof_c _ _ _ hs).mono ?_; rintro e w1 ⟨rfl, hx1⟩) | (go_at_call 25; refine (lstart_c _ _ _ hs).mono ?_; rintro e w1 ⟨rfl, hx1⟩) | (go_at_call 27; refine (lend_c _ _ _ hs).mono ?_; rintro e w1 ⟨rfl, hx1⟩) | (go_at_call 18; refine (prev_c _ _ _ (by omega)).mono ?_; rintro e w1 ⟨rfl, hx1⟩) | (go_at_call 17; refine (next_c _ _ _ (by omega)).mono ?_; rintro e w1 ⟨rfl, hx1⟩))
            go_ret2
            refine ⟨ret2 ⟨?_, ?_⟩, (by (repeat (first | exact Ext.refl _ | exact ‹Ext _ _› | refine Ext.alloc ?_ _ | refine Ext.drew ?_ | refine Ext.drewN ?_ _ | (refine Ext.setCell ?_ (by first | omega | (simp; done) | (simp; omega)) _) | refine Ext.trans ?_ ‹Ext _ _›)))⟩
            · rw [Hr1.out, Hd.out]
            · rw [Hr2.out, ← Hok2.out, Nat.sub_self]; rfl
theorem crun_c (s : ByteArray) (p : Int) (big : Bool) (w : World) (hs : s.size ≤ 1099511627775) : Calls Try.prog 10 #[.string s, .int .i64 p, .bool big] w fun e w' => e = .returned (.tuple #[.int .i64 (runI (ls s) p big).1, .int .i64 (runI (ls s) p big).2]) ∧ Ext w w' := by
  cases big
  · exact run_false s p w hs
  · exact run_true s p w hs

end Go.Proofs.Ytgapekdcoedmgaa
