/- Joined by merge.py out of this work's texts: Cl, Cf, R5, XC, XI, QD0, QD1, PCs. -/
import Derived.Test.YtgapekdcoedmgaaDoorZCN0
import Derived.Laws.IdiomStrings
import Derived.Test.YtgapekdcoedmgaaDoorZCN1
import Derived.Test.YtgapekdcoedmgaaDoorProg
import Derived.Below
import Derived.Deep.Draws
import Derived.Deep.AppendLies
import Derived.Maps.AppendAt
import Derived.OwnWalk
import Derived.Laws.BytesArg
import Derived.Laws.MakeOwn
import Derived.Laws.OwnMore
import Derived.Deep.OwnRows
import Derived.Tactics
import Derived.Lib.ConvBytes
import Derived.Laws.Slices
import Derived.WalkKit
import Derived.KernelRfl
import Derived.RowKit3
import Derived.Deep.LoopGhost
import Derived.Deep.QuietTactic
import Derived.BigQuiet
import Derived.WideLaws
import Derived.Deep.DeepCutAuto
import Derived.Deep.CutBlock
import Derived.Deep.RegionHeld3
import Derived.Laws.Rows
import Derived.Lib.AppendStr
import Derived.ArgAppend
import Derived.Laws.IdiomCopy
import Derived.OrdersHeld
import Derived.Laws.BitsLemmas
import Derived.RowKit
import Derived.Test.YtgapekdcoedmgaaDoorWWords
import Derived.Test.YtgapekdcoedmgaaDoorWLast
import Derived.Test.YtgapekdcoedmgaaDoorWTab
import Derived.Test.YtgapekdcoedmgaaDoorWQPut
import Derived.Test.YtgapekdcoedmgaaDoorWApart
import Derived.Test.YtgapekdcoedmgaaDoorWArr
import Derived.Test.YtgapekdcoedmgaaDoorWZeros
import Derived.Test.YtgapekdcoedmgaaDoorWFoot
import Derived.Test.YtgapekdcoedmgaaDoorWKept
import Derived.Test.YtgapekdcoedmgaaDoorWShare
import Derived.Test.YtgapekdcoedmgaaDoorWN
import Derived.Test.YtgapekdcoedmgaaDoorWFootNe
import Derived.Test.YtgapekdcoedmgaaDoorWEqStruct
import Derived.Test.YtgapekdcoedmgaaDoorWRepsOne
import Derived.Test.YtgapekdcoedmgaaDoorWNEv
import Derived.Test.YtgapekdcoedmgaaDoorWMore
/- The contracts of the package class: the classes of runes, and where runes of one stand. -/
namespace Go.Proofs.YtgapekdcoedmgaaDoor
open Go.RowKit
set_option linter.unusedVariables false
set_option linter.unusedSimpArgs false
set_option maxHeartbeats 4000000 in
set_option maxRecDepth 100000 in
theorem letter_c (b : Int) (w : World) : Calls Tryd.prog 55 #[.int .u8 b] w fun e w' => e = .returned (.bool (lettB b)) ∧ Ext w w' := by
  go_enter Tryd.func55, Tryd.ntmps55
  go_wp2
  all_goals (go_ret; refine ⟨retb ?_, (by (repeat (first | exact Ext.refl _ | exact ‹Ext _ _› | refine Ext.alloc ?_ _ | refine Ext.drew ?_ | refine Ext.drewN ?_ _ | (refine Ext.setCell ?_ (by first | omega | (simp; done) | (simp; omega)) _) | refine Ext.trans ?_ ‹Ext _ _›)))⟩; unfold lettB; rw [Bool.eq_iff_iff]; simp; omega)
set_option maxHeartbeats 4000000 in
set_option maxRecDepth 100000 in
theorem of_c (b : Int) (w : World) : Calls Tryd.prog 70 #[.int .u8 b] w fun e w' => e = .returned (.int .i64 (ofB b)) ∧ Ext w w' := by
  go_enter Tryd.func70, Tryd.ntmps70
  go_wp2_with (first | (go_at_call 55; refine (letter_c _ _).mono ?_; rintro e w1 ⟨rfl, hx1⟩))
  all_goals (try simp only [beq_iff_eq, beq_eq_false_iff_ne] at *)
  all_goals (go_ret; refine ⟨ret1 ?_, (by (repeat (first | exact Ext.refl _ | exact ‹Ext _ _› | refine Ext.alloc ?_ _ | refine Ext.drew ?_ | refine Ext.drewN ?_ _ | (refine Ext.setCell ?_ (by first | omega | (simp; done) | (simp; omega)) _) | refine Ext.trans ?_ ‹Ext _ _›)))⟩; unfold ofB; repeat' split)
  all_goals first | rfl | (exfalso; omega) | (exfalso; simp_all <;> omega)
set_option maxHeartbeats 4000000 in
set_option maxRecDepth 100000 in
theorem cof_c (s : ByteArray) (p : Int) (w : World) (hs : s.size ≤ 1099511627775) : Calls Tryd.prog 52 #[.string s, .int .i64 p] w fun e w' => e = .returned (.int .i64 (clsI (ls s) p)) ∧ Ext w w' := by
  by_cases h0 : p < 0 ∨ (s.size : Int) ≤ p
  · have Hc : Hid (clsI (ls s) p = 0) := Lib.hid (by
      unfold clsI; rw [if_neg]
      rintro ⟨h1, h2⟩
      unfold placeB at h1; simp only [Bool.and_eq_true, decide_eq_true_eq, ls_len] at h1
      rw [ls_len] at h2; omega)
    go_enter Tryd.func52, Tryd.ntmps52
    go_wp2_with (first | (go_at_call 37; refine (place_c _ _ _ (by omega)).mono ?_; rintro e w1 ⟨rfl, hx1⟩))
    all_goals (first | (go_ret; exact ⟨ret1 Hc.out.symm, (by (repeat (first | exact Ext.refl _ | exact ‹Ext _ _› | refine Ext.alloc ?_ _ | refine Ext.drew ?_ | refine Ext.drewN ?_ _ | (refine Ext.setCell ?_ (by first | omega | (simp; done) | (simp; omega)) _) | refine Ext.trans ?_ ‹Ext _ _›)))⟩) | (exfalso; omega))
  · obtain ⟨k, rfl⟩ : ∃ k : Nat, p = k := ⟨p.toNat, by omega⟩
    have hk : k < s.size := by omega
    clear h0
    have Hb := Lib.hid (byL_eq s k hk)
    rcases Bool.eq_false_or_eq_true (placeB (ls s) k) with hp | hp
    · have Hc : Hid (clsI (ls s) k = ofB ↑s[k].toNat) := Lib.hid (by unfold clsI; rw [if_pos ⟨hp, by rw [ls_len]; omega⟩, Int.toNat_natCast, Hb.out])
      go_enter Tryd.func52, Tryd.ntmps52
      go_wp2_with (first | (go_at_call 37; refine (place_c _ _ _ (by omega)).mono ?_; rintro e w1 ⟨rfl, hx1⟩) | (go_at_call 70; refine (of_c _ _).mono ?_; rintro e w1 ⟨rfl, hx1⟩))
      all_goals (go_ret; exact ⟨ret1 Hc.out.symm, (by (repeat (first | exact Ext.refl _ | exact ‹Ext _ _› | refine Ext.alloc ?_ _ | refine Ext.drew ?_ | refine Ext.drewN ?_ _ | (refine Ext.setCell ?_ (by first | omega | (simp; done) | (simp; omega)) _) | refine Ext.trans ?_ ‹Ext _ _›)))⟩)
    · have Hc : Hid (clsI (ls s) k = 0) := Lib.hid (by unfold clsI; simp [hp])
      go_enter Tryd.func52, Tryd.ntmps52
      go_wp2_with (first | (go_at_call 37; refine (place_c _ _ _ (by omega)).mono ?_; rintro e w1 ⟨rfl, hx1⟩) | (go_at_call 70; refine (of_c _ _).mono ?_; rintro e w1 ⟨rfl, hx1⟩))
      all_goals (go_ret; exact ⟨ret1 Hc.out.symm, (by (repeat (first | exact Ext.refl _ | exact ‹Ext _ _› | refine Ext.alloc ?_ _ | refine Ext.drew ?_ | refine Ext.drewN ?_ _ | (refine Ext.setCell ?_ (by first | omega | (simp; done) | (simp; omega)) _) | refine Ext.trans ?_ ‹Ext _ _›)))⟩)
set_option maxHeartbeats 4000000 in
set_option maxRecDepth 100000 in
theorem cbig_c (s : ByteArray) (p : Int) (w : World) (hs : s.size ≤ 1099511627775) : Calls Tryd.prog 53 #[.string s, .int .i64 p] w fun e w' => e = .returned (.int .i64 (bigI (ls s) p)) ∧ Ext w w' := by
  go_enter Tryd.func53, Tryd.ntmps53
  go_wp2_with (first | (go_at_call 52; refine (cof_c _ _ _ hs).mono ?_; rintro e w1 ⟨rfl, hx1⟩))
  all_goals (try simp only [beq_iff_eq, beq_eq_false_iff_ne] at *)
  all_goals (go_ret; refine ⟨ret1 ?_, (by (repeat (first | exact Ext.refl _ | exact ‹Ext _ _› | refine Ext.alloc ?_ _ | refine Ext.drew ?_ | refine Ext.drewN ?_ _ | (refine Ext.setCell ?_ (by first | omega | (simp; done) | (simp; omega)) _) | refine Ext.trans ?_ ‹Ext _ _›)))⟩; unfold bigI)
  · rw [if_pos (by assumption)]
  · rw [if_neg (by assumption)]

theorem run_none {l : List UInt8} {p : Int} {big : Bool} (h : kindI l p big = 0 ∨ kindI l p big = 4) : (runI l p big).1 = -1 ∧ (runI l p big).2 = -1 := by unfold runI; rw [if_pos h]; exact ⟨rfl, rfl⟩
theorem kind_place {l : List UInt8} {p : Int} {big : Bool} (h : kindI l p big ≠ 0) : ∃ k : Nat, p = k ∧ k < l.length ∧ placeB l k = true := by
  have hc : clsI l p ≠ 0 := by
    intro e; apply h; unfold kindI bigI; rw [e]; cases big <;> simp
  unfold clsI at hc
  by_cases hp : placeB l p = true ∧ p ≠ l.length
  · have h1 := hp.1
    unfold placeB at h1; simp only [Bool.and_eq_true, decide_eq_true_eq] at h1
    have h2 := hp.2
    refine ⟨p.toNat, by omega, by omega, ?_⟩
    rw [Int.toNat_of_nonneg (by omega)]; exact hp.1
  · rw [if_neg hp] at hc; exact absurd rfl hc

set_option maxHeartbeats 4000000 in
set_option maxRecDepth 100000 in
theorem run_false (s : ByteArray) (p : Int) (w : World) (hs : s.size ≤ 1099511627775) : Calls Tryd.prog 28 #[.string s, .int .i64 p, .bool false] w fun e w' => e = .returned (.tuple #[.int .i64 (runI (ls s) p false).1, .int .i64 (runI (ls s) p false).2]) ∧ Ext w w' := by
  have Hk : Hid (kindI (ls s) p false = clsI (ls s) p) := Lib.hid rfl
  by_cases hc : kindI (ls s) p false = 0 ∨ kindI (ls s) p false = 4
  · obtain ⟨h1, h2⟩ := run_none hc
    have H1 := Lib.hid h1
    have H2 := Lib.hid h2
    rw [Hk.out] at hc
    clear h1 h2
    rcases hc with hc | hc
    all_goals
      go_enter Tryd.func28, Tryd.ntmps28
      go_wp2_with (first | (go_at_call 52; refine (cof_c _ _ _ hs).mono ?_; rintro e w1 ⟨rfl, hx1⟩))
      go_ret2
      exact ⟨ret2 ⟨H1.out.symm, H2.out.symm⟩, (by (repeat (first | exact Ext.refl _ | exact ‹Ext _ _› | refine Ext.alloc ?_ _ | refine Ext.drew ?_ | refine Ext.drewN ?_ _ | (refine Ext.setCell ?_ (by first | omega | (simp; done) | (simp; omega)) _) | refine Ext.trans ?_ ‹Ext _ _›)))⟩
  · obtain ⟨k, rfl, hk, hp⟩ := kind_place (l := ls s) (p := p) (big := false) (by omega)
    rw [ls_len] at hk
    obtain ⟨hpl, hle, hv⟩ := valid_at hp
    obtain ⟨e, q1, q2, q3, q4, q5, q6, q7⟩ := line_at hp
    rw [ls_len] at q5
    obtain ⟨c, ec⟩ : ∃ c, c = kindI (ls s) k false := ⟨_, rfl⟩
    have hc0 : (kindI (ls s) k false == 0) = false := by simp; omega
    have hc4 : (kindI (ls s) k false == 4) = false := by simp; omega
    have Hr1 : Hid ((runI (ls s) k false).1 = (dnI (ls s) (kindI (ls s) k false) false (lst (ls s) k) k k : Nat)) := Lib.hid (by unfold runI; rw [if_neg hc, q1]; simp)
    have Hr2 : Hid ((runI (ls s) k false).2 = upI (ls s) (kindI (ls s) k false) false (e - k) k k) := Lib.hid (by unfold runI; rw [if_neg hc, q2]; simp)
    rw [Hk.out] at hc0 hc4 Hr1 Hr2
    have Hv := Lib.hid hv
    have Hp := Lib.hid hp
    have H6 := Lib.hid q6
    have H7 := Lib.hid q7
    clear ec hc hpl hle hv hp q6 q7
    obtain ⟨a, ha⟩ : ∃ a, a = lst (ls s) k := ⟨_, rfl⟩
    rw [← ha] at q1 q3 Hr1 H6
    clear ha
    go_enter Tryd.func28, Tryd.ntmps28
    go_wp2_with (first | (go_at_call 52; refine (cof_c _ _ _ hs).mono ?_; rintro e w1 ⟨rfl, hx1⟩) | (go_at_call 23; refine (lof_c _ _ _ hs).mono ?_; rintro e w1 ⟨rfl, hx1⟩) | (go_at_call 26; refine (lstart_c _ _ _ hs).mono ?_; rintro e w1 ⟨rfl, hx1⟩) | (go_at_call 27; refine (lend_c _ _ _ hs).mono ?_; rintro e w1 ⟨rfl, hx1⟩) | (go_at_call 44; refine (prev_c _ _ _ (by omega)).mono ?_; rintro e w1 ⟨rfl, hx1⟩) | (go_at_call 54; refine (next_c _ _ _ (by omega)).mono ?_; rintro e w1 ⟨rfl, hx1⟩))
    go_loopw [11] (fun v wr => ∃ f : Nat, a ≤ f ∧ f ≤ k ∧ placeB (ls s) f = true ∧ v = .int .i64 f ∧ dnI (ls s) (clsI (ls s) k) false a f f = dnI (ls s) (clsI (ls s) k) false a k k ∧ Ext w wr) (fun v _ => (intOf v).toNat)
    case atStart => exact ⟨k, q3, Nat.le_refl _, Hp.out, rfl, rfl, (by (repeat (first | exact Ext.refl _ | exact ‹Ext _ _› | refine Ext.alloc ?_ _ | refine Ext.drew ?_ | refine Ext.drewN ?_ _ | (refine Ext.setCell ?_ (by first | omega | (simp; done) | (simp; omega)) _) | refine Ext.trans ?_ ‹Ext _ _›)))⟩
    case round =>
      obtain ⟨f, hf1, hf2, hpf, rfl, hok, hx⟩ := hrel
      have Hok := Lib.hid hok
      clear hok
      by_cases hlt : a < f
      · obtain ⟨g1, g2, g3, g4⟩ := dnI_step (c := clsI (ls s) k) (big := false) Hv.out (by rw [ls_len]; omega) hlt H6.out hpf
        have g4' : dnI (ls s) (clsI (ls s) k) false a f f = if clsI (ls s) (prevI (ls s) f) = clsI (ls s) k then dnI (ls s) (clsI (ls s) k) false a (prevFrom (ls s) (f - 1)) (prevFrom (ls s) (f - 1)) else f := g4
        have g5 := prevI_at hpf (by omega)
        obtain ⟨f', ef⟩ : ∃ f', f' = prevFrom (ls s) (f - 1) := ⟨_, rfl⟩
        rw [← ef] at g1 g2 g3 g4' g5
        have Hpf := Lib.hid hpf
        have G3 := Lib.hid g3
        have G4 := Lib.hid g4'
        have G5 := Lib.hid g5
        clear hpf g3 g4 g4' g5 ef
        go_wp2_with (first | (go_at_call 52; refine (cof_c _ _ _ hs).mono ?_; rintro e w1 ⟨rfl, hx1⟩) | (go_at_call 23; refine (lof_c _ _ _ hs).mono ?_; rintro e w1 ⟨rfl, hx1⟩) | (go_at_call 26; refine (lstart_c _ _ _ hs).mono ?_; rintro e w1 ⟨rfl, hx1⟩) | (go_at_call 27; refine (lend_c _ _ _ hs).mono ?_; rintro e w1 ⟨rfl, hx1⟩) | (go_at_call 44; refine (prev_c _ _ _ (by omega)).mono ?_; rintro e w1 ⟨rfl, hx1⟩) | (go_at_call 54; refine (next_c _ _ _ (by omega)).mono ?_; rintro e w1 ⟨rfl, hx1⟩))
        · go_roundw
          case rel =>
            refine ⟨f', g1, by omega, G3.out, by rw [G5.out], ?_, (by (repeat (first | exact Ext.refl _ | exact ‹Ext _ _› | refine Ext.alloc ?_ _ | refine Ext.drew ?_ | refine Ext.drewN ?_ _ | (refine Ext.setCell ?_ (by first | omega | (simp; done) | (simp; omega)) _) | refine Ext.trans ?_ ‹Ext _ _›)))⟩
            rw [← Hok.out, G4.out, if_pos (by simp_all)]
          case measure => rw [G5.out]; simp [intOf]; omega
        · have Hd : Hid (dnI (ls s) (clsI (ls s) k) false a k k = f) := Lib.hid (by rw [← Hok.out, G4.out, if_neg (by simp_all)])
          clear G4 G5 G3 Hok
          rename (clsI (ls s) (prevI (ls s) ↑f) == clsI (ls s) ↑k) = false => hne
          clear hne
          go_loopw [12] (fun v wr => ∃ t : Nat, k ≤ t ∧ t ≤ e ∧ placeB (ls s) t = true ∧ v = .int .i64 t ∧ upI (ls s) (clsI (ls s) k) false (e - t) t t = upI (ls s) (clsI (ls s) k) false (e - k) k k ∧ Ext w wr) (fun v _ => e - (intOf v).toNat)
          case atStart => exact ⟨k, Nat.le_refl _, q4, Hp.out, rfl, rfl, (by (repeat (first | exact Ext.refl _ | exact ‹Ext _ _› | refine Ext.alloc ?_ _ | refine Ext.drew ?_ | refine Ext.drewN ?_ _ | (refine Ext.setCell ?_ (by first | omega | (simp; done) | (simp; omega)) _) | refine Ext.trans ?_ ‹Ext _ _›)))⟩
          case round =>
            obtain ⟨t, ht1, ht2, hpt, rfl, hok2, hx3⟩ := hrel
            have Hok2 := Lib.hid hok2
            clear hok2
            by_cases hlt2 : t < e
            · obtain ⟨n, g1, g2, g3, g4, g5⟩ := upI_step (c := clsI (ls s) k) (big := false) (by rw [ls_len]; omega) hlt2 H7.out hpt
              have g5' : upI (ls s) (clsI (ls s) k) false (e - t) t t = if clsI (ls s) t = clsI (ls s) k then upI (ls s) (clsI (ls s) k) false (e - n) n n else (t : Int) := g5
              have G1 := Lib.hid g1
              have G4 := Lib.hid g4
              have G5 := Lib.hid g5'
              clear g1 g4 g5 g5' hpt
              go_wp2_with (first | (go_at_call 52; refine (cof_c _ _ _ hs).mono ?_; rintro e w1 ⟨rfl, hx1⟩) | (go_at_call 23; refine (lof_c _ _ _ hs).mono ?_; rintro e w1 ⟨rfl, hx1⟩) | (go_at_call 26; refine (lstart_c _ _ _ hs).mono ?_; rintro e w1 ⟨rfl, hx1⟩) | (go_at_call 27; refine (lend_c _ _ _ hs).mono ?_; rintro e w1 ⟨rfl, hx1⟩) | (go_at_call 44; refine (prev_c _ _ _ (by omega)).mono ?_; rintro e w1 ⟨rfl, hx1⟩) | (go_at_call 54; refine (next_c _ _ _ (by omega)).mono ?_; rintro e w1 ⟨rfl, hx1⟩))
              · go_roundw
                case rel =>
                  refine ⟨n, by omega, g3, G4.out, by rw [G1.out], ?_, (by (repeat (first | exact Ext.refl _ | exact ‹Ext _ _› | refine Ext.alloc ?_ _ | refine Ext.drew ?_ | refine Ext.drewN ?_ _ | (refine Ext.setCell ?_ (by first | omega | (simp; done) | (simp; omega)) _) | refine Ext.trans ?_ ‹Ext _ _›)))⟩
                  rw [← Hok2.out, G5.out, if_pos (by simp_all)]
                case measure => rw [G1.out]; simp [intOf]; omega
              · go_ret2
                refine ⟨ret2 ⟨?_, ?_⟩, (by (repeat (first | exact Ext.refl _ | exact ‹Ext _ _› | refine Ext.alloc ?_ _ | refine Ext.drew ?_ | refine Ext.drewN ?_ _ | (refine Ext.setCell ?_ (by first | omega | (simp; done) | (simp; omega)) _) | refine Ext.trans ?_ ‹Ext _ _›)))⟩
                · rw [Hr1.out, Hd.out]
                · rw [Hr2.out, ← Hok2.out, G5.out, if_neg (by simp_all)]
            · have et : t = e := by omega
              subst et
              go_wp2_with (first | (go_at_call 52; refine (cof_c _ _ _ hs).mono ?_; rintro e w1 ⟨rfl, hx1⟩) | (go_at_call 23; refine (lof_c _ _ _ hs).mono ?_; rintro e w1 ⟨rfl, hx1⟩) | (go_at_call 26; refine (lstart_c _ _ _ hs).mono ?_; rintro e w1 ⟨rfl, hx1⟩) | (go_at_call 27; refine (lend_c _ _ _ hs).mono ?_; rintro e w1 ⟨rfl, hx1⟩) | (go_at_call 44; refine (prev_c _ _ _ (by omega)).mono ?_; rintro e w1 ⟨rfl, hx1⟩) | (go_at_call 54; refine (next_c _ _ _ (by omega)).mono ?_; rintro e w1 ⟨rfl, hx1⟩))
              go_ret2
              refine ⟨ret2 ⟨?_, ?_⟩, (by (repeat (first | exact Ext.refl _ | exact ‹Ext _ _› | refine Ext.alloc ?_ _ | refine Ext.drew ?_ | refine Ext.drewN ?_ _ | (refine Ext.setCell ?_ (by first | omega | (simp; done) | (simp; omega)) _) | refine Ext.trans ?_ ‹Ext _ _›)))⟩
              · rw [Hr1.out, Hd.out]
              · rw [Hr2.out, ← Hok2.out, Nat.sub_self]; rfl
      · have ef : f = a := by omega
        subst ef
        have Hd : Hid (dnI (ls s) (clsI (ls s) k) false f k k = f) := Lib.hid (by rw [← Hok.out]; exact dnI_end _ _ _ _)
        go_wp2_with (first | (go_at_call 52; refine (cof_c _ _ _ hs).mono ?_; rintro e w1 ⟨rfl, hx1⟩) | (go_at_call 23; refine (lof_c _ _ _ hs).mono ?_; rintro e w1 ⟨rfl, hx1⟩) | (go_at_call 26; refine (lstart_c _ _ _ hs).mono ?_; rintro e w1 ⟨rfl, hx1⟩) | (go_at_call 27; refine (lend_c _ _ _ hs).mono ?_; rintro e w1 ⟨rfl, hx1⟩) | (go_at_call 44; refine (prev_c _ _ _ (by omega)).mono ?_; rintro e w1 ⟨rfl, hx1⟩) | (go_at_call 54; refine (next_c _ _ _ (by omega)).mono ?_; rintro e w1 ⟨rfl, hx1⟩))
        go_loopw [12] (fun v wr => ∃ t : Nat, k ≤ t ∧ t ≤ e ∧ placeB (ls s) t = true ∧ v = .int .i64 t ∧ upI (ls s) (clsI (ls s) k) false (e - t) t t = upI (ls s) (clsI (ls s) k) false (e - k) k k ∧ Ext w wr) (fun v _ => e - (intOf v).toNat)
        case atStart => exact ⟨k, Nat.le_refl _, q4, Hp.out, rfl, rfl, (by (repeat (first | exact Ext.refl _ | exact ‹Ext _ _› | refine Ext.alloc ?_ _ | refine Ext.drew ?_ | refine Ext.drewN ?_ _ | (refine Ext.setCell ?_ (by first | omega | (simp; done) | (simp; omega)) _) | refine Ext.trans ?_ ‹Ext _ _›)))⟩
        case round =>
          obtain ⟨t, ht1, ht2, hpt, rfl, hok2, hx3⟩ := hrel
          have Hok2 := Lib.hid hok2
          clear hok2
          by_cases hlt2 : t < e
          · obtain ⟨n, g1, g2, g3, g4, g5⟩ := upI_step (c := clsI (ls s) k) (big := false) (by rw [ls_len]; omega) hlt2 H7.out hpt
            have g5' : upI (ls s) (clsI (ls s) k) false (e - t) t t = if clsI (ls s) t = clsI (ls s) k then upI (ls s) (clsI (ls s) k) false (e - n) n n else (t : Int) := g5
            have G1 := Lib.hid g1
            have G4 := Lib.hid g4
            have G5 := Lib.hid g5'
            clear g1 g4 g5 g5' hpt
            go_wp2_with (first | (go_at_call 52; refine (cof_c _ _ _ hs).mono ?_; rintro e w1 ⟨rfl, hx1⟩) | (go_at_call 23; refine (lof_c _ _ _ hs).mono ?_; rintro e w1 ⟨rfl, hx1⟩) | (go_at_call 26; refine (lstart_c _ _ _ hs).mono ?_; rintro e w1 ⟨rfl, hx1⟩) | (go_at_call 27; refine (lend_c _ _ _ hs).mono ?_; rintro e w1 ⟨rfl, hx1⟩) | (go_at_call 44; refine (prev_c _ _ _ (by omega)).mono ?_; rintro e w1 ⟨rfl, hx1⟩) | (go_at_call 54; refine (next_c _ _ _ (by omega)).mono ?_; rintro e w1 ⟨rfl, hx1⟩))
            · go_roundw
              case rel =>
                refine ⟨n, by omega, g3, G4.out, by rw [G1.out], ?_, (by (repeat (first | exact Ext.refl _ | exact ‹Ext _ _› | refine Ext.alloc ?_ _ | refine Ext.drew ?_ | refine Ext.drewN ?_ _ | (refine Ext.setCell ?_ (by first | omega | (simp; done) | (simp; omega)) _) | refine Ext.trans ?_ ‹Ext _ _›)))⟩
                rw [← Hok2.out, G5.out, if_pos (by simp_all)]
              case measure => rw [G1.out]; simp [intOf]; omega
            · go_ret2
              refine ⟨ret2 ⟨?_, ?_⟩, (by (repeat (first | exact Ext.refl _ | exact ‹Ext _ _› | refine Ext.alloc ?_ _ | refine Ext.drew ?_ | refine Ext.drewN ?_ _ | (refine Ext.setCell ?_ (by first | omega | (simp; done) | (simp; omega)) _) | refine Ext.trans ?_ ‹Ext _ _›)))⟩
              · rw [Hr1.out, Hd.out]
              · rw [Hr2.out, ← Hok2.out, G5.out, if_neg (by simp_all)]
          · have et : t = e := by omega
            subst et
            go_wp2_with (first | (go_at_call 52; refine (cof_c _ _ _ hs).mono ?_; rintro e w1 ⟨rfl, hx1⟩) | (go_at_call 23; refine (lof_c _ _ _ hs).mono ?_; rintro e w1 ⟨rfl, hx1⟩) | (go_at_call 26; refine (lstart_c _ _ _ hs).mono ?_; rintro e w1 ⟨rfl, hx1⟩) | (go_at_call 27; refine (lend_c _ _ _ hs).mono ?_; rintro e w1 ⟨rfl, hx1⟩) | (go_at_call 44; refine (prev_c _ _ _ (by omega)).mono ?_; rintro e w1 ⟨rfl, hx1⟩) | (go_at_call 54; refine (next_c _ _ _ (by omega)).mono ?_; rintro e w1 ⟨rfl, hx1⟩))
            go_ret2
            refine ⟨ret2 ⟨?_, ?_⟩, (by (repeat (first | exact Ext.refl _ | exact ‹Ext _ _› | refine Ext.alloc ?_ _ | refine Ext.drew ?_ | refine Ext.drewN ?_ _ | (refine Ext.setCell ?_ (by first | omega | (simp; done) | (simp; omega)) _) | refine Ext.trans ?_ ‹Ext _ _›)))⟩
            · rw [Hr1.out, Hd.out]
            · rw [Hr2.out, ← Hok2.out, Nat.sub_self]; rfl
set_option maxHeartbeats 4000000 in
set_option maxRecDepth 100000 in
theorem run_true (s : ByteArray) (p : Int) (w : World) (hs : s.size ≤ 1099511627775) : Calls Tryd.prog 28 #[.string s, .int .i64 p, .bool true] w fun e w' => e = .returned (.tuple #[.int .i64 (runI (ls s) p true).1, .int .i64 (runI (ls s) p true).2]) ∧ Ext w w' := by
  have Hk : Hid (kindI (ls s) p true = bigI (ls s) p) := Lib.hid rfl
  by_cases hc : kindI (ls s) p true = 0 ∨ kindI (ls s) p true = 4
  · obtain ⟨h1, h2⟩ := run_none hc
    have H1 := Lib.hid h1
    have H2 := Lib.hid h2
    rw [Hk.out] at hc
    clear h1 h2
    rcases hc with hc | hc
    all_goals
      go_enter Tryd.func28, Tryd.ntmps28
      go_wp2_with (first | (go_at_call 53; refine (cbig_c _ _ _ hs).mono ?_; rintro e w1 ⟨rfl, hx1⟩))
      go_ret2
      exact ⟨ret2 ⟨H1.out.symm, H2.out.symm⟩, (by (repeat (first | exact Ext.refl _ | exact ‹Ext _ _› | refine Ext.alloc ?_ _ | refine Ext.drew ?_ | refine Ext.drewN ?_ _ | (refine Ext.setCell ?_ (by first | omega | (simp; done) | (simp; omega)) _) | refine Ext.trans ?_ ‹Ext _ _›)))⟩
  · obtain ⟨k, rfl, hk, hp⟩ := kind_place (l := ls s) (p := p) (big := true) (by omega)
    rw [ls_len] at hk
    obtain ⟨hpl, hle, hv⟩ := valid_at hp
    obtain ⟨e, q1, q2, q3, q4, q5, q6, q7⟩ := line_at hp
    rw [ls_len] at q5
    obtain ⟨c, ec⟩ : ∃ c, c = kindI (ls s) k true := ⟨_, rfl⟩
    have hc0 : (kindI (ls s) k true == 0) = false := by simp; omega
    have hc4 : (kindI (ls s) k true == 4) = false := by simp; omega
    have Hr1 : Hid ((runI (ls s) k true).1 = (dnI (ls s) (kindI (ls s) k true) true (lst (ls s) k) k k : Nat)) := Lib.hid (by unfold runI; rw [if_neg hc, q1]; simp)
    have Hr2 : Hid ((runI (ls s) k true).2 = upI (ls s) (kindI (ls s) k true) true (e - k) k k) := Lib.hid (by unfold runI; rw [if_neg hc, q2]; simp)
    rw [Hk.out] at hc0 hc4 Hr1 Hr2
    have Hv := Lib.hid hv
    have Hp := Lib.hid hp
    have H6 := Lib.hid q6
    have H7 := Lib.hid q7
    clear ec hc hpl hle hv hp q6 q7
    obtain ⟨a, ha⟩ : ∃ a, a = lst (ls s) k := ⟨_, rfl⟩
    rw [← ha] at q1 q3 Hr1 H6
    clear ha
    go_enter Tryd.func28, Tryd.ntmps28
    go_wp2_with (first | (go_at_call 53; refine (cbig_c _ _ _ hs).mono ?_; rintro e w1 ⟨rfl, hx1⟩) | (go_at_call 23; refine (lof_c _ _ _ hs).mono ?_; rintro e w1 ⟨rfl, hx1⟩) | (go_at_call 26; refine (lstart_c _ _ _ hs).mono ?_; rintro e w1 ⟨rfl, hx1⟩) | (go_at_call 27; refine (lend_c _ _ _ hs).mono ?_; rintro e w1 ⟨rfl, hx1⟩) | (go_at_call 44; refine (prev_c _ _ _ (by omega)).mono ?_; rintro e w1 ⟨rfl, hx1⟩) | (go_at_call 54; refine (next_c _ _ _ (by omega)).mono ?_; rintro e w1 ⟨rfl, hx1⟩))
    go_loopw [11] (fun v wr => ∃ f : Nat, a ≤ f ∧ f ≤ k ∧ placeB (ls s) f = true ∧ v = .int .i64 f ∧ dnI (ls s) (bigI (ls s) k) true a f f = dnI (ls s) (bigI (ls s) k) true a k k ∧ Ext w wr) (fun v _ => (intOf v).toNat)
    case atStart => exact ⟨k, q3, Nat.le_refl _, Hp.out, rfl, rfl, (by (repeat (first | exact Ext.refl _ | exact ‹Ext _ _› | refine Ext.alloc ?_ _ | refine Ext.drew ?_ | refine Ext.drewN ?_ _ | (refine Ext.setCell ?_ (by first | omega | (simp; done) | (simp; omega)) _) | refine Ext.trans ?_ ‹Ext _ _›)))⟩
    case round =>
      obtain ⟨f, hf1, hf2, hpf, rfl, hok, hx⟩ := hrel
      have Hok := Lib.hid hok
      clear hok
      by_cases hlt : a < f
      · obtain ⟨g1, g2, g3, g4⟩ := dnI_step (c := bigI (ls s) k) (big := true) Hv.out (by rw [ls_len]; omega) hlt H6.out hpf
        have g4' : dnI (ls s) (bigI (ls s) k) true a f f = if bigI (ls s) (prevI (ls s) f) = bigI (ls s) k then dnI (ls s) (bigI (ls s) k) true a (prevFrom (ls s) (f - 1)) (prevFrom (ls s) (f - 1)) else f := g4
        have g5 := prevI_at hpf (by omega)
        obtain ⟨f', ef⟩ : ∃ f', f' = prevFrom (ls s) (f - 1) := ⟨_, rfl⟩
        rw [← ef] at g1 g2 g3 g4' g5
        have Hpf := Lib.hid hpf
        have G3 := Lib.hid g3
        have G4 := Lib.hid g4'
        have G5 := Lib.hid g5
        clear hpf g3 g4 g4' g5 ef
        go_wp2_with (first | (go_at_call 53; refine (cbig_c _ _ _ hs).mono ?_; rintro e w1 ⟨rfl, hx1⟩) | (go_at_call 23; refine (lof_c _ _ _ hs).mono ?_; rintro e w1 ⟨rfl, hx1⟩) | (go_at_call 26; refine (lstart_c _ _ _ hs).mono ?_; rintro e w1 ⟨rfl, hx1⟩) | (go_at_call 27; refine (lend_c _ _ _ hs).mono ?_; rintro e w1 ⟨rfl, hx1⟩) | (go_at_call 44; refine (prev_c _ _ _ (by omega)).mono ?_; rintro e w1 ⟨rfl, hx1⟩) | (go_at_call 54; refine (next_c _ _ _ (by omega)).mono ?_; rintro e w1 ⟨rfl, hx1⟩))
        · go_roundw
          case rel =>
            refine ⟨f', g1, by omega, G3.out, by rw [G5.out], ?_, (by (repeat (first | exact Ext.refl _ | exact ‹Ext _ _› | refine Ext.alloc ?_ _ | refine Ext.drew ?_ | refine Ext.drewN ?_ _ | (refine Ext.setCell ?_ (by first | omega | (simp; done) | (simp; omega)) _) | refine Ext.trans ?_ ‹Ext _ _›)))⟩
            rw [← Hok.out, G4.out, if_pos (by simp_all)]
          case measure => rw [G5.out]; simp [intOf]; omega
        · have Hd : Hid (dnI (ls s) (bigI (ls s) k) true a k k = f) := Lib.hid (by rw [← Hok.out, G4.out, if_neg (by simp_all)])
          clear G4 G5 G3 Hok
          rename (bigI (ls s) (prevI (ls s) ↑f) == bigI (ls s) ↑k) = false => hne
          clear hne
          go_loopw [12] (fun v wr => ∃ t : Nat, k ≤ t ∧ t ≤ e ∧ placeB (ls s) t = true ∧ v = .int .i64 t ∧ upI (ls s) (bigI (ls s) k) true (e - t) t t = upI (ls s) (bigI (ls s) k) true (e - k) k k ∧ Ext w wr) (fun v _ => e - (intOf v).toNat)
          case atStart => exact ⟨k, Nat.le_refl _, q4, Hp.out, rfl, rfl, (by (repeat (first | exact Ext.refl _ | exact ‹Ext _ _› | refine Ext.alloc ?_ _ | refine Ext.drew ?_ | refine Ext.drewN ?_ _ | (refine Ext.setCell ?_ (by first | omega | (simp; done) | (simp; omega)) _) | refine Ext.trans ?_ ‹Ext _ _›)))⟩
          case round =>
            obtain ⟨t, ht1, ht2, hpt, rfl, hok2, hx3⟩ := hrel
            have Hok2 := Lib.hid hok2
            clear hok2
            by_cases hlt2 : t < e
            · obtain ⟨n, g1, g2, g3, g4, g5⟩ := upI_step (c := bigI (ls s) k) (big := true) (by rw [ls_len]; omega) hlt2 H7.out hpt
              have g5' : upI (ls s) (bigI (ls s) k) true (e - t) t t = if bigI (ls s) t = bigI (ls s) k then upI (ls s) (bigI (ls s) k) true (e - n) n n else (t : Int) := g5
              have G1 := Lib.hid g1
              have G4 := Lib.hid g4
              have G5 := Lib.hid g5'
              clear g1 g4 g5 g5' hpt
              go_wp2_with (first | (go_at_call 53; refine (cbig_c _ _ _ hs).mono ?_; rintro e w1 ⟨rfl, hx1⟩) | (go_at_call 23; refine (lof_c _ _ _ hs).mono ?_; rintro e w1 ⟨rfl, hx1⟩) | (go_at_call 26; refine (lstart_c _ _ _ hs).mono ?_; rintro e w1 ⟨rfl, hx1⟩) | (go_at_call 27; refine (lend_c _ _ _ hs).mono ?_; rintro e w1 ⟨rfl, hx1⟩) | (go_at_call 44; refine (prev_c _ _ _ (by omega)).mono ?_; rintro e w1 ⟨rfl, hx1⟩) | (go_at_call 54; refine (next_c _ _ _ (by omega)).mono ?_; rintro e w1 ⟨rfl, hx1⟩))
              · go_roundw
                case rel =>
                  refine ⟨n, by omega, g3, G4.out, by rw [G1.out], ?_, (by (repeat (first | exact Ext.refl _ | exact ‹Ext _ _› | refine Ext.alloc ?_ _ | refine Ext.drew ?_ | refine Ext.drewN ?_ _ | (refine Ext.setCell ?_ (by first | omega | (simp; done) | (simp; omega)) _) | refine Ext.trans ?_ ‹Ext _ _›)))⟩
                  rw [← Hok2.out, G5.out, if_pos (by simp_all)]
                case measure => rw [G1.out]; simp [intOf]; omega
              · go_ret2
                refine ⟨ret2 ⟨?_, ?_⟩, (by (repeat (first | exact Ext.refl _ | exact ‹Ext _ _› | refine Ext.alloc ?_ _ | refine Ext.drew ?_ | refine Ext.drewN ?_ _ | (refine Ext.setCell ?_ (by first | omega | (simp; done) | (simp; omega)) _) | refine Ext.trans ?_ ‹Ext _ _›)))⟩
                · rw [Hr1.out, Hd.out]
                · rw [Hr2.out, ← Hok2.out, G5.out, if_neg (by simp_all)]
            · have et : t = e := by omega
              subst et
              go_wp2_with (first | (go_at_call 53; refine (cbig_c _ _ _ hs).mono ?_; rintro e w1 ⟨rfl, hx1⟩) | (go_at_call 23; refine (lof_c _ _ _ hs).mono ?_; rintro e w1 ⟨rfl, hx1⟩) | (go_at_call 26; refine (lstart_c _ _ _ hs).mono ?_; rintro e w1 ⟨rfl, hx1⟩) | (go_at_call 27; refine (lend_c _ _ _ hs).mono ?_; rintro e w1 ⟨rfl, hx1⟩) | (go_at_call 44; refine (prev_c _ _ _ (by omega)).mono ?_; rintro e w1 ⟨rfl, hx1⟩) | (go_at_call 54; refine (next_c _ _ _ (by omega)).mono ?_; rintro e w1 ⟨rfl, hx1⟩))
              go_ret2
              refine ⟨ret2 ⟨?_, ?_⟩, (by (repeat (first | exact Ext.refl _ | exact ‹Ext _ _› | refine Ext.alloc ?_ _ | refine Ext.drew ?_ | refine Ext.drewN ?_ _ | (refine Ext.setCell ?_ (by first | omega | (simp; done) | (simp; omega)) _) | refine Ext.trans ?_ ‹Ext _ _›)))⟩
              · rw [Hr1.out, Hd.out]
              · rw [Hr2.out, ← Hok2.out, Nat.sub_self]; rfl
      · have ef : f = a := by omega
        subst ef
        have Hd : Hid (dnI (ls s) (bigI (ls s) k) true f k k = f) := Lib.hid (by rw [← Hok.out]; exact dnI_end _ _ _ _)
        go_wp2_with (first | (go_at_call 53; refine (cbig_c _ _ _ hs).mono ?_; rintro e w1 ⟨rfl, hx1⟩) | (go_at_call 23; refine (lof_c _ _ _ hs).mono ?_; rintro e w1 ⟨rfl, hx1⟩) | (go_at_call 26; refine (lstart_c _ _ _ hs).mono ?_; rintro e w1 ⟨rfl, hx1⟩) | (go_at_call 27; refine (lend_c _ _ _ hs).mono ?_; rintro e w1 ⟨rfl, hx1⟩) | (go_at_call 44; refine (prev_c _ _ _ (by omega)).mono ?_; rintro e w1 ⟨rfl, hx1⟩) | (go_at_call 54; refine (next_c _ _ _ (by omega)).mono ?_; rintro e w1 ⟨rfl, hx1⟩))
        go_loopw [12] (fun v wr => ∃ t : Nat, k ≤ t ∧ t ≤ e ∧ placeB (ls s) t = true ∧ v = .int .i64 t ∧ upI (ls s) (bigI (ls s) k) true (e - t) t t = upI (ls s) (bigI (ls s) k) true (e - k) k k ∧ Ext w wr) (fun v _ => e - (intOf v).toNat)
        case atStart => exact ⟨k, Nat.le_refl _, q4, Hp.out, rfl, rfl, (by (repeat (first | exact Ext.refl _ | exact ‹Ext _ _› | refine Ext.alloc ?_ _ | refine Ext.drew ?_ | refine Ext.drewN ?_ _ | (refine Ext.setCell ?_ (by first | omega | (simp; done) | (simp; omega)) _) | refine Ext.trans ?_ ‹Ext _ _›)))⟩
        case round =>
          obtain ⟨t, ht1, ht2, hpt, rfl, hok2, hx3⟩ := hrel
          have Hok2 := Lib.hid hok2
          clear hok2
          by_cases hlt2 : t < e
          · obtain ⟨n, g1, g2, g3, g4, g5⟩ := upI_step (c := bigI (ls s) k) (big := true) (by rw [ls_len]; omega) hlt2 H7.out hpt
            have g5' : upI (ls s) (bigI (ls s) k) true (e - t) t t = if bigI (ls s) t = bigI (ls s) k then upI (ls s) (bigI (ls s) k) true (e - n) n n else (t : Int) := g5
            have G1 := Lib.hid g1
            have G4 := Lib.hid g4
            have G5 := Lib.hid g5'
            clear g1 g4 g5 g5' hpt
            go_wp2_with (first | (go_at_call 53; refine (cbig_c _ _ _ hs).mono ?_; rintro e w1 ⟨rfl, hx1⟩) | (go_at_call 23; refine (lof_c _ _ _ hs).mono ?_; rintro e w1 ⟨rfl, hx1⟩) | (go_at_call 26; refine (lstart_c _ _ _ hs).mono ?_; rintro e w1 ⟨rfl, hx1⟩) | (go_at_call 27; refine (lend_c _ _ _ hs).mono ?_; rintro e w1 ⟨rfl, hx1⟩) | (go_at_call 44; refine (prev_c _ _ _ (by omega)).mono ?_; rintro e w1 ⟨rfl, hx1⟩) | (go_at_call 54; refine (next_c _ _ _ (by omega)).mono ?_; rintro e w1 ⟨rfl, hx1⟩))
            · go_roundw
              case rel =>
                refine ⟨n, by omega, g3, G4.out, by rw [G1.out], ?_, (by (repeat (first | exact Ext.refl _ | exact ‹Ext _ _› | refine Ext.alloc ?_ _ | refine Ext.drew ?_ | refine Ext.drewN ?_ _ | (refine Ext.setCell ?_ (by first | omega | (simp; done) | (simp; omega)) _) | refine Ext.trans ?_ ‹Ext _ _›)))⟩
                rw [← Hok2.out, G5.out, if_pos (by simp_all)]
              case measure => rw [G1.out]; simp [intOf]; omega
            · go_ret2
              refine ⟨ret2 ⟨?_, ?_⟩, (by (repeat (first | exact Ext.refl _ | exact ‹Ext _ _› | refine Ext.alloc ?_ _ | refine Ext.drew ?_ | refine Ext.drewN ?_ _ | (refine Ext.setCell ?_ (by first | omega | (simp; done) | (simp; omega)) _) | refine Ext.trans ?_ ‹Ext _ _›)))⟩
              · rw [Hr1.out, Hd.out]
              · rw [Hr2.out, ← Hok2.out, G5.out, if_neg (by simp_all)]
          · have et : t = e := by omega
            subst et
            go_wp2_with (first | (go_at_call 53; refine (cbig_c _ _ _ hs).mono ?_; rintro e w1 ⟨rfl, hx1⟩) | (go_at_call 23; refine (lof_c _ _ _ hs).mono ?_; rintro e w1 ⟨rfl, hx1⟩) | (go_at_call 26; refine (lstart_c _ _ _ hs).mono ?_; rintro e w1 ⟨rfl, hx1⟩) | (go_at_call 27; refine (lend_c _ _ _ hs).mono ?_; rintro e w1 ⟨rfl, hx1⟩) | (go_at_call 44; refine (prev_c _ _ _ (by omega)).mono ?_; rintro e w1 ⟨rfl, hx1⟩) | (go_at_call 54; refine (next_c _ _ _ (by omega)).mono ?_; rintro e w1 ⟨rfl, hx1⟩))
            go_ret2
            refine ⟨ret2 ⟨?_, ?_⟩, (by (repeat (first | exact Ext.refl _ | exact ‹Ext _ _› | refine Ext.alloc ?_ _ | refine Ext.drew ?_ | refine Ext.drewN ?_ _ | (refine Ext.setCell ?_ (by first | omega | (simp; done) | (simp; omega)) _) | refine Ext.trans ?_ ‹Ext _ _›)))⟩
            · rw [Hr1.out, Hd.out]
            · rw [Hr2.out, ← Hok2.out, Nat.sub_self]; rfl
theorem crun_c (s : ByteArray) (p : Int) (big : Bool) (w : World) (hs : s.size ≤ 1099511627775) : Calls Tryd.prog 28 #[.string s, .int .i64 p, .bool big] w fun e w' => e = .returned (.tuple #[.int .i64 (runI (ls s) p big).1, .int .i64 (runI (ls s) p big).2]) ∧ Ext w w' := by
  cases big
  · exact run_false s p w hs
  · exact run_true s p w hs

end Go.Proofs.YtgapekdcoedmgaaDoor
/- The contracts of class.each, Up, Low, Flip. -/
namespace Go.Proofs.YtgapekdcoedmgaaDoor
open Go.RowKit
set_option linter.unusedVariables false
set_option linter.unusedSimpArgs false
def upB (b : Int) : Int := if lettB b = true ∧ 97 ≤ b then b - 32 else b
def loB (b : Int) : Int := if lettB b = true ∧ b ≤ 90 then b + 32 else b
def flB (b : Int) : Int := if lettB b = true then (if 97 ≤ b then b - 32 else b + 32) else b
theorem up_bits : ∀ n : Fin 256, lettB (n.val : Int) = true → bits .andNot .u8 (n.val : Int) 32 = upB n.val := by decide +kernel
theorem lo_bits : ∀ n : Fin 256, lettB (n.val : Int) = true → bits .or .u8 (n.val : Int) 32 = loB n.val := by decide +kernel
theorem fl_bits : ∀ n : Fin 256, lettB (n.val : Int) = true → bits .xor .u8 (n.val : Int) 32 = flB n.val := by decide +kernel
theorem b8_toNat {n : Int} (h0 : 0 ≤ n) (h1 : n ≤ 255) : (((b8 n).toNat : Nat) : Int) = n := by
  unfold b8; rw [UInt8.toNat_ofNat_of_lt' (by show n.toNat < 256; omega)]; omega
theorem up_range (b : Int) (h0 : 0 ≤ b) (h1 : b ≤ 255) : 0 ≤ upB b ∧ upB b ≤ 255 := by unfold upB; split <;> omega
theorem lo_range (b : Int) (h0 : 0 ≤ b) (h1 : b ≤ 255) : 0 ≤ loB b ∧ loB b ≤ 255 := by unfold loB; split <;> omega
theorem fl_range (b : Int) (h0 : 0 ≤ b) (h1 : b ≤ 255) : 0 ≤ flB b ∧ flB b ≤ 255 := by
  unfold flB; split
  · rename_i h; unfold lettB at h; simp at h; split <;> omega
  · omega
theorem set_other {W : World} {b j k : Nat} {v : Value} (h : k ≠ j) : (W.setCell ⟨b, k, none⟩ v).cell? ⟨b, j, none⟩ = W.cell? ⟨b, j, none⟩ := by
  apply World.cell?_setCell_other
  intro e; injection e with e1 e2 e3; exact h e2
set_option maxHeartbeats 4000000 in
set_option maxRecDepth 100000 in
theorem up1_c (b : Int) (h0 : 0 ≤ b) (h1 : b ≤ 255) (hl : lettB b = true) (w : World) : Calls Tryd.prog 30 #[.int .u8 b] w fun e w' => e = .returned (.int .u8 (upB b)) ∧ Ext w w' := by
  obtain ⟨n, rfl⟩ : ∃ n : Nat, b = n := ⟨b.toNat, by omega⟩
  have hn : n < 256 := by omega
  have Hk := Lib.hid (up_bits ⟨n, hn⟩ hl)
  clear hl
  go_enter Tryd.func30, Tryd.ntmps30
  go_wp2
  go_ret
  exact ⟨by rw [← Hk.out]; rfl, (by (repeat (first | exact Ext.refl _ | exact ‹Ext _ _› | refine Ext.alloc ?_ _ | refine Ext.drew ?_ | refine Ext.drewN ?_ _ | (refine Ext.setCell ?_ (by first | omega | (simp; done) | (simp; omega)) _) | refine Ext.trans ?_ ‹Ext _ _›)))⟩
def upN (l : List UInt8) (k : Nat) (j : Nat) : Int := if j < k then upB (byL l j) else byL l j
set_option maxHeartbeats 4000000 in
set_option maxRecDepth 100000 in
theorem eachup_c (s : ByteArray) (w : World) (hs : s.size ≤ 140737488351232) : Calls Tryd.prog 29 #[.string s, .func (.func 30) #[] #[]] w fun e w' => e = .returned (.string ⟨((ls s).map fun b => b8 (upB b.toNat)).toArray⟩) ∧ Ext w w' := by
  have hcv := fun w => run_bytes_of_string (P := Tryd.prog) w 9 40 5 s Tryd.underlying9 Tryd.underlying40 Tryd.underlying5
  go_enter Tryd.func29, Tryd.ntmps29
  go_wp2_with (first | (go_at_call 55; refine (letter_c _ _).mono ?_; rintro e w1 ⟨rfl, hx1⟩))
  go_loopw [11] (fun iv wr => ∃ k : Nat, k ≤ s.size ∧ iv = .int .i64 k ∧ Hid (∀ j, j < s.size → wr.cell? ⟨w.heap.size, j, none⟩ = some (.int .u8 (upN (ls s) k j))) ∧ Hid (∀ j, j < s.size → wr.frozen? ⟨w.heap.size, j, none⟩ = false) ∧ w.heap.size < wr.heap.size ∧ Ext w wr) (fun iv _ => s.size - (intOf iv).toNat)
  case atStart =>
    refine ⟨0, by omega, rfl, Lib.hid (fun j hj => ?_), Lib.hid (fun j hj => ?_), by simp, (by (repeat (first | exact Ext.refl _ | exact ‹Ext _ _› | refine Ext.alloc ?_ _ | refine Ext.drew ?_ | refine Ext.drewN ?_ _ | (refine Ext.setCell ?_ (by first | omega | (simp; done) | (simp; omega)) _) | refine Ext.trans ?_ ‹Ext _ _›)))⟩
    · rw [upN, if_neg (by omega), ← byL_eq s j hj]
      simp [World.cell?, World.alloc, World.drew, -World.alloc_eq, -World.drew_eq, bytesRow, hj]
      rw [Array.getElem?_append_left (by simpa using hj)]
      simp [hj]
      rfl
    · simp [World.frozen?, World.alloc, World.drew, -World.alloc_eq, -World.drew_eq, bytesRow, hj]
      all_goals omega
  case round =>
    obtain ⟨k, hk, rfl, Hc, Hf, hz, hx⟩ := hrel
    by_cases hlt : k < s.size
    · have hc : wr.cell? ⟨w.heap.size, k, none⟩ = some (.int .u8 (byL (ls s) k)) := by rw [Hc.out k hlt, upN, if_neg (by omega)]
      have hf := Hf.out k hlt
      have hb0 := byL_lo (ls s) k
      have hb1 := byL_hi (ls s) k
      go_wp2_with (first | (go_at_call 55; refine (letter_c _ _).mono ?_; rintro e w1 ⟨rfl, hx1⟩; have hf2 := Ext.unfr hx1 hc hf; replace hc := Ext.keep hx1 hc; have hz2 := hx1.size) | (go_at_call 30; refine (up1_c _ hb0 hb1 (by assumption) _).mono ?_; rintro e w1 ⟨rfl, hx1⟩; have hf2 := Ext.unfr hx1 hc (by assumption); replace hc := Ext.keep hx1 hc; have hz2 := hx1.size))
      · go_roundw
        case rel =>
          refine ⟨k + 1, by omega, by go_num, Lib.hid (fun j hj => ?_), Lib.hid (fun j hj => ?_), by simp; omega, (by (repeat (first | exact Ext.refl _ | exact ‹Ext _ _› | refine Ext.alloc ?_ _ | refine Ext.drew ?_ | refine Ext.drewN ?_ _ | (refine Ext.setCell ?_ (by first | omega | (simp; done) | (simp; omega)) _) | refine Ext.trans ?_ ‹Ext _ _›)))⟩
          · by_cases e : j = k
            · subst e
              rw [cell_set_eq hc, upN, if_pos (by omega)]
            · rw [set_other (fun x => e x.symm), Below.cell hx1 (by simp; omega)]
              rename Ext wr _ => hx0
              rw [Below.cell hx0 (by simp; omega), Hc.out j hj, upN, upN]
              by_cases e2 : j < k
              · rw [if_pos e2, if_pos (by omega)]
              · rw [if_neg e2, if_neg (by omega)]
          · rw [World.frozen?_setCell, Below.frozen hx1 (by simp; omega)]
            rename Ext wr _ => hx0
            rw [Below.frozen hx0 (by simp; omega)]; exact Hf.out j hj
        case measure => (simp [intOf] <;> omega)
      · go_roundw
        case rel =>
          refine ⟨k + 1, by omega, by go_num, Lib.hid (fun j hj => ?_), Lib.hid (fun j hj => ?_), by omega, (by (repeat (first | exact Ext.refl _ | exact ‹Ext _ _› | refine Ext.alloc ?_ _ | refine Ext.drew ?_ | refine Ext.drewN ?_ _ | (refine Ext.setCell ?_ (by first | omega | (simp; done) | (simp; omega)) _) | refine Ext.trans ?_ ‹Ext _ _›)))⟩
          · rw [Below.cell hx1 (by simp; omega), Hc.out j hj, upN, upN]
            by_cases e : j = k
            · subst e
              rw [if_neg (by omega), if_pos (by omega)]
              congr 2
              rename _ = false => hlf
              unfold upB; simp [hlf]
            · by_cases e2 : j < k
              · rw [if_pos e2, if_pos (by omega)]
              · rw [if_neg e2, if_neg (by omega)]
          · rw [Below.frozen hx1 (by simp; omega)]; exact Hf.out j hj
        case measure => (simp [intOf] <;> omega)
    · have ek : k = s.size := by omega
      subst ek
      have hlen : ((ls s).map fun b => b8 (upB b.toNat)).length = s.size := by rw [List.length_map, ls_len]
      have hback := run_convert_bytes_back (P := Tryd.prog) wr 40 9 5 ⟨w.heap.size, 0, none⟩ (grownCap w s.size 0 5) ((ls s).map fun b => b8 (upB b.toNat)) Tryd.underlying40 Tryd.underlying5 Tryd.underlying9 (by
        intro j hj
        have hj' : j < s.size := by rw [← hlen]; exact hj
        have hjl : j < (ls s).length := by rw [ls_len]; exact hj'
        have ea : (⟨w.heap.size, 0, none⟩ : Addr).add j = ⟨w.heap.size, j, none⟩ := by unfold Addr.add; split <;> simp_all
        rw [ea, Hc.out j hj', upN, if_pos hj', List.getElem_map]
        have hx0 : byL (ls s) j = (((ls s)[j].toNat : Nat) : Int) := by unfold byL; rw [List.getD_eq_getElem?_getD, List.getElem?_eq_getElem hjl]; rfl
        have hr := up_range (byL (ls s) j) (byL_lo _ _) (byL_hi _ _)
        rw [← hx0, b8_toNat hr.1 hr.2])
      rw [hlen] at hback
      clear hlen
      go_wp2
      go_ret
      exact ⟨rfl, (by (repeat (first | exact Ext.refl _ | exact ‹Ext _ _› | refine Ext.alloc ?_ _ | refine Ext.drew ?_ | refine Ext.drewN ?_ _ | (refine Ext.setCell ?_ (by first | omega | (simp; done) | (simp; omega)) _) | refine Ext.trans ?_ ‹Ext _ _›)))⟩
def upS (s : ByteArray) : ByteArray := ⟨((ls s).map fun b => b8 (upB b.toNat)).toArray⟩
theorem ls_upS (s : ByteArray) : ls (upS s) = (ls s).map fun b => b8 (upB b.toNat) := by unfold upS ls; simp
theorem size_upS (s : ByteArray) : (upS s).size = s.size := by rw [← ls_len, ls_upS, List.length_map, ls_len]
set_option maxHeartbeats 4000000 in
set_option maxRecDepth 100000 in
theorem cup_c (s : ByteArray) (w : World) (hs : s.size ≤ 140737488351232) : Calls Tryd.prog 7 #[.string s] w fun e w' => e = .returned (.string (upS s)) ∧ Ext w w' := by
  go_enter Tryd.func7, Tryd.ntmps7
  go_wp2_with (first | (go_at_call 29; refine (eachup_c _ _ hs).mono ?_; rintro e w1 ⟨rfl, hx1⟩))
  go_ret
  exact ⟨rfl, (by (repeat (first | exact Ext.refl _ | exact ‹Ext _ _› | refine Ext.alloc ?_ _ | refine Ext.drew ?_ | refine Ext.drewN ?_ _ | (refine Ext.setCell ?_ (by first | omega | (simp; done) | (simp; omega)) _) | refine Ext.trans ?_ ‹Ext _ _›)))⟩
set_option maxHeartbeats 4000000 in
set_option maxRecDepth 100000 in
theorem lo1_c (b : Int) (h0 : 0 ≤ b) (h1 : b ≤ 255) (hl : lettB b = true) (w : World) : Calls Tryd.prog 32 #[.int .u8 b] w fun e w' => e = .returned (.int .u8 (loB b)) ∧ Ext w w' := by
  obtain ⟨n, rfl⟩ : ∃ n : Nat, b = n := ⟨b.toNat, by omega⟩
  have hn : n < 256 := by omega
  have Hk := Lib.hid (lo_bits ⟨n, hn⟩ hl)
  clear hl
  go_enter Tryd.func32, Tryd.ntmps32
  go_wp2
  go_ret
  exact ⟨by rw [← Hk.out]; rfl, (by (repeat (first | exact Ext.refl _ | exact ‹Ext _ _› | refine Ext.alloc ?_ _ | refine Ext.drew ?_ | refine Ext.drewN ?_ _ | (refine Ext.setCell ?_ (by first | omega | (simp; done) | (simp; omega)) _) | refine Ext.trans ?_ ‹Ext _ _›)))⟩
def loN (l : List UInt8) (k : Nat) (j : Nat) : Int := if j < k then loB (byL l j) else byL l j
set_option maxHeartbeats 4000000 in
set_option maxRecDepth 100000 in
theorem eachlo_c (s : ByteArray) (w : World) (hs : s.size ≤ 140737488351232) : Calls Tryd.prog 29 #[.string s, .func (.func 32) #[] #[]] w fun e w' => e = .returned (.string ⟨((ls s).map fun b => b8 (loB b.toNat)).toArray⟩) ∧ Ext w w' := by
  have hcv := fun w => run_bytes_of_string (P := Tryd.prog) w 9 40 5 s Tryd.underlying9 Tryd.underlying40 Tryd.underlying5
  go_enter Tryd.func29, Tryd.ntmps29
  go_wp2_with (first | (go_at_call 55; refine (letter_c _ _).mono ?_; rintro e w1 ⟨rfl, hx1⟩))
  go_loopw [11] (fun iv wr => ∃ k : Nat, k ≤ s.size ∧ iv = .int .i64 k ∧ Hid (∀ j, j < s.size → wr.cell? ⟨w.heap.size, j, none⟩ = some (.int .u8 (loN (ls s) k j))) ∧ Hid (∀ j, j < s.size → wr.frozen? ⟨w.heap.size, j, none⟩ = false) ∧ w.heap.size < wr.heap.size ∧ Ext w wr) (fun iv _ => s.size - (intOf iv).toNat)
  case atStart =>
    refine ⟨0, by omega, rfl, Lib.hid (fun j hj => ?_), Lib.hid (fun j hj => ?_), by simp, (by (repeat (first | exact Ext.refl _ | exact ‹Ext _ _› | refine Ext.alloc ?_ _ | refine Ext.drew ?_ | refine Ext.drewN ?_ _ | (refine Ext.setCell ?_ (by first | omega | (simp; done) | (simp; omega)) _) | refine Ext.trans ?_ ‹Ext _ _›)))⟩
    · rw [loN, if_neg (by omega), ← byL_eq s j hj]
      simp [World.cell?, World.alloc, World.drew, -World.alloc_eq, -World.drew_eq, bytesRow, hj]
      rw [Array.getElem?_append_left (by simpa using hj)]
      simp [hj]
      rfl
    · simp [World.frozen?, World.alloc, World.drew, -World.alloc_eq, -World.drew_eq, bytesRow, hj]
      all_goals omega
  case round =>
    obtain ⟨k, hk, rfl, Hc, Hf, hz, hx⟩ := hrel
    by_cases hlt : k < s.size
    · have hc : wr.cell? ⟨w.heap.size, k, none⟩ = some (.int .u8 (byL (ls s) k)) := by rw [Hc.out k hlt, loN, if_neg (by omega)]
      have hf := Hf.out k hlt
      have hb0 := byL_lo (ls s) k
      have hb1 := byL_hi (ls s) k
      go_wp2_with (first | (go_at_call 55; refine (letter_c _ _).mono ?_; rintro e w1 ⟨rfl, hx1⟩; have hf2 := Ext.unfr hx1 hc hf; replace hc := Ext.keep hx1 hc; have hz2 := hx1.size) | (go_at_call 32; refine (lo1_c _ hb0 hb1 (by assumption) _).mono ?_; rintro e w1 ⟨rfl, hx1⟩; have hf2 := Ext.unfr hx1 hc (by assumption); replace hc := Ext.keep hx1 hc; have hz2 := hx1.size))
      · go_roundw
        case rel =>
          refine ⟨k + 1, by omega, by go_num, Lib.hid (fun j hj => ?_), Lib.hid (fun j hj => ?_), by simp; omega, (by (repeat (first | exact Ext.refl _ | exact ‹Ext _ _› | refine Ext.alloc ?_ _ | refine Ext.drew ?_ | refine Ext.drewN ?_ _ | (refine Ext.setCell ?_ (by first | omega | (simp; done) | (simp; omega)) _) | refine Ext.trans ?_ ‹Ext _ _›)))⟩
          · by_cases e : j = k
            · subst e
              rw [cell_set_eq hc, loN, if_pos (by omega)]
            · rw [set_other (fun x => e x.symm), Below.cell hx1 (by simp; omega)]
              rename Ext wr _ => hx0
              rw [Below.cell hx0 (by simp; omega), Hc.out j hj, loN, loN]
              by_cases e2 : j < k
              · rw [if_pos e2, if_pos (by omega)]
              · rw [if_neg e2, if_neg (by omega)]
          · rw [World.frozen?_setCell, Below.frozen hx1 (by simp; omega)]
            rename Ext wr _ => hx0
            rw [Below.frozen hx0 (by simp; omega)]; exact Hf.out j hj
        case measure => (simp [intOf] <;> omega)
      · go_roundw
        case rel =>
          refine ⟨k + 1, by omega, by go_num, Lib.hid (fun j hj => ?_), Lib.hid (fun j hj => ?_), by omega, (by (repeat (first | exact Ext.refl _ | exact ‹Ext _ _› | refine Ext.alloc ?_ _ | refine Ext.drew ?_ | refine Ext.drewN ?_ _ | (refine Ext.setCell ?_ (by first | omega | (simp; done) | (simp; omega)) _) | refine Ext.trans ?_ ‹Ext _ _›)))⟩
          · rw [Below.cell hx1 (by simp; omega), Hc.out j hj, loN, loN]
            by_cases e : j = k
            · subst e
              rw [if_neg (by omega), if_pos (by omega)]
              congr 2
              rename _ = false => hlf
              unfold loB; simp [hlf]
            · by_cases e2 : j < k
              · rw [if_pos e2, if_pos (by omega)]
              · rw [if_neg e2, if_neg (by omega)]
          · rw [Below.frozen hx1 (by simp; omega)]; exact Hf.out j hj
        case measure => (simp [intOf] <;> omega)
    · have ek : k = s.size := by omega
      subst ek
      have hlen : ((ls s).map fun b => b8 (loB b.toNat)).length = s.size := by rw [List.length_map, ls_len]
      have hback := run_convert_bytes_back (P := Tryd.prog) wr 40 9 5 ⟨w.heap.size, 0, none⟩ (grownCap w s.size 0 5) ((ls s).map fun b => b8 (loB b.toNat)) Tryd.underlying40 Tryd.underlying5 Tryd.underlying9 (by
        intro j hj
        have hj' : j < s.size := by rw [← hlen]; exact hj
        have hjl : j < (ls s).length := by rw [ls_len]; exact hj'
        have ea : (⟨w.heap.size, 0, none⟩ : Addr).add j = ⟨w.heap.size, j, none⟩ := by unfold Addr.add; split <;> simp_all
        rw [ea, Hc.out j hj', loN, if_pos hj', List.getElem_map]
        have hx0 : byL (ls s) j = (((ls s)[j].toNat : Nat) : Int) := by unfold byL; rw [List.getD_eq_getElem?_getD, List.getElem?_eq_getElem hjl]; rfl
        have hr := lo_range (byL (ls s) j) (byL_lo _ _) (byL_hi _ _)
        rw [← hx0, b8_toNat hr.1 hr.2])
      rw [hlen] at hback
      clear hlen
      go_wp2
      go_ret
      exact ⟨rfl, (by (repeat (first | exact Ext.refl _ | exact ‹Ext _ _› | refine Ext.alloc ?_ _ | refine Ext.drew ?_ | refine Ext.drewN ?_ _ | (refine Ext.setCell ?_ (by first | omega | (simp; done) | (simp; omega)) _) | refine Ext.trans ?_ ‹Ext _ _›)))⟩
def loS (s : ByteArray) : ByteArray := ⟨((ls s).map fun b => b8 (loB b.toNat)).toArray⟩
theorem ls_loS (s : ByteArray) : ls (loS s) = (ls s).map fun b => b8 (loB b.toNat) := by unfold loS ls; simp
theorem size_loS (s : ByteArray) : (loS s).size = s.size := by rw [← ls_len, ls_loS, List.length_map, ls_len]
set_option maxHeartbeats 4000000 in
set_option maxRecDepth 100000 in
theorem clo_c (s : ByteArray) (w : World) (hs : s.size ≤ 140737488351232) : Calls Tryd.prog 9 #[.string s] w fun e w' => e = .returned (.string (loS s)) ∧ Ext w w' := by
  go_enter Tryd.func9, Tryd.ntmps9
  go_wp2_with (first | (go_at_call 29; refine (eachlo_c _ _ hs).mono ?_; rintro e w1 ⟨rfl, hx1⟩))
  go_ret
  exact ⟨rfl, (by (repeat (first | exact Ext.refl _ | exact ‹Ext _ _› | refine Ext.alloc ?_ _ | refine Ext.drew ?_ | refine Ext.drewN ?_ _ | (refine Ext.setCell ?_ (by first | omega | (simp; done) | (simp; omega)) _) | refine Ext.trans ?_ ‹Ext _ _›)))⟩
set_option maxHeartbeats 4000000 in
set_option maxRecDepth 100000 in
theorem fl1_c (b : Int) (h0 : 0 ≤ b) (h1 : b ≤ 255) (hl : lettB b = true) (w : World) : Calls Tryd.prog 33 #[.int .u8 b] w fun e w' => e = .returned (.int .u8 (flB b)) ∧ Ext w w' := by
  obtain ⟨n, rfl⟩ : ∃ n : Nat, b = n := ⟨b.toNat, by omega⟩
  have hn : n < 256 := by omega
  have Hk := Lib.hid (fl_bits ⟨n, hn⟩ hl)
  clear hl
  go_enter Tryd.func33, Tryd.ntmps33
  go_wp2
  go_ret
  exact ⟨by rw [← Hk.out]; rfl, (by (repeat (first | exact Ext.refl _ | exact ‹Ext _ _› | refine Ext.alloc ?_ _ | refine Ext.drew ?_ | refine Ext.drewN ?_ _ | (refine Ext.setCell ?_ (by first | omega | (simp; done) | (simp; omega)) _) | refine Ext.trans ?_ ‹Ext _ _›)))⟩
def flN (l : List UInt8) (k : Nat) (j : Nat) : Int := if j < k then flB (byL l j) else byL l j
set_option maxHeartbeats 4000000 in
set_option maxRecDepth 100000 in
theorem eachfl_c (s : ByteArray) (w : World) (hs : s.size ≤ 140737488351232) : Calls Tryd.prog 29 #[.string s, .func (.func 33) #[] #[]] w fun e w' => e = .returned (.string ⟨((ls s).map fun b => b8 (flB b.toNat)).toArray⟩) ∧ Ext w w' := by
  have hcv := fun w => run_bytes_of_string (P := Tryd.prog) w 9 40 5 s Tryd.underlying9 Tryd.underlying40 Tryd.underlying5
  go_enter Tryd.func29, Tryd.ntmps29
  go_wp2_with (first | (go_at_call 55; refine (letter_c _ _).mono ?_; rintro e w1 ⟨rfl, hx1⟩))
  go_loopw [11] (fun iv wr => ∃ k : Nat, k ≤ s.size ∧ iv = .int .i64 k ∧ Hid (∀ j, j < s.size → wr.cell? ⟨w.heap.size, j, none⟩ = some (.int .u8 (flN (ls s) k j))) ∧ Hid (∀ j, j < s.size → wr.frozen? ⟨w.heap.size, j, none⟩ = false) ∧ w.heap.size < wr.heap.size ∧ Ext w wr) (fun iv _ => s.size - (intOf iv).toNat)
  case atStart =>
    refine ⟨0, by omega, rfl, Lib.hid (fun j hj => ?_), Lib.hid (fun j hj => ?_), by simp, (by (repeat (first | exact Ext.refl _ | exact ‹Ext _ _› | refine Ext.alloc ?_ _ | refine Ext.drew ?_ | refine Ext.drewN ?_ _ | (refine Ext.setCell ?_ (by first | omega | (simp; done) | (simp; omega)) _) | refine Ext.trans ?_ ‹Ext _ _›)))⟩
    · rw [flN, if_neg (by omega), ← byL_eq s j hj]
      simp [World.cell?, World.alloc, World.drew, -World.alloc_eq, -World.drew_eq, bytesRow, hj]
      rw [Array.getElem?_append_left (by simpa using hj)]
      simp [hj]
      rfl
    · simp [World.frozen?, World.alloc, World.drew, -World.alloc_eq, -World.drew_eq, bytesRow, hj]
      all_goals omega
  case round =>
    obtain ⟨k, hk, rfl, Hc, Hf, hz, hx⟩ := hrel
    by_cases hlt : k < s.size
    · have hc : wr.cell? ⟨w.heap.size, k, none⟩ = some (.int .u8 (byL (ls s) k)) := by rw [Hc.out k hlt, flN, if_neg (by omega)]
      have hf := Hf.out k hlt
      have hb0 := byL_lo (ls s) k
      have hb1 := byL_hi (ls s) k
      go_wp2_with (first | (go_at_call 55; refine (letter_c _ _).mono ?_; rintro e w1 ⟨rfl, hx1⟩; have hf2 := Ext.unfr hx1 hc hf; replace hc := Ext.keep hx1 hc; have hz2 := hx1.size) | (go_at_call 33; refine (fl1_c _ hb0 hb1 (by assumption) _).mono ?_; rintro e w1 ⟨rfl, hx1⟩; have hf2 := Ext.unfr hx1 hc (by assumption); replace hc := Ext.keep hx1 hc; have hz2 := hx1.size))
      · go_roundw
        case rel =>
          refine ⟨k + 1, by omega, by go_num, Lib.hid (fun j hj => ?_), Lib.hid (fun j hj => ?_), by simp; omega, (by (repeat (first | exact Ext.refl _ | exact ‹Ext _ _› | refine Ext.alloc ?_ _ | refine Ext.drew ?_ | refine Ext.drewN ?_ _ | (refine Ext.setCell ?_ (by first | omega | (simp; done) | (simp; omega)) _) | refine Ext.trans ?_ ‹Ext _ _›)))⟩
          · by_cases e : j = k
            · subst e
              rw [cell_set_eq hc, flN, if_pos (by omega)]
            · rw [set_other (fun x => e x.symm), Below.cell hx1 (by simp; omega)]
              rename Ext wr _ => hx0
              rw [Below.cell hx0 (by simp; omega), Hc.out j hj, flN, flN]
              by_cases e2 : j < k
              · rw [if_pos e2, if_pos (by omega)]
              · rw [if_neg e2, if_neg (by omega)]
          · rw [World.frozen?_setCell, Below.frozen hx1 (by simp; omega)]
            rename Ext wr _ => hx0
            rw [Below.frozen hx0 (by simp; omega)]; exact Hf.out j hj
        case measure => (simp [intOf] <;> omega)
      · go_roundw
        case rel =>
          refine ⟨k + 1, by omega, by go_num, Lib.hid (fun j hj => ?_), Lib.hid (fun j hj => ?_), by omega, (by (repeat (first | exact Ext.refl _ | exact ‹Ext _ _› | refine Ext.alloc ?_ _ | refine Ext.drew ?_ | refine Ext.drewN ?_ _ | (refine Ext.setCell ?_ (by first | omega | (simp; done) | (simp; omega)) _) | refine Ext.trans ?_ ‹Ext _ _›)))⟩
          · rw [Below.cell hx1 (by simp; omega), Hc.out j hj, flN, flN]
            by_cases e : j = k
            · subst e
              rw [if_neg (by omega), if_pos (by omega)]
              congr 2
              rename _ = false => hlf
              unfold flB; simp [hlf]
            · by_cases e2 : j < k
              · rw [if_pos e2, if_pos (by omega)]
              · rw [if_neg e2, if_neg (by omega)]
          · rw [Below.frozen hx1 (by simp; omega)]; exact Hf.out j hj
        case measure => (simp [intOf] <;> omega)
    · have ek : k = s.size := by omega
      subst ek
      have hlen : ((ls s).map fun b => b8 (flB b.toNat)).length = s.size := by rw [List.length_map, ls_len]
      have hback := run_convert_bytes_back (P := Tryd.prog) wr 40 9 5 ⟨w.heap.size, 0, none⟩ (grownCap w s.size 0 5) ((ls s).map fun b => b8 (flB b.toNat)) Tryd.underlying40 Tryd.underlying5 Tryd.underlying9 (by
        intro j hj
        have hj' : j < s.size := by rw [← hlen]; exact hj
        have hjl : j < (ls s).length := by rw [ls_len]; exact hj'
        have ea : (⟨w.heap.size, 0, none⟩ : Addr).add j = ⟨w.heap.size, j, none⟩ := by unfold Addr.add; split <;> simp_all
        rw [ea, Hc.out j hj', flN, if_pos hj', List.getElem_map]
        have hx0 : byL (ls s) j = (((ls s)[j].toNat : Nat) : Int) := by unfold byL; rw [List.getD_eq_getElem?_getD, List.getElem?_eq_getElem hjl]; rfl
        have hr := fl_range (byL (ls s) j) (byL_lo _ _) (byL_hi _ _)
        rw [← hx0, b8_toNat hr.1 hr.2])
      rw [hlen] at hback
      clear hlen
      go_wp2
      go_ret
      exact ⟨rfl, (by (repeat (first | exact Ext.refl _ | exact ‹Ext _ _› | refine Ext.alloc ?_ _ | refine Ext.drew ?_ | refine Ext.drewN ?_ _ | (refine Ext.setCell ?_ (by first | omega | (simp; done) | (simp; omega)) _) | refine Ext.trans ?_ ‹Ext _ _›)))⟩
def flS (s : ByteArray) : ByteArray := ⟨((ls s).map fun b => b8 (flB b.toNat)).toArray⟩
theorem ls_flS (s : ByteArray) : ls (flS s) = (ls s).map fun b => b8 (flB b.toNat) := by unfold flS ls; simp
theorem size_flS (s : ByteArray) : (flS s).size = s.size := by rw [← ls_len, ls_flS, List.length_map, ls_len]
set_option maxHeartbeats 4000000 in
set_option maxRecDepth 100000 in
theorem cfl_c (s : ByteArray) (w : World) (hs : s.size ≤ 140737488351232) : Calls Tryd.prog 11 #[.string s] w fun e w' => e = .returned (.string (flS s)) ∧ Ext w w' := by
  go_enter Tryd.func11, Tryd.ntmps11
  go_wp2_with (first | (go_at_call 29; refine (eachfl_c _ _ hs).mono ?_; rintro e w1 ⟨rfl, hx1⟩))
  go_ret
  exact ⟨rfl, (by (repeat (first | exact Ext.refl _ | exact ‹Ext _ _› | refine Ext.alloc ?_ _ | refine Ext.drew ?_ | refine Ext.drewN ?_ _ | (refine Ext.setCell ?_ (by first | omega | (simp; done) | (simp; omega)) _) | refine Ext.trans ?_ ‹Ext _ _›)))⟩

end Go.Proofs.YtgapekdcoedmgaaDoor
/- The contracts of the reference calamusref05: classes. -/
namespace Go.Proofs.YtgapekdcoedmgaaDoor
open Go.RowKit
set_option linter.unusedVariables false
set_option linter.unusedSimpArgs false
def bsI (l : List UInt8) : List Int := l.map fun x => (x.toNat : Int)
theorem bsI_len (l : List UInt8) : (bsI l).length = l.length := by simp [bsI]
theorem bsI_at (s : ByteArray) (j : Nat) (h : j < s.size) : (bsI (ls s))[j]'(by rw [bsI_len, ls_len]; exact h) = ((s[j].toNat : Nat) : Int) := by
  have h' : j < (ls s).length := by rw [ls_len]; exact h
  simp only [bsI, List.getElem_map]
  rw [byL_eq s j h]; unfold byL; rw [List.getD_eq_getElem?_getD, List.getElem?_eq_getElem h']; rfl
set_option maxHeartbeats 4000000 in
set_option maxRecDepth 100000 in
theorem rin_c (s : ByteArray) (b : Int) (w : World) (hs : s.size ≤ 1152921504606846976) : Calls Tryd.prog 35 #[.string s, .int .u8 b] w fun e w' => e = .returned (.int .i64 (findF (bsI (ls s)) b 0)) ∧ Ext w w' := by
  go_enter Tryd.func35, Tryd.ntmps35
  go_wp2
  go_loopw [5] (fun i wr => ∃ k : Nat, k ≤ s.size ∧ i = .int .i64 k ∧ findF ((bsI (ls s)).drop k) b k = findF (bsI (ls s)) b 0 ∧ Ext w wr) (fun i _ => s.size - (intOf i).toNat)
  case atStart => exact ⟨0, by omega, rfl, by simp, (by (repeat (first | exact Ext.refl _ | exact ‹Ext _ _› | refine Ext.alloc ?_ _ | refine Ext.drew ?_ | refine Ext.drewN ?_ _ | (refine Ext.setCell ?_ (by first | omega | (simp; done) | (simp; omega)) _) | refine Ext.trans ?_ ‹Ext _ _›)))⟩
  case round =>
    obtain ⟨k, hk, rfl, hok, hx⟩ := hrel
    have Hok := Lib.hid hok
    clear hok
    by_cases hlt : k < s.size
    · have hb := bsI_at s k hlt
      have Hs := Lib.hid (findF_step (bsI (ls s)) b k (by rw [bsI_len, ls_len]; exact hlt))
      rw [hb] at Hs
      clear hb
      go_wp2
      all_goals (try simp only [beq_iff_eq, beq_eq_false_iff_ne] at *)
      · go_ret
        refine ⟨ret1 ?_, (by (repeat (first | exact Ext.refl _ | exact ‹Ext _ _› | refine Ext.alloc ?_ _ | refine Ext.drew ?_ | refine Ext.drewN ?_ _ | (refine Ext.setCell ?_ (by first | omega | (simp; done) | (simp; omega)) _) | refine Ext.trans ?_ ‹Ext _ _›)))⟩
        rw [← Hok.out, Hs.out, if_pos (by assumption)]
      · go_roundw
        case rel =>
          refine ⟨k + 1, by omega, by go_num, ?_, (by (repeat (first | exact Ext.refl _ | exact ‹Ext _ _› | refine Ext.alloc ?_ _ | refine Ext.drew ?_ | refine Ext.drewN ?_ _ | (refine Ext.setCell ?_ (by first | omega | (simp; done) | (simp; omega)) _) | refine Ext.trans ?_ ‹Ext _ _›)))⟩
          rw [← Hok.out, Hs.out, if_neg (by assumption)]
        case measure => (simp [intOf] <;> omega)
    · have Hs := Lib.hid (findF_end (bsI (ls s)) b k (by rw [bsI_len, ls_len]; omega))
      go_wp2
      go_ret
      exact ⟨ret1 (by rw [← Hok.out, Hs.out]), (by (repeat (first | exact Ext.refl _ | exact ‹Ext _ _› | refine Ext.alloc ?_ _ | refine Ext.drew ?_ | refine Ext.drewN ?_ _ | (refine Ext.setCell ?_ (by first | omega | (simp; done) | (simp; omega)) _) | refine Ext.trans ?_ ‹Ext _ _›)))⟩

def alnumB (b : Int) : Bool := lettB b || (decide (48 ≤ b) && decide (b ≤ 57)) || decide (b = 95)
def kindR (l : List UInt8) (big : Bool) : Int :=
  if l = [] then 0 else if l = [10] then 4 else if byL l 0 = 32 ∨ byL l 0 = 9 then 1 else if 1 < l.length ∨ big = true ∨ alnumB (byL l 0) = true then 2 else 3
theorem in_blank : ∀ n : Fin 256, decide (0 ≤ findF (bsI (ls ⟨#[32, 9]⟩)) (n.val : Int) 0) = (decide ((n.val : Int) = 32) || decide ((n.val : Int) = 9)) := by decide +kernel
def alnumL : ByteArray := ⟨#[97, 98, 99, 100, 101, 102, 103, 104, 105, 106, 107, 108, 109, 110, 111, 112, 113, 114, 115, 116, 117, 118, 119, 120, 121, 122, 65, 66, 67, 68, 69, 70, 71, 72, 73, 74, 75, 76, 77, 78, 79, 80, 81, 82, 83, 84, 85, 86, 87, 88, 89, 90, 48, 49, 50, 51, 52, 53, 54, 55, 56, 57, 95]⟩
theorem in_alnum : ∀ n : Fin 256, decide (0 ≤ findF (bsI (ls alnumL)) (n.val : Int) 0) = alnumB n.val := by decide +kernel
theorem in_blank' (x : UInt8) : 0 ≤ findF (bsI (ls ⟨#[32, 9]⟩)) ((x.toNat : Nat) : Int) 0 ↔ (((x.toNat : Nat) : Int) = 32 ∨ ((x.toNat : Nat) : Int) = 9) := by
  have h := in_blank ⟨x.toNat, x.toNat_lt⟩
  rw [Bool.eq_iff_iff] at h; simpa using h
theorem in_alnum' (x : UInt8) : 0 ≤ findF (bsI (ls alnumL)) ((x.toNat : Nat) : Int) 0 ↔ alnumB ((x.toNat : Nat) : Int) = true := by
  have h := in_alnum ⟨x.toNat, x.toNat_lt⟩
  rw [Bool.eq_iff_iff] at h; simpa using h
theorem ls_nil {s : ByteArray} (h : 0 < s.size) : ls s ≠ [] := by intro e; have := ls_len s; rw [e] at this; simp at this; omega
theorem runeL_at {l : List UInt8} {k : Nat} (h : placeB l k = true) (hk : k < l.length) : ∃ n, szL (l.drop k) = n ∧ 1 ≤ n ∧ runeL l k = (l.drop k).take n ∧ ((l.drop k).take n).length = n ∧ byL ((l.drop k).take n) 0 = byL l k := by
  obtain ⟨hz, hle⟩ := sz_at h hk
  refine ⟨szL (l.drop k), rfl, by omega, ?_, by rw [List.length_take, List.length_drop]; omega, ?_⟩
  · unfold runeL; rw [if_pos ⟨h, by omega⟩, Int.toNat_natCast]
  · rw [byL_take (l.drop k) (by omega), byL_drop]; rfl
theorem runeL_out {l : List UInt8} {p : Int} (h : ¬ (placeB l p = true ∧ p ≠ l.length)) : runeL l p = [] := by unfold runeL; rw [if_neg h]
theorem kindR_of (l : List UInt8) (p : Int) (big : Bool) : kindR (runeL l p) big = kindI l p big := by
  by_cases h : placeB l p = true ∧ p ≠ l.length
  · obtain ⟨h1, h2⟩ := h
    have h3 := h1
    unfold placeB at h3; simp only [Bool.and_eq_true, decide_eq_true_eq] at h3
    obtain ⟨k, rfl⟩ : ∃ k : Nat, p = k := ⟨p.toNat, by omega⟩
    have hk : k < l.length := by omega
    obtain ⟨n, hn, h1n, e1, e2, e3⟩ := runeL_at h1 hk
    have hc : clsI l k = ofB (byL l k) := by unfold clsI; rw [if_pos ⟨h1, by omega⟩, Int.toNat_natCast]
    obtain ⟨hz, _⟩ := sz_at h1 hk
    obtain ⟨_, h4, _, h5⟩ := szL_pos hz
    rw [byL_drop, Nat.add_zero, hn] at h4
    have hb0 := byL_lo l k
    have hb1 := byL_hi l k
    have key : n = 1 ↔ byL l k < 128 := by
      have : fSize (byL l k) = 1 ↔ byL l k < 128 := by unfold fSize; repeat' (first | omega | split)
      omega
    have hten : (l.drop k).take n = [10] ↔ byL l k = 10 := by
      constructor
      · intro e; rw [← e3, e]; rfl
      · intro e
        have : n = 1 := by omega
        subst this
        rw [List.drop_eq_getElem_cons hk]
        have := byL_ten hk
        rw [e] at this
        simp at this
        simp [this]
    rw [e1]
    unfold kindR kindI bigI
    rw [hc, if_neg (by intro e; rw [e] at e2; simp at e2; omega), e2, e3]
    simp only [hten]
    have hal : alnumB (byL l k) = true ↔ (lettB (byL l k) = true ∨ (48 ≤ byL l k ∧ byL l k ≤ 57) ∨ byL l k = 95) := by unfold alnumB; simp [or_assoc]
    simp only [hal]
    unfold ofB
    by_cases hP : lettB (byL l k) = true <;> cases big <;> simp [hP] <;> (repeat' split) <;> first | rfl | omega
  · rw [runeL_out h]
    have hc : clsI l p = 0 := by unfold clsI; rw [if_neg h]
    unfold kindI bigI; rw [hc]; cases big <;> rfl
theorem dnI_at {l : List UInt8} {c : Int} {big : Bool} {a m f : Nat} (h : a ≤ m) : dnI l c big a (m + 1) f = if placeB l m = true then (if kindI l m big = c then dnI l c big a m m else f) else dnI l c big a m f := by rw [dnI, if_neg (by omega)]
theorem dnI_stop (l : List UInt8) (c : Int) (big : Bool) (a f : Nat) : dnI l c big a a f = f := by
  cases a with
  | zero => rfl
  | succ n => rw [dnI, if_pos (by omega)]
theorem upI_at {l : List UInt8} {c : Int} {big : Bool} {e i : Nat} {t : Int} (h : i < e) : upI l c big (e - i) i t = if placeB l i = true then (if kindI l i big = c then upI l c big (e - (i + 1)) (i + 1) (nextI l i) else t) else upI l c big (e - (i + 1)) (i + 1) t := by
  rw [show e - i = (e - (i + 1)) + 1 by omega, upI]
end Go.Proofs.YtgapekdcoedmgaaDoor
/- The contracts of the packages class and calamusref05 in the printer's form. -/
namespace Go.Proofs.YtgapekdcoedmgaaDoor
open Go.RowKit
set_option linter.unusedVariables false
set_option linter.unusedSimpArgs false
def class_Of.f (a0 : ByteArray) (a1 : Int) : Option (Int) := if a0.size ≤ 1099511627775 then some (clsI (ls a0) a1) else none
theorem class_Of.eq (a0 : ByteArray) (a1 : Int) (hg : a0.size ≤ 1099511627775) : class_Of.f a0 a1 = some (clsI (ls a0) a1) := if_pos hg
theorem class_Of.calls (a0 : ByteArray) (a1 : Int) (r : Int) (w : World) (h : class_Of.f a0 a1 = some r) : Calls Tryd.prog 52 #[.string a0, .int .i64 a1] w fun e w' => e = .returned (.int .i64 r) ∧ Below w.heap.size w w' := by
  unfold class_Of.f at h
  split at h
  · cases h; exact cof_c a0 a1 w (by omega)
  · cases h
def class_Big.f (a0 : ByteArray) (a1 : Int) : Option (Int) := if a0.size ≤ 1099511627775 then some (bigI (ls a0) a1) else none
theorem class_Big.eq (a0 : ByteArray) (a1 : Int) (hg : a0.size ≤ 1099511627775) : class_Big.f a0 a1 = some (bigI (ls a0) a1) := if_pos hg
theorem class_Big.calls (a0 : ByteArray) (a1 : Int) (r : Int) (w : World) (h : class_Big.f a0 a1 = some r) : Calls Tryd.prog 53 #[.string a0, .int .i64 a1] w fun e w' => e = .returned (.int .i64 r) ∧ Below w.heap.size w w' := by
  unfold class_Big.f at h
  split at h
  · cases h; exact cbig_c a0 a1 w (by omega)
  · cases h
def class_Run.f (a0 : ByteArray) (a1 : Int) (a2 : Bool) : Option (Int × Int) := if a0.size ≤ 1099511627775 then some ((runI (ls a0) a1 a2).1, (runI (ls a0) a1 a2).2) else none
theorem class_Run.eq (a0 : ByteArray) (a1 : Int) (a2 : Bool) (hg : a0.size ≤ 1099511627775) : class_Run.f a0 a1 a2 = some ((runI (ls a0) a1 a2).1, (runI (ls a0) a1 a2).2) := if_pos hg
theorem class_Run.calls (a0 : ByteArray) (a1 : Int) (a2 : Bool) (r1 : Int) (r2 : Int) (w : World) (h : class_Run.f a0 a1 a2 = some (r1, r2)) : Calls Tryd.prog 28 #[.string a0, .int .i64 a1, .bool a2] w fun e w' => e = .returned (.tuple #[.int .i64 r1, .int .i64 r2]) ∧ Below w.heap.size w w' := by
  unfold class_Run.f at h
  split at h
  · cases h; exact crun_c a0 a1 a2 w (by omega)
  · cases h
def class_Up.f (a0 : ByteArray) : Option (ByteArray) := if a0.size ≤ 140737488351232 then some (upS a0) else none
theorem class_Up.eq (a0 : ByteArray) (hg : a0.size ≤ 140737488351232) : class_Up.f a0 = some (upS a0) := if_pos hg
theorem class_Up.calls (a0 : ByteArray) (r : ByteArray) (w : World) (h : class_Up.f a0 = some r) : Calls Tryd.prog 7 #[.string a0] w fun e w' => e = .returned (.string r) ∧ Below w.heap.size w w' := by
  unfold class_Up.f at h
  split at h
  · cases h; exact cup_c a0 w (by omega)
  · cases h
def class_Low.f (a0 : ByteArray) : Option (ByteArray) := if a0.size ≤ 140737488351232 then some (loS a0) else none
theorem class_Low.eq (a0 : ByteArray) (hg : a0.size ≤ 140737488351232) : class_Low.f a0 = some (loS a0) := if_pos hg
theorem class_Low.calls (a0 : ByteArray) (r : ByteArray) (w : World) (h : class_Low.f a0 = some r) : Calls Tryd.prog 9 #[.string a0] w fun e w' => e = .returned (.string r) ∧ Below w.heap.size w w' := by
  unfold class_Low.f at h
  split at h
  · cases h; exact clo_c a0 w (by omega)
  · cases h
def class_Flip.f (a0 : ByteArray) : Option (ByteArray) := if a0.size ≤ 140737488351232 then some (flS a0) else none
theorem class_Flip.eq (a0 : ByteArray) (hg : a0.size ≤ 140737488351232) : class_Flip.f a0 = some (flS a0) := if_pos hg
theorem class_Flip.calls (a0 : ByteArray) (r : ByteArray) (w : World) (h : class_Flip.f a0 = some r) : Calls Tryd.prog 11 #[.string a0] w fun e w' => e = .returned (.string r) ∧ Below w.heap.size w w' := by
  unfold class_Flip.f at h
  split at h
  · cases h; exact cfl_c a0 w (by omega)
  · cases h
end Go.Proofs.YtgapekdcoedmgaaDoor
/- The contract of calamusref05.in in the printer's form. -/
namespace Go.Proofs.YtgapekdcoedmgaaDoor
open Go.RowKit
set_option linter.unusedVariables false
set_option linter.unusedSimpArgs false
def calamusref05_in.f (a0 : ByteArray) (a1 : Int) : Option (Int) := if a0.size ≤ 1099511627775 then some (findF (bsI (ls a0)) a1 0) else none
theorem calamusref05_in.eq (a0 : ByteArray) (a1 : Int) (hg : a0.size ≤ 1099511627775) : calamusref05_in.f a0 a1 = some (findF (bsI (ls a0)) a1 0) := if_pos hg
theorem calamusref05_in.calls (a0 : ByteArray) (a1 : Int) (r : Int) (w : World) (h : calamusref05_in.f a0 a1 = some r) : Calls Tryd.prog 35 #[.string a0, .int .u8 a1] w fun e w' => e = .returned (.int .i64 r) ∧ Below w.heap.size w w' := by
  unfold calamusref05_in.f at h
  split at h
  · cases h; exact rin_c a0 a1 w (by omega)
  · cases h
end Go.Proofs.YtgapekdcoedmgaaDoor
-- Printed by this work's xp.py out of the translation. Lean checks it.
namespace Go.Proofs.YtgapekdcoedmgaaDoor.QD
open Go.RowKit Go.Proofs.YtgapekdcoedmgaaDoorW.PrintWords Go.Proofs.YtgapekdcoedmgaaDoorW.PrintLast Go.Proofs.YtgapekdcoedmgaaDoorW.PrintMore
attribute [local go_sem] max2_int min2_int max_two min_two max_three min_three max_four min_four   -- for this text's walks alone
set_option linter.unusedVariables false
set_option linter.unusedSimpArgs false



def errW : Option Int → Value
  | none => .nilIface
  | some c => .iface 0 (.int .i64 c)
theorem errW_none : errW none = .nilIface := rfl
theorem errW_some (c : Int) : errW (some c) = .iface 0 (.int .i64 c) := rfl

-- the values' own types

end Go.Proofs.YtgapekdcoedmgaaDoor.QD
-- Printed by this work's xp.py out of the translation. Lean checks it.
namespace Go.Proofs.YtgapekdcoedmgaaDoor.QD
open Go.RowKit Go.Proofs.YtgapekdcoedmgaaDoorW.PrintWords Go.Proofs.YtgapekdcoedmgaaDoorW.PrintLast Go.Proofs.YtgapekdcoedmgaaDoorW.PrintMore
attribute [local go_sem] max2_int min2_int max_two min_two max_three min_three max_four min_four   -- for this text's walks alone
set_option linter.unusedVariables false
set_option linter.unusedSimpArgs false



/-! ### calamuslaw05_lives -/
def calamuslaw05_lives.f  : Option (Bool) := (class_Run.f (⟨#[97, 98, 43, 32, 99]⟩ : ByteArray) 1 false).bind fun bt101 => ((class_Run.f (⟨#[97, 98, 43, 32, 99]⟩ : ByteArray) 1 true).bind fun bt103 => (if bt101.1 = 0 then (if bt101.2 = 2 then (if bt103.1 = 0 then (some (bt103.2 == 3)) else (some false)) else (some false)) else (some false)))
set_option maxHeartbeats 8000000 in
set_option maxRecDepth 100000 in
theorem calamuslaw05_lives.calls  (r : Bool) (w : World) (h : calamuslaw05_lives.f  = some r) :
    Calls Tryd.prog 6 #[] w fun e w' => e = .returned (.bool r) ∧ Below w.heap.size w w' := by
  have HB := Aside0.mk (Below.refl w.heap.size w)
  have H : ((class_Run.f (⟨#[97, 98, 43, 32, 99]⟩ : ByteArray) 1 false).bind fun bt101 => ((class_Run.f (⟨#[97, 98, 43, 32, 99]⟩ : ByteArray) 1 true).bind fun bt103 => (if bt101.1 = 0 then (if bt101.2 = 2 then (if bt103.1 = 0 then (some (bt103.2 == 3)) else (some false)) else (some false)) else (some false)))) = some r := h
  clear h
  replace H := Option.bind_eq_some_iff.mp H
  obtain ⟨⟨t101, t102⟩, A10, H⟩ := H
  replace H : ((class_Run.f (⟨#[97, 98, 43, 32, 99]⟩ : ByteArray) 1 true).bind fun bt103 => (if t101 = 0 then (if t102 = 2 then (if bt103.1 = 0 then (some (bt103.2 == 3)) else (some false)) else (some false)) else (some false))) = some r := H
  have A1 := Aside0.mk A10
  clear A10
  replace H := Option.bind_eq_some_iff.mp H
  obtain ⟨⟨t103, t104⟩, A20, H⟩ := H
  replace H : (if t101 = 0 then (if t102 = 2 then (if t103 = 0 then (some (t104 == 3)) else (some false)) else (some false)) else (some false)) = some r := H
  have A2 := Aside0.mk A20
  clear A20
  by_cases c3 : t101 = 0
  · rw [if_pos c3] at H
    have c3b0 : (t101 == 0) = true := beq_iff_eq.mpr c3
    have c3b1 : (t101 != 0) = false := bne_eq_false_iff_eq.mpr c3
    clear c3
    by_cases c4 : t102 = 2
    · rw [if_pos c4] at H
      have c4b0 : (t102 == 2) = true := beq_iff_eq.mpr c4
      have c4b1 : (t102 != 2) = false := bne_eq_false_iff_eq.mpr c4
      clear c4
      by_cases c5 : t103 = 0
      · rw [if_pos c5] at H
        have c5b0 : (t103 == 0) = true := beq_iff_eq.mpr c5
        have c5b1 : (t103 != 0) = false := bne_eq_false_iff_eq.mpr c5
        clear c5
        obtain rfl := Option.some.inj H
        go_enter Tryd.func6, Tryd.ntmps6
        go_wp2_with (first | ((with_reducible refine gate_callee (f := 28) rfl ?_); refine goesL_ (some 6) rfl rfl Tryd.func28 (by kernel_rfl) rfl #[.string (⟨#[97, 98, 43, 32, 99]⟩ : ByteArray), .int .i64 1, .bool false] rfl (by (try simp only [List.map_toArray, List.map_cons, List.map_nil]); first | done | rfl | (simp only [List.length_drop, List.length_take]; rfl)) ?_; (with_reducible refine (class_Run.calls (⟨#[97, 98, 43, 32, 99]⟩ : ByteArray) 1 false t101 t102 _ A1.out).mono ?_); rintro e w6 ⟨rfl, hb⟩; refine ⟨_, rfl, ?_⟩; have n0_ := Aside0.mk (below_step (by repeat (first | (with_reducible first | exact HB.out | apply below_alloc | apply pw_below_drewN | apply below_drew1) | exact HB.out)) hb); clear HB; have HB := n0_; clear n0_; (try clear hb); (try clear hb2); (try clear hk); (try clear hi)) | ((with_reducible refine gate_callee (f := 28) rfl ?_); refine goesL_ (some 10) rfl rfl Tryd.func28 (by kernel_rfl) rfl #[.string (⟨#[97, 98, 43, 32, 99]⟩ : ByteArray), .int .i64 1, .bool true] rfl (by (try simp only [List.map_toArray, List.map_cons, List.map_nil]); first | done | rfl | (simp only [List.length_drop, List.length_take]; rfl)) ?_; (with_reducible refine (class_Run.calls (⟨#[97, 98, 43, 32, 99]⟩ : ByteArray) 1 true t103 t104 _ A2.out).mono ?_); rintro e w7 ⟨rfl, hb⟩; refine ⟨_, rfl, ?_⟩; have n0_ := Aside0.mk (below_step (by repeat (first | (with_reducible first | exact HB.out | apply below_alloc | apply pw_below_drewN | apply below_drew1) | exact HB.out)) hb); clear HB; have HB := n0_; clear n0_; (try clear hb); (try clear hb2); (try clear hk); (try clear hi)))
        go_ret
        exact ⟨by first | rfl | (simp [errW_none, errW_some] <;> rfl) | (simp [*, errW_none, errW_some] <;> rfl), by repeat (first | (with_reducible first | exact HB.out | apply below_alloc | apply pw_below_drewN | apply below_drew1) | exact HB.out)⟩
      · rw [if_neg c5] at H
        have c5b0 : (t103 == 0) = false := beq_eq_false_iff_ne.mpr c5
        have c5b1 : (t103 != 0) = true := bne_iff_ne.mpr c5
        obtain rfl := Option.some.inj H
        go_enter Tryd.func6, Tryd.ntmps6
        go_wp2_with (first | ((with_reducible refine gate_callee (f := 28) rfl ?_); refine goesL_ (some 6) rfl rfl Tryd.func28 (by kernel_rfl) rfl #[.string (⟨#[97, 98, 43, 32, 99]⟩ : ByteArray), .int .i64 1, .bool false] rfl (by (try simp only [List.map_toArray, List.map_cons, List.map_nil]); first | done | rfl | (simp only [List.length_drop, List.length_take]; rfl)) ?_; (with_reducible refine (class_Run.calls (⟨#[97, 98, 43, 32, 99]⟩ : ByteArray) 1 false t101 t102 _ A1.out).mono ?_); rintro e w8 ⟨rfl, hb⟩; refine ⟨_, rfl, ?_⟩; have n0_ := Aside0.mk (below_step (by repeat (first | (with_reducible first | exact HB.out | apply below_alloc | apply pw_below_drewN | apply below_drew1) | exact HB.out)) hb); clear HB; have HB := n0_; clear n0_; (try clear hb); (try clear hb2); (try clear hk); (try clear hi)) | ((with_reducible refine gate_callee (f := 28) rfl ?_); refine goesL_ (some 10) rfl rfl Tryd.func28 (by kernel_rfl) rfl #[.string (⟨#[97, 98, 43, 32, 99]⟩ : ByteArray), .int .i64 1, .bool true] rfl (by (try simp only [List.map_toArray, List.map_cons, List.map_nil]); first | done | rfl | (simp only [List.length_drop, List.length_take]; rfl)) ?_; (with_reducible refine (class_Run.calls (⟨#[97, 98, 43, 32, 99]⟩ : ByteArray) 1 true t103 t104 _ A2.out).mono ?_); rintro e w9 ⟨rfl, hb⟩; refine ⟨_, rfl, ?_⟩; have n0_ := Aside0.mk (below_step (by repeat (first | (with_reducible first | exact HB.out | apply below_alloc | apply pw_below_drewN | apply below_drew1) | exact HB.out)) hb); clear HB; have HB := n0_; clear n0_; (try clear hb); (try clear hb2); (try clear hk); (try clear hi)))
        go_ret
        exact ⟨by first | rfl | (simp [errW_none, errW_some] <;> rfl) | (simp [*, errW_none, errW_some] <;> rfl), by repeat (first | (with_reducible first | exact HB.out | apply below_alloc | apply pw_below_drewN | apply below_drew1) | exact HB.out)⟩
    · rw [if_neg c4] at H
      have c4b0 : (t102 == 2) = false := beq_eq_false_iff_ne.mpr c4
      have c4b1 : (t102 != 2) = true := bne_iff_ne.mpr c4
      obtain rfl := Option.some.inj H
      go_enter Tryd.func6, Tryd.ntmps6
      go_wp2_with (first | ((with_reducible refine gate_callee (f := 28) rfl ?_); refine goesL_ (some 6) rfl rfl Tryd.func28 (by kernel_rfl) rfl #[.string (⟨#[97, 98, 43, 32, 99]⟩ : ByteArray), .int .i64 1, .bool false] rfl (by (try simp only [List.map_toArray, List.map_cons, List.map_nil]); first | done | rfl | (simp only [List.length_drop, List.length_take]; rfl)) ?_; (with_reducible refine (class_Run.calls (⟨#[97, 98, 43, 32, 99]⟩ : ByteArray) 1 false t101 t102 _ A1.out).mono ?_); rintro e w10 ⟨rfl, hb⟩; refine ⟨_, rfl, ?_⟩; have n0_ := Aside0.mk (below_step (by repeat (first | (with_reducible first | exact HB.out | apply below_alloc | apply pw_below_drewN | apply below_drew1) | exact HB.out)) hb); clear HB; have HB := n0_; clear n0_; (try clear hb); (try clear hb2); (try clear hk); (try clear hi)) | ((with_reducible refine gate_callee (f := 28) rfl ?_); refine goesL_ (some 10) rfl rfl Tryd.func28 (by kernel_rfl) rfl #[.string (⟨#[97, 98, 43, 32, 99]⟩ : ByteArray), .int .i64 1, .bool true] rfl (by (try simp only [List.map_toArray, List.map_cons, List.map_nil]); first | done | rfl | (simp only [List.length_drop, List.length_take]; rfl)) ?_; (with_reducible refine (class_Run.calls (⟨#[97, 98, 43, 32, 99]⟩ : ByteArray) 1 true t103 t104 _ A2.out).mono ?_); rintro e w11 ⟨rfl, hb⟩; refine ⟨_, rfl, ?_⟩; have n0_ := Aside0.mk (below_step (by repeat (first | (with_reducible first | exact HB.out | apply below_alloc | apply pw_below_drewN | apply below_drew1) | exact HB.out)) hb); clear HB; have HB := n0_; clear n0_; (try clear hb); (try clear hb2); (try clear hk); (try clear hi)))
      go_ret
      exact ⟨by first | rfl | (simp [errW_none, errW_some] <;> rfl) | (simp [*, errW_none, errW_some] <;> rfl), by repeat (first | (with_reducible first | exact HB.out | apply below_alloc | apply pw_below_drewN | apply below_drew1) | exact HB.out)⟩
  · rw [if_neg c3] at H
    have c3b0 : (t101 == 0) = false := beq_eq_false_iff_ne.mpr c3
    have c3b1 : (t101 != 0) = true := bne_iff_ne.mpr c3
    obtain rfl := Option.some.inj H
    go_enter Tryd.func6, Tryd.ntmps6
    go_wp2_with (first | ((with_reducible refine gate_callee (f := 28) rfl ?_); refine goesL_ (some 6) rfl rfl Tryd.func28 (by kernel_rfl) rfl #[.string (⟨#[97, 98, 43, 32, 99]⟩ : ByteArray), .int .i64 1, .bool false] rfl (by (try simp only [List.map_toArray, List.map_cons, List.map_nil]); first | done | rfl | (simp only [List.length_drop, List.length_take]; rfl)) ?_; (with_reducible refine (class_Run.calls (⟨#[97, 98, 43, 32, 99]⟩ : ByteArray) 1 false t101 t102 _ A1.out).mono ?_); rintro e w12 ⟨rfl, hb⟩; refine ⟨_, rfl, ?_⟩; have n0_ := Aside0.mk (below_step (by repeat (first | (with_reducible first | exact HB.out | apply below_alloc | apply pw_below_drewN | apply below_drew1) | exact HB.out)) hb); clear HB; have HB := n0_; clear n0_; (try clear hb); (try clear hb2); (try clear hk); (try clear hi)) | ((with_reducible refine gate_callee (f := 28) rfl ?_); refine goesL_ (some 10) rfl rfl Tryd.func28 (by kernel_rfl) rfl #[.string (⟨#[97, 98, 43, 32, 99]⟩ : ByteArray), .int .i64 1, .bool true] rfl (by (try simp only [List.map_toArray, List.map_cons, List.map_nil]); first | done | rfl | (simp only [List.length_drop, List.length_take]; rfl)) ?_; (with_reducible refine (class_Run.calls (⟨#[97, 98, 43, 32, 99]⟩ : ByteArray) 1 true t103 t104 _ A2.out).mono ?_); rintro e w13 ⟨rfl, hb⟩; refine ⟨_, rfl, ?_⟩; have n0_ := Aside0.mk (below_step (by repeat (first | (with_reducible first | exact HB.out | apply below_alloc | apply pw_below_drewN | apply below_drew1) | exact HB.out)) hb); clear HB; have HB := n0_; clear n0_; (try clear hb); (try clear hb2); (try clear hk); (try clear hi)))
    go_ret
    exact ⟨by first | rfl | (simp [errW_none, errW_some] <;> rfl) | (simp [*, errW_none, errW_some] <;> rfl), by repeat (first | (with_reducible first | exact HB.out | apply below_alloc | apply pw_below_drewN | apply below_drew1) | exact HB.out)⟩



/-! ### calamusref05_swap -/
def calamusref05_swap.l0 : Nat → ByteArray → ByteArray → ByteArray → ByteArray → Int → Option (ByteArray)
  | 0, _, _, _, _, _ => none
  | k + 1, x0, x1, x2, x7, x8 => if x8 < (x0.size : Int) then (if 0 ≤ x8 then ((calamusref05_in.f x1 (bt x0 x8)).bind fun t105 => (if t105 ≥ 0 then (if 0 ≤ t105 then (if t105 ≤ (wrap64 (t105 + 1)) then (if (wrap64 (t105 + 1)) ≤ (x2.size : Int) then (if x7.size + (x2.extract (t105 : Int).toNat ((wrap64 (t105 + 1)) : Int).toNat).size ≤ 9223372036854775807 then (calamusref05_swap.l0 k x0 x1 x2 (x7 ++ (x2.extract (t105 : Int).toNat ((wrap64 (t105 + 1)) : Int).toNat)) (wrap64 (x8 + 1))) else (none)) else (none)) else (none)) else (none)) else (if x8 ≤ (wrap64 (x8 + 1)) then (if (wrap64 (x8 + 1)) ≤ (x0.size : Int) then (if x7.size + (x0.extract (x8 : Int).toNat ((wrap64 (x8 + 1)) : Int).toNat).size ≤ 9223372036854775807 then (calamusref05_swap.l0 k x0 x1 x2 (x7 ++ (x0.extract (x8 : Int).toNat ((wrap64 (x8 + 1)) : Int).toNat)) (wrap64 (x8 + 1))) else (none)) else (none)) else (none)))) else (none)) else (some x7)
def calamusref05_swap.f (k : Nat) (a0 : ByteArray) (a1 : ByteArray) (a2 : ByteArray) : Option (ByteArray) := calamusref05_swap.l0 k a0 a1 a2 (⟨#[]⟩ : ByteArray) 0
theorem calamusref05_swap.mono_l : ∀ k, (∀ y0 y1 y2 y3 y4, LeO (calamusref05_swap.l0 k y0 y1 y2 y3 y4) (calamusref05_swap.l0 (k + 1) y0 y1 y2 y3 y4))
  | 0 => fun _ _ _ _ _ r h => by simp [calamusref05_swap.l0] at h
  | k + 1 => by
    have ih0 := calamusref05_swap.mono_l k
    · intro y0 y1 y2 y3 y4
      unfold calamusref05_swap.l0
      repeat' first
      | (with_reducible exact ih0 _ _ _ _ _)
      | (with_reducible exact LeO.refl _)
      | (with_reducible exact LeO.none _)
      | (with_reducible refine LeO.ite ?_ ?_)
      | (with_reducible refine LeO.bind ?_ (fun _ => ?_))
      | exact ih0 _ _ _ _ _
      | exact LeO.none _
      | refine LeO.ite ?_ ?_
      | refine LeO.bind ?_ (fun _ => ?_)
theorem calamusref05_swap.mono : ∀ a0 a1 a2 k, LeO (calamusref05_swap.f k a0 a1 a2) (calamusref05_swap.f (k + 1) a0 a1 a2) := by
  intro a0 a1 a2 k
  have ih0 := calamusref05_swap.mono_l k
  unfold calamusref05_swap.f
  repeat' first
      | (with_reducible exact ih0 _ _ _ _ _)
      | (with_reducible exact LeO.refl _)
      | (with_reducible exact LeO.none _)
      | (with_reducible refine LeO.ite ?_ ?_)
      | (with_reducible refine LeO.bind ?_ (fun _ => ?_))
      | exact ih0 _ _ _ _ _
      | exact LeO.none _
      | refine LeO.ite ?_ ?_
      | refine LeO.bind ?_ (fun _ => ?_)
set_option maxHeartbeats 8000000 in
set_option maxRecDepth 100000 in
theorem calamusref05_swap.calls (k : Nat) (a0 : ByteArray) (a1 : ByteArray) (a2 : ByteArray) (r : ByteArray) (w : World) (h : calamusref05_swap.f k a0 a1 a2 = some r) :
    Calls Tryd.prog 31 #[.string a0, .string a1, .string a2] w fun e w' => e = .returned (.string r) ∧ Below w.heap.size w w' := by
  have HB := Aside0.mk (Below.refl w.heap.size w)
  have H : (calamusref05_swap.l0 k a0 a1 a2 (⟨#[]⟩ : ByteArray) 0) = some r := h
  clear h
  have H' := Aside0.mk H
  clear H
  go_enter Tryd.func31, Tryd.ntmps31
  go_wp2
  go_loopg [7, 8] k (fun kq v7 v8 w' => ∃ (x7_1 : ByteArray) (x8_1 : Int), v7 = .string x7_1 ∧ v8 = .int .i64 x8_1 ∧ Aside0 (calamusref05_swap.l0 kq a0 a1 a2 x7_1 x8_1 = some r) ∧ Aside0 (kq ≤ k) ∧ Aside0 (Below w.heap.size w w'))
  case atStart => exact ⟨((⟨#[]⟩ : ByteArray)), (0), (by first | rfl | (simp; done) | (simp [*]; done)), (by first | rfl | (simp; done) | (simp [*]; done)), H', ⟨Nat.le_refl _⟩, ⟨by repeat (first | (with_reducible first | exact HB.out | apply below_alloc | apply pw_below_drewN | apply below_drew1) | exact HB.out)⟩⟩
  case round =>
    clear H'
    try clear p2
    try clear c3
    obtain ⟨x7_1, x8_1, rfl, rfl, HA, HK1, HB⟩ := hrel
    cases gk with
    | zero => exact absurd HA.out (by simp [calamusref05_swap.l0])
    | succ k1 =>
      have H := HA.out
      clear HA
      simp only [calamusref05_swap.l0] at H
      by_cases c4 : x8_1 < (a0.size : Int)
      · rw [if_pos c4] at H
        have c4b0 : decide (x8_1 < (a0.size : Int)) = true := decide_eq_true c4
        clear c4
        by_cases c5 : 0 ≤ x8_1
        · rw [if_pos c5] at H
          have c5b0 : decide (0 ≤ x8_1) = true := decide_eq_true c5
          clear c5
          replace H := Option.bind_eq_some_iff.mp H
          obtain ⟨t105, A70, H⟩ := H
          replace H : (if t105 ≥ 0 then (if 0 ≤ t105 then (if t105 ≤ (wrap64 (t105 + 1)) then (if (wrap64 (t105 + 1)) ≤ (a2.size : Int) then (if x7_1.size + (a2.extract (t105 : Int).toNat ((wrap64 (t105 + 1)) : Int).toNat).size ≤ 9223372036854775807 then (calamusref05_swap.l0 k1 a0 a1 a2 (x7_1 ++ (a2.extract (t105 : Int).toNat ((wrap64 (t105 + 1)) : Int).toNat)) (wrap64 (x8_1 + 1))) else (none)) else (none)) else (none)) else (none)) else (if x8_1 ≤ (wrap64 (x8_1 + 1)) then (if (wrap64 (x8_1 + 1)) ≤ (a0.size : Int) then (if x7_1.size + (a0.extract (x8_1 : Int).toNat ((wrap64 (x8_1 + 1)) : Int).toNat).size ≤ 9223372036854775807 then (calamusref05_swap.l0 k1 a0 a1 a2 (x7_1 ++ (a0.extract (x8_1 : Int).toNat ((wrap64 (x8_1 + 1)) : Int).toNat)) (wrap64 (x8_1 + 1))) else (none)) else (none)) else (none))) = some r := H
          have A7 := Aside0.mk A70
          clear A70
          by_cases c8 : t105 ≥ 0
          · rw [if_pos c8] at H
            have c8b0 : decide (0 ≤ t105) = true := decide_eq_true c8
            clear c8
            by_cases c9 : 0 ≤ t105
            · rw [if_pos c9] at H
              have c9b0 := eq_true c9
              have c9b1 : decide (0 ≤ t105) = true := decide_eq_true c9
              clear c9
              by_cases c10 : t105 ≤ (wrap64 (t105 + 1))
              · rw [if_pos c10] at H
                have c10b0 := eq_true c10
                have c10b1 : decide (t105 ≤ (wrap64 (t105 + 1))) = true := decide_eq_true c10
                by_cases c11 : (wrap64 (t105 + 1)) ≤ (a2.size : Int)
                · rw [if_pos c11] at H
                  have c11b0 := eq_true c11
                  have c11b1 : decide ((wrap64 (t105 + 1)) ≤ (a2.size : Int)) = true := decide_eq_true c11
                  by_cases c12 : x7_1.size + (a2.extract (t105 : Int).toNat ((wrap64 (t105 + 1)) : Int).toNat).size ≤ 9223372036854775807
                  · rw [if_pos c12] at H
                    have c12b0 := eq_true c12
                    have c12b1 : decide (x7_1.size + (a2.extract (t105 : Int).toNat ((wrap64 (t105 + 1)) : Int).toNat).size ≤ 9223372036854775807) = true := decide_eq_true c12
                    try have c12b2 : (9223372036854775807 < x7_1.size + (a2.extract (t105 : Int).toNat ((wrap64 (t105 + 1)) : Int).toNat).size) = False := eq_false (Nat.not_lt.2 c12)
                    have H' := Aside0.mk H
                    clear H
                    have p6 : 0 ≤ (x8_1 : Int) := of_decide_eq_true (by first | (with_reducible assumption) | assumption)
                    have q6 : x8_1 < (a0.size : Int) := of_decide_eq_true (by first | (with_reducible assumption) | assumption)
                    have hx6 := bt_at a0 x8_1
                    replace p6 := eq_true p6
                    replace q6 := eq_true q6
                    go_wp2_with (first | ((with_reducible refine gate_callee (f := 35) rfl ?_); refine goesL_ (some 20) rfl rfl Tryd.func35 (by kernel_rfl) rfl #[.string a1, .int .u8 (bt a0 x8_1)] rfl (by (try simp only [List.map_toArray, List.map_cons, List.map_nil]); first | done | rfl | (simp only [List.length_drop, List.length_take]; rfl)) ?_; (with_reducible refine (calamusref05_in.calls a1 (bt a0 x8_1) t105 _ A7.out).mono ?_); rintro e w13 ⟨rfl, hb⟩; refine ⟨_, rfl, ?_⟩; have n0_ := Aside0.mk (below_step (by repeat (first | (with_reducible first | exact HB.out | apply below_alloc | apply pw_below_drewN | apply below_drew1) | exact HB.out)) hb); clear HB; have HB := n0_; clear n0_; (try clear hb); (try clear hb2); (try clear hk); (try clear hi)))
                    go_roundg k1
                    case measure => have := HK1.out; omega
                    case rel => exact ⟨(x7_1 ++ (a2.extract (t105 : Int).toNat ((wrap64 (t105 + 1)) : Int).toNat)), (wrap64 (x8_1 + 1)), (by first | rfl | (simp; done) | (simp [*]; done)), (by first | rfl | (simp; done) | (simp [*]; done)), H', ⟨by have := HK1.out; omega⟩, ⟨by repeat (first | (with_reducible first | exact HB.out | apply below_alloc | apply pw_below_drewN | apply below_drew1) | exact HB.out)⟩⟩
                  · rw [if_neg c12] at H
                    exact absurd H (by simp)
                · rw [if_neg c11] at H
                  exact absurd H (by simp)
              · rw [if_neg c10] at H
                exact absurd H (by simp)
            · rw [if_neg c9] at H
              exact absurd H (by simp)
          · rw [if_neg c8] at H
            have c8b0 : decide (0 ≤ t105) = false := decide_eq_false c8
            clear c8
            have c14b0 := eq_true (of_decide_eq_true (by first | (with_reducible assumption) | assumption) : 0 ≤ x8_1)
            by_cases c15 : x8_1 ≤ (wrap64 (x8_1 + 1))
            · rw [if_pos c15] at H
              have c15b0 := eq_true c15
              have c15b1 : decide (x8_1 ≤ (wrap64 (x8_1 + 1))) = true := decide_eq_true c15
              by_cases c16 : (wrap64 (x8_1 + 1)) ≤ (a0.size : Int)
              · rw [if_pos c16] at H
                have c16b0 := eq_true c16
                have c16b1 : decide ((wrap64 (x8_1 + 1)) ≤ (a0.size : Int)) = true := decide_eq_true c16
                by_cases c17 : x7_1.size + (a0.extract (x8_1 : Int).toNat ((wrap64 (x8_1 + 1)) : Int).toNat).size ≤ 9223372036854775807
                · rw [if_pos c17] at H
                  have c17b0 := eq_true c17
                  have c17b1 : decide (x7_1.size + (a0.extract (x8_1 : Int).toNat ((wrap64 (x8_1 + 1)) : Int).toNat).size ≤ 9223372036854775807) = true := decide_eq_true c17
                  try have c17b2 : (9223372036854775807 < x7_1.size + (a0.extract (x8_1 : Int).toNat ((wrap64 (x8_1 + 1)) : Int).toNat).size) = False := eq_false (Nat.not_lt.2 c17)
                  have H' := Aside0.mk H
                  clear H
                  have p6 : 0 ≤ (x8_1 : Int) := of_decide_eq_true (by first | (with_reducible assumption) | assumption)
                  have q6 : x8_1 < (a0.size : Int) := of_decide_eq_true (by first | (with_reducible assumption) | assumption)
                  have hx6 := bt_at a0 x8_1
                  replace p6 := eq_true p6
                  replace q6 := eq_true q6
                  go_wp2_with (first | ((with_reducible refine gate_callee (f := 35) rfl ?_); refine goesL_ (some 20) rfl rfl Tryd.func35 (by kernel_rfl) rfl #[.string a1, .int .u8 (bt a0 x8_1)] rfl (by (try simp only [List.map_toArray, List.map_cons, List.map_nil]); first | done | rfl | (simp only [List.length_drop, List.length_take]; rfl)) ?_; (with_reducible refine (calamusref05_in.calls a1 (bt a0 x8_1) t105 _ A7.out).mono ?_); rintro e w18 ⟨rfl, hb⟩; refine ⟨_, rfl, ?_⟩; have n0_ := Aside0.mk (below_step (by repeat (first | (with_reducible first | exact HB.out | apply below_alloc | apply pw_below_drewN | apply below_drew1) | exact HB.out)) hb); clear HB; have HB := n0_; clear n0_; (try clear hb); (try clear hb2); (try clear hk); (try clear hi)))
                  go_roundg k1
                  case measure => have := HK1.out; omega
                  case rel => exact ⟨(x7_1 ++ (a0.extract (x8_1 : Int).toNat ((wrap64 (x8_1 + 1)) : Int).toNat)), (wrap64 (x8_1 + 1)), (by first | rfl | (simp; done) | (simp [*]; done)), (by first | rfl | (simp; done) | (simp [*]; done)), H', ⟨by have := HK1.out; omega⟩, ⟨by repeat (first | (with_reducible first | exact HB.out | apply below_alloc | apply pw_below_drewN | apply below_drew1) | exact HB.out)⟩⟩
                · rw [if_neg c17] at H
                  exact absurd H (by simp)
              · rw [if_neg c16] at H
                exact absurd H (by simp)
            · rw [if_neg c15] at H
              exact absurd H (by simp)
        · rw [if_neg c5] at H
          exact absurd H (by simp)
      · rw [if_neg c4] at H
        have c4b0 : decide (x8_1 < (a0.size : Int)) = false := decide_eq_false c4
        clear c4
        obtain rfl := Option.some.inj H
        go_wp2
        go_ret
        exact ⟨by first | rfl | (simp [errW_none, errW_some] <;> rfl) | (simp [*, errW_none, errW_some] <;> rfl), by repeat (first | (with_reducible first | exact HB.out | apply below_alloc | apply pw_below_drewN | apply below_drew1) | exact HB.out)⟩

/-! ### calamusref05_Up -/
def calamusref05_Up.f (k : Nat) (a0 : ByteArray) : Option (ByteArray) := (calamusref05_swap.f k a0 (⟨#[97, 98, 99, 100, 101, 102, 103, 104, 105, 106, 107, 108, 109, 110, 111, 112, 113, 114, 115, 116, 117, 118, 119, 120, 121, 122]⟩ : ByteArray) (⟨#[65, 66, 67, 68, 69, 70, 71, 72, 73, 74, 75, 76, 77, 78, 79, 80, 81, 82, 83, 84, 85, 86, 87, 88, 89, 90]⟩ : ByteArray)).bind fun t106 => (some t106)
theorem calamusref05_Up.mono : ∀ a0 k, LeO (calamusref05_Up.f k a0) (calamusref05_Up.f (k + 1) a0) := by
  intro a0 k
  unfold calamusref05_Up.f
  repeat' first
      | (with_reducible exact calamusref05_swap.mono _ _ _ _)
      | (with_reducible exact LeO.refl _)
      | (with_reducible exact LeO.none _)
      | (with_reducible refine LeO.ite ?_ ?_)
      | (with_reducible refine LeO.bind ?_ (fun _ => ?_))
      | exact calamusref05_swap.mono _ _ _ _
      | exact LeO.none _
      | refine LeO.ite ?_ ?_
      | refine LeO.bind ?_ (fun _ => ?_)
set_option maxHeartbeats 8000000 in
set_option maxRecDepth 100000 in
theorem calamusref05_Up.calls (k : Nat) (a0 : ByteArray) (r : ByteArray) (w : World) (h : calamusref05_Up.f k a0 = some r) :
    Calls Tryd.prog 8 #[.string a0] w fun e w' => e = .returned (.string r) ∧ Below w.heap.size w w' := by
  have HB := Aside0.mk (Below.refl w.heap.size w)
  have H : ((calamusref05_swap.f k a0 (⟨#[97, 98, 99, 100, 101, 102, 103, 104, 105, 106, 107, 108, 109, 110, 111, 112, 113, 114, 115, 116, 117, 118, 119, 120, 121, 122]⟩ : ByteArray) (⟨#[65, 66, 67, 68, 69, 70, 71, 72, 73, 74, 75, 76, 77, 78, 79, 80, 81, 82, 83, 84, 85, 86, 87, 88, 89, 90]⟩ : ByteArray)).bind fun t106 => (some t106)) = some r := h
  clear h
  replace H := Option.bind_eq_some_iff.mp H
  obtain ⟨t106, A20, H⟩ := H
  replace H : (some t106) = some r := H
  have A2 := Aside0.mk A20
  clear A20
  obtain rfl := Option.some.inj H
  go_enter Tryd.func8, Tryd.ntmps8
  go_wp2_with (first | ((with_reducible refine gate_callee (f := 31) rfl ?_); refine goesL_ (some 4) rfl rfl Tryd.func31 (by kernel_rfl) rfl #[.string a0, .string (⟨#[97, 98, 99, 100, 101, 102, 103, 104, 105, 106, 107, 108, 109, 110, 111, 112, 113, 114, 115, 116, 117, 118, 119, 120, 121, 122]⟩ : ByteArray), .string (⟨#[65, 66, 67, 68, 69, 70, 71, 72, 73, 74, 75, 76, 77, 78, 79, 80, 81, 82, 83, 84, 85, 86, 87, 88, 89, 90]⟩ : ByteArray)] rfl (by (try simp only [List.map_toArray, List.map_cons, List.map_nil]); first | done | rfl | (simp only [List.length_drop, List.length_take]; rfl)) ?_; (with_reducible refine (calamusref05_swap.calls k a0 (⟨#[97, 98, 99, 100, 101, 102, 103, 104, 105, 106, 107, 108, 109, 110, 111, 112, 113, 114, 115, 116, 117, 118, 119, 120, 121, 122]⟩ : ByteArray) (⟨#[65, 66, 67, 68, 69, 70, 71, 72, 73, 74, 75, 76, 77, 78, 79, 80, 81, 82, 83, 84, 85, 86, 87, 88, 89, 90]⟩ : ByteArray) t106 _ A2.out).mono ?_); rintro e w3 ⟨rfl, hb⟩; refine ⟨_, rfl, ?_⟩; have n0_ := Aside0.mk (below_step (by repeat (first | (with_reducible first | exact HB.out | apply below_alloc | apply pw_below_drewN | apply below_drew1) | exact HB.out)) hb); clear HB; have HB := n0_; clear n0_; (try clear hb); (try clear hb2); (try clear hk); (try clear hi)))
  go_ret
  exact ⟨by first | rfl | (simp [errW_none, errW_some] <;> rfl) | (simp [*, errW_none, errW_some] <;> rfl), by repeat (first | (with_reducible first | exact HB.out | apply below_alloc | apply pw_below_drewN | apply below_drew1) | exact HB.out)⟩


/-! ### calamusref05_Low -/
def calamusref05_Low.f (k : Nat) (a0 : ByteArray) : Option (ByteArray) := (calamusref05_swap.f k a0 (⟨#[65, 66, 67, 68, 69, 70, 71, 72, 73, 74, 75, 76, 77, 78, 79, 80, 81, 82, 83, 84, 85, 86, 87, 88, 89, 90]⟩ : ByteArray) (⟨#[97, 98, 99, 100, 101, 102, 103, 104, 105, 106, 107, 108, 109, 110, 111, 112, 113, 114, 115, 116, 117, 118, 119, 120, 121, 122]⟩ : ByteArray)).bind fun t107 => (some t107)
theorem calamusref05_Low.mono : ∀ a0 k, LeO (calamusref05_Low.f k a0) (calamusref05_Low.f (k + 1) a0) := by
  intro a0 k
  unfold calamusref05_Low.f
  repeat' first
      | (with_reducible exact calamusref05_swap.mono _ _ _ _)
      | (with_reducible exact LeO.refl _)
      | (with_reducible exact LeO.none _)
      | (with_reducible refine LeO.ite ?_ ?_)
      | (with_reducible refine LeO.bind ?_ (fun _ => ?_))
      | exact calamusref05_swap.mono _ _ _ _
      | exact LeO.none _
      | refine LeO.ite ?_ ?_
      | refine LeO.bind ?_ (fun _ => ?_)
set_option maxHeartbeats 8000000 in
set_option maxRecDepth 100000 in
theorem calamusref05_Low.calls (k : Nat) (a0 : ByteArray) (r : ByteArray) (w : World) (h : calamusref05_Low.f k a0 = some r) :
    Calls Tryd.prog 10 #[.string a0] w fun e w' => e = .returned (.string r) ∧ Below w.heap.size w w' := by
  have HB := Aside0.mk (Below.refl w.heap.size w)
  have H : ((calamusref05_swap.f k a0 (⟨#[65, 66, 67, 68, 69, 70, 71, 72, 73, 74, 75, 76, 77, 78, 79, 80, 81, 82, 83, 84, 85, 86, 87, 88, 89, 90]⟩ : ByteArray) (⟨#[97, 98, 99, 100, 101, 102, 103, 104, 105, 106, 107, 108, 109, 110, 111, 112, 113, 114, 115, 116, 117, 118, 119, 120, 121, 122]⟩ : ByteArray)).bind fun t107 => (some t107)) = some r := h
  clear h
  replace H := Option.bind_eq_some_iff.mp H
  obtain ⟨t107, A20, H⟩ := H
  replace H : (some t107) = some r := H
  have A2 := Aside0.mk A20
  clear A20
  obtain rfl := Option.some.inj H
  go_enter Tryd.func10, Tryd.ntmps10
  go_wp2_with (first | ((with_reducible refine gate_callee (f := 31) rfl ?_); refine goesL_ (some 4) rfl rfl Tryd.func31 (by kernel_rfl) rfl #[.string a0, .string (⟨#[65, 66, 67, 68, 69, 70, 71, 72, 73, 74, 75, 76, 77, 78, 79, 80, 81, 82, 83, 84, 85, 86, 87, 88, 89, 90]⟩ : ByteArray), .string (⟨#[97, 98, 99, 100, 101, 102, 103, 104, 105, 106, 107, 108, 109, 110, 111, 112, 113, 114, 115, 116, 117, 118, 119, 120, 121, 122]⟩ : ByteArray)] rfl (by (try simp only [List.map_toArray, List.map_cons, List.map_nil]); first | done | rfl | (simp only [List.length_drop, List.length_take]; rfl)) ?_; (with_reducible refine (calamusref05_swap.calls k a0 (⟨#[65, 66, 67, 68, 69, 70, 71, 72, 73, 74, 75, 76, 77, 78, 79, 80, 81, 82, 83, 84, 85, 86, 87, 88, 89, 90]⟩ : ByteArray) (⟨#[97, 98, 99, 100, 101, 102, 103, 104, 105, 106, 107, 108, 109, 110, 111, 112, 113, 114, 115, 116, 117, 118, 119, 120, 121, 122]⟩ : ByteArray) t107 _ A2.out).mono ?_); rintro e w3 ⟨rfl, hb⟩; refine ⟨_, rfl, ?_⟩; have n0_ := Aside0.mk (below_step (by repeat (first | (with_reducible first | exact HB.out | apply below_alloc | apply pw_below_drewN | apply below_drew1) | exact HB.out)) hb); clear HB; have HB := n0_; clear n0_; (try clear hb); (try clear hb2); (try clear hk); (try clear hi)))
  go_ret
  exact ⟨by first | rfl | (simp [errW_none, errW_some] <;> rfl) | (simp [*, errW_none, errW_some] <;> rfl), by repeat (first | (with_reducible first | exact HB.out | apply below_alloc | apply pw_below_drewN | apply below_drew1) | exact HB.out)⟩


/-! ### calamusref05_Flip -/
def calamusref05_Flip.f (k : Nat) (a0 : ByteArray) : Option (ByteArray) := (calamusref05_swap.f k a0 (⟨#[97, 98, 99, 100, 101, 102, 103, 104, 105, 106, 107, 108, 109, 110, 111, 112, 113, 114, 115, 116, 117, 118, 119, 120, 121, 122, 65, 66, 67, 68, 69, 70, 71, 72, 73, 74, 75, 76, 77, 78, 79, 80, 81, 82, 83, 84, 85, 86, 87, 88, 89, 90]⟩ : ByteArray) (⟨#[65, 66, 67, 68, 69, 70, 71, 72, 73, 74, 75, 76, 77, 78, 79, 80, 81, 82, 83, 84, 85, 86, 87, 88, 89, 90, 97, 98, 99, 100, 101, 102, 103, 104, 105, 106, 107, 108, 109, 110, 111, 112, 113, 114, 115, 116, 117, 118, 119, 120, 121, 122]⟩ : ByteArray)).bind fun t108 => (some t108)
theorem calamusref05_Flip.mono : ∀ a0 k, LeO (calamusref05_Flip.f k a0) (calamusref05_Flip.f (k + 1) a0) := by
  intro a0 k
  unfold calamusref05_Flip.f
  repeat' first
      | (with_reducible exact calamusref05_swap.mono _ _ _ _)
      | (with_reducible exact LeO.refl _)
      | (with_reducible exact LeO.none _)
      | (with_reducible refine LeO.ite ?_ ?_)
      | (with_reducible refine LeO.bind ?_ (fun _ => ?_))
      | exact calamusref05_swap.mono _ _ _ _
      | exact LeO.none _
      | refine LeO.ite ?_ ?_
      | refine LeO.bind ?_ (fun _ => ?_)
set_option maxHeartbeats 8000000 in
set_option maxRecDepth 100000 in
theorem calamusref05_Flip.calls (k : Nat) (a0 : ByteArray) (r : ByteArray) (w : World) (h : calamusref05_Flip.f k a0 = some r) :
    Calls Tryd.prog 12 #[.string a0] w fun e w' => e = .returned (.string r) ∧ Below w.heap.size w w' := by
  have HB := Aside0.mk (Below.refl w.heap.size w)
  have H : ((calamusref05_swap.f k a0 (⟨#[97, 98, 99, 100, 101, 102, 103, 104, 105, 106, 107, 108, 109, 110, 111, 112, 113, 114, 115, 116, 117, 118, 119, 120, 121, 122, 65, 66, 67, 68, 69, 70, 71, 72, 73, 74, 75, 76, 77, 78, 79, 80, 81, 82, 83, 84, 85, 86, 87, 88, 89, 90]⟩ : ByteArray) (⟨#[65, 66, 67, 68, 69, 70, 71, 72, 73, 74, 75, 76, 77, 78, 79, 80, 81, 82, 83, 84, 85, 86, 87, 88, 89, 90, 97, 98, 99, 100, 101, 102, 103, 104, 105, 106, 107, 108, 109, 110, 111, 112, 113, 114, 115, 116, 117, 118, 119, 120, 121, 122]⟩ : ByteArray)).bind fun t108 => (some t108)) = some r := h
  clear h
  replace H := Option.bind_eq_some_iff.mp H
  obtain ⟨t108, A20, H⟩ := H
  replace H : (some t108) = some r := H
  have A2 := Aside0.mk A20
  clear A20
  obtain rfl := Option.some.inj H
  go_enter Tryd.func12, Tryd.ntmps12
  go_wp2_with (first | ((with_reducible refine gate_callee (f := 31) rfl ?_); refine goesL_ (some 4) rfl rfl Tryd.func31 (by kernel_rfl) rfl #[.string a0, .string (⟨#[97, 98, 99, 100, 101, 102, 103, 104, 105, 106, 107, 108, 109, 110, 111, 112, 113, 114, 115, 116, 117, 118, 119, 120, 121, 122, 65, 66, 67, 68, 69, 70, 71, 72, 73, 74, 75, 76, 77, 78, 79, 80, 81, 82, 83, 84, 85, 86, 87, 88, 89, 90]⟩ : ByteArray), .string (⟨#[65, 66, 67, 68, 69, 70, 71, 72, 73, 74, 75, 76, 77, 78, 79, 80, 81, 82, 83, 84, 85, 86, 87, 88, 89, 90, 97, 98, 99, 100, 101, 102, 103, 104, 105, 106, 107, 108, 109, 110, 111, 112, 113, 114, 115, 116, 117, 118, 119, 120, 121, 122]⟩ : ByteArray)] rfl (by (try simp only [List.map_toArray, List.map_cons, List.map_nil]); first | done | rfl | (simp only [List.length_drop, List.length_take]; rfl)) ?_; (with_reducible refine (calamusref05_swap.calls k a0 (⟨#[97, 98, 99, 100, 101, 102, 103, 104, 105, 106, 107, 108, 109, 110, 111, 112, 113, 114, 115, 116, 117, 118, 119, 120, 121, 122, 65, 66, 67, 68, 69, 70, 71, 72, 73, 74, 75, 76, 77, 78, 79, 80, 81, 82, 83, 84, 85, 86, 87, 88, 89, 90]⟩ : ByteArray) (⟨#[65, 66, 67, 68, 69, 70, 71, 72, 73, 74, 75, 76, 77, 78, 79, 80, 81, 82, 83, 84, 85, 86, 87, 88, 89, 90, 97, 98, 99, 100, 101, 102, 103, 104, 105, 106, 107, 108, 109, 110, 111, 112, 113, 114, 115, 116, 117, 118, 119, 120, 121, 122]⟩ : ByteArray) t108 _ A2.out).mono ?_); rintro e w3 ⟨rfl, hb⟩; refine ⟨_, rfl, ?_⟩; have n0_ := Aside0.mk (below_step (by repeat (first | (with_reducible first | exact HB.out | apply below_alloc | apply pw_below_drewN | apply below_drew1) | exact HB.out)) hb); clear HB; have HB := n0_; clear n0_; (try clear hb); (try clear hb2); (try clear hk); (try clear hi)))
  go_ret
  exact ⟨by first | rfl | (simp [errW_none, errW_some] <;> rfl) | (simp [*, errW_none, errW_some] <;> rfl), by repeat (first | (with_reducible first | exact HB.out | apply below_alloc | apply pw_below_drewN | apply below_drew1) | exact HB.out)⟩


/-! ### class_Lead -/
def class_Lead.f (a0 : ByteArray) : Option (Int) := (strings_TrimLeft.f a0 (⟨#[32, 9]⟩ : ByteArray)).bind fun t109 => (some (wrap64 ((a0.size : Int) - (t109.size : Int))))
set_option maxHeartbeats 8000000 in
set_option maxRecDepth 100000 in
theorem class_Lead.calls (a0 : ByteArray) (r : Int) (w : World) (h : class_Lead.f a0 = some r) :
    Calls Tryd.prog 13 #[.string a0] w fun e w' => e = .returned (.int .i64 r) ∧ Below w.heap.size w w' := by
  have HB := Aside0.mk (Below.refl w.heap.size w)
  have H : ((strings_TrimLeft.f a0 (⟨#[32, 9]⟩ : ByteArray)).bind fun t109 => (some (wrap64 ((a0.size : Int) - (t109.size : Int))))) = some r := h
  clear h
  replace H := Option.bind_eq_some_iff.mp H
  obtain ⟨t109, A20, H⟩ := H
  replace H : (some (wrap64 ((a0.size : Int) - (t109.size : Int)))) = some r := H
  have A2 := Aside0.mk A20
  clear A20
  obtain rfl := Option.some.inj H
  go_enter Tryd.func13, Tryd.ntmps13
  go_wp2_with (first | ((with_reducible refine gate_callee (f := 34) rfl ?_); refine goesL_ (some 6) rfl rfl Tryd.func34 (by kernel_rfl) rfl #[.string a0, .string (⟨#[32, 9]⟩ : ByteArray)] rfl (by (try simp only [List.map_toArray, List.map_cons, List.map_nil]); first | done | rfl | (simp only [List.length_drop, List.length_take]; rfl)) ?_; (with_reducible refine (strings_TrimLeft.calls a0 (⟨#[32, 9]⟩ : ByteArray) t109 _ A2.out).mono ?_); rintro e w3 ⟨rfl, hb⟩; refine ⟨_, rfl, ?_⟩; have n0_ := Aside0.mk (below_step (by repeat (first | (with_reducible first | exact HB.out | apply below_alloc | apply pw_below_drewN | apply below_drew1) | exact HB.out)) hb); clear HB; have HB := n0_; clear n0_; (try clear hb); (try clear hb2); (try clear hk); (try clear hi)))
  go_ret
  exact ⟨by first | rfl | (simp [errW_none, errW_some] <;> rfl) | (simp [*, errW_none, errW_some] <;> rfl), by repeat (first | (with_reducible first | exact HB.out | apply below_alloc | apply pw_below_drewN | apply below_drew1) | exact HB.out)⟩

/-! ### calamusref05_Lead -/
def calamusref05_Lead.l0 : Nat → ByteArray → Int → Option (Int)
  | 0, _, _ => none
  | k + 1, x0, x3 => if x3 < (x0.size : Int) then (if 0 ≤ x3 then ((calamusref05_in.f (⟨#[32, 9]⟩ : ByteArray) (bt x0 x3)).bind fun t110 => (if t110 ≥ 0 then (calamusref05_Lead.l0 k x0 (wrap64 (x3 + 1))) else (some x3))) else (none)) else (some x3)
def calamusref05_Lead.f (k : Nat) (a0 : ByteArray) : Option (Int) := calamusref05_Lead.l0 k a0 0
theorem calamusref05_Lead.mono_l : ∀ k, (∀ y0 y1, LeO (calamusref05_Lead.l0 k y0 y1) (calamusref05_Lead.l0 (k + 1) y0 y1))
  | 0 => fun _ _ r h => by simp [calamusref05_Lead.l0] at h
  | k + 1 => by
    have ih0 := calamusref05_Lead.mono_l k
    · intro y0 y1
      unfold calamusref05_Lead.l0
      repeat' first
      | (with_reducible exact ih0 _ _)
      | (with_reducible exact LeO.refl _)
      | (with_reducible exact LeO.none _)
      | (with_reducible refine LeO.ite ?_ ?_)
      | (with_reducible refine LeO.bind ?_ (fun _ => ?_))
      | exact ih0 _ _
      | exact LeO.none _
      | refine LeO.ite ?_ ?_
      | refine LeO.bind ?_ (fun _ => ?_)
theorem calamusref05_Lead.mono : ∀ a0 k, LeO (calamusref05_Lead.f k a0) (calamusref05_Lead.f (k + 1) a0) := by
  intro a0 k
  have ih0 := calamusref05_Lead.mono_l k
  unfold calamusref05_Lead.f
  repeat' first
      | (with_reducible exact ih0 _ _)
      | (with_reducible exact LeO.refl _)
      | (with_reducible exact LeO.none _)
      | (with_reducible refine LeO.ite ?_ ?_)
      | (with_reducible refine LeO.bind ?_ (fun _ => ?_))
      | exact ih0 _ _
      | exact LeO.none _
      | refine LeO.ite ?_ ?_
      | refine LeO.bind ?_ (fun _ => ?_)
set_option maxHeartbeats 8000000 in
set_option maxRecDepth 100000 in
theorem calamusref05_Lead.calls (k : Nat) (a0 : ByteArray) (r : Int) (w : World) (h : calamusref05_Lead.f k a0 = some r) :
    Calls Tryd.prog 14 #[.string a0] w fun e w' => e = .returned (.int .i64 r) ∧ Below w.heap.size w w' := by
  have HB := Aside0.mk (Below.refl w.heap.size w)
  have H : (calamusref05_Lead.l0 k a0 0) = some r := h
  clear h
  have H' := Aside0.mk H
  clear H
  go_enter Tryd.func14, Tryd.ntmps14
  go_wp2
  go_loopg [3] k (fun kq v3 w' => ∃ (x3_1 : Int), v3 = .int .i64 x3_1 ∧ Aside0 (calamusref05_Lead.l0 kq a0 x3_1 = some r) ∧ Aside0 (kq ≤ k) ∧ Aside0 (Below w.heap.size w w'))
  case atStart => exact ⟨(0), (by first | rfl | (simp; done) | (simp [*]; done)), H', ⟨Nat.le_refl _⟩, ⟨by repeat (first | (with_reducible first | exact HB.out | apply below_alloc | apply pw_below_drewN | apply below_drew1) | exact HB.out)⟩⟩
  case round =>
    clear H'
    try clear c1
    obtain ⟨x3_1, rfl, HA, HK1, HB⟩ := hrel
    cases gk with
    | zero => exact absurd HA.out (by simp [calamusref05_Lead.l0])
    | succ k1 =>
      have H := HA.out
      clear HA
      simp only [calamusref05_Lead.l0] at H
      by_cases c2 : x3_1 < (a0.size : Int)
      · rw [if_pos c2] at H
        have c2b0 : decide (x3_1 < (a0.size : Int)) = true := decide_eq_true c2
        clear c2
        by_cases c3 : 0 ≤ x3_1
        · rw [if_pos c3] at H
          have c3b0 : decide (0 ≤ x3_1) = true := decide_eq_true c3
          clear c3
          replace H := Option.bind_eq_some_iff.mp H
          obtain ⟨t110, A50, H⟩ := H
          replace H : (if t110 ≥ 0 then (calamusref05_Lead.l0 k1 a0 (wrap64 (x3_1 + 1))) else (some x3_1)) = some r := H
          have A5 := Aside0.mk A50
          clear A50
          by_cases c6 : t110 ≥ 0
          · rw [if_pos c6] at H
            have c6b0 : decide (0 ≤ t110) = true := decide_eq_true c6
            clear c6
            have H' := Aside0.mk H
            clear H
            have p4 : 0 ≤ (x3_1 : Int) := of_decide_eq_true (by first | (with_reducible assumption) | assumption)
            have q4 : x3_1 < (a0.size : Int) := of_decide_eq_true (by first | (with_reducible assumption) | assumption)
            have hx4 := bt_at a0 x3_1
            replace p4 := eq_true p4
            replace q4 := eq_true q4
            go_wp2_with (first | (go_at_call 35; (with_reducible refine (calamusref05_in.calls (⟨#[32, 9]⟩ : ByteArray) (bt a0 x3_1) t110 _ A5.out).mono ?_); rintro e w7 ⟨rfl, hb⟩; have n0_ := Aside0.mk (below_step (by repeat (first | (with_reducible first | exact HB.out | apply below_alloc | apply pw_below_drewN | apply below_drew1) | exact HB.out)) hb); clear HB; have HB := n0_; clear n0_; (try clear hb); (try clear hb2); (try clear hk); (try clear hi)))
            go_roundg k1
            case measure => have := HK1.out; omega
            case rel => exact ⟨(wrap64 (x3_1 + 1)), (by first | rfl | (simp; done) | (simp [*]; done)), H', ⟨by have := HK1.out; omega⟩, ⟨by repeat (first | (with_reducible first | exact HB.out | apply below_alloc | apply pw_below_drewN | apply below_drew1) | exact HB.out)⟩⟩
          · rw [if_neg c6] at H
            have c6b0 : decide (0 ≤ t110) = false := decide_eq_false c6
            clear c6
            obtain rfl := Option.some.inj H
            have p4 : 0 ≤ (x3_1 : Int) := of_decide_eq_true (by first | (with_reducible assumption) | assumption)
            have q4 : x3_1 < (a0.size : Int) := of_decide_eq_true (by first | (with_reducible assumption) | assumption)
            have hx4 := bt_at a0 x3_1
            replace p4 := eq_true p4
            replace q4 := eq_true q4
            go_wp2_with (first | (go_at_call 35; (with_reducible refine (calamusref05_in.calls (⟨#[32, 9]⟩ : ByteArray) (bt a0 x3_1) t110 _ A5.out).mono ?_); rintro e w8 ⟨rfl, hb⟩; have n0_ := Aside0.mk (below_step (by repeat (first | (with_reducible first | exact HB.out | apply below_alloc | apply pw_below_drewN | apply below_drew1) | exact HB.out)) hb); clear HB; have HB := n0_; clear n0_; (try clear hb); (try clear hb2); (try clear hk); (try clear hi)))
            go_ret
            exact ⟨by first | rfl | (simp [errW_none, errW_some] <;> rfl) | (simp [*, errW_none, errW_some] <;> rfl), by repeat (first | (with_reducible first | exact HB.out | apply below_alloc | apply pw_below_drewN | apply below_drew1) | exact HB.out)⟩
        · rw [if_neg c3] at H
          exact absurd H (by simp)
      · rw [if_neg c2] at H
        have c2b0 : decide (x3_1 < (a0.size : Int)) = false := decide_eq_false c2
        clear c2
        obtain rfl := Option.some.inj H
        go_wp2
        go_ret
        exact ⟨by first | rfl | (simp [errW_none, errW_some] <;> rfl) | (simp [*, errW_none, errW_some] <;> rfl), by repeat (first | (with_reducible first | exact HB.out | apply below_alloc | apply pw_below_drewN | apply below_drew1) | exact HB.out)⟩

/-! ### calamuslaw05_ClassLetters -/
def calamuslaw05_ClassLetters.f (k : Nat) (a0 : ByteArray) : Option (Bool) := if (a0.size : Int) > 2000 then ((calamuslaw05_lives.f).bind fun t111 => (some t111)) else ((class_Up.f a0).bind fun t112 => ((calamusref05_Up.f k a0).bind fun t113 => (if t112.toList = t113.toList then ((class_Low.f a0).bind fun t114 => ((calamusref05_Low.f k a0).bind fun t115 => (if t114.toList = t115.toList then ((class_Flip.f a0).bind fun t116 => ((calamusref05_Flip.f k a0).bind fun t117 => (if t116.toList = t117.toList then ((class_Lead.f a0).bind fun t118 => ((calamusref05_Lead.f k a0).bind fun t119 => (if t118 = t119 then ((calamuslaw05_lives.f).bind fun t120 => (some t120)) else (some false)))) else (some false)))) else (some false)))) else (some false))))
theorem calamuslaw05_ClassLetters.mono : ∀ a0 k, LeO (calamuslaw05_ClassLetters.f k a0) (calamuslaw05_ClassLetters.f (k + 1) a0) := by
  intro a0 k
  unfold calamuslaw05_ClassLetters.f
  repeat' first
      | (with_reducible exact calamusref05_Flip.mono _ _)
      | (with_reducible exact calamusref05_Lead.mono _ _)
      | (with_reducible exact calamusref05_Low.mono _ _)
      | (with_reducible exact calamusref05_Up.mono _ _)
      | (with_reducible exact LeO.refl _)
      | (with_reducible exact LeO.none _)
      | (with_reducible refine LeO.ite ?_ ?_)
      | (with_reducible refine LeO.bind ?_ (fun _ => ?_))
      | exact calamusref05_Flip.mono _ _
      | exact calamusref05_Lead.mono _ _
      | exact calamusref05_Low.mono _ _
      | exact calamusref05_Up.mono _ _
      | exact LeO.none _
      | refine LeO.ite ?_ ?_
      | refine LeO.bind ?_ (fun _ => ?_)
set_option maxHeartbeats 8000000 in
set_option maxRecDepth 100000 in
theorem calamuslaw05_ClassLetters.calls (k : Nat) (a0 : ByteArray) (r : Bool) (w : World) (h : calamuslaw05_ClassLetters.f k a0 = some r) :
    Calls Tryd.prog 3 #[.string a0] w fun e w' => e = .returned (.bool r) ∧ Below w.heap.size w w' := by
  have HB := Aside0.mk (Below.refl w.heap.size w)
  have H : (if (a0.size : Int) > 2000 then ((calamuslaw05_lives.f).bind fun t111 => (some t111)) else ((class_Up.f a0).bind fun t112 => ((calamusref05_Up.f k a0).bind fun t113 => (if t112.toList = t113.toList then ((class_Low.f a0).bind fun t114 => ((calamusref05_Low.f k a0).bind fun t115 => (if t114.toList = t115.toList then ((class_Flip.f a0).bind fun t116 => ((calamusref05_Flip.f k a0).bind fun t117 => (if t116.toList = t117.toList then ((class_Lead.f a0).bind fun t118 => ((calamusref05_Lead.f k a0).bind fun t119 => (if t118 = t119 then ((calamuslaw05_lives.f).bind fun t120 => (some t120)) else (some false)))) else (some false)))) else (some false)))) else (some false))))) = some r := h
  clear h
  by_cases c2 : (a0.size : Int) > 2000
  · rw [if_pos c2] at H
    have c2b0 : decide (2000 < (a0.size : Int)) = true := decide_eq_true c2
    have c2b1 : decide (2000 < a0.size) = true := decide_eq_true (by omega)
    clear c2
    replace H := Option.bind_eq_some_iff.mp H
    obtain ⟨t111, A30, H⟩ := H
    replace H : (some t111) = some r := H
    have A3 := Aside0.mk A30
    clear A30
    obtain rfl := Option.some.inj H
    go_enter Tryd.func3, Tryd.ntmps3
    go_wp2_with (first | ((with_reducible refine gate_callee (f := 6) rfl ?_); refine goesL_ (some 6) rfl rfl Tryd.func6 (by kernel_rfl) rfl #[] rfl (by (try simp only [List.map_toArray, List.map_cons, List.map_nil]); first | done | rfl | (simp only [List.length_drop, List.length_take]; rfl)) ?_; (with_reducible refine (calamuslaw05_lives.calls  t111 _ A3.out).mono ?_); rintro e w4 ⟨rfl, hb⟩; refine ⟨_, rfl, ?_⟩; have n0_ := Aside0.mk (below_step (by repeat (first | (with_reducible first | exact HB.out | apply below_alloc | apply pw_below_drewN | apply below_drew1) | exact HB.out)) hb); clear HB; have HB := n0_; clear n0_; (try clear hb); (try clear hb2); (try clear hk); (try clear hi)))
    go_ret
    exact ⟨by first | rfl | (simp [errW_none, errW_some] <;> rfl) | (simp [*, errW_none, errW_some] <;> rfl), by repeat (first | (with_reducible first | exact HB.out | apply below_alloc | apply pw_below_drewN | apply below_drew1) | exact HB.out)⟩
  · rw [if_neg c2] at H
    have c2b0 : decide (2000 < (a0.size : Int)) = false := decide_eq_false c2
    have c2b1 : decide (2000 < a0.size) = false := decide_eq_false (by omega)
    clear c2
    replace H := Option.bind_eq_some_iff.mp H
    obtain ⟨t112, A50, H⟩ := H
    replace H : ((calamusref05_Up.f k a0).bind fun t113 => (if t112.toList = t113.toList then ((class_Low.f a0).bind fun t114 => ((calamusref05_Low.f k a0).bind fun t115 => (if t114.toList = t115.toList then ((class_Flip.f a0).bind fun t116 => ((calamusref05_Flip.f k a0).bind fun t117 => (if t116.toList = t117.toList then ((class_Lead.f a0).bind fun t118 => ((calamusref05_Lead.f k a0).bind fun t119 => (if t118 = t119 then ((calamuslaw05_lives.f).bind fun t120 => (some t120)) else (some false)))) else (some false)))) else (some false)))) else (some false))) = some r := H
    have A5 := Aside0.mk A50
    clear A50
    replace H := Option.bind_eq_some_iff.mp H
    obtain ⟨t113, A60, H⟩ := H
    replace H : (if t112.toList = t113.toList then ((class_Low.f a0).bind fun t114 => ((calamusref05_Low.f k a0).bind fun t115 => (if t114.toList = t115.toList then ((class_Flip.f a0).bind fun t116 => ((calamusref05_Flip.f k a0).bind fun t117 => (if t116.toList = t117.toList then ((class_Lead.f a0).bind fun t118 => ((calamusref05_Lead.f k a0).bind fun t119 => (if t118 = t119 then ((calamuslaw05_lives.f).bind fun t120 => (some t120)) else (some false)))) else (some false)))) else (some false)))) else (some false)) = some r := H
    have A6 := Aside0.mk A60
    clear A60
    by_cases c7 : t112.toList = t113.toList
    · rw [if_pos c7] at H
      have c7b0 : (t112.toList == t113.toList) = true := beq_iff_eq.mpr c7
      have c7b1 : (t112.toList != t113.toList) = false := bne_eq_false_iff_eq.mpr c7
      clear c7
      replace H := Option.bind_eq_some_iff.mp H
      obtain ⟨t114, A80, H⟩ := H
      replace H : ((calamusref05_Low.f k a0).bind fun t115 => (if t114.toList = t115.toList then ((class_Flip.f a0).bind fun t116 => ((calamusref05_Flip.f k a0).bind fun t117 => (if t116.toList = t117.toList then ((class_Lead.f a0).bind fun t118 => ((calamusref05_Lead.f k a0).bind fun t119 => (if t118 = t119 then ((calamuslaw05_lives.f).bind fun t120 => (some t120)) else (some false)))) else (some false)))) else (some false))) = some r := H
      have A8 := Aside0.mk A80
      clear A80
      replace H := Option.bind_eq_some_iff.mp H
      obtain ⟨t115, A90, H⟩ := H
      replace H : (if t114.toList = t115.toList then ((class_Flip.f a0).bind fun t116 => ((calamusref05_Flip.f k a0).bind fun t117 => (if t116.toList = t117.toList then ((class_Lead.f a0).bind fun t118 => ((calamusref05_Lead.f k a0).bind fun t119 => (if t118 = t119 then ((calamuslaw05_lives.f).bind fun t120 => (some t120)) else (some false)))) else (some false)))) else (some false)) = some r := H
      have A9 := Aside0.mk A90
      clear A90
      by_cases c10 : t114.toList = t115.toList
      · rw [if_pos c10] at H
        have c10b0 : (t114.toList == t115.toList) = true := beq_iff_eq.mpr c10
        have c10b1 : (t114.toList != t115.toList) = false := bne_eq_false_iff_eq.mpr c10
        clear c10
        replace H := Option.bind_eq_some_iff.mp H
        obtain ⟨t116, A110, H⟩ := H
        replace H : ((calamusref05_Flip.f k a0).bind fun t117 => (if t116.toList = t117.toList then ((class_Lead.f a0).bind fun t118 => ((calamusref05_Lead.f k a0).bind fun t119 => (if t118 = t119 then ((calamuslaw05_lives.f).bind fun t120 => (some t120)) else (some false)))) else (some false))) = some r := H
        have A11 := Aside0.mk A110
        clear A110
        replace H := Option.bind_eq_some_iff.mp H
        obtain ⟨t117, A120, H⟩ := H
        replace H : (if t116.toList = t117.toList then ((class_Lead.f a0).bind fun t118 => ((calamusref05_Lead.f k a0).bind fun t119 => (if t118 = t119 then ((calamuslaw05_lives.f).bind fun t120 => (some t120)) else (some false)))) else (some false)) = some r := H
        have A12 := Aside0.mk A120
        clear A120
        by_cases c13 : t116.toList = t117.toList
        · rw [if_pos c13] at H
          have c13b0 : (t116.toList == t117.toList) = true := beq_iff_eq.mpr c13
          have c13b1 : (t116.toList != t117.toList) = false := bne_eq_false_iff_eq.mpr c13
          clear c13
          replace H := Option.bind_eq_some_iff.mp H
          obtain ⟨t118, A140, H⟩ := H
          replace H : ((calamusref05_Lead.f k a0).bind fun t119 => (if t118 = t119 then ((calamuslaw05_lives.f).bind fun t120 => (some t120)) else (some false))) = some r := H
          have A14 := Aside0.mk A140
          clear A140
          replace H := Option.bind_eq_some_iff.mp H
          obtain ⟨t119, A150, H⟩ := H
          replace H : (if t118 = t119 then ((calamuslaw05_lives.f).bind fun t120 => (some t120)) else (some false)) = some r := H
          have A15 := Aside0.mk A150
          clear A150
          by_cases c16 : t118 = t119
          · rw [if_pos c16] at H
            have c16b0 : (t118 == t119) = true := beq_iff_eq.mpr c16
            have c16b1 : (t118 != t119) = false := bne_eq_false_iff_eq.mpr c16
            clear c16
            replace H := Option.bind_eq_some_iff.mp H
            obtain ⟨t120, A170, H⟩ := H
            replace H : (some t120) = some r := H
            have A17 := Aside0.mk A170
            clear A170
            obtain rfl := Option.some.inj H
            go_enter Tryd.func3, Tryd.ntmps3
            go_wp2_with (first | ((with_reducible refine gate_callee (f := 7) rfl ?_); refine goesL_ (some 8) rfl rfl Tryd.func7 (by kernel_rfl) rfl #[.string a0] rfl (by (try simp only [List.map_toArray, List.map_cons, List.map_nil]); first | done | rfl | (simp only [List.length_drop, List.length_take]; rfl)) ?_; (with_reducible refine (class_Up.calls a0 t112 _ A5.out).mono ?_); rintro e w18 ⟨rfl, hb⟩; refine ⟨_, rfl, ?_⟩; have n0_ := Aside0.mk (below_step (by repeat (first | (with_reducible first | exact HB.out | apply below_alloc | apply pw_below_drewN | apply below_drew1) | exact HB.out)) hb); clear HB; have HB := n0_; clear n0_; (try clear hb); (try clear hb2); (try clear hk); (try clear hi)) | ((with_reducible refine gate_callee (f := 8) rfl ?_); refine goesL_ (some 10) rfl rfl Tryd.func8 (by kernel_rfl) rfl #[.string a0] rfl (by (try simp only [List.map_toArray, List.map_cons, List.map_nil]); first | done | rfl | (simp only [List.length_drop, List.length_take]; rfl)) ?_; (with_reducible refine (calamusref05_Up.calls k a0 t113 _ A6.out).mono ?_); rintro e w19 ⟨rfl, hb⟩; refine ⟨_, rfl, ?_⟩; have n0_ := Aside0.mk (below_step (by repeat (first | (with_reducible first | exact HB.out | apply below_alloc | apply pw_below_drewN | apply below_drew1) | exact HB.out)) hb); clear HB; have HB := n0_; clear n0_; (try clear hb); (try clear hb2); (try clear hk); (try clear hi)) | (go_at_call 9; (with_reducible refine (class_Low.calls a0 t114 _ A8.out).mono ?_); rintro e w20 ⟨rfl, hb⟩; have n0_ := Aside0.mk (below_step (by repeat (first | (with_reducible first | exact HB.out | apply below_alloc | apply pw_below_drewN | apply below_drew1) | exact HB.out)) hb); clear HB; have HB := n0_; clear n0_; (try clear hb); (try clear hb2); (try clear hk); (try clear hi)) | (go_at_call 10; (with_reducible refine (calamusref05_Low.calls k a0 t115 _ A9.out).mono ?_); rintro e w21 ⟨rfl, hb⟩; have n0_ := Aside0.mk (below_step (by repeat (first | (with_reducible first | exact HB.out | apply below_alloc | apply pw_below_drewN | apply below_drew1) | exact HB.out)) hb); clear HB; have HB := n0_; clear n0_; (try clear hb); (try clear hb2); (try clear hk); (try clear hi)) | (go_at_call 11; (with_reducible refine (class_Flip.calls a0 t116 _ A11.out).mono ?_); rintro e w22 ⟨rfl, hb⟩; have n0_ := Aside0.mk (below_step (by repeat (first | (with_reducible first | exact HB.out | apply below_alloc | apply pw_below_drewN | apply below_drew1) | exact HB.out)) hb); clear HB; have HB := n0_; clear n0_; (try clear hb); (try clear hb2); (try clear hk); (try clear hi)) | (go_at_call 12; (with_reducible refine (calamusref05_Flip.calls k a0 t117 _ A12.out).mono ?_); rintro e w23 ⟨rfl, hb⟩; have n0_ := Aside0.mk (below_step (by repeat (first | (with_reducible first | exact HB.out | apply below_alloc | apply pw_below_drewN | apply below_drew1) | exact HB.out)) hb); clear HB; have HB := n0_; clear n0_; (try clear hb); (try clear hb2); (try clear hk); (try clear hi)) | (go_at_call 13; (with_reducible refine (class_Lead.calls a0 t118 _ A14.out).mono ?_); rintro e w24 ⟨rfl, hb⟩; have n0_ := Aside0.mk (below_step (by repeat (first | (with_reducible first | exact HB.out | apply below_alloc | apply pw_below_drewN | apply below_drew1) | exact HB.out)) hb); clear HB; have HB := n0_; clear n0_; (try clear hb); (try clear hb2); (try clear hk); (try clear hi)) | (go_at_call 14; (with_reducible refine (calamusref05_Lead.calls k a0 t119 _ A15.out).mono ?_); rintro e w25 ⟨rfl, hb⟩; have n0_ := Aside0.mk (below_step (by repeat (first | (with_reducible first | exact HB.out | apply below_alloc | apply pw_below_drewN | apply below_drew1) | exact HB.out)) hb); clear HB; have HB := n0_; clear n0_; (try clear hb); (try clear hb2); (try clear hk); (try clear hi)) | (go_at_call 6; (with_reducible refine (calamuslaw05_lives.calls  t120 _ A17.out).mono ?_); rintro e w26 ⟨rfl, hb⟩; have n0_ := Aside0.mk (below_step (by repeat (first | (with_reducible first | exact HB.out | apply below_alloc | apply pw_below_drewN | apply below_drew1) | exact HB.out)) hb); clear HB; have HB := n0_; clear n0_; (try clear hb); (try clear hb2); (try clear hk); (try clear hi)))
            go_ret
            exact ⟨by first | rfl | (simp [errW_none, errW_some] <;> rfl) | (simp [*, errW_none, errW_some] <;> rfl), by repeat (first | (with_reducible first | exact HB.out | apply below_alloc | apply pw_below_drewN | apply below_drew1) | exact HB.out)⟩
          · rw [if_neg c16] at H
            have c16b0 : (t118 == t119) = false := beq_eq_false_iff_ne.mpr c16
            have c16b1 : (t118 != t119) = true := bne_iff_ne.mpr c16
            obtain rfl := Option.some.inj H
            go_enter Tryd.func3, Tryd.ntmps3
            go_wp2_with (first | ((with_reducible refine gate_callee (f := 7) rfl ?_); refine goesL_ (some 8) rfl rfl Tryd.func7 (by kernel_rfl) rfl #[.string a0] rfl (by (try simp only [List.map_toArray, List.map_cons, List.map_nil]); first | done | rfl | (simp only [List.length_drop, List.length_take]; rfl)) ?_; (with_reducible refine (class_Up.calls a0 t112 _ A5.out).mono ?_); rintro e w27 ⟨rfl, hb⟩; refine ⟨_, rfl, ?_⟩; have n0_ := Aside0.mk (below_step (by repeat (first | (with_reducible first | exact HB.out | apply below_alloc | apply pw_below_drewN | apply below_drew1) | exact HB.out)) hb); clear HB; have HB := n0_; clear n0_; (try clear hb); (try clear hb2); (try clear hk); (try clear hi)) | ((with_reducible refine gate_callee (f := 8) rfl ?_); refine goesL_ (some 10) rfl rfl Tryd.func8 (by kernel_rfl) rfl #[.string a0] rfl (by (try simp only [List.map_toArray, List.map_cons, List.map_nil]); first | done | rfl | (simp only [List.length_drop, List.length_take]; rfl)) ?_; (with_reducible refine (calamusref05_Up.calls k a0 t113 _ A6.out).mono ?_); rintro e w28 ⟨rfl, hb⟩; refine ⟨_, rfl, ?_⟩; have n0_ := Aside0.mk (below_step (by repeat (first | (with_reducible first | exact HB.out | apply below_alloc | apply pw_below_drewN | apply below_drew1) | exact HB.out)) hb); clear HB; have HB := n0_; clear n0_; (try clear hb); (try clear hb2); (try clear hk); (try clear hi)) | (go_at_call 9; (with_reducible refine (class_Low.calls a0 t114 _ A8.out).mono ?_); rintro e w29 ⟨rfl, hb⟩; have n0_ := Aside0.mk (below_step (by repeat (first | (with_reducible first | exact HB.out | apply below_alloc | apply pw_below_drewN | apply below_drew1) | exact HB.out)) hb); clear HB; have HB := n0_; clear n0_; (try clear hb); (try clear hb2); (try clear hk); (try clear hi)) | (go_at_call 10; (with_reducible refine (calamusref05_Low.calls k a0 t115 _ A9.out).mono ?_); rintro e w30 ⟨rfl, hb⟩; have n0_ := Aside0.mk (below_step (by repeat (first | (with_reducible first | exact HB.out | apply below_alloc | apply pw_below_drewN | apply below_drew1) | exact HB.out)) hb); clear HB; have HB := n0_; clear n0_; (try clear hb); (try clear hb2); (try clear hk); (try clear hi)) | (go_at_call 11; (with_reducible refine (class_Flip.calls a0 t116 _ A11.out).mono ?_); rintro e w31 ⟨rfl, hb⟩; have n0_ := Aside0.mk (below_step (by repeat (first | (with_reducible first | exact HB.out | apply below_alloc | apply pw_below_drewN | apply below_drew1) | exact HB.out)) hb); clear HB; have HB := n0_; clear n0_; (try clear hb); (try clear hb2); (try clear hk); (try clear hi)) | (go_at_call 12; (with_reducible refine (calamusref05_Flip.calls k a0 t117 _ A12.out).mono ?_); rintro e w32 ⟨rfl, hb⟩; have n0_ := Aside0.mk (below_step (by repeat (first | (with_reducible first | exact HB.out | apply below_alloc | apply pw_below_drewN | apply below_drew1) | exact HB.out)) hb); clear HB; have HB := n0_; clear n0_; (try clear hb); (try clear hb2); (try clear hk); (try clear hi)) | (go_at_call 13; (with_reducible refine (class_Lead.calls a0 t118 _ A14.out).mono ?_); rintro e w33 ⟨rfl, hb⟩; have n0_ := Aside0.mk (below_step (by repeat (first | (with_reducible first | exact HB.out | apply below_alloc | apply pw_below_drewN | apply below_drew1) | exact HB.out)) hb); clear HB; have HB := n0_; clear n0_; (try clear hb); (try clear hb2); (try clear hk); (try clear hi)) | (go_at_call 14; (with_reducible refine (calamusref05_Lead.calls k a0 t119 _ A15.out).mono ?_); rintro e w34 ⟨rfl, hb⟩; have n0_ := Aside0.mk (below_step (by repeat (first | (with_reducible first | exact HB.out | apply below_alloc | apply pw_below_drewN | apply below_drew1) | exact HB.out)) hb); clear HB; have HB := n0_; clear n0_; (try clear hb); (try clear hb2); (try clear hk); (try clear hi)))
            go_ret
            exact ⟨by first | rfl | (simp [errW_none, errW_some] <;> rfl) | (simp [*, errW_none, errW_some] <;> rfl), by repeat (first | (with_reducible first | exact HB.out | apply below_alloc | apply pw_below_drewN | apply below_drew1) | exact HB.out)⟩
        · rw [if_neg c13] at H
          have c13b0 : (t116.toList == t117.toList) = false := beq_eq_false_iff_ne.mpr c13
          have c13b1 : (t116.toList != t117.toList) = true := bne_iff_ne.mpr c13
          obtain rfl := Option.some.inj H
          go_enter Tryd.func3, Tryd.ntmps3
          go_wp2_with (first | ((with_reducible refine gate_callee (f := 7) rfl ?_); refine goesL_ (some 8) rfl rfl Tryd.func7 (by kernel_rfl) rfl #[.string a0] rfl (by (try simp only [List.map_toArray, List.map_cons, List.map_nil]); first | done | rfl | (simp only [List.length_drop, List.length_take]; rfl)) ?_; (with_reducible refine (class_Up.calls a0 t112 _ A5.out).mono ?_); rintro e w35 ⟨rfl, hb⟩; refine ⟨_, rfl, ?_⟩; have n0_ := Aside0.mk (below_step (by repeat (first | (with_reducible first | exact HB.out | apply below_alloc | apply pw_below_drewN | apply below_drew1) | exact HB.out)) hb); clear HB; have HB := n0_; clear n0_; (try clear hb); (try clear hb2); (try clear hk); (try clear hi)) | ((with_reducible refine gate_callee (f := 8) rfl ?_); refine goesL_ (some 10) rfl rfl Tryd.func8 (by kernel_rfl) rfl #[.string a0] rfl (by (try simp only [List.map_toArray, List.map_cons, List.map_nil]); first | done | rfl | (simp only [List.length_drop, List.length_take]; rfl)) ?_; (with_reducible refine (calamusref05_Up.calls k a0 t113 _ A6.out).mono ?_); rintro e w36 ⟨rfl, hb⟩; refine ⟨_, rfl, ?_⟩; have n0_ := Aside0.mk (below_step (by repeat (first | (with_reducible first | exact HB.out | apply below_alloc | apply pw_below_drewN | apply below_drew1) | exact HB.out)) hb); clear HB; have HB := n0_; clear n0_; (try clear hb); (try clear hb2); (try clear hk); (try clear hi)) | (go_at_call 9; (with_reducible refine (class_Low.calls a0 t114 _ A8.out).mono ?_); rintro e w37 ⟨rfl, hb⟩; have n0_ := Aside0.mk (below_step (by repeat (first | (with_reducible first | exact HB.out | apply below_alloc | apply pw_below_drewN | apply below_drew1) | exact HB.out)) hb); clear HB; have HB := n0_; clear n0_; (try clear hb); (try clear hb2); (try clear hk); (try clear hi)) | (go_at_call 10; (with_reducible refine (calamusref05_Low.calls k a0 t115 _ A9.out).mono ?_); rintro e w38 ⟨rfl, hb⟩; have n0_ := Aside0.mk (below_step (by repeat (first | (with_reducible first | exact HB.out | apply below_alloc | apply pw_below_drewN | apply below_drew1) | exact HB.out)) hb); clear HB; have HB := n0_; clear n0_; (try clear hb); (try clear hb2); (try clear hk); (try clear hi)) | (go_at_call 11; (with_reducible refine (class_Flip.calls a0 t116 _ A11.out).mono ?_); rintro e w39 ⟨rfl, hb⟩; have n0_ := Aside0.mk (below_step (by repeat (first | (with_reducible first | exact HB.out | apply below_alloc | apply pw_below_drewN | apply below_drew1) | exact HB.out)) hb); clear HB; have HB := n0_; clear n0_; (try clear hb); (try clear hb2); (try clear hk); (try clear hi)) | (go_at_call 12; (with_reducible refine (calamusref05_Flip.calls k a0 t117 _ A12.out).mono ?_); rintro e w40 ⟨rfl, hb⟩; have n0_ := Aside0.mk (below_step (by repeat (first | (with_reducible first | exact HB.out | apply below_alloc | apply pw_below_drewN | apply below_drew1) | exact HB.out)) hb); clear HB; have HB := n0_; clear n0_; (try clear hb); (try clear hb2); (try clear hk); (try clear hi)))
          go_ret
          exact ⟨by first | rfl | (simp [errW_none, errW_some] <;> rfl) | (simp [*, errW_none, errW_some] <;> rfl), by repeat (first | (with_reducible first | exact HB.out | apply below_alloc | apply pw_below_drewN | apply below_drew1) | exact HB.out)⟩
      · rw [if_neg c10] at H
        have c10b0 : (t114.toList == t115.toList) = false := beq_eq_false_iff_ne.mpr c10
        have c10b1 : (t114.toList != t115.toList) = true := bne_iff_ne.mpr c10
        obtain rfl := Option.some.inj H
        go_enter Tryd.func3, Tryd.ntmps3
        go_wp2_with (first | ((with_reducible refine gate_callee (f := 7) rfl ?_); refine goesL_ (some 8) rfl rfl Tryd.func7 (by kernel_rfl) rfl #[.string a0] rfl (by (try simp only [List.map_toArray, List.map_cons, List.map_nil]); first | done | rfl | (simp only [List.length_drop, List.length_take]; rfl)) ?_; (with_reducible refine (class_Up.calls a0 t112 _ A5.out).mono ?_); rintro e w41 ⟨rfl, hb⟩; refine ⟨_, rfl, ?_⟩; have n0_ := Aside0.mk (below_step (by repeat (first | (with_reducible first | exact HB.out | apply below_alloc | apply pw_below_drewN | apply below_drew1) | exact HB.out)) hb); clear HB; have HB := n0_; clear n0_; (try clear hb); (try clear hb2); (try clear hk); (try clear hi)) | ((with_reducible refine gate_callee (f := 8) rfl ?_); refine goesL_ (some 10) rfl rfl Tryd.func8 (by kernel_rfl) rfl #[.string a0] rfl (by (try simp only [List.map_toArray, List.map_cons, List.map_nil]); first | done | rfl | (simp only [List.length_drop, List.length_take]; rfl)) ?_; (with_reducible refine (calamusref05_Up.calls k a0 t113 _ A6.out).mono ?_); rintro e w42 ⟨rfl, hb⟩; refine ⟨_, rfl, ?_⟩; have n0_ := Aside0.mk (below_step (by repeat (first | (with_reducible first | exact HB.out | apply below_alloc | apply pw_below_drewN | apply below_drew1) | exact HB.out)) hb); clear HB; have HB := n0_; clear n0_; (try clear hb); (try clear hb2); (try clear hk); (try clear hi)) | (go_at_call 9; (with_reducible refine (class_Low.calls a0 t114 _ A8.out).mono ?_); rintro e w43 ⟨rfl, hb⟩; have n0_ := Aside0.mk (below_step (by repeat (first | (with_reducible first | exact HB.out | apply below_alloc | apply pw_below_drewN | apply below_drew1) | exact HB.out)) hb); clear HB; have HB := n0_; clear n0_; (try clear hb); (try clear hb2); (try clear hk); (try clear hi)) | (go_at_call 10; (with_reducible refine (calamusref05_Low.calls k a0 t115 _ A9.out).mono ?_); rintro e w44 ⟨rfl, hb⟩; have n0_ := Aside0.mk (below_step (by repeat (first | (with_reducible first | exact HB.out | apply below_alloc | apply pw_below_drewN | apply below_drew1) | exact HB.out)) hb); clear HB; have HB := n0_; clear n0_; (try clear hb); (try clear hb2); (try clear hk); (try clear hi)))
        go_ret
        exact ⟨by first | rfl | (simp [errW_none, errW_some] <;> rfl) | (simp [*, errW_none, errW_some] <;> rfl), by repeat (first | (with_reducible first | exact HB.out | apply below_alloc | apply pw_below_drewN | apply below_drew1) | exact HB.out)⟩
    · rw [if_neg c7] at H
      have c7b0 : (t112.toList == t113.toList) = false := beq_eq_false_iff_ne.mpr c7
      have c7b1 : (t112.toList != t113.toList) = true := bne_iff_ne.mpr c7
      obtain rfl := Option.some.inj H
      go_enter Tryd.func3, Tryd.ntmps3
      go_wp2_with (first | ((with_reducible refine gate_callee (f := 7) rfl ?_); refine goesL_ (some 8) rfl rfl Tryd.func7 (by kernel_rfl) rfl #[.string a0] rfl (by (try simp only [List.map_toArray, List.map_cons, List.map_nil]); first | done | rfl | (simp only [List.length_drop, List.length_take]; rfl)) ?_; (with_reducible refine (class_Up.calls a0 t112 _ A5.out).mono ?_); rintro e w45 ⟨rfl, hb⟩; refine ⟨_, rfl, ?_⟩; have n0_ := Aside0.mk (below_step (by repeat (first | (with_reducible first | exact HB.out | apply below_alloc | apply pw_below_drewN | apply below_drew1) | exact HB.out)) hb); clear HB; have HB := n0_; clear n0_; (try clear hb); (try clear hb2); (try clear hk); (try clear hi)) | ((with_reducible refine gate_callee (f := 8) rfl ?_); refine goesL_ (some 10) rfl rfl Tryd.func8 (by kernel_rfl) rfl #[.string a0] rfl (by (try simp only [List.map_toArray, List.map_cons, List.map_nil]); first | done | rfl | (simp only [List.length_drop, List.length_take]; rfl)) ?_; (with_reducible refine (calamusref05_Up.calls k a0 t113 _ A6.out).mono ?_); rintro e w46 ⟨rfl, hb⟩; refine ⟨_, rfl, ?_⟩; have n0_ := Aside0.mk (below_step (by repeat (first | (with_reducible first | exact HB.out | apply below_alloc | apply pw_below_drewN | apply below_drew1) | exact HB.out)) hb); clear HB; have HB := n0_; clear n0_; (try clear hb); (try clear hb2); (try clear hk); (try clear hi)))
      go_ret
      exact ⟨by first | rfl | (simp [errW_none, errW_some] <;> rfl) | (simp [*, errW_none, errW_some] <;> rfl), by repeat (first | (with_reducible first | exact HB.out | apply below_alloc | apply pw_below_drewN | apply below_drew1) | exact HB.out)⟩

def calamuslaw05_ClassLetters.Pure : Prop := ∀ (a0 : ByteArray), a0.size ≤ 140737488351232 → ∃ k, calamuslaw05_ClassLetters.f k a0 = some true
theorem calamuslaw05_ClassLetters.walk (P : calamuslaw05_ClassLetters.Pure) (a0 : ByteArray) (w : World) (w0 : a0.size ≤ 140737488351232) :
    Calls Tryd.prog 3 #[.string a0] w fun e w' => e = .returned (.bool true) ∧ Below w.heap.size w w' := by
  obtain ⟨k, h⟩ := P a0 w0
  refine (calamuslaw05_ClassLetters.calls k a0 true w h).mono ?_
  rintro e w' ⟨rfl, hd⟩
  exact ⟨rfl, hd⟩

end Go.Proofs.YtgapekdcoedmgaaDoor.QD
/- The statement ClassLetters in plain words (MOD QD of the door seat of group C). -/
namespace Go.Proofs.YtgapekdcoedmgaaDoor
open Go.RowKit
set_option linter.unusedVariables false
set_option linter.unusedSimpArgs false
open Go.RowKit Go.Proofs.YtgapekdcoedmgaaDoor.QD Go.Proofs.YtgapekdcoedmgaaDoorW.PrintWords Go.Proofs.YtgapekdcoedmgaaDoorW.PrintMore
def tabB (A B : List UInt8) (g : UInt8 → UInt8) : Bool := (List.range 256).all fun n => if 0 ≤ findF (bsI A) n 0 then B[(findF (bsI A) n 0).toNat]? == some (g (UInt8.ofNat n)) else g (UInt8.ofNat n) == UInt8.ofNat n
theorem tab_at {A B : List UInt8} {g : UInt8 → UInt8} (h : tabB A B g = true) (c : UInt8) : (0 ≤ findF (bsI A) c.toNat 0 → B[(findF (bsI A) c.toNat 0).toNat]? = some (g c)) ∧ (¬ 0 ≤ findF (bsI A) c.toNat 0 → g c = c) := by
  have h2 := List.all_eq_true.1 h c.toNat (List.mem_range.2 c.toNat_lt)
  rw [UInt8.ofNat_toNat] at h2
  refine ⟨fun hc => ?_, fun hc => ?_⟩
  · rw [if_pos hc] at h2; simpa using h2
  · rw [if_neg hc] at h2; simpa using h2
theorem swap_l0 (s A B : ByteArray) (g : UInt8 → UInt8) (hs : s.size ≤ 100000) (hA : A.size ≤ 1000) (hB : B.size ≤ 1000) (ht : tabB (ls A) (ls B) g = true) : ∀ (d i : Nat) (out : ByteArray), s.size - i ≤ d → i ≤ s.size → out.size = i → ls out = ((ls s).take i).map g →
    Ev (fun n => calamusref05_swap.l0 n s A B out i) ⟨((ls s).map g).toArray⟩ := by
  intro d
  induction d with
  | zero =>
    intro i out h1 h2 h3 h4
    refine Ev.step (fun _ => (by rw [calamusref05_swap.l0])) ?_
    refine Ev.neg (by omega) (Ev.ret (ba_ext ?_))
    rw [h4, List.take_of_length_le (by rw [ls_len]; omega)]
  | succ d ih =>
    intro i out h1 h2 h3 h4
    by_cases he : i = s.size
    · exact ih i out (by omega) h2 h3 h4
    · have hi : i < (ls s).length := by rw [ls_len]; omega
      have hbt : bt s i = ((ls s)[i].toNat : Int) := by rw [bt_nat s i (by omega)]; exact (inn_get hi).symm
      have htk : (ls s).take (i + 1) = (ls s).take i ++ [(ls s)[i]] := List.take_succ_eq_append_getElem hi
      obtain ⟨t1, t2⟩ := tab_at ht (ls s)[i]
      refine Ev.step (fun _ => (by rw [calamusref05_swap.l0])) ?_
      rw [hbt, calamusref05_in.eq A _ (by omega)]
      simp only [Option.bind_some]
      have hr := find_range (bsI (ls A)) ((ls s)[i].toNat) 
      rw [bsI_len, ls_len] at hr
      refine Ev.pos (by omega) (Ev.pos (by omega) (Ev.ite (fun hk => ?_) (fun hk => ?_)))
      · have hk0 : 0 ≤ findF (bsI (ls A)) ((ls s)[i].toNat : Int) 0 := hk
        obtain ⟨k, hkk⟩ : ∃ k : Nat, findF (bsI (ls A)) ((ls s)[i].toNat : Int) 0 = k := ⟨_, (Int.toNat_of_nonneg hk0).symm⟩
        have hB2 := t1 hk0
        rw [hkk] at hB2 hr ⊢
        rw [Int.toNat_natCast] at hB2
        obtain ⟨hkl, hkv⟩ := List.getElem?_eq_some_iff.1 hB2
        rw [ls_len] at hkl
        rw [w64 (n := (k : Int) + 1) (by omega) (by omega), w64 (n := (i : Int) + 1) (by omega) (by omega), show ((k : Int) + 1).toNat = k + 1 by omega, Int.toNat_natCast, show (i : Int) + 1 = ((i + 1 : Nat) : Int) by omega]
        have hz : (B.extract k (k + 1)).size = 1 := by rw [ByteArray.size_extract]; omega
        refine Ev.pos (by omega) (Ev.pos (by omega) (Ev.pos (by omega) (Ev.pos (by rw [hz]; omega) (ih (i + 1) _ (by omega) (by omega) (by rw [ByteArray.size_append, hz]; omega) ?_))))
        have : ls (B.extract k (k + 1)) = [g (ls s)[i]] := by
          rw [ls_ext2, List.drop_eq_getElem_cons (by rw [ls_len]; exact hkl), hkv, show k + 1 - k = 1 by omega]; rfl
        show ls (out ++ B.extract k (k + 1)) = _
        unfold ls at this h4 ⊢
        rw [ByteArray.data_append, Array.toList_append, this, h4]
        show _ = ((ls s).take (i + 1)).map g
        rw [htk, List.map_append]; rfl
      · have hg := t2 (by omega)
        rw [w64 (n := (i : Int) + 1) (by omega) (by omega), show ((i : Int) + 1).toNat = i + 1 by omega, Int.toNat_natCast, show (i : Int) + 1 = ((i + 1 : Nat) : Int) by omega]
        have hz : (s.extract i (i + 1)).size = 1 := by rw [ByteArray.size_extract]; omega
        refine Ev.pos (by omega) (Ev.pos (by omega) (Ev.pos (by rw [hz]; omega) (ih (i + 1) _ (by omega) (by omega) (by rw [ByteArray.size_append, hz]; omega) ?_)))
        have : ls (s.extract i (i + 1)) = [g (ls s)[i]] := by
          rw [ls_ext2, List.drop_eq_getElem_cons hi, hg, show i + 1 - i = 1 by omega]; rfl
        show ls (out ++ s.extract i (i + 1)) = _
        unfold ls at this h4 ⊢
        rw [ByteArray.data_append, Array.toList_append, this, h4]
        show _ = ((ls s).take (i + 1)).map g
        rw [htk, List.map_append]; rfl
theorem swap_ev (s A B : ByteArray) (g : UInt8 → UInt8) (hs : s.size ≤ 100000) (hA : A.size ≤ 1000) (hB : B.size ≤ 1000) (ht : tabB (ls A) (ls B) g = true) : Ev (fun n => calamusref05_swap.f n s A B) ⟨((ls s).map g).toArray⟩ := by
  unfold calamusref05_swap.f
  exact swap_l0 s A B g hs hA hB ht s.size 0 _ (by omega) (by omega) rfl rfl
theorem lead_in (b : Int) : findF (bsI (ls ⟨#[32, 9]⟩)) b 0 ≥ 0 ↔ b = 32 ∨ b = 9 := by
  show findF [32, 9] b 0 ≥ 0 ↔ _
  simp only [findF]
  split
  · rename_i h; simp; omega
  · split
    · rename_i h; simp; omega
    · simp; omega
theorem lead_l0 (s : ByteArray) (hs : s.size ≤ 100000) : ∀ (d i : Nat), s.size - i ≤ d → i ≤ s.size → Ev (fun n => calamusref05_Lead.l0 n s i) ((i + blk (rowL (ls s) (i, s.size)) : Nat) : Int) := by
  have hl : s.size ≤ (ls s).length := by rw [ls_len]; exact Nat.le_refl _
  intro d
  induction d with
  | zero =>
    intro i h1 h2
    obtain rfl : i = s.size := by omega
    refine Ev.step (fun _ => (by rw [calamusref05_Lead.l0])) ?_
    rw [blk_nil]
    exact Ev.neg (by omega) (Ev.ret rfl)
  | succ d ih =>
    intro i h1 h2
    by_cases he : i = s.size
    · exact ih i (by omega) h2
    · refine Ev.step (fun _ => (by rw [calamusref05_Lead.l0])) ?_
      rw [bt_nat s i (by omega), calamusref05_in.eq _ _ (by decide), w64 (n := (i : Int) + 1) (by omega) (by omega), show (i : Int) + 1 = ((i + 1 : Nat) : Int) by omega]
      simp only [Option.bind_some]
      refine Ev.pos (by omega) (Ev.pos (by omega) (Ev.ite (fun h => ?_) (fun h => ?_)))
      · rw [blk_yes (by omega) hl ((lead_in _).1 h), show i + (blk (rowL (ls s) (i + 1, s.size)) + 1) = i + 1 + blk (rowL (ls s) (i + 1, s.size)) by omega]
        exact ih (i + 1) (by omega) (by omega)
      · rw [blk_no (by omega) hl (fun hc => h ((lead_in _).2 hc))]
        exact Ev.ret rfl
theorem row_all (s : ByteArray) : rowL (ls s) (0, s.size) = ls s := by
  unfold rowL
  show ((ls s).drop 0).take (s.size - 0) = ls s
  rw [List.drop_zero, List.take_of_length_le (by rw [ls_len]; omega)]
theorem lives05_a : runI (ls ⟨#[97, 98, 43, 32, 99]⟩) 1 false = (0, 2) := by decide +kernel
theorem lives05_b : runI (ls ⟨#[97, 98, 43, 32, 99]⟩) 1 true = (0, 3) := by decide +kernel
theorem lives05c : calamuslaw05_lives.f = some true := by
  unfold calamuslaw05_lives.f
  rw [class_Run.eq _ _ _ (by decide), class_Run.eq _ _ _ (by decide), lives05_a, lives05_b]
  rfl
theorem lives05' : Ev (fun _ => calamuslaw05_lives.f.bind fun t => some t) true := ⟨0, fun _ _ => by rw [lives05c]; rfl⟩
theorem ClassLetters_p (s : ByteArray) (hs : s.size ≤ 140737488351232) : ∃ m, calamuslaw05_ClassLetters.f m s = some true := by
  refine Ev.at ?_
  unfold calamuslaw05_ClassLetters.f
  refine Ev.ite (fun _ => lives05') (fun h => ?_)
  have hz : s.size ≤ 100000 := by omega
  have eu : Ev (fun k => calamusref05_Up.f k s) (upS s) := by
    unfold calamusref05_Up.f
    exact Ev.bind (swap_ev s _ _ (fun b => b8 (upB b.toNat)) hz (by decide) (by decide) (by decide +kernel)) (Ev.ret rfl)
  have el : Ev (fun k => calamusref05_Low.f k s) (loS s) := by
    unfold calamusref05_Low.f
    exact Ev.bind (swap_ev s _ _ (fun b => b8 (loB b.toNat)) hz (by decide) (by decide) (by decide +kernel)) (Ev.ret rfl)
  have ef : Ev (fun k => calamusref05_Flip.f k s) (flS s) := by
    unfold calamusref05_Flip.f
    exact Ev.bind (swap_ev s _ _ (fun b => b8 (flB b.toNat)) hz (by decide) (by decide) (by decide +kernel)) (Ev.ret rfl)
  have vl : class_Lead.f s = some (blk (ls s) : Int) := by
    unfold class_Lead.f
    rw [strings_TrimLeft.eq _ _ ⟨by decide, by decide⟩]
    simp only [Option.bind_some]
    have hb := blk_le (ls s)
    rw [ls_len] at hb
    rw [trS_size _ _ rfl, w64 (by omega) (by omega)]
    congr 1; omega
  have rl : Ev (fun k => calamusref05_Lead.f k s) (blk (ls s) : Int) := by
    unfold calamusref05_Lead.f
    have := lead_l0 s hz s.size 0 (by omega) (by omega)
    rw [row_all, Nat.zero_add] at this
    exact this
  refine Ev.call (class_Up.eq s (by omega)) (Ev.bind eu (Ev.pos rfl (Ev.call (class_Low.eq s (by omega)) (Ev.bind el (Ev.pos rfl (Ev.call (class_Flip.eq s (by omega)) (Ev.bind ef (Ev.pos rfl (Ev.call vl (Ev.bind rl (Ev.pos rfl lives05')))))))))))
end Go.Proofs.YtgapekdcoedmgaaDoor
