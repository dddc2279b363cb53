/- The contracts of the reference calamusref05: classes. -/
import Derived.Test.YtgapekdcoedmgaaR4
import Derived.Test.YtgapekdcoedmgaaMC
namespace Go.Proofs.Ytgapekdcoedmgaa
open Go.RowKit
set_option linter.unusedVariables false
set_option linter.unusedSimpArgs false
def bsI (l : List UInt8) : List Int := l.map fun x => (x.toNat : Int)
theorem bsI_len (l : List UInt8) : (bsI l).length = l.length := by simp [bsI]
theorem bsI_at (s : ByteArray) (j : Nat) (h : j < s.size) : (bsI (ls s))[j]'(by rw [bsI_len, ls_len]; exact h) = ((s[j].toNat : Nat) : Int) := by
  have h' : j < (ls s).length := by rw [ls_len]; exact h
  simp only [bsI, List.getElem_map]
  rw [byL_eq s j h]; unfold byL; rw [List.getD_eq_getElem?_getD, List.getElem?_eq_getElem h']; rfl
set_option maxHeartbeats 4000000 in
set_option maxRecDepth 100000 in
theorem rin_c (s : ByteArray) (b : Int) (w : World) (hs : s.size ≤ 1152921504606846976) : Calls Try.prog 57 #[.string s, .int .u8 b] w fun e w' => e = .returned (.int .i64 (findF (bsI (ls s)) b 0)) ∧ Ext w w' := by
  go_enter Try.func57, Try.ntmps57
  go_wp2
  go_loopw [5] (fun i wr => ∃ k : Nat, k ≤ s.size ∧ i = .int .i64 k ∧ findF ((bsI (ls s)).drop k) b k = findF (bsI (ls s)) b 0 ∧ Ext w wr) (fun i _ => s.size - (intOf i).toNat)
  case atStart => exact ⟨0, by omega, rfl, by simp, (by (repeat (first | exact Ext.refl _ | exact ‹Ext _ _› | refine Ext.alloc ?_ _ | refine Ext.drew ?_ | refine Ext.drewN ?_ _ | (refine Ext.setCell ?_ (by first | omega | (simp; done) | (simp; omega)) _) | refine Ext.trans ?_ ‹Ext _ _›)))⟩
  case round =>
    obtain ⟨k, hk, rfl, hok, hx⟩ := hrel
    have Hok := Lib.hid hok
    clear hok
    by_cases hlt : k < s.size
    · have hb := bsI_at s k hlt
      have Hs := Lib.hid (findF_step (bsI (ls s)) b k (by rw [bsI_len, ls_len]; exact hlt))
      rw [hb] at Hs
      clear hb
      go_wp2
      all_goals (try simp only [beq_iff_eq, beq_eq_false_iff_ne] at *)
      · go_ret
        refine ⟨ret1 ?_, (by (repeat (first | exact Ext.refl _ | exact ‹Ext _ _› | refine Ext.alloc ?_ _ | refine Ext.drew ?_ | refine Ext.drewN ?_ _ | (refine Ext.setCell ?_ (by first | omega | (simp; done) | (simp; omega)) _) | refine Ext.trans ?_ ‹Ext _ _›)))⟩
        rw [← Hok.out, Hs.out, if_pos (by assumption)]
      · go_roundw
        case rel =>
          refine ⟨k + 1, by omega, by go_num, ?_, (by (repeat (first | exact Ext.refl _ | exact ‹Ext _ _› | refine Ext.alloc ?_ _ | refine Ext.drew ?_ | refine Ext.drewN ?_ _ | (refine Ext.setCell ?_ (by first | omega | (simp; done) | (simp; omega)) _) | refine Ext.trans ?_ ‹Ext _ _›)))⟩
          rw [← Hok.out, Hs.out, if_neg (by assumption)]
        case measure => (simp [intOf] <;> omega)
    · have Hs := Lib.hid (findF_end (bsI (ls s)) b k (by rw [bsI_len, ls_len]; omega))
      go_wp2
      go_ret
      exact ⟨ret1 (by rw [← Hok.out, Hs.out]), (by (repeat (first | exact Ext.refl _ | exact ‹Ext _ _› | refine Ext.alloc ?_ _ | refine Ext.drew ?_ | refine Ext.drewN ?_ _ | (refine Ext.setCell ?_ (by first | omega | (simp; done) | (simp; omega)) _) | refine Ext.trans ?_ ‹Ext _ _›)))⟩

def alnumB (b : Int) : Bool := lettB b || (decide (48 ≤ b) && decide (b ≤ 57)) || decide (b = 95)
def kindR (l : List UInt8) (big : Bool) : Int :=
  if l = [] then 0 else if l = [10] then 4 else if byL l 0 = 32 ∨ byL l 0 = 9 then 1 else if 1 < l.length ∨ big = true ∨ alnumB (byL l 0) = true then 2 else 3
theorem in_blank : ∀ n : Fin 256, decide (0 ≤ findF (bsI (ls ⟨#[32, 9]⟩)) (n.val : Int) 0) = (decide ((n.val : Int) = 32) || decide ((n.val : Int) = 9)) := by decide +kernel
def alnumL : ByteArray := ⟨#[97, 98, 99, 100, 101, 102, 103, 104, 105, 106, 107, 108, 109, 110, 111, 112, 113, 114, 115, 116, 117, 118, 119, 120, 121, 122, 65, 66, 67, 68, 69, 70, 71, 72, 73, 74, 75, 76, 77, 78, 79, 80, 81, 82, 83, 84, 85, 86, 87, 88, 89, 90, 48, 49, 50, 51, 52, 53, 54, 55, 56, 57, 95]⟩
theorem in_alnum : ∀ n : Fin 256, decide (0 ≤ findF (bsI (ls alnumL)) (n.val : Int) 0) = alnumB n.val := by decide +kernel
theorem in_blank' (x : UInt8) : 0 ≤ findF (bsI (ls ⟨#[32, 9]⟩)) ((x.toNat : Nat) : Int) 0 ↔ (((x.toNat : Nat) : Int) = 32 ∨ ((x.toNat : Nat) : Int) = 9) := by
  have h := in_blank ⟨x.toNat, x.toNat_lt⟩
  rw [Bool.eq_iff_iff] at h; simpa using h
theorem in_alnum' (x : UInt8) : 0 ≤ findF (bsI (ls alnumL)) ((x.toNat : Nat) : Int) 0 ↔ alnumB ((x.toNat : Nat) : Int) = true := by
  have h := in_alnum ⟨x.toNat, x.toNat_lt⟩
  rw [Bool.eq_iff_iff] at h; simpa using h
theorem ls_nil {s : ByteArray} (h : 0 < s.size) : ls s ≠ [] := by intro e; have := ls_len s; rw [e] at this; simp at this; omega
set_option maxHeartbeats 4000000 in
set_option maxRecDepth 100000 in
theorem rkind_c (s : ByteArray) (big : Bool) (w : World) (hs : s.size ≤ 1099511627775) : Calls Try.prog 38 #[.string s, .bool big] w fun e w' => e = .returned (.int .i64 (kindR (ls s) big)) ∧ Ext w w' := by
  rcases Nat.eq_zero_or_pos s.size with h0 | h0
  · have He := emp_t s h0
    have Hk : Hid (kindR (ls s) big = 0) := Lib.hid (by unfold kindR; rw [if_pos (by rw [← List.length_eq_zero_iff, ls_len]; exact h0)])
    clear h0
    go_enter Try.func38, Try.ntmps38
    go_wp2
    go_ret
    exact ⟨ret1 Hk.out.symm, (by (repeat (first | exact Ext.refl _ | exact ‹Ext _ _› | refine Ext.alloc ?_ _ | refine Ext.drew ?_ | refine Ext.drewN ?_ _ | (refine Ext.setCell ?_ (by first | omega | (simp; done) | (simp; omega)) _) | refine Ext.trans ?_ ‹Ext _ _›)))⟩
  have He := emp_f s h0
  rcases Bool.eq_false_or_eq_true (s.toList == [10]) with h10 | h10
  · have Hk : Hid (kindR (ls s) big = 4) := Lib.hid (by
      rw [Lib.toList_data, beq_iff_eq] at h10
      unfold kindR; rw [if_neg (ls_nil h0), if_pos h10])
    go_enter Try.func38, Try.ntmps38
    go_wp2
    go_ret
    exact ⟨ret1 Hk.out.symm, (by (repeat (first | exact Ext.refl _ | exact ‹Ext _ _› | refine Ext.alloc ?_ _ | refine Ext.drew ?_ | refine Ext.drewN ?_ _ | (refine Ext.setCell ?_ (by first | omega | (simp; done) | (simp; omega)) _) | refine Ext.trans ?_ ‹Ext _ _›)))⟩
  have Hb := Lib.hid (in_blank' s[0])
  have Ha := Lib.hid (in_alnum' s[0])
  have Hk : Hid (kindR (ls s) big = if ((s[0].toNat : Nat) : Int) = 32 ∨ ((s[0].toNat : Nat) : Int) = 9 then 1 else if 1 < s.size ∨ big = true ∨ alnumB ((s[0].toNat : Nat) : Int) = true then 2 else 3) := Lib.hid (by
    rw [Lib.toList_data, beq_eq_false_iff_ne] at h10
    unfold kindR; rw [if_neg (ls_nil h0), if_neg h10, byL_eq s 0 h0, ls_len])
  go_enter Try.func38, Try.ntmps38
  go_wp2_with (first | (go_at_call 57; refine (rin_c _ _ _ (by first | omega | decide)).mono ?_; rintro e w1 ⟨rfl, hx1⟩))
  all_goals (go_ret; refine ⟨ret1 ?_, (by (repeat (first | exact Ext.refl _ | exact ‹Ext _ _› | refine Ext.alloc ?_ _ | refine Ext.drew ?_ | refine Ext.drewN ?_ _ | (refine Ext.setCell ?_ (by first | omega | (simp; done) | (simp; omega)) _) | refine Ext.trans ?_ ‹Ext _ _›)))⟩; rw [Hk.out])
  all_goals first
    | (rw [if_pos (Hb.out.1 (by assumption))]; done)
    | (rw [if_neg (fun h => absurd (Hb.out.2 h) (by omega))]; first
        | (rw [if_pos (.inl (by omega))]; done)
        | (rw [if_pos (.inr (.inl (by assumption)))]; done)
        | (rw [if_pos (by rename _ ∨ _ => hq; rcases hq with h | h; exact .inl (by omega); exact .inr (.inr (Ha.out.1 h)))]; done)
        | (rw [if_neg (by rintro (h | h | h); omega; contradiction; exact absurd (Ha.out.2 h) (Int.not_le.2 (by rename _ ∧ _ => hq; exact hq.2)))]; done))

theorem byL_take (l : List UInt8) {n k : Nat} (h : k < n) : byL (l.take n) k = byL l k := by
  unfold byL; rw [List.getD_eq_getElem?_getD, List.getElem?_take_of_lt h, ← List.getD_eq_getElem?_getD]
/-- The class of the rune that stands at a place. -/
theorem runeL_at {l : List UInt8} {k : Nat} (h : placeB l k = true) (hk : k < l.length) : ∃ n, szL (l.drop k) = n ∧ 1 ≤ n ∧ runeL l k = (l.drop k).take n ∧ ((l.drop k).take n).length = n ∧ byL ((l.drop k).take n) 0 = byL l k := by
  obtain ⟨hz, hle⟩ := sz_at h hk
  refine ⟨szL (l.drop k), rfl, by omega, ?_, by rw [List.length_take, List.length_drop]; omega, ?_⟩
  · unfold runeL; rw [if_pos ⟨h, by omega⟩, Int.toNat_natCast]
  · rw [byL_take (l.drop k) (by omega), byL_drop]; rfl
theorem runeL_out {l : List UInt8} {p : Int} (h : ¬ (placeB l p = true ∧ p ≠ l.length)) : runeL l p = [] := by unfold runeL; rw [if_neg h]
theorem kindR_of (l : List UInt8) (p : Int) (big : Bool) : kindR (runeL l p) big = kindI l p big := by
  by_cases h : placeB l p = true ∧ p ≠ l.length
  · obtain ⟨h1, h2⟩ := h
    have h3 := h1
    unfold placeB at h3; simp only [Bool.and_eq_true, decide_eq_true_eq] at h3
    obtain ⟨k, rfl⟩ : ∃ k : Nat, p = k := ⟨p.toNat, by omega⟩
    have hk : k < l.length := by omega
    obtain ⟨n, hn, h1n, e1, e2, e3⟩ := runeL_at h1 hk
    have hc : clsI l k = ofB (byL l k) := by unfold clsI; rw [if_pos ⟨h1, by omega⟩, Int.toNat_natCast]
    obtain ⟨hz, _⟩ := sz_at h1 hk
    obtain ⟨_, h4, _, h5⟩ := szL_pos hz
    rw [byL_drop, Nat.add_zero, hn] at h4
    have hb0 := byL_lo l k
    have hb1 := byL_hi l k
    have key : n = 1 ↔ byL l k < 128 := by
      have : fSize (byL l k) = 1 ↔ byL l k < 128 := by unfold fSize; repeat' (first | omega | split)
      omega
    have hten : (l.drop k).take n = [10] ↔ byL l k = 10 := by
      constructor
      · intro e; rw [← e3, e]; rfl
      · intro e
        have : n = 1 := by omega
        subst this
        rw [List.drop_eq_getElem_cons hk]
        have := byL_ten hk
        rw [e] at this
        simp at this
        simp [this]
    rw [e1]
    unfold kindR kindI bigI
    rw [hc, if_neg (by intro e; rw [e] at e2; simp at e2; omega), e2, e3]
    simp only [hten]
    have hal : alnumB (byL l k) = true ↔ (lettB (byL l k) = true ∨ (48 ≤ byL l k ∧ byL l k ≤ 57) ∨ byL l k = 95) := by unfold alnumB; simp [or_assoc]
    simp only [hal]
    unfold ofB
    by_cases hP : lettB (byL l k) = true <;> cases big <;> simp [hP] <;> (repeat' split) <;> first | rfl | omega
  · rw [runeL_out h]
    have hc : clsI l p = 0 := by unfold clsI; rw [if_neg h]
    unfold kindI bigI; rw [hc]; cases big <;> rfl
set_option maxHeartbeats 4000000 in
set_option maxRecDepth 100000 in
theorem r5of_c (s : ByteArray) (p : Int) (big : Bool) (w : World) (hs : s.size ≤ 1099511627775) : Calls Try.prog 13 #[.string s, .int .i64 p, .bool big] w fun e w' => e = .returned (.int .i64 (kindI (ls s) p big)) ∧ Ext w w' := by
  have Hk := Lib.hid (kindR_of (ls s) p big)
  have Hl : Hid ((⟨(runeL (ls s) p).toArray⟩ : ByteArray).size ≤ 1099511627775) := Lib.hid (by
    rw [Lib.size_eq]; simp only [List.toList_toArray]
    unfold runeL; split
    · rw [List.length_take]; have := szL_hi ((ls s).drop p.toNat); omega
    · simp)
  go_enter Try.func13, Try.ntmps13
  go_wp2_with (first | (go_at_call 39; refine (rrune_c _ _ _ hs).mono ?_; rintro e w1 ⟨rfl, hx1⟩) | (go_at_call 38; refine (rkind_c _ _ _ Hl.out).mono ?_; rintro e w1 ⟨rfl, hx1⟩))
  go_ret
  exact ⟨ret1 Hk.out, (by (repeat (first | exact Ext.refl _ | exact ‹Ext _ _› | refine Ext.alloc ?_ _ | refine Ext.drew ?_ | refine Ext.drewN ?_ _ | (refine Ext.setCell ?_ (by first | omega | (simp; done) | (simp; omega)) _) | refine Ext.trans ?_ ‹Ext _ _›)))⟩

theorem dnI_at {l : List UInt8} {c : Int} {big : Bool} {a m f : Nat} (h : a ≤ m) : dnI l c big a (m + 1) f = if placeB l m = true then (if kindI l m big = c then dnI l c big a m m else f) else dnI l c big a m f := by rw [dnI, if_neg (by omega)]
theorem dnI_stop (l : List UInt8) (c : Int) (big : Bool) (a f : Nat) : dnI l c big a a f = f := by
  cases a with
  | zero => rfl
  | succ n => rw [dnI, if_pos (by omega)]
theorem upI_at {l : List UInt8} {c : Int} {big : Bool} {e i : Nat} {t : Int} (h : i < e) : upI l c big (e - i) i t = if placeB l i = true then (if kindI l i big = c then upI l c big (e - (i + 1)) (i + 1) (nextI l i) else t) else upI l c big (e - (i + 1)) (i + 1) t := by
  rw [show e - i = (e - (i + 1)) + 1 by omega, upI]
set_option maxHeartbeats 4000000 in
set_option maxRecDepth 100000 in
theorem r5run_c (s : ByteArray) (p : Int) (big : Bool) (w : World) (hs : s.size ≤ 1099511627775) : Calls Try.prog 11 #[.string s, .int .i64 p, .bool big] w fun e w' => e = .returned (.tuple #[.int .i64 (runI (ls s) p big).1, .int .i64 (runI (ls s) p big).2]) ∧ Ext w w' := by
  by_cases hc : kindI (ls s) p big = 0 ∨ kindI (ls s) p big = 4
  · have H1 : Hid ((runI (ls s) p big).1 = -1) := Lib.hid (by unfold runI; rw [if_pos hc])
    have H2 : Hid ((runI (ls s) p big).2 = -1) := Lib.hid (by unfold runI; rw [if_pos hc])
    rcases hc with hc | hc
    all_goals
      go_enter Try.func11, Try.ntmps11
      go_wp2_with (first | (go_at_call 13; refine (r5of_c _ _ _ _ hs).mono ?_; rintro e w1 ⟨rfl, hx1⟩))
      go_ret2
      exact ⟨ret2 ⟨H1.out.symm, H2.out.symm⟩, (by (repeat (first | exact Ext.refl _ | exact ‹Ext _ _› | refine Ext.alloc ?_ _ | refine Ext.drew ?_ | refine Ext.drewN ?_ _ | (refine Ext.setCell ?_ (by first | omega | (simp; done) | (simp; omega)) _) | refine Ext.trans ?_ ‹Ext _ _›)))⟩
  · have hkp : ∃ k : Nat, p = k ∧ k < (ls s).length ∧ placeB (ls s) k = true := by
      have hc0 : clsI (ls s) p ≠ 0 := by
        intro e; apply hc; left; unfold kindI bigI; rw [e]; cases big <;> simp
      unfold clsI at hc0
      by_cases hp : placeB (ls s) p = true ∧ p ≠ (ls s).length
      · have h1 := hp.1
        unfold placeB at h1; simp only [Bool.and_eq_true, decide_eq_true_eq] at h1
        have h2 := hp.2
        refine ⟨p.toNat, by omega, by omega, ?_⟩
        rw [Int.toNat_of_nonneg (by omega)]; exact hp.1
      · rw [if_neg hp] at hc0; exact absurd rfl hc0
    obtain ⟨k, rfl, hk, hp⟩ := hkp
    rw [ls_len] at hk
    obtain ⟨hpl, hle, hv⟩ := valid_at hp
    obtain ⟨e, q1, q2, q3, q4, q5, q6, q7⟩ := line_at hp
    rw [ls_len] at q5
    have hc0 : (kindI (ls s) k big == 0) = false := by simp; omega
    have hc4 : (kindI (ls s) k big == 4) = false := by simp; omega
    have Hr1 : Hid ((runI (ls s) k big).1 = (dnI (ls s) (kindI (ls s) k big) big (lst (ls s) k) k k : Nat)) := Lib.hid (by unfold runI; rw [if_neg hc, q1]; simp)
    have Hr2 : Hid ((runI (ls s) k big).2 = upI (ls s) (kindI (ls s) k big) big (e - k) k k) := Lib.hid (by unfold runI; rw [if_neg hc, q2]; simp)
    have Hv := Lib.hid hv
    have Hp := Lib.hid hp
    clear hc hpl hle hv hp q6 q7
    obtain ⟨a, ha⟩ : ∃ a, a = lst (ls s) k := ⟨_, rfl⟩
    rw [← ha] at q1 q3 Hr1
    clear ha
    go_enter Try.func11, Try.ntmps11
    go_wp2_with (first | (go_at_call 13; refine (r5of_c _ _ _ _ hs).mono ?_; rintro e w1 ⟨rfl, hx1⟩) | (go_at_call 29; refine (r4of_c _ _ _ hs).mono ?_; rintro e w1 ⟨rfl, hx1⟩) | (go_at_call 26; refine (r4start_c _ _ _ hs).mono ?_; rintro e w1 ⟨rfl, hx1⟩) | (go_at_call 28; refine (r4end_c _ _ _ hs).mono ?_; rintro e w1 ⟨rfl, hx1⟩) | (go_at_call 34; refine (rplace_c _ _ _ hs).mono ?_; rintro e w1 ⟨rfl, hx1⟩) | (go_at_call 35; refine (rnext_c _ _ _ hs).mono ?_; rintro e w1 ⟨rfl, hx1⟩))
    go_loopw [12, 10] (fun iv v wr => ∃ (j f : Nat), a ≤ j ∧ j ≤ k + 1 ∧ f ≤ k ∧ iv = .int .i64 ((j : Int) - 1) ∧ v = .int .i64 f ∧ dnI (ls s) (kindI (ls s) k big) big a j f = dnI (ls s) (kindI (ls s) k big) big a k k ∧ Ext w wr) (fun iv _ _ => (intOf iv + 1).toNat)
    case atStart =>
      refine ⟨k + 1, k, by omega, by omega, by omega, by go_num, rfl, ?_, (by (repeat (first | exact Ext.refl _ | exact ‹Ext _ _› | refine Ext.alloc ?_ _ | refine Ext.drew ?_ | refine Ext.drewN ?_ _ | (refine Ext.setCell ?_ (by first | omega | (simp; done) | (simp; omega)) _) | refine Ext.trans ?_ ‹Ext _ _›)))⟩
      rw [dnI_at q3, if_pos Hp.out, if_pos rfl]
    case round =>
      obtain ⟨j, f, hj1, hj2, hf, rfl, rfl, hok, hx⟩ := hrel
      have Hok := Lib.hid hok
      clear hok
      by_cases hlt : a < j
      · obtain ⟨m, rfl⟩ : ∃ m, j = m + 1 := ⟨j - 1, by omega⟩
        have G := Lib.hid (dnI_at (l := ls s) (c := kindI (ls s) k big) (big := big) (a := a) (m := m) (f := f) (by omega))
        have em : ((m + 1 : Nat) : Int) - 1 = (m : Int) := by omega
        rw [em]
        rcases Bool.eq_false_or_eq_true (placeB (ls s) m) with hpm | hpm
        · rcases Bool.eq_false_or_eq_true (kindI (ls s) m big == kindI (ls s) k big) with hkm | hkm
          · have G2 : Hid (dnI (ls s) (kindI (ls s) k big) big a (m + 1) f = dnI (ls s) (kindI (ls s) k big) big a m m) := Lib.hid (by rw [G.out, if_pos hpm, if_pos (by simpa using hkm)])
            clear G em
            go_wp2_with (first | (go_at_call 13; refine (r5of_c _ _ _ _ hs).mono ?_; rintro e w1 ⟨rfl, hx1⟩) | (go_at_call 29; refine (r4of_c _ _ _ hs).mono ?_; rintro e w1 ⟨rfl, hx1⟩) | (go_at_call 26; refine (r4start_c _ _ _ hs).mono ?_; rintro e w1 ⟨rfl, hx1⟩) | (go_at_call 28; refine (r4end_c _ _ _ hs).mono ?_; rintro e w1 ⟨rfl, hx1⟩) | (go_at_call 34; refine (rplace_c _ _ _ hs).mono ?_; rintro e w1 ⟨rfl, hx1⟩) | (go_at_call 35; refine (rnext_c _ _ _ hs).mono ?_; rintro e w1 ⟨rfl, hx1⟩))
            go_roundw
            case rel => exact ⟨m, m, by omega, by omega, by omega, by go_num, rfl, by rw [← G2.out]; exact Hok.out, (by (repeat (first | exact Ext.refl _ | exact ‹Ext _ _› | refine Ext.alloc ?_ _ | refine Ext.drew ?_ | refine Ext.drewN ?_ _ | (refine Ext.setCell ?_ (by first | omega | (simp; done) | (simp; omega)) _) | refine Ext.trans ?_ ‹Ext _ _›)))⟩
            case measure => (simp [intOf] <;> omega)
          · have Hd : Hid (dnI (ls s) (kindI (ls s) k big) big a k k = f) := Lib.hid (by rw [← Hok.out, G.out, if_pos hpm, if_neg (by simpa using hkm)])
            clear G em Hok
            go_wp2_with (first | (go_at_call 13; refine (r5of_c _ _ _ _ hs).mono ?_; rintro e w1 ⟨rfl, hx1⟩) | (go_at_call 29; refine (r4of_c _ _ _ hs).mono ?_; rintro e w1 ⟨rfl, hx1⟩) | (go_at_call 26; refine (r4start_c _ _ _ hs).mono ?_; rintro e w1 ⟨rfl, hx1⟩) | (go_at_call 28; refine (r4end_c _ _ _ hs).mono ?_; rintro e w1 ⟨rfl, hx1⟩) | (go_at_call 34; refine (rplace_c _ _ _ hs).mono ?_; rintro e w1 ⟨rfl, hx1⟩) | (go_at_call 35; refine (rnext_c _ _ _ hs).mono ?_; rintro e w1 ⟨rfl, hx1⟩))
            rename (kindI (ls s) (↑m) big != kindI (ls s) (↑k) big) = true => hq
            clear hkm hq hpm
            go_loopw [13, 11] (fun iv v wr => ∃ (i : Nat) (t : Int), k ≤ i ∧ i ≤ e ∧ iv = .int .i64 i ∧ v = .int .i64 t ∧ upI (ls s) (kindI (ls s) k big) big (e - i) i t = upI (ls s) (kindI (ls s) k big) big (e - k) k k ∧ Ext w wr) (fun iv _ _ => e - (intOf iv).toNat)
            case atStart => exact ⟨k, k, Nat.le_refl _, q4, rfl, rfl, rfl, (by (repeat (first | exact Ext.refl _ | exact ‹Ext _ _› | refine Ext.alloc ?_ _ | refine Ext.drew ?_ | refine Ext.drewN ?_ _ | (refine Ext.setCell ?_ (by first | omega | (simp; done) | (simp; omega)) _) | refine Ext.trans ?_ ‹Ext _ _›)))⟩
            case round =>
              obtain ⟨i, t, hi1, hi2, rfl, rfl, hok2, hx3⟩ := hrel
              have Hok2 := Lib.hid hok2
              clear hok2
              by_cases hlt2 : i < e
              · have G := Lib.hid (upI_at (l := ls s) (c := kindI (ls s) k big) (big := big) (t := t) hlt2)
                rcases Bool.eq_false_or_eq_true (placeB (ls s) i) with hpi | hpi
                · rcases Bool.eq_false_or_eq_true (kindI (ls s) i big == kindI (ls s) k big) with hki | hki
                  · have G2 : Hid (upI (ls s) (kindI (ls s) k big) big (e - i) i t = upI (ls s) (kindI (ls s) k big) big (e - (i + 1)) (i + 1) (nextI (ls s) i)) := Lib.hid (by rw [G.out, if_pos hpi, if_pos (by simpa using hki)])
                    clear G
                    go_wp2_with (first | (go_at_call 13; refine (r5of_c _ _ _ _ hs).mono ?_; rintro e w1 ⟨rfl, hx1⟩) | (go_at_call 29; refine (r4of_c _ _ _ hs).mono ?_; rintro e w1 ⟨rfl, hx1⟩) | (go_at_call 26; refine (r4start_c _ _ _ hs).mono ?_; rintro e w1 ⟨rfl, hx1⟩) | (go_at_call 28; refine (r4end_c _ _ _ hs).mono ?_; rintro e w1 ⟨rfl, hx1⟩) | (go_at_call 34; refine (rplace_c _ _ _ hs).mono ?_; rintro e w1 ⟨rfl, hx1⟩) | (go_at_call 35; refine (rnext_c _ _ _ hs).mono ?_; rintro e w1 ⟨rfl, hx1⟩))
                    go_roundw
                    case rel => exact ⟨i + 1, nextI (ls s) i, by omega, by omega, by go_num, rfl, by rw [← G2.out]; exact Hok2.out, (by (repeat (first | exact Ext.refl _ | exact ‹Ext _ _› | refine Ext.alloc ?_ _ | refine Ext.drew ?_ | refine Ext.drewN ?_ _ | (refine Ext.setCell ?_ (by first | omega | (simp; done) | (simp; omega)) _) | refine Ext.trans ?_ ‹Ext _ _›)))⟩
                    case measure => (simp [intOf] <;> omega)
                  · have G2 : Hid (upI (ls s) (kindI (ls s) k big) big (e - i) i t = t) := Lib.hid (by rw [G.out, if_pos hpi, if_neg (by simpa using hki)])
                    clear G
                    go_wp2_with (first | (go_at_call 13; refine (r5of_c _ _ _ _ hs).mono ?_; rintro e w1 ⟨rfl, hx1⟩) | (go_at_call 29; refine (r4of_c _ _ _ hs).mono ?_; rintro e w1 ⟨rfl, hx1⟩) | (go_at_call 26; refine (r4start_c _ _ _ hs).mono ?_; rintro e w1 ⟨rfl, hx1⟩) | (go_at_call 28; refine (r4end_c _ _ _ hs).mono ?_; rintro e w1 ⟨rfl, hx1⟩) | (go_at_call 34; refine (rplace_c _ _ _ hs).mono ?_; rintro e w1 ⟨rfl, hx1⟩) | (go_at_call 35; refine (rnext_c _ _ _ hs).mono ?_; rintro e w1 ⟨rfl, hx1⟩))
                    go_ret2
                    exact ⟨ret2 ⟨by rw [Hr1.out, Hd.out], by rw [Hr2.out, ← Hok2.out, G2.out]⟩, (by (repeat (first | exact Ext.refl _ | exact ‹Ext _ _› | refine Ext.alloc ?_ _ | refine Ext.drew ?_ | refine Ext.drewN ?_ _ | (refine Ext.setCell ?_ (by first | omega | (simp; done) | (simp; omega)) _) | refine Ext.trans ?_ ‹Ext _ _›)))⟩
                · have G2 : Hid (upI (ls s) (kindI (ls s) k big) big (e - i) i t = upI (ls s) (kindI (ls s) k big) big (e - (i + 1)) (i + 1) t) := Lib.hid (by rw [G.out, if_neg (by rw [hpi]; simp)])
                  clear G
                  go_wp2_with (first | (go_at_call 13; refine (r5of_c _ _ _ _ hs).mono ?_; rintro e w1 ⟨rfl, hx1⟩) | (go_at_call 29; refine (r4of_c _ _ _ hs).mono ?_; rintro e w1 ⟨rfl, hx1⟩) | (go_at_call 26; refine (r4start_c _ _ _ hs).mono ?_; rintro e w1 ⟨rfl, hx1⟩) | (go_at_call 28; refine (r4end_c _ _ _ hs).mono ?_; rintro e w1 ⟨rfl, hx1⟩) | (go_at_call 34; refine (rplace_c _ _ _ hs).mono ?_; rintro e w1 ⟨rfl, hx1⟩) | (go_at_call 35; refine (rnext_c _ _ _ hs).mono ?_; rintro e w1 ⟨rfl, hx1⟩))
                  go_roundw
                  case rel => exact ⟨i + 1, t, by omega, by omega, by go_num, rfl, by rw [← G2.out]; exact Hok2.out, (by (repeat (first | exact Ext.refl _ | exact ‹Ext _ _› | refine Ext.alloc ?_ _ | refine Ext.drew ?_ | refine Ext.drewN ?_ _ | (refine Ext.setCell ?_ (by first | omega | (simp; done) | (simp; omega)) _) | refine Ext.trans ?_ ‹Ext _ _›)))⟩
                  case measure => (simp [intOf] <;> omega)
              · have et : i = e := by omega
                subst et
                go_wp2_with (first | (go_at_call 13; refine (r5of_c _ _ _ _ hs).mono ?_; rintro e w1 ⟨rfl, hx1⟩) | (go_at_call 29; refine (r4of_c _ _ _ hs).mono ?_; rintro e w1 ⟨rfl, hx1⟩) | (go_at_call 26; refine (r4start_c _ _ _ hs).mono ?_; rintro e w1 ⟨rfl, hx1⟩) | (go_at_call 28; refine (r4end_c _ _ _ hs).mono ?_; rintro e w1 ⟨rfl, hx1⟩) | (go_at_call 34; refine (rplace_c _ _ _ hs).mono ?_; rintro e w1 ⟨rfl, hx1⟩) | (go_at_call 35; refine (rnext_c _ _ _ hs).mono ?_; rintro e w1 ⟨rfl, hx1⟩))
                go_ret2
                exact ⟨ret2 ⟨by rw [Hr1.out, Hd.out], by rw [Hr2.out, ← Hok2.out, Nat.sub_self]; rfl⟩, (by (repeat (first | exact Ext.refl _ | exact ‹Ext _ _› | refine Ext.alloc ?_ _ | refine Ext.drew ?_ | refine Ext.drewN ?_ _ | (refine Ext.setCell ?_ (by first | omega | (simp; done) | (simp; omega)) _) | refine Ext.trans ?_ ‹Ext _ _›)))⟩
        · have G2 : Hid (dnI (ls s) (kindI (ls s) k big) big a (m + 1) f = dnI (ls s) (kindI (ls s) k big) big a m f) := Lib.hid (by rw [G.out, if_neg (by rw [hpm]; simp)])
          clear G em
          go_wp2_with (first | (go_at_call 13; refine (r5of_c _ _ _ _ hs).mono ?_; rintro e w1 ⟨rfl, hx1⟩) | (go_at_call 29; refine (r4of_c _ _ _ hs).mono ?_; rintro e w1 ⟨rfl, hx1⟩) | (go_at_call 26; refine (r4start_c _ _ _ hs).mono ?_; rintro e w1 ⟨rfl, hx1⟩) | (go_at_call 28; refine (r4end_c _ _ _ hs).mono ?_; rintro e w1 ⟨rfl, hx1⟩) | (go_at_call 34; refine (rplace_c _ _ _ hs).mono ?_; rintro e w1 ⟨rfl, hx1⟩) | (go_at_call 35; refine (rnext_c _ _ _ hs).mono ?_; rintro e w1 ⟨rfl, hx1⟩))
          go_roundw
          case rel => exact ⟨m, f, by omega, by omega, by omega, by go_num, rfl, by rw [← G2.out]; exact Hok.out, (by (repeat (first | exact Ext.refl _ | exact ‹Ext _ _› | refine Ext.alloc ?_ _ | refine Ext.drew ?_ | refine Ext.drewN ?_ _ | (refine Ext.setCell ?_ (by first | omega | (simp; done) | (simp; omega)) _) | refine Ext.trans ?_ ‹Ext _ _›)))⟩
          case measure => (simp [intOf] <;> omega)
      · have ej : j = a := by omega
        subst ej
        have Hd : Hid (dnI (ls s) (kindI (ls s) k big) big j k k = f) := Lib.hid (by rw [← Hok.out]; exact dnI_stop _ _ _ _ _)
        clear Hok
        go_wp2_with (first | (go_at_call 13; refine (r5of_c _ _ _ _ hs).mono ?_; rintro e w1 ⟨rfl, hx1⟩) | (go_at_call 29; refine (r4of_c _ _ _ hs).mono ?_; rintro e w1 ⟨rfl, hx1⟩) | (go_at_call 26; refine (r4start_c _ _ _ hs).mono ?_; rintro e w1 ⟨rfl, hx1⟩) | (go_at_call 28; refine (r4end_c _ _ _ hs).mono ?_; rintro e w1 ⟨rfl, hx1⟩) | (go_at_call 34; refine (rplace_c _ _ _ hs).mono ?_; rintro e w1 ⟨rfl, hx1⟩) | (go_at_call 35; refine (rnext_c _ _ _ hs).mono ?_; rintro e w1 ⟨rfl, hx1⟩))
        go_loopw [13, 11] (fun iv v wr => ∃ (i : Nat) (t : Int), k ≤ i ∧ i ≤ e ∧ iv = .int .i64 i ∧ v = .int .i64 t ∧ upI (ls s) (kindI (ls s) k big) big (e - i) i t = upI (ls s) (kindI (ls s) k big) big (e - k) k k ∧ Ext w wr) (fun iv _ _ => e - (intOf iv).toNat)
        case atStart => exact ⟨k, k, Nat.le_refl _, q4, rfl, rfl, rfl, (by (repeat (first | exact Ext.refl _ | exact ‹Ext _ _› | refine Ext.alloc ?_ _ | refine Ext.drew ?_ | refine Ext.drewN ?_ _ | (refine Ext.setCell ?_ (by first | omega | (simp; done) | (simp; omega)) _) | refine Ext.trans ?_ ‹Ext _ _›)))⟩
        case round =>
          obtain ⟨i, t, hi1, hi2, rfl, rfl, hok2, hx3⟩ := hrel
          have Hok2 := Lib.hid hok2
          clear hok2
          by_cases hlt2 : i < e
          · have G := Lib.hid (upI_at (l := ls s) (c := kindI (ls s) k big) (big := big) (t := t) hlt2)
            rcases Bool.eq_false_or_eq_true (placeB (ls s) i) with hpi | hpi
            · rcases Bool.eq_false_or_eq_true (kindI (ls s) i big == kindI (ls s) k big) with hki | hki
              · have G2 : Hid (upI (ls s) (kindI (ls s) k big) big (e - i) i t = upI (ls s) (kindI (ls s) k big) big (e - (i + 1)) (i + 1) (nextI (ls s) i)) := Lib.hid (by rw [G.out, if_pos hpi, if_pos (by simpa using hki)])
                clear G
                go_wp2_with (first | (go_at_call 13; refine (r5of_c _ _ _ _ hs).mono ?_; rintro e w1 ⟨rfl, hx1⟩) | (go_at_call 29; refine (r4of_c _ _ _ hs).mono ?_; rintro e w1 ⟨rfl, hx1⟩) | (go_at_call 26; refine (r4start_c _ _ _ hs).mono ?_; rintro e w1 ⟨rfl, hx1⟩) | (go_at_call 28; refine (r4end_c _ _ _ hs).mono ?_; rintro e w1 ⟨rfl, hx1⟩) | (go_at_call 34; refine (rplace_c _ _ _ hs).mono ?_; rintro e w1 ⟨rfl, hx1⟩) | (go_at_call 35; refine (rnext_c _ _ _ hs).mono ?_; rintro e w1 ⟨rfl, hx1⟩))
                go_roundw
                case rel => exact ⟨i + 1, nextI (ls s) i, by omega, by omega, by go_num, rfl, by rw [← G2.out]; exact Hok2.out, (by (repeat (first | exact Ext.refl _ | exact ‹Ext _ _› | refine Ext.alloc ?_ _ | refine Ext.drew ?_ | refine Ext.drewN ?_ _ | (refine Ext.setCell ?_ (by first | omega | (simp; done) | (simp; omega)) _) | refine Ext.trans ?_ ‹Ext _ _›)))⟩
                case measure => (simp [intOf] <;> omega)
              · have G2 : Hid (upI (ls s) (kindI (ls s) k big) big (e - i) i t = t) := Lib.hid (by rw [G.out, if_pos hpi, if_neg (by simpa using hki)])
                clear G
                go_wp2_with (first | (go_at_call 13; refine (r5of_c _ _ _ _ hs).mono ?_; rintro e w1 ⟨rfl, hx1⟩) | (go_at_call 29; refine (r4of_c _ _ _ hs).mono ?_; rintro e w1 ⟨rfl, hx1⟩) | (go_at_call 26; refine (r4start_c _ _ _ hs).mono ?_; rintro e w1 ⟨rfl, hx1⟩) | (go_at_call 28; refine (r4end_c _ _ _ hs).mono ?_; rintro e w1 ⟨rfl, hx1⟩) | (go_at_call 34; refine (rplace_c _ _ _ hs).mono ?_; rintro e w1 ⟨rfl, hx1⟩) | (go_at_call 35; refine (rnext_c _ _ _ hs).mono ?_; rintro e w1 ⟨rfl, hx1⟩))
                go_ret2
                exact ⟨ret2 ⟨by rw [Hr1.out, Hd.out], by rw [Hr2.out, ← Hok2.out, G2.out]⟩, (by (repeat (first | exact Ext.refl _ | exact ‹Ext _ _› | refine Ext.alloc ?_ _ | refine Ext.drew ?_ | refine Ext.drewN ?_ _ | (refine Ext.setCell ?_ (by first | omega | (simp; done) | (simp; omega)) _) | refine Ext.trans ?_ ‹Ext _ _›)))⟩
            · have G2 : Hid (upI (ls s) (kindI (ls s) k big) big (e - i) i t = upI (ls s) (kindI (ls s) k big) big (e - (i + 1)) (i + 1) t) := Lib.hid (by rw [G.out, if_neg (by rw [hpi]; simp)])
              clear G
              go_wp2_with (first | (go_at_call 13; refine (r5of_c _ _ _ _ hs).mono ?_; rintro e w1 ⟨rfl, hx1⟩) | (go_at_call 29; refine (r4of_c _ _ _ hs).mono ?_; rintro e w1 ⟨rfl, hx1⟩) | (go_at_call 26; refine (r4start_c _ _ _ hs).mono ?_; rintro e w1 ⟨rfl, hx1⟩) | (go_at_call 28; refine (r4end_c _ _ _ hs).mono ?_; rintro e w1 ⟨rfl, hx1⟩) | (go_at_call 34; refine (rplace_c _ _ _ hs).mono ?_; rintro e w1 ⟨rfl, hx1⟩) | (go_at_call 35; refine (rnext_c _ _ _ hs).mono ?_; rintro e w1 ⟨rfl, hx1⟩))
              go_roundw
              case rel => exact ⟨i + 1, t, by omega, by omega, by go_num, rfl, by rw [← G2.out]; exact Hok2.out, (by (repeat (first | exact Ext.refl _ | exact ‹Ext _ _› | refine Ext.alloc ?_ _ | refine Ext.drew ?_ | refine Ext.drewN ?_ _ | (refine Ext.setCell ?_ (by first | omega | (simp; done) | (simp; omega)) _) | refine Ext.trans ?_ ‹Ext _ _›)))⟩
              case measure => (simp [intOf] <;> omega)
          · have et : i = e := by omega
            subst et
            go_wp2_with (first | (go_at_call 13; refine (r5of_c _ _ _ _ hs).mono ?_; rintro e w1 ⟨rfl, hx1⟩) | (go_at_call 29; refine (r4of_c _ _ _ hs).mono ?_; rintro e w1 ⟨rfl, hx1⟩) | (go_at_call 26; refine (r4start_c _ _ _ hs).mono ?_; rintro e w1 ⟨rfl, hx1⟩) | (go_at_call 28; refine (r4end_c _ _ _ hs).mono ?_; rintro e w1 ⟨rfl, hx1⟩) | (go_at_call 34; refine (rplace_c _ _ _ hs).mono ?_; rintro e w1 ⟨rfl, hx1⟩) | (go_at_call 35; refine (rnext_c _ _ _ hs).mono ?_; rintro e w1 ⟨rfl, hx1⟩))
            go_ret2
            exact ⟨ret2 ⟨by rw [Hr1.out, Hd.out], by rw [Hr2.out, ← Hok2.out, Nat.sub_self]; rfl⟩, (by (repeat (first | exact Ext.refl _ | exact ‹Ext _ _› | refine Ext.alloc ?_ _ | refine Ext.drew ?_ | refine Ext.drewN ?_ _ | (refine Ext.setCell ?_ (by first | omega | (simp; done) | (simp; omega)) _) | refine Ext.trans ?_ ‹Ext _ _›)))⟩

end Go.Proofs.Ytgapekdcoedmgaa
