/- Joined by merge.py out of this work's texts: PEnK. -/
import Derived.Test.YtnmcdkekflnekaaZEK1
import Derived.Test.YtnmcdkekflnekaaZEK2
/- The statement EntryKeeps in plain words. -/
namespace Go.Proofs.Ytnmcdkekflnekaa
open Go.RowKit
set_option linter.unusedVariables false
set_option linter.unusedSimpArgs false
namespace KP
open Go.RowKit Go.Proofs.Ytnmcdkekflnekaa.QK Go.Proofs.YtnmcdkekflnekaaW.PrintWords Go.Proofs.YtnmcdkekflnekaaW.PrintMore
theorem lst_lst (l : List UInt8) : ∀ i, lst l (lst l i) = lst l i
  | 0 => rfl
  | i + 1 => by
    by_cases h : byL l i = 10
    · have e : lst l (i + 1) = i + 1 := by rw [lst, if_pos h]
      rw [e, e]
    · have e : lst l (i + 1) = lst l i := by rw [lst, if_neg h]
      rw [e]; exact lst_lst l i
theorem lst_no (l : List UInt8) : ∀ q i, lst l q ≤ i → i < q → byL l i ≠ 10
  | 0, _, _, h => by omega
  | q + 1, i, h1, h2 => by
    by_cases h : byL l q = 10
    · have e : lst l (q + 1) = q + 1 := by rw [lst, if_pos h]
      omega
    · have e : lst l (q + 1) = lst l q := by rw [lst, if_neg h]
      rw [e] at h1
      by_cases he : i = q
      · subst he; exact h
      · exact lst_no l q i h1 (by omega)
theorem clamp_normal {l : List UInt8} {p : Int} (hv : validL l = true) : normalB l (clampI l p) = true := by
  have hq := downTo_place hv (cutI l p)
  have hqle := (valid_at hq).2.1
  unfold clampI
  rw [if_pos hv]
  show normalB l (if endsB l (downTo l (cutI l p)) = true ∧ lst l (downTo l (cutI l p)) < downTo l (cutI l p) then prevI l (downTo l (cutI l p) : Nat) else (downTo l (cutI l p) : Nat)) = true
  generalize downTo l (cutI l p) = q at hq hqle ⊢
  split
  · rename_i hc
    obtain ⟨h1, h2, _⟩ := prev_gap hv (q - 1) (by omega)
    have h3 := prev_ge hq (lst_place hv q hqle) hc.2
    rw [prevI_at hq (by omega)]
    unfold normalB
    rw [h2, Int.toNat_natCast]
    have : endsB l (prevFrom l (q - 1)) = false := by
      unfold endsB
      rw [decide_eq_false (by omega), decide_eq_false (lst_no l q _ h3 (by omega))]; rfl
    rw [this]; rfl
  · rename_i hc
    unfold normalB
    rw [hq, Int.toNat_natCast]
    have := lst_le l q
    cases he : endsB l q with
    | false => rfl
    | true => simp; rw [he] at hc; simp at hc; omega
theorem wbF_line {l : List UInt8} {f m : Nat} {pass : Int → Bool} (hm : lst l m = m) (hpm : placeB l m = true) (hpass : ∀ z : Nat, placeB l z = true → 0 < z → fedB l z = true → pass (prevI l z) = false) : ∀ (n k : Nat), placeB l k = true → m ≤ k → m ≤ wbF l f pass n k
  | 0, _, _, h => h
  | n + 1, k, hp, h => by
    unfold wbF
    split
    · rename_i hf
      split
      · rename_i hps
        rw [prevI_at hp (by omega), Int.toNat_natCast]
        obtain ⟨_, hle, hv⟩ := valid_at hp
        have hne : m ≠ k := by
          intro e
          subst e
          have := hpass m hp (by omega) ((fed_lst (by omega)).2 hm)
          rw [this] at hps; cases hps
        exact wbF_line hm hpm hpass n _ (prev_gap hv (k - 1) (by omega)).2.1 (prev_ge hp hpm (by omega))
      · exact h
    · exact h
theorem chop_back {l : List UInt8} {p f : Nat} (hp : placeB l p = true) (hf : placeB l f = true) (h : f < p) : chopQ l p f ≤ prevFrom l (p - 1) := by
  obtain ⟨_, hle, hv⟩ := valid_at hp
  obtain ⟨h1, h2, h3⟩ := prev_gap hv (p - 1) (by omega)
  by_cases hfd : fedB l p = true
  · unfold chopQ; rw [if_pos hfd, (fed_prev hp (by omega)).2 hfd]; exact Nat.le_refl _
  · have hpr := prevI_at hp (show 0 < p by omega)
    by_cases hb : clsI l (prevFrom l (p - 1) : Nat) = 1
    · have e : wbF l f (fun q => clsI l q == 1) (p + 1) p = wbF l f (fun q => clsI l q == 1) (prevFrom l (p - 1) + 1) (prevFrom l (p - 1)) := wbF_on h hpr (by omega) h2 (by simpa using hb)
      have h4 := wbF_place (l := l) (f := f) (pass := fun q => clsI l q == 1) (prevFrom l (p - 1) + 1) (prevFrom l (p - 1)) h2
      rw [← e] at h4
      unfold chopQ
      rw [if_neg hfd]
      split
      · exact h4.2
      · exact Nat.le_trans (wbF_place _ _ h4.1).2 h4.2
    · have e : wbF l f (fun q => clsI l q == 1) (p + 1) p = p := wbF_stop h hpr (by simpa using hb)
      unfold chopQ
      rw [if_neg hfd, e, if_neg (show ¬ (p ≤ f ∨ fedB l p = true) by simp only [not_or]; exact ⟨by omega, hfd⟩), wbF_on h hpr (by omega) h2 (by rw [hpr]; simp)]
      exact (wbF_place _ _ h2).2
theorem wipe_chop {l : List UInt8} {p f : Nat} (hp : placeB l p = true) (hf : placeB l f = true) (h : f < p) : ∃ z : Nat, wipeQ l p = z ∧ z ≤ p ∧ placeB l z = true ∧ max f z ≤ chopQ l p f := by
  obtain ⟨_, hle, hv⟩ := valid_at hp
  have hge := chopQ_ge hp hf h
  by_cases hfd : fedB l p = true
  · have hb := (fed_prev hp (by omega)).2 hfd
    refine ⟨p - 1, by unfold wipeQ; rw [if_pos hfd]; omega, by omega, ?_, ?_⟩
    · rw [← hb]; exact (prev_gap hv (p - 1) (by omega)).2.1
    · unfold chopQ at hge ⊢; rw [if_pos hfd] at hge ⊢; omega
  · obtain ⟨-, s2, -⟩ := start_of hle hv
    have hlp := lst_place hv p hle
    refine ⟨lst l p, by unfold wipeQ; rw [if_neg hfd, s2], lst_le l p, hlp, ?_⟩
    have hbl : ∀ z : Nat, placeB l z = true → 0 < z → fedB l z = true → (fun q => clsI l q == 1) (prevI l z) = false := fun z hz h0 hfz => by
      have := (fed_cls hz h0).1 hfz
      simp [this]
    have a1 := wbF_line (f := f) (pass := fun q => clsI l q == 1) (lst_lst l p) hlp hbl (p + 1) p hp (lst_le l p)
    have a2 := wbF_place (l := l) (f := f) (pass := fun q => clsI l q == 1) (p + 1) p hp
    have key : lst l p ≤ chopQ l p f := by
      unfold chopQ
      rw [if_neg hfd]
      split
      · exact a1
      · rename_i hc
        simp only [not_or] at hc
        refine wbF_line (lst_lst l p) hlp (fun z hz h0 hfz => ?_) _ _ a2.1 a1
        have e4 := (fed_cls hz h0).1 hfz
        have : ¬ clsI l (prevI l (wbF l f (fun q => clsI l q == 1) (p + 1) p : Nat)) = 4 := fun h5 => hc.2 ((fed_cls a2.1 (by omega)).2 h5)
        simp [e4]; omega
    omega
theorem lives_a : (cutF ⟨#[97, 98, 32, 32, 99, 100, 32]⟩ 7 0 (chopI (ls ⟨#[97, 98, 32, 32, 99, 100, 32]⟩) 7 0)).1.data.toList = [97, 98, 32, 32] := by decide +kernel
theorem lives_b : (cutF ⟨#[97, 98, 32, 32, 99, 100, 32]⟩ 7 0 (chopI (ls ⟨#[97, 98, 32, 32, 99, 100, 32]⟩) 7 0)).2 = (4, 0) := by decide +kernel
theorem lives_k : calamuslaw25_lives.f = some true := by
  unfold calamuslaw25_lives.f
  rw [entry_Chop.eq _ _ _ (by decide)]
  simp only [Option.bind_some]
  rw [toList_ls, if_pos lives_a, lives_b]
  simp
theorem lives' : Ev (fun _ => calamuslaw25_lives.f.bind fun t => some t) true := ⟨0, fun _ _ => by rw [lives_k]; rfl⟩
theorem leave_k (t : ByteArray) (p : Int) (ht : t.size ≤ 1000000) (hp : placeB (ls t) p = true) : ∃ x : Int, Ev (fun k => entry_Leave.f k t p) (clampI (ls t) x) := by
  unfold entry_Leave.f
  rw [utf_Place.eq t p (by omega)]
  simp only [Option.bind_some]
  obtain ⟨a, rfl, ha⟩ := place_nat hp
  rw [ls_len] at ha
  have kt : Ev (fun k => entry_Leave.j0 k t a true) (clampI (ls t) (prevI (ls t) a)) := by
    refine Ev.step (fun _ => (by rw [entry_Leave.j0])) ?_
    rw [utf_Prev.eq t a (by omega)]
    simp only [Option.bind_some]
    rw [line_Clamp.eq t _ (by omega)]
    exact Ev.pos trivial (Ev.ret rfl)
  have kf : Ev (fun k => entry_Leave.j0 k t a false) (clampI (ls t) a) := by
    refine Ev.step (fun _ => (by rw [entry_Leave.j0])) ?_
    rw [line_Clamp.eq t _ (by omega)]
    exact Ev.neg (by decide) (Ev.ret rfl)
  by_cases h : (a : Int) > 0
  · have hf : entry_fed.f t a = some (fedB (ls t) a) := by
      unfold entry_fed.f
      rw [w64 (n := (a : Int) - 1) (by omega) (by omega), if_pos h, if_pos (show (0 : Int) ≤ (a : Int) - 1 by omega), if_pos (show (a : Int) - 1 < t.size by omega), show (a : Int) - 1 = ((a - 1 : Nat) : Int) by omega, bt_nat t _ (by omega)]
      unfold fedB
      rw [show decide (0 < a) = true from decide_eq_true (by omega), Bool.true_and]
      rfl
    rw [hf]
    simp only [Option.bind_some]
    cases hb : fedB (ls t) a with
    | true => exact ⟨_, Ev.pos hp (Ev.pos h kf)⟩
    | false => exact ⟨_, Ev.pos hp (Ev.pos h kt)⟩
  · exact ⟨_, Ev.pos hp (Ev.neg h kf)⟩
theorem kept_text {t : ByteArray} {p f q : Nat} {z : Nat} (hz : max f q = z) : (cutS t p f q).toList = ((t.extract 0 (z : Int).toNat) ++ (t.extract (p : Int).toNat t.size)).toList := by
  unfold cutS; rw [hz]; rfl
theorem keeps_l0 (t : ByteArray) (a b x y v : Nat) (tb tc tw : ByteArray) (ht : t.size ≤ 1000) (h1 : b ≤ v) (h2 : v ≤ y) (h3 : y ≤ x) (h4 : x < a) (h5 : a ≤ t.size) (px : placeB (ls t) x = true) (py : placeB (ls t) y = true) (pv : placeB (ls t) v = true)
    (e1 : tb.toList = ((t.extract 0 (x : Int).toNat) ++ (t.extract (a : Int).toNat t.size)).toList) (e2 : tc.toList = ((t.extract 0 (y : Int).toNat) ++ (t.extract (a : Int).toNat t.size)).toList) (e3 : tw.toList = ((t.extract 0 (v : Int).toNat) ++ (t.extract (a : Int).toNat t.size)).toList) :
    Ev (fun k => calamuslaw25_EntryKeeps.l0 k t a b tb x tc y tw v [(x : Int), y, v] 3 0) true := by
  have sz : ∀ i : Nat, i ≤ t.size → (t.extract 0 (i : Int).toNat).size + (t.extract (a : Int).toNat t.size).size ≤ 9223372036854775807 := by
    intro i hi; simp only [ByteArray.size_extract]; omega
  have r3 : Ev (fun k => calamuslaw25_EntryKeeps.l0 k t a b tb x tc y tw v [(x : Int), y, v] 3 3) true := by
    refine Ev.step (fun _ => (by rw [calamuslaw25_EntryKeeps.l0])) ?_
    exact Ev.neg (by omega) (Ev.pos (by omega) (Ev.pos (by omega) (Ev.pos (by omega) (Ev.pos (by omega) (Ev.pos (sz x (by omega)) (Ev.pos e1 (Ev.pos (by omega) (Ev.pos (by omega) (Ev.pos (sz y (by omega)) (Ev.pos e2 (Ev.pos (by omega) (Ev.pos (by omega) (Ev.pos (sz v (by omega)) (Ev.pos e3 (Ev.pos (by omega) (Ev.pos (by omega) lives'))))))))))))))))
  have round : ∀ (i : Int) (j : Nat), 0 ≤ i → i < 3 → rd [(x : Int), y, v] i = (j : Int) → b ≤ j → j < a → placeB (ls t) j = true → Ev (fun k => calamuslaw25_EntryKeeps.l0 k t a b tb x tc y tw v [(x : Int), y, v] 3 (i + 1)) true → Ev (fun k => calamuslaw25_EntryKeeps.l0 k t a b tb x tc y tw v [(x : Int), y, v] 3 i) true := by
    intro i j hi0 hi3 hr hbj hja hpj hn
    refine Ev.step (fun _ => (by rw [calamuslaw25_EntryKeeps.l0])) ?_
    rw [hr, utf_Place.eq t j (by omega), w64 (n := i + 1) (by omega) (by omega)]
    simp only [Option.bind_some]
    exact Ev.pos hi3 (Ev.pos hi0 (Ev.pos (show i < (([(x : Int), y, v] : List Int).length : Int) from hi3) (Ev.neg (by omega) (Ev.neg (by omega) (Ev.pos hpj hn)))))
  exact round 0 x (by omega) (by omega) rfl (by omega) h4 px (round 1 y (by omega) (by omega) rfl (by omega) (by omega) py (round 2 v (by omega) (by omega) rfl h1 (by omega) pv r3))
theorem EntryKeeps_p (t : ByteArray) (p f : Int) (ht : t.size ≤ 140737488351232) (hp : -9223372036854775808 ≤ p ∧ p ≤ 9223372036854775807) (hf : -9223372036854775808 ≤ f ∧ f ≤ 9223372036854775807) : ∃ k, calamuslaw25_EntryKeeps.f k t p f = some true := by
  refine Ev.at ?_
  unfold calamuslaw25_EntryKeeps.f
  refine Ev.ite (fun h => lives') (fun h => ?_)
  have hz : t.size ≤ 1000 := by omega
  have vb : entry_Back.f t p f = some (cutF t p f (backQ (ls t) p f)) := entry_Back.eq t p f (by omega)
  have vc : entry_Chop.f t p f = some (cutF t p f (chopI (ls t) p f)) := entry_Chop.eq t p f (by omega)
  have vw : entry_Wipe.f t p f = some (cutF t p f (wipeI (ls t) p f)) := entry_Wipe.eq t p f (by omega)
  refine Ev.call vb (Ev.call vc (Ev.call vw ?_))
  -- what stands behind the first test
  have j0 : ∀ (a7 : ByteArray) (x8 x9 : Int) (a10 : ByteArray) (x11 : Int) (a13 : ByteArray) (x14 : Int), Ev (fun k => calamuslaw25_EntryKeeps.j1 k t p f a7 x8 x9 a10 x11 a13 x14 false) true → Ev (fun k => calamuslaw25_EntryKeeps.j0 k t p f a7 x8 x9 a10 x11 a13 x14 false) true := by
    intro a7 x8 x9 a10 x11 a13 x14 hj
    refine Ev.step (fun _ => (by rw [calamuslaw25_EntryKeeps.j0])) ?_
    rw [utf_Place.eq t p (by omega)]
    simp only [Option.bind_some]
    refine Ev.neg (by decide) (Ev.ite (fun hpl => ?_) (fun _ => hj))
    obtain ⟨x, hx⟩ := leave_k t p (by omega) hpl
    refine Ev.bind hx (Ev.call (line_Normal.eq t _ (by omega)) ?_)
    rw [clamp_normal (by obtain ⟨a, rfl, _⟩ := place_nat hpl; exact (valid_at hpl).2.2)]
    exact hj
  by_cases hw : wrgI (ls t) p f = 0
  · obtain ⟨a, b, rfl, rfl, ha, hb, hlt, hle⟩ := cut_yes hw
    obtain ⟨_, _, hv⟩ := valid_at ha
    obtain ⟨h1, h2, h3⟩ := prev_gap hv (a - 1) (by rw [ls_len]; omega)
    have g1 := prev_ge ha hb hlt
    have g2 := chop_back ha hb hlt
    have g3 := chopQ_ge ha hb hlt
    obtain ⟨z, z1, z2, z3, z4⟩ := wipe_chop ha hb hlt
    have eb : cutF t a b (backQ (ls t) a b) = (cutS t a b (prevFrom (ls t) (a - 1)), ((prevFrom (ls t) (a - 1) : Nat) : Int), 0) := by
      unfold backQ; rw [prevI_at ha (by omega), cutF_ok ha hb hlt, Nat.max_eq_right g1]
    have ec : cutF t a b (chopI (ls t) a b) = (cutS t a b (chopQ (ls t) a b), ((chopQ (ls t) a b : Nat) : Int), 0) := by
      unfold chopI; rw [Int.toNat_natCast, Int.toNat_natCast, cutF_ok ha hb hlt, Nat.max_eq_right g3]
    have ew : cutF t a b (wipeI (ls t) a b) = (cutS t a b z, ((max b z : Nat) : Int), 0) := by
      unfold wipeI; rw [Int.toNat_natCast, z1, cutF_ok ha hb hlt]
    have pm : placeB (ls t) (max b z : Nat) = true := by
      rcases Nat.le_total b z with hbz | hbz
      · rw [Nat.max_eq_right hbz]; exact z3
      · rw [Nat.max_eq_left hbz]; exact hb
    have pc : placeB (ls t) (chopQ (ls t) a b : Nat) = true := by
      have q1 := wbF_place (l := ls t) (f := b) (pass := fun q => clsI (ls t) q == 1) (a + 1) a ha
      unfold chopQ
      split
      · rename_i hfd
        rw [← (fed_prev ha (by omega)).2 hfd]; exact h2
      · split
        · exact q1.1
        · exact (wbF_place _ _ q1.1).1
    have tb := kept_text (t := t) (p := a) (f := b) (Nat.max_eq_right g1)
    have tc := kept_text (t := t) (p := a) (f := b) (Nat.max_eq_right g3)
    have tw := kept_text (t := t) (p := a) (f := b) (q := z) rfl
    rw [eb, ec, ew]
    refine Ev.pos rfl ?_
    simp only [bne_self_eq_false]
    refine j0 _ _ _ _ _ _ _ ?_
    refine Ev.step (fun _ => (by rw [calamuslaw25_EntryKeeps.j1])) ?_
    refine Ev.neg (by decide) (Ev.pos rfl (Ev.call rfl ?_))
    exact keeps_l0 t a b (prevFrom (ls t) (a - 1)) (chopQ (ls t) a b) (max b z) _ _ _ hz (Nat.le_max_left _ _) z4 g2 (by omega) hle h2 pc pm tb tc tw
  · have eb := cut_no (Q := backQ (ls t) p f) hw
    have ec := cut_no (Q := chopI (ls t) p f) hw
    have ew := cut_no (Q := wipeI (ls t) p f) hw
    rw [eb, ec, ew]
    refine Ev.pos rfl ?_
    simp only [bne_self_eq_false]
    refine j0 _ _ _ _ _ _ _ ?_
    refine Ev.step (fun _ => (by rw [calamuslaw25_EntryKeeps.j1])) ?_
    exact Ev.neg (by decide) (Ev.neg hw (Ev.pos (by rw [toList_ls]) (Ev.pos (by rw [toList_ls]) (Ev.pos (by rw [toList_ls]) (Ev.pos rfl (Ev.pos rfl (Ev.pos rfl lives')))))))
end KP
end Go.Proofs.Ytnmcdkekflnekaa
