/- Joined by merge.py out of this work's texts: PPc, PPl, PPd. -/
import Derived.Test.YtckfdehendifoaaDoorZPO2
import Derived.Test.YtckfdehendifoaaDoorZPO1
/- Flip and Over of layer 24 in plain words (MOD QP). -/
namespace Go.Proofs.YtckfdehendifoaaDoor
open Go.RowKit
set_option linter.unusedVariables false
set_option linter.unusedSimpArgs false
open Go.RowKit Go.Proofs.YtckfdehendifoaaDoor.QP Go.Proofs.YtckfdehendifoaaDoorW.PrintWords Go.Proofs.YtckfdehendifoaaDoorW.PrintMore
theorem size_flS' (s : ByteArray) : (flS s).size = s.size := size_flS s
theorem last_rd {R : List Int} {x : Int} (h : R.getLast? = some x) : rd R ((R.length : Int) - 1) = x ∧ R ≠ [] := by
  have hne : R ≠ [] := by rintro rfl; simp at h
  have hl : 0 < R.length := List.length_pos_iff.2 hne
  refine ⟨?_, hne⟩
  rw [show (R.length : Int) - 1 = ((R.length - 1 : Nat) : Int) by omega, rd_getD, List.getD_eq_getElem?_getD, ← List.getLast?_eq_getElem?, h]; rfl
theorem rsome_ev (t : ByteArray) {p e : Nat} (n : Int) (ht : t.size ≤ 1000000) (hp : placeB (ls t) p = true) (he : endI (ls t) (ofI (ls t) p) = e) : ∃ R, Ev (fun K => calamusref24_some.f K t p n) R ∧ (R.length : Int) = min (max n 1) (restN (ls t) p e) ∧ (R ≠ [] → nextI (ls t) (rd R ((R.length : Int) - 1)) = vAt (ls t) e p (max n 1)) := by
  obtain ⟨e', _, _, k3, k4, k5, k6, k7, k8⟩ := line_pair hp
  rw [ls_len] at k6
  obtain ⟨R, r1, r2, r3⟩ := some_ev t e (max n 1) ht _ p [] (Nat.le_refl _) (by omega) hp he (by simp; omega) (by simp; omega) (fun h => absurd rfl h)
  refine ⟨R, ?_, by rw [r2]; simp, fun h => ?_⟩
  · unfold calamusref24_some.f
    refine Ev.ite (fun h => ?_) (fun h => ?_)
    · refine Ev.step (fun _ => (by rw [calamusref24_some.j0])) ?_
      rw [show max n 1 = 1 by omega] at r1; exact r1
    · refine Ev.step (fun _ => (by rw [calamusref24_some.j0])) ?_
      rw [show max n 1 = n by omega] at r1; exact r1
  · obtain ⟨x, x1, x2⟩ := r3 h
    rw [(last_rd x1).1, x2]; simp
theorem flips_ev (t : ByteArray) (p n : Int) (ht : t.size ≤ 100000) (hn : -9223372036854775808 ≤ n ∧ n ≤ 9223372036854775807) : ∃ X : ByteArray × Int × Int, Ev (fun K => paste_Flip.f K t p n) X ∧ Ev (fun K => calamusref24_Flip.f K t p n) X := by
  rcases place_cases t p with hf | ⟨q, rfl, hle, hp, hv⟩
  · refine ⟨(⟨#[]⟩, 0, 1), ?_, ?_⟩
    · unfold paste_Flip.f
      exact Ev.call (utf_Place.eq t p (by omega)) (Ev.neg (by rw [hf]; simp) (Ev.ret rfl))
    · unfold calamusref24_Flip.f
      exact Ev.call (calamusref03_Place.eq t p (by omega)) (Ev.neg (by rw [hf]; simp) (Ev.ret rfl))
  · obtain ⟨e, k1, k2, k3, k4, k5, k6, k7, k8⟩ := line_pair hp
    obtain ⟨R, r1, r2, r3⟩ := rsome_ev t n (by omega) hp k3
    rw [ls_len] at k6
    by_cases hqe : q = e
    · refine ⟨(⟨#[]⟩, 0, 10), ?_, ?_⟩
      · unfold paste_Flip.f
        exact Ev.call (utf_Place.eq t q (by omega)) (Ev.pos hp (Ev.call (stop_val t hp k3 (by omega)) (Ev.pos (by simpa using hqe) (Ev.ret rfl))))
      · unfold calamusref24_Flip.f
        rw [hqe, rest_end] at r2
        exact Ev.call (calamusref03_Place.eq t q (by omega)) (Ev.pos hp (Ev.bind r1 (Ev.pos (by omega) (Ev.ret rfl))))
    · have hlt : q < e := by omega
      have hrp := rest_pos hp k3 hlt
      obtain ⟨v, v1, v2, v3, v4⟩ := vAt_in k8 _ q (max n 1) (Nat.le_refl _) k5 hp
      have hz : (flS (t.extract q v)).size = v - q := by rw [size_flS', ByteArray.size_extract]; omega
      have z1 : (t.extract 0 q).size = q := by rw [ByteArray.size_extract]; omega
      have z2 : (t.extract v t.size).size = t.size - v := by rw [ByteArray.size_extract]; omega
      have hcs : ((t.extract 0 q ++ flS (t.extract q v)) ++ t.extract v t.size).size = t.size := by rw [ByteArray.size_append, ByteArray.size_append, z1, z2, hz]; omega
      refine ⟨((t.extract 0 q ++ flS (t.extract q v)) ++ t.extract v t.size, clampI (ls ((t.extract 0 q ++ flS (t.extract q v)) ++ t.extract v t.size)) v, 0), ?_, ?_⟩
      · unfold paste_Flip.f
        refine Ev.call (utf_Place.eq t q (by omega)) (Ev.pos hp (Ev.call (stop_val t hp k3 (by omega)) (Ev.neg (by simpa using hqe) ?_)))
        have hb := behind_ev t e (max n 1) (by omega) (by omega) _ q 0 (Nat.le_refl _) k5 hp k3 (by omega) (by omega) (by omega)
        rw [mx_eq]
        rw [show max n 1 - 0 = max n 1 by omega, v1] at hb
        have hb' : Ev (fun K => paste_behind.f K t q (max n 1)) _ := hb
        refine Ev.bind hb' ?_
        refine Ev.pos (by omega) (Ev.pos (by omega) (Ev.pos (by show (q : Int) ≤ v; omega) (Ev.pos (by show (v : Int) ≤ t.size; omega) ?_)))
        rw [Int.toNat_natCast, Int.toNat_natCast]
        refine Ev.call (class_Flip.eq _ (by rw [ByteArray.size_extract]; omega)) (Ev.pos (by rw [z1, hz]; omega) (Ev.pos (by show 0 ≤ (v : Int); omega) (Ev.pos (by rw [ByteArray.size_append, z1, z2, hz]; omega) ?_)))
        exact Ev.call (line_Clamp.eq _ _ (by rw [hcs]; omega)) (Ev.ret rfl)
      · unfold calamusref24_Flip.f
        have hR : R ≠ [] := by rintro rfl; simp at r2; omega
        have hRl : 0 < R.length := List.length_pos_iff.2 hR
        have hRb : (R.length : Int) ≤ t.size := by
          have := rest_le (l := ls t) k5 (by rw [ls_len]; exact k6); omega
        refine Ev.call (calamusref03_Place.eq t q (by omega)) (Ev.pos hp (Ev.bind r1 (Ev.neg (by omega) ?_)))
        rw [w64 (n := (R.length : Int) - 1) (by omega) (by omega)]
        refine Ev.pos (by omega) (Ev.pos (by omega) (Ev.call (calamusref03_Next.eq t _ (by omega)) ?_))
        rw [r3 hR, v1]
        refine Ev.pos (by omega) (Ev.pos (by omega) (Ev.pos (by omega) (Ev.pos (by omega) ?_)))
        rw [Int.toNat_natCast, Int.toNat_natCast]
        refine Ev.bind (rflip_ev _ (by rw [ByteArray.size_extract]; omega)) (Ev.pos (by rw [z1, hz]; omega) (Ev.pos (by omega) (Ev.pos (by rw [ByteArray.size_append, z1, z2, hz]; omega) ?_)))
        exact Ev.bind (rclamp_ev' _ _ (by rw [hcs]; omega)) (Ev.ret rfl)
theorem ksign_val (k : ByteArray) (hk : k.size ≤ 140737488351232) : key_Sign.f k = some (isL (ls k) && (decide (k.size > 1) || (decide (bt k 0 ≥ 32) && decide (bt k 0 ≤ 126)))) := by
  unfold key_Sign.f
  rw [utf_Count.eq k hk, Option.bind_some, is_cnt]
  by_cases hc : countI (ls k) = 1
  · rw [if_pos hc, decide_eq_true hc, Bool.true_and]
    have hpos : 0 < k.size := by
      rcases Nat.eq_zero_or_pos k.size with h | h
      · have : ls k = [] := List.eq_nil_of_length_eq_zero (by rw [ls_len]; exact h)
        rw [this] at hc; exact absurd hc (by decide)
      · exact h
    by_cases h1 : (k.size : Int) > 1
    · rw [if_pos h1, decide_eq_true (show k.size > 1 by omega), Bool.true_or]
    · rw [if_neg h1, if_pos (by omega), decide_eq_false (show ¬ k.size > 1 by omega), Bool.false_or]
      by_cases h2 : bt k 0 ≥ 32
      · rw [if_pos h2, decide_eq_true h2, Bool.true_and]
        congr 1; exact decide_eq_decide.2 (by omega)
      · rw [if_neg h2, decide_eq_false h2, Bool.false_and]
  · rw [if_neg hc, decide_eq_false hc, Bool.false_and]
theorem rsign_val (k : ByteArray) : calamusref13_Sign.f k = some (isL (ls k) && (decide (k.size > 1) || (decide (bt k 0 ≥ 32) && decide (bt k 0 ≤ 126)))) := by
  unfold calamusref13_Sign.f
  rw [calamusref03_Is.eq k, Option.bind_some]
  cases hc : isL (ls k) with
  | true =>
    rw [if_pos rfl, Bool.true_and]
    have hpos : 0 < k.size := by
      rcases Nat.eq_zero_or_pos k.size with h | h
      · rw [is_none _ (by rw [ls_len]; exact h)] at hc; cases hc
      · exact h
    by_cases h1 : (k.size : Int) > 1
    · rw [if_pos h1, decide_eq_true (show k.size > 1 by omega), Bool.true_or]
    · rw [if_neg h1, if_pos (by omega), decide_eq_false (show ¬ k.size > 1 by omega), Bool.false_or]
      by_cases h2 : bt k 0 ≥ 32
      · rw [if_pos h2, decide_eq_true h2, Bool.true_and]
      · rw [if_neg h2, decide_eq_false h2, Bool.false_and]
  | false => rw [if_neg (by simp), Bool.false_and]
theorem rover_l0 (t k : ByteArray) (R : List Int) (p v : Nat) (hR : R ≠ []) (hRl : R.length ≤ 100000) (ht : t.size ≤ 100000) (hk : k.size ≤ 4) (hp : p ≤ t.size) (hv : v ≤ t.size) (hn : nextI (ls t) (rd R ((R.length : Int) - 1)) = v) :
    ∀ (d i : Nat), R.length - i ≤ d → i ≤ R.length → Ev (fun K => calamusref24_Over.l0 K t k R (t.extract 0 p ++ repT k ⟨#[]⟩ i) (if i = 0 then p else p + (i - 1 : Nat) * k.size : Nat) i)
      (if p + R.length * k.size + (t.size - v) > 4096 then (⟨#[]⟩, 0, 8) else ((t.extract 0 p ++ repT k ⟨#[]⟩ R.length) ++ t.extract v t.size, ((p + (R.length - 1) * k.size : Nat) : Int), 0)) := by
  have hRp : 0 < R.length := List.length_pos_iff.2 hR
  have z1 : (t.extract 0 p).size = p := by rw [ByteArray.size_extract]; omega
  have z2 : (t.extract v t.size).size = t.size - v := by rw [ByteArray.size_extract]; omega
  have hmul : ∀ i, i ≤ R.length → i * k.size ≤ 400000 := fun i hi => Nat.le_trans (Nat.mul_le_mul (by omega : i ≤ 100000) hk) (by decide)
  have last : Ev (fun K => calamusref24_Over.l0 K t k R (t.extract 0 p ++ repT k ⟨#[]⟩ R.length) (if R.length = 0 then p else p + (R.length - 1 : Nat) * k.size : Nat) R.length)
      (if p + R.length * k.size + (t.size - v) > 4096 then (⟨#[]⟩, 0, 8) else ((t.extract 0 p ++ repT k ⟨#[]⟩ R.length) ++ t.extract v t.size, ((p + (R.length - 1) * k.size : Nat) : Int), 0)) := by
    have hm := hmul R.length (Nat.le_refl _)
    have zs : ((t.extract 0 p ++ repT k ⟨#[]⟩ R.length) ++ t.extract v t.size).size = p + R.length * k.size + (t.size - v) := by rw [ByteArray.size_append, ByteArray.size_append, z1, z2, size_rep0]
    refine Ev.step (fun _ => (by rw [calamusref24_Over.l0])) ?_
    refine Ev.neg (by omega) ?_
    rw [w64 (n := (R.length : Int) - 1) (by omega) (by omega)]
    refine Ev.pos (by omega) (Ev.pos (by omega) (Ev.call (calamusref03_Next.eq t _ (by omega)) ?_))
    rw [hn]
    refine Ev.pos (by omega) (Ev.pos (by omega) (Ev.pos (by rw [Int.toNat_natCast, z2, ByteArray.size_append, z1, size_rep0]; omega) ?_))
    rw [Int.toNat_natCast, if_neg (show ¬ R.length = 0 by omega)]
    by_cases hb : p + R.length * k.size + (t.size - v) > 4096
    · rw [if_pos hb]
      exact Ev.pos (by rw [zs]; omega) (Ev.ret rfl)
    · rw [if_neg hb]
      exact Ev.neg (by rw [zs]; omega) (Ev.ret rfl)
  intro d
  induction d with
  | zero => intro i h1 h2; obtain rfl : i = R.length := by omega
            exact last
  | succ d ih =>
    intro i h1 h2
    by_cases he : i = R.length
    · subst he; exact last
    · have hm := hmul i h2
      refine Ev.step (fun _ => (by rw [calamusref24_Over.l0])) ?_
      refine Ev.pos (by omega) (Ev.pos (by rw [ByteArray.size_append, z1, size_rep0]; omega) ?_)
      rw [w64 (by omega) (by omega)]
      have e1 : (t.extract 0 p ++ repT k ⟨#[]⟩ i) ++ k = t.extract 0 p ++ repT k ⟨#[]⟩ (i + 1) := by
        apply ba_ext
        rw [ls_cat, ls_cat, ls_cat, ls_repT, ls_repT]
        show _ = _ ++ repB (ls k) [] (i + 1)
        rw [repB_nil_succ, List.append_assoc]
      have e2 : ((t.extract 0 p ++ repT k ⟨#[]⟩ i).size : Int) = ((if i + 1 = 0 then p else p + (i + 1 - 1 : Nat) * k.size : Nat) : Int) := by
        rw [if_neg (by omega), ByteArray.size_append, z1, size_rep0]; rfl
      rw [e1, e2]
      exact ih (i + 1) (by omega) (by omega)
theorem overs_ev (t : ByteArray) (p : Int) (k : ByteArray) (n : Int) (ht : t.size ≤ 500) (hk : k.size ≤ 140737488351232) (hn : -9223372036854775808 ≤ n ∧ n ≤ 9223372036854775807) : ∃ X : ByteArray × Int × Int, Ev (fun K => paste_Over.f K t p k n) X ∧ Ev (fun K => calamusref24_Over.f K t p k n) X := by
  rcases place_cases t p with hf | ⟨q, rfl, hle, hp, hv⟩
  · refine ⟨(⟨#[]⟩, 0, 1), ?_, ?_⟩
    · unfold paste_Over.f
      exact Ev.call (utf_Place.eq t p (by omega)) (Ev.neg (by rw [hf]; simp) (Ev.ret rfl))
    · unfold calamusref24_Over.f
      exact Ev.call (calamusref03_Place.eq t p (by omega)) (Ev.neg (by rw [hf]; simp) (Ev.ret rfl))
  obtain ⟨e, k1, k2, k3, k4, k5, k6, k7, k8⟩ := line_pair hp
  obtain ⟨R, r1, r2, r3⟩ := rsome_ev t n (by omega) hp k3
  rw [ls_len] at k6
  obtain ⟨v, v1, v2, v3, v4⟩ := vAt_in k8 _ q (max n 1) (Nat.le_refl _) k5 hp
  have hrest := rest_le (l := ls t) k5 (by rw [ls_len]; exact k6)
  have hb := behind_ev t e (max n 1) (by omega) (by omega) _ q 0 (Nat.le_refl _) k5 hp k3 (by omega) (by omega) (by omega)
  rw [show max n 1 - 0 = max n 1 by omega, v1, Int.zero_add] at hb
  have hb' : Ev (fun K => paste_behind.f K t q (max n 1)) _ := hb
  suffices hX : k.size ≤ 4 → ∃ X : ByteArray × Int × Int, Ev (fun K => paste_Over.j0 K t q k n false) X ∧ Ev (fun K => calamusref24_Over.j0 K t q k n false) X by
    cases hs : (isL (ls k) && (decide (k.size > 1) || (decide (bt k 0 ≥ 32) && decide (bt k 0 ≤ 126)))) with
    | true =>
      have h4 : k.size ≤ 4 := by
        rcases Nat.lt_or_ge 4 k.size with h | h
        · rw [is_long _ (by rw [ls_len]; exact h)] at hs; cases hs
        · exact h
      obtain ⟨X, x1, x2⟩ := hX h4
      refine ⟨X, ?_, ?_⟩
      · unfold paste_Over.f
        exact Ev.call (utf_Place.eq t q (by omega)) (Ev.pos hp (Ev.call (ksign_val k hk) (Ev.pos hs x1)))
      · unfold calamusref24_Over.f
        exact Ev.call (calamusref03_Place.eq t q (by omega)) (Ev.pos hp (Ev.call (rsign_val k) (Ev.pos hs x2)))
    | false =>
      by_cases h9 : k.toList = [9]
      · have h4 : k.size ≤ 4 := by rw [← ls_len, ← toList_ls, h9]; decide
        obtain ⟨X, x1, x2⟩ := hX h4
        have hb9 : (k.toList != [9]) = false := by rw [h9]; rfl
        refine ⟨X, ?_, ?_⟩
        · unfold paste_Over.f
          refine Ev.call (utf_Place.eq t q (by omega)) (Ev.pos hp (Ev.call (ksign_val k hk) (Ev.neg (by rw [hs]; simp) ?_)))
          rw [hb9]; exact x1
        · unfold calamusref24_Over.f
          refine Ev.call (calamusref03_Place.eq t q (by omega)) (Ev.pos hp (Ev.call (rsign_val k) (Ev.neg (by rw [hs]; simp) ?_)))
          rw [hb9]; exact x2
      · have hb9 : (k.toList != [9]) = true := by simpa using h9
        refine ⟨(⟨#[]⟩, 0, 9), ?_, ?_⟩
        · unfold paste_Over.f
          refine Ev.call (utf_Place.eq t q (by omega)) (Ev.pos hp (Ev.call (ksign_val k hk) (Ev.neg (by rw [hs]; simp) ?_)))
          rw [hb9]
          refine Ev.step (fun _ => (by rw [paste_Over.j0])) ?_
          exact Ev.pos rfl (Ev.ret rfl)
        · unfold calamusref24_Over.f
          refine Ev.call (calamusref03_Place.eq t q (by omega)) (Ev.pos hp (Ev.call (rsign_val k) (Ev.neg (by rw [hs]; simp) ?_)))
          rw [hb9]
          refine Ev.step (fun _ => (by rw [calamusref24_Over.j0])) ?_
          exact Ev.pos rfl (Ev.ret rfl)
  intro h4
  by_cases hm : (restN (ls t) q e : Int) < max n 1
  · -- too few runes
    refine ⟨(⟨#[]⟩, 0, 10), ?_, ?_⟩
    · refine Ev.step (fun _ => (by rw [paste_Over.j0])) ?_
      rw [mx_eq]
      exact Ev.neg (by simp) (Ev.bind hb' (Ev.pos (by show min (max n 1) (restN (ls t) q e : Int) < max n 1; omega) (Ev.ret rfl)))
    · have fin : ∀ R', Ev (fun K => calamusref24_Over.j1 K t q k R' true) (⟨#[]⟩, 0, 10) := fun R' => by
        refine Ev.step (fun _ => (by rw [calamusref24_Over.j1])) ?_
        exact Ev.pos rfl (Ev.ret rfl)
      refine Ev.step (fun _ => (by rw [calamusref24_Over.j0])) ?_
      refine Ev.neg (by simp) (Ev.bind r1 (Ev.ite (fun _ => fin R) (fun hlt => ?_)))
      have : ((R.length : Int) == 0) = true := by simp only [beq_iff_eq]; omega
      rw [this]; exact fin R
  · obtain ⟨N, hN⟩ : ∃ N : Nat, max n 1 = N := ⟨(max n 1).toNat, by omega⟩
    have hRN : R.length = N := by omega
    have hR : R ≠ [] := by rintro rfl; simp at hRN; omega
    have hmul : N * k.size ≤ 2000 := Nat.le_trans (Nat.mul_le_mul (by omega : N ≤ 500) h4) (by decide)
    have hnx := r3 hR
    rw [v1] at hnx
    refine ⟨if q + R.length * k.size + (t.size - v) > 4096 then (⟨#[]⟩, 0, 8) else ((t.extract 0 q ++ repT k ⟨#[]⟩ R.length) ++ t.extract v t.size, ((q + (R.length - 1) * k.size : Nat) : Int), 0), ?_, ?_⟩
    · have z1 : (t.extract 0 q).size = q := by rw [ByteArray.size_extract]; omega
      have z2 : (t.extract v t.size).size = t.size - v := by rw [ByteArray.size_extract]; omega
      have zc : (t.extract 0 q ++ t.extract v t.size).size = q + (t.size - v) := by rw [ByteArray.size_append, z1, z2]
      have ht' : Ev (fun K => paste_times.f K k ⟨#[]⟩ (N : Int)) (repT k ⟨#[]⟩ N, true) := times_ev k ⟨#[]⟩ N (by omega) (by omega) (by show N * (k.size + 0) ≤ 8194; rw [Nat.add_zero]; omega)
      rw [hN] at hb' hm
      refine Ev.step (fun _ => (by rw [paste_Over.j0])) ?_
      rw [mx_eq, hN]
      refine Ev.neg (by simp) (Ev.bind hb' (Ev.neg (by show ¬ min (N : Int) (restN (ls t) q e : Int) < N; omega) (Ev.bind ht' (Ev.pos rfl ?_))))
      refine Ev.pos (by omega) (Ev.pos (by omega) (Ev.pos (by show 0 ≤ (v : Int); omega) (Ev.pos (by show (v : Int) ≤ t.size; omega) ?_)))
      rw [Int.toNat_natCast, Int.toNat_natCast]
      refine Ev.pos (by rw [z1, z2]; omega) ?_
      rw [hRN]
      by_cases hb2 : q + N * k.size + (t.size - v) > 4096
      · rw [if_pos hb2]
        refine Ev.call (insert_long _ _ _ (by rw [zc]; omega) (by rw [size_rep0]; omega) (by rw [zc, size_rep0]; omega)) (Ev.neg (by decide) (Ev.ret rfl))
      · rw [if_neg hb2]
        refine Ev.call (insert_ok _ _ q (by rw [zc]; omega) (by rw [zc, size_rep0]; omega)) (Ev.pos rfl (Ev.ret ?_))
        have e1 : ((t.extract 0 q ++ t.extract v t.size).extract 0 q ++ repT k ⟨#[]⟩ N) ++ (t.extract 0 q ++ t.extract v t.size).extract q (t.extract 0 q ++ t.extract v t.size).size = (t.extract 0 q ++ repT k ⟨#[]⟩ N) ++ t.extract v t.size := by
          apply ba_ext
          have hl : (ls (t.extract 0 q)).length = q := by rw [ls_len, z1]
          rw [ls_cat, ls_cat, ls_cat, ls_cat, ls_ext2, ls_ext, ls_cat, List.drop_zero, Nat.sub_zero]
          rw [List.take_left' hl, List.drop_left' hl]
        have e2 : wrap64 (wrap64 ((q : Int) + ((repT k ⟨#[]⟩ N).size : Int)) - (k.size : Int)) = ((q + (N - 1) * k.size : Nat) : Int) := by
          have : N * k.size = (N - 1) * k.size + k.size := by
            obtain ⟨m, rfl⟩ := Nat.exists_eq_succ_of_ne_zero (show N ≠ 0 by omega)
            rw [Nat.succ_mul]; rfl
          rw [size_rep0, w64 (n := (q : Int) + (N * k.size : Nat)) (by omega) (by omega), w64 (by omega) (by omega)]; omega
        rw [e1, e2]
    · refine Ev.step (fun _ => (by rw [calamusref24_Over.j0])) ?_
      refine Ev.neg (by simp) (Ev.bind r1 (Ev.neg (by omega) ?_))
      have : ((R.length : Int) == 0) = false := by rw [beq_eq_false_iff_ne]; omega
      rw [this]
      refine Ev.step (fun _ => (by rw [calamusref24_Over.j1])) ?_
      refine Ev.neg (by simp) (Ev.pos (by omega) (Ev.pos (by omega) ?_))
      have := rover_l0 t k R q v hR (by omega) (by omega) h4 (by omega) (by omega) hnx R.length 0 (by omega) (by omega)
      rw [if_pos rfl] at this
      have e0 : t.extract 0 q ++ repT k ⟨#[]⟩ 0 = t.extract 0 q := by
        apply ba_ext; rw [ls_cat, ls_repT]; show _ ++ [] = _; rw [List.append_nil]
      rw [e0] at this
      rw [Int.toNat_natCast]; exact this
end Go.Proofs.YtckfdehendifoaaDoor
/- Layer 24 lives (MOD QP). -/
namespace Go.Proofs.YtckfdehendifoaaDoor
open Go.RowKit
set_option linter.unusedVariables false
set_option linter.unusedSimpArgs false
open Go.RowKit Go.Proofs.YtckfdehendifoaaDoor.QP Go.Proofs.YtckfdehendifoaaDoorW.PrintWords Go.Proofs.YtckfdehendifoaaDoorW.PrintMore
theorem put24 : Ev (fun K => paste_Put.f K ⟨#[97, 98]⟩ 0 0 false ⟨#[120, 121]⟩ false 1) (⟨#[97, 120, 121, 98]⟩, 2, 0) := by
  have hp : placeB (ls ⟨#[97, 98]⟩) ((0 : Nat) : Int) = true := by decide +kernel
  have he : endI (ls ⟨#[97, 98]⟩) (ofI (ls ⟨#[97, 98]⟩) ((0 : Nat) : Int)) = (2 : Nat) := by decide +kernel
  unfold paste_Put.f
  refine Ev.call (utf_Place.eq _ _ (by decide)) (Ev.pos hp (Ev.call (utf_Valid.eq _ (by decide)) ?_))
  rw [show validL (ls ⟨#[120, 121]⟩) = true by decide +kernel]
  refine Ev.step (fun _ => (by rw [paste_Put.j0])) ?_
  refine Ev.neg (by simp) (Ev.neg (by rw [toList_ls]; decide) ?_)
  refine Ev.step (fun _ => (by rw [paste_Put.j1])) ?_
  rw [mx_eq, show max (1 : Int) 1 = ((1 : Nat) : Int) by decide]
  refine Ev.neg (by simp) (Ev.neg (by simp) (Ev.bind (times_ev ⟨#[120, 121]⟩ ⟨#[]⟩ 1 (by decide) (by decide) (by decide)) (Ev.pos rfl (Ev.neg (by simp) (Ev.call (stop_val ⟨#[97, 98]⟩ hp he (by decide)) ?_)))))
  rw [show (!decide ((0 : Nat) = 2)) = true by decide, show repT ⟨#[120, 121]⟩ ⟨#[]⟩ 1 = ⟨#[120, 121]⟩ from ba_ext (by rw [ls_repT]; rfl)]
  refine Ev.step (fun _ => (by rw [paste_Put.j2])) ?_
  refine Ev.pos rfl (Ev.call (utf_Next.eq _ _ (by decide)) ?_)
  rw [show nextI (ls ⟨#[97, 98]⟩) 0 = ((1 : Nat) : Int) by decide +kernel]
  refine Ev.step (fun _ => (by rw [paste_Put.j3])) ?_
  refine Ev.call (insert_ok ⟨#[97, 98]⟩ ⟨#[120, 121]⟩ 1 (by decide) (by decide)) (Ev.pos rfl ?_)
  rw [show ((⟨#[97, 98]⟩ : ByteArray).extract 0 1 ++ ⟨#[120, 121]⟩) ++ (⟨#[97, 98]⟩ : ByteArray).extract 1 (⟨#[97, 98]⟩ : ByteArray).size = ⟨#[97, 120, 121, 98]⟩ from ba_ext (by rw [ls_cat, ls_cat, ls_ext2, ls_ext]; rfl)]
  refine Ev.call (strings_Contains.eq _) ?_
  rw [show decide (0 ≤ Lib.indexByte (ls ⟨#[120, 121]⟩) 10) = false by decide +kernel]
  refine Ev.neg (by simp) (Ev.call (utf_Prev.eq _ _ (by decide)) (Ev.ret ?_))
  rw [show wrap64 (((1 : Nat) : Int) + ((⟨#[120, 121]⟩ : ByteArray).size : Int)) = 3 from w64 (by decide) (by decide), show prevI (ls ⟨#[97, 120, 121, 98]⟩) 3 = 2 by decide +kernel]
theorem lives24 : Ev (fun K => calamuslaw24_lives.f K) true := by
  unfold calamuslaw24_lives.f
  exact Ev.bind put24 (Ev.pos (by rw [toList_ls]) (Ev.pos rfl (Ev.ret rfl)))
theorem lives24' : Ev (fun K => (calamuslaw24_lives.f K).bind fun t => some t) true := Ev.bind lives24 (Ev.ret rfl)
end Go.Proofs.YtckfdehendifoaaDoor
/- The statement PasteOver in plain words (MOD QP). -/
namespace Go.Proofs.YtckfdehendifoaaDoor
open Go.RowKit
set_option linter.unusedVariables false
set_option linter.unusedSimpArgs false
open Go.RowKit Go.Proofs.YtckfdehendifoaaDoor.QP Go.Proofs.YtckfdehendifoaaDoorW.PrintWords Go.Proofs.YtckfdehendifoaaDoorW.PrintMore
theorem PasteOver_p (t : ByteArray) (p : Int) (k : ByteArray) (n : Int) (ht : t.size ≤ 140737488351232) (hp : -9223372036854775808 ≤ p ∧ p ≤ 9223372036854775807) (hk : k.size ≤ 140737488351232) (hn : -9223372036854775808 ≤ n ∧ n ≤ 9223372036854775807) : ∃ m, calamuslaw24_PasteOver.f m t p k n = some true := by
  suffices h : Ev (fun m => calamuslaw24_PasteOver.f m t p k n) true by obtain ⟨K, h⟩ := h; exact ⟨K, h K (Nat.le_refl _)⟩
  unfold calamuslaw24_PasteOver.f
  refine Ev.ite (fun _ => lives24') (fun hs => ?_)
  obtain ⟨X, x1, x2⟩ := flips_ev t p n (by omega) hn
  obtain ⟨Y, y1, y2⟩ := overs_ev t p k n (by omega) hk hn
  exact Ev.bind x1 (Ev.bind x2 (Ev.bind y1 (Ev.bind y2 (Ev.pos rfl (Ev.pos rfl (Ev.pos rfl (Ev.pos rfl (Ev.pos rfl (Ev.pos rfl lives24')))))))))
end Go.Proofs.YtckfdehendifoaaDoor
