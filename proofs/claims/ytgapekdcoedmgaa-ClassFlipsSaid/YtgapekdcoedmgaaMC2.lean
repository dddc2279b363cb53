/- Runs of one class: plain facts. -/
import Derived.Test.YtgapekdcoedmgaaMC
namespace Go.Proofs.Ytgapekdcoedmgaa
open Go.RowKit
set_option linter.unusedVariables false
set_option linter.unusedSimpArgs false
theorem dn_facts {l : List UInt8} {c : Int} {big : Bool} {lo : Nat} (hv : validL l = true) (hlo : placeB l lo = true) : ∀ (m f : Nat), f ≤ m → lo ≤ f → f ≤ l.length → placeB l f = true →
    lo ≤ dnI l c big lo f f ∧ dnI l c big lo f f ≤ f ∧ placeB l ((dnI l c big lo f f : Nat) : Int) = true ∧ (∀ i : Nat, dnI l c big lo f f ≤ i → i < f → placeB l i = true → kindI l i big = c) ∧ (lo < dnI l c big lo f f → kindI l (prevI l ((dnI l c big lo f f : Nat) : Int)) big ≠ c)
  | 0, f, hm, h1, h2, h3 => by
    have : f = 0 := by omega
    subst this
    have : lo = 0 := by omega
    subst this
    exact ⟨Nat.le_refl _, Nat.le_refl _, h3, fun i _ h => by omega, fun h => by simp [dnI] at h⟩
  | m + 1, f, hm, h1, h2, h3 => by
    by_cases hlt : lo < f
    · obtain ⟨g1, g2, g3, g4⟩ := dnI_step (c := c) (big := big) hv h2 hlt hlo h3
      have g5 := prevI_at h3 (by omega)
      have g6 := (prev_gap hv (f - 1) (by omega)).2.2
      by_cases hk : kindI l (prevI l f) big = c
      · rw [if_pos hk] at g4
        rw [g4]
        obtain ⟨a1, a2, a3, a4, a5⟩ := dn_facts hv hlo m (prevFrom l (f - 1)) (by omega) g1 (by omega) g3
        refine ⟨a1, by omega, a3, fun i b1 b2 b3 => ?_, a5⟩
        rcases Nat.lt_trichotomy i (prevFrom l (f - 1)) with h | h | h
        · exact a4 i b1 h b3
        · rw [h, ← g5]; exact hk
        · rw [g6 i h (by omega)] at b3; exact absurd b3 (by simp)
      · rw [if_neg hk] at g4
        rw [g4]
        exact ⟨h1, Nat.le_refl _, h3, fun i b1 b2 => by omega, fun _ => hk⟩
    · have : f = lo := by omega
      subst this
      rw [dnI_end]
      exact ⟨Nat.le_refl _, Nat.le_refl _, h3, fun i b1 b2 => by omega, fun h => by omega⟩
theorem up_facts {l : List UInt8} {c : Int} {big : Bool} {hi : Nat} (hh : hi ≤ l.length) (hph : placeB l hi = true) : ∀ (d t : Nat), hi - t ≤ d → t ≤ hi → placeB l t = true →
    ∃ u : Nat, upI l c big (hi - t) t t = u ∧ t ≤ u ∧ u ≤ hi ∧ placeB l u = true ∧ (∀ i : Nat, t ≤ i → i < u → placeB l i = true → kindI l i big = c) ∧ (u < hi → kindI l u big ≠ c) ∧ (kindI l t big = c → t < hi → t < u)
  | 0, t, hd, h1, h2 => by
    have : t = hi := by omega
    subst this
    exact ⟨t, by rw [Nat.sub_self]; rfl, Nat.le_refl _, Nat.le_refl _, h2, fun i b1 b2 => by omega, fun h => by omega, fun _ h => h⟩
  | d + 1, t, hd, h1, h2 => by
    by_cases hlt : t < hi
    · obtain ⟨n, g1, g2, g3, g4, g5⟩ := upI_step (c := c) (big := big) hh hlt hph h2
      obtain ⟨n', m1, m2, m3, m4, m5⟩ := next_gap h2 (by omega)
      have : n' = n := by omega
      subst this
      by_cases hk : kindI l t big = c
      · rw [if_pos hk] at g5
        obtain ⟨u, a1, a2, a3, a4, a5, a6, a7⟩ := up_facts (c := c) (big := big) hh hph d n' (by omega) g3 g4
        refine ⟨u, by rw [g5, a1], by omega, a3, a4, fun i b1 b2 b3 => ?_, a6, fun _ _ => by omega⟩
        rcases Nat.lt_trichotomy i n' with h | h | h
        · by_cases e : i = t
          · rw [e]; exact hk
          · rw [m5 i (by omega) h] at b3; exact absurd b3 (by simp)
        · exact a5 i (by omega) b2 b3
        · exact a5 i (by omega) b2 b3
      · rw [if_neg hk] at g5
        exact ⟨t, g5, Nat.le_refl _, h1, h2, fun i b1 b2 => by omega, fun _ => hk, fun h => absurd h hk⟩
    · have : t = hi := by omega
      subst this
      exact ⟨t, by rw [Nat.sub_self]; rfl, Nat.le_refl _, Nat.le_refl _, h2, fun i b1 b2 => by omega, fun h => by omega, fun _ h => h⟩
theorem lst_ten (l : List UInt8) : ∀ i, 0 < lst l i → byL l (lst l i - 1) = 10
  | 0, h => by simp [lst] at h
  | i + 1, h => by
    rw [lst] at h ⊢
    split at h
    · rename_i e; rw [if_pos e]; exact e
    · rename_i e; rw [if_neg e]; exact lst_ten l i h
theorem line_end {l : List UInt8} {p e : Nat} (h : placeB l p = true) (he : endI l (ofI l p) = e) : e = l.length ∨ byL l e = 10 := by
  obtain ⟨_, hle, hv⟩ := valid_at h
  obtain ⟨h1, _⟩ := start_of hle hv
  obtain ⟨e', q1, q2, q3⟩ := line_of l p hle
  have hl : lineI l (fds l p : Nat) = some (lst l p, e') := by unfold lineI; rw [if_pos ⟨hv, by omega⟩, Int.toNat_natCast]; exact q1
  rw [h1] at he
  unfold endI at he; rw [hl] at he
  have : e' = e := by simp at he; omega
  subst this
  exact lns_ends (List.mem_of_getElem? q1)
theorem kind_ten {l : List UInt8} {i : Nat} (big : Bool) (hv : validL l = true) (hi : i < l.length) (h : byL l i = 10) : kindI l i big = 4 := by
  have h1 := (ten_place hv hi h).1
  have hc : clsI l i = 4 := by unfold clsI; rw [if_pos ⟨h1, by omega⟩, Int.toNat_natCast, h]; rfl
  unfold kindI bigI; rw [hc]; cases big <;> rfl
theorem kind_end {l : List UInt8} (big : Bool) : kindI l l.length big = 0 := by
  have hc : clsI l l.length = 0 := by unfold clsI; rw [if_neg (fun h => h.2 rfl)]
  unfold kindI bigI; rw [hc]; cases big <;> rfl
theorem fds_flat {l : List UInt8} {f : Nat} : ∀ d, f + d ≤ l.length → (∀ i, f ≤ i → i < f + d → byL l i ≠ 10) → fds l (f + d) = fds l f
  | 0, _, _ => rfl
  | d + 1, h, hn => by
    rw [show f + (d + 1) = (f + d) + 1 by omega, fds_succ l _ (by omega), if_neg (hn _ (by omega) (by omega)), Nat.add_zero]
    exact fds_flat d (by omega) fun i a b => hn i a (by omega)
theorem run_facts {l : List UInt8} {k : Nat} {big : Bool} (hk : k < l.length) (hp : placeB l k = true) (h0 : kindI l k big ≠ 0) (h4 : kindI l k big ≠ 4) :
    ∃ f t : Nat, runI l k big = (((f : Nat) : Int), ((t : Nat) : Int)) ∧ f ≤ k ∧ k < t ∧ t ≤ l.length ∧ placeB l f = true ∧ placeB l t = true ∧ ofI l f = ofI l t ∧ (∀ i : Nat, f ≤ i → i < t → placeB l i = true → kindI l i big = kindI l k big) ∧ kindI l t big ≠ kindI l k big ∧ (0 < f → kindI l (prevI l f) big ≠ kindI l k big) := by
  obtain ⟨_, hle, hv⟩ := valid_at hp
  obtain ⟨e, q1, q2, q3, q4, q5, q6, q7⟩ := line_at hp
  have he := line_end hp q2
  have hke : k < e := by
    rcases Nat.lt_or_ge k e with h | h
    · exact h
    · have : e = k := by omega
      subst this
      rcases he with h | h
      · omega
      · exact absurd (kind_ten big hv hk h) h4
  obtain ⟨a1, a2, a3, a4, a5⟩ := dn_facts (c := kindI l k big) (big := big) hv q6 k k (Nat.le_refl _) q3 (by omega) hp
  obtain ⟨u, b1, b2, b3, b4, b5, b6, b7⟩ := up_facts (c := kindI l k big) (big := big) q5 q7 (e - k) k (Nat.le_refl _) q4 hp
  have hall : ∀ i : Nat, dnI l (kindI l k big) big (lst l k) k k ≤ i → i < u → placeB l i = true → kindI l i big = kindI l k big := by
    intro i c1 c2 c3
    rcases Nat.lt_or_ge i k with h | h
    · exact a4 i c1 h c3
    · exact b5 i h c2 c3
  have hlt := b7 rfl hke
  refine ⟨dnI l (kindI l k big) big (lst l k) k k, u, ?_, a2, hlt, by omega, a3, b4, ?_, hall, ?_, ?_⟩
  · unfold runI; rw [if_neg (by rintro (h | h); exact h0 h; exact h4 h), q1, q2]; simp [b1]
  · have hf := fds_flat (l := l) (f := dnI l (kindI l k big) big (lst l k) k k) (u - dnI l (kindI l k big) big (lst l k) k k) (by omega) (fun i c1 c2 c3 => by
      have hi : i < l.length := by omega
      have := hall i c1 (by omega) (ten_place hv hi c3).1
      rw [kind_ten big hv hi c3] at this
      exact h4 this.symm)
    rw [Nat.add_sub_cancel' (by omega)] at hf
    rw [(start_of (p := dnI l (kindI l k big) big (lst l k) k k) (by omega) hv).1, (start_of (p := u) (by omega) hv).1, hf]
  · rcases Nat.lt_or_ge u e with h | h
    · exact b6 h
    · have : u = e := by omega
      subst this
      rcases he with h | h
      · rw [h, kind_end]; exact fun x => h0 x.symm
      · by_cases hu : u < l.length
        · rw [kind_ten big hv hu h]; exact fun x => h4 x.symm
        · have : u = l.length := by omega
          rw [this, kind_end]; exact fun x => h0 x.symm
  · intro hpos
    by_cases hl : lst l k < dnI l (kindI l k big) big (lst l k) k k
    · exact a5 hl
    · have el : dnI l (kindI l k big) big (lst l k) k k = lst l k := by omega
      rw [el] at a3 hpos ⊢
      have ht := lst_ten l k hpos
      obtain ⟨j, ej⟩ : ∃ j, lst l k = j + 1 := ⟨lst l k - 1, by omega⟩
      rw [ej] at ht a3 ⊢
      rw [prevI_at a3 (by omega)]
      simp only [Nat.add_sub_cancel] at ht ⊢
      have hj : j < l.length := by omega
      have e2 : prevFrom l j = j := by
        cases j with
        | zero => rfl
        | succ n => simp [prevFrom, inn, ht]
      rw [e2, kind_ten big hv hj ht]
      exact fun x => h4 x.symm

end Go.Proofs.Ytgapekdcoedmgaa
