/- The place of a column, stepwise: plain facts. -/
import Derived.Test.YtgapekdcoedmgaaML2
namespace Go.Proofs.Ytgapekdcoedmgaa
open Go.RowKit
set_option linter.unusedVariables false
set_option linter.unusedSimpArgs false
theorem byL_tk (l : List UInt8) {n k : Nat} (h : k < n) : byL (l.take n) k = byL l k := by
  unfold byL; rw [List.getD_eq_getElem?_getD, List.getElem?_take_of_lt h, ← List.getD_eq_getElem?_getD]
theorem begOk_tk (l : List UInt8) {k : Nat} : ∀ n, n ≤ k → begOk (l.take k) n = begOk l n
  | 0, _ => by simp [begOk]
  | n + 1, h => by rw [begOk_succ (l.take k) n, begOk_succ l n, begOk_tk l n (by omega), byL_tk l (n := k) (k := 0) (by omega), byL_tk l (n := k) (k := n) (by omega)]
theorem sz_tk {l : List UInt8} {k : Nat} (hz : szL l ≠ 0) (hk : szL l ≤ k) : szL (l.take k) = szL l := by
  obtain ⟨h0, h1, h2, h3⟩ := szL_pos hz
  exact szL_of (by rw [List.length_take]; omega) (by rw [byL_tk _ (by omega)]; exact h1) (by rw [List.length_take]; omega) (by rw [begOk_tk l _ hk]; exact h3)
theorem valid_tk : ∀ (m : Nat) (l : List UInt8) (k : Nat), l.length ≤ m → validL l = true → k ≤ l.length → (k = l.length ∨ inn (byL l k) = false) → validL (l.take k) = true
  | 0, l, k, hm, hv, hk, hb => by
    have : k = 0 := by omega
    subst this; rw [List.take_zero]; rfl
  | m + 1, l, k, hm, hv, hk, hb => by
    by_cases h0 : k = 0
    · subst h0; rw [List.take_zero]; rfl
    · have hl : l.length ≠ 0 := by omega
      have hz := valid_sz hv hl
      have hle := szL_le l
      have hsk : szL l ≤ k := by
        rcases Nat.lt_or_ge k (szL l) with h | h
        · have := inn_rest hz (j := k) (by omega) h
          rcases hb with h2 | h2
          · omega
          · rw [h2] at this; exact absurd this (by simp)
        · exact h
      rw [validL_step (by rw [List.length_take]; omega) (by rw [sz_tk hz hsk]; exact hz), sz_tk hz hsk, List.drop_take]
      rw [validL_step hl hz] at hv
      refine valid_tk m (l.drop (szL l)) (k - szL l) (by rw [List.length_drop]; omega) hv (by rw [List.length_drop]; omega) ?_
      rcases hb with h | h
      · left; rw [List.length_drop]; omega
      · right; rw [byL_drop, Nat.add_sub_cancel' hsk]; exact h
theorem place_inn {l : List UInt8} {k : Nat} (h : placeB l k = true) : k = l.length ∨ inn (byL l k) = false := by
  unfold placeB at h
  simp only [Bool.and_eq_true, Bool.or_eq_true, decide_eq_true_eq, Bool.not_eq_true', Int.toNat_natCast] at h
  rcases h.1.2 with h | h
  · left; omega
  · right; exact h
theorem row_valid {l : List UInt8} {a b : Nat} (hab : a ≤ b) (ha : placeB l a = true) (hb : placeB l b = true) : validL (rowL l (a, b)) = true := by
  obtain ⟨h1, h2, h3⟩ := valid_at ha
  obtain ⟨_, h4, _⟩ := valid_at hb
  unfold rowL
  refine valid_tk _ _ _ (Nat.le_refl _) h1 (by rw [List.length_drop]; omega) ?_
  rcases place_inn hb with h | h
  · left; rw [List.length_drop]; simp only; omega
  · right; rw [byL_drop]; simp only; rw [Nat.add_sub_cancel' hab]; exact h
theorem row_cons {l : List UInt8} {j b : Nat} (hj : j < b) (hb : b ≤ l.length) : rowL l (j, b) = (l[j]'(by omega)) :: rowL l (j + 1, b) := by
  unfold rowL
  simp only
  rw [List.drop_eq_getElem_cons (by omega : j < l.length), show b - j = (b - (j + 1)) + 1 by omega, List.take_succ_cons]
theorem row_nil (l : List UInt8) (b : Nat) : rowL l (b, b) = [] := by unfold rowL; simp
theorem inn_get {l : List UInt8} {j : Nat} (h : j < l.length) : ((l[j].toNat : Nat) : Int) = byL l j := by
  unfold byL; rw [List.getD_eq_getElem?_getD, List.getElem?_eq_getElem h]; rfl
theorem offF_shift : ∀ (r : List UInt8) (i d : Nat) (k : Int), offF r (i + d) k = if offF r i k < 0 then -1 else offF r i k + d
  | [], i, d, k => by
    unfold offF
    split <;> simp
    omega
  | b :: r, i, d, k => by
    rw [offF, offF]
    have h1 := offF_shift r (i + 1) d k
    have h2 := offF_shift r (i + 1) d (k - 1)
    rw [show i + d + 1 = i + 1 + d by omega]
    split
    · exact h1
    · split
      · rw [if_neg (by omega)]; omega
      · exact h2
/-- The place that is c places behind p, or where the line ends. -/
def vAt (l : List UInt8) (b p : Nat) (c : Int) : Int := if offF (rowL l (p, b)) p (max c 0) < 0 then b else offF (rowL l (p, b)) p (max c 0)
theorem vAt_eq {l : List UInt8} {k col : Int} {a b : Nat} (hl : lineI l k = some (a, b)) (hv : validL (rowL l (a, b)) = true) : atI l k col = vAt l b a col := by
  have hoff : offI (rowL l (a, b)) (max col 0) = offF (rowL l (a, b)) 0 (max col 0) := by
    unfold offI; rw [if_neg]
    rintro (h | h)
    · omega
    · rw [hv] at h; exact absurd h (by simp)
  unfold atI; rw [hl]
  simp only
  rw [hoff]
  unfold vAt
  have h := offF_shift (rowL l (a, b)) 0 a (max col 0)
  rw [Nat.zero_add] at h
  rw [h]
  split
  · rename_i h2; simp
  · rename_i h2
    rw [if_neg (by omega)]; omega
theorem vAt_end (l : List UInt8) (b : Nat) (c : Int) : vAt l b b c = b := by
  unfold vAt; rw [row_nil]; unfold offF; repeat' (first | omega | split)
theorem vAt_stop {l : List UInt8} {b p : Nat} {c : Int} (hc : c ≤ 0) (hp : p < b) (hb : b ≤ l.length) (hi : inn (byL l p) = false) : vAt l b p c = p := by
  unfold vAt
  rw [row_cons hp hb, offF, inn_get, hi, show max c 0 = 0 by omega]
  simp
  intro h; omega
theorem off_skip {l : List UInt8} {b : Nat} {k : Int} (hb : b ≤ l.length) : ∀ (d j : Nat), j + d ≤ b → (∀ i, j ≤ i → i < j + d → inn (byL l i) = true) → offF (rowL l (j, b)) j k = offF (rowL l (j + d, b)) (j + d) k
  | 0, j, _, _ => rfl
  | d + 1, j, h, hi => by
    rw [row_cons (by omega) hb, offF, inn_get, if_pos (hi j (by omega) (by omega)), off_skip hb d (j + 1) (by omega) (fun i a c => hi i (by omega) (by omega))]
    rw [show j + 1 + d = j + (d + 1) by omega]
theorem vAt_step {l : List UInt8} {b p : Nat} {c : Int} (hc : 0 < c) (hp : p < b) (hpp : placeB l p = true) (hpb : placeB l b = true) : ∃ n : Nat, nextI l p = n ∧ p < n ∧ n ≤ b ∧ placeB l n = true ∧ vAt l b p c = vAt l b n (c - 1) := by
  obtain ⟨_, hb, hv⟩ := valid_at hpb
  obtain ⟨hz, hle⟩ := sz_at hpp (by omega)
  have h1 : nextI l p = ((p + szL (l.drop p) : Nat) : Int) := by unfold nextI; rw [if_pos ⟨hpp, by omega⟩, Int.toNat_natCast]; simp
  have hin : ∀ i, p + 1 ≤ i → i < p + szL (l.drop p) → inn (byL l i) = true := by
    intro i a c
    have := inn_rest hz (j := i - p) (by omega) (by omega)
    rw [byL_drop, Nat.add_sub_cancel' (by omega)] at this; exact this
  have hnb : p + szL (l.drop p) ≤ b := by
    rcases Nat.lt_or_ge b (p + szL (l.drop p)) with h | h
    · have h3 := hin b (by omega) h
      rcases place_inn hpb with h4 | h4
      · omega
      · rw [h4] at h3; exact absurd h3 (by simp)
    · exact h
  refine ⟨_, h1, by omega, hnb, place_next hpp (by omega), ?_⟩
  have hi : inn (byL l p) = false := by
    rcases place_inn hpp with h4 | h4
    · omega
    · exact h4
  have key : offF (rowL l (p, b)) p (max c 0) = offF (rowL l (p + szL (l.drop p), b)) (p + szL (l.drop p)) (max (c - 1) 0) := by
    rw [row_cons hp hb, offF, inn_get, hi, if_neg (by simp), if_neg (by omega), show max c 0 - 1 = max (c - 1) 0 by omega]
    have := off_skip (k := max (c - 1) 0) hb (szL (l.drop p) - 1) (p + 1) (by omega) (fun i a c => hin i a (by omega))
    rw [this, show p + 1 + (szL (l.drop p) - 1) = p + szL (l.drop p) by omega]
  unfold vAt
  rw [key]

end Go.Proofs.Ytgapekdcoedmgaa
