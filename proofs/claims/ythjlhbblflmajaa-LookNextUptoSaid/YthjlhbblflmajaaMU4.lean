/- The places of a text's runes, one by one: plain facts. -/
import Derived.Test.YthjlhbblflmajaaMU3
namespace Go.Proofs.Ythjlhbblflmajaa
open Go.RowKit
set_option linter.unusedVariables false
set_option linter.unusedSimpArgs false
/-- From a place on a valid text is valid. -/
theorem valid_drop : ∀ (m : Nat) (l : List UInt8) (k : Nat), l.length ≤ m → validL l = true → k ≤ l.length → (k = l.length ∨ inn (byL l k) = false) → validL (l.drop k) = true
  | m, l, k, hm, hv, hk, hb => by
    rcases Nat.eq_zero_or_pos k with h0 | h0
    · subst h0; simpa using hv
    · have hl : l.length ≠ 0 := by omega
      have hz := valid_sz hv hl
      have hle := szL_le l
      by_cases hkn : k < szL l
      · have := inn_rest hz h0 hkn
        rcases hb with hb | hb
        · omega
        · rw [hb] at this; exact absurd this (by simp)
      · match m, hm with
        | 0, hm => omega
        | m + 1, hm =>
          have := valid_drop m (l.drop (szL l)) (k - szL l) (by rw [List.length_drop]; omega) (by rw [← validL_step hl hz]; exact hv) (by rw [List.length_drop]; omega) (by
            rw [List.length_drop, byL_drop, Nat.add_sub_cancel' (by omega)]
            rcases hb with hb | hb
            · exact .inl (by omega)
            · exact .inr hb)
          rw [List.drop_drop, Nat.add_sub_cancel' (by omega)] at this
          exact this
theorem valid_at {l : List UInt8} {k : Nat} (h : placeB l k = true) : validL (l.drop k) = true ∧ k ≤ l.length ∧ validL l = true := by
  unfold placeB at h
  simp only [Bool.and_eq_true, decide_eq_true_eq, Bool.or_eq_true, Bool.not_eq_true', Int.toNat_natCast] at h
  refine ⟨valid_drop l.length l k (Nat.le_refl _) h.2 (by omega) ?_, by omega, h.2⟩
  rcases h.1.2 with h | h
  · exact .inl (by omega)
  · exact .inr h
theorem sz_at {l : List UInt8} {k : Nat} (h : placeB l k = true) (hk : k < l.length) : szL (l.drop k) ≠ 0 ∧ k + szL (l.drop k) ≤ l.length := by
  have h1 := valid_at h
  have h2 := szL_le (l.drop k)
  rw [List.length_drop] at h2
  exact ⟨valid_sz h1.1 (by rw [List.length_drop]; omega), by omega⟩
theorem place_mk {l : List UInt8} {k : Nat} (hv : validL l = true) (hk : k ≤ l.length) (hb : k = l.length ∨ inn (byL l k) = false) : placeB l k = true := by
  unfold placeB
  simp only [Bool.and_eq_true, decide_eq_true_eq, Bool.or_eq_true, Bool.not_eq_true', Int.toNat_natCast]
  refine ⟨⟨⟨by omega, by omega⟩, ?_⟩, hv⟩
  rcases hb with h | h
  · exact .inl (by omega)
  · exact .inr h
/-- Behind a rune there is a place. -/
theorem place_next {l : List UInt8} {k : Nat} (h : placeB l k = true) (hk : k < l.length) : placeB l ((k + szL (l.drop k) : Nat) : Int) = true := by
  obtain ⟨h1, _, h3⟩ := valid_at h
  obtain ⟨hz, hle⟩ := sz_at h hk
  refine place_mk h3 hle ?_
  by_cases he : k + szL (l.drop k) = l.length
  · exact .inl he
  · right
    rw [validL_step (by rw [List.length_drop]; omega) hz, List.drop_drop] at h1
    have := valid_first h1 (by rw [List.length_drop]; omega)
    rw [byL_drop] at this; simpa using this
/-- The places from one on. -/
def frm (l : List UInt8) (k : Nat) : List Int := ((List.range' k (l.length - k)).filter fun p => !inn (byL l p)).map Int.ofNat ++ [(l.length : Int)]
theorem split_at {l : List UInt8} (hv : validL l = true) (k : Nat) (hk : k ≤ l.length) : splitI l = (plcTo l k).map Int.ofNat ++ frm l k := by
  rw [splitI_ok hv]
  unfold frm plcTo
  have : List.range l.length = List.range k ++ List.range' k (l.length - k) := by
    have := @List.range'_append_1 0 k (l.length - k)
    rw [Nat.add_sub_cancel' hk, Nat.zero_add] at this
    rw [List.range_eq_range', List.range_eq_range', this]
  rw [this, List.filter_append, List.map_append, List.append_assoc]
theorem frm_end (l : List UInt8) : frm l l.length = [(l.length : Int)] := by simp [frm]
theorem frm_step {l : List UInt8} {k : Nat} (h : placeB l k = true) (hk : k < l.length) : frm l k = (k : Int) :: frm l (k + szL (l.drop k)) := by
  obtain ⟨_, _, hv⟩ := valid_at h
  obtain ⟨hz, hle⟩ := sz_at h hk
  have h1 := split_at hv k (by omega)
  have h2 := split_at hv (k + szL (l.drop k)) hle
  rw [plcTo_add l k _ rfl hz, List.map_append, List.append_assoc] at h2
  rw [h1] at h2
  simpa using List.append_cancel_left h2
theorem frm_head {l : List UInt8} {k : Nat} (h : placeB l k = true) : ∃ r, frm l k = (k : Int) :: r := by
  by_cases hk : k < l.length
  · exact ⟨_, frm_step h hk⟩
  · have := (valid_at h).2.1
    have hk' : k = l.length := by omega
    subst hk'; exact ⟨[], frm_end l⟩
theorem find_at {l : List UInt8} {k : Nat} (h : placeB l k = true) : findF (splitI l) k 0 = ((plcTo l k).length : Int) := by
  obtain ⟨_, hk, hv⟩ := valid_at h
  obtain ⟨r, hr⟩ := frm_head h
  rw [split_at hv k hk, hr, findF_some _ _ _ _ (by
    intro hm
    simp only [List.mem_map] at hm
    obtain ⟨a, ha, hb⟩ := hm
    have := (mem_plcTo _ _ _).1 ha
    simp at hb; omega)]
  simp
theorem find_bad {l : List UInt8} {p : Int} (h : placeB l p = false) : findF (splitI l) p 0 = -1 := by
  refine findF_none _ _ _ fun hm => ?_
  rw [(place_mem l p).2 hm] at h; exact absurd h (by simp)
theorem find_range (xs : List Int) (x : Int) : -1 ≤ findF xs x 0 ∧ findF xs x 0 < xs.length := by
  by_cases h : x ∈ xs
  · obtain ⟨a, b, rfl, hn⟩ := List.eq_append_cons_of_mem h
    rw [findF_some a b x 0 hn]; simp; omega
  · rw [findF_none xs x 0 h]; omega
theorem next_end {l : List UInt8} {k : Nat} (h : placeB l k = true) (hk : k = l.length) : (splitI l).length = (plcTo l k).length + 1 ∧ nextI l k = -1 := by
  obtain ⟨_, _, hv⟩ := valid_at h
  subst hk
  rw [split_at hv _ (Nat.le_refl _), frm_end]
  refine ⟨by simp, ?_⟩
  unfold nextI; rw [if_neg (by simp)]
theorem next_at {l : List UInt8} {k : Nat} (h : placeB l k = true) (hk : k < l.length) : (plcTo l k).length + 1 < (splitI l).length ∧ (splitI l).getD ((plcTo l k).length + 1) 0 = nextI l k := by
  obtain ⟨_, _, hv⟩ := valid_at h
  obtain ⟨r, hr⟩ := frm_head (place_next h hk)
  rw [split_at hv k (by omega), frm_step h hk, hr]
  refine ⟨by simp, ?_⟩
  unfold nextI
  rw [if_pos ⟨h, by omega⟩, Int.toNat_natCast]
  rw [List.getD_eq_getElem?_getD, List.getElem?_append_right (by simp)]
  simp
theorem prev_list (l : List UInt8) (h0 : inn (byL l 0) = false) : ∀ j, ∃ xs, plcTo l (j + 1) = xs ++ [prevFrom l j]
  | 0 => ⟨[], by rw [plcTo_succ, h0]; simp [plcTo, prevFrom]⟩
  | j + 1 => by
    rw [plcTo_succ]
    rcases Bool.eq_false_or_eq_true (inn (byL l (j + 1))) with h | h
    · obtain ⟨xs, hx⟩ := prev_list l h0 j
      exact ⟨xs, by rw [h, hx]; simp [prevFrom, h]⟩
    · exact ⟨plcTo l (j + 1), by rw [h]; simp [prevFrom, h]⟩
theorem prev_at {l : List UInt8} {k : Nat} (h : placeB l k = true) (hk : 0 < k) : 1 ≤ (plcTo l k).length ∧ (splitI l).getD ((plcTo l k).length - 1) 0 = prevI l k ∧ (plcTo l k).length - 1 < (splitI l).length := by
  obtain ⟨_, hle, hv⟩ := valid_at h
  obtain ⟨j, rfl⟩ : ∃ j, k = j + 1 := ⟨k - 1, by omega⟩
  obtain ⟨xs, hx⟩ := prev_list l (valid_first hv (by omega)) j
  rw [split_at hv _ hle, hx]
  unfold prevI
  rw [if_pos ⟨h, by omega⟩]
  have : ((j + 1 : Nat) : Int).toNat - 1 = j := by omega
  rw [this]
  refine ⟨by simp, ?_, by simp⟩
  simp [List.getD_eq_getElem?_getD]
theorem prev_zero {l : List UInt8} (k : Int) (hk : k = 0) : prevI l k = -1 ∧ (plcTo l k.toNat).length = 0 := by
  subst hk
  exact ⟨by unfold prevI; rw [if_neg (by simp)], by simp [plcTo]⟩
theorem plc_cnt (l : List UInt8) : ∀ k, k ≤ l.length → (plcTo l k).length = cntL (l.take k)
  | 0, _ => by simp [plcTo, cntL]
  | k + 1, h => by
    rw [plcTo_succ, cnt_succ l k (by omega), List.length_append, plc_cnt l k (by omega)]
    split <;> simp
theorem split_count (l : List UInt8) : (if (splitI l).length = 0 then (0 : Int) else (splitI l).length - 1) = countI l := by
  unfold countI
  rcases Bool.eq_false_or_eq_true (validL l) with h | h
  · rw [splitI_ok h, h]
    have := plc_cnt l l.length (Nat.le_refl _)
    rw [List.take_length] at this
    simp [this]
  · rw [splitI_bad h, h]; simp
/-- The rune at p. -/
def runeL (l : List UInt8) (p : Int) : List UInt8 := if placeB l p = true ∧ p ≠ l.length then (l.drop p.toNat).take (szL (l.drop p.toNat)) else []
theorem rune_bad {l : List UInt8} {p : Int} (h : nextI l p < 0) : runeL l p = [] := by
  unfold nextI at h; unfold runeL
  by_cases hc : placeB l p = true ∧ p ≠ l.length
  · rw [if_pos hc] at h
    have := hc.1; unfold placeB at this
    simp only [Bool.and_eq_true, decide_eq_true_eq] at this
    omega
  · rw [if_neg hc]
theorem rune_ok (s : ByteArray) (p : Int) (h : 0 ≤ nextI (ls s) p) : ∃ k n : Nat, p = k ∧ nextI (ls s) p = ((k + n : Nat) : Int) ∧ k + n ≤ s.size ∧ 1 ≤ n ∧ (⟨(runeL (ls s) p).toArray⟩ : ByteArray) = s.extract k (k + n) := by
  by_cases hc : placeB (ls s) p = true ∧ p ≠ (ls s).length
  · rcases place_cases s p with hp | ⟨k, rfl, hk, hp, hv⟩
    · rw [hp] at hc; exact absurd hc.1 (by simp)
    · have hlt : k < (ls s).length := by have := hc.2; rw [ls_len] at this ⊢; omega
      obtain ⟨hz, hle⟩ := sz_at hp hlt
      refine ⟨k, szL ((ls s).drop k), rfl, ?_, by rw [ls_len] at hle; exact hle, by omega, ?_⟩
      · unfold nextI; rw [if_pos hc, Int.toNat_natCast]; simp
      · unfold runeL
        rw [if_pos hc, Int.toNat_natCast, Lib.extract_eq]
        simp
  · unfold nextI at h; rw [if_neg hc] at h; omega

end Go.Proofs.Ythjlhbblflmajaa
