/- The places of a text's runes: plain facts. -/
import Derived.Test.YthjlhbblflmajaaMU2
namespace Go.Proofs.Ythjlhbblflmajaa
open Go.RowKit
set_option linter.unusedVariables false
set_option linter.unusedSimpArgs false
/-- The places ahead of k at which no byte goes on a rune. -/
def plcTo (l : List UInt8) (k : Nat) : List Nat := (List.range k).filter fun p => !inn (byL l p)
def plcs (l : List UInt8) : List Nat := plcTo l l.length ++ [l.length]
def splitI (l : List UInt8) : List Int := if validL l then (plcs l).map Int.ofNat else []
theorem plcTo_succ (l : List UInt8) (k : Nat) : plcTo l (k + 1) = plcTo l k ++ if inn (byL l k) then [] else [k] := by
  unfold plcTo; rw [List.range_succ, List.filter_append]
  rcases Bool.eq_false_or_eq_true (inn (byL l k)) with h | h <;> simp [h]
theorem plcTo_len (l : List UInt8) (k : Nat) : (plcTo l k).length ≤ k := by
  unfold plcTo; exact Nat.le_trans (List.length_filter_le _ _) (by simp)
theorem sz_take (l : List UInt8) (n : Nat) (hn : 1 ≤ n) (hl : n ≤ l.length) : szL (l.take n) = n ↔ szL l = n := by
  have hby : ∀ k, k < n → byL (l.take n) k = byL l k := by
    intro k hk; unfold byL; simp [List.getD_eq_getElem?_getD, List.getElem?_take, hk]
  have hbeg : begOk (l.take n) n = begOk l n := by
    have : ∀ m, m ≤ n → begOk (l.take n) m = begOk l m := by
      intro m
      induction m with
      | zero => intro _; simp [begOk]
      | succ m ih => intro hm; rw [begOk_succ, begOk_succ, ih (by omega), hby 0 (by omega), hby m (by omega)]
    exact this n (Nat.le_refl _)
  have hlen : (l.take n).length = n := by rw [List.length_take]; omega
  constructor
  · intro h
    obtain ⟨_, h2, _, h4⟩ := szL_pos (l := l.take n) (by rw [h]; omega)
    rw [h, hby 0 (by omega)] at h2
    rw [h, hbeg] at h4
    exact szL_of (by omega) h2 hl h4
  · intro h
    obtain ⟨_, h2, _, h4⟩ := szL_pos (l := l) (by rw [h]; omega)
    rw [h] at h2 h4
    exact szL_of (by omega) (by rw [hby 0 (by omega)]; exact h2) (by omega) (by rw [hbeg]; exact h4)
theorem is_take (l : List UInt8) (n : Nat) (hn : 1 ≤ n) (hl : n ≤ l.length) : isL (l.take n) = decide (szL l = n) := by
  have hlen : (l.take n).length = n := by rw [List.length_take]; omega
  have := sz_take l n hn hl
  unfold isL
  rw [hlen]
  have h0 : decide (n ≠ 0) = true := by simp; omega
  rw [h0, Bool.true_and]
  exact decide_eq_decide.2 this
/-- One rune on. -/
theorem plcTo_add (l : List UInt8) (i n : Nat) (hn : szL (l.drop i) = n) (h0 : n ≠ 0) : plcTo l (i + n) = plcTo l i ++ [i] := by
  have h1 := inn_first (l := l.drop i) (by omega)
  have h2 : ∀ m, 1 ≤ m → m ≤ n → plcTo l (i + m) = plcTo l i ++ [i] := by
    intro m
    induction m with
    | zero => intro h; omega
    | succ m ih =>
      intro _ hm
      rw [← Nat.add_assoc, plcTo_succ]
      rcases Nat.eq_zero_or_pos m with h | h
      · subst h
        rw [byL_drop] at h1
        simp only [Nat.add_zero] at h1 ⊢
        rw [h1]; simp
      · have h3 := inn_rest (l := l.drop i) (by omega) (j := m) (by omega) (by omega)
        rw [byL_drop] at h3
        rw [h3, ih (by omega) (by omega)]; simp
  exact h2 n (by omega) (Nat.le_refl _)
theorem splitI_bad {l : List UInt8} (h : validL l = false) : splitI l = [] := by unfold splitI; simp [h]
theorem splitI_ok {l : List UInt8} (h : validL l = true) : splitI l = (plcTo l l.length).map Int.ofNat ++ [(l.length : Int)] := by unfold splitI plcs; simp [h]
theorem splitI_len (l : List UInt8) : (splitI l).length ≤ l.length + 1 := by
  unfold splitI plcs; have := plcTo_len l l.length
  split <;> simp; omega
/-- The first place of x among some; -1: none. -/
def findF : List Int → Int → Nat → Int
  | [], _, _ => -1
  | y :: r, x, i => if y = x then i else findF r x (i + 1)
theorem findF_step (xs : List Int) (x : Int) (j : Nat) (h : j < xs.length) : findF (xs.drop j) x j = if xs[j] = x then (j : Int) else findF (xs.drop (j + 1)) x (j + 1) := by
  rw [List.drop_eq_getElem_cons h, findF]
theorem findF_end (xs : List Int) (x : Int) (j : Nat) (h : xs.length ≤ j) : findF (xs.drop j) x j = -1 := by
  rw [List.drop_eq_nil_of_le h]; rfl
theorem findF_none : ∀ (xs : List Int) (x : Int) (i : Nat), x ∉ xs → findF xs x i = -1
  | [], _, _, _ => rfl
  | y :: r, x, i, h => by
    have h1 : y ≠ x := fun e => h (by simp [e])
    have h2 : x ∉ r := fun e => h (by simp [e])
    rw [findF, if_neg h1, findF_none r x (i + 1) h2]
theorem findF_some : ∀ (xs ys : List Int) (x : Int) (i : Nat), x ∉ xs → findF (xs ++ x :: ys) x i = (i + xs.length : Nat)
  | [], ys, x, i, _ => by simp [findF]
  | y :: r, ys, x, i, h => by
    have h1 : y ≠ x := fun e => h (by simp [e])
    have h2 : x ∉ r := fun e => h (by simp [e])
    rw [List.cons_append, findF, if_neg h1, findF_some r ys x (i + 1) h2]
    simp; omega
theorem mem_plcTo (l : List UInt8) (k p : Nat) : p ∈ plcTo l k ↔ p < k ∧ inn (byL l p) = false := by
  unfold plcTo; simp
/-- A place is one of the places. -/
theorem place_mem (l : List UInt8) (p : Int) : placeB l p = true ↔ p ∈ splitI l := by
  unfold placeB
  rcases Bool.eq_false_or_eq_true (validL l) with h | h
  · rw [splitI_ok h]
    simp only [h, Bool.and_true, Bool.and_eq_true, decide_eq_true_eq, Bool.or_eq_true, Bool.not_eq_true', List.mem_append, List.mem_map, List.mem_singleton]
    constructor
    · rintro ⟨⟨h0, h1⟩, h2⟩
      by_cases he : p = l.length
      · exact .inr he
      · left
        refine ⟨p.toNat, (mem_plcTo _ _ _).2 ⟨by omega, ?_⟩, by simp; omega⟩
        rcases h2 with h2 | h2
        · exact absurd h2 he
        · exact h2
    · rintro (⟨a, ha, rfl⟩ | rfl)
      · obtain ⟨h1, h2⟩ := (mem_plcTo _ _ _).1 ha
        refine ⟨⟨by simp, by simp; omega⟩, .inr (by simpa using h2)⟩
      · simp
  · rw [splitI_bad h]; simp [h]
theorem findF_nonneg (xs : List Int) (x : Int) : decide (0 ≤ findF xs x 0) = decide (x ∈ xs) := by
  by_cases h : x ∈ xs
  · obtain ⟨a, b, rfl, hn⟩ := List.eq_append_cons_of_mem h
    rw [findF_some a b x 0 hn]; simp
  · rw [findF_none xs x 0 h]; simp [h]
theorem place_find (l : List UInt8) (p : Int) : decide (0 ≤ findF (splitI l) p 0) = placeB l p := by
  rw [findF_nonneg, Bool.eq_iff_iff, decide_eq_true_eq]; exact (place_mem l p).symm

end Go.Proofs.Ythjlhbblflmajaa
