/- Where a text stands in another one: plain facts. -/
import Derived.Test.YthjlhbblflmajaaMU4
import Derived.Lib.IndexMore
namespace Go.Proofs.Ythjlhbblflmajaa
open Go.RowKit
set_option linter.unusedVariables false
set_option linter.unusedSimpArgs false
/-- The places from i on at which p stands in l. -/
def occF (l p : List UInt8) (i : Nat) : List Nat := (List.range' i (l.length + 1 - i)).filter (Lib.occAt l p)
def lookI (l p : List UInt8) : List Int := if p ≠ [] ∧ validL l = true ∧ validL p = true then (occF l p 0).map Int.ofNat else []
theorem occAt_drop (l p : List UInt8) (i j : Nat) : Lib.occAt (l.drop i) p j = Lib.occAt l p (i + j) := by
  unfold Lib.occAt; rw [List.drop_drop]
theorem occAt_len {l p : List UInt8} {i : Nat} (hi : i ≤ l.length) (h : Lib.occAt l p i = true) : i + p.length ≤ l.length := by
  unfold Lib.occAt at h
  have h2 := (List.isPrefixOf_iff_prefix.1 h).length_le
  rw [List.length_drop] at h2; omega
theorem occF_skip (l p : List UInt8) (i : Nat) : ∀ m, i + m ≤ l.length + 1 → (∀ j, j < m → Lib.occAt l p (i + j) = false) → occF l p i = occF l p (i + m)
  | 0, _, _ => rfl
  | m + 1, hm, h => by
    rw [occF_skip l p i m (by omega) (fun j hj => h j (by omega))]
    unfold occF
    obtain ⟨d, hd⟩ : ∃ d, l.length + 1 - (i + m) = d + 1 := ⟨l.length - (i + m), by omega⟩
    have hd2 : l.length + 1 - (i + (m + 1)) = d := by omega
    rw [hd, hd2, List.range'_succ, List.filter_cons_of_neg (by rw [h m (by omega)]; decide)]
    rfl
theorem occF_hit {l p : List UInt8} {i : Nat} (hi : i ≤ l.length) (h : Lib.occAt l p i = true) : occF l p i = i :: occF l p (i + 1) := by
  unfold occF
  obtain ⟨d, hd⟩ : ∃ d, l.length + 1 - i = d + 1 := ⟨l.length - i, by omega⟩
  have hd2 : l.length + 1 - (i + 1) = d := by omega
  rw [hd, hd2, List.range'_succ, List.filter_cons_of_pos h]
theorem occF_end (l p : List UInt8) (i : Nat) (hi : l.length < i) : occF l p i = [] := by
  unfold occF
  have : l.length + 1 - i = 0 := by omega
  rw [this]; rfl
/-- One place on. -/
theorem occF_next {l p : List UInt8} {i n : Nat} (hi : i ≤ l.length) (hn : Lib.index (l.drop i) p = n) : occF l p i = (i + n) :: occF l p (i + n + 1) ∧ i + n + p.length ≤ l.length := by
  rcases Lib.index_spec (l.drop i) p with ⟨h, _⟩ | ⟨m, h, hm, ho, hno⟩
  · omega
  · have : m = n := by omega
    subst this
    rw [List.length_drop] at hm
    rw [occAt_drop] at ho
    refine ⟨?_, occAt_len (by omega) ho⟩
    rw [occF_skip l p i m (by omega) (fun j hj => by rw [← occAt_drop]; exact hno j hj), occF_hit (by omega) ho]
theorem occF_none {l p : List UInt8} {i : Nat} (hi : i ≤ l.length) (hn : Lib.index (l.drop i) p < 0) : occF l p i = [] := by
  rcases Lib.index_spec (l.drop i) p with ⟨_, h⟩ | ⟨m, h, hm, ho, hno⟩
  · rw [occF_skip l p i (l.length + 1 - i) (by omega) (fun j hj => by rw [← occAt_drop]; exact h j (by rw [List.length_drop]; omega))]
    exact occF_end _ _ _ (by omega)
  · omega
theorem occF_len (l p : List UInt8) (i : Nat) : (occF l p i).length ≤ l.length + 1 := by
  unfold occF
  refine Nat.le_trans (List.length_filter_le _ _) ?_
  rw [List.length_range']; omega
theorem lookI_len (l p : List UInt8) : (lookI l p).length ≤ l.length + 1 := by
  unfold lookI; split
  · rw [List.length_map]; exact occF_len _ _ _
  · simp
end Go.Proofs.Ythjlhbblflmajaa
