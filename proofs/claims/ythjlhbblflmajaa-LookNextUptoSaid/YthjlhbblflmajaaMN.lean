/- Rising whole numbers: how many are less; the next one round about. Plain facts. -/
import Derived.Test.YthjlhbblflmajaaBase
namespace Go.Proofs.Ythjlhbblflmajaa
open Go.RowKit
set_option linter.unusedVariables false
set_option linter.unusedSimpArgs false
/-- How many of the numbers are less. -/
def lessN (xs : List Int) (t : Int) : Nat := (xs.filter fun x => decide (x < t)).length
theorem lessN_le (xs : List Int) (t : Int) : lessN xs t ≤ xs.length := List.length_filter_le _ _
theorem lessN_at {xs : List Int} {t : Int} {i : Nat} (hi : i ≤ xs.length) (h1 : ∀ k (hk : k < xs.length), k < i → xs[k] < t) (h2 : ∀ k (hk : k < xs.length), i ≤ k → t ≤ xs[k]) : lessN xs t = i := by
  unfold lessN
  have e : xs = xs.take i ++ xs.drop i := (List.take_append_drop i xs).symm
  rw [e, List.filter_append, List.length_append]
  have a1 : (xs.take i).filter (fun x => decide (x < t)) = xs.take i := by
    rw [List.filter_eq_self]
    intro x hx
    obtain ⟨k, hk, rfl⟩ := List.getElem_of_mem hx
    rw [List.length_take] at hk
    rw [List.getElem_take]
    exact decide_eq_true (h1 k (by omega) (by omega))
  have a2 : (xs.drop i).filter (fun x => decide (x < t)) = [] := by
    rw [List.filter_eq_nil_iff]
    intro x hx
    obtain ⟨k, hk, rfl⟩ := List.getElem_of_mem hx
    rw [List.length_drop] at hk
    rw [List.getElem_drop]
    have := h2 (i + k) (by omega) (by omega)
    simp; omega
  rw [a1, a2, List.length_take]; simp; omega
theorem less_iff {xs : List Int} (hs : xs.Pairwise (· < ·)) (p : Int) (k : Nat) (hk : k < xs.length) : xs[k] < p ↔ k < lessN xs p := by
  constructor
  · intro hp
    apply Classical.byContradiction
    intro hc
    have : lessN xs p ≤ k := by omega
    have h2 : lessN xs p = (xs.filter fun x => decide (x < p)).length := rfl
    have h3 : k + 1 ≤ lessN xs p := by
      rw [h2]
      have e : xs = xs.take (k + 1) ++ xs.drop (k + 1) := (List.take_append_drop _ xs).symm
      have a1 : (xs.take (k + 1)).filter (fun x => decide (x < p)) = xs.take (k + 1) := by
        rw [List.filter_eq_self]
        intro x hx
        obtain ⟨q, hq, rfl⟩ := List.getElem_of_mem hx
        rw [List.length_take] at hq
        rw [List.getElem_take]
        refine decide_eq_true ?_
        rcases Nat.lt_or_eq_of_le (Nat.le_of_lt_succ (by omega : q < k + 1)) with h4 | h4
        · have := List.pairwise_iff_getElem.1 hs q k (by omega) (by omega) h4; omega
        · subst h4; exact hp
      rw [e, List.filter_append, List.length_append, a1, List.length_take]; omega
    omega
  · intro hp
    apply Classical.byContradiction
    intro hc
    have : lessN xs p ≤ k := by
      unfold lessN
      have e : xs = xs.take k ++ xs.drop k := (List.take_append_drop _ xs).symm
      have a2 : (xs.drop k).filter (fun x => decide (x < p)) = [] := by
        rw [List.filter_eq_nil_iff]
        intro x hx
        obtain ⟨q, hq, rfl⟩ := List.getElem_of_mem hx
        rw [List.length_drop] at hq
        rw [List.getElem_drop]
        simp only [decide_eq_true_eq, Int.not_lt]
        rcases Nat.eq_zero_or_pos q with h4 | h4
        · subst h4; simp only [Nat.add_zero]; omega
        · have := List.pairwise_iff_getElem.1 hs k (k + q) (by omega) (by omega) (by omega); omega
      rw [e, List.filter_append, List.length_append, a2, List.length_nil, Nat.add_zero]
      exact Nat.le_trans (List.length_filter_le _ _) (by rw [List.length_take]; omega)
    omega
/-- Rising: each number is at its own place. -/
theorem lessN_self {xs : List Int} (hs : xs.Pairwise (· < ·)) (j : Nat) (hj : j < xs.length) : lessN xs xs[j] = j :=
  lessN_at (Nat.le_of_lt hj) (fun k hk h => List.pairwise_iff_getElem.1 hs k j hk hj h) (fun k hk h => by
    rcases Nat.lt_or_eq_of_le h with h | h
    · have := List.pairwise_iff_getElem.1 hs j k hj hk h; omega
    · subst h; exact Int.le_refl _)
theorem lessN_succ {xs : List Int} (hs : xs.Pairwise (· < ·)) (j : Nat) (hj : j < xs.length) : lessN xs (xs[j] + 1) = j + 1 :=
  lessN_at hj (fun k hk h => by
    rcases Nat.lt_or_eq_of_le (Nat.le_of_lt_succ h) with h | h
    · have := List.pairwise_iff_getElem.1 hs k j hk hj h; omega
    · subst h; omega) (fun k hk h => by have := List.pairwise_iff_getElem.1 hs j k hj hk (by omega); omega)
/-- The one s steps behind the next one, round about. -/
def fwN (xs : List Int) (p : Int) (s : Nat) : Int := xs.getD ((lessN xs (p + 1) + s) % xs.length) 0
def bkN (xs : List Int) (p : Int) (s : Nat) : Int := xs.getD ((lessN xs p + (s + 1) * (xs.length - 1)) % xs.length) 0
theorem getD_at (xs : List Int) (j : Nat) (h : j < xs.length) : xs.getD j 0 = xs[j] := by simp [List.getD_eq_getElem?_getD, List.getElem?_eq_getElem h]
theorem fwN_step {xs : List Int} (hs : xs.Pairwise (· < ·)) (h0 : 0 < xs.length) (p : Int) (s m : Nat) : fwN xs (fwN xs p s) m = fwN xs p (s + m + 1) := by
  unfold fwN
  have hj := Nat.mod_lt (lessN xs (p + 1) + s) h0
  rw [getD_at xs _ hj, lessN_succ hs _ hj, Nat.add_assoc, Nat.mod_add_mod]
  congr 2; omega
theorem bkN_step {xs : List Int} (hs : xs.Pairwise (· < ·)) (h0 : 0 < xs.length) (p : Int) (s m : Nat) : bkN xs (bkN xs p s) m = bkN xs p (s + m + 1) := by
  unfold bkN
  have hj := Nat.mod_lt (lessN xs p + (s + 1) * (xs.length - 1)) h0
  rw [getD_at xs _ hj, lessN_self hs _ hj, Nat.mod_add_mod, Nat.add_assoc, ← Nat.add_mul]
  congr 4; omega
/-- As the program reckons it. -/
theorem bk_idx (c m s : Nat) (h0 : 0 < m) : (c + (s + 1) * (m - 1)) % m = (c + 2 * m - 1 - s % m) % m := by
  have hr := Nat.mod_lt s h0
  have hd := Nat.div_add_mod s m
  have e1 : (s + 1) * (m - 1) + (s + 1) = (s + 1) * m := by
    obtain ⟨k, rfl⟩ : ∃ k, m = k + 1 := ⟨m - 1, by omega⟩
    rw [Nat.add_sub_cancel, Nat.mul_add, Nat.mul_one]
  have e2 : c + (s + 1) * (m - 1) + m * (s / m + 2) = (c + 2 * m - 1 - s % m) + m * (s + 1) := by
    rw [Nat.mul_comm m (s + 1), ← e1, Nat.mul_add]
    omega
  rw [← Nat.add_mul_mod_self_left (c + (s + 1) * (m - 1)) m (s / m + 2), e2, Nat.add_mul_mod_self_left]
/-- Forwards and back, as often. -/
theorem bk_fw {xs : List Int} (hs : xs.Pairwise (· < ·)) (k : Nat) (hk : k < xs.length) (s : Nat) : bkN xs (fwN xs xs[k] s) s = xs[k] := by
  unfold bkN fwN
  have h0 : 0 < xs.length := by omega
  have hj := Nat.mod_lt (lessN xs (xs[k] + 1) + s) h0
  rw [getD_at xs _ hj, lessN_self hs _ hj, lessN_succ hs k hk, Nat.mod_add_mod]
  have e : (k + 1 + s + (s + 1) * (xs.length - 1)) = k + xs.length * (s + 1) := by
    have e1 : (s + 1) * (xs.length - 1) + (s + 1) = (s + 1) * xs.length := by
      obtain ⟨m, hm⟩ : ∃ m, xs.length = m + 1 := ⟨xs.length - 1, by omega⟩
      rw [hm, Nat.add_sub_cancel, Nat.mul_add, Nat.mul_one]
    rw [Nat.mul_comm xs.length, ← e1]; omega
  rw [e, Nat.add_mul_mod_self_left, Nat.mod_eq_of_lt hk, getD_at xs k hk]
theorem fw_all {xs : List Int} (hs : xs.Pairwise (· < ·)) (k : Nat) (hk : k < xs.length) : fwN xs xs[k] (xs.length - 1) = xs[k] := by
  unfold fwN
  rw [lessN_succ hs k hk]
  have e : k + 1 + (xs.length - 1) = k + xs.length := by omega
  rw [e, Nat.add_mod_right, Nat.mod_eq_of_lt hk, getD_at xs k hk]
theorem fwN_mem {xs : List Int} (h0 : 0 < xs.length) (p : Int) (s : Nat) : ∃ j, ∃ h : j < xs.length, fwN xs p s = xs[j] :=
  ⟨_, Nat.mod_lt _ h0, getD_at xs _ (Nat.mod_lt _ h0)⟩
end Go.Proofs.Ythjlhbblflmajaa
