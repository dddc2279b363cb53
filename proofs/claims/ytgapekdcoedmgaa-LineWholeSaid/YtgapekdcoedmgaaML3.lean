/- The lines one behind the other: plain facts. -/
import Derived.Test.YtgapekdcoedmgaaML2
namespace Go.Proofs.Ytgapekdcoedmgaa
open Go.RowKit
set_option linter.unusedVariables false
set_option linter.unusedSimpArgs false
theorem lnsF_next : ∀ (r : List UInt8) (st i : Nat) (l : List UInt8), l.drop i = r → i + r.length = l.length → ∀ j, j + 1 < (lnsF r st i).length → ∃ x y, (lnsF r st i)[j]? = some x ∧ (lnsF r st i)[j + 1]? = some y ∧ y.1 = x.2 + 1 ∧ byL l x.2 = 10 ∧ x.2 < l.length
  | [], st, i, l, _, _, j, h => by simp [lnsF] at h
  | b :: r, st, i, l, hd, hl, j, h => by
    have hi : i < l.length := by simp at hl; omega
    have hd' : l.drop (i + 1) = r := by rw [← List.drop_drop, hd]; rfl
    have hb : l[i] = b := by have := List.drop_eq_getElem_cons hi; rw [hd] at this; simpa using (List.cons.inj this).1.symm
    by_cases e : b = 10
    · rw [lnsF, if_pos e] at h ⊢
      cases j with
      | zero =>
        obtain ⟨e', q, h1, _, _⟩ := lnsF_head r (i + 1) (i + 1)
        refine ⟨(st, i), (i + 1, e'), rfl, by rw [h1]; rfl, rfl, by rw [byL_ten hi, hb]; exact e, hi⟩
      | succ j =>
        obtain ⟨x, y, h1, h2, h3⟩ := lnsF_next r (i + 1) (i + 1) l hd' (by simp at hl; omega) j (by simpa using h)
        exact ⟨x, y, by simpa using h1, by simpa using h2, h3⟩
    · rw [lnsF, if_neg e] at h ⊢
      exact lnsF_next r st (i + 1) l hd' (by simp at hl; omega) j h
theorem lnsF_last : ∀ (r : List UInt8) (st i : Nat), ∃ x, (lnsF r st i)[(lnsF r st i).length - 1]? = some x ∧ x.2 = i + r.length
  | [], st, i => ⟨(st, i), by simp [lnsF], by simp⟩
  | b :: r, st, i => by
    rw [lnsF]
    split
    · obtain ⟨x, h1, h2⟩ := lnsF_last r (i + 1) (i + 1)
      have : (lnsF r (i + 1) (i + 1)).length ≠ 0 := by rw [lnsF_len]; omega
      refine ⟨x, ?_, by simp; omega⟩
      rw [List.length_cons, Nat.add_sub_cancel, List.getElem?_cons, if_neg this]; exact h1
    · obtain ⟨x, h1, h2⟩ := lnsF_last r st (i + 1)
      exact ⟨x, h1, by simp; omega⟩
theorem lnsF_fds : ∀ (r : List UInt8) (st i : Nat) (l : List UInt8), l.drop i = r → i + r.length = l.length → fds l i = fds l st → ∀ j x, (lnsF r st i)[j]? = some x → fds l x.1 = fds l st + j ∧ fds l x.2 = fds l st + j
  | [], st, i, l, _, _, hf, j, x, h => by
    cases j with
    | zero => simp [lnsF] at h; subst h; exact ⟨rfl, hf⟩
    | succ j => simp [lnsF] at h
  | b :: r, st, i, l, hd, hl, hf, j, x, h => by
    have hi : i < l.length := by simp at hl; omega
    have hd' : l.drop (i + 1) = r := by rw [← List.drop_drop, hd]; rfl
    have hb : l[i] = b := by have := List.drop_eq_getElem_cons hi; rw [hd] at this; simpa using (List.cons.inj this).1.symm
    have hs := fds_succ l i hi
    have hbi : byL l i = 10 ↔ b = 10 := by rw [byL_ten hi, hb]
    rw [lnsF] at h
    split at h
    · rename_i e
      rw [if_pos (hbi.2 e)] at hs
      cases j with
      | zero => simp at h; subst h; exact ⟨rfl, hf⟩
      | succ j =>
        obtain ⟨h1, h2⟩ := lnsF_fds r (i + 1) (i + 1) l hd' (by simp at hl; omega) rfl j x (by simpa using h)
        constructor <;> omega
    · rename_i e
      rw [if_neg (fun h => e (hbi.1 h))] at hs
      obtain ⟨h1, h2⟩ := lnsF_fds r st (i + 1) l hd' (by simp at hl; omega) (by omega) j x h
      exact ⟨h1, h2⟩
/-- How far the lines ahead of line j reach. -/
def pre (l : List UInt8) (j : Nat) : Nat := if j = 0 then 0 else ((lns l).getD (j - 1) (0, 0)).2
theorem pre_all (l : List UInt8) : pre l (tens l + 1) = l.length := by
  obtain ⟨x, h1, h2⟩ := lnsF_last l 0 0
  unfold pre
  rw [if_neg (by omega), List.getD_eq_getElem?_getD]
  have : lns l = lnsF l 0 0 := rfl
  rw [← this, lns_len] at h1
  rw [h1]; simpa using h2
theorem whole_at {l : List UInt8} {j : Nat} (hv : validL l = true) (hj : j < tens l + 1) : ∃ f e : Nat, startI l j = f ∧ endI l j = e ∧ f ≤ e ∧ e ≤ l.length ∧ ofI l f = j ∧ ofI l e = j ∧ l.take (pre l (j + 1)) = (if j = 0 then [] else l.take (pre l j) ++ [10]) ++ (l.drop f).take (e - f) := by
  have hlen : j < (lns l).length := by rw [lns_len]; exact hj
  obtain ⟨⟨f, e⟩, hx⟩ : ∃ x, (lns l)[j]? = some x := ⟨_, List.getElem?_eq_getElem hlen⟩
  have hle := lines_le l (f, e) (List.mem_of_getElem? hx)
  simp only at hle
  have hl : lineI l j = some (f, e) := by unfold lineI; rw [if_pos ⟨hv, by omega⟩, Int.toNat_natCast]; exact hx
  obtain ⟨d1, d2⟩ := lnsF_fds l 0 0 l rfl (by simp) rfl j (f, e) hx
  have d0 : fds l 0 = 0 := by simp [fds, tens]
  simp only [d0, Nat.zero_add] at d1 d2
  refine ⟨f, e, by unfold startI; rw [hl], by unfold endI; rw [hl], hle.1, hle.2, ?_, ?_, ?_⟩
  · rw [(start_of (p := f) (by omega) hv).1, d1]
  · rw [(start_of (p := e) (by omega) hv).1, d2]
  · have hp : pre l (j + 1) = e := by unfold pre; rw [if_neg (by omega), List.getD_eq_getElem?_getD, Nat.add_sub_cancel, hx]; rfl
    rw [hp]
    cases j with
    | zero =>
      obtain ⟨e', q, h1, _, _⟩ := lnsF_head l 0 0
      have : lns l = (0, e') :: q := h1
      rw [this] at hx
      simp at hx
      obtain ⟨rfl, rfl⟩ := hx
      simp
    | succ j =>
      obtain ⟨x, y, h1, h2, h3, h4, h5⟩ := lnsF_next l 0 0 l rfl (by simp) j hlen
      have hxx : (lns l)[j]? = some x := h1
      have hyy : (lns l)[j + 1]? = some y := h2
      rw [hx] at hyy
      have : y = (f, e) := by simpa using hyy.symm
      subst this
      have hp2 : pre l (j + 1) = x.2 := by unfold pre; rw [if_neg (by omega), List.getD_eq_getElem?_getD, Nat.add_sub_cancel, hxx]; rfl
      rw [hp2, if_neg (by omega)]
      simp only at h3
      rw [h3] at hle ⊢
      have h6 : l.take (x.2 + 1) = l.take x.2 ++ [10] := by
        rw [List.take_add_one, List.getElem?_eq_getElem h5]
        have := byL_ten h5
        rw [h4] at this; simp at this; simp [this]
      rw [← h6]
      have key := List.take_add (l := l) (i := x.2 + 1) (j := e - (x.2 + 1))
      rw [show x.2 + 1 + (e - (x.2 + 1)) = e by omega] at key
      exact key

end Go.Proofs.Ytgapekdcoedmgaa
