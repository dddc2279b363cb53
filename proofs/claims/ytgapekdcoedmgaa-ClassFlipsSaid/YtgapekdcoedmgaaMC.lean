/- Classes of signs: plain facts. -/
import Derived.Test.YtgapekdcoedmgaaML2
namespace Go.Proofs.Ytgapekdcoedmgaa
open Go.RowKit
set_option linter.unusedVariables false
set_option linter.unusedSimpArgs false
def lettB (b : Int) : Bool := (decide (97 ≤ b) && decide (b ≤ 122)) || (decide (65 ≤ b) && decide (b ≤ 90))
def ofB (b : Int) : Int := if b = 10 then 4 else if b = 32 ∨ b = 9 then 1 else if lettB b = true ∨ (48 ≤ b ∧ b ≤ 57) ∨ b = 95 ∨ 128 ≤ b then 2 else 3
def clsI (l : List UInt8) (p : Int) : Int := if placeB l p = true ∧ p ≠ l.length then ofB (byL l p.toNat) else 0
def bigI (l : List UInt8) (p : Int) : Int := if clsI l p = 3 then 2 else clsI l p
def kindI (l : List UInt8) (p : Int) (big : Bool) : Int := if big then bigI l p else clsI l p
theorem ofB_bd (b : Int) : 1 ≤ ofB b ∧ ofB b ≤ 4 := by unfold ofB; repeat' (first | omega | split)
theorem clsI_bd (l : List UInt8) (p : Int) : 0 ≤ clsI l p ∧ clsI l p ≤ 4 := by unfold clsI; have := ofB_bd (byL l p.toNat); split <;> omega
theorem bigI_bd (l : List UInt8) (p : Int) : 0 ≤ bigI l p ∧ bigI l p ≤ 4 := by unfold bigI; have := clsI_bd l p; split <;> omega
theorem kindI_bd (l : List UInt8) (p : Int) (big : Bool) : 0 ≤ kindI l p big ∧ kindI l p big ≤ 4 := by unfold kindI; have := clsI_bd l p; have := bigI_bd l p; split <;> omega
/-- Back from i on: the least place to which signs of class c reach. -/
def dnI (l : List UInt8) (c : Int) (big : Bool) (lo : Nat) : Nat → Nat → Nat
  | 0, f => f
  | i + 1, f => if i < lo then f else if placeB l i = true then (if kindI l i big = c then dnI l c big lo i i else f) else dnI l c big lo i f
/-- On from i, d bytes at most. -/
def upI (l : List UInt8) (c : Int) (big : Bool) : Nat → Nat → Int → Int
  | 0, _, t => t
  | d + 1, i, t => if placeB l i = true then (if kindI l i big = c then upI l c big d (i + 1) (nextI l i) else t) else upI l c big d (i + 1) t
def runI (l : List UInt8) (p : Int) (big : Bool) : Int × Int :=
  let c := kindI l p big
  if c = 0 ∨ c = 4 then (-1, -1) else ((dnI l c big (startI l (ofI l p)).toNat p.toNat p.toNat : Nat), upI l c big ((endI l (ofI l p)).toNat - p.toNat) p.toNat p)
/-- Between a place and the one ahead of it there is none. -/
theorem place_byte {l : List UInt8} {k : Nat} (hv : validL l = true) (hk : k < l.length) : placeB l k = !inn (byL l k) := by
  unfold placeB
  simp only [hv, Bool.and_true, Int.toNat_natCast]
  have a : decide ((0 : Int) ≤ k) = true := by simp
  have b : decide ((k : Int) ≤ l.length) = true := by simp; omega
  have c : decide ((k : Int) = l.length) = false := by simp; omega
  rw [a, b, c]; simp
theorem prev_gap {l : List UInt8} (hv : validL l = true) : ∀ (j : Nat), j < l.length → prevFrom l j ≤ j ∧ placeB l (prevFrom l j) = true ∧ ∀ i, prevFrom l j < i → i ≤ j → placeB l i = false
  | 0, _ => ⟨Nat.le_refl _, place_zero hv, fun i h1 h2 => by simp [prevFrom] at h1; omega⟩
  | j + 1, h => by
    rcases Bool.eq_false_or_eq_true (inn (byL l (j + 1))) with e | e
    · obtain ⟨h1, h2, h3⟩ := prev_gap hv j (by omega)
      have e2 : prevFrom l (j + 1) = prevFrom l j := by simp [prevFrom, e]
      rw [e2]
      refine ⟨by omega, h2, fun i a b => ?_⟩
      by_cases hij : i = j + 1
      · subst hij; rw [place_byte hv h, e]; rfl
      · exact h3 i a (by omega)
    · have e2 : prevFrom l (j + 1) = j + 1 := by simp [prevFrom, e]
      rw [e2]
      exact ⟨Nat.le_refl _, by rw [place_byte hv h, e]; rfl, fun i a b => by omega⟩
theorem prevI_at {l : List UInt8} {k : Nat} (h : placeB l k = true) (hk : 0 < k) : prevI l k = (prevFrom l (k - 1) : Nat) := by
  unfold prevI; rw [if_pos ⟨h, by omega⟩, Int.toNat_natCast]
theorem dnI_gap (l : List UInt8) (c : Int) (big : Bool) (lo q f : Nat) (hq : lo ≤ q) (hg : ∀ i, q < i → i < f → placeB l i = false) : ∀ i, q + 1 ≤ i → i ≤ f → dnI l c big lo i f = dnI l c big lo (q + 1) f
  | 0, h, _ => by omega
  | i + 1, h, hi => by
    by_cases e : i = q
    · subst e; rfl
    · rw [dnI, if_neg (by omega), if_neg (by rw [hg i (by omega) (by omega)]; simp)]
      exact dnI_gap l c big lo q f hq hg i (by omega) (by omega)
/-- One place back. -/
theorem dnI_step {l : List UInt8} {c : Int} {big : Bool} {lo f : Nat} (hv : validL l = true) (hf : f ≤ l.length) (hl : lo < f) (hlo : placeB l lo = true) (hpf : placeB l f = true) :
    lo ≤ prevFrom l (f - 1) ∧ prevFrom l (f - 1) < f ∧ placeB l (prevFrom l (f - 1)) = true ∧ dnI l c big lo f f = if kindI l (prevI l f) big = c then dnI l c big lo (prevFrom l (f - 1)) (prevFrom l (f - 1)) else f := by
  obtain ⟨h1, h2, h3⟩ := prev_gap hv (f - 1) (by omega)
  have h4 : lo ≤ prevFrom l (f - 1) := by
    rcases Nat.lt_or_ge (prevFrom l (f - 1)) lo with h | h
    · rw [h3 lo h (by omega)] at hlo; exact absurd hlo (by simp)
    · exact h
  refine ⟨h4, by omega, h2, ?_⟩
  rw [dnI_gap l c big lo _ f h4 (fun i a b => h3 i a (by omega)) f (by omega) (Nat.le_refl _)]
  rw [dnI, if_neg (by omega), if_pos h2, prevI_at hpf (by omega)]
theorem dnI_end (l : List UInt8) (c : Int) (big : Bool) (lo : Nat) : dnI l c big lo lo lo = lo := by
  cases lo with
  | zero => rfl
  | succ n => rw [dnI, if_pos (by omega)]
theorem next_gap {l : List UInt8} {k : Nat} (h : placeB l k = true) (hk : k < l.length) : ∃ n : Nat, nextI l k = n ∧ k < n ∧ n ≤ l.length ∧ placeB l n = true ∧ ∀ i, k < i → i < n → placeB l i = false := by
  obtain ⟨hz, hle⟩ := sz_at h hk
  obtain ⟨_, _, hv⟩ := valid_at h
  refine ⟨k + szL (l.drop k), ?_, by omega, hle, place_next h hk, fun i a b => ?_⟩
  · unfold nextI; rw [if_pos ⟨h, by omega⟩, Int.toNat_natCast]; simp
  · have := inn_rest hz (j := i - k) (by omega) (by omega)
    rw [byL_drop, Nat.add_sub_cancel' (by omega)] at this
    rw [place_byte hv (by omega), this]; rfl
theorem upI_gap (l : List UInt8) (c : Int) (big : Bool) (n : Nat) (t : Int) : ∀ (d i : Nat), i ≤ n → n - i ≤ d → (∀ j, i ≤ j → j < n → placeB l j = false) → upI l c big d i t = upI l c big (d - (n - i)) n t
  | d, i, hi, hd, hg => by
    by_cases e : i = n
    · subst e; simp
    · match d, hd with
      | 0, hd => omega
      | d + 1, hd =>
        rw [upI, if_neg (by rw [hg i (Nat.le_refl _) (by omega)]; simp), upI_gap l c big n t d (i + 1) (by omega) (by omega) (fun j a b => hg j (by omega) b)]
        congr 1; omega
theorem upI_step {l : List UInt8} {c : Int} {big : Bool} {hi t : Nat} (hh : hi ≤ l.length) (ht : t < hi) (hph : placeB l hi = true) (hpt : placeB l t = true) :
    ∃ n : Nat, nextI l t = n ∧ t < n ∧ n ≤ hi ∧ placeB l n = true ∧ upI l c big (hi - t) t t = if kindI l t big = c then upI l c big (hi - n) n n else (t : Int) := by
  obtain ⟨n, h1, h2, h3, h4, h5⟩ := next_gap hpt (by omega)
  have h6 : n ≤ hi := by
    rcases Nat.lt_or_ge hi n with h | h
    · rw [h5 hi ht h] at hph; exact absurd hph (by simp)
    · exact h
  refine ⟨n, h1, h2, h6, h4, ?_⟩
  rw [show hi - t = (hi - t - 1) + 1 by omega, upI, if_pos hpt, h1]
  rw [upI_gap l c big n n (hi - t - 1) (t + 1) (by omega) (by omega) (fun j a b => h5 j (by omega) b)]
  congr 2; omega

/-- The lines begin and end at places. -/
theorem ten_place {l : List UInt8} {i : Nat} (hv : validL l = true) (hi : i < l.length) (h : byL l i = 10) : placeB l i = true ∧ placeB l ((i + 1 : Nat) : Int) = true := by
  have h1 : placeB l i = true := by rw [place_byte hv hi, h]; rfl
  have h2 := place_next h1 hi
  obtain ⟨hz, _⟩ := sz_at h1 hi
  obtain ⟨_, h3, _, _⟩ := szL_pos hz
  rw [byL_drop, Nat.add_zero, h] at h3
  have : szL (l.drop i) = 1 := by have : fSize 10 = 1 := by decide
                                  omega
  rw [this] at h2
  exact ⟨h1, h2⟩
theorem lst_place {l : List UInt8} (hv : validL l = true) : ∀ i, i ≤ l.length → placeB l (lst l i : Nat) = true
  | 0, _ => place_zero hv
  | i + 1, h => by
    rw [lst]
    split
    · rename_i e; exact (ten_place hv (by omega) e).2
    · exact lst_place hv i (by omega)
theorem lnsF_ends : ∀ (r : List UInt8) (st i : Nat) (l : List UInt8), l.drop i = r → i + r.length = l.length → ∀ x ∈ lnsF r st i, x.2 = l.length ∨ byL l x.2 = 10
  | [], st, i, l, _, hl, x, hx => by simp [lnsF] at hx; subst hx; simp at hl; exact .inl hl
  | b :: r, st, i, l, hd, hl, x, hx => by
    have hi : i < l.length := by simp at hl; omega
    have hd' : l.drop (i + 1) = r := by rw [← List.drop_drop, hd]; rfl
    have hb : l[i] = b := by have := List.drop_eq_getElem_cons hi; rw [hd] at this; simpa using (List.cons.inj this).1.symm
    rw [lnsF] at hx
    split at hx
    · rename_i e
      rcases List.mem_cons.1 hx with rfl | hx
      · right; rw [byL_ten hi, hb]; exact e
      · exact lnsF_ends r _ _ l hd' (by simp at hl; omega) x hx
    · exact lnsF_ends r _ _ l hd' (by simp at hl; omega) x hx
theorem lns_ends {l : List UInt8} {x : Nat × Nat} (hx : x ∈ lns l) : x.2 = l.length ∨ byL l x.2 = 10 := lnsF_ends l 0 0 l rfl (by simp) x hx
theorem end_place {l : List UInt8} (hv : validL l = true) {x : Nat × Nat} (hx : x ∈ lns l) : placeB l (x.2 : Nat) = true := by
  have hle := (lines_le l x hx).2
  rcases lns_ends hx with h | h
  · rw [h]; exact place_mk hv (Nat.le_refl _) (.inl rfl)
  · by_cases e : x.2 < l.length
    · exact (ten_place hv e h).1
    · exact place_mk hv hle (.inl (by omega))
theorem lnsF_starts2 : ∀ (r : List UInt8) (st i : Nat) (l : List UInt8), l.drop i = r → i + r.length = l.length → ∀ x ∈ lnsF r st i, x.1 = st ∨ ∃ j, x.1 = j + 1 ∧ j < l.length ∧ byL l j = 10
  | [], st, i, l, _, hl, x, hx => by simp [lnsF] at hx; subst hx; exact .inl rfl
  | b :: r, st, i, l, hd, hl, x, hx => by
    have hi : i < l.length := by simp at hl; omega
    have hd' : l.drop (i + 1) = r := by rw [← List.drop_drop, hd]; rfl
    have hb : l[i] = b := by have := List.drop_eq_getElem_cons hi; rw [hd] at this; simpa using (List.cons.inj this).1.symm
    rw [lnsF] at hx
    split at hx
    · rename_i e
      rcases List.mem_cons.1 hx with rfl | hx
      · exact .inl rfl
      · rcases lnsF_starts2 r _ _ l hd' (by simp at hl; omega) x hx with h | h
        · exact .inr ⟨i, h, hi, by rw [byL_ten hi, hb]; exact e⟩
        · exact .inr h
    · exact lnsF_starts2 r _ _ l hd' (by simp at hl; omega) x hx
theorem start_place {l : List UInt8} (hv : validL l = true) {x : Nat × Nat} (hx : x ∈ lns l) : placeB l (x.1 : Nat) = true := by
  rcases lnsF_starts2 l 0 0 l rfl (by simp) x hx with h | ⟨j, h1, h2, h3⟩
  · rw [h]; exact place_zero hv
  · rw [h1]; exact (ten_place hv h2 h3).2
/-- The line of a place: where it begins and ends. -/
theorem line_at {l : List UInt8} {p : Nat} (h : placeB l p = true) : ∃ e : Nat, startI l (ofI l p) = (lst l p : Nat) ∧ endI l (ofI l p) = e ∧ lst l p ≤ p ∧ p ≤ e ∧ e ≤ l.length ∧ placeB l (lst l p : Nat) = true ∧ placeB l e = true := by
  obtain ⟨_, hle, hv⟩ := valid_at h
  obtain ⟨h1, h2, e, h3, h4, h5⟩ := start_of hle hv
  refine ⟨e, h2, h3, lst_le l p, h4, h5, lst_place hv p hle, ?_⟩
  obtain ⟨e', q1, q2, q3⟩ := line_of l p hle
  have : e' = e := by
    have hl : lineI l (fds l p : Nat) = some (lst l p, e') := by unfold lineI; rw [if_pos ⟨hv, by omega⟩, Int.toNat_natCast]; exact q1
    rw [h1] at h3
    unfold endI at h3; rw [hl] at h3
    simp at h3; omega
  subst this
  exact end_place hv (List.mem_of_getElem? q1)

end Go.Proofs.Ytgapekdcoedmgaa
