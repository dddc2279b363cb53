/- Texts as runes: plain facts on lists of bytes, no program in sight. -/
import Derived.Test.YthjlhbblflmajaaBase
namespace Go.Proofs.Ythjlhbblflmajaa
open Go.RowKit
set_option linter.unusedVariables false
set_option linter.unusedSimpArgs false

/-- How many bytes a rune has that begins with b; 0: none does. -/
def fSize (b : Int) : Int := if b < 128 then 1 else if b < 194 then 0 else if b < 224 then 2 else if b < 240 then 3 else if b ≤ 244 then 4 else 0
/-- Between which the second byte lies. -/
def fLow (b : Int) : Int := if b < 194 then 0 else if b < 224 then 128 else if b = 224 then 160 else if b < 240 then 128 else if b = 240 then 144 else if b ≤ 244 then 128 else 0
def fTop (b : Int) : Int := if b < 194 then 0 else if b = 237 then 159 else if b < 244 then 191 else if b = 244 then 143 else 0
theorem fSize_lo (b : Int) : 0 ≤ fSize b := by unfold fSize; repeat' (first | omega | split)
theorem fSize_hi (b : Int) : fSize b ≤ 4 := by unfold fSize; repeat' (first | omega | split)
def okb (b0 : Int) (j : Nat) (c : Int) : Bool := if j = 1 then decide (fLow b0 ≤ c) && decide (c ≤ fTop b0) else decide (128 ≤ c) && decide (c ≤ 191)
def begOk (l : List UInt8) (k : Nat) : Bool := (List.range k).all fun j => j == 0 || okb (byL l 0) j (byL l j)
theorem begOk_succ (l : List UInt8) (k : Nat) : begOk l (k + 1) = (begOk l k && (k == 0 || okb (byL l 0) k (byL l k))) := by
  unfold begOk; rw [List.range_succ, List.all_append]; simp
theorem begOk_mono (l : List UInt8) : ∀ (d k : Nat), begOk l (k + d) = true → begOk l k = true
  | 0, _, h => h
  | d + 1, k, h => begOk_mono l d k (by rw [← Nat.add_assoc, begOk_succ, Bool.and_eq_true] at h; exact h.1)
theorem begOk_le (l : List UInt8) {k m : Nat} (h : begOk l m = true) (hk : k ≤ m) : begOk l k = true :=
  begOk_mono l (m - k) k (by rw [Nat.add_sub_cancel' hk]; exact h)
theorem begOk_at (l : List UInt8) {k j : Nat} (h : begOk l k = true) (h1 : 1 ≤ j) (hj : j < k) : okb (byL l 0) j (byL l j) = true := by
  have := begOk_le l (k := j + 1) h (by omega)
  rw [begOk_succ, Bool.and_eq_true] at this
  have h2 := this.2
  have : (j == 0) = false := by simp; omega
  simpa [this] using h2
/-- How many bytes begin the first rune, and how many that has. -/
def begA (l : List UInt8) : Int := if l.length = 0 then 0 else if begOk l (min l.length (fSize (byL l 0)).toNat) then min (l.length : Int) (fSize (byL l 0)) else 0
def begB (l : List UInt8) : Int := if l.length = 0 then 0 else if begOk l (min l.length (fSize (byL l 0)).toNat) then fSize (byL l 0) else 0
/-- How many bytes the first rune has; 0: there is none. -/
def szL (l : List UInt8) : Nat := if begA l < begB l then 0 else (begB l).toNat
theorem begB_lo (l : List UInt8) : 0 ≤ begB l := by
  unfold begB; have := fSize_lo (byL l 0); repeat' (first | omega | split)
theorem szL_le (l : List UInt8) : szL l ≤ l.length := by
  have := fSize_lo (byL l 0)
  unfold szL begA begB
  repeat' (first | omega | split)
theorem szL_hi (l : List UInt8) : szL l ≤ 4 := by
  have := fSize_hi (byL l 0)
  unfold szL begB
  repeat' (first | omega | split)
theorem szL_nil : szL [] = 0 := by have := szL_le []; simpa using this
theorem szL_eq (l : List UInt8) : (if begA l < begB l then 0 else begB l) = (szL l : Int) := by
  have := begB_lo l
  unfold szL; split <;> omega
/-- Is a text runes? -/
def validN : Nat → List UInt8 → Bool
  | 0, l => l.length == 0
  | n + 1, l => if l.length = 0 then true else if szL l = 0 then false else validN n (l.drop (szL l))
def validL (l : List UInt8) : Bool := validN l.length l
theorem validN_eq : ∀ (n : Nat) (l : List UInt8), l.length ≤ n → validN n l = validN l.length l
  | 0, l, h => by have : l.length = 0 := by omega
                  rw [this]
  | n + 1, l, h => by
    by_cases h0 : l.length = 0
    · rw [h0]; simp [validN, h0]
    · obtain ⟨m, hm⟩ : ∃ m, l.length = m + 1 := ⟨l.length - 1, by omega⟩
      by_cases hz : szL l = 0
      · rw [hm]; simp [validN, h0, hz]
      · have h1 := validN_eq n (l.drop (szL l)) (by rw [List.length_drop]; omega)
        have h2 := validN_eq m (l.drop (szL l)) (by rw [List.length_drop]; omega)
        rw [hm]; simp only [validN, if_neg h0, if_neg hz]; rw [h1, h2]
termination_by n => n
theorem validL_unfold (l : List UInt8) : validL l = if l.length = 0 then true else if szL l = 0 then false else validL (l.drop (szL l)) := by
  unfold validL
  by_cases h0 : l.length = 0
  · rw [h0]; simp [validN, h0]
  · obtain ⟨m, hm⟩ : ∃ m, l.length = m + 1 := ⟨l.length - 1, by omega⟩
    by_cases hz : szL l = 0
    · rw [hm]; simp [validN, h0, hz]
    · rw [if_neg h0, if_neg hz, ← validN_eq m (l.drop (szL l)) (by rw [List.length_drop]; omega), hm]
      simp only [validN, if_neg h0, if_neg hz]
theorem validL_nil : validL [] = true := rfl
theorem validL_bad {l : List UInt8} (h : l.length ≠ 0) (hz : szL l = 0) : validL l = false := by rw [validL_unfold, if_neg h, if_pos hz]
theorem validL_step {l : List UInt8} (h : l.length ≠ 0) (hz : szL l ≠ 0) : validL l = validL (l.drop (szL l)) := by
  conv => lhs; rw [validL_unfold, if_neg h, if_neg hz]
/-- Does a byte go on a rune? -/
def inn (b : Int) : Bool := decide (128 ≤ b) && decide (b < 192)
theorem inn_t {b : Int} (h : inn b = true) : 128 ≤ b ∧ b < 192 := by simpa [inn] using h
theorem inn_f {b : Int} (h : inn b = false) : b < 128 ∨ 192 ≤ b := by simp [inn] at h; omega
theorem inn_t' {b : Int} (h : 128 ≤ b ∧ b < 192) : inn b = true := by simp [inn]; omega
theorem inn_f' {b : Int} (h : b < 128 ∨ 192 ≤ b) : inn b = false := by simp [inn]; omega
/-- Does a rune begin at p? -/
def placeB (l : List UInt8) (p : Int) : Bool := decide (0 ≤ p) && decide (p ≤ l.length) && (decide (p = l.length) || !inn (byL l p.toNat)) && validL l
def nextI (l : List UInt8) (p : Int) : Int := if placeB l p = true ∧ p ≠ l.length then p + szL (l.drop p.toNat) else -1
def prevFrom (l : List UInt8) : Nat → Nat
  | 0 => 0
  | k + 1 => if inn (byL l (k + 1)) then prevFrom l k else k + 1
def prevI (l : List UInt8) (p : Int) : Int := if placeB l p = true ∧ p ≠ 0 then prevFrom l (p.toNat - 1) else -1
def cntL (l : List UInt8) : Nat := (l.filter fun b => !inn b.toNat).length
def countI (l : List UInt8) : Int := if validL l then cntL l else 0
def offF : List UInt8 → Nat → Int → Int
  | [], i, k => if 0 < k then -1 else i
  | b :: t, i, k => if inn b.toNat then offF t (i + 1) k else if k = 0 then i else offF t (i + 1) (k - 1)
def offI (l : List UInt8) (k : Int) : Int := if k < 0 ∨ validL l = false then -1 else offF l 0 k

/-- What szL says of the first bytes. -/
theorem szL_pos {l : List UInt8} (h : szL l ≠ 0) : l.length ≠ 0 ∧ (szL l : Int) = fSize (byL l 0) ∧ szL l ≤ l.length ∧ begOk l (szL l) = true := by
  have hle := szL_le l
  have h0 : l.length ≠ 0 := by omega
  refine ⟨h0, ?_⟩
  have hlo := fSize_lo (byL l 0)
  unfold szL at h hle ⊢
  unfold begA begB at h hle ⊢
  simp only [if_neg h0] at h hle ⊢
  by_cases hb : begOk l (min l.length (fSize (byL l 0)).toNat) = true
  · simp only [if_pos hb] at h hle ⊢
    by_cases hc : min (l.length : Int) (fSize (byL l 0)) < fSize (byL l 0)
    · simp only [if_pos hc] at h; omega
    · simp only [if_neg hc] at h hle ⊢
      refine ⟨by omega, hle, ?_⟩
      rw [Nat.min_eq_right (by omega)] at hb
      exact hb
  · simp only [if_neg hb] at h; simp at h
theorem szL_of {l : List UInt8} {n : Nat} (h0 : l.length ≠ 0) (hn : (n : Int) = fSize (byL l 0)) (hle : n ≤ l.length) (hb : begOk l n = true) : szL l = n := by
  have hm : min l.length (fSize (byL l 0)).toNat = n := by omega
  have hb' : begOk l (min l.length (fSize (byL l 0)).toNat) = true := by rw [hm]; exact hb
  unfold szL begA begB
  simp only [if_neg h0, if_pos hb']
  rw [if_neg (by omega)]; omega
/-- The first byte goes on none; those behind it do. -/
theorem inn_first {l : List UInt8} (h : szL l ≠ 0) : inn (byL l 0) = false := by
  obtain ⟨_, h1, _, _⟩ := szL_pos h
  apply inn_f'
  have hz : fSize (byL l 0) ≠ 0 := by omega
  unfold fSize at hz
  repeat' (first | omega | split at hz)
theorem inn_rest {l : List UInt8} (h : szL l ≠ 0) {j : Nat} (h1 : 1 ≤ j) (hj : j < szL l) : inn (byL l j) = true := by
  obtain ⟨_, hf, _, hb⟩ := szL_pos h
  have := begOk_at l hb h1 hj
  unfold okb at this
  apply inn_t'
  split at this
  · simp only [Bool.and_eq_true, decide_eq_true_eq] at this
    have h2 := fSize_hi (byL l 0)
    unfold fLow fTop at this
    unfold fSize at hf
    repeat' (first | omega | split at this | split at hf)
  · simp only [Bool.and_eq_true, decide_eq_true_eq] at this; omega
theorem valid_sz {l : List UInt8} (h : validL l = true) (h0 : l.length ≠ 0) : szL l ≠ 0 := by
  intro hz; rw [validL_bad h0 hz] at h; exact absurd h (by simp)
theorem valid_first {l : List UInt8} (h : validL l = true) (h0 : l.length ≠ 0) : inn (byL l 0) = false := inn_first (valid_sz h h0)

theorem place_cases (s : ByteArray) (p : Int) : placeB (ls s) p = false ∨ ∃ k : Nat, p = k ∧ k ≤ s.size ∧ placeB (ls s) k = true ∧ validL (ls s) = true := by
  rcases Bool.eq_false_or_eq_true (placeB (ls s) p) with h | h
  · refine .inr ⟨p.toNat, ?_⟩
    have h' := h
    unfold placeB at h'
    simp only [Bool.and_eq_true, decide_eq_true_eq, ls_len] at h'
    refine ⟨by omega, by omega, ?_, h'.2⟩
    rw [Int.toNat_of_nonneg h'.1.1.1]; exact h
  · exact .inl h
theorem cnt_succ (l : List UInt8) (j : Nat) (h : j < l.length) : cntL (l.take (j + 1)) = cntL (l.take j) + if inn (byL l j) = true then 0 else 1 := by
  unfold cntL byL
  rw [List.take_succ_eq_append_getElem h, List.filter_append, List.length_append, List.getD_eq_getElem?_getD, List.getElem?_eq_getElem h]
  rcases Bool.eq_false_or_eq_true (inn ↑l[j].toNat) with e | e <;> simp [List.filter_cons, e]
theorem cnt_le (l : List UInt8) (j : Nat) : cntL (l.take j) ≤ j := by
  unfold cntL
  exact Nat.le_trans (List.length_filter_le _ _) (List.length_take_le _ _)
theorem drop_cons (l : List UInt8) (j : Nat) (h : j < l.length) : l.drop j = l[j] :: l.drop (j + 1) := (List.drop_eq_getElem_cons h)
theorem off_step (l : List UInt8) (j : Nat) (k : Int) (h : j < l.length) : offF (l.drop j) j k = if inn (byL l j) = true then offF (l.drop (j + 1)) (j + 1) k else if k = 0 then (j : Int) else offF (l.drop (j + 1)) (j + 1) (k - 1) := by
  rw [drop_cons l j h]
  unfold byL
  rw [List.getD_eq_getElem?_getD, List.getElem?_eq_getElem h]
  simp [offF]

end Go.Proofs.Ythjlhbblflmajaa
