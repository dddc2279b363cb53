/- A rune by its number: plain facts. -/
import Derived.Test.YthjlhbblflmajaaMU
namespace Go.Proofs.Ythjlhbblflmajaa
open Go.RowKit
set_option linter.unusedVariables false
set_option linter.unusedSimpArgs false
/-- A number's rune; nothing: it is none. -/
def bytesL (n : Int) : List UInt8 :=
  if n < 0 ∨ 1114111 < n ∨ 55296 ≤ n ∧ n < 57344 then []
  else if n < 128 then [b8 n]
  else if n < 2048 then [b8 (192 + n / 64), b8 (128 + n % 64)]
  else if n < 65536 then [b8 (224 + n / 4096), b8 (128 + n / 64 % 64), b8 (128 + n % 64)]
  else [b8 (240 + n / 262144), b8 (128 + n / 4096 % 64), b8 (128 + n / 64 % 64), b8 (128 + n % 64)]
def num2 (a b : Int) : Int := if a - 192 < 0 then -1 else if b - 128 < 0 ∨ 63 < b - 128 then -1 else 64 * (a - 192) + (b - 128)
def num3 (a b c : Int) : Int := if a - 224 < 0 then -1 else if b - 128 < 0 ∨ 63 < b - 128 then -1 else if c - 128 < 0 ∨ 63 < c - 128 then -1 else 64 * (64 * (a - 224) + (b - 128)) + (c - 128)
def num4 (a b c d : Int) : Int := if a - 240 < 0 then -1 else if b - 128 < 0 ∨ 63 < b - 128 then -1 else if c - 128 < 0 ∨ 63 < c - 128 then -1 else if d - 128 < 0 ∨ 63 < d - 128 then -1 else 64 * (64 * (64 * (a - 240) + (b - 128)) + (c - 128)) + (d - 128)
/-- The number of the rune that some bytes might be. -/
def numI (l : List UInt8) : Int :=
  if l.length = 1 then byL l 0 else if l.length = 2 then num2 (byL l 0) (byL l 1) else if l.length = 3 then num3 (byL l 0) (byL l 1) (byL l 2) else num4 (byL l 0) (byL l 1) (byL l 2) (byL l 3)
theorem numI_1 {l : List UInt8} (h : l.length = 1) : numI l = byL l 0 := by simp [numI, h]
theorem numI_2 {l : List UInt8} (h : l.length = 2) : numI l = num2 (byL l 0) (byL l 1) := by simp [numI, h]
theorem numI_3 {l : List UInt8} (h : l.length = 3) : numI l = num3 (byL l 0) (byL l 1) (byL l 2) := by simp [numI, h]
theorem numI_4 {l : List UInt8} (h : l.length = 4) : numI l = num4 (byL l 0) (byL l 1) (byL l 2) (byL l 3) := by simp [numI, h]
/-- Are bytes just one rune? -/
def isL (l : List UInt8) : Bool := decide (l.length ≠ 0) && decide (szL l = l.length)
theorem is_long (l : List UInt8) (h : 5 ≤ l.length) : isL l = false := by
  have := szL_hi l
  unfold isL; simp; omega
theorem is_none (l : List UInt8) (h : l.length = 0) : isL l = false := by unfold isL; simp [h]
theorem b8_eq {n : Int} {a : UInt8} (h0 : 0 ≤ n) (h1 : n < 256) : b8 n = a ↔ n = a.toNat := by
  unfold b8
  constructor
  · intro h; subst h
    rw [UInt8.toNat_ofNat']; omega
  · intro h
    apply UInt8.toNat_inj.1
    rw [UInt8.toNat_ofNat']; omega
theorem sz_iff (l : List UInt8) (n : Nat) (hn : n = l.length) (h0 : n ≠ 0) : szL l = n ↔ (n : Int) = fSize (byL l 0) ∧ begOk l n = true := by
  subst hn
  constructor
  · intro h
    obtain ⟨_, h2, _, h4⟩ := szL_pos (l := l) (by omega)
    rw [h] at h2 h4; exact ⟨h2, h4⟩
  · rintro ⟨h2, h4⟩
    exact szL_of (by omega) h2 (Nat.le_refl _) h4
theorem beg2 (a b : UInt8) (r : List UInt8) : begOk (a :: b :: r) 2 = okb a.toNat 1 b.toNat := by
  rw [begOk_succ, begOk_succ]; simp [begOk, byL]
theorem beg3 (a b c : UInt8) (r : List UInt8) : begOk (a :: b :: c :: r) 3 = (okb a.toNat 1 b.toNat && okb a.toNat 2 c.toNat) := by
  rw [begOk_succ, beg2]; simp [byL]
theorem beg4 (a b c d : UInt8) (r : List UInt8) : begOk (a :: b :: c :: d :: r) 4 = (okb a.toNat 1 b.toNat && okb a.toNat 2 c.toNat && okb a.toNat 3 d.toNat) := by
  rw [begOk_succ, beg3]; simp [byL]
theorem sz1 (a : UInt8) : szL [a] = 1 ↔ a.toNat < 128 := by
  rw [sz_iff [a] 1 rfl (by omega)]
  have : begOk [a] 1 = true := by rw [begOk_succ]; simp [begOk]
  simp only [this, and_true, byL, List.getD_cons_zero]
  unfold fSize
  constructor
  · intro h; repeat' (first | omega | split at h)
  · intro h; rw [if_pos (by omega)]; rfl
theorem sz2 (a b : UInt8) : szL [a, b] = 2 ↔ 194 ≤ a.toNat ∧ a.toNat < 224 ∧ 128 ≤ b.toNat ∧ b.toNat < 192 := by
  rw [sz_iff [a, b] 2 rfl (by omega), beg2]
  simp only [byL, List.getD_cons_zero]
  unfold okb fSize fLow fTop
  constructor
  · rintro ⟨h, h2⟩; simp only [if_true, Bool.and_eq_true, decide_eq_true_eq] at h2
    repeat' (first | omega | split at h | split at h2)
  · intro h; simp only [if_true, Bool.and_eq_true, decide_eq_true_eq]
    repeat' (first | omega | split)
theorem sz3 (a b c : UInt8) : szL [a, b, c] = 3 ↔ 224 ≤ a.toNat ∧ a.toNat < 240 ∧ 128 ≤ b.toNat ∧ b.toNat < 192 ∧ 128 ≤ c.toNat ∧ c.toNat < 192 ∧ (a.toNat = 224 → 160 ≤ b.toNat) ∧ (a.toNat = 237 → b.toNat < 160) := by
  rw [sz_iff [a, b, c] 3 rfl (by omega), beg3]
  simp only [byL, List.getD_cons_zero]
  unfold okb fSize fLow fTop
  constructor
  · rintro ⟨h, h2⟩; simp only [if_true, Bool.and_eq_true, decide_eq_true_eq, Nat.reduceEqDiff, if_false] at h2
    obtain ⟨⟨h2, h3⟩, h4, h5⟩ := h2
    repeat' (first | omega | split at h | split at h2 | split at h3)
  · intro h; simp only [if_true, Bool.and_eq_true, decide_eq_true_eq, Nat.reduceEqDiff, if_false]
    repeat' (first | omega | split)
theorem sz4 (a b c d : UInt8) : szL [a, b, c, d] = 4 ↔ 240 ≤ a.toNat ∧ a.toNat ≤ 244 ∧ 128 ≤ b.toNat ∧ b.toNat < 192 ∧ 128 ≤ c.toNat ∧ c.toNat < 192 ∧ 128 ≤ d.toNat ∧ d.toNat < 192 ∧ (a.toNat = 240 → 144 ≤ b.toNat) ∧ (a.toNat = 244 → b.toNat < 144) := by
  rw [sz_iff [a, b, c, d] 4 rfl (by omega), beg4]
  simp only [byL, List.getD_cons_zero]
  unfold okb fSize fLow fTop
  constructor
  · rintro ⟨h, h2⟩; simp only [if_true, Bool.and_eq_true, decide_eq_true_eq, Nat.reduceEqDiff, if_false] at h2
    obtain ⟨⟨⟨h2, h3⟩, h4, h5⟩, h6, h7⟩ := h2
    repeat' (first | omega | split at h | split at h2 | split at h3)
  · intro h; simp only [if_true, Bool.and_eq_true, decide_eq_true_eq, Nat.reduceEqDiff, if_false]
    repeat' (first | omega | split)
theorem bytes_bad : bytesL (-1) = [] := by rfl
theorem is_eq1 (a : UInt8) : bytesL (a.toNat : Int) = [a] ↔ szL [a] = 1 := by
  have ha := a.toNat_lt
  rw [sz1]
  unfold bytesL
  repeat' split
  all_goals simp only [List.cons.injEq, and_true, reduceCtorEq, and_false, false_iff, false_and]
  all_goals first | omega | (rw [b8_eq (by omega) (by omega)]; omega)
theorem is_eq2 (a b : UInt8) : bytesL (num2 a.toNat b.toNat) = [a, b] ↔ szL [a, b] = 2 := by
  have ha := a.toNat_lt
  have hb := b.toNat_lt
  rw [sz2]
  by_cases hw : 192 ≤ a.toNat ∧ 128 ≤ b.toNat ∧ b.toNat < 192
  · obtain ⟨n, hn⟩ : ∃ n : Int, n = 64 * ((a.toNat : Int) - 192) + ((b.toNat : Int) - 128) := ⟨_, rfl⟩
    have : num2 a.toNat b.toNat = n := by unfold num2; rw [if_neg (by omega), if_neg (by omega), hn]
    rw [this]
    unfold bytesL
    repeat' split
    all_goals simp only [List.cons.injEq, and_true, reduceCtorEq, and_false, false_iff, false_and]
    all_goals first | omega | (rw [b8_eq (by omega) (by omega), b8_eq (by omega) (by omega)]; omega)
  · have : num2 a.toNat b.toNat = -1 := by unfold num2; repeat' (first | omega | split)
    rw [this, bytes_bad]; simp; omega
theorem is_eq3 (a b c : UInt8) : bytesL (num3 a.toNat b.toNat c.toNat) = [a, b, c] ↔ szL [a, b, c] = 3 := by
  have ha := a.toNat_lt
  have hb := b.toNat_lt
  have hc := c.toNat_lt
  rw [sz3]
  by_cases hw : 224 ≤ a.toNat ∧ 128 ≤ b.toNat ∧ b.toNat < 192 ∧ 128 ≤ c.toNat ∧ c.toNat < 192
  · obtain ⟨n, hn⟩ : ∃ n : Int, n = 64 * (64 * ((a.toNat : Int) - 224) + ((b.toNat : Int) - 128)) + ((c.toNat : Int) - 128) := ⟨_, rfl⟩
    have : num3 a.toNat b.toNat c.toNat = n := by unfold num3; rw [if_neg (by omega), if_neg (by omega), if_neg (by omega), hn]
    rw [this]
    unfold bytesL
    repeat' split
    all_goals simp only [List.cons.injEq, and_true, reduceCtorEq, and_false, false_iff, false_and]
    all_goals first | omega | (rw [b8_eq (by omega) (by omega), b8_eq (by omega) (by omega), b8_eq (by omega) (by omega)]; omega)
  · have : num3 a.toNat b.toNat c.toNat = -1 := by unfold num3; repeat' (first | omega | split)
    rw [this, bytes_bad]; simp; omega
theorem is_eq4 (a b c d : UInt8) : bytesL (num4 a.toNat b.toNat c.toNat d.toNat) = [a, b, c, d] ↔ szL [a, b, c, d] = 4 := by
  have ha := a.toNat_lt
  have hb := b.toNat_lt
  have hc := c.toNat_lt
  have hd := d.toNat_lt
  rw [sz4]
  by_cases hw : 240 ≤ a.toNat ∧ 128 ≤ b.toNat ∧ b.toNat < 192 ∧ 128 ≤ c.toNat ∧ c.toNat < 192 ∧ 128 ≤ d.toNat ∧ d.toNat < 192
  · obtain ⟨n, hn⟩ : ∃ n : Int, n = 64 * (64 * (64 * ((a.toNat : Int) - 240) + ((b.toNat : Int) - 128)) + ((c.toNat : Int) - 128)) + ((d.toNat : Int) - 128) := ⟨_, rfl⟩
    have : num4 a.toNat b.toNat c.toNat d.toNat = n := by unfold num4; rw [if_neg (by omega), if_neg (by omega), if_neg (by omega), if_neg (by omega), hn]
    rw [this]
    unfold bytesL
    repeat' split
    all_goals simp only [List.cons.injEq, and_true, reduceCtorEq, and_false, false_iff, false_and]
    all_goals first | omega | (rw [b8_eq (by omega) (by omega), b8_eq (by omega) (by omega), b8_eq (by omega) (by omega), b8_eq (by omega) (by omega)]; omega)
  · have : num4 a.toNat b.toNat c.toNat d.toNat = -1 := by unfold num4; repeat' (first | omega | split)
    rw [this, bytes_bad]; simp; omega
theorem is_eq (l : List UInt8) (h1 : 1 ≤ l.length) (h4 : l.length ≤ 4) : (bytesL (numI l) == l) = isL l := by
  rw [Bool.eq_iff_iff, beq_iff_eq]
  unfold isL
  simp only [Bool.and_eq_true, decide_eq_true_eq]
  match l, h1, h4 with
  | [a], _, _ => rw [numI_1 rfl]; simpa [byL] using is_eq1 a
  | [a, b], _, _ => rw [numI_2 rfl]; simpa [byL] using is_eq2 a b
  | [a, b, c], _, _ => rw [numI_3 rfl]; simpa [byL] using is_eq3 a b c
  | [a, b, c, d], _, _ => rw [numI_4 rfl]; simpa [byL] using is_eq4 a b c d
  | a :: b :: c :: d :: e :: r, _, h => simp at h

end Go.Proofs.Ythjlhbblflmajaa
