/- Columns, and places in lines: plain facts. -/
import Derived.Test.YtgapekdcoedmgaaML
namespace Go.Proofs.Ytgapekdcoedmgaa
open Go.RowKit
set_option linter.unusedVariables false
set_option linter.unusedSimpArgs false
/-- The text of an offset's line, up to it. -/
def upL (l : List UInt8) (p : Nat) : List UInt8 := (l.drop (lst l p)).take (p - lst l p)
def colI (l : List UInt8) (p : Int) : Int := if placeB l p = true then countI (upL l p.toNat) else -1
def rowL (l : List UInt8) (x : Nat × Nat) : List UInt8 := (l.drop x.1).take (x.2 - x.1)
def atI (l : List UInt8) (k col : Int) : Int := match lineI l k with
  | none => -1
  | some x => if offI (rowL l x) (max col 0) < 0 then x.2 else x.1 + offI (rowL l x) (max col 0)
def endsB (l : List UInt8) (p : Nat) : Bool := decide (p = l.length) || decide (byL l p = 10)
/-- The last place that is not behind k. -/
def downTo (l : List UInt8) : Nat → Nat
  | 0 => 0
  | k + 1 => if placeB l ((k + 1 : Nat) : Int) = true then k + 1 else downTo l k
def cutI (l : List UInt8) (p : Int) : Nat := (min (max p 0) l.length).toNat
def clampI (l : List UInt8) (p : Int) : Int :=
  if validL l = true then
    let q := downTo l (cutI l p)
    if endsB l q = true ∧ lst l q < q then prevI l q else q
  else 0
def normalB (l : List UInt8) (p : Int) : Bool := placeB l p && (!endsB l p.toNat || decide (lst l p.toNat = p.toNat))
theorem downTo_le (l : List UInt8) : ∀ k, downTo l k ≤ k
  | 0 => Nat.le_refl _
  | k + 1 => by rw [downTo]; have := downTo_le l k; split <;> omega
theorem place_zero {l : List UInt8} (hv : validL l = true) : placeB l ((0 : Nat) : Int) = true := by
  refine place_mk hv (by omega) ?_
  rcases Nat.eq_zero_or_pos l.length with h | h
  · exact .inl h.symm
  · exact .inr (valid_first hv (by omega))
theorem downTo_place {l : List UInt8} (hv : validL l = true) : ∀ k, placeB l (downTo l k : Nat) = true
  | 0 => place_zero hv
  | k + 1 => by
    rw [downTo]
    split
    · assumption
    · exact downTo_place hv k
theorem downTo_hit {l : List UInt8} {k : Nat} (h : placeB l k = true) : downTo l k = k := by
  cases k with
  | zero => rfl
  | succ k => rw [downTo, if_pos h]
theorem downTo_miss {l : List UInt8} {k : Nat} (h : placeB l ((k + 1 : Nat) : Int) = false) : downTo l (k + 1) = downTo l k := by
  rw [downTo, if_neg (by rw [h]; simp)]
theorem offF_lo : ∀ (r : List UInt8) (i : Nat) (k : Int), -1 ≤ offF r i k ∧ offF r i k ≤ i + r.length
  | [], i, k => by unfold offF; split <;> simp <;> omega
  | b :: r, i, k => by
    have h1 := offF_lo r (i + 1) k
    have h2 := offF_lo r (i + 1) (k - 1)
    rw [offF]
    simp only [List.length_cons]
    split
    · omega
    · split <;> omega
theorem offI_lo (r : List UInt8) (k : Int) : -1 ≤ offI r k ∧ offI r k ≤ r.length := by
  unfold offI; have := offF_lo r 0 k; split <;> omega
theorem rowL_len {l : List UInt8} {x : Nat × Nat} (h1 : x.1 ≤ x.2) (h2 : x.2 ≤ l.length) : (rowL l x).length = x.2 - x.1 := by
  unfold rowL; rw [List.length_take, List.length_drop]; omega
/-- Where the last line feed ahead of p is. -/
theorem lst_last (s : ByteArray) (p : Nat) (hp : p ≤ s.size) : Lib.lastIndexByte (s.extract 0 p) 10 + 1 = lst (ls s) p := by
  have key : ∀ (k : Nat), k ≤ p → Lib.lastIdx (s.extract 0 p) 10 k + 1 = lst (ls s) k := by
    intro k
    induction k with
    | zero => intro _; simp [Lib.lastIdx, lst]
    | succ k ih =>
      intro hk
      have hb : (((s.extract 0 p).data[k]!).toNat : Int) = byL (ls s) k := by
        unfold byL
        have h1 : k < (s.extract 0 p).data.size := by
          have : (s.extract 0 p).size = p := by simp; omega
          exact (by rw [← this] at hk; exact hk)
        rw [getElem!_pos (s.extract 0 p).data k h1]
        have h2 : k < (ls s).length := by rw [ls_len]; omega
        rw [List.getD_eq_getElem?_getD, List.getElem?_eq_getElem h2, Option.getD_some]
        have h3 : (s.extract 0 p).data.toList = ((ls s).drop 0).take (p - 0) := Lib.extract_data s 0 p
        have h4 : (s.extract 0 p).data[k] = (s.extract 0 p).data.toList[k]'(by simpa using h1) := by simp
        rw [h4]
        congr 2
        simp only [h3]
        simp
      unfold Lib.lastIdx
      rw [lst, hb]
      by_cases h : byL (ls s) k = 10
      · simp [h]
      · simp [h]; exact ih (by omega)
  have hsz : (s.extract 0 p).size = p := by simp; omega
  unfold Lib.lastIndexByte
  rw [hsz]
  exact key p (Nat.le_refl _)

end Go.Proofs.Ytgapekdcoedmgaa
