/- Texts line by line: plain facts. -/
import Derived.Test.YthjlhbblflmajaaMU4
import Derived.Lib.LastIndexLaws
import Derived.Lib.LastIndexByte
namespace Go.Proofs.Ythjlhbblflmajaa
open Go.RowKit
set_option linter.unusedVariables false
set_option linter.unusedSimpArgs false
/-- The lines from place i on, the first of which begins at st. -/
def lnsF : List UInt8 → Nat → Nat → List (Nat × Nat)
  | [], st, i => [(st, i)]
  | b :: r, st, i => if b = 10 then (st, i) :: lnsF r (i + 1) (i + 1) else lnsF r st (i + 1)
/-- Where each line begins and ends. -/
def lns (l : List UInt8) : List (Nat × Nat) := lnsF l 0 0
/-- Where the line of an offset begins. -/
def lst (l : List UInt8) : Nat → Nat
  | 0 => 0
  | i + 1 => if byL l i = 10 then i + 1 else lst l i
/-- How many line feeds there are. -/
def tens (l : List UInt8) : Nat := l.count 10
/-- How many line feeds are ahead of an offset. -/
def fds (l : List UInt8) (i : Nat) : Nat := tens (l.take i)
theorem tens_le (l : List UInt8) : tens l ≤ l.length := List.count_le_length
theorem byL_ten {l : List UInt8} {j : Nat} (h : j < l.length) : (byL l j = 10) = (l[j] = 10) := by
  unfold byL; rw [List.getD_eq_getElem?_getD, List.getElem?_eq_getElem h]
  simp only [Option.getD_some, eq_iff_iff]
  constructor
  · intro e; apply UInt8.toNat_inj.1; simpa using (by omega : l[j].toNat = 10)
  · intro e; rw [e]; rfl
theorem lnsF_step (l : List UInt8) (st j : Nat) (h : j < l.length) : lnsF (l.drop j) st j = if byL l j = 10 then (st, j) :: lnsF (l.drop (j + 1)) (j + 1) (j + 1) else lnsF (l.drop (j + 1)) st (j + 1) := by
  rw [List.drop_eq_getElem_cons h, lnsF]; simp only [byL_ten h]
theorem lnsF_end (l : List UInt8) (st j : Nat) (h : l.length ≤ j) : lnsF (l.drop j) st j = [(st, j)] := by
  rw [List.drop_eq_nil_of_le h]; rfl
theorem lnsF_len : ∀ (r : List UInt8) (st i : Nat), (lnsF r st i).length = r.count 10 + 1
  | [], _, _ => rfl
  | b :: r, st, i => by
    by_cases h : b = 10
    · subst h; simp [lnsF, lnsF_len r]
    · rw [lnsF, if_neg h, lnsF_len r, List.count_cons_of_ne h]
theorem lns_len (l : List UInt8) : (lns l).length = tens l + 1 := lnsF_len l 0 0
theorem fds_le (l : List UInt8) (i : Nat) : fds l i ≤ i := Nat.le_trans List.count_le_length (by simp; omega)
theorem fds_mono (l : List UInt8) (i : Nat) : fds l i ≤ tens l := List.Sublist.count_le _ (List.take_sublist _ _)
theorem fds_succ (l : List UInt8) (i : Nat) (h : i < l.length) : fds l (i + 1) = fds l i + if byL l i = 10 then 1 else 0 := by
  unfold fds tens; rw [List.take_succ_eq_append_getElem h, List.count_append]; simp only [byL_ten h]
  by_cases e : l[i] = 10 <;> simp [e, List.count_singleton]
theorem fds_all (l : List UInt8) : fds l l.length = tens l := by unfold fds; rw [List.take_length]
theorem lst_le (l : List UInt8) : ∀ i, lst l i ≤ i
  | 0 => Nat.le_refl _
  | i + 1 => by rw [lst]; have := lst_le l i; split <;> omega
/-- The lines are those ahead of a place, and those from it on. -/
theorem lns_split (l : List UInt8) : ∀ i, i ≤ l.length → ∃ a, lns l = a ++ lnsF (l.drop i) (lst l i) i ∧ a.length = fds l i
  | 0, _ => ⟨[], by simp [lns, lst], by simp [fds, tens]⟩
  | i + 1, h => by
    obtain ⟨a, ha, hl⟩ := lns_split l i (by omega)
    rw [lnsF_step l _ i (by omega)] at ha
    rw [lst, fds_succ l i (by omega)]
    by_cases e : byL l i = 10
    · simp only [if_pos e] at ha ⊢
      exact ⟨a ++ [(lst l i, i)], by rw [ha]; simp, by simp [hl]⟩
    · simp only [if_neg e] at ha ⊢
      exact ⟨a, ha, by omega⟩
theorem lnsF_head : ∀ (r : List UInt8) (st i : Nat), ∃ e q, lnsF r st i = (st, e) :: q ∧ i ≤ e ∧ e ≤ i + r.length
  | [], st, i => ⟨i, [], rfl, by omega, by simp⟩
  | b :: r, st, i => by
    by_cases h : b = 10
    · exact ⟨i, _, by rw [lnsF, if_pos h], by omega, by omega⟩
    · obtain ⟨e, q, h1, h2, h3⟩ := lnsF_head r st (i + 1)
      exact ⟨e, q, by rw [lnsF, if_neg h]; exact h1, by omega, by simp; omega⟩
/-- The line of an offset. -/
theorem line_of (l : List UInt8) (p : Nat) (h : p ≤ l.length) : ∃ e, (lns l)[fds l p]? = some (lst l p, e) ∧ p ≤ e ∧ e ≤ l.length := by
  obtain ⟨a, ha, hl⟩ := lns_split l p h
  obtain ⟨e, q, h1, h2, h3⟩ := lnsF_head (l.drop p) (lst l p) p
  rw [List.length_drop] at h3
  refine ⟨e, ?_, h2, by omega⟩
  rw [ha, h1, ← hl]; simp
theorem indexByte_none : ∀ (r : List UInt8) (st i : Nat), Lib.indexByte r 10 < 0 → lnsF r st i = [(st, i + r.length)]
  | [], _, _, _ => by simp [lnsF]
  | b :: r, st, i, h => by
    have hg := Lib.indexByte_ge r 10
    unfold Lib.indexByte at h
    by_cases hb : b = 10
    · simp [hb] at h
    · have hb' : (b == 10) = false := by simpa using hb
      rw [hb'] at h
      rw [lnsF, if_neg hb, indexByte_none r st (i + 1) ?_]
      · simp; omega
      · by_cases e : Lib.indexByte r 10 == -1
        · have : Lib.indexByte r 10 = -1 := by simpa using e
          omega
        · simp [e] at h
          have : ¬ Lib.indexByte r 10 = -1 := by simpa using e
          omega
theorem indexByte_some : ∀ (r : List UInt8) (st i : Nat) (n : Nat), Lib.indexByte r 10 = n → n < r.length ∧ lnsF r st i = (st, i + n) :: lnsF (r.drop (n + 1)) (i + n + 1) (i + n + 1)
  | [], _, _, n, h => by (simp [Lib.indexByte] at h) <;> omega
  | b :: r, st, i, n, h => by
    have hg := Lib.indexByte_ge r 10
    unfold Lib.indexByte at h
    by_cases hb : b = 10
    · have : n = 0 := by simp [hb] at h; omega
      subst this
      simp [lnsF, hb]
    · have hb' : (b == 10) = false := by simpa using hb
      rw [hb'] at h
      by_cases e : Lib.indexByte r 10 == -1
      · (simp [e] at h) <;> omega
      · simp [e] at h
        have e' : ¬ Lib.indexByte r 10 = -1 := by simpa using e
        obtain ⟨m, rfl⟩ : ∃ m, n = m + 1 := ⟨n - 1, by omega⟩
        obtain ⟨h1, h2⟩ := indexByte_some r st (i + 1) m (by omega)
        refine ⟨by simp; omega, ?_⟩
        rw [lnsF, if_neg hb, h2]
        simp [Nat.add_assoc, Nat.add_comm, Nat.add_left_comm]
/-- One line on. -/
theorem line_next (l : List UInt8) (i : Nat) (h : i ≤ l.length) (n : Nat) (hn : Lib.indexByte (l.drop i) 10 = n) : i + n < l.length ∧ lnsF (l.drop i) i i = (i, i + n) :: lnsF (l.drop (i + n + 1)) (i + n + 1) (i + n + 1) := by
  obtain ⟨h1, h2⟩ := indexByte_some (l.drop i) i i n hn
  rw [List.length_drop] at h1
  rw [List.drop_drop] at h2
  exact ⟨by omega, by rw [h2, Nat.add_assoc]⟩
theorem line_last (l : List UInt8) (i : Nat) (h : i ≤ l.length) (hn : Lib.indexByte (l.drop i) 10 < 0) : lnsF (l.drop i) i i = [(i, l.length)] := by
  rw [indexByte_none _ _ _ hn, List.length_drop, Nat.add_sub_cancel' h]

def lcountI (l : List UInt8) : Int := if validL l then (tens l : Int) + 1 else 0
def lineI (l : List UInt8) (k : Int) : Option (Nat × Nat) := if validL l = true ∧ 0 ≤ k then (lns l)[k.toNat]? else none
def startI (l : List UInt8) (k : Int) : Int := match lineI l k with | some x => x.1 | none => -1
def endI (l : List UInt8) (k : Int) : Int := match lineI l k with | some x => x.2 | none => -1
def ofI (l : List UInt8) (p : Int) : Int := if p < 0 ∨ (l.length : Int) < p ∨ validL l = false then -1 else fds l p.toNat
theorem lines_le (l : List UInt8) : ∀ x ∈ lns l, x.1 ≤ x.2 ∧ x.2 ≤ l.length := by
  have : ∀ (r : List UInt8) (st i : Nat), st ≤ i → ∀ x ∈ lnsF r st i, x.1 ≤ x.2 ∧ x.2 ≤ i + r.length := by
    intro r
    induction r with
    | nil => intro st i h x hx; simp [lnsF] at hx; subst hx; exact ⟨h, by simp⟩
    | cons b r ih =>
      intro st i h x hx
      rw [lnsF] at hx
      split at hx
      · rcases List.mem_cons.1 hx with rfl | hx
        · exact ⟨h, by simp⟩
        · have := ih (i + 1) (i + 1) (Nat.le_refl _) x hx; simp; omega
      · have := ih st (i + 1) (by omega) x hx; simp; omega
  intro x hx
  have := this l 0 0 (Nat.le_refl _) x hx
  omega
theorem lineI_le {l : List UInt8} {k : Int} {x : Nat × Nat} (h : lineI l k = some x) : x.1 ≤ x.2 ∧ x.2 ≤ l.length ∧ validL l = true ∧ 0 ≤ k ∧ (lns l)[k.toNat]? = some x := by
  unfold lineI at h
  split at h
  · rename_i hc
    have := lines_le l x (List.mem_of_getElem? h)
    exact ⟨this.1, this.2, hc.1, hc.2, h⟩
  · cases h
/-- The line of an offset, and where it begins. -/
theorem start_of {l : List UInt8} {p : Nat} (h : p ≤ l.length) (hv : validL l = true) : ofI l p = fds l p ∧ startI l (ofI l p) = lst l p ∧ ∃ e : Nat, endI l (ofI l p) = e ∧ p ≤ e ∧ e ≤ l.length := by
  have ho : ofI l p = fds l p := by unfold ofI; rw [if_neg (by simp [hv]; omega), Int.toNat_natCast]
  obtain ⟨e, h1, h2, h3⟩ := line_of l p h
  have hl : lineI l (fds l p) = some (lst l p, e) := by unfold lineI; rw [if_pos ⟨hv, by omega⟩, Int.toNat_natCast]; exact h1
  rw [ho]
  exact ⟨rfl, by unfold startI; rw [hl], e, by unfold endI; rw [hl], h2, h3⟩

end Go.Proofs.Ythjlhbblflmajaa
