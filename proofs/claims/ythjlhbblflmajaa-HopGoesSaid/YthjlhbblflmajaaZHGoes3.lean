/- Joined by merge.py out of this work's texts: PHr, Q6, Q7, PHt. -/
import Derived.Test.YthjlhbblflmajaaZHGoes1
import Derived.Test.YthjlhbblflmajaaZHGoes2
/- The document's rows (calamusref15): what its functions come to. -/
namespace Go.Proofs.Ythjlhbblflmajaa
open Go.RowKit
set_option linter.unusedVariables false
set_option linter.unusedSimpArgs false
open Go.RowKit Go.Proofs.Ythjlhbblflmajaa.Q Go.Proofs.YthjlhbblflmajaaW.PrintWords Go.Proofs.YthjlhbblflmajaaW.PrintMore
theorem rd_at (pre r : List Int) (x : Int) : rd (pre ++ x :: r) (pre.length : Int) = x := by rw [rd_getD]; simp [List.getD_eq_getElem?_getD]
theorem rd_at1 (pre r : List Int) (x y : Int) : rd (pre ++ x :: y :: r) ((pre.length : Int) + 1) = y := by
  have e : ((pre.length : Int) + 1) = (((pre ++ [x]).length : Nat) : Int) := by simp
  have e2 : pre ++ x :: y :: r = (pre ++ [x]) ++ y :: r := by simp
  rw [e, e2, rd_at]
theorem kind_rune {t : ByteArray} {p : Nat} (big : Bool) (hp : placeB (ls t) p = true) (h : p < t.size) : kindR (ls (t.extract p (p + szL ((ls t).drop p)))) big = kindI (ls t) p big := by
  rw [← kindR_of, ls_ext2, Nat.add_sub_cancel_left]
  unfold runeL
  rw [if_pos ⟨hp, by rw [ls_len]; omega⟩]
  simp
theorem hrow_l0 (t : ByteArray) (big : Bool) (ht : t.size ≤ 1000000) : ∀ (n p : Nat) (xs pre acc : List Int), placeB (ls t) p = true → t.size + 1 - p ≤ n → pre.length + n ≤ 2000000 → acc.length = pre.length → xs = pre ++ (plsF (ls t) n p).map Int.ofNat →
    Ev (fun k => calamusref15_row.l0 k t big xs acc (pre.length : Int)) (xs, acc ++ (plsF (ls t) n p).map (kc (ls t) big))
  | 0, p, _, _, _, hp, hn, _, _, _ => by have := place_le hp; rw [ls_len] at this; omega
  | n + 1, p, xs, pre, acc, hp, hn, hb, ha, hx => by
    have hle := place_le hp
    rw [ls_len] at hle
    have hlen : xs.length ≤ pre.length + (n + 1) := by rw [hx]; simp; exact plsF_len
    unfold plsF at hx ⊢
    by_cases he : p = (ls t).length
    · rw [if_pos he] at hx ⊢
      have hl : xs.length = pre.length + 1 := by rw [hx]; simp
      have hk : kc (ls t) big p = 0 := by rw [he, kc_end]
      refine Ev.step (fun _ => (by rw [calamusref15_row.l0])) ?_
      rw [w64 (n := (pre.length : Int) + 1) (by omega) (by omega)]
      refine Ev.pos (by omega) (Ev.neg (by omega) (Ev.neg (by decide) (Ev.neg (by decide) (Ev.pos (by omega) ?_))))
      refine Ev.step (fun _ => (by rw [calamusref15_row.l0])) ?_
      refine Ev.neg (by omega) (Ev.ret ?_)
      simp [hk]
    · rw [if_neg he] at hx ⊢
      have hlt : p < (ls t).length := by rw [ls_len] at he ⊢; omega
      have hnx := place_next hp hlt
      have hz := sz_at hp hlt
      rw [ls_len] at hz
      obtain ⟨r, hr⟩ := plsF_cons (l := ls t) (n := n) hnx (by rw [ls_len]; omega)
      have hx2 : xs = pre ++ (p : Int) :: ((p + szL ((ls t).drop p) : Nat) : Int) :: r.map Int.ofNat := by rw [hx, hr]; rfl
      have e1 : rd xs (pre.length : Int) = (p : Int) := by rw [hx2, rd_at]
      have e2 : rd xs ((pre.length : Int) + 1) = ((p + szL ((ls t).drop p) : Nat) : Int) := by rw [hx2, rd_at1]
      have hl : pre.length + 2 ≤ xs.length := by rw [hx2]; simp
      have ih := hrow_l0 t big ht n (p + szL ((ls t).drop p)) xs (pre ++ [(p : Int)]) (acc ++ [kc (ls t) big p]) hnx (by omega) (by simp; omega) (by simp; omega) (by rw [hx]; simp)
      have e5 : (((pre ++ [(p : Int)]).length : Nat) : Int) = (pre.length : Int) + 1 := by simp
      rw [e5] at ih
      have key : ∀ c, c = kc (ls t) big p → Ev (fun k => if acc.length < 17592186044416 then calamusref15_row.l0 k t big xs (acc ++ [c]) ((pre.length : Int) + 1) else none) (xs, acc ++ ((p :: plsF (ls t) n (p + szL ((ls t).drop p))).map (kc (ls t) big))) := by
        rintro c rfl
        refine Ev.pos (by omega) (Ev.eq ih ?_)
        simp
      have hkr := kind_rune big hp (by rw [ls_len] at hlt; exact hlt)
      refine Ev.step (fun _ => (by rw [calamusref15_row.l0])) ?_
      rw [w64 (n := (pre.length : Int) + 1) (by omega) (by omega), e1, e2, Int.toNat_natCast, Int.toNat_natCast, calamusref05_Kind.eq _ _ (by simp; omega), hkr]
      simp only [Option.bind_some]
      refine Ev.pos (by omega) (Ev.pos (by omega) (Ev.pos (by omega) (Ev.pos (by omega) (Ev.pos (by omega) (Ev.pos (by omega) (Ev.pos (by omega) ?_))))))
      refine Ev.ite (fun h => ?_) (fun h => Ev.ite (fun h4 => ?_) (fun h4 => ?_))
      · exact key _ (by unfold kc; rw [if_pos (.inl h)])
      · exact key _ (by unfold kc; rw [if_pos (.inr h4)])
      · exact key _ (by unfold kc; rw [if_neg (by omega)])
theorem em_iff {t : ByteArray} {p : Nat} (hp : p ≤ t.size) : emB (ls t) p = true ↔ ((p = 0 ∨ bt t ((p : Int) - 1) = 10) ∧ (p = t.size ∨ bt t (p : Int) = 10)) := by
  unfold emB
  rw [ls_len]
  simp only [Bool.and_eq_true, Bool.or_eq_true, decide_eq_true_eq]
  refine and_congr ?_ ?_
  · by_cases h : p = 0
    · simp [h]
    · have e : (p : Int) - 1 = ((p - 1 : Nat) : Int) := by omega
      rw [e, bt_nat t (p - 1) (by omega)]
  · by_cases h : p = t.size
    · simp [h]
    · rw [bt_nat t p (by omega)]
theorem hst_l0 (t : ByteArray) (big : Bool) (ht : t.size ≤ 1000000) : ∀ (n p : Nat) (xs cs pre cpre acc : List Int) (last : Int), placeB (ls t) p = true → t.size + 1 - p ≤ n → pre.length + n ≤ 2000000 → cpre.length = pre.length → acc.length ≤ pre.length →
    (pre.length = 0 → last = 0) → (0 < pre.length → rd cs ((pre.length : Int) - 1) = last) → xs = pre ++ (plsF (ls t) n p).map Int.ofNat → cs = cpre ++ (plsF (ls t) n p).map (kc (ls t) big) →
    Ev (fun k => calamusref15_Starts.l0 k t xs cs acc (pre.length : Int)) (acc ++ stq (ls t) big (plsF (ls t) n p) last)
  | 0, p, _, _, _, _, _, _, hp, hn, _, _, _, _, _, _, _ => by have := place_le hp; rw [ls_len] at this; omega
  | n + 1, p, xs, cs, pre, cpre, acc, last, hp, hn, hb, hcp, ha, hl0, hl1, hx, hc => by
    have hle := place_le hp
    rw [ls_len] at hle
    have hxl : xs.length = cs.length := by rw [hx, hc]; simp [hcp]
    have hlen : xs.length ≤ pre.length + (n + 1) := by rw [hx]; simp; exact plsF_len
    obtain ⟨r, hr⟩ := plsF_cons (l := ls t) (n := n + 1) hp (by rw [ls_len]; omega)
    have e1 : rd xs (pre.length : Int) = (p : Int) := by rw [hx, hr, List.map_cons, rd_at]; rfl
    have e2 : rd cs (pre.length : Int) = kc (ls t) big p := by rw [hc, hr, List.map_cons, ← hcp, rd_at]
    have hl : pre.length + 1 ≤ xs.length := by rw [hx, hr]; simp
    have hrr : r = if p = (ls t).length then [] else plsF (ls t) n (p + szL ((ls t).drop p)) := by
      have := hr.symm; unfold plsF at this; exact (List.cons.inj this).2
    rw [hr] at hx hc ⊢
    have hem := em_iff (t := t) hle
    have next : ∀ acc' : List Int, acc'.length ≤ pre.length + 1 → Ev (fun k => calamusref15_Starts.l0 k t xs cs acc' ((pre.length : Int) + 1)) (acc' ++ stq (ls t) big r (kc (ls t) big p)) := by
      intro acc' ha'
      by_cases he : p = (ls t).length
      · rw [if_pos he] at hrr
        subst hrr
        have : xs.length = pre.length + 1 := by rw [hx]; simp
        refine Ev.step (fun _ => (by rw [calamusref15_Starts.l0])) ?_
        refine Ev.neg (by omega) (Ev.ret ?_)
        simp [stq]
      · rw [if_neg he] at hrr
        have hlt : p < (ls t).length := by rw [ls_len] at he ⊢; omega
        have hz := sz_at hp hlt
        rw [ls_len] at hz
        have ih := hst_l0 t big ht n (p + szL ((ls t).drop p)) xs cs (pre ++ [(p : Int)]) (cpre ++ [kc (ls t) big p]) acc' (kc (ls t) big p) (place_next hp hlt) (by omega) (by simp; omega) (by simp; omega) (by simp; omega) (by simp) (fun _ => by
          have : (((pre ++ [(p : Int)]).length : Nat) : Int) - 1 = (pre.length : Int) := by simp
          rw [this, e2]) (by rw [hx, hrr]; simp) (by rw [hc, hrr]; simp)
        have e5 : (((pre ++ [(p : Int)]).length : Nat) : Int) = (pre.length : Int) + 1 := by simp
        rw [e5] at ih
        rw [hrr]; exact ih
    show Ev _ (acc ++ ((if (kc (ls t) big p ≠ 0 ∧ kc (ls t) big p ≠ last) ∨ emB (ls t) p = true then [(p : Int)] else []) ++ stq (ls t) big r (kc (ls t) big p)))
    refine Ev.step (fun _ => (by rw [calamusref15_Starts.l0])) ?_
    rw [w64 (n := (pre.length : Int) + 1) (by omega) (by omega), w64 (n := (pre.length : Int) - 1) (by omega) (by omega), e1, e2, w64 (n := (p : Int) - 1) (by omega) (by omega)]
    simp only [hem]
    clear hem e1 e2 hrr hr hx hc
    generalize kc (ls t) big p = c at *
    generalize bt t ((p : Int) - 1) = b1 at *
    generalize bt t (p : Int) = b2 at *
    generalize rd cs ((pre.length : Int) - 1) = lz at *
    have key1 : ((c ≠ 0 ∧ c ≠ last) ∨ ((p = 0 ∨ b1 = 10) ∧ (p = t.size ∨ b2 = 10))) → Ev (fun k => if acc.length < 17592186044416 then calamusref15_Starts.l0 k t xs cs (acc ++ [(p : Int)]) ((pre.length : Int) + 1) else none) (acc ++ ((if (c ≠ 0 ∧ c ≠ last) ∨ ((p = 0 ∨ b1 = 10) ∧ (p = t.size ∨ b2 = 10)) then [(p : Int)] else []) ++ stq (ls t) big r c)) := by
      intro h
      rw [if_pos h]
      exact Ev.pos (by omega) (Ev.eq (next (acc ++ [(p : Int)]) (by simp; omega)) (by simp))
    have key0 : ¬ ((c ≠ 0 ∧ c ≠ last) ∨ ((p = 0 ∨ b1 = 10) ∧ (p = t.size ∨ b2 = 10))) → Ev (fun k => calamusref15_Starts.l0 k t xs cs acc ((pre.length : Int) + 1)) (acc ++ ((if (c ≠ 0 ∧ c ≠ last) ∨ ((p = 0 ∨ b1 = 10) ∧ (p = t.size ∨ b2 = 10)) then [(p : Int)] else []) ++ stq (ls t) big r c)) := by
      intro h
      rw [if_neg h]
      exact Ev.eq (next acc (by omega)) (by simp)
    clear next
    repeat' first
      | refine key1 ?_; omega
      | refine key0 ?_; omega
      | (exfalso; omega)
      | refine Ev.ite (fun _ => ?_) (fun _ => ?_)
theorem hen_l0 (t : ByteArray) (big : Bool) (ht : t.size ≤ 1000000) : ∀ (n p : Nat) (xs cs pre cpre acc : List Int), placeB (ls t) p = true → t.size + 1 - p ≤ n → pre.length + n ≤ 2000000 → cpre.length = pre.length → acc.length ≤ pre.length →
    xs = pre ++ (plsF (ls t) n p).map Int.ofNat → cs = cpre ++ (plsF (ls t) n p).map (kc (ls t) big) →
    Ev (fun k => calamusref15_Ends.l0 k xs cs acc (pre.length : Int)) (acc ++ enq (ls t) big (plsF (ls t) n p))
  | 0, p, _, _, _, _, _, hp, hn, _, _, _, _, _ => by have := place_le hp; rw [ls_len] at this; omega
  | n + 1, p, xs, cs, pre, cpre, acc, hp, hn, hb, hcp, ha, hx, hc => by
    have hle := place_le hp
    rw [ls_len] at hle
    have hxl : xs.length = cs.length := by rw [hx, hc]; simp [hcp]
    have hlen : xs.length ≤ pre.length + (n + 1) := by rw [hx]; simp; exact plsF_len
    unfold plsF at hx hc ⊢
    by_cases he : p = (ls t).length
    · rw [if_pos he] at hx hc ⊢
      have hl : xs.length = pre.length + 1 := by rw [hx]; simp
      have hk : kc (ls t) big p = 0 := by rw [he, kc_end]
      have e2 : rd cs (pre.length : Int) = 0 := by rw [hc, ← hcp]; simp only [List.map_cons, List.map_nil]; rw [rd_at, hk]
      refine Ev.step (fun _ => (by rw [calamusref15_Ends.l0])) ?_
      rw [w64 (n := (pre.length : Int) + 1) (by omega) (by omega), e2]
      refine Ev.pos (by omega) (Ev.pos (by omega) (Ev.pos (by omega) (Ev.pos rfl ?_)))
      refine Ev.step (fun _ => (by rw [calamusref15_Ends.l0])) ?_
      refine Ev.neg (by omega) (Ev.ret ?_)
      simp [enq]
    · rw [if_neg he] at hx hc ⊢
      have hlt : p < (ls t).length := by rw [ls_len] at he ⊢; omega
      have hnx := place_next hp hlt
      have hz := sz_at hp hlt
      rw [ls_len] at hz
      obtain ⟨r, hr⟩ := plsF_cons (l := ls t) (n := n) hnx (by rw [ls_len]; omega)
      have hx2 : xs = pre ++ (p : Int) :: ((p + szL ((ls t).drop p) : Nat) : Int) :: r.map Int.ofNat := by rw [hx, hr]; rfl
      have hc2 : cs = cpre ++ kc (ls t) big p :: kc (ls t) big (p + szL ((ls t).drop p)) :: r.map (kc (ls t) big) := by rw [hc, hr]; rfl
      have e1 : rd xs (pre.length : Int) = (p : Int) := by rw [hx2, rd_at]
      have e2 : rd cs (pre.length : Int) = kc (ls t) big p := by rw [hc2, ← hcp, rd_at]
      have e3 : rd cs ((pre.length : Int) + 1) = kc (ls t) big (p + szL ((ls t).drop p)) := by rw [hc2, ← hcp, rd_at1]
      have hl : pre.length + 2 ≤ xs.length := by rw [hx2]; simp
      have ih : ∀ acc' : List Int, acc'.length ≤ pre.length + 1 → Ev (fun k => calamusref15_Ends.l0 k xs cs acc' ((pre.length : Int) + 1)) (acc' ++ enq (ls t) big (plsF (ls t) n (p + szL ((ls t).drop p)))) := by
        intro acc' ha'
        have h := hen_l0 t big ht n (p + szL ((ls t).drop p)) xs cs (pre ++ [(p : Int)]) (cpre ++ [kc (ls t) big p]) acc' hnx (by omega) (by simp; omega) (by simp; omega) (by simp; omega) (by rw [hx]; simp) (by rw [hc]; simp)
        have e5 : (((pre ++ [(p : Int)]).length : Nat) : Int) = (pre.length : Int) + 1 := by simp
        rw [e5] at h; exact h
      have hq : enq (ls t) big (p :: plsF (ls t) n (p + szL ((ls t).drop p))) = (if kc (ls t) big p ≠ 0 ∧ kc (ls t) big (p + szL ((ls t).drop p)) ≠ kc (ls t) big p then [(p : Int)] else []) ++ enq (ls t) big (plsF (ls t) n (p + szL ((ls t).drop p))) := by
        rw [hr]; rfl
      rw [hq]
      refine Ev.step (fun _ => (by rw [calamusref15_Ends.l0])) ?_
      rw [w64 (n := (pre.length : Int) + 1) (by omega) (by omega), e1, e2, e3]
      refine Ev.pos (by omega) (Ev.pos (by omega) (Ev.pos (by omega) ?_))
      refine Ev.ite (fun h0 => ?_) (fun h0 => Ev.pos (by omega) (Ev.pos (by omega) (Ev.ite (fun h1 => ?_) (fun h1 => Ev.pos (by omega) ?_))))
      · rw [if_neg (by omega)]; exact Ev.eq (ih acc (by omega)) (by simp)
      · rw [if_neg (by omega)]; exact Ev.eq (ih acc (by omega)) (by simp)
      · rw [if_pos ⟨h0, h1⟩]; exact Ev.eq (ih (acc ++ [(p : Int)]) (by simp; omega)) (by simp)
theorem r15_row (t : ByteArray) (big : Bool) (ht : t.size ≤ 1000000) : Ev (fun k => calamusref15_row.f k t big) (splitI (ls t), if validL (ls t) = true then (plsF (ls t) ((ls t).length + 1) 0).map (kc (ls t) big) else []) := by
  unfold calamusref15_row.f
  rw [calamusref03_Split.eq t (by omega)]
  simp only [Option.bind_some]
  rcases Bool.eq_false_or_eq_true (validL (ls t)) with hv | hv
  · rw [if_pos hv]
    exact hrow_l0 t big ht ((ls t).length + 1) 0 (splitI (ls t)) [] [] (place_zero hv) (by rw [ls_len]; omega) (by rw [ls_len]; simp; omega) rfl (by rw [splitI_plsF hv]; rfl)
  · rw [if_neg (by rw [hv]; decide), splitI_bad hv]
    refine Ev.step (fun _ => (by rw [calamusref15_row.l0])) ?_
    exact Ev.neg (by simp) (Ev.ret rfl)
theorem r15_starts (t : ByteArray) (big : Bool) (ht : t.size ≤ 1000000) : Ev (fun k => calamusref15_Starts.f k t big) (startsI (ls t) big) := by
  unfold calamusref15_Starts.f
  refine Ev.bind (r15_row t big ht) ?_
  dsimp only
  rcases Bool.eq_false_or_eq_true (validL (ls t)) with hv | hv
  · rw [if_pos hv, starts_eq big hv]
    exact hst_l0 t big ht ((ls t).length + 1) 0 _ _ [] [] [] 0 (place_zero hv) (by rw [ls_len]; omega) (by rw [ls_len]; simp; omega) rfl (by simp) (fun _ => rfl) (fun h => by simp at h) (by rw [splitI_plsF hv]; rfl) rfl
  · rw [if_neg (by rw [hv]; decide), splitI_bad hv]
    refine Ev.step (fun _ => (by rw [calamusref15_Starts.l0])) ?_
    refine Ev.neg (by simp) (Ev.ret ?_)
    unfold startsI; rw [if_neg (by rw [hv]; decide)]
theorem r15_ends (t : ByteArray) (big : Bool) (ht : t.size ≤ 1000000) : Ev (fun k => calamusref15_Ends.f k t big) (endsI (ls t) big) := by
  unfold calamusref15_Ends.f
  refine Ev.bind (r15_row t big ht) ?_
  dsimp only
  rcases Bool.eq_false_or_eq_true (validL (ls t)) with hv | hv
  · rw [if_pos hv, ends_eq big hv]
    exact hen_l0 t big ht ((ls t).length + 1) 0 _ _ [] [] [] (place_zero hv) (by rw [ls_len]; omega) (by rw [ls_len]; simp; omega) rfl (by simp) (by rw [splitI_plsF hv]; rfl) rfl
  · rw [if_neg (by rw [hv]; decide), splitI_bad hv]
    refine Ev.step (fun _ => (by rw [calamusref15_Ends.l0])) ?_
    refine Ev.neg (by simp) (Ev.ret ?_)
    unfold endsI; rw [if_neg (by rw [hv]; decide)]
end Go.Proofs.Ythjlhbblflmajaa
-- Printed by this work's xp.py out of the translation. Lean checks it.
namespace Go.Proofs.Ythjlhbblflmajaa.Q
open Go.RowKit Go.Proofs.YthjlhbblflmajaaW.PrintWords Go.Proofs.YthjlhbblflmajaaW.PrintLast Go.Proofs.YthjlhbblflmajaaW.PrintMore
attribute [local go_sem] max2_int min2_int max_two min_two max_three min_three max_four min_four   -- for this text's walks alone
set_option linter.unusedVariables false
set_option linter.unusedSimpArgs false


/-! ### calamusref15_Go -/
mutual
def calamusref15_Go.j0 : Nat → ByteArray → Int → ByteArray → Int → Bool → Option (Int × Bool)
  | 0, _, _, _, _, _ => none
  | k + 1, x0, x1, x2, x3, x27 => if x27 = true then (some (0, false)) else (if x2.toList = ([87] : List UInt8) then (calamusref15_Go.j1 k x0 x1 x2 x3 true) else (if x2.toList = ([66] : List UInt8) then (calamusref15_Go.j1 k x0 x1 x2 x3 true) else (calamusref15_Go.j1 k x0 x1 x2 x3 (x2.toList == ([69] : List UInt8)))))
def calamusref15_Go.j1 : Nat → ByteArray → Int → ByteArray → Int → Bool → Option (Int × Bool)
  | 0, _, _, _, _, _ => none
  | k + 1, x0, x1, x2, x3, x10 => (calamusref15_Starts.f k x0 x10).bind fun t264 => ((calamusref15_Ends.f k x0 x10).bind fun t267 => (if x3 < 1 then (calamusref15_Go.j2 k x0 x1 x2 1 t264 t267) else (calamusref15_Go.j2 k x0 x1 x2 x3 t264 t267)))
def calamusref15_Go.j2 : Nat → ByteArray → Int → ByteArray → Int → List Int → List Int → Option (Int × Bool)
  | 0, _, _, _, _, _, _ => none
  | k + 1, x0, x1, x2, x3, x11, x12 => calamusref15_Go.l0 k x0 x1 x2 x3 x11 x12 false 0
def calamusref15_Go.l0 : Nat → ByteArray → Int → ByteArray → Int → List Int → List Int → Bool → Int → Option (Int × Bool)
  | 0, _, _, _, _, _, _, _, _ => none
  | k + 1, x0, x1, x2, x3, x11, x12, x13, x14 => if x14 < x3 then (if x2.toList = ([119] : List UInt8) then (calamusref15_Go.j4 k x0 x1 x2 x3 x11 x12 x13 x14 (-1) x2 (x2.toList == ([119] : List UInt8))) else (calamusref15_Go.j4 k x0 x1 x2 x3 x11 x12 x13 x14 (-1) x2 (x2.toList == ([87] : List UInt8)))) else (if x13 = true then (some (x1, true)) else (some (0, false)))
def calamusref15_Go.j4 : Nat → ByteArray → Int → ByteArray → Int → List Int → List Int → Bool → Int → Int → ByteArray → Bool → Option (Int × Bool)
  | 0, _, _, _, _, _, _, _, _, _, _, _ => none
  | k + 1, x0, x1, x2, x3, x11, x12, x13, x14, x15, x51, x69 => if x69 = true then (if x1 < (x0.size : Int) then (calamusref15_Go.j5 k x0 x1 x2 x3 x11 x12 x13 x14 (x0.size : Int)) else (calamusref15_Go.j5 k x0 x1 x2 x3 x11 x12 x13 x14 x15)) else (if x51.toList = ([98] : List UInt8) then (calamusref15_Go.j7 k x0 x1 x2 x3 x11 x12 x13 x14 x15 (x51.toList == ([98] : List UInt8))) else (calamusref15_Go.j7 k x0 x1 x2 x3 x11 x12 x13 x14 x15 (x51.toList == ([66] : List UInt8))))
def calamusref15_Go.j5 : Nat → ByteArray → Int → ByteArray → Int → List Int → List Int → Bool → Int → Int → Option (Int × Bool)
  | 0, _, _, _, _, _, _, _, _, _ => none
  | k + 1, x0, x1, x2, x3, x11, x12, x13, x14, x15 => calamusref15_Go.l1 k x0 x1 x2 x3 x11 x12 x13 x14 x15 (wrap64 ((x11.length : Int) - 1))
def calamusref15_Go.l1 : Nat → ByteArray → Int → ByteArray → Int → List Int → List Int → Bool → Int → Int → Int → Option (Int × Bool)
  | 0, _, _, _, _, _, _, _, _, _, _ => none
  | k + 1, x0, x1, x2, x3, x11, x12, x13, x14, x15, x16 => if x16 ≥ 0 then (if 0 ≤ x16 then (if x16 < (x11.length : Int) then (if (rd x11 x16) > x1 then (calamusref15_Go.l1 k x0 x1 x2 x3 x11 x12 x13 x14 (rd x11 x16) (wrap64 (x16 - 1))) else (calamusref15_Go.l1 k x0 x1 x2 x3 x11 x12 x13 x14 x15 (wrap64 (x16 - 1)))) else (none)) else (none)) else (if x15 < 0 then (if x13 = true then (some (x1, true)) else (some (0, false))) else (calamusref15_Go.l0 k x0 x15 x2 x3 x11 x12 true (wrap64 (x14 + 1))))
def calamusref15_Go.j7 : Nat → ByteArray → Int → ByteArray → Int → List Int → List Int → Bool → Int → Int → Bool → Option (Int × Bool)
  | 0, _, _, _, _, _, _, _, _, _, _ => none
  | k + 1, x0, x1, x2, x3, x11, x12, x13, x14, x15, x95 => if x95 = true then (calamusref15_Go.l2 k x0 x1 x2 x3 x11 x12 x13 x14 x15 0) else (calamusref15_Go.l3 k x0 x1 x2 x3 x11 x12 x13 x14 x15 (wrap64 ((x12.length : Int) - 1)))
def calamusref15_Go.l2 : Nat → ByteArray → Int → ByteArray → Int → List Int → List Int → Bool → Int → Int → Int → Option (Int × Bool)
  | 0, _, _, _, _, _, _, _, _, _, _ => none
  | k + 1, x0, x1, x2, x3, x11, x12, x13, x14, x15, x17 => if x17 < (x11.length : Int) then (if 0 ≤ x17 then (if (rd x11 x17) < x1 then (calamusref15_Go.l2 k x0 x1 x2 x3 x11 x12 x13 x14 (rd x11 x17) (wrap64 (x17 + 1))) else (calamusref15_Go.l2 k x0 x1 x2 x3 x11 x12 x13 x14 x15 (wrap64 (x17 + 1)))) else (none)) else (if x15 < 0 then (if x13 = true then (some (x1, true)) else (some (0, false))) else (calamusref15_Go.l0 k x0 x15 x2 x3 x11 x12 true (wrap64 (x14 + 1))))
def calamusref15_Go.l3 : Nat → ByteArray → Int → ByteArray → Int → List Int → List Int → Bool → Int → Int → Int → Option (Int × Bool)
  | 0, _, _, _, _, _, _, _, _, _, _ => none
  | k + 1, x0, x1, x2, x3, x11, x12, x13, x14, x15, x18 => if x18 ≥ 0 then (if 0 ≤ x18 then (if x18 < (x12.length : Int) then (if (rd x12 x18) > x1 then (calamusref15_Go.l3 k x0 x1 x2 x3 x11 x12 x13 x14 (rd x12 x18) (wrap64 (x18 - 1))) else (calamusref15_Go.l3 k x0 x1 x2 x3 x11 x12 x13 x14 x15 (wrap64 (x18 - 1)))) else (none)) else (none)) else (if x15 < 0 then (if x13 = true then (some (x1, true)) else (some (0, false))) else (calamusref15_Go.l0 k x0 x15 x2 x3 x11 x12 true (wrap64 (x14 + 1))))
end
def calamusref15_Go.f (k : Nat) (a0 : ByteArray) (a1 : Int) (a2 : ByteArray) (a3 : Int) : Option (Int × Bool) := (calamusref15_Has.f a2).bind fun t262 => (if t262 = true then ((calamusref03_Place.f a0 a1).bind fun t263 => (calamusref15_Go.j0 k a0 a1 a2 a3 (!t263))) else (calamusref15_Go.j0 k a0 a1 a2 a3 true))
theorem calamusref15_Go.mono_l : ∀ k, (∀ y0 y1 y2 y3 y4, LeO (calamusref15_Go.j0 k y0 y1 y2 y3 y4) (calamusref15_Go.j0 (k + 1) y0 y1 y2 y3 y4)) ∧ (∀ y0 y1 y2 y3 y4, LeO (calamusref15_Go.j1 k y0 y1 y2 y3 y4) (calamusref15_Go.j1 (k + 1) y0 y1 y2 y3 y4)) ∧ (∀ y0 y1 y2 y3 y4 y5, LeO (calamusref15_Go.j2 k y0 y1 y2 y3 y4 y5) (calamusref15_Go.j2 (k + 1) y0 y1 y2 y3 y4 y5)) ∧ (∀ y0 y1 y2 y3 y4 y5 y6 y7, LeO (calamusref15_Go.l0 k y0 y1 y2 y3 y4 y5 y6 y7) (calamusref15_Go.l0 (k + 1) y0 y1 y2 y3 y4 y5 y6 y7)) ∧ (∀ y0 y1 y2 y3 y4 y5 y6 y7 y8 y9 y10, LeO (calamusref15_Go.j4 k y0 y1 y2 y3 y4 y5 y6 y7 y8 y9 y10) (calamusref15_Go.j4 (k + 1) y0 y1 y2 y3 y4 y5 y6 y7 y8 y9 y10)) ∧ (∀ y0 y1 y2 y3 y4 y5 y6 y7 y8, LeO (calamusref15_Go.j5 k y0 y1 y2 y3 y4 y5 y6 y7 y8) (calamusref15_Go.j5 (k + 1) y0 y1 y2 y3 y4 y5 y6 y7 y8)) ∧ (∀ y0 y1 y2 y3 y4 y5 y6 y7 y8 y9, LeO (calamusref15_Go.l1 k y0 y1 y2 y3 y4 y5 y6 y7 y8 y9) (calamusref15_Go.l1 (k + 1) y0 y1 y2 y3 y4 y5 y6 y7 y8 y9)) ∧ (∀ y0 y1 y2 y3 y4 y5 y6 y7 y8 y9, LeO (calamusref15_Go.j7 k y0 y1 y2 y3 y4 y5 y6 y7 y8 y9) (calamusref15_Go.j7 (k + 1) y0 y1 y2 y3 y4 y5 y6 y7 y8 y9)) ∧ (∀ y0 y1 y2 y3 y4 y5 y6 y7 y8 y9, LeO (calamusref15_Go.l2 k y0 y1 y2 y3 y4 y5 y6 y7 y8 y9) (calamusref15_Go.l2 (k + 1) y0 y1 y2 y3 y4 y5 y6 y7 y8 y9)) ∧ (∀ y0 y1 y2 y3 y4 y5 y6 y7 y8 y9, LeO (calamusref15_Go.l3 k y0 y1 y2 y3 y4 y5 y6 y7 y8 y9) (calamusref15_Go.l3 (k + 1) y0 y1 y2 y3 y4 y5 y6 y7 y8 y9))
  | 0 => ⟨fun _ _ _ _ _ r h => by simp [calamusref15_Go.j0] at h, fun _ _ _ _ _ r h => by simp [calamusref15_Go.j1] at h, fun _ _ _ _ _ _ r h => by simp [calamusref15_Go.j2] at h, fun _ _ _ _ _ _ _ _ r h => by simp [calamusref15_Go.l0] at h, fun _ _ _ _ _ _ _ _ _ _ _ r h => by simp [calamusref15_Go.j4] at h, fun _ _ _ _ _ _ _ _ _ r h => by simp [calamusref15_Go.j5] at h, fun _ _ _ _ _ _ _ _ _ _ r h => by simp [calamusref15_Go.l1] at h, fun _ _ _ _ _ _ _ _ _ _ r h => by simp [calamusref15_Go.j7] at h, fun _ _ _ _ _ _ _ _ _ _ r h => by simp [calamusref15_Go.l2] at h, fun _ _ _ _ _ _ _ _ _ _ r h => by simp [calamusref15_Go.l3] at h⟩
  | k + 1 => by
    obtain ⟨ih0, ih1, ih2, ih3, ih4, ih5, ih6, ih7, ih8, ih9⟩ := calamusref15_Go.mono_l k
    refine ⟨?_, ?_, ?_, ?_, ?_, ?_, ?_, ?_, ?_, ?_⟩
    · intro y0 y1 y2 y3 y4
      unfold calamusref15_Go.j0
      repeat' first
      | (with_reducible exact ih0 _ _ _ _ _)
      | (with_reducible exact ih1 _ _ _ _ _)
      | (with_reducible exact ih2 _ _ _ _ _ _)
      | (with_reducible exact ih3 _ _ _ _ _ _ _ _)
      | (with_reducible exact ih4 _ _ _ _ _ _ _ _ _ _ _)
      | (with_reducible exact ih5 _ _ _ _ _ _ _ _ _)
      | (with_reducible exact ih6 _ _ _ _ _ _ _ _ _ _)
      | (with_reducible exact ih7 _ _ _ _ _ _ _ _ _ _)
      | (with_reducible exact ih8 _ _ _ _ _ _ _ _ _ _)
      | (with_reducible exact ih9 _ _ _ _ _ _ _ _ _ _)
      | (with_reducible exact calamusref15_Ends.mono _ _ _)
      | (with_reducible exact calamusref15_Starts.mono _ _ _)
      | (with_reducible exact LeO.refl _)
      | (with_reducible exact LeO.none _)
      | (with_reducible refine LeO.ite ?_ ?_)
      | (with_reducible refine LeO.bind ?_ (fun _ => ?_))
      | exact ih0 _ _ _ _ _
      | exact ih1 _ _ _ _ _
      | exact ih2 _ _ _ _ _ _
      | exact ih3 _ _ _ _ _ _ _ _
      | exact ih4 _ _ _ _ _ _ _ _ _ _ _
      | exact ih5 _ _ _ _ _ _ _ _ _
      | exact ih6 _ _ _ _ _ _ _ _ _ _
      | exact ih7 _ _ _ _ _ _ _ _ _ _
      | exact ih8 _ _ _ _ _ _ _ _ _ _
      | exact ih9 _ _ _ _ _ _ _ _ _ _
      | exact calamusref15_Ends.mono _ _ _
      | exact calamusref15_Starts.mono _ _ _
      | exact LeO.none _
      | refine LeO.ite ?_ ?_
      | refine LeO.bind ?_ (fun _ => ?_)
    · intro y0 y1 y2 y3 y4
      unfold calamusref15_Go.j1
      repeat' first
      | (with_reducible exact ih0 _ _ _ _ _)
      | (with_reducible exact ih1 _ _ _ _ _)
      | (with_reducible exact ih2 _ _ _ _ _ _)
      | (with_reducible exact ih3 _ _ _ _ _ _ _ _)
      | (with_reducible exact ih4 _ _ _ _ _ _ _ _ _ _ _)
      | (with_reducible exact ih5 _ _ _ _ _ _ _ _ _)
      | (with_reducible exact ih6 _ _ _ _ _ _ _ _ _ _)
      | (with_reducible exact ih7 _ _ _ _ _ _ _ _ _ _)
      | (with_reducible exact ih8 _ _ _ _ _ _ _ _ _ _)
      | (with_reducible exact ih9 _ _ _ _ _ _ _ _ _ _)
      | (with_reducible exact calamusref15_Ends.mono _ _ _)
      | (with_reducible exact calamusref15_Starts.mono _ _ _)
      | (with_reducible exact LeO.refl _)
      | (with_reducible exact LeO.none _)
      | (with_reducible refine LeO.ite ?_ ?_)
      | (with_reducible refine LeO.bind ?_ (fun _ => ?_))
      | exact ih0 _ _ _ _ _
      | exact ih1 _ _ _ _ _
      | exact ih2 _ _ _ _ _ _
      | exact ih3 _ _ _ _ _ _ _ _
      | exact ih4 _ _ _ _ _ _ _ _ _ _ _
      | exact ih5 _ _ _ _ _ _ _ _ _
      | exact ih6 _ _ _ _ _ _ _ _ _ _
      | exact ih7 _ _ _ _ _ _ _ _ _ _
      | exact ih8 _ _ _ _ _ _ _ _ _ _
      | exact ih9 _ _ _ _ _ _ _ _ _ _
      | exact calamusref15_Ends.mono _ _ _
      | exact calamusref15_Starts.mono _ _ _
      | exact LeO.none _
      | refine LeO.ite ?_ ?_
      | refine LeO.bind ?_ (fun _ => ?_)
    · intro y0 y1 y2 y3 y4 y5
      unfold calamusref15_Go.j2
      repeat' first
      | (with_reducible exact ih0 _ _ _ _ _)
      | (with_reducible exact ih1 _ _ _ _ _)
      | (with_reducible exact ih2 _ _ _ _ _ _)
      | (with_reducible exact ih3 _ _ _ _ _ _ _ _)
      | (with_reducible exact ih4 _ _ _ _ _ _ _ _ _ _ _)
      | (with_reducible exact ih5 _ _ _ _ _ _ _ _ _)
      | (with_reducible exact ih6 _ _ _ _ _ _ _ _ _ _)
      | (with_reducible exact ih7 _ _ _ _ _ _ _ _ _ _)
      | (with_reducible exact ih8 _ _ _ _ _ _ _ _ _ _)
      | (with_reducible exact ih9 _ _ _ _ _ _ _ _ _ _)
      | (with_reducible exact calamusref15_Ends.mono _ _ _)
      | (with_reducible exact calamusref15_Starts.mono _ _ _)
      | (with_reducible exact LeO.refl _)
      | (with_reducible exact LeO.none _)
      | (with_reducible refine LeO.ite ?_ ?_)
      | (with_reducible refine LeO.bind ?_ (fun _ => ?_))
      | exact ih0 _ _ _ _ _
      | exact ih1 _ _ _ _ _
      | exact ih2 _ _ _ _ _ _
      | exact ih3 _ _ _ _ _ _ _ _
      | exact ih4 _ _ _ _ _ _ _ _ _ _ _
      | exact ih5 _ _ _ _ _ _ _ _ _
      | exact ih6 _ _ _ _ _ _ _ _ _ _
      | exact ih7 _ _ _ _ _ _ _ _ _ _
      | exact ih8 _ _ _ _ _ _ _ _ _ _
      | exact ih9 _ _ _ _ _ _ _ _ _ _
      | exact calamusref15_Ends.mono _ _ _
      | exact calamusref15_Starts.mono _ _ _
      | exact LeO.none _
      | refine LeO.ite ?_ ?_
      | refine LeO.bind ?_ (fun _ => ?_)
    · intro y0 y1 y2 y3 y4 y5 y6 y7
      unfold calamusref15_Go.l0
      repeat' first
      | (with_reducible exact ih0 _ _ _ _ _)
      | (with_reducible exact ih1 _ _ _ _ _)
      | (with_reducible exact ih2 _ _ _ _ _ _)
      | (with_reducible exact ih3 _ _ _ _ _ _ _ _)
      | (with_reducible exact ih4 _ _ _ _ _ _ _ _ _ _ _)
      | (with_reducible exact ih5 _ _ _ _ _ _ _ _ _)
      | (with_reducible exact ih6 _ _ _ _ _ _ _ _ _ _)
      | (with_reducible exact ih7 _ _ _ _ _ _ _ _ _ _)
      | (with_reducible exact ih8 _ _ _ _ _ _ _ _ _ _)
      | (with_reducible exact ih9 _ _ _ _ _ _ _ _ _ _)
      | (with_reducible exact calamusref15_Ends.mono _ _ _)
      | (with_reducible exact calamusref15_Starts.mono _ _ _)
      | (with_reducible exact LeO.refl _)
      | (with_reducible exact LeO.none _)
      | (with_reducible refine LeO.ite ?_ ?_)
      | (with_reducible refine LeO.bind ?_ (fun _ => ?_))
      | exact ih0 _ _ _ _ _
      | exact ih1 _ _ _ _ _
      | exact ih2 _ _ _ _ _ _
      | exact ih3 _ _ _ _ _ _ _ _
      | exact ih4 _ _ _ _ _ _ _ _ _ _ _
      | exact ih5 _ _ _ _ _ _ _ _ _
      | exact ih6 _ _ _ _ _ _ _ _ _ _
      | exact ih7 _ _ _ _ _ _ _ _ _ _
      | exact ih8 _ _ _ _ _ _ _ _ _ _
      | exact ih9 _ _ _ _ _ _ _ _ _ _
      | exact calamusref15_Ends.mono _ _ _
      | exact calamusref15_Starts.mono _ _ _
      | exact LeO.none _
      | refine LeO.ite ?_ ?_
      | refine LeO.bind ?_ (fun _ => ?_)
    · intro y0 y1 y2 y3 y4 y5 y6 y7 y8 y9 y10
      unfold calamusref15_Go.j4
      repeat' first
      | (with_reducible exact ih0 _ _ _ _ _)
      | (with_reducible exact ih1 _ _ _ _ _)
      | (with_reducible exact ih2 _ _ _ _ _ _)
      | (with_reducible exact ih3 _ _ _ _ _ _ _ _)
      | (with_reducible exact ih4 _ _ _ _ _ _ _ _ _ _ _)
      | (with_reducible exact ih5 _ _ _ _ _ _ _ _ _)
      | (with_reducible exact ih6 _ _ _ _ _ _ _ _ _ _)
      | (with_reducible exact ih7 _ _ _ _ _ _ _ _ _ _)
      | (with_reducible exact ih8 _ _ _ _ _ _ _ _ _ _)
      | (with_reducible exact ih9 _ _ _ _ _ _ _ _ _ _)
      | (with_reducible exact calamusref15_Ends.mono _ _ _)
      | (with_reducible exact calamusref15_Starts.mono _ _ _)
      | (with_reducible exact LeO.refl _)
      | (with_reducible exact LeO.none _)
      | (with_reducible refine LeO.ite ?_ ?_)
      | (with_reducible refine LeO.bind ?_ (fun _ => ?_))
      | exact ih0 _ _ _ _ _
      | exact ih1 _ _ _ _ _
      | exact ih2 _ _ _ _ _ _
      | exact ih3 _ _ _ _ _ _ _ _
      | exact ih4 _ _ _ _ _ _ _ _ _ _ _
      | exact ih5 _ _ _ _ _ _ _ _ _
      | exact ih6 _ _ _ _ _ _ _ _ _ _
      | exact ih7 _ _ _ _ _ _ _ _ _ _
      | exact ih8 _ _ _ _ _ _ _ _ _ _
      | exact ih9 _ _ _ _ _ _ _ _ _ _
      | exact calamusref15_Ends.mono _ _ _
      | exact calamusref15_Starts.mono _ _ _
      | exact LeO.none _
      | refine LeO.ite ?_ ?_
      | refine LeO.bind ?_ (fun _ => ?_)
    · intro y0 y1 y2 y3 y4 y5 y6 y7 y8
      unfold calamusref15_Go.j5
      repeat' first
      | (with_reducible exact ih0 _ _ _ _ _)
      | (with_reducible exact ih1 _ _ _ _ _)
      | (with_reducible exact ih2 _ _ _ _ _ _)
      | (with_reducible exact ih3 _ _ _ _ _ _ _ _)
      | (with_reducible exact ih4 _ _ _ _ _ _ _ _ _ _ _)
      | (with_reducible exact ih5 _ _ _ _ _ _ _ _ _)
      | (with_reducible exact ih6 _ _ _ _ _ _ _ _ _ _)
      | (with_reducible exact ih7 _ _ _ _ _ _ _ _ _ _)
      | (with_reducible exact ih8 _ _ _ _ _ _ _ _ _ _)
      | (with_reducible exact ih9 _ _ _ _ _ _ _ _ _ _)
      | (with_reducible exact calamusref15_Ends.mono _ _ _)
      | (with_reducible exact calamusref15_Starts.mono _ _ _)
      | (with_reducible exact LeO.refl _)
      | (with_reducible exact LeO.none _)
      | (with_reducible refine LeO.ite ?_ ?_)
      | (with_reducible refine LeO.bind ?_ (fun _ => ?_))
      | exact ih0 _ _ _ _ _
      | exact ih1 _ _ _ _ _
      | exact ih2 _ _ _ _ _ _
      | exact ih3 _ _ _ _ _ _ _ _
      | exact ih4 _ _ _ _ _ _ _ _ _ _ _
      | exact ih5 _ _ _ _ _ _ _ _ _
      | exact ih6 _ _ _ _ _ _ _ _ _ _
      | exact ih7 _ _ _ _ _ _ _ _ _ _
      | exact ih8 _ _ _ _ _ _ _ _ _ _
      | exact ih9 _ _ _ _ _ _ _ _ _ _
      | exact calamusref15_Ends.mono _ _ _
      | exact calamusref15_Starts.mono _ _ _
      | exact LeO.none _
      | refine LeO.ite ?_ ?_
      | refine LeO.bind ?_ (fun _ => ?_)
    · intro y0 y1 y2 y3 y4 y5 y6 y7 y8 y9
      unfold calamusref15_Go.l1
      repeat' first
      | (with_reducible exact ih0 _ _ _ _ _)
      | (with_reducible exact ih1 _ _ _ _ _)
      | (with_reducible exact ih2 _ _ _ _ _ _)
      | (with_reducible exact ih3 _ _ _ _ _ _ _ _)
      | (with_reducible exact ih4 _ _ _ _ _ _ _ _ _ _ _)
      | (with_reducible exact ih5 _ _ _ _ _ _ _ _ _)
      | (with_reducible exact ih6 _ _ _ _ _ _ _ _ _ _)
      | (with_reducible exact ih7 _ _ _ _ _ _ _ _ _ _)
      | (with_reducible exact ih8 _ _ _ _ _ _ _ _ _ _)
      | (with_reducible exact ih9 _ _ _ _ _ _ _ _ _ _)
      | (with_reducible exact calamusref15_Ends.mono _ _ _)
      | (with_reducible exact calamusref15_Starts.mono _ _ _)
      | (with_reducible exact LeO.refl _)
      | (with_reducible exact LeO.none _)
      | (with_reducible refine LeO.ite ?_ ?_)
      | (with_reducible refine LeO.bind ?_ (fun _ => ?_))
      | exact ih0 _ _ _ _ _
      | exact ih1 _ _ _ _ _
      | exact ih2 _ _ _ _ _ _
      | exact ih3 _ _ _ _ _ _ _ _
      | exact ih4 _ _ _ _ _ _ _ _ _ _ _
      | exact ih5 _ _ _ _ _ _ _ _ _
      | exact ih6 _ _ _ _ _ _ _ _ _ _
      | exact ih7 _ _ _ _ _ _ _ _ _ _
      | exact ih8 _ _ _ _ _ _ _ _ _ _
      | exact ih9 _ _ _ _ _ _ _ _ _ _
      | exact calamusref15_Ends.mono _ _ _
      | exact calamusref15_Starts.mono _ _ _
      | exact LeO.none _
      | refine LeO.ite ?_ ?_
      | refine LeO.bind ?_ (fun _ => ?_)
    · intro y0 y1 y2 y3 y4 y5 y6 y7 y8 y9
      unfold calamusref15_Go.j7
      repeat' first
      | (with_reducible exact ih0 _ _ _ _ _)
      | (with_reducible exact ih1 _ _ _ _ _)
      | (with_reducible exact ih2 _ _ _ _ _ _)
      | (with_reducible exact ih3 _ _ _ _ _ _ _ _)
      | (with_reducible exact ih4 _ _ _ _ _ _ _ _ _ _ _)
      | (with_reducible exact ih5 _ _ _ _ _ _ _ _ _)
      | (with_reducible exact ih6 _ _ _ _ _ _ _ _ _ _)
      | (with_reducible exact ih7 _ _ _ _ _ _ _ _ _ _)
      | (with_reducible exact ih8 _ _ _ _ _ _ _ _ _ _)
      | (with_reducible exact ih9 _ _ _ _ _ _ _ _ _ _)
      | (with_reducible exact calamusref15_Ends.mono _ _ _)
      | (with_reducible exact calamusref15_Starts.mono _ _ _)
      | (with_reducible exact LeO.refl _)
      | (with_reducible exact LeO.none _)
      | (with_reducible refine LeO.ite ?_ ?_)
      | (with_reducible refine LeO.bind ?_ (fun _ => ?_))
      | exact ih0 _ _ _ _ _
      | exact ih1 _ _ _ _ _
      | exact ih2 _ _ _ _ _ _
      | exact ih3 _ _ _ _ _ _ _ _
      | exact ih4 _ _ _ _ _ _ _ _ _ _ _
      | exact ih5 _ _ _ _ _ _ _ _ _
      | exact ih6 _ _ _ _ _ _ _ _ _ _
      | exact ih7 _ _ _ _ _ _ _ _ _ _
      | exact ih8 _ _ _ _ _ _ _ _ _ _
      | exact ih9 _ _ _ _ _ _ _ _ _ _
      | exact calamusref15_Ends.mono _ _ _
      | exact calamusref15_Starts.mono _ _ _
      | exact LeO.none _
      | refine LeO.ite ?_ ?_
      | refine LeO.bind ?_ (fun _ => ?_)
    · intro y0 y1 y2 y3 y4 y5 y6 y7 y8 y9
      unfold calamusref15_Go.l2
      repeat' first
      | (with_reducible exact ih0 _ _ _ _ _)
      | (with_reducible exact ih1 _ _ _ _ _)
      | (with_reducible exact ih2 _ _ _ _ _ _)
      | (with_reducible exact ih3 _ _ _ _ _ _ _ _)
      | (with_reducible exact ih4 _ _ _ _ _ _ _ _ _ _ _)
      | (with_reducible exact ih5 _ _ _ _ _ _ _ _ _)
      | (with_reducible exact ih6 _ _ _ _ _ _ _ _ _ _)
      | (with_reducible exact ih7 _ _ _ _ _ _ _ _ _ _)
      | (with_reducible exact ih8 _ _ _ _ _ _ _ _ _ _)
      | (with_reducible exact ih9 _ _ _ _ _ _ _ _ _ _)
      | (with_reducible exact calamusref15_Ends.mono _ _ _)
      | (with_reducible exact calamusref15_Starts.mono _ _ _)
      | (with_reducible exact LeO.refl _)
      | (with_reducible exact LeO.none _)
      | (with_reducible refine LeO.ite ?_ ?_)
      | (with_reducible refine LeO.bind ?_ (fun _ => ?_))
      | exact ih0 _ _ _ _ _
      | exact ih1 _ _ _ _ _
      | exact ih2 _ _ _ _ _ _
      | exact ih3 _ _ _ _ _ _ _ _
      | exact ih4 _ _ _ _ _ _ _ _ _ _ _
      | exact ih5 _ _ _ _ _ _ _ _ _
      | exact ih6 _ _ _ _ _ _ _ _ _ _
      | exact ih7 _ _ _ _ _ _ _ _ _ _
      | exact ih8 _ _ _ _ _ _ _ _ _ _
      | exact ih9 _ _ _ _ _ _ _ _ _ _
      | exact calamusref15_Ends.mono _ _ _
      | exact calamusref15_Starts.mono _ _ _
      | exact LeO.none _
      | refine LeO.ite ?_ ?_
      | refine LeO.bind ?_ (fun _ => ?_)
    · intro y0 y1 y2 y3 y4 y5 y6 y7 y8 y9
      unfold calamusref15_Go.l3
      repeat' first
      | (with_reducible exact ih0 _ _ _ _ _)
      | (with_reducible exact ih1 _ _ _ _ _)
      | (with_reducible exact ih2 _ _ _ _ _ _)
      | (with_reducible exact ih3 _ _ _ _ _ _ _ _)
      | (with_reducible exact ih4 _ _ _ _ _ _ _ _ _ _ _)
      | (with_reducible exact ih5 _ _ _ _ _ _ _ _ _)
      | (with_reducible exact ih6 _ _ _ _ _ _ _ _ _ _)
      | (with_reducible exact ih7 _ _ _ _ _ _ _ _ _ _)
      | (with_reducible exact ih8 _ _ _ _ _ _ _ _ _ _)
      | (with_reducible exact ih9 _ _ _ _ _ _ _ _ _ _)
      | (with_reducible exact calamusref15_Ends.mono _ _ _)
      | (with_reducible exact calamusref15_Starts.mono _ _ _)
      | (with_reducible exact LeO.refl _)
      | (with_reducible exact LeO.none _)
      | (with_reducible refine LeO.ite ?_ ?_)
      | (with_reducible refine LeO.bind ?_ (fun _ => ?_))
      | exact ih0 _ _ _ _ _
      | exact ih1 _ _ _ _ _
      | exact ih2 _ _ _ _ _ _
      | exact ih3 _ _ _ _ _ _ _ _
      | exact ih4 _ _ _ _ _ _ _ _ _ _ _
      | exact ih5 _ _ _ _ _ _ _ _ _
      | exact ih6 _ _ _ _ _ _ _ _ _ _
      | exact ih7 _ _ _ _ _ _ _ _ _ _
      | exact ih8 _ _ _ _ _ _ _ _ _ _
      | exact ih9 _ _ _ _ _ _ _ _ _ _
      | exact calamusref15_Ends.mono _ _ _
      | exact calamusref15_Starts.mono _ _ _
      | exact LeO.none _
      | refine LeO.ite ?_ ?_
      | refine LeO.bind ?_ (fun _ => ?_)
theorem calamusref15_Go.mono : ∀ a0 a1 a2 a3 k, LeO (calamusref15_Go.f k a0 a1 a2 a3) (calamusref15_Go.f (k + 1) a0 a1 a2 a3) := by
  intro a0 a1 a2 a3 k
  obtain ⟨ih0, ih1, ih2, ih3, ih4, ih5, ih6, ih7, ih8, ih9⟩ := calamusref15_Go.mono_l k
  unfold calamusref15_Go.f
  repeat' first
      | (with_reducible exact ih0 _ _ _ _ _)
      | (with_reducible exact ih1 _ _ _ _ _)
      | (with_reducible exact ih2 _ _ _ _ _ _)
      | (with_reducible exact ih3 _ _ _ _ _ _ _ _)
      | (with_reducible exact ih4 _ _ _ _ _ _ _ _ _ _ _)
      | (with_reducible exact ih5 _ _ _ _ _ _ _ _ _)
      | (with_reducible exact ih6 _ _ _ _ _ _ _ _ _ _)
      | (with_reducible exact ih7 _ _ _ _ _ _ _ _ _ _)
      | (with_reducible exact ih8 _ _ _ _ _ _ _ _ _ _)
      | (with_reducible exact ih9 _ _ _ _ _ _ _ _ _ _)
      | (with_reducible exact calamusref15_Ends.mono _ _ _)
      | (with_reducible exact calamusref15_Starts.mono _ _ _)
      | (with_reducible exact LeO.refl _)
      | (with_reducible exact LeO.none _)
      | (with_reducible refine LeO.ite ?_ ?_)
      | (with_reducible refine LeO.bind ?_ (fun _ => ?_))
      | exact ih0 _ _ _ _ _
      | exact ih1 _ _ _ _ _
      | exact ih2 _ _ _ _ _ _
      | exact ih3 _ _ _ _ _ _ _ _
      | exact ih4 _ _ _ _ _ _ _ _ _ _ _
      | exact ih5 _ _ _ _ _ _ _ _ _
      | exact ih6 _ _ _ _ _ _ _ _ _ _
      | exact ih7 _ _ _ _ _ _ _ _ _ _
      | exact ih8 _ _ _ _ _ _ _ _ _ _
      | exact ih9 _ _ _ _ _ _ _ _ _ _
      | exact calamusref15_Ends.mono _ _ _
      | exact calamusref15_Starts.mono _ _ _
      | exact LeO.none _
      | refine LeO.ite ?_ ?_
      | refine LeO.bind ?_ (fun _ => ?_)
set_option maxHeartbeats 8000000 in
set_option maxRecDepth 100000 in
theorem calamusref15_Go.calls (k : Nat) (a0 : ByteArray) (a1 : Int) (a2 : ByteArray) (a3 : Int) (r1 : Int) (r2 : Bool) (w : World) (h : calamusref15_Go.f k a0 a1 a2 a3 = some (r1, r2)) :
    Calls Try.prog 42 #[.string a0, .int .i64 a1, .string a2, .int .i64 a3] w fun e w' => e = .returned (.tuple #[.int .i64 r1, .bool r2]) ∧ Below w.heap.size w w' := by
  have HB := Aside0.mk (Below.refl w.heap.size w)
  have H : ((calamusref15_Has.f a2).bind fun t262 => (if t262 = true then ((calamusref03_Place.f a0 a1).bind fun t263 => (calamusref15_Go.j0 k a0 a1 a2 a3 (!t263))) else (calamusref15_Go.j0 k a0 a1 a2 a3 true))) = some (r1, r2) := h
  clear h
  have HC5 := Aside0.mk H
  clear H
  go_enter Try.func42, Try.ntmps42
  go_upto_region 1 with (fail)
  go_cut [27] (fun v27 wc => ∃ (kq : Nat) (x27_4 : Bool), v27 = .bool x27_4 ∧ Aside0 (calamusref15_Go.j0 kq a0 a1 a2 a3 x27_4 = some (r1, r2)) ∧ Aside0 (kq ≤ k) ∧ Aside0 (Below w.heap.size w wc))
  case first =>
    have H := HC5.out
    clear HC5
    replace H := Option.bind_eq_some_iff.mp H
    obtain ⟨t262, A60, H⟩ := H
    replace H : (if t262 = true then ((calamusref03_Place.f a0 a1).bind fun t263 => (calamusref15_Go.j0 k a0 a1 a2 a3 (!t263))) else (calamusref15_Go.j0 k a0 a1 a2 a3 true)) = some (r1, r2) := H
    have A6 := Aside0.mk A60
    clear A60
    by_cases c7 : t262 = true
    · subst c7
      have H1 : ((calamusref03_Place.f a0 a1).bind fun t263 => (calamusref15_Go.j0 k a0 a1 a2 a3 (!t263))) = some (r1, r2) := by rw [if_pos rfl] at H; exact H
      clear H
      have H := H1
      clear H1
      replace H := Option.bind_eq_some_iff.mp H
      obtain ⟨t263, A80, H⟩ := H
      replace H : (calamusref15_Go.j0 k a0 a1 a2 a3 (!t263)) = some (r1, r2) := H
      have A8 := Aside0.mk A80
      clear A80
      have H' := Aside0.mk H
      clear H
      go_wp2_with (first | ((with_reducible refine gate_callee (f := 44) rfl ?_); refine goesL_ (some 20) rfl rfl Try.func44 (by kernel_rfl) rfl #[.string a2] rfl (by (try simp only [List.map_toArray, List.map_cons, List.map_nil]); first | done | rfl | (simp only [List.length_drop, List.length_take]; rfl)) ?_; (with_reducible refine (calamusref15_Has.calls a2 true _ A6.out).mono ?_); rintro e w' ⟨rfl, ⟨nd, rfl⟩⟩; refine ⟨_, rfl, ?_⟩) | (go_at_call 56; (with_reducible refine (calamusref03_Place.calls a0 a1 t263 _ A8.out).mono ?_); rintro e w9 ⟨rfl, hb⟩; have n0_ := Aside0.mk (below_step (by repeat (first | (with_reducible first | exact HB.out | apply below_alloc | apply pw_below_drewN | apply below_drew1) | exact HB.out)) hb); clear HB; have HB := n0_; clear n0_; (try clear hb); (try clear hb2); (try clear hk); (try clear hi)))
      go_meet
      case rel => exact ⟨_, (!t263), (by first | rfl | (simp; done) | (simp [*]; done)), H', ⟨by first | omega | exact Nat.le_refl _⟩, ⟨by repeat (first | (with_reducible first | exact HB.out | apply below_alloc | apply pw_below_drewN | apply below_drew1) | exact HB.out)⟩⟩
    · replace c7 := Bool.eq_false_iff.mpr c7
      subst c7
      have H1 : (calamusref15_Go.j0 k a0 a1 a2 a3 true) = some (r1, r2) := by rw [if_neg (show ¬ (false = true) by decide)] at H; exact H
      clear H
      have H := H1
      clear H1
      have H' := Aside0.mk H
      clear H
      go_wp2_with (first | ((with_reducible refine gate_callee (f := 44) rfl ?_); refine goesL_ (some 20) rfl rfl Try.func44 (by kernel_rfl) rfl #[.string a2] rfl (by (try simp only [List.map_toArray, List.map_cons, List.map_nil]); first | done | rfl | (simp only [List.length_drop, List.length_take]; rfl)) ?_; (with_reducible refine (calamusref15_Has.calls a2 false _ A6.out).mono ?_); rintro e w' ⟨rfl, ⟨nd, rfl⟩⟩; refine ⟨_, rfl, ?_⟩))
      go_meet
      case rel => exact ⟨_, (true), (by first | rfl | (simp; done) | (simp [*]; done)), H', ⟨by first | omega | exact Nat.le_refl _⟩, ⟨by repeat (first | (with_reducible first | exact HB.out | apply below_alloc | apply pw_below_drewN | apply below_drew1) | exact HB.out)⟩⟩
  case rest =>
    clear HC5
    try clear p2
    try clear c4
    try clear c7
    obtain ⟨kq, x27_4, rfl, HA, HJ4, HB⟩ := hcut
    cases kq with
    | zero => exact absurd HA.out (by simp [calamusref15_Go.j0])
    | succ kj4 =>
      have H := HA.out
      clear HA
      simp only [calamusref15_Go.j0] at H
      by_cases c10 : x27_4 = true
      · subst c10
        have H1 : (some (0, false)) = some (r1, r2) := by rw [if_pos rfl] at H; exact H
        clear H
        have H := H1
        clear H1
        simp only [Option.some.injEq, Prod.mk.injEq] at H
        obtain ⟨rfl, rfl⟩ := H
        go_wp2
        go_ret2
        exact ⟨by first | rfl | (simp [errW_none, errW_some] <;> rfl) | (simp [*, errW_none, errW_some] <;> rfl), by repeat (first | (with_reducible first | exact HB.out | apply below_alloc | apply pw_below_drewN | apply below_drew1) | exact HB.out)⟩
      · replace c10 := Bool.eq_false_iff.mpr c10
        subst c10
        have H1 : (if a2.toList = ([87] : List UInt8) then (calamusref15_Go.j1 kj4 a0 a1 a2 a3 true) else (if a2.toList = ([66] : List UInt8) then (calamusref15_Go.j1 kj4 a0 a1 a2 a3 true) else (calamusref15_Go.j1 kj4 a0 a1 a2 a3 (a2.toList == ([69] : List UInt8))))) = some (r1, r2) := by rw [if_neg (show ¬ (false = true) by decide)] at H; exact H
        clear H
        have H := H1
        clear H1
        have HC11 := Aside0.mk H
        clear H
        go_upto_region 3 with (fail)
        go_cut [10] (fun v10 wc => ∃ (kq : Nat) (x10_10 : Bool), v10 = .bool x10_10 ∧ Aside0 (calamusref15_Go.j1 kq a0 a1 a2 a3 x10_10 = some (r1, r2)) ∧ Aside0 (kq ≤ kj4) ∧ Aside0 (Below w.heap.size w wc))
        case first =>
          have H := HC11.out
          clear HC11
          by_cases c12 : a2.toList = ([87] : List UInt8)
          · rw [if_pos c12] at H
            have c12b0 : (a2.toList == ([87] : List UInt8)) = true := beq_iff_eq.mpr c12
            have c12b1 : (a2.toList != ([87] : List UInt8)) = false := bne_eq_false_iff_eq.mpr c12
            clear c12
            (first | rw [c12b0] | (simp only [i64_w, i32_w]; rw [c12b0]) | skip)
            have H' := Aside0.mk H
            clear H
            go_wp2
            go_meet
            case rel => exact ⟨_, (true), (by first | rfl | (simp; done) | (simp [*]; done)), H', ⟨by have := HJ4.out; first | omega | exact Nat.le_refl _⟩, ⟨by repeat (first | (with_reducible first | exact HB.out | apply below_alloc | apply pw_below_drewN | apply below_drew1) | exact HB.out)⟩⟩
          · rw [if_neg c12] at H
            have c12b0 : (a2.toList == ([87] : List UInt8)) = false := beq_eq_false_iff_ne.mpr c12
            have c12b1 : (a2.toList != ([87] : List UInt8)) = true := bne_iff_ne.mpr c12
            (first | rw [c12b0] | (simp only [i64_w, i32_w]; rw [c12b0]) | skip)
            by_cases c13 : a2.toList = ([66] : List UInt8)
            · rw [if_pos c13] at H
              have c13b0 : (a2.toList == ([66] : List UInt8)) = true := beq_iff_eq.mpr c13
              have c13b1 : (a2.toList != ([66] : List UInt8)) = false := bne_eq_false_iff_eq.mpr c13
              clear c13
              have H' := Aside0.mk H
              clear H
              go_wp2
              go_meet
              case rel => exact ⟨_, (true), (by first | rfl | (simp; done) | (simp [*]; done)), H', ⟨by have := HJ4.out; first | omega | exact Nat.le_refl _⟩, ⟨by repeat (first | (with_reducible first | exact HB.out | apply below_alloc | apply pw_below_drewN | apply below_drew1) | exact HB.out)⟩⟩
            · rw [if_neg c13] at H
              have c13b0 : (a2.toList == ([66] : List UInt8)) = false := beq_eq_false_iff_ne.mpr c13
              have c13b1 : (a2.toList != ([66] : List UInt8)) = true := bne_iff_ne.mpr c13
              have H' := Aside0.mk H
              clear H
              go_wp2
              go_meet
              case rel => exact ⟨_, ((a2.toList == ([69] : List UInt8))), (by first | rfl | (simp; done) | (simp [*]; done)), H', ⟨by have := HJ4.out; first | omega | exact Nat.le_refl _⟩, ⟨by repeat (first | (with_reducible first | exact HB.out | apply below_alloc | apply pw_below_drewN | apply below_drew1) | exact HB.out)⟩⟩
        case rest =>
          clear HC11
          try clear c1
          try clear p2
          try clear c4
          try clear c7
          try clear c10
          try clear c12
          try clear c12b0
          try clear c12b1
          try clear c13
          try clear c13b0
          try clear c13b1
          try clear p2
          obtain ⟨kq, x10_10, rfl, HA, HJ10, HB⟩ := hcut
          cases kq with
          | zero => exact absurd HA.out (by simp [calamusref15_Go.j1])
          | succ kj10 =>
            have H := HA.out
            clear HA
            simp only [calamusref15_Go.j1] at H
            replace H := Option.bind_eq_some_iff.mp H
            obtain ⟨t264, A140, H⟩ := H
            replace H : ((calamusref15_Ends.f kj10 a0 x10_10).bind fun t267 => (if a3 < 1 then (calamusref15_Go.j2 kj10 a0 a1 a2 1 t264 t267) else (calamusref15_Go.j2 kj10 a0 a1 a2 a3 t264 t267))) = some (r1, r2) := H
            have A14 := Aside0.mk A140
            clear A140
            replace H := Option.bind_eq_some_iff.mp H
            obtain ⟨t267, A150, H⟩ := H
            replace H : (if a3 < 1 then (calamusref15_Go.j2 kj10 a0 a1 a2 1 t264 t267) else (calamusref15_Go.j2 kj10 a0 a1 a2 a3 t264 t267)) = some (r1, r2) := H
            have A15 := Aside0.mk A150
            clear A150
            have HC16 := Aside0.mk H
            clear H
            go_upto_if 45 with (first | ((with_reducible refine gate_callee (f := 38) rfl ?_); refine goesL_ (some 40) rfl rfl Try.func38 (by kernel_rfl) rfl #[.string a0, .bool x10_10] rfl (by (try simp only [List.map_toArray, List.map_cons, List.map_nil]); first | done | rfl | (simp only [List.length_drop, List.length_take]; rfl)) ?_; (with_reducible refine (calamusref15_Starts.calls kj10 a0 x10_10 t264 _ A14.out).mono ?_); rintro e w17 ⟨v265, rfl, ho0, hb⟩; refine ⟨_, rfl, ?_⟩; have n0_ := Aside0.mk (Kd.R_lower ho0 (below_size (by repeat (first | (with_reducible first | exact HB.out | apply below_alloc | apply pw_below_drewN | apply below_drew1) | exact HB.out)))); have n1_ := Aside0.mk (below_step (by repeat (first | (with_reducible first | exact HB.out | apply below_alloc | apply pw_below_drewN | apply below_drew1) | exact HB.out)) hb); clear HB; have HO266 := n0_; have HB := n1_; clear n0_ n1_; (try clear hb); (try clear hb2); (try clear hk); (try clear hi); (try clear ho0)) | ((with_reducible refine gate_callee (f := 40) rfl ?_); refine goesL_ (some 43) rfl rfl Try.func40 (by kernel_rfl) rfl #[.string a0, .bool x10_10] rfl (by (try simp only [List.map_toArray, List.map_cons, List.map_nil]); first | done | rfl | (simp only [List.length_drop, List.length_take]; rfl)) ?_; (with_reducible refine (calamusref15_Ends.calls kj10 a0 x10_10 t267 _ A15.out).mono ?_); rintro e w18 ⟨v268, rfl, ho0, hb⟩; refine ⟨_, rfl, ?_⟩; have n0_ := Aside0.mk (Kd.R_elder' (by (with_reducible repeat (first | apply Kd.R_alloc | apply Kd.R_drewN | apply Kd.R_drew)); exact HO266.out) (Kd.R_base ho0) hb); have n1_ := Aside0.mk (Kd.R_lower (Kd.R_new' ho0 (Kd.R_lt (by (with_reducible repeat (first | apply Kd.R_alloc | apply Kd.R_drewN | apply Kd.R_drew)); exact HO266.out))) (below_size (by repeat (first | (with_reducible first | exact HB.out | apply below_alloc | apply pw_below_drewN | apply below_drew1) | exact HB.out)))); have n2_ := Aside0.mk (below_step (by repeat (first | (with_reducible first | exact HB.out | apply below_alloc | apply pw_below_drewN | apply below_drew1) | exact HB.out)) hb); clear HO266; clear HB; have HO266 := n0_; have HO269 := n1_; have HB := n2_; clear n0_ n1_ n2_; (try clear hb); (try clear hb2); (try clear hk); (try clear hi); (try clear ho0)))
            (try simp only [Act.put, List.setIfInBounds_toArray, List.set_cons_zero, List.set_cons_succ])
            go_cut [3] (fun v3 wc => ∃ (kq : Nat) (x3_15 : Int), v3 = .int .i64 x3_15 ∧ Aside0 (calamusref15_Go.j2 kq a0 a1 a2 x3_15 t264 t267 = some (r1, r2)) ∧ Aside0 (kq ≤ kj10) ∧ Aside0 (Kd.R (Kd.int .i64) 3 wc w.heap.size (fun k_ => some k_ ≠ (v268 : Value).ownBlock) v265 t264) ∧ Aside0 (Kd.R (Kd.int .i64) 3 wc w.heap.size (fun k_ => some k_ ≠ (v265 : Value).ownBlock) v268 t267) ∧ Aside0 (Below w.heap.size w wc))
            case first =>
              have H := HC16.out
              clear HC16
              by_cases c19 : a3 < 1
              · rw [if_pos c19] at H
                have c19b0 : decide (a3 < 1) = true := decide_eq_true c19
                clear c19
                (first | rw [c19b0] | (simp only [i64_w, i32_w]; rw [c19b0]) | skip)
                have H' := Aside0.mk H
                clear H
                go_wp2
                go_meet
                case rel => exact ⟨_, (1), (by first | rfl | (simp; done) | (simp [*]; done)), H', ⟨by have := HJ4.out; have := HJ10.out; first | omega | exact Nat.le_refl _⟩, ⟨by (with_reducible repeat (first | apply Kd.R_alloc | apply Kd.R_drewN | apply Kd.R_drew)); exact Kd.R_mono HO266.out (fun _ hk => hk.2)⟩, ⟨by (with_reducible repeat (first | apply Kd.R_alloc | apply Kd.R_drewN | apply Kd.R_drew)); exact Kd.R_mono HO269.out (fun _ hk => hk.2)⟩, ⟨by repeat (first | (with_reducible first | exact HB.out | apply below_alloc | apply pw_below_drewN | apply below_drew1) | exact HB.out)⟩⟩
              · rw [if_neg c19] at H
                have c19b0 : decide (a3 < 1) = false := decide_eq_false c19
                clear c19
                (first | rw [c19b0] | (simp only [i64_w, i32_w]; rw [c19b0]) | skip)
                have H' := Aside0.mk H
                clear H
                go_wp2
                go_meet
                case rel => exact ⟨_, (a3), (by first | rfl | (simp; done) | (simp [*]; done)), H', ⟨by have := HJ4.out; have := HJ10.out; first | omega | exact Nat.le_refl _⟩, ⟨by (with_reducible repeat (first | apply Kd.R_alloc | apply Kd.R_drewN | apply Kd.R_drew)); exact Kd.R_mono HO266.out (fun _ hk => hk.2)⟩, ⟨by (with_reducible repeat (first | apply Kd.R_alloc | apply Kd.R_drewN | apply Kd.R_drew)); exact Kd.R_mono HO269.out (fun _ hk => hk.2)⟩, ⟨by repeat (first | (with_reducible first | exact HB.out | apply below_alloc | apply pw_below_drewN | apply below_drew1) | exact HB.out)⟩⟩
            case rest =>
              clear HC16
              try clear c1
              try clear p2
              try clear c3
              try clear c4
              try clear c7
              try clear c10
              try clear c12
              try clear c12b0
              try clear c12b1
              try clear c13
              try clear c13b0
              try clear c13b1
              try clear c19
              try clear c19b0
              try clear p2
              obtain ⟨kq, x3_15, rfl, HA, HJ15, HO_11, HO_12, HB⟩ := hcut
              cases kq with
              | zero => exact absurd HA.out (by simp [calamusref15_Go.j2])
              | succ kj15 =>
                have H := HA.out
                clear HA
                simp only [calamusref15_Go.j2] at H
                have H' := Aside0.mk H
                clear H
                go_wp2
                go_loopg [1, 13, 14] kj15 (fun kq v1 v13 v14 w' => ∃ (x1_4 : Int) (x13_4 : Bool) (x14_4 : Int), v1 = .int .i64 x1_4 ∧ v13 = .bool x13_4 ∧ v14 = .int .i64 x14_4 ∧ Aside0 (calamusref15_Go.l0 kq a0 x1_4 a2 x3_15 t264 t267 x13_4 x14_4 = some (r1, r2)) ∧ Aside0 (kq ≤ kj15) ∧ Aside0 (Kd.R (Kd.int .i64) 3 w' w.heap.size (fun k_ => some k_ ≠ (v268 : Value).ownBlock) v265 t264) ∧ Aside0 (Kd.R (Kd.int .i64) 3 w' w.heap.size (fun k_ => some k_ ≠ (v265 : Value).ownBlock) v268 t267) ∧ Aside0 (Below w.heap.size w w'))
                case atStart => exact ⟨(a1), (false), (0), (by first | rfl | (simp; done) | (simp [*]; done)), (by first | rfl | (simp; done) | (simp [*]; done)), (by first | rfl | (simp; done) | (simp [*]; done)), H', ⟨Nat.le_refl _⟩, ⟨by (with_reducible repeat (first | apply Kd.R_alloc | apply Kd.R_drewN | apply Kd.R_drew)); exact HO_11.out⟩, ⟨by (with_reducible repeat (first | apply Kd.R_alloc | apply Kd.R_drewN | apply Kd.R_drew)); exact HO_12.out⟩, ⟨by repeat (first | (with_reducible first | exact HB.out | apply below_alloc | apply pw_below_drewN | apply below_drew1) | exact HB.out)⟩⟩
                case round =>
                  clear H'
                  try clear c1
                  try clear p2
                  try clear c3
                  try clear c4
                  try clear c7
                  try clear c10
                  try clear c12
                  try clear c12b0
                  try clear c12b1
                  try clear c13
                  try clear c13b0
                  try clear c13b1
                  try clear c19
                  try clear c19b0
                  try clear p2
                  obtain ⟨x1_4, x13_4, x14_4, rfl, rfl, rfl, HA, HK4, HO_11, HO_12, HB⟩ := hrel
                  cases gk with
                  | zero => exact absurd HA.out (by simp [calamusref15_Go.l0])
                  | succ k4 =>
                    have H := HA.out
                    clear HA
                    simp only [calamusref15_Go.l0] at H
                    by_cases c20 : x14_4 < x3_15
                    · rw [if_pos c20] at H
                      have c20b0 : decide (x14_4 < x3_15) = true := decide_eq_true c20
                      clear c20
                      have HC21 := Aside0.mk H
                      clear H
                      go_upto_if 69 with (fail)
                      go_cut [69] (fun v69 wc => ∃ (kq : Nat) (x69_20 : Bool), v69 = .bool x69_20 ∧ Aside0 (calamusref15_Go.j4 kq a0 x1_4 a2 x3_15 t264 t267 x13_4 x14_4 (-1) a2 x69_20 = some (r1, r2)) ∧ Aside0 (kq ≤ k4) ∧ Aside0 (Kd.R (Kd.int .i64) 3 wc w.heap.size (fun k_ => some k_ ≠ (v268 : Value).ownBlock) v265 t264) ∧ Aside0 (Kd.R (Kd.int .i64) 3 wc w.heap.size (fun k_ => some k_ ≠ (v265 : Value).ownBlock) v268 t267) ∧ Aside0 (Below w.heap.size w wc))
                      case first =>
                        have H := HC21.out
                        clear HC21
                        by_cases c22 : a2.toList = ([119] : List UInt8)
                        · rw [if_pos c22] at H
                          have c22b0 : (a2.toList == ([119] : List UInt8)) = true := beq_iff_eq.mpr c22
                          have c22b1 : (a2.toList != ([119] : List UInt8)) = false := bne_eq_false_iff_eq.mpr c22
                          clear c22
                          (first | rw [c22b0] | (simp only [i64_w, i32_w]; rw [c22b0]) | skip)
                          have H' := Aside0.mk H
                          clear H
                          go_wp2
                          go_meet
                          case rel => exact ⟨_, ((a2.toList == ([119] : List UInt8))), (by first | rfl | (simp; done) | (simp [*]; done)), H', ⟨by have := HJ4.out; have := HJ10.out; have := HJ15.out; have := HK4.out; first | omega | exact Nat.le_refl _⟩, ⟨by (with_reducible repeat (first | apply Kd.R_alloc | apply Kd.R_drewN | apply Kd.R_drew)); exact HO_11.out⟩, ⟨by (with_reducible repeat (first | apply Kd.R_alloc | apply Kd.R_drewN | apply Kd.R_drew)); exact HO_12.out⟩, ⟨by repeat (first | (with_reducible first | exact HB.out | apply below_alloc | apply pw_below_drewN | apply below_drew1) | exact HB.out)⟩⟩
                        · rw [if_neg c22] at H
                          have c22b0 : (a2.toList == ([119] : List UInt8)) = false := beq_eq_false_iff_ne.mpr c22
                          have c22b1 : (a2.toList != ([119] : List UInt8)) = true := bne_iff_ne.mpr c22
                          (first | rw [c22b0] | (simp only [i64_w, i32_w]; rw [c22b0]) | skip)
                          have H' := Aside0.mk H
                          clear H
                          go_wp2
                          go_meet
                          case rel => exact ⟨_, ((a2.toList == ([87] : List UInt8))), (by first | rfl | (simp; done) | (simp [*]; done)), H', ⟨by have := HJ4.out; have := HJ10.out; have := HJ15.out; have := HK4.out; first | omega | exact Nat.le_refl _⟩, ⟨by (with_reducible repeat (first | apply Kd.R_alloc | apply Kd.R_drewN | apply Kd.R_drew)); exact HO_11.out⟩, ⟨by (with_reducible repeat (first | apply Kd.R_alloc | apply Kd.R_drewN | apply Kd.R_drew)); exact HO_12.out⟩, ⟨by repeat (first | (with_reducible first | exact HB.out | apply below_alloc | apply pw_below_drewN | apply below_drew1) | exact HB.out)⟩⟩
                      case rest =>
                        clear HC21
                        try clear c1
                        try clear c2
                        try clear p2
                        try clear c3
                        try clear c4
                        try clear c7
                        try clear c10
                        try clear c12
                        try clear c12b0
                        try clear c12b1
                        try clear c13
                        try clear c13b0
                        try clear c13b1
                        try clear c19
                        try clear c19b0
                        try clear c20
                        try clear c20b0
                        try clear c22
                        try clear c22b0
                        try clear c22b1
                        try clear p2
                        obtain ⟨kq, x69_20, rfl, HA, HJ20, HO_11, HO_12, HB⟩ := hcut
                        cases kq with
                        | zero => exact absurd HA.out (by simp [calamusref15_Go.j4])
                        | succ kj20 =>
                          have H := HA.out
                          clear HA
                          simp only [calamusref15_Go.j4] at H
                          by_cases c23 : x69_20 = true
                          · subst c23
                            have H1 : (if x1_4 < (a0.size : Int) then (calamusref15_Go.j5 kj20 a0 x1_4 a2 x3_15 t264 t267 x13_4 x14_4 (a0.size : Int)) else (calamusref15_Go.j5 kj20 a0 x1_4 a2 x3_15 t264 t267 x13_4 x14_4 (-1))) = some (r1, r2) := by rw [if_pos rfl] at H; exact H
                            clear H
                            have H := H1
                            clear H1
                            have HC24 := Aside0.mk H
                            clear H
                            go_upto_if 75 with (fail)
                            go_cut [15] (fun v15 wc => ∃ (kq : Nat) (x15_23 : Int), v15 = .int .i64 x15_23 ∧ Aside0 (calamusref15_Go.j5 kq a0 x1_4 a2 x3_15 t264 t267 x13_4 x14_4 x15_23 = some (r1, r2)) ∧ Aside0 (kq ≤ kj20) ∧ Aside0 (Kd.R (Kd.int .i64) 3 wc w.heap.size (fun k_ => some k_ ≠ (v268 : Value).ownBlock) v265 t264) ∧ Aside0 (Kd.R (Kd.int .i64) 3 wc w.heap.size (fun k_ => some k_ ≠ (v265 : Value).ownBlock) v268 t267) ∧ Aside0 (Below w.heap.size w wc))
                            case first =>
                              have H := HC24.out
                              clear HC24
                              by_cases c25 : x1_4 < (a0.size : Int)
                              · rw [if_pos c25] at H
                                have c25b0 : decide (x1_4 < (a0.size : Int)) = true := decide_eq_true c25
                                clear c25
                                (first | rw [c25b0] | (simp only [i64_w, i32_w]; rw [c25b0]) | skip)
                                have H' := Aside0.mk H
                                clear H
                                go_wp2
                                go_meet
                                case rel => exact ⟨_, ((a0.size : Int)), (by first | rfl | (simp; done) | (simp [*]; done)), H', ⟨by have := HJ4.out; have := HJ10.out; have := HJ15.out; have := HK4.out; have := HJ20.out; first | omega | exact Nat.le_refl _⟩, ⟨by (with_reducible repeat (first | apply Kd.R_alloc | apply Kd.R_drewN | apply Kd.R_drew)); exact HO_11.out⟩, ⟨by (with_reducible repeat (first | apply Kd.R_alloc | apply Kd.R_drewN | apply Kd.R_drew)); exact HO_12.out⟩, ⟨by repeat (first | (with_reducible first | exact HB.out | apply below_alloc | apply pw_below_drewN | apply below_drew1) | exact HB.out)⟩⟩
                              · rw [if_neg c25] at H
                                have c25b0 : decide (x1_4 < (a0.size : Int)) = false := decide_eq_false c25
                                clear c25
                                (first | rw [c25b0] | (simp only [i64_w, i32_w]; rw [c25b0]) | skip)
                                have H' := Aside0.mk H
                                clear H
                                go_wp2
                                go_meet
                                case rel => exact ⟨_, ((-1)), (by first | rfl | (simp; done) | (simp [*]; done)), H', ⟨by have := HJ4.out; have := HJ10.out; have := HJ15.out; have := HK4.out; have := HJ20.out; first | omega | exact Nat.le_refl _⟩, ⟨by (with_reducible repeat (first | apply Kd.R_alloc | apply Kd.R_drewN | apply Kd.R_drew)); exact HO_11.out⟩, ⟨by (with_reducible repeat (first | apply Kd.R_alloc | apply Kd.R_drewN | apply Kd.R_drew)); exact HO_12.out⟩, ⟨by repeat (first | (with_reducible first | exact HB.out | apply below_alloc | apply pw_below_drewN | apply below_drew1) | exact HB.out)⟩⟩
                            case rest =>
                              clear HC24
                              try clear c1
                              try clear c2
                              try clear p2
                              try clear c3
                              try clear c4
                              try clear c7
                              try clear c10
                              try clear c12
                              try clear c12b0
                              try clear c12b1
                              try clear c13
                              try clear c13b0
                              try clear c13b1
                              try clear c19
                              try clear c19b0
                              try clear c20
                              try clear c20b0
                              try clear c22
                              try clear c22b0
                              try clear c22b1
                              try clear c23
                              try clear c25
                              try clear c25b0
                              try clear p2
                              obtain ⟨kq, x15_23, rfl, HA, HJ23, HO_11, HO_12, HB⟩ := hcut
                              cases kq with
                              | zero => exact absurd HA.out (by simp [calamusref15_Go.j5])
                              | succ kj23 =>
                                have H := HA.out
                                clear HA
                                simp only [calamusref15_Go.j5] at H
                                have H' := Aside0.mk H
                                clear H
                                obtain ⟨Ao26, co26, eo26⟩ := Kd.R_slice HO_11.out
                                subst eo26
                                go_wp2
                                go_loopg [15, 16] kj23 (fun kq v15 v16 w' => ∃ (x15_7 : Int) (x16_7 : Int), v15 = .int .i64 x15_7 ∧ v16 = .int .i64 x16_7 ∧ Aside0 (calamusref15_Go.l1 kq a0 x1_4 a2 x3_15 t264 t267 x13_4 x14_4 x15_7 x16_7 = some (r1, r2)) ∧ Aside0 (kq ≤ kj23) ∧ Aside0 (Kd.R (Kd.int .i64) 3 w' w.heap.size (fun k_ => some k_ ≠ (v268 : Value).ownBlock) (.slice Ao26 t264.length co26) t264) ∧ Aside0 (Kd.R (Kd.int .i64) 3 w' w.heap.size (fun k_ => some k_ ≠ ((.slice Ao26 t264.length co26) : Value).ownBlock) v268 t267) ∧ Aside0 (Below w.heap.size w w'))
                                case atStart => exact ⟨(x15_23), (wrap64 ((t264.length : Int) - 1)), (by first | rfl | (simp; done) | (simp [*]; done)), (by first | rfl | (simp; done) | (simp [*]; done)), H', ⟨Nat.le_refl _⟩, ⟨by (with_reducible repeat (first | apply Kd.R_alloc | apply Kd.R_drewN | apply Kd.R_drew)); exact HO_11.out⟩, ⟨by (with_reducible repeat (first | apply Kd.R_alloc | apply Kd.R_drewN | apply Kd.R_drew)); exact HO_12.out⟩, ⟨by repeat (first | (with_reducible first | exact HB.out | apply below_alloc | apply pw_below_drewN | apply below_drew1) | exact HB.out)⟩⟩
                                case round =>
                                  clear H'
                                  try clear c1
                                  try clear c2
                                  try clear p2
                                  try clear c3
                                  try clear c4
                                  try clear p6
                                  try clear c7
                                  try clear c10
                                  try clear c12
                                  try clear c12b0
                                  try clear c12b1
                                  try clear c13
                                  try clear c13b0
                                  try clear c13b1
                                  try clear c19
                                  try clear c19b0
                                  try clear c20
                                  try clear c20b0
                                  try clear c22
                                  try clear c22b0
                                  try clear c22b1
                                  try clear c23
                                  try clear c25
                                  try clear c25b0
                                  try clear p2
                                  obtain ⟨x15_7, x16_7, rfl, rfl, HA, HK7, HO_11, HO_12, HB⟩ := hrel
                                  cases gk with
                                  | zero => exact absurd HA.out (by simp [calamusref15_Go.l1])
                                  | succ k7 =>
                                    have H := HA.out
                                    clear HA
                                    simp only [calamusref15_Go.l1] at H
                                    by_cases c27 : x16_7 ≥ 0
                                    · rw [if_pos c27] at H
                                      have c27b0 : decide (0 ≤ x16_7) = true := decide_eq_true c27
                                      clear c27
                                      by_cases c28 : 0 ≤ x16_7
                                      · rw [if_pos c28] at H
                                        have c28b0 : decide (0 ≤ x16_7) = true := decide_eq_true c28
                                        clear c28
                                        by_cases c29 : x16_7 < (t264.length : Int)
                                        · rw [if_pos c29] at H
                                          have c29b0 : decide (x16_7 < (t264.length : Int)) = true := decide_eq_true c29
                                          clear c29
                                          by_cases c30 : (rd t264 x16_7) > x1_4
                                          · rw [if_pos c30] at H
                                            have c30b0 : decide (x1_4 < (rd t264 x16_7)) = true := decide_eq_true c30
                                            clear c30
                                            have H' := Aside0.mk H
                                            clear H
                                            have p270 : 0 ≤ (x16_7 : Int) := of_decide_eq_true (by first | (with_reducible assumption) | assumption)
                                            have q270 : x16_7 < (t264.length : Int) := of_decide_eq_true (by first | (with_reducible assumption) | assumption)
                                            obtain ⟨ad270, e270, hx270_0⟩ := Kd.at_int (Kd.R_reads' HO_11.out).2.2 x16_7 p270 q270
                                            cases e270
                                            replace p270 := eq_true p270
                                            replace q270 := eq_true q270
                                            have p271 : 0 ≤ (x16_7 : Int) := of_decide_eq_true (by first | (with_reducible assumption) | assumption)
                                            have q271 : x16_7 < (t264.length : Int) := of_decide_eq_true (by first | (with_reducible assumption) | assumption)
                                            obtain ⟨ad271, e271, hx271_0⟩ := Kd.at_int (Kd.R_reads' HO_11.out).2.2 x16_7 p271 q271
                                            obtain rfl : ad270 = ad271 := (by injection e271)
                                            replace p271 := eq_true p271
                                            replace q271 := eq_true q271
                                            go_wp2
                                            go_roundg k7
                                            case measure => have := HJ4.out; have := HJ10.out; have := HJ15.out; have := HK4.out; have := HJ20.out; have := HJ23.out; have := HK7.out; omega
                                            case rel => exact ⟨(rd t264 x16_7), (wrap64 (x16_7 - 1)), (by first | rfl | (simp; done) | (simp [*]; done)), (by first | rfl | (simp; done) | (simp [*]; done)), H', ⟨by have := HJ4.out; have := HJ10.out; have := HJ15.out; have := HK4.out; have := HJ20.out; have := HJ23.out; have := HK7.out; omega⟩, ⟨by (with_reducible repeat (first | apply Kd.R_alloc | apply Kd.R_drewN | apply Kd.R_drew)); exact HO_11.out⟩, ⟨by (with_reducible repeat (first | apply Kd.R_alloc | apply Kd.R_drewN | apply Kd.R_drew)); exact HO_12.out⟩, ⟨by repeat (first | (with_reducible first | exact HB.out | apply below_alloc | apply pw_below_drewN | apply below_drew1) | exact HB.out)⟩⟩
                                          · rw [if_neg c30] at H
                                            have c30b0 : decide (x1_4 < (rd t264 x16_7)) = false := decide_eq_false c30
                                            clear c30
                                            have H' := Aside0.mk H
                                            clear H
                                            have p270 : 0 ≤ (x16_7 : Int) := of_decide_eq_true (by first | (with_reducible assumption) | assumption)
                                            have q270 : x16_7 < (t264.length : Int) := of_decide_eq_true (by first | (with_reducible assumption) | assumption)
                                            obtain ⟨ad270, e270, hx270_0⟩ := Kd.at_int (Kd.R_reads' HO_11.out).2.2 x16_7 p270 q270
                                            cases e270
                                            replace p270 := eq_true p270
                                            replace q270 := eq_true q270
                                            go_wp2
                                            go_roundg k7
                                            case measure => have := HJ4.out; have := HJ10.out; have := HJ15.out; have := HK4.out; have := HJ20.out; have := HJ23.out; have := HK7.out; omega
                                            case rel => exact ⟨(x15_7), (wrap64 (x16_7 - 1)), (by first | rfl | (simp; done) | (simp [*]; done)), (by first | rfl | (simp; done) | (simp [*]; done)), H', ⟨by have := HJ4.out; have := HJ10.out; have := HJ15.out; have := HK4.out; have := HJ20.out; have := HJ23.out; have := HK7.out; omega⟩, ⟨by (with_reducible repeat (first | apply Kd.R_alloc | apply Kd.R_drewN | apply Kd.R_drew)); exact HO_11.out⟩, ⟨by (with_reducible repeat (first | apply Kd.R_alloc | apply Kd.R_drewN | apply Kd.R_drew)); exact HO_12.out⟩, ⟨by repeat (first | (with_reducible first | exact HB.out | apply below_alloc | apply pw_below_drewN | apply below_drew1) | exact HB.out)⟩⟩
                                        · rw [if_neg c29] at H
                                          exact absurd H (by simp)
                                      · rw [if_neg c28] at H
                                        exact absurd H (by simp)
                                    · rw [if_neg c27] at H
                                      have c27b0 : decide (0 ≤ x16_7) = false := decide_eq_false c27
                                      clear c27
                                      by_cases c31 : x15_7 < 0
                                      · rw [if_pos c31] at H
                                        have c31b0 : decide (x15_7 < 0) = true := decide_eq_true c31
                                        clear c31
                                        by_cases c32 : x13_4 = true
                                        · subst c32
                                          have H1 : (some (x1_4, true)) = some (r1, r2) := by rw [if_pos rfl] at H; exact H
                                          clear H
                                          have H := H1
                                          clear H1
                                          simp only [Option.some.injEq, Prod.mk.injEq] at H
                                          obtain ⟨rfl, rfl⟩ := H
                                          go_wp2
                                          go_ret2
                                          exact ⟨by first | rfl | (simp [errW_none, errW_some] <;> rfl) | (simp [*, errW_none, errW_some] <;> rfl), by repeat (first | (with_reducible first | exact HB.out | apply below_alloc | apply pw_below_drewN | apply below_drew1) | exact HB.out)⟩
                                        · replace c32 := Bool.eq_false_iff.mpr c32
                                          subst c32
                                          have H1 : (some (0, false)) = some (r1, r2) := by rw [if_neg (show ¬ (false = true) by decide)] at H; exact H
                                          clear H
                                          have H := H1
                                          clear H1
                                          simp only [Option.some.injEq, Prod.mk.injEq] at H
                                          obtain ⟨rfl, rfl⟩ := H
                                          go_wp2
                                          go_ret2
                                          exact ⟨by first | rfl | (simp [errW_none, errW_some] <;> rfl) | (simp [*, errW_none, errW_some] <;> rfl), by repeat (first | (with_reducible first | exact HB.out | apply below_alloc | apply pw_below_drewN | apply below_drew1) | exact HB.out)⟩
                                      · rw [if_neg c31] at H
                                        have c31b0 : decide (x15_7 < 0) = false := decide_eq_false c31
                                        clear c31
                                        have H' := Aside0.mk H
                                        clear H
                                        go_wp2
                                        go_roundg k7
                                        case measure => have := HJ4.out; have := HJ10.out; have := HJ15.out; have := HK4.out; have := HJ20.out; have := HJ23.out; have := HK7.out; omega
                                        case rel => exact ⟨(x15_7), (true), (wrap64 (x14_4 + 1)), (by first | rfl | (simp; done) | (simp [*]; done)), (by first | rfl | (simp; done) | (simp [*]; done)), (by first | rfl | (simp; done) | (simp [*]; done)), H', ⟨by have := HJ4.out; have := HJ10.out; have := HJ15.out; have := HK4.out; have := HJ20.out; have := HJ23.out; have := HK7.out; omega⟩, ⟨by (with_reducible repeat (first | apply Kd.R_alloc | apply Kd.R_drewN | apply Kd.R_drew)); exact HO_11.out⟩, ⟨by (with_reducible repeat (first | apply Kd.R_alloc | apply Kd.R_drewN | apply Kd.R_drew)); exact HO_12.out⟩, ⟨by repeat (first | (with_reducible first | exact HB.out | apply below_alloc | apply pw_below_drewN | apply below_drew1) | exact HB.out)⟩⟩
                          · replace c23 := Bool.eq_false_iff.mpr c23
                            subst c23
                            have H1 : (if a2.toList = ([98] : List UInt8) then (calamusref15_Go.j7 kj20 a0 x1_4 a2 x3_15 t264 t267 x13_4 x14_4 (-1) (a2.toList == ([98] : List UInt8))) else (calamusref15_Go.j7 kj20 a0 x1_4 a2 x3_15 t264 t267 x13_4 x14_4 (-1) (a2.toList == ([66] : List UInt8)))) = some (r1, r2) := by rw [if_neg (show ¬ (false = true) by decide)] at H; exact H
                            clear H
                            have H := H1
                            clear H1
                            have HC33 := Aside0.mk H
                            clear H
                            go_upto_if 95 with (fail)
                            go_cut [95] (fun v95 wc => ∃ (kq : Nat) (x95_32 : Bool), v95 = .bool x95_32 ∧ Aside0 (calamusref15_Go.j7 kq a0 x1_4 a2 x3_15 t264 t267 x13_4 x14_4 (-1) x95_32 = some (r1, r2)) ∧ Aside0 (kq ≤ kj20) ∧ Aside0 (Kd.R (Kd.int .i64) 3 wc w.heap.size (fun k_ => some k_ ≠ (v268 : Value).ownBlock) v265 t264) ∧ Aside0 (Kd.R (Kd.int .i64) 3 wc w.heap.size (fun k_ => some k_ ≠ (v265 : Value).ownBlock) v268 t267) ∧ Aside0 (Below w.heap.size w wc))
                            case first =>
                              have H := HC33.out
                              clear HC33
                              by_cases c34 : a2.toList = ([98] : List UInt8)
                              · rw [if_pos c34] at H
                                have c34b0 : (a2.toList == ([98] : List UInt8)) = true := beq_iff_eq.mpr c34
                                have c34b1 : (a2.toList != ([98] : List UInt8)) = false := bne_eq_false_iff_eq.mpr c34
                                clear c34
                                (first | rw [c34b0] | (simp only [i64_w, i32_w]; rw [c34b0]) | skip)
                                have H' := Aside0.mk H
                                clear H
                                go_wp2
                                go_meet
                                case rel => exact ⟨_, ((a2.toList == ([98] : List UInt8))), (by first | rfl | (simp; done) | (simp [*]; done)), H', ⟨by have := HJ4.out; have := HJ10.out; have := HJ15.out; have := HK4.out; have := HJ20.out; first | omega | exact Nat.le_refl _⟩, ⟨by (with_reducible repeat (first | apply Kd.R_alloc | apply Kd.R_drewN | apply Kd.R_drew)); exact HO_11.out⟩, ⟨by (with_reducible repeat (first | apply Kd.R_alloc | apply Kd.R_drewN | apply Kd.R_drew)); exact HO_12.out⟩, ⟨by repeat (first | (with_reducible first | exact HB.out | apply below_alloc | apply pw_below_drewN | apply below_drew1) | exact HB.out)⟩⟩
                              · rw [if_neg c34] at H
                                have c34b0 : (a2.toList == ([98] : List UInt8)) = false := beq_eq_false_iff_ne.mpr c34
                                have c34b1 : (a2.toList != ([98] : List UInt8)) = true := bne_iff_ne.mpr c34
                                (first | rw [c34b0] | (simp only [i64_w, i32_w]; rw [c34b0]) | skip)
                                have H' := Aside0.mk H
                                clear H
                                go_wp2
                                go_meet
                                case rel => exact ⟨_, ((a2.toList == ([66] : List UInt8))), (by first | rfl | (simp; done) | (simp [*]; done)), H', ⟨by have := HJ4.out; have := HJ10.out; have := HJ15.out; have := HK4.out; have := HJ20.out; first | omega | exact Nat.le_refl _⟩, ⟨by (with_reducible repeat (first | apply Kd.R_alloc | apply Kd.R_drewN | apply Kd.R_drew)); exact HO_11.out⟩, ⟨by (with_reducible repeat (first | apply Kd.R_alloc | apply Kd.R_drewN | apply Kd.R_drew)); exact HO_12.out⟩, ⟨by repeat (first | (with_reducible first | exact HB.out | apply below_alloc | apply pw_below_drewN | apply below_drew1) | exact HB.out)⟩⟩
                            case rest =>
                              clear HC33
                              try clear c1
                              try clear c2
                              try clear p2
                              try clear q2
                              try clear hx2
                              try clear c3
                              try clear c4
                              try clear p6
                              try clear c7
                              try clear c10
                              try clear c12
                              try clear c12b0
                              try clear c12b1
                              try clear c13
                              try clear c13b0
                              try clear c13b1
                              try clear c19
                              try clear c19b0
                              try clear c20
                              try clear c20b0
                              try clear c22
                              try clear c22b0
                              try clear c22b1
                              try clear c23
                              try clear c25
                              try clear c25b0
                              try clear c27
                              try clear c27b0
                              try clear p27
                              try clear q27
                              try clear hx27
                              try clear c28
                              try clear c28b0
                              try clear c29
                              try clear c29b0
                              try clear c30
                              try clear c30b0
                              try clear c31
                              try clear c31b0
                              try clear c32
                              try clear c34
                              try clear c34b0
                              try clear c34b1
                              try clear hx270_0
                              try clear hx271_0
                              try clear p2
                              try clear p270
                              try clear p271
                              try clear p6
                              try clear q270
                              try clear q271
                              obtain ⟨kq, x95_32, rfl, HA, HJ32, HO_11, HO_12, HB⟩ := hcut
                              cases kq with
                              | zero => exact absurd HA.out (by simp [calamusref15_Go.j7])
                              | succ kj32 =>
                                have H := HA.out
                                clear HA
                                simp only [calamusref15_Go.j7] at H
                                by_cases c35 : x95_32 = true
                                · subst c35
                                  have H1 : (calamusref15_Go.l2 kj32 a0 x1_4 a2 x3_15 t264 t267 x13_4 x14_4 (-1) 0) = some (r1, r2) := by rw [if_pos rfl] at H; exact H
                                  clear H
                                  have H := H1
                                  clear H1
                                  have H' := Aside0.mk H
                                  clear H
                                  go_wp2
                                  go_loopg [15, 17] kj32 (fun kq v15 v17 w' => ∃ (x15_7 : Int) (x17_7 : Int), v15 = .int .i64 x15_7 ∧ v17 = .int .i64 x17_7 ∧ Aside0 (calamusref15_Go.l2 kq a0 x1_4 a2 x3_15 t264 t267 x13_4 x14_4 x15_7 x17_7 = some (r1, r2)) ∧ Aside0 (kq ≤ kj32) ∧ Aside0 (Kd.R (Kd.int .i64) 3 w' w.heap.size (fun k_ => some k_ ≠ (v268 : Value).ownBlock) v265 t264) ∧ Aside0 (Kd.R (Kd.int .i64) 3 w' w.heap.size (fun k_ => some k_ ≠ (v265 : Value).ownBlock) v268 t267) ∧ Aside0 (Below w.heap.size w w'))
                                  case atStart => exact ⟨((-1)), (0), (by first | rfl | (simp; done) | (simp [*]; done)), (by first | rfl | (simp; done) | (simp [*]; done)), H', ⟨Nat.le_refl _⟩, ⟨by (with_reducible repeat (first | apply Kd.R_alloc | apply Kd.R_drewN | apply Kd.R_drew)); exact HO_11.out⟩, ⟨by (with_reducible repeat (first | apply Kd.R_alloc | apply Kd.R_drewN | apply Kd.R_drew)); exact HO_12.out⟩, ⟨by repeat (first | (with_reducible first | exact HB.out | apply below_alloc | apply pw_below_drewN | apply below_drew1) | exact HB.out)⟩⟩
                                  case round =>
                                    clear H'
                                    try clear c1
                                    try clear c2
                                    try clear p2
                                    try clear q2
                                    try clear hx2
                                    try clear c3
                                    try clear c4
                                    try clear p6
                                    try clear c7
                                    try clear c10
                                    try clear c12
                                    try clear c12b0
                                    try clear c12b1
                                    try clear c13
                                    try clear c13b0
                                    try clear c13b1
                                    try clear c19
                                    try clear c19b0
                                    try clear c20
                                    try clear c20b0
                                    try clear c22
                                    try clear c22b0
                                    try clear c22b1
                                    try clear c23
                                    try clear c25
                                    try clear c25b0
                                    try clear c27
                                    try clear c27b0
                                    try clear p27
                                    try clear q27
                                    try clear hx27
                                    try clear c28
                                    try clear c28b0
                                    try clear c29
                                    try clear c29b0
                                    try clear c30
                                    try clear c30b0
                                    try clear c31
                                    try clear c31b0
                                    try clear c32
                                    try clear c34
                                    try clear c34b0
                                    try clear c34b1
                                    try clear c35
                                    try clear hx270_0
                                    try clear hx271_0
                                    try clear p2
                                    try clear p27
                                    try clear p270
                                    try clear p271
                                    try clear p6
                                    try clear q2
                                    try clear q27
                                    try clear q270
                                    try clear q271
                                    obtain ⟨x15_7, x17_7, rfl, rfl, HA, HK7, HO_11, HO_12, HB⟩ := hrel
                                    cases gk with
                                    | zero => exact absurd HA.out (by simp [calamusref15_Go.l2])
                                    | succ k7 =>
                                      have H := HA.out
                                      clear HA
                                      simp only [calamusref15_Go.l2] at H
                                      by_cases c36 : x17_7 < (t264.length : Int)
                                      · rw [if_pos c36] at H
                                        have c36b0 : decide (x17_7 < (t264.length : Int)) = true := decide_eq_true c36
                                        clear c36
                                        by_cases c37 : 0 ≤ x17_7
                                        · rw [if_pos c37] at H
                                          have c37b0 : decide (0 ≤ x17_7) = true := decide_eq_true c37
                                          clear c37
                                          by_cases c38 : (rd t264 x17_7) < x1_4
                                          · rw [if_pos c38] at H
                                            have c38b0 : decide ((rd t264 x17_7) < x1_4) = true := decide_eq_true c38
                                            clear c38
                                            have H' := Aside0.mk H
                                            clear H
                                            obtain ⟨Ao39, co39, eo39⟩ := Kd.R_slice HO_11.out
                                            subst eo39
                                            have p272 : 0 ≤ (x17_7 : Int) := of_decide_eq_true (by first | (with_reducible assumption) | assumption)
                                            have q272 : x17_7 < (t264.length : Int) := of_decide_eq_true (by first | (with_reducible assumption) | assumption)
                                            obtain ⟨ad272, e272, hx272_0⟩ := Kd.at_int (Kd.R_reads' HO_11.out).2.2 x17_7 p272 q272
                                            cases e272
                                            replace p272 := eq_true p272
                                            replace q272 := eq_true q272
                                            have p273 : 0 ≤ (x17_7 : Int) := of_decide_eq_true (by first | (with_reducible assumption) | assumption)
                                            have q273 : x17_7 < (t264.length : Int) := of_decide_eq_true (by first | (with_reducible assumption) | assumption)
                                            obtain ⟨ad273, e273, hx273_0⟩ := Kd.at_int (Kd.R_reads' HO_11.out).2.2 x17_7 p273 q273
                                            obtain rfl : ad272 = ad273 := (by injection e273)
                                            replace p273 := eq_true p273
                                            replace q273 := eq_true q273
                                            go_wp2
                                            go_roundg k7
                                            case measure => have := HJ4.out; have := HJ10.out; have := HJ15.out; have := HK4.out; have := HJ20.out; have := HJ32.out; have := HK7.out; omega
                                            case rel => exact ⟨(rd t264 x17_7), (wrap64 (x17_7 + 1)), (by first | rfl | (simp; done) | (simp [*]; done)), (by first | rfl | (simp; done) | (simp [*]; done)), H', ⟨by have := HJ4.out; have := HJ10.out; have := HJ15.out; have := HK4.out; have := HJ20.out; have := HJ32.out; have := HK7.out; omega⟩, ⟨by (with_reducible repeat (first | apply Kd.R_alloc | apply Kd.R_drewN | apply Kd.R_drew)); exact HO_11.out⟩, ⟨by (with_reducible repeat (first | apply Kd.R_alloc | apply Kd.R_drewN | apply Kd.R_drew)); exact HO_12.out⟩, ⟨by repeat (first | (with_reducible first | exact HB.out | apply below_alloc | apply pw_below_drewN | apply below_drew1) | exact HB.out)⟩⟩
                                          · rw [if_neg c38] at H
                                            have c38b0 : decide ((rd t264 x17_7) < x1_4) = false := decide_eq_false c38
                                            clear c38
                                            have H' := Aside0.mk H
                                            clear H
                                            obtain ⟨Ao40, co40, eo40⟩ := Kd.R_slice HO_11.out
                                            subst eo40
                                            have p272 : 0 ≤ (x17_7 : Int) := of_decide_eq_true (by first | (with_reducible assumption) | assumption)
                                            have q272 : x17_7 < (t264.length : Int) := of_decide_eq_true (by first | (with_reducible assumption) | assumption)
                                            obtain ⟨ad272, e272, hx272_0⟩ := Kd.at_int (Kd.R_reads' HO_11.out).2.2 x17_7 p272 q272
                                            cases e272
                                            replace p272 := eq_true p272
                                            replace q272 := eq_true q272
                                            go_wp2
                                            go_roundg k7
                                            case measure => have := HJ4.out; have := HJ10.out; have := HJ15.out; have := HK4.out; have := HJ20.out; have := HJ32.out; have := HK7.out; omega
                                            case rel => exact ⟨(x15_7), (wrap64 (x17_7 + 1)), (by first | rfl | (simp; done) | (simp [*]; done)), (by first | rfl | (simp; done) | (simp [*]; done)), H', ⟨by have := HJ4.out; have := HJ10.out; have := HJ15.out; have := HK4.out; have := HJ20.out; have := HJ32.out; have := HK7.out; omega⟩, ⟨by (with_reducible repeat (first | apply Kd.R_alloc | apply Kd.R_drewN | apply Kd.R_drew)); exact HO_11.out⟩, ⟨by (with_reducible repeat (first | apply Kd.R_alloc | apply Kd.R_drewN | apply Kd.R_drew)); exact HO_12.out⟩, ⟨by repeat (first | (with_reducible first | exact HB.out | apply below_alloc | apply pw_below_drewN | apply below_drew1) | exact HB.out)⟩⟩
                                        · rw [if_neg c37] at H
                                          exact absurd H (by simp)
                                      · rw [if_neg c36] at H
                                        have c36b0 : decide (x17_7 < (t264.length : Int)) = false := decide_eq_false c36
                                        clear c36
                                        by_cases c41 : x15_7 < 0
                                        · rw [if_pos c41] at H
                                          have c41b0 : decide (x15_7 < 0) = true := decide_eq_true c41
                                          clear c41
                                          by_cases c42 : x13_4 = true
                                          · subst c42
                                            have H1 : (some (x1_4, true)) = some (r1, r2) := by rw [if_pos rfl] at H; exact H
                                            clear H
                                            have H := H1
                                            clear H1
                                            simp only [Option.some.injEq, Prod.mk.injEq] at H
                                            obtain ⟨rfl, rfl⟩ := H
                                            obtain ⟨Ao43, co43, eo43⟩ := Kd.R_slice HO_11.out
                                            subst eo43
                                            go_wp2
                                            go_ret2
                                            exact ⟨by first | rfl | (simp [errW_none, errW_some] <;> rfl) | (simp [*, errW_none, errW_some] <;> rfl), by repeat (first | (with_reducible first | exact HB.out | apply below_alloc | apply pw_below_drewN | apply below_drew1) | exact HB.out)⟩
                                          · replace c42 := Bool.eq_false_iff.mpr c42
                                            subst c42
                                            have H1 : (some (0, false)) = some (r1, r2) := by rw [if_neg (show ¬ (false = true) by decide)] at H; exact H
                                            clear H
                                            have H := H1
                                            clear H1
                                            simp only [Option.some.injEq, Prod.mk.injEq] at H
                                            obtain ⟨rfl, rfl⟩ := H
                                            obtain ⟨Ao44, co44, eo44⟩ := Kd.R_slice HO_11.out
                                            subst eo44
                                            go_wp2
                                            go_ret2
                                            exact ⟨by first | rfl | (simp [errW_none, errW_some] <;> rfl) | (simp [*, errW_none, errW_some] <;> rfl), by repeat (first | (with_reducible first | exact HB.out | apply below_alloc | apply pw_below_drewN | apply below_drew1) | exact HB.out)⟩
                                        · rw [if_neg c41] at H
                                          have c41b0 : decide (x15_7 < 0) = false := decide_eq_false c41
                                          clear c41
                                          have H' := Aside0.mk H
                                          clear H
                                          obtain ⟨Ao45, co45, eo45⟩ := Kd.R_slice HO_11.out
                                          subst eo45
                                          go_wp2
                                          go_roundg k7
                                          case measure => have := HJ4.out; have := HJ10.out; have := HJ15.out; have := HK4.out; have := HJ20.out; have := HJ32.out; have := HK7.out; omega
                                          case rel => exact ⟨(x15_7), (true), (wrap64 (x14_4 + 1)), (by first | rfl | (simp; done) | (simp [*]; done)), (by first | rfl | (simp; done) | (simp [*]; done)), (by first | rfl | (simp; done) | (simp [*]; done)), H', ⟨by have := HJ4.out; have := HJ10.out; have := HJ15.out; have := HK4.out; have := HJ20.out; have := HJ32.out; have := HK7.out; omega⟩, ⟨by (with_reducible repeat (first | apply Kd.R_alloc | apply Kd.R_drewN | apply Kd.R_drew)); exact HO_11.out⟩, ⟨by (with_reducible repeat (first | apply Kd.R_alloc | apply Kd.R_drewN | apply Kd.R_drew)); exact HO_12.out⟩, ⟨by repeat (first | (with_reducible first | exact HB.out | apply below_alloc | apply pw_below_drewN | apply below_drew1) | exact HB.out)⟩⟩
                                · replace c35 := Bool.eq_false_iff.mpr c35
                                  subst c35
                                  have H1 : (calamusref15_Go.l3 kj32 a0 x1_4 a2 x3_15 t264 t267 x13_4 x14_4 (-1) (wrap64 ((t267.length : Int) - 1))) = some (r1, r2) := by rw [if_neg (show ¬ (false = true) by decide)] at H; exact H
                                  clear H
                                  have H := H1
                                  clear H1
                                  have H' := Aside0.mk H
                                  clear H
                                  obtain ⟨Ao46, co46, eo46⟩ := Kd.R_slice HO_12.out
                                  subst eo46
                                  go_wp2
                                  go_loopg [15, 18] kj32 (fun kq v15 v18 w' => ∃ (x15_7 : Int) (x18_7 : Int), v15 = .int .i64 x15_7 ∧ v18 = .int .i64 x18_7 ∧ Aside0 (calamusref15_Go.l3 kq a0 x1_4 a2 x3_15 t264 t267 x13_4 x14_4 x15_7 x18_7 = some (r1, r2)) ∧ Aside0 (kq ≤ kj32) ∧ Aside0 (Kd.R (Kd.int .i64) 3 w' w.heap.size (fun k_ => some k_ ≠ ((.slice Ao46 t267.length co46) : Value).ownBlock) v265 t264) ∧ Aside0 (Kd.R (Kd.int .i64) 3 w' w.heap.size (fun k_ => some k_ ≠ (v265 : Value).ownBlock) (.slice Ao46 t267.length co46) t267) ∧ Aside0 (Below w.heap.size w w'))
                                  case atStart => exact ⟨((-1)), (wrap64 ((t267.length : Int) - 1)), (by first | rfl | (simp; done) | (simp [*]; done)), (by first | rfl | (simp; done) | (simp [*]; done)), H', ⟨Nat.le_refl _⟩, ⟨by (with_reducible repeat (first | apply Kd.R_alloc | apply Kd.R_drewN | apply Kd.R_drew)); exact HO_11.out⟩, ⟨by (with_reducible repeat (first | apply Kd.R_alloc | apply Kd.R_drewN | apply Kd.R_drew)); exact HO_12.out⟩, ⟨by repeat (first | (with_reducible first | exact HB.out | apply below_alloc | apply pw_below_drewN | apply below_drew1) | exact HB.out)⟩⟩
                                  case round =>
                                    clear H'
                                    try clear c1
                                    try clear c2
                                    try clear p2
                                    try clear q2
                                    try clear hx2
                                    try clear c3
                                    try clear c4
                                    try clear p6
                                    try clear c7
                                    try clear c10
                                    try clear c12
                                    try clear c12b0
                                    try clear c12b1
                                    try clear c13
                                    try clear c13b0
                                    try clear c13b1
                                    try clear c19
                                    try clear c19b0
                                    try clear c20
                                    try clear c20b0
                                    try clear c22
                                    try clear c22b0
                                    try clear c22b1
                                    try clear c23
                                    try clear c25
                                    try clear c25b0
                                    try clear c27
                                    try clear c27b0
                                    try clear p27
                                    try clear q27
                                    try clear hx27
                                    try clear c28
                                    try clear c28b0
                                    try clear c29
                                    try clear c29b0
                                    try clear c30
                                    try clear c30b0
                                    try clear c31
                                    try clear c31b0
                                    try clear c32
                                    try clear c34
                                    try clear c34b0
                                    try clear c34b1
                                    try clear c35
                                    try clear c36
                                    try clear c36b0
                                    try clear c37
                                    try clear c37b0
                                    try clear c38
                                    try clear c38b0
                                    try clear c41
                                    try clear c41b0
                                    try clear c42
                                    try clear hx270_0
                                    try clear hx271_0
                                    try clear hx272_0
                                    try clear hx273_0
                                    try clear p2
                                    try clear p27
                                    try clear p270
                                    try clear p271
                                    try clear p272
                                    try clear p273
                                    try clear p6
                                    try clear q2
                                    try clear q27
                                    try clear q270
                                    try clear q271
                                    try clear q272
                                    try clear q273
                                    obtain ⟨x15_7, x18_7, rfl, rfl, HA, HK7, HO_11, HO_12, HB⟩ := hrel
                                    cases gk with
                                    | zero => exact absurd HA.out (by simp [calamusref15_Go.l3])
                                    | succ k7 =>
                                      have H := HA.out
                                      clear HA
                                      simp only [calamusref15_Go.l3] at H
                                      by_cases c47 : x18_7 ≥ 0
                                      · rw [if_pos c47] at H
                                        have c47b0 : decide (0 ≤ x18_7) = true := decide_eq_true c47
                                        clear c47
                                        by_cases c48 : 0 ≤ x18_7
                                        · rw [if_pos c48] at H
                                          have c48b0 : decide (0 ≤ x18_7) = true := decide_eq_true c48
                                          clear c48
                                          by_cases c49 : x18_7 < (t267.length : Int)
                                          · rw [if_pos c49] at H
                                            have c49b0 : decide (x18_7 < (t267.length : Int)) = true := decide_eq_true c49
                                            clear c49
                                            by_cases c50 : (rd t267 x18_7) > x1_4
                                            · rw [if_pos c50] at H
                                              have c50b0 : decide (x1_4 < (rd t267 x18_7)) = true := decide_eq_true c50
                                              clear c50
                                              have H' := Aside0.mk H
                                              clear H
                                              have p274 : 0 ≤ (x18_7 : Int) := of_decide_eq_true (by first | (with_reducible assumption) | assumption)
                                              have q274 : x18_7 < (t267.length : Int) := of_decide_eq_true (by first | (with_reducible assumption) | assumption)
                                              obtain ⟨ad274, e274, hx274_0⟩ := Kd.at_int (Kd.R_reads' HO_12.out).2.2 x18_7 p274 q274
                                              cases e274
                                              replace p274 := eq_true p274
                                              replace q274 := eq_true q274
                                              have p275 : 0 ≤ (x18_7 : Int) := of_decide_eq_true (by first | (with_reducible assumption) | assumption)
                                              have q275 : x18_7 < (t267.length : Int) := of_decide_eq_true (by first | (with_reducible assumption) | assumption)
                                              obtain ⟨ad275, e275, hx275_0⟩ := Kd.at_int (Kd.R_reads' HO_12.out).2.2 x18_7 p275 q275
                                              obtain rfl : ad274 = ad275 := (by injection e275)
                                              replace p275 := eq_true p275
                                              replace q275 := eq_true q275
                                              go_wp2
                                              go_roundg k7
                                              case measure => have := HJ4.out; have := HJ10.out; have := HJ15.out; have := HK4.out; have := HJ20.out; have := HJ32.out; have := HK7.out; omega
                                              case rel => exact ⟨(rd t267 x18_7), (wrap64 (x18_7 - 1)), (by first | rfl | (simp; done) | (simp [*]; done)), (by first | rfl | (simp; done) | (simp [*]; done)), H', ⟨by have := HJ4.out; have := HJ10.out; have := HJ15.out; have := HK4.out; have := HJ20.out; have := HJ32.out; have := HK7.out; omega⟩, ⟨by (with_reducible repeat (first | apply Kd.R_alloc | apply Kd.R_drewN | apply Kd.R_drew)); exact HO_11.out⟩, ⟨by (with_reducible repeat (first | apply Kd.R_alloc | apply Kd.R_drewN | apply Kd.R_drew)); exact HO_12.out⟩, ⟨by repeat (first | (with_reducible first | exact HB.out | apply below_alloc | apply pw_below_drewN | apply below_drew1) | exact HB.out)⟩⟩
                                            · rw [if_neg c50] at H
                                              have c50b0 : decide (x1_4 < (rd t267 x18_7)) = false := decide_eq_false c50
                                              clear c50
                                              have H' := Aside0.mk H
                                              clear H
                                              have p274 : 0 ≤ (x18_7 : Int) := of_decide_eq_true (by first | (with_reducible assumption) | assumption)
                                              have q274 : x18_7 < (t267.length : Int) := of_decide_eq_true (by first | (with_reducible assumption) | assumption)
                                              obtain ⟨ad274, e274, hx274_0⟩ := Kd.at_int (Kd.R_reads' HO_12.out).2.2 x18_7 p274 q274
                                              cases e274
                                              replace p274 := eq_true p274
                                              replace q274 := eq_true q274
                                              go_wp2
                                              go_roundg k7
                                              case measure => have := HJ4.out; have := HJ10.out; have := HJ15.out; have := HK4.out; have := HJ20.out; have := HJ32.out; have := HK7.out; omega
                                              case rel => exact ⟨(x15_7), (wrap64 (x18_7 - 1)), (by first | rfl | (simp; done) | (simp [*]; done)), (by first | rfl | (simp; done) | (simp [*]; done)), H', ⟨by have := HJ4.out; have := HJ10.out; have := HJ15.out; have := HK4.out; have := HJ20.out; have := HJ32.out; have := HK7.out; omega⟩, ⟨by (with_reducible repeat (first | apply Kd.R_alloc | apply Kd.R_drewN | apply Kd.R_drew)); exact HO_11.out⟩, ⟨by (with_reducible repeat (first | apply Kd.R_alloc | apply Kd.R_drewN | apply Kd.R_drew)); exact HO_12.out⟩, ⟨by repeat (first | (with_reducible first | exact HB.out | apply below_alloc | apply pw_below_drewN | apply below_drew1) | exact HB.out)⟩⟩
                                          · rw [if_neg c49] at H
                                            exact absurd H (by simp)
                                        · rw [if_neg c48] at H
                                          exact absurd H (by simp)
                                      · rw [if_neg c47] at H
                                        have c47b0 : decide (0 ≤ x18_7) = false := decide_eq_false c47
                                        clear c47
                                        by_cases c51 : x15_7 < 0
                                        · rw [if_pos c51] at H
                                          have c51b0 : decide (x15_7 < 0) = true := decide_eq_true c51
                                          clear c51
                                          by_cases c52 : x13_4 = true
                                          · subst c52
                                            have H1 : (some (x1_4, true)) = some (r1, r2) := by rw [if_pos rfl] at H; exact H
                                            clear H
                                            have H := H1
                                            clear H1
                                            simp only [Option.some.injEq, Prod.mk.injEq] at H
                                            obtain ⟨rfl, rfl⟩ := H
                                            go_wp2
                                            go_ret2
                                            exact ⟨by first | rfl | (simp [errW_none, errW_some] <;> rfl) | (simp [*, errW_none, errW_some] <;> rfl), by repeat (first | (with_reducible first | exact HB.out | apply below_alloc | apply pw_below_drewN | apply below_drew1) | exact HB.out)⟩
                                          · replace c52 := Bool.eq_false_iff.mpr c52
                                            subst c52
                                            have H1 : (some (0, false)) = some (r1, r2) := by rw [if_neg (show ¬ (false = true) by decide)] at H; exact H
                                            clear H
                                            have H := H1
                                            clear H1
                                            simp only [Option.some.injEq, Prod.mk.injEq] at H
                                            obtain ⟨rfl, rfl⟩ := H
                                            go_wp2
                                            go_ret2
                                            exact ⟨by first | rfl | (simp [errW_none, errW_some] <;> rfl) | (simp [*, errW_none, errW_some] <;> rfl), by repeat (first | (with_reducible first | exact HB.out | apply below_alloc | apply pw_below_drewN | apply below_drew1) | exact HB.out)⟩
                                        · rw [if_neg c51] at H
                                          have c51b0 : decide (x15_7 < 0) = false := decide_eq_false c51
                                          clear c51
                                          have H' := Aside0.mk H
                                          clear H
                                          go_wp2
                                          go_roundg k7
                                          case measure => have := HJ4.out; have := HJ10.out; have := HJ15.out; have := HK4.out; have := HJ20.out; have := HJ32.out; have := HK7.out; omega
                                          case rel => exact ⟨(x15_7), (true), (wrap64 (x14_4 + 1)), (by first | rfl | (simp; done) | (simp [*]; done)), (by first | rfl | (simp; done) | (simp [*]; done)), (by first | rfl | (simp; done) | (simp [*]; done)), H', ⟨by have := HJ4.out; have := HJ10.out; have := HJ15.out; have := HK4.out; have := HJ20.out; have := HJ32.out; have := HK7.out; omega⟩, ⟨by (with_reducible repeat (first | apply Kd.R_alloc | apply Kd.R_drewN | apply Kd.R_drew)); exact HO_11.out⟩, ⟨by (with_reducible repeat (first | apply Kd.R_alloc | apply Kd.R_drewN | apply Kd.R_drew)); exact HO_12.out⟩, ⟨by repeat (first | (with_reducible first | exact HB.out | apply below_alloc | apply pw_below_drewN | apply below_drew1) | exact HB.out)⟩⟩
                    · rw [if_neg c20] at H
                      have c20b0 : decide (x14_4 < x3_15) = false := decide_eq_false c20
                      clear c20
                      by_cases c53 : x13_4 = true
                      · subst c53
                        have H1 : (some (x1_4, true)) = some (r1, r2) := by rw [if_pos rfl] at H; exact H
                        clear H
                        have H := H1
                        clear H1
                        simp only [Option.some.injEq, Prod.mk.injEq] at H
                        obtain ⟨rfl, rfl⟩ := H
                        go_wp2
                        go_ret2
                        exact ⟨by first | rfl | (simp [errW_none, errW_some] <;> rfl) | (simp [*, errW_none, errW_some] <;> rfl), by repeat (first | (with_reducible first | exact HB.out | apply below_alloc | apply pw_below_drewN | apply below_drew1) | exact HB.out)⟩
                      · replace c53 := Bool.eq_false_iff.mpr c53
                        subst c53
                        have H1 : (some (0, false)) = some (r1, r2) := by rw [if_neg (show ¬ (false = true) by decide)] at H; exact H
                        clear H
                        have H := H1
                        clear H1
                        simp only [Option.some.injEq, Prod.mk.injEq] at H
                        obtain ⟨rfl, rfl⟩ := H
                        go_wp2
                        go_ret2
                        exact ⟨by first | rfl | (simp [errW_none, errW_some] <;> rfl) | (simp [*, errW_none, errW_some] <;> rfl), by repeat (first | (with_reducible first | exact HB.out | apply below_alloc | apply pw_below_drewN | apply below_drew1) | exact HB.out)⟩

end Go.Proofs.Ythjlhbblflmajaa.Q
-- Printed by this work's xp.py out of the translation. Lean checks it.
namespace Go.Proofs.Ythjlhbblflmajaa.Q
open Go.RowKit Go.Proofs.YthjlhbblflmajaaW.PrintWords Go.Proofs.YthjlhbblflmajaaW.PrintLast Go.Proofs.YthjlhbblflmajaaW.PrintMore
attribute [local go_sem] max2_int min2_int max_two min_two max_three min_three max_four min_four   -- for this text's walks alone
set_option linter.unusedVariables false
set_option linter.unusedSimpArgs false


/-! ### calamuslaw15_HopGoes -/
def calamuslaw15_HopGoes.j0 : Nat → ByteArray → Int → ByteArray → Int → Bool → Option (Bool)
  | 0, _, _, _, _, _ => none
  | k + 1, x0, x1, x2, x3, x19 => if x19 = true then ((calamuslaw15_lives.f k).bind fun t276 => (some t276)) else ((hop_Go.f k x0 x1 x2 x3).bind fun bt277 => ((calamusref15_Go.f k x0 x1 x2 x3).bind fun bt279 => (if bt277.1 = bt279.1 then (if (bt277.2 == bt279.2) = true then ((hop_Has.f k x2).bind fun t281 => ((calamusref15_Has.f x2).bind fun t282 => (if (t281 == t282) = true then ((calamuslaw15_lives.f k).bind fun t283 => (some t283)) else (some false)))) else (some false)) else (some false))))
def calamuslaw15_HopGoes.f (k : Nat) (a0 : ByteArray) (a1 : Int) (a2 : ByteArray) (a3 : Int) : Option (Bool) := if (a0.size : Int) > 150 then (calamuslaw15_HopGoes.j0 k a0 a1 a2 a3 true) else (calamuslaw15_HopGoes.j0 k a0 a1 a2 a3 (decide (a3 > 200)))
theorem calamuslaw15_HopGoes.mono_l : ∀ k, (∀ y0 y1 y2 y3 y4, LeO (calamuslaw15_HopGoes.j0 k y0 y1 y2 y3 y4) (calamuslaw15_HopGoes.j0 (k + 1) y0 y1 y2 y3 y4))
  | 0 => fun _ _ _ _ _ r h => by simp [calamuslaw15_HopGoes.j0] at h
  | k + 1 => by
    have ih0 := calamuslaw15_HopGoes.mono_l k
    · intro y0 y1 y2 y3 y4
      unfold calamuslaw15_HopGoes.j0
      repeat' first
      | (with_reducible exact ih0 _ _ _ _ _)
      | (with_reducible exact calamuslaw15_lives.mono _)
      | (with_reducible exact calamusref15_Go.mono _ _ _ _ _)
      | (with_reducible exact hop_Go.mono _ _ _ _ _)
      | (with_reducible exact hop_Has.mono _ _)
      | (with_reducible exact LeO.refl _)
      | (with_reducible exact LeO.none _)
      | (with_reducible refine LeO.ite ?_ ?_)
      | (with_reducible refine LeO.bind ?_ (fun _ => ?_))
      | exact ih0 _ _ _ _ _
      | exact calamuslaw15_lives.mono _
      | exact calamusref15_Go.mono _ _ _ _ _
      | exact hop_Go.mono _ _ _ _ _
      | exact hop_Has.mono _ _
      | exact LeO.none _
      | refine LeO.ite ?_ ?_
      | refine LeO.bind ?_ (fun _ => ?_)
theorem calamuslaw15_HopGoes.mono : ∀ a0 a1 a2 a3 k, LeO (calamuslaw15_HopGoes.f k a0 a1 a2 a3) (calamuslaw15_HopGoes.f (k + 1) a0 a1 a2 a3) := by
  intro a0 a1 a2 a3 k
  have ih0 := calamuslaw15_HopGoes.mono_l k
  unfold calamuslaw15_HopGoes.f
  repeat' first
      | (with_reducible exact ih0 _ _ _ _ _)
      | (with_reducible exact calamuslaw15_lives.mono _)
      | (with_reducible exact calamusref15_Go.mono _ _ _ _ _)
      | (with_reducible exact hop_Go.mono _ _ _ _ _)
      | (with_reducible exact hop_Has.mono _ _)
      | (with_reducible exact LeO.refl _)
      | (with_reducible exact LeO.none _)
      | (with_reducible refine LeO.ite ?_ ?_)
      | (with_reducible refine LeO.bind ?_ (fun _ => ?_))
      | exact ih0 _ _ _ _ _
      | exact calamuslaw15_lives.mono _
      | exact calamusref15_Go.mono _ _ _ _ _
      | exact hop_Go.mono _ _ _ _ _
      | exact hop_Has.mono _ _
      | exact LeO.none _
      | refine LeO.ite ?_ ?_
      | refine LeO.bind ?_ (fun _ => ?_)
set_option maxHeartbeats 8000000 in
set_option maxRecDepth 100000 in
theorem calamuslaw15_HopGoes.calls (k : Nat) (a0 : ByteArray) (a1 : Int) (a2 : ByteArray) (a3 : Int) (r : Bool) (w : World) (h : calamuslaw15_HopGoes.f k a0 a1 a2 a3 = some r) :
    Calls Try.prog 11 #[.string a0, .int .i64 a1, .string a2, .int .i64 a3] w fun e w' => e = .returned (.bool r) ∧ Below w.heap.size w w' := by
  have HB := Aside0.mk (Below.refl w.heap.size w)
  have H : (if (a0.size : Int) > 150 then (calamuslaw15_HopGoes.j0 k a0 a1 a2 a3 true) else (calamuslaw15_HopGoes.j0 k a0 a1 a2 a3 (decide (a3 > 200)))) = some r := h
  clear h
  have HC5 := Aside0.mk H
  clear H
  go_enter Try.func11, Try.ntmps11
  go_upto_region 1 with (fail)
  go_cut [19] (fun v19 wc => ∃ (kq : Nat) (x19_4 : Bool), v19 = .bool x19_4 ∧ Aside0 (calamuslaw15_HopGoes.j0 kq a0 a1 a2 a3 x19_4 = some r) ∧ Aside0 (kq ≤ k) ∧ Aside0 (Below w.heap.size w wc))
  case first =>
    have H := HC5.out
    clear HC5
    by_cases c6 : (a0.size : Int) > 150
    · rw [if_pos c6] at H
      have c6b0 : decide (150 < (a0.size : Int)) = true := decide_eq_true c6
      have c6b1 : decide (150 < a0.size) = true := decide_eq_true (by omega)
      clear c6
      (first | rw [c6b0] | (simp only [i64_w, i32_w]; rw [c6b0]) | skip)
      have H' := Aside0.mk H
      clear H
      go_wp2
      go_meet
      case rel => exact ⟨_, (true), (by first | rfl | (simp; done) | (simp [*]; done)), H', ⟨by first | omega | exact Nat.le_refl _⟩, ⟨by repeat (first | (with_reducible first | exact HB.out | apply below_alloc | apply pw_below_drewN | apply below_drew1) | exact HB.out)⟩⟩
    · rw [if_neg c6] at H
      have c6b0 : decide (150 < (a0.size : Int)) = false := decide_eq_false c6
      have c6b1 : decide (150 < a0.size) = false := decide_eq_false (by omega)
      clear c6
      (first | rw [c6b0] | (simp only [i64_w, i32_w]; rw [c6b0]) | skip)
      have H' := Aside0.mk H
      clear H
      go_wp2
      go_meet
      case rel => exact ⟨_, (decide (a3 > 200)), (by first | rfl | (simp; done) | (simp [*]; done)), H', ⟨by first | omega | exact Nat.le_refl _⟩, ⟨by repeat (first | (with_reducible first | exact HB.out | apply below_alloc | apply pw_below_drewN | apply below_drew1) | exact HB.out)⟩⟩
  case rest =>
    clear HC5
    try clear c1
    try clear p2
    try clear c6
    try clear c6b0
    try clear c6b1
    obtain ⟨kq, x19_4, rfl, HA, HJ4, HB⟩ := hcut
    cases kq with
    | zero => exact absurd HA.out (by simp [calamuslaw15_HopGoes.j0])
    | succ kj4 =>
      have H := HA.out
      clear HA
      simp only [calamuslaw15_HopGoes.j0] at H
      by_cases c7 : x19_4 = true
      · subst c7
        have H1 : ((calamuslaw15_lives.f kj4).bind fun t276 => (some t276)) = some r := by rw [if_pos rfl] at H; exact H
        clear H
        have H := H1
        clear H1
        replace H := Option.bind_eq_some_iff.mp H
        obtain ⟨t276, A80, H⟩ := H
        replace H : (some t276) = some r := H
        have A8 := Aside0.mk A80
        clear A80
        obtain rfl := Option.some.inj H
        go_wp2_with (first | ((with_reducible refine gate_callee (f := 36) rfl ?_); refine goesL_ (some 20) rfl rfl Try.func36 (by kernel_rfl) rfl #[] rfl (by (try simp only [List.map_toArray, List.map_cons, List.map_nil]); first | done | rfl | (simp only [List.length_drop, List.length_take]; rfl)) ?_; (with_reducible refine (calamuslaw15_lives.calls kj4  t276 _ A8.out).mono ?_); rintro e w9 ⟨rfl, hb⟩; refine ⟨_, rfl, ?_⟩; have n0_ := Aside0.mk (below_step (by repeat (first | (with_reducible first | exact HB.out | apply below_alloc | apply pw_below_drewN | apply below_drew1) | exact HB.out)) hb); clear HB; have HB := n0_; clear n0_; (try clear hb); (try clear hb2); (try clear hk); (try clear hi)))
        go_ret
        exact ⟨by first | rfl | (simp [errW_none, errW_some] <;> rfl) | (simp [*, errW_none, errW_some] <;> rfl), by repeat (first | (with_reducible first | exact HB.out | apply below_alloc | apply pw_below_drewN | apply below_drew1) | exact HB.out)⟩
      · replace c7 := Bool.eq_false_iff.mpr c7
        subst c7
        have H1 : ((hop_Go.f kj4 a0 a1 a2 a3).bind fun bt277 => ((calamusref15_Go.f kj4 a0 a1 a2 a3).bind fun bt279 => (if bt277.1 = bt279.1 then (if (bt277.2 == bt279.2) = true then ((hop_Has.f kj4 a2).bind fun t281 => ((calamusref15_Has.f a2).bind fun t282 => (if (t281 == t282) = true then ((calamuslaw15_lives.f kj4).bind fun t283 => (some t283)) else (some false)))) else (some false)) else (some false)))) = some r := by rw [if_neg (show ¬ (false = true) by decide)] at H; exact H
        clear H
        have H := H1
        clear H1
        replace H := Option.bind_eq_some_iff.mp H
        obtain ⟨⟨t277, t278⟩, A100, H⟩ := H
        replace H : ((calamusref15_Go.f kj4 a0 a1 a2 a3).bind fun bt279 => (if t277 = bt279.1 then (if (t278 == bt279.2) = true then ((hop_Has.f kj4 a2).bind fun t281 => ((calamusref15_Has.f a2).bind fun t282 => (if (t281 == t282) = true then ((calamuslaw15_lives.f kj4).bind fun t283 => (some t283)) else (some false)))) else (some false)) else (some false))) = some r := H
        have A10 := Aside0.mk A100
        clear A100
        replace H := Option.bind_eq_some_iff.mp H
        obtain ⟨⟨t279, t280⟩, A110, H⟩ := H
        replace H : (if t277 = t279 then (if (t278 == t280) = true then ((hop_Has.f kj4 a2).bind fun t281 => ((calamusref15_Has.f a2).bind fun t282 => (if (t281 == t282) = true then ((calamuslaw15_lives.f kj4).bind fun t283 => (some t283)) else (some false)))) else (some false)) else (some false)) = some r := H
        have A11 := Aside0.mk A110
        clear A110
        by_cases c12 : t277 = t279
        · rw [if_pos c12] at H
          have c12b0 : (t277 == t279) = true := beq_iff_eq.mpr c12
          have c12b1 : (t277 != t279) = false := bne_eq_false_iff_eq.mpr c12
          clear c12
          by_cases c13 : (t278 == t280) = true
          · rw [if_pos c13] at H
            have c13b0 : (t278 == t280) = true := c13
            (try (have c13b1 : decide (t278 = t280) = true := by simpa using c13))
            (try (have c13b2 : (t278 == t280) = true := by simpa using c13))
            clear c13
            replace H := Option.bind_eq_some_iff.mp H
            obtain ⟨t281, A140, H⟩ := H
            replace H : ((calamusref15_Has.f a2).bind fun t282 => (if (t281 == t282) = true then ((calamuslaw15_lives.f kj4).bind fun t283 => (some t283)) else (some false))) = some r := H
            have A14 := Aside0.mk A140
            clear A140
            replace H := Option.bind_eq_some_iff.mp H
            obtain ⟨t282, A150, H⟩ := H
            replace H : (if (t281 == t282) = true then ((calamuslaw15_lives.f kj4).bind fun t283 => (some t283)) else (some false)) = some r := H
            have A15 := Aside0.mk A150
            clear A150
            by_cases c16 : (t281 == t282) = true
            · rw [if_pos c16] at H
              have c16b0 : (t281 == t282) = true := c16
              (try (have c16b1 : decide (t281 = t282) = true := by simpa using c16))
              (try (have c16b2 : (t281 == t282) = true := by simpa using c16))
              clear c16
              replace H := Option.bind_eq_some_iff.mp H
              obtain ⟨t283, A170, H⟩ := H
              replace H : (some t283) = some r := H
              have A17 := Aside0.mk A170
              clear A170
              obtain rfl := Option.some.inj H
              go_wp2_with (first | ((with_reducible refine gate_callee (f := 41) rfl ?_); refine goesL_ (some 26) rfl rfl Try.func41 (by kernel_rfl) rfl #[.string a0, .int .i64 a1, .string a2, .int .i64 a3] rfl (by (try simp only [List.map_toArray, List.map_cons, List.map_nil]); first | done | rfl | (simp only [List.length_drop, List.length_take]; rfl)) ?_; (with_reducible refine (hop_Go.calls kj4 a0 a1 a2 a3 t277 t278 _ A10.out).mono ?_); rintro e w18 ⟨rfl, hb⟩; refine ⟨_, rfl, ?_⟩; have n0_ := Aside0.mk (below_step (by repeat (first | (with_reducible first | exact HB.out | apply below_alloc | apply pw_below_drewN | apply below_drew1) | exact HB.out)) hb); clear HB; have HB := n0_; clear n0_; (try clear hb); (try clear hb2); (try clear hk); (try clear hi)) | ((with_reducible refine gate_callee (f := 42) rfl ?_); refine goesL_ (some 34) rfl rfl Try.func42 (by kernel_rfl) rfl #[.string a0, .int .i64 a1, .string a2, .int .i64 a3] rfl (by (try simp only [List.map_toArray, List.map_cons, List.map_nil]); first | done | rfl | (simp only [List.length_drop, List.length_take]; rfl)) ?_; (with_reducible refine (calamusref15_Go.calls kj4 a0 a1 a2 a3 t279 t280 _ A11.out).mono ?_); rintro e w19 ⟨rfl, hb⟩; refine ⟨_, rfl, ?_⟩; have n0_ := Aside0.mk (below_step (by repeat (first | (with_reducible first | exact HB.out | apply below_alloc | apply pw_below_drewN | apply below_drew1) | exact HB.out)) hb); clear HB; have HB := n0_; clear n0_; (try clear hb); (try clear hb2); (try clear hk); (try clear hi)) | (go_at_call 43; (with_reducible refine (hop_Has.calls kj4 a2 t281 _ A14.out).mono ?_); rintro e w20 ⟨rfl, hb⟩; have n0_ := Aside0.mk (below_step (by repeat (first | (with_reducible first | exact HB.out | apply below_alloc | apply pw_below_drewN | apply below_drew1) | exact HB.out)) hb); clear HB; have HB := n0_; clear n0_; (try clear hb); (try clear hb2); (try clear hk); (try clear hi)) | (go_at_call 44; (with_reducible refine (calamusref15_Has.calls a2 t282 _ A15.out).mono ?_); rintro e w' ⟨rfl, ⟨nd, rfl⟩⟩) | (go_at_call 36; (with_reducible refine (calamuslaw15_lives.calls kj4  t283 _ A17.out).mono ?_); rintro e w21 ⟨rfl, hb⟩; have n0_ := Aside0.mk (below_step (by repeat (first | (with_reducible first | exact HB.out | apply below_alloc | apply pw_below_drewN | apply below_drew1) | exact HB.out)) hb); clear HB; have HB := n0_; clear n0_; (try clear hb); (try clear hb2); (try clear hk); (try clear hi)))
              go_ret
              exact ⟨by first | rfl | (simp [errW_none, errW_some] <;> rfl) | (simp [*, errW_none, errW_some] <;> rfl), by repeat (first | (with_reducible first | exact HB.out | apply below_alloc | apply pw_below_drewN | apply below_drew1) | exact HB.out)⟩
            · rw [if_neg c16] at H
              have c16b0 : (t281 == t282) = false := by simpa using c16
              (try (have c16b1 : decide (t281 = t282) = false := by simpa using c16))
              (try (have c16b2 : (t281 == t282) = false := by simpa using c16))
              (try (have c16b3 : ¬ (t281 = t282) := by simpa using c16))
              clear c16
              obtain rfl := Option.some.inj H
              go_wp2_with (first | ((with_reducible refine gate_callee (f := 41) rfl ?_); refine goesL_ (some 26) rfl rfl Try.func41 (by kernel_rfl) rfl #[.string a0, .int .i64 a1, .string a2, .int .i64 a3] rfl (by (try simp only [List.map_toArray, List.map_cons, List.map_nil]); first | done | rfl | (simp only [List.length_drop, List.length_take]; rfl)) ?_; (with_reducible refine (hop_Go.calls kj4 a0 a1 a2 a3 t277 t278 _ A10.out).mono ?_); rintro e w22 ⟨rfl, hb⟩; refine ⟨_, rfl, ?_⟩; have n0_ := Aside0.mk (below_step (by repeat (first | (with_reducible first | exact HB.out | apply below_alloc | apply pw_below_drewN | apply below_drew1) | exact HB.out)) hb); clear HB; have HB := n0_; clear n0_; (try clear hb); (try clear hb2); (try clear hk); (try clear hi)) | ((with_reducible refine gate_callee (f := 42) rfl ?_); refine goesL_ (some 34) rfl rfl Try.func42 (by kernel_rfl) rfl #[.string a0, .int .i64 a1, .string a2, .int .i64 a3] rfl (by (try simp only [List.map_toArray, List.map_cons, List.map_nil]); first | done | rfl | (simp only [List.length_drop, List.length_take]; rfl)) ?_; (with_reducible refine (calamusref15_Go.calls kj4 a0 a1 a2 a3 t279 t280 _ A11.out).mono ?_); rintro e w23 ⟨rfl, hb⟩; refine ⟨_, rfl, ?_⟩; have n0_ := Aside0.mk (below_step (by repeat (first | (with_reducible first | exact HB.out | apply below_alloc | apply pw_below_drewN | apply below_drew1) | exact HB.out)) hb); clear HB; have HB := n0_; clear n0_; (try clear hb); (try clear hb2); (try clear hk); (try clear hi)) | (go_at_call 43; (with_reducible refine (hop_Has.calls kj4 a2 t281 _ A14.out).mono ?_); rintro e w24 ⟨rfl, hb⟩; have n0_ := Aside0.mk (below_step (by repeat (first | (with_reducible first | exact HB.out | apply below_alloc | apply pw_below_drewN | apply below_drew1) | exact HB.out)) hb); clear HB; have HB := n0_; clear n0_; (try clear hb); (try clear hb2); (try clear hk); (try clear hi)) | (go_at_call 44; (with_reducible refine (calamusref15_Has.calls a2 t282 _ A15.out).mono ?_); rintro e w' ⟨rfl, ⟨nd, rfl⟩⟩))
              go_ret
              exact ⟨by first | rfl | (simp [errW_none, errW_some] <;> rfl) | (simp [*, errW_none, errW_some] <;> rfl), by repeat (first | (with_reducible first | exact HB.out | apply below_alloc | apply pw_below_drewN | apply below_drew1) | exact HB.out)⟩
          · rw [if_neg c13] at H
            have c13b0 : (t278 == t280) = false := by simpa using c13
            (try (have c13b1 : decide (t278 = t280) = false := by simpa using c13))
            (try (have c13b2 : (t278 == t280) = false := by simpa using c13))
            (try (have c13b3 : ¬ (t278 = t280) := by simpa using c13))
            clear c13
            obtain rfl := Option.some.inj H
            go_wp2_with (first | ((with_reducible refine gate_callee (f := 41) rfl ?_); refine goesL_ (some 26) rfl rfl Try.func41 (by kernel_rfl) rfl #[.string a0, .int .i64 a1, .string a2, .int .i64 a3] rfl (by (try simp only [List.map_toArray, List.map_cons, List.map_nil]); first | done | rfl | (simp only [List.length_drop, List.length_take]; rfl)) ?_; (with_reducible refine (hop_Go.calls kj4 a0 a1 a2 a3 t277 t278 _ A10.out).mono ?_); rintro e w25 ⟨rfl, hb⟩; refine ⟨_, rfl, ?_⟩; have n0_ := Aside0.mk (below_step (by repeat (first | (with_reducible first | exact HB.out | apply below_alloc | apply pw_below_drewN | apply below_drew1) | exact HB.out)) hb); clear HB; have HB := n0_; clear n0_; (try clear hb); (try clear hb2); (try clear hk); (try clear hi)) | ((with_reducible refine gate_callee (f := 42) rfl ?_); refine goesL_ (some 34) rfl rfl Try.func42 (by kernel_rfl) rfl #[.string a0, .int .i64 a1, .string a2, .int .i64 a3] rfl (by (try simp only [List.map_toArray, List.map_cons, List.map_nil]); first | done | rfl | (simp only [List.length_drop, List.length_take]; rfl)) ?_; (with_reducible refine (calamusref15_Go.calls kj4 a0 a1 a2 a3 t279 t280 _ A11.out).mono ?_); rintro e w26 ⟨rfl, hb⟩; refine ⟨_, rfl, ?_⟩; have n0_ := Aside0.mk (below_step (by repeat (first | (with_reducible first | exact HB.out | apply below_alloc | apply pw_below_drewN | apply below_drew1) | exact HB.out)) hb); clear HB; have HB := n0_; clear n0_; (try clear hb); (try clear hb2); (try clear hk); (try clear hi)))
            go_ret
            exact ⟨by first | rfl | (simp [errW_none, errW_some] <;> rfl) | (simp [*, errW_none, errW_some] <;> rfl), by repeat (first | (with_reducible first | exact HB.out | apply below_alloc | apply pw_below_drewN | apply below_drew1) | exact HB.out)⟩
        · rw [if_neg c12] at H
          have c12b0 : (t277 == t279) = false := beq_eq_false_iff_ne.mpr c12
          have c12b1 : (t277 != t279) = true := bne_iff_ne.mpr c12
          obtain rfl := Option.some.inj H
          go_wp2_with (first | ((with_reducible refine gate_callee (f := 41) rfl ?_); refine goesL_ (some 26) rfl rfl Try.func41 (by kernel_rfl) rfl #[.string a0, .int .i64 a1, .string a2, .int .i64 a3] rfl (by (try simp only [List.map_toArray, List.map_cons, List.map_nil]); first | done | rfl | (simp only [List.length_drop, List.length_take]; rfl)) ?_; (with_reducible refine (hop_Go.calls kj4 a0 a1 a2 a3 t277 t278 _ A10.out).mono ?_); rintro e w27 ⟨rfl, hb⟩; refine ⟨_, rfl, ?_⟩; have n0_ := Aside0.mk (below_step (by repeat (first | (with_reducible first | exact HB.out | apply below_alloc | apply pw_below_drewN | apply below_drew1) | exact HB.out)) hb); clear HB; have HB := n0_; clear n0_; (try clear hb); (try clear hb2); (try clear hk); (try clear hi)) | ((with_reducible refine gate_callee (f := 42) rfl ?_); refine goesL_ (some 34) rfl rfl Try.func42 (by kernel_rfl) rfl #[.string a0, .int .i64 a1, .string a2, .int .i64 a3] rfl (by (try simp only [List.map_toArray, List.map_cons, List.map_nil]); first | done | rfl | (simp only [List.length_drop, List.length_take]; rfl)) ?_; (with_reducible refine (calamusref15_Go.calls kj4 a0 a1 a2 a3 t279 t280 _ A11.out).mono ?_); rintro e w28 ⟨rfl, hb⟩; refine ⟨_, rfl, ?_⟩; have n0_ := Aside0.mk (below_step (by repeat (first | (with_reducible first | exact HB.out | apply below_alloc | apply pw_below_drewN | apply below_drew1) | exact HB.out)) hb); clear HB; have HB := n0_; clear n0_; (try clear hb); (try clear hb2); (try clear hk); (try clear hi)))
          go_ret
          exact ⟨by first | rfl | (simp [errW_none, errW_some] <;> rfl) | (simp [*, errW_none, errW_some] <;> rfl), by repeat (first | (with_reducible first | exact HB.out | apply below_alloc | apply pw_below_drewN | apply below_drew1) | exact HB.out)⟩

def calamuslaw15_HopGoes.Pure : Prop := ∀ (a0 : ByteArray) (a1 : Int) (a2 : ByteArray) (a3 : Int), a0.size ≤ 140737488351232 → (Lit.int .i64 a1).wf = true → a2.size ≤ 140737488351232 → (Lit.int .i64 a3).wf = true → ∃ k, calamuslaw15_HopGoes.f k a0 a1 a2 a3 = some true
theorem calamuslaw15_HopGoes.walk (P : calamuslaw15_HopGoes.Pure) (a0 : ByteArray) (a1 : Int) (a2 : ByteArray) (a3 : Int) (w : World) (w0 : a0.size ≤ 140737488351232) (w1 : (Lit.int .i64 a1).wf = true) (w2 : a2.size ≤ 140737488351232) (w3 : (Lit.int .i64 a3).wf = true) :
    Calls Try.prog 11 #[.string a0, .int .i64 a1, .string a2, .int .i64 a3] w fun e w' => e = .returned (.bool true) ∧ Below w.heap.size w w' := by
  obtain ⟨k, h⟩ := P a0 a1 a2 a3 w0 w1 w2 w3
  refine (calamuslaw15_HopGoes.calls k a0 a1 a2 a3 true w h).mono ?_
  rintro e w' ⟨rfl, hd⟩
  exact ⟨rfl, hd⟩


end Go.Proofs.Ythjlhbblflmajaa.Q
/- The document's motions by words (calamusref15.Go); the statement HopGoes. -/
namespace Go.Proofs.Ythjlhbblflmajaa
open Go.RowKit
set_option linter.unusedVariables false
set_option linter.unusedSimpArgs false
open Go.RowKit Go.Proofs.Ythjlhbblflmajaa.Q Go.Proofs.YthjlhbblflmajaaW.PrintWords Go.Proofs.YthjlhbblflmajaaW.PrintMore
def restR (t : ByteArray) (p : Int) (key : ByteArray) (n : Int) (st en : List Int) (moved : Bool) (i : Int) (m : Nat) (u : Int) : Option (Int × Bool) :=
  if u < 0 then (if moved = true then some (p, true) else some (0, false)) else calamusref15_Go.l0 m t u key n st en true (wrap64 (i + 1))
theorem r15_l1 {st : List Int} (hs : st.Pairwise (· < ·)) (hn : st.length ≤ 1099511627776) (t : ByteArray) (p : Int) (hp : p < 9223372036854775807) (key : ByteArray) (n : Int) (en : List Int) (moved : Bool) (i : Int) (R : Int × Bool) : ∀ (k : Nat) (u : Int), k ≤ st.length →
    Ev (fun m => restR t p key n st en moved i m (if lessN st (p + 1) < k then st.getD (lessN st (p + 1)) 0 else u)) R → Ev (fun m => calamusref15_Go.l1 m t p key n st en moved i u ((k : Int) - 1)) R := by
  intro k
  induction k with
  | zero =>
    intro u hk h
    refine Ev.step (fun _ => (by rw [calamusref15_Go.l1])) ?_
    refine Ev.neg (by omega) ?_
    rw [if_neg (by omega)] at h; exact h
  | succ k ih =>
    intro u hk h
    refine Ev.step (fun _ => (by rw [calamusref15_Go.l1])) ?_
    have e : ((k + 1 : Nat) : Int) - 1 = k := by omega
    rw [e]
    refine Ev.pos (by omega) (Ev.pos (by omega) (Ev.pos (by omega) ?_))
    rw [rd_nat st k (by omega), w64 (n := (k : Int) - 1) (by omega) (by omega)]
    have hlt := less_iff hs (p + 1) k (by omega)
    refine Ev.ite (fun hc => ?_) (fun hc => ?_)
    · refine ih _ (by omega) ?_
      have hq : ¬ k < lessN st (p + 1) := fun h => by have := hlt.2 h; omega
      rw [if_pos (by omega)] at h
      by_cases h5 : lessN st (p + 1) < k
      · rw [if_pos h5]; exact h
      · rw [if_neg h5]
        have : lessN st (p + 1) = k := by omega
        rw [this, getD_at st k (by omega)] at h; exact h
    · refine ih _ (by omega) ?_
      have hq : k < lessN st (p + 1) := hlt.1 (by omega)
      rw [if_neg (by omega)] at h
      rw [if_neg (by omega)]; exact h
theorem r15_l3 {en : List Int} (hs : en.Pairwise (· < ·)) (hn : en.length ≤ 1099511627776) (t : ByteArray) (p : Int) (hp : p < 9223372036854775807) (key : ByteArray) (n : Int) (st : List Int) (moved : Bool) (i : Int) (R : Int × Bool) : ∀ (k : Nat) (u : Int), k ≤ en.length →
    Ev (fun m => restR t p key n st en moved i m (if lessN en (p + 1) < k then en.getD (lessN en (p + 1)) 0 else u)) R → Ev (fun m => calamusref15_Go.l3 m t p key n st en moved i u ((k : Int) - 1)) R := by
  intro k
  induction k with
  | zero =>
    intro u hk h
    refine Ev.step (fun _ => (by rw [calamusref15_Go.l3])) ?_
    refine Ev.neg (by omega) ?_
    rw [if_neg (by omega)] at h; exact h
  | succ k ih =>
    intro u hk h
    refine Ev.step (fun _ => (by rw [calamusref15_Go.l3])) ?_
    have e : ((k + 1 : Nat) : Int) - 1 = k := by omega
    rw [e]
    refine Ev.pos (by omega) (Ev.pos (by omega) (Ev.pos (by omega) ?_))
    rw [rd_nat en k (by omega), w64 (n := (k : Int) - 1) (by omega) (by omega)]
    have hlt := less_iff hs (p + 1) k (by omega)
    refine Ev.ite (fun hc => ?_) (fun hc => ?_)
    · refine ih _ (by omega) ?_
      have hq : ¬ k < lessN en (p + 1) := fun h => by have := hlt.2 h; omega
      rw [if_pos (by omega)] at h
      by_cases h5 : lessN en (p + 1) < k
      · rw [if_pos h5]; exact h
      · rw [if_neg h5]
        have : lessN en (p + 1) = k := by omega
        rw [this, getD_at en k (by omega)] at h; exact h
    · refine ih _ (by omega) ?_
      have hq : k < lessN en (p + 1) := hlt.1 (by omega)
      rw [if_neg (by omega)] at h
      rw [if_neg (by omega)]; exact h
theorem r15_l2 {st : List Int} (hs : st.Pairwise (· < ·)) (hn : st.length ≤ 1099511627776) (t : ByteArray) (p : Int) (key : ByteArray) (n : Int) (en : List Int) (moved : Bool) (i : Int) (R : Int × Bool) : ∀ (d k : Nat) (u : Int), st.length - k ≤ d → k ≤ st.length →
    Ev (fun m => restR t p key n st en moved i m (if lessN st p ≤ k then u else st.getD (lessN st p - 1) 0)) R → Ev (fun m => calamusref15_Go.l2 m t p key n st en moved i u k) R := by
  intro d
  induction d with
  | zero =>
    intro k u hd hk h
    have := lessN_le st p
    refine Ev.step (fun _ => (by rw [calamusref15_Go.l2])) ?_
    refine Ev.neg (by omega) ?_
    rw [if_pos (by omega)] at h; exact h
  | succ d ih =>
    intro k u hd hk h
    by_cases he : k = st.length
    · exact ih k u (by omega) hk h
    · refine Ev.step (fun _ => (by rw [calamusref15_Go.l2])) ?_
      refine Ev.pos (by omega) (Ev.pos (by omega) ?_)
      rw [rd_nat st k (by omega), w64 (n := (k : Int) + 1) (by omega) (by omega)]
      have hlt := less_iff hs p k (by omega)
      refine Ev.ite (fun hp => ?_) (fun hp => ?_)
      · refine ih (k + 1) _ (by omega) (by omega) ?_
        have hp' := hlt.1 hp
        rw [if_neg (by omega)] at h
        by_cases h5 : lessN st p ≤ k + 1
        · rw [if_pos h5]
          have : lessN st p - 1 = k := by omega
          rw [this, getD_at st k (by omega)] at h
          exact h
        · rw [if_neg h5]; exact h
      · refine ih (k + 1) _ (by omega) (by omega) ?_
        have hp' : ¬ k < lessN st p := fun h => hp (hlt.2 h)
        rw [if_pos (by omega)] at h
        rw [if_pos (by omega)]; exact h
theorem r15_step (t : ByteArray) (ht : t.size ≤ 1000000) (big : Bool) (p : Int) (hp : 0 ≤ p ∧ p ≤ t.size) (key : ByteArray) (hk : hasK key = true) (n : Int) (moved : Bool) (i : Int) (hi : i < n) (R : Int × Bool)
    (h : Ev (fun m => restR t p key n (startsI (ls t) big) (endsI (ls t) big) moved i m ((stepH (ls t) (kdK key) big p).getD (-1))) R) :
    Ev (fun k => calamusref15_Go.l0 k t p key n (startsI (ls t) big) (endsI (ls t) big) moved i) R := by
  have hl := startsI_len (ls t) big
  have hs := starts_rise (ls t) big
  have hl2 := endsI_len (ls t) big
  have hs2 := ends_rise (ls t) big
  rw [ls_len] at hl hl2
  unfold stepH at h
  rw [ls_len] at h
  generalize startsI (ls t) big = st at *
  generalize endsI (ls t) big = en at *
  have kw : ∀ x, Ev (fun m => restR t p key n st en moved i m ((stW st t.size p).getD (-1))) R → Ev (fun k => calamusref15_Go.j4 k t p key n st en moved i (-1) x true) R := by
    intro x h
    have hc := lessN_le st (p + 1)
    refine Ev.step (fun _ => (by rw [calamusref15_Go.j4])) ?_
    refine Ev.pos rfl (Ev.ite (fun hlt => ?_) (fun hlt => ?_))
    · refine Ev.step (fun _ => (by rw [calamusref15_Go.j5])) ?_
      rw [w64 (n := (st.length : Int) - 1) (by omega) (by omega)]
      refine r15_l1 hs (by omega) t p (by omega) key n en moved i R st.length _ (Nat.le_refl _) ?_
      have e : (stW st t.size p).getD (-1) = if lessN st (p + 1) < st.length then st.getD (lessN st (p + 1)) 0 else (t.size : Int) := by
        unfold stW
        by_cases hq : lessN st (p + 1) < st.length
        · rw [if_pos hq, if_pos hq]; rfl
        · rw [if_neg hq, if_neg hq, if_pos hlt]; rfl
      rw [← e]; exact h
    · refine Ev.step (fun _ => (by rw [calamusref15_Go.j5])) ?_
      rw [w64 (n := (st.length : Int) - 1) (by omega) (by omega)]
      refine r15_l1 hs (by omega) t p (by omega) key n en moved i R st.length _ (Nat.le_refl _) ?_
      have e : (stW st t.size p).getD (-1) = if lessN st (p + 1) < st.length then st.getD (lessN st (p + 1)) 0 else (-1 : Int) := by
        unfold stW
        by_cases hq : lessN st (p + 1) < st.length
        · rw [if_pos hq, if_pos hq]; rfl
        · rw [if_neg hq, if_neg hq, if_neg hlt]; rfl
      rw [← e]; exact h
  have kb : Ev (fun m => restR t p key n st en moved i m ((stB st p).getD (-1))) R → Ev (fun k => calamusref15_Go.j7 k t p key n st en moved i (-1) true) R := by
    intro h
    refine Ev.step (fun _ => (by rw [calamusref15_Go.j7])) ?_
    refine Ev.pos rfl ?_
    refine r15_l2 hs (by omega) t p key n en moved i R st.length 0 (-1) (by omega) (by omega) ?_
    have e : (stB st p).getD (-1) = if lessN st p ≤ 0 then (-1 : Int) else st.getD (lessN st p - 1) 0 := by
      unfold stB
      by_cases h0 : lessN st p = 0
      · rw [if_pos h0, if_pos (by omega)]; rfl
      · rw [if_neg h0, if_neg (by omega)]; rfl
    rw [← e]; exact h
  have ke : Ev (fun m => restR t p key n st en moved i m ((stE en p).getD (-1))) R → Ev (fun k => calamusref15_Go.j7 k t p key n st en moved i (-1) false) R := by
    intro h
    have hc := lessN_le en (p + 1)
    refine Ev.step (fun _ => (by rw [calamusref15_Go.j7])) ?_
    refine Ev.neg (by decide) ?_
    rw [w64 (n := (en.length : Int) - 1) (by omega) (by omega)]
    refine r15_l3 hs2 (by omega) t p (by omega) key n st moved i R en.length _ (Nat.le_refl _) ?_
    have e : (stE en p).getD (-1) = if lessN en (p + 1) < en.length then en.getD (lessN en (p + 1)) 0 else (-1 : Int) := by
      unfold stE; split <;> rfl
    rw [← e]; exact h
  refine Ev.step (fun _ => (by rw [calamusref15_Go.l0])) ?_
  refine Ev.pos hi ?_
  rcases hasK_six hk with h6 | h6 | h6 | h6 | h6 | h6
  all_goals simp only [kdK, h6] at h ⊢
  · exact Ev.pos (by decide) (kw _ h)
  · refine Ev.neg (by decide) ?_
    refine Ev.step (fun _ => (by rw [calamusref15_Go.j4])) ?_
    refine Ev.neg (by decide) ?_
    simp only [h6]
    exact Ev.pos (by decide) (kb h)
  · refine Ev.neg (by decide) ?_
    refine Ev.step (fun _ => (by rw [calamusref15_Go.j4])) ?_
    refine Ev.neg (by decide) ?_
    simp only [h6]
    exact Ev.neg (by decide) (ke h)
  · exact Ev.neg (by decide) (kw _ h)
  · refine Ev.neg (by decide) ?_
    refine Ev.step (fun _ => (by rw [calamusref15_Go.j4])) ?_
    refine Ev.neg (by decide) ?_
    simp only [h6]
    exact Ev.neg (by decide) (kb h)
  · refine Ev.neg (by decide) ?_
    refine Ev.step (fun _ => (by rw [calamusref15_Go.j4])) ?_
    refine Ev.neg (by decide) ?_
    simp only [h6]
    exact Ev.neg (by decide) (ke h)
theorem place_rng {t : ByteArray} {p : Int} (h : placeB (ls t) p = true) : 0 ≤ p ∧ p ≤ t.size := by
  rcases place_cases t p with h2 | ⟨k, rfl, hk, _⟩
  · rw [h] at h2; cases h2
  · omega
theorem r15_l0 (t : ByteArray) (ht : t.size ≤ 1000000) (big : Bool) (key : ByteArray) (hk : hasK key = true) (n : Nat) (hn : n ≤ 1000000) : ∀ (d i : Nat) (p : Int) (moved : Bool), d + i = n → placeB (ls t) p = true → (moved = true ∨ 1 ≤ d) →
    Ev (fun k => calamusref15_Go.l0 k t p key n (startsI (ls t) big) (endsI (ls t) big) moved i) (if moved = true then (runS (stepH (ls t) (kdK key) big) d p, true) else goS (stepH (ls t) (kdK key) big) p d) := by
  intro d
  induction d with
  | zero =>
    intro i p moved hd hp hm
    have : moved = true := by
      rcases hm with h | h
      · exact h
      · omega
    subst this
    refine Ev.step (fun _ => (by rw [calamusref15_Go.l0])) ?_
    exact Ev.neg (by omega) (Ev.pos rfl (Ev.ret rfl))
  | succ d ih =>
    intro i p moved hd hp hm
    refine r15_step t ht big p (place_rng hp) key hk n moved i (by omega) _ ?_
    cases hf : stepH (ls t) (kdK key) big p with
    | none =>
      refine Ev.pos (show ((-1 : Int) < 0) by omega) ?_
      cases moved with
      | true =>
        refine Ev.pos rfl (Ev.ret ?_)
        show _ = ((match stepH (ls t) (kdK key) big p with | none => p | some q => runS (stepH (ls t) (kdK key) big) d q), true)
        rw [hf]
      | false =>
        refine Ev.neg (by decide) (Ev.ret ?_)
        unfold goS
        rw [hf]; rfl
    | some q =>
      have hq := step_place hp hf
      have := place_rng hq
      refine Ev.neg (show ¬ (q < 0) by omega) ?_
      rw [w64 (n := (i : Int) + 1) (by omega) (by omega)]
      refine Ev.eq (ih (i + 1) q true (by omega) hq (.inl rfl)) ?_
      have e : runS (stepH (ls t) (kdK key) big) (d + 1) p = runS (stepH (ls t) (kdK key) big) d q := by
        show (match stepH (ls t) (kdK key) big p with | none => p | some q => runS (stepH (ls t) (kdK key) big) d q) = _
        rw [hf]
      unfold goS
      rw [hf, e, if_pos rfl]
      cases moved <;> rfl
theorem rhas (a : ByteArray) : calamusref15_Has.f a = some (hasK a) := by
  unfold calamusref15_Has.f hasK
  by_cases h1 : a.toList = [119]
  · simp [h1]
  · by_cases h2 : a.toList = [98]
    · simp [h2]
    · by_cases h3 : a.toList = [101]
      · simp [h3]
      · by_cases h4 : a.toList = [87]
        · simp [h4]
        · by_cases h5 : a.toList = [66]
          · simp [h5]
          · by_cases h6 : a.toList = [69]
            · simp [h6]
            · simp [h1, h2, h3, h4, h5, h6]
theorem r15_go (t : ByteArray) (p : Int) (key : ByteArray) (n : Int) (ht : t.size ≤ 1000000) (hn : n ≤ 1000000) : Ev (fun k => calamusref15_Go.f k t p key n) (goI (ls t) p key n) := by
  unfold calamusref15_Go.f goI
  rw [rhas, calamusref03_Place.eq t p (by omega)]
  simp only [Option.bind_some]
  rcases Bool.eq_false_or_eq_true (hasK key) with hk | hk
  · refine Ev.pos hk ?_
    rcases Bool.eq_false_or_eq_true (placeB (ls t) p) with hv | hv
    · rw [if_pos ⟨hk, hv⟩, hv]
      refine Ev.step (fun _ => (by rw [calamusref15_Go.j0])) ?_
      refine Ev.neg (by decide) ?_
      have key1 : Ev (fun k => calamusref15_Go.j1 k t p key n (bigK key)) (goS (stepH (ls t) (kdK key) (bigK key)) p (max n 1).toNat) := by
        refine Ev.step (fun _ => (by rw [calamusref15_Go.j1])) ?_
        refine Ev.bind (r15_starts t _ ht) (Ev.bind (r15_ends t _ ht) ?_)
        have k2 : ∀ m : Nat, 1 ≤ m → m ≤ 1000000 → Ev (fun k => calamusref15_Go.j2 k t p key m (startsI (ls t) (bigK key)) (endsI (ls t) (bigK key))) (goS (stepH (ls t) (kdK key) (bigK key)) p m) := by
          intro m h1 h2
          refine Ev.step (fun _ => (by rw [calamusref15_Go.j2])) ?_
          exact Ev.eq (r15_l0 t ht (bigK key) key hk m h2 m 0 p false (by omega) hv (.inr h1)) rfl
        refine Ev.ite (fun h => ?_) (fun h => ?_)
        · have e : (max n 1).toNat = 1 := by omega
          rw [e]; exact k2 1 (by omega) (by omega)
        · have e : (((max n 1).toNat : Nat) : Int) = n := by omega
          have := k2 (max n 1).toNat (by omega) (by omega)
          rw [e] at this; exact this
      have hb : ∀ b, b = bigK key → Ev (fun k => calamusref15_Go.j1 k t p key n b) (goS (stepH (ls t) (kdK key) (bigK key)) p (max n 1).toNat) := by
        rintro b rfl; exact key1
      have hx : bigK key = Op.bytesLess key.toList [97] := rfl
      rcases hasK_six hk with h | h | h | h | h | h
      all_goals rw [h] at hx
      · exact Ev.neg (by rw [h]; decide) (Ev.neg (by rw [h]; decide) (hb _ (by rw [hx, h]; decide)))
      · exact Ev.neg (by rw [h]; decide) (Ev.neg (by rw [h]; decide) (hb _ (by rw [hx, h]; decide)))
      · exact Ev.neg (by rw [h]; decide) (Ev.neg (by rw [h]; decide) (hb _ (by rw [hx, h]; decide)))
      · exact Ev.pos h (hb _ (by rw [hx]; decide))
      · exact Ev.neg (by rw [h]; decide) (Ev.pos h (hb _ (by rw [hx]; decide)))
      · exact Ev.neg (by rw [h]; decide) (Ev.neg (by rw [h]; decide) (hb _ (by rw [hx, h]; decide)))
    · rw [if_neg (by simp [hv]), hv]
      refine Ev.step (fun _ => (by rw [calamusref15_Go.j0])) ?_
      exact Ev.pos rfl (Ev.ret rfl)
  · refine Ev.neg (by rw [hk]; decide) ?_
    rw [if_neg (by simp [hk])]
    refine Ev.step (fun _ => (by rw [calamusref15_Go.j0])) ?_
    exact Ev.pos rfl (Ev.ret rfl)
theorem hopGoes_pure (t : ByteArray) (p : Int) (key : ByteArray) (n : Int) (ht : t.size ≤ 140737488351232) : ∃ k, calamuslaw15_HopGoes.f k t p key n = some true := by
  refine Ev.at ?_
  unfold calamuslaw15_HopGoes.f
  have lv : Ev (fun k => calamuslaw15_HopGoes.j0 k t p key n true) true := by
    refine Ev.step (fun _ => (by rw [calamuslaw15_HopGoes.j0])) ?_
    exact Ev.pos rfl (Ev.bind lives_ev (Ev.ret rfl))
  refine Ev.ite (fun h => lv) (fun h => ?_)
  by_cases h2 : n > 200
  · rw [decide_eq_true h2]; exact lv
  · rw [decide_eq_false h2]
    refine Ev.step (fun _ => (by rw [calamuslaw15_HopGoes.j0])) ?_
    refine Ev.neg (by decide) (Ev.bind (hop_go t p key n (by omega) (by omega)) (Ev.bind (r15_go t p key n (by omega) (by omega)) (Ev.pos rfl (Ev.pos (by simp) (Ev.bind (has_ev key) ?_)))))
    rw [rhas]
    exact Ev.pos (by simp) (Ev.bind lives_ev (Ev.ret rfl))
theorem HopGoes_p (t : ByteArray) (p : Int) (key : ByteArray) (n : Int) (ht : t.size ≤ 140737488351232) (hp : -9223372036854775808 ≤ p ∧ p ≤ 9223372036854775807) (hk : key.size ≤ 140737488351232) (hn : -9223372036854775808 ≤ n ∧ n ≤ 9223372036854775807) : ∃ k, calamuslaw15_HopGoes.f k t p key n = some true := hopGoes_pure t p key n ht
end Go.Proofs.Ythjlhbblflmajaa
