/- Where a text stands: the program's functions and the document's answer come to the same plain words. -/
import Derived.Test.YthjlhbblflmajaaPS
import Derived.Test.YthjlhbblflmajaaPB
import Derived.Test.YthjlhbblflmajaaMO
import Derived.Test.YthjlhbblflmajaaLk
import Derived.Test.YthjlhbblflmajaaQ1
import Derived.Test.YthjlhbblflmajaaQ2
import Derived.Test.YthjlhbblflmajaaQ3
import Derived.Test.YthjlhbblflmajaaXU
namespace Go.Proofs.Ythjlhbblflmajaa
open Go.RowKit
set_option linter.unusedVariables false
set_option linter.unusedSimpArgs false
open Go.RowKit Go.Proofs.Ythjlhbblflmajaa.Q Go.Proofs.YthjlhbblflmajaaW.PrintWords Go.Proofs.YthjlhbblflmajaaW.PrintMore

theorem occF_past {l p : List UInt8} {i : Nat} (h : l.length < i + p.length) : occF l p i = [] := by
  unfold occF
  rw [List.filter_eq_nil_iff]
  intro j hj
  rw [List.mem_range'_1] at hj
  intro ho
  have := occAt_len (l := l) (p := p) (i := j) (by omega) ho
  omega
theorem occAt_iff {l p : List UInt8} {i : Nat} (h : i + p.length ≤ l.length) : Lib.occAt l p i = true ↔ (l.drop i).take p.length = p := by
  unfold Lib.occAt
  rw [List.isPrefixOf_iff_prefix, List.prefix_iff_eq_take]
  exact eq_comm
theorem occ_ext (s p : ByteArray) (i : Nat) (h : i + p.size ≤ s.size) : (s.extract i (i + p.size)).toList = p.toList ↔ Lib.occAt (ls s) (ls p) i = true := by
  rw [toList_ls, toList_ls, ls_ext2, Nat.add_sub_cancel_left, occAt_iff (by rw [ls_len, ls_len]; exact h), ls_len]
theorem lookI_rise (l p : List UInt8) : (lookI l p).Pairwise (· < ·) := by
  unfold lookI; split
  · unfold occF
    rw [List.pairwise_map]
    refine List.Pairwise.imp ?_ (List.Pairwise.filter _ (List.pairwise_lt_range' ..))
    intro a b h; exact Int.ofNat_lt.2 h
  · exact List.Pairwise.nil
theorem r20_l0 (t p : ByteArray) (ht : t.size ≤ 1000000000) (hp : p.size ≤ 1099511627775) : ∀ (d i : Nat) (acc : List Int), t.size + 1 - i ≤ d → i ≤ t.size + 1 → acc.length ≤ i → Ev (fun k => calamusref20_All.l0 k t p acc i) (acc ++ (occF (ls t) (ls p) i).map Int.ofNat) := by
  intro d
  induction d with
  | zero =>
    intro i acc hd hi ha
    refine Ev.step (fun _ => (by rw [calamusref20_All.l0])) ?_
    rw [w64 (n := (i : Int) + p.size) (by omega) (by omega)]
    by_cases hc : (i : Int) + p.size ≤ t.size
    · omega
    · refine Ev.neg hc (Ev.ret ?_)
      rw [occF_past (by rw [ls_len, ls_len]; omega)]; simp
  | succ d ih =>
    intro i acc hd hi ha
    refine Ev.step (fun _ => (by rw [calamusref20_All.l0])) ?_
    rw [w64 (n := (i : Int) + p.size) (by omega) (by omega)]
    by_cases hc : (i : Int) + p.size ≤ t.size
    · refine Ev.pos hc (Ev.pos (by omega) (Ev.pos (by omega) ?_))
      have e1 : ((i : Int)).toNat = i := by omega
      have e2 : ((i : Int) + p.size).toNat = i + p.size := by omega
      rw [e1, e2, w64 (n := (i : Int) + 1) (by omega) (by omega)]
      have hl : i ≤ (ls t).length := by rw [ls_len]; omega
      refine Ev.ite (fun h => ?_) (fun h => ?_)
      · rw [occ_ext t p i (by omega)] at h
        refine Ev.pos (by omega) (Ev.eq (ih (i + 1) (acc ++ [(i : Int)]) (by omega) (by omega) (by simp; omega)) ?_)
        rw [occF_hit hl h]; simp
      · rw [occ_ext t p i (by omega)] at h
        refine Ev.eq (ih (i + 1) acc (by omega) (by omega) (by omega)) ?_
        rw [occF_skip (ls t) (ls p) i 1 (by omega) (fun j hj => by
          have : j = 0 := by omega
          subst this; simpa using h)]
    · refine Ev.neg hc (Ev.ret ?_)
      rw [occF_past (by rw [ls_len, ls_len]; omega)]; simp
theorem r20_all (t p : ByteArray) (ht : t.size ≤ 1000000000) (hp : p.size ≤ 1099511627775) : Ev (fun k => calamusref20_All.f k t p) (lookI (ls t) (ls p)) := by
  unfold calamusref20_All.f lookI
  rw [calamusref03_Valid.eq t (by omega), calamusref03_Valid.eq p hp]
  simp only [Option.bind_some]
  by_cases h0 : p.size = 0
  · refine Ev.pos ((empty_iff p).2 h0) ?_
    refine Ev.step (fun _ => (by rw [calamusref20_All.j0])) ?_
    refine Ev.pos rfl (Ev.ret ?_)
    rw [if_neg]
    rintro ⟨h, _⟩
    exact h (List.length_eq_zero_iff.1 (by rw [ls_len]; exact h0))
  · refine Ev.neg (fun h => h0 ((empty_iff p).1 h)) ?_
    rcases Bool.eq_false_or_eq_true (validL (ls t)) with hv | hv
    · refine Ev.pos hv ?_
      refine Ev.step (fun _ => (by rw [calamusref20_All.j0])) ?_
      rcases Bool.eq_false_or_eq_true (validL (ls p)) with hw | hw
      · refine Ev.neg (by rw [hw]; decide) (Ev.eq (r20_l0 t p ht hp (t.size + 1) 0 [] (by omega) (by omega) (by simp)) ?_)
        rw [if_pos ⟨fun e => h0 (by rw [← ls_len, e]; rfl), hv, hw⟩]; simp
      · refine Ev.pos (by rw [hw]; rfl) (Ev.ret ?_)
        rw [if_neg (by simp [hw])]
    · refine Ev.neg (by rw [hv]; decide) ?_
      refine Ev.step (fun _ => (by rw [calamusref20_All.j0])) ?_
      refine Ev.pos rfl (Ev.ret ?_)
      rw [if_neg (by simp [hv])]
/-- Where it stands next. -/
def nextL (l : List UInt8) (q : Int) (p : List UInt8) (back : Bool) (n : Int) : Int × Bool :=
  if lookI l p = [] ∨ placeB l q = false then (0, false) else if back then (bkN (lookI l p) q ((max n 1).toNat - 1), true) else (fwN (lookI l p) q ((max n 1).toNat - 1), true)
theorem look_next (t : ByteArray) (q : Int) (p : ByteArray) (back : Bool) (n : Int) (ht : t.size ≤ 1000000) (hp : p.size ≤ 1152921504606846976) (hn : n ≤ 1000000) :
    Ev (fun k => look_Next.f k t q p back n) (nextL (ls t) q (ls p) back n) := by
  have hl := lookI_len (ls t) (ls p)
  have hs := lookI_rise (ls t) (ls p)
  rw [ls_len] at hl
  unfold look_Next.f nextL
  rw [look_All.eq t p ⟨by omega, hp⟩, utf_Place.eq t q (by omega)]
  simp only [Option.bind_some]
  generalize lookI (ls t) (ls p) = xs at *
  refine Ev.ite (fun h => ?_) (fun h => ?_)
  · refine Ev.step (fun _ => (by rw [look_Next.j0])) ?_
    refine Ev.pos rfl (Ev.ret ?_)
    rw [if_pos (.inl (List.length_eq_zero_iff.1 (by omega)))]
  · refine Ev.step (fun _ => (by rw [look_Next.j0])) ?_
    have h0 : 0 < xs.length := by omega
    have hne : xs ≠ [] := fun e => by rw [e] at h0; simp at h0
    rcases Bool.eq_false_or_eq_true (placeB (ls t) q) with hv | hv
    · have hq : 0 ≤ q ∧ q ≤ 1000000 := by
        rcases place_cases t q with h2 | ⟨k, rfl, hk, _⟩
        · rw [hv] at h2; cases h2
        · omega
      rw [if_neg (by simp [hne, hv])]
      refine Ev.neg (by rw [hv]; decide) (Ev.neg (by omega) ?_)
      have e1 : wrap64 (mx n 1 - 1) = (((max n 1).toNat - 1 : Nat) : Int) := by rw [mx_eq, w64 (by omega) (by omega)]; omega
      have hsb : (max n 1).toNat - 1 ≤ 1000000 := by omega
      rw [e1]
      generalize (max n 1).toNat - 1 = s at *
      have e2 : Int.tmod (s : Int) (xs.length : Int) = ((s % xs.length : Nat) : Int) := by rw [Int.ofNat_tmod]
      have hm := Nat.mod_lt s h0
      rw [e2]
      cases back with
      | true =>
        refine Ev.pos rfl (Ev.bind (bs_ev q (by omega) hs) ?_)
        have hc := lessN_le xs q
        have e3 : wrap64 (wrap64 (wrap64 ((lessN xs q : Int) - 1) - ((s % xs.length : Nat) : Int)) + wrap64 (2 * (xs.length : Int))) = ((lessN xs q + 2 * xs.length - 1 - s % xs.length : Nat) : Int) := by
          rw [w64 (n := (lessN xs q : Int) - 1) (by omega) (by omega), w64 (n := (lessN xs q : Int) - 1 - ((s % xs.length : Nat) : Int)) (by omega) (by omega), w64 (n := 2 * (xs.length : Int)) (by omega) (by omega), w64 (by omega) (by omega)]; omega
        have hi := Nat.mod_lt (lessN xs q + 2 * xs.length - 1 - s % xs.length) h0
        simp only [e3]
        rw [← Int.ofNat_tmod]
        refine Ev.pos (by omega) (Ev.pos (by omega) (Ev.ret ?_))
        rw [rd_getD, if_pos trivial, ← bk_idx _ _ _ h0]; rfl
      | false =>
        refine Ev.neg (by decide) ?_
        rw [w64 (n := q + 1) (by omega) (by omega)]
        refine Ev.bind (bs_ev (q + 1) (by omega) hs) ?_
        have hc := lessN_le xs (q + 1)
        have e3 : wrap64 ((lessN xs (q + 1) : Int) + ((s % xs.length : Nat) : Int)) = ((lessN xs (q + 1) + s % xs.length : Nat) : Int) := by
          rw [w64 (by omega) (by omega)]; omega
        have hi := Nat.mod_lt (lessN xs (q + 1) + s % xs.length) h0
        simp only [e3]
        rw [← Int.ofNat_tmod]
        refine Ev.pos (by omega) (Ev.pos (by omega) (Ev.ret ?_))
        rw [rd_getD, if_neg (by decide), Nat.add_mod_mod]; rfl
    · rw [if_pos (.inr hv)]
      exact Ev.pos (by rw [hv]; rfl) (Ev.ret rfl)

def goN (xs : List Int) (back : Bool) (p : Int) : Nat → Int
  | 0 => p
  | m + 1 => if back = true then bkN xs p m else fwN xs p m
theorem goN_step {xs : List Int} (hs : xs.Pairwise (· < ·)) (h0 : 0 < xs.length) (back : Bool) (p : Int) : ∀ m, goN xs back (goN xs back p 1) m = goN xs back p (m + 1)
  | 0 => rfl
  | m + 1 => by
    cases back
    · simp only [goN, Bool.false_eq_true, if_false]; rw [fwN_step hs h0]; congr 1; omega
    · simp only [goN, if_true]; rw [bkN_step hs h0]; congr 1; omega
theorem r20_l1 {xs : List Int} (hs : xs.Pairwise (· < ·)) (hn : xs.length ≤ 1099511627776) (p : Int) (back : Bool) (n i : Int) (R : Int × Bool) : ∀ (d k : Nat) (u : Int), xs.length - k ≤ d → k ≤ xs.length →
    Ev (fun m => calamusref20_Next.l0 m (if lessN xs p ≤ k then u else xs.getD (lessN xs p - 1) 0) back n xs (wrap64 (i + 1))) R → Ev (fun m => calamusref20_Next.l1 m p back n xs i u k) R := by
  intro d
  induction d with
  | zero =>
    intro k u hd hk h
    have := lessN_le xs p
    refine Ev.step (fun _ => (by rw [calamusref20_Next.l1])) ?_
    refine Ev.neg (by omega) ?_
    rw [if_pos (by omega)] at h; exact h
  | succ d ih =>
    intro k u hd hk h
    by_cases he : k = xs.length
    · exact ih k u (by omega) hk h
    · refine Ev.step (fun _ => (by rw [calamusref20_Next.l1])) ?_
      refine Ev.pos (by omega) (Ev.pos (by omega) ?_)
      rw [rd_nat xs k (by omega), w64 (n := (k : Int) + 1) (by omega) (by omega)]
      have hlt := less_iff hs p k (by omega)
      refine Ev.ite (fun hp => ?_) (fun hp => ?_)
      · refine ih (k + 1) _ (by omega) (by omega) ?_
        have hp' := hlt.1 hp
        rw [if_neg (by omega)] at h
        by_cases h5 : lessN xs p ≤ k + 1
        · rw [if_pos h5]
          have : lessN xs p - 1 = k := by omega
          rw [this, getD_at xs k (by omega)] at h
          exact h
        · rw [if_neg h5]; exact h
      · refine ih (k + 1) _ (by omega) (by omega) ?_
        have hp' : ¬ k < lessN xs p := fun h => hp (hlt.2 h)
        rw [if_pos (by omega)] at h
        rw [if_pos (by omega)]; exact h
theorem r20_l2 {xs : List Int} (hs : xs.Pairwise (· < ·)) (hn : xs.length ≤ 1099511627776) (p : Int) (hp : p < 9223372036854775807) (back : Bool) (n i : Int) (R : Int × Bool) : ∀ (k : Nat) (u : Int), k ≤ xs.length →
    Ev (fun m => calamusref20_Next.l0 m (if lessN xs (p + 1) < k then xs.getD (lessN xs (p + 1)) 0 else u) back n xs (wrap64 (i + 1))) R → Ev (fun m => calamusref20_Next.l2 m p back n xs i u ((k : Int) - 1)) R := by
  intro k
  induction k with
  | zero =>
    intro u hk h
    refine Ev.step (fun _ => (by rw [calamusref20_Next.l2])) ?_
    refine Ev.neg (by omega) ?_
    rw [if_neg (by omega)] at h; exact h
  | succ k ih =>
    intro u hk h
    refine Ev.step (fun _ => (by rw [calamusref20_Next.l2])) ?_
    have e : ((k + 1 : Nat) : Int) - 1 = k := by omega
    rw [e]
    refine Ev.pos (by omega) (Ev.pos (by omega) (Ev.pos (by omega) ?_))
    rw [rd_nat xs k (by omega), w64 (n := (k : Int) - 1) (by omega) (by omega)]
    have hlt := less_iff hs (p + 1) k (by omega)
    refine Ev.ite (fun hc => ?_) (fun hc => ?_)
    · refine ih _ (by omega) ?_
      have hq : ¬ k < lessN xs (p + 1) := fun h => by have := hlt.2 h; omega
      rw [if_pos (by omega)] at h
      by_cases h5 : lessN xs (p + 1) < k
      · rw [if_pos h5]; exact h
      · rw [if_neg h5]
        have : lessN xs (p + 1) = k := by omega
        rw [this, getD_at xs k (by omega)] at h; exact h
    · refine ih _ (by omega) ?_
      have hq : k < lessN xs (p + 1) := hlt.1 (by omega)
      rw [if_neg (by omega)] at h
      rw [if_neg (by omega)]; exact h
theorem r20_l0n {xs : List Int} (hs : xs.Pairwise (· < ·)) (h0 : 0 < xs.length) (hn : xs.length ≤ 1099511627776) (back : Bool) (n : Nat) (hnn : n ≤ 1000000) : ∀ (d i : Nat) (p : Int), p < 9223372036854775807 → (∀ x ∈ xs, x < 9223372036854775807) → n - i ≤ d → i ≤ n →
    Ev (fun m => calamusref20_Next.l0 m p back n xs i) (goN xs back p (n - i), true) := by
  intro d
  induction d with
  | zero =>
    intro i p hp hx hd hi
    refine Ev.step (fun _ => (by rw [calamusref20_Next.l0])) ?_
    have : n - i = 0 := by omega
    rw [this]
    exact Ev.neg (by omega) (Ev.ret rfl)
  | succ d ih =>
    intro i p hp hx hd hi
    by_cases he : i = n
    · exact ih i p hp hx (by omega) hi
    · refine Ev.step (fun _ => (by rw [calamusref20_Next.l0])) ?_
      refine Ev.pos (by omega) (Ev.pos (by omega) ?_)
      rw [w64 (n := (xs.length : Int) - 1) (by omega) (by omega)]
      obtain ⟨m, hm⟩ : ∃ m, n - i = m + 1 := ⟨n - i - 1, by omega⟩
      have hm2 : n - (i + 1) = m := by omega
      have hi2 : ((i : Int) + 1) = ((i + 1 : Nat) : Int) := by omega
      have hg1 : goN xs back p 1 < 9223372036854775807 := by
        cases back
        · show fwN xs p 0 < _
          exact hx _ (by obtain ⟨j, hj, e⟩ := fwN_mem h0 p 0; rw [e]; exact List.getElem_mem _)
        · show bkN xs p 0 < _
          unfold bkN
          rw [getD_at xs _ (Nat.mod_lt _ h0)]; exact hx _ (List.getElem_mem _)
      have key := ih (i + 1) (goN xs back p 1) hg1 hx (by omega) (by omega)
      rw [hm2, goN_step hs h0, ← hm] at key
      cases back with
      | true =>
        refine Ev.pos rfl (Ev.pos (by omega) (Ev.pos (by omega) ?_))
        refine r20_l1 hs hn p true n i _ xs.length 0 _ (by omega) (by omega) ?_
        rw [w64 (n := (i : Int) + 1) (by omega) (by omega), hi2]
        have e2 : (if lessN xs p ≤ 0 then rd xs ((xs.length : Int) - 1) else xs.getD (lessN xs p - 1) 0) = goN xs true p 1 := by
          have hc := lessN_le xs p
          show _ = bkN xs p 0
          unfold bkN
          rw [Nat.zero_add, Nat.one_mul]
          by_cases h : lessN xs p ≤ 0
          · have : lessN xs p = 0 := by omega
            rw [if_pos h, this, Nat.zero_add, Nat.mod_eq_of_lt (by omega)]
            have : (xs.length : Int) - 1 = ((xs.length - 1 : Nat) : Int) := by omega
            rw [this, rd_getD]
          · rw [if_neg h]
            have : lessN xs p + (xs.length - 1) = (lessN xs p - 1) + xs.length := by omega
            rw [this, Nat.add_mod_right, Nat.mod_eq_of_lt (by omega)]
        rw [e2]; exact key
      | false =>
        refine Ev.neg (by decide) ?_
        refine r20_l2 hs hn p hp false n i _ xs.length _ (Nat.le_refl _) ?_
        rw [w64 (n := (i : Int) + 1) (by omega) (by omega), hi2]
        have e2 : (if lessN xs (p + 1) < xs.length then xs.getD (lessN xs (p + 1)) 0 else rd xs 0) = goN xs false p 1 := by
          have hc := lessN_le xs (p + 1)
          show _ = fwN xs p 0
          unfold fwN
          rw [Nat.add_zero]
          by_cases h : lessN xs (p + 1) < xs.length
          · rw [if_pos h, Nat.mod_eq_of_lt h]
          · have : lessN xs (p + 1) = xs.length := by omega
            rw [if_neg h, this, Nat.mod_self]; rfl
        rw [e2]; exact key
theorem r20_next (t : ByteArray) (q : Int) (p : ByteArray) (back : Bool) (n : Int) (ht : t.size ≤ 1000000) (hp : p.size ≤ 1099511627775) (hn : n ≤ 1000000) :
    Ev (fun k => calamusref20_Next.f k t q p back n) (nextL (ls t) q (ls p) back n) := by
  have hl := lookI_len (ls t) (ls p)
  have hs := lookI_rise (ls t) (ls p)
  have hx : ∀ x ∈ lookI (ls t) (ls p), x < 9223372036854775807 := by
    intro x hx
    unfold lookI at hx
    split at hx
    · obtain ⟨y, hy, rfl⟩ := List.mem_map.1 hx
      unfold occF at hy
      have := List.mem_range'_1.1 (List.mem_filter.1 hy).1
      rw [ls_len] at this
      show (y : Int) < _
      omega
    · cases hx
  rw [ls_len] at hl
  unfold calamusref20_Next.f
  refine Ev.bind (r20_all t p (by omega) hp) ?_
  unfold nextL
  rw [calamusref03_Place.eq t q (by omega)]
  simp only [Option.bind_some]
  generalize lookI (ls t) (ls p) = xs at *
  refine Ev.ite (fun h => ?_) (fun h => ?_)
  · refine Ev.step (fun _ => (by rw [calamusref20_Next.j0])) ?_
    refine Ev.pos rfl (Ev.ret ?_)
    rw [if_pos (.inl (List.length_eq_zero_iff.1 (by omega)))]
  · refine Ev.step (fun _ => (by rw [calamusref20_Next.j0])) ?_
    have h0 : 0 < xs.length := by omega
    have hne : xs ≠ [] := fun e => by rw [e] at h0; simp at h0
    rcases Bool.eq_false_or_eq_true (placeB (ls t) q) with hv | hv
    · have hq : 0 ≤ q ∧ q ≤ 1000000 := by
        rcases place_cases t q with h2 | ⟨k, rfl, hk, _⟩
        · rw [hv] at h2; cases h2
        · omega
      rw [if_neg (by simp [hne, hv])]
      refine Ev.neg (by rw [hv]; decide) ?_
      have key : ∀ m : Nat, 1 ≤ m → m ≤ 1000000 → (m : Int) = max n 1 → Ev (fun k => calamusref20_Next.j1 k q back m xs) (if back = true then (bkN xs q ((max n 1).toNat - 1), true) else (fwN xs q ((max n 1).toNat - 1), true)) := by
        intro m h1 h2 h3
        refine Ev.step (fun _ => (by rw [calamusref20_Next.j1])) ?_
        refine Ev.eq (r20_l0n hs h0 (by omega) back m h2 m 0 q (by omega) hx (by omega) (by omega)) ?_
        have : (max n 1).toNat - 1 = m - 1 := by omega
        rw [this, Nat.sub_zero]
        obtain ⟨j, rfl⟩ : ∃ j, m = j + 1 := ⟨m - 1, by omega⟩
        unfold goN
        rw [Nat.add_sub_cancel]
        cases back <;> rfl
      refine Ev.ite (fun hc => ?_) (fun hc => ?_)
      · exact key 1 (by omega) (by omega) (by omega)
      · have := key n.toNat (by omega) (by omega) (by omega)
        have e : ((n.toNat : Nat) : Int) = n := by omega
        rw [e] at this; exact this
    · rw [if_pos (.inr hv)]
      exact Ev.pos (by rw [hv]; rfl) (Ev.ret rfl)
end Go.Proofs.Ythjlhbblflmajaa
