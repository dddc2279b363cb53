/- The laws of layer 20 in plain words. -/
import Derived.Test.YthjlhbblflmajaaPLk
import Derived.Test.YthjlhbblflmajaaLk
import Derived.Test.YthjlhbblflmajaaQ1
import Derived.Test.YthjlhbblflmajaaQ2
import Derived.Test.YthjlhbblflmajaaQ3
import Derived.Test.YthjlhbblflmajaaQ4
import Derived.Test.YthjlhbblflmajaaXU
namespace Go.Proofs.Ythjlhbblflmajaa
open Go.RowKit
set_option linter.unusedVariables false
set_option linter.unusedSimpArgs false
open Go.RowKit Go.Proofs.Ythjlhbblflmajaa.Q Go.Proofs.YthjlhbblflmajaaW.PrintWords Go.Proofs.YthjlhbblflmajaaW.PrintMore
theorem lives20_a : lookI (ls ⟨#[97, 97, 97, 32, 97, 97]⟩) (ls ⟨#[97, 97]⟩) = [0, 1, 4] := by decide +kernel
theorem lives20_b : nextL (ls ⟨#[97, 97, 97, 32, 97, 97]⟩) 4 (ls ⟨#[97, 97]⟩) false 1 = (0, true) := by decide +kernel
theorem lives20 : Ev (fun k => calamuslaw20_lives.f k) true := by
  unfold calamuslaw20_lives.f
  rw [look_All.eq _ _ (by decide)]
  simp only [Option.bind_some]
  refine Ev.bind (look_next _ _ _ _ _ (by decide) (by decide) (by decide)) ?_
  rw [lives20_a, lives20_b]
  refine Ev.bind (same_refl _ (by decide)) ?_
  exact Ev.pos rfl (Ev.pos rfl (Ev.ret rfl))
theorem lives20' : Ev (fun k => (calamuslaw20_lives.f k).bind fun t => some t) true := Ev.bind lives20 (Ev.ret rfl)
theorem LookAll_p (t p : ByteArray) (ht : t.size ≤ 1048576) (hp : p.size ≤ 1048576) : ∃ k, calamuslaw20_LookAll.f k t p = some true := by
  refine Ev.rounds (g := fun k => calamuslaw20_LookAll.f k t p) ?_
  unfold calamuslaw20_LookAll.f
  refine Ev.ite (fun _ => lives20') (fun h => ?_)
  rw [look_All.eq t p (by omega)]
  simp only [Option.bind_some]
  have := lookI_len (ls t) (ls p)
  rw [ls_len] at this
  exact Ev.bind (r20_all t p (by omega) (by omega)) (Ev.bind (same_refl _ (by omega)) (Ev.pos rfl lives20'))
theorem LookNext_p (t : ByteArray) (q : Int) (p : ByteArray) (back : Bool) (n : Int) (ht : t.size ≤ 1048576) (hq : -9223372036854775808 ≤ q ∧ q ≤ 9223372036854775807) (hp : p.size ≤ 1048576) (hn : -9223372036854775808 ≤ n ∧ n ≤ 9223372036854775807) : ∃ k, calamuslaw20_LookNext.f k t q p back n = some true := by
  refine Ev.rounds (g := fun k => calamuslaw20_LookNext.f k t q p back n) ?_
  have key : ∀ b : Bool, (b = false → t.size ≤ 500 ∧ n ≤ 200) → Ev (fun k => calamuslaw20_LookNext.j0 k t q p back n b) true := by
    intro b hb
    refine Ev.step (fun _ => (by rw [calamuslaw20_LookNext.j0])) ?_
    refine Ev.ite (fun _ => lives20') (fun h => ?_)
    obtain ⟨h1, h2⟩ := hb (by simpa using h)
    refine Ev.bind (look_next t q p back n (by omega) (by omega) (by omega)) (Ev.bind (r20_next t q p back n (by omega) (by omega) (by omega)) ?_)
    exact Ev.pos rfl (Ev.pos (by simp) lives20')
  unfold calamuslaw20_LookNext.f
  refine Ev.ite (fun _ => key true (fun h => by cases h)) (fun h => key _ (fun h2 => ?_))
  simp at h2
  omega
theorem lookI_mem {l p : List UInt8} {x : Int} (h : x ∈ lookI l p) : ∃ i : Nat, x = i ∧ Lib.occAt l p i = true ∧ i ≤ l.length ∧ validL l = true ∧ validL p = true ∧ p ≠ [] := by
  unfold lookI at h
  split at h
  · rename_i hc
    obtain ⟨y, hy, rfl⟩ := List.mem_map.1 h
    unfold occF at hy
    have h2 := List.mem_filter.1 hy
    have h3 := List.mem_range'_1.1 h2.1
    exact ⟨y, rfl, h2.2, by omega, hc.2.1, hc.2.2, hc.1⟩
  · cases h
/-- A text of runes stands where runes begin. -/
theorem occ_place {l p : List UInt8} {i : Nat} (hl : validL l = true) (hp : validL p = true) (h0 : p ≠ []) (hi : i ≤ l.length) (h : Lib.occAt l p i = true) : placeB l i = true := by
  have hlen := occAt_len hi h
  have hp0 : p.length ≠ 0 := fun e => h0 (List.length_eq_zero_iff.1 e)
  refine place_mk hl hi (.inr ?_)
  have h1 := valid_first hp hp0
  have h2 := (occAt_iff hlen).1 h
  have : byL p 0 = byL l i := by
    rw [← h2, byL_take _ (by omega), byL_drop]; rfl
  rw [← this]; exact h1
theorem LookRound_p (t p : ByteArray) (q n : Int) (ht : t.size ≤ 140737488351232) (hp : p.size ≤ 140737488351232) (hq : -9223372036854775808 ≤ q ∧ q ≤ 9223372036854775807) (hn : -9223372036854775808 ≤ n ∧ n ≤ 9223372036854775807) : ∃ k, calamuslaw20_LookRound.f k t p q n = some true := by
  refine Ev.rounds (g := fun k => calamuslaw20_LookRound.f k t p q n) ?_
  have hs := lookI_rise (ls t) (ls p)
  have hl := lookI_len (ls t) (ls p)
  rw [ls_len] at hl
  have key2 : ∀ b : Bool, t.size ≤ 500 → 1 ≤ n → n ≤ 1000 → (b = true → lookI (ls t) (ls p) = [] ∨ q < 0 ∨ ((lookI (ls t) (ls p)).length : Int) ≤ q) → (b = false → 0 ≤ q ∧ q < (lookI (ls t) (ls p)).length) → Ev (fun k => calamuslaw20_LookRound.j1 k t p q n (lookI (ls t) (ls p)) b) true := by
    intro b h1 h2 h3 hb hb2
    refine Ev.step (fun _ => (by rw [calamuslaw20_LookRound.j1])) ?_
    refine Ev.ite (fun hc => ?_) (fun hc => ?_)
    · refine Ev.bind (look_next t 0 p false n (by omega) (by omega) (by omega)) ?_
      refine Ev.pos ?_ lives20'
      unfold nextL
      by_cases he : lookI (ls t) (ls p) = []
      · rw [if_pos (.inl he), he]; rfl
      · have hv : placeB (ls t) 0 = true := by
          have hne : lookI (ls t) (ls p) ≠ [] := he
          obtain ⟨x, hx⟩ := List.exists_mem_of_ne_nil _ hne
          obtain ⟨i, -, -, -, hv, -, -⟩ := lookI_mem hx
          refine place_mk (k := 0) hv (Nat.zero_le _) ?_
          by_cases hz : (ls t).length = 0
          · exact .inl hz.symm
          · exact .inr (valid_first hv hz)
        rw [if_neg (by simp [he, hv]), if_neg (by decide)]
        have : 0 < (lookI (ls t) (ls p)).length := List.length_pos_iff.2 he
        simp [this]
    · obtain ⟨h4, h5⟩ := hb2 (by simpa using hc)
      obtain ⟨j, rfl⟩ : ∃ j : Nat, q = j := ⟨q.toNat, by omega⟩
      have hj : j < (lookI (ls t) (ls p)).length := by omega
      refine Ev.pos (by omega) (Ev.pos (by omega) ?_)
      rw [rd_nat _ j hj]
      have h0 : 0 < (lookI (ls t) (ls p)).length := by omega
      have hne : lookI (ls t) (ls p) ≠ [] := fun e => by rw [e] at h0; simp at h0
      have hpl : ∀ x ∈ lookI (ls t) (ls p), placeB (ls t) x = true := by
        intro x hx
        obtain ⟨i, rfl, ho, hi, hv, hw, hz⟩ := lookI_mem hx
        exact occ_place hv hw hz hi ho
      refine Ev.bind (look_next t _ p false _ (by omega) (by omega) (by omega)) ?_
      refine Ev.bind (look_next t _ p false n (by omega) (by omega) (by omega)) ?_
      have hx1 := hpl _ (List.getElem_mem hj)
      have e1 : nextL (ls t) (lookI (ls t) (ls p))[j] (ls p) false ((lookI (ls t) (ls p)).length : Int) = ((lookI (ls t) (ls p))[j], true) := by
        unfold nextL
        rw [if_neg (by simp [hne, hx1]), if_neg (by decide)]
        have : (max ((lookI (ls t) (ls p)).length : Int) 1).toNat - 1 = (lookI (ls t) (ls p)).length - 1 := by omega
        rw [this, fw_all hs j hj]
      have e2 : nextL (ls t) (lookI (ls t) (ls p))[j] (ls p) false n = (fwN (lookI (ls t) (ls p)) (lookI (ls t) (ls p))[j] ((max n 1).toNat - 1), true) := by
        unfold nextL
        rw [if_neg (by simp [hne, hx1]), if_neg (by decide)]
      rw [e1, e2]
      obtain ⟨i, hi, e3⟩ := fwN_mem h0 (lookI (ls t) (ls p))[j] ((max n 1).toNat - 1)
      have hx2 := hpl _ (List.getElem_mem hi)
      have e4 : nextL (ls t) (fwN (lookI (ls t) (ls p)) (lookI (ls t) (ls p))[j] ((max n 1).toNat - 1)) (ls p) true n = ((lookI (ls t) (ls p))[j], true) := by
        unfold nextL
        rw [if_neg (by rw [e3]; simp [hne, hx2]), if_pos rfl, bk_fw hs j hj]
      refine Ev.bind (look_next t _ p true n (by omega) (by omega) (by omega)) ?_
      rw [e4]
      refine Ev.pos rfl (Ev.pos rfl (Ev.pos rfl (Ev.pos rfl (Ev.pos rfl ?_))))
      rw [utf_Place.eq t _ (by omega)]
      simp only [Option.bind_some]
      rw [e3]
      refine Ev.pos hx2 ?_
      obtain ⟨m, hm, ho, hml, hv, hw, hz⟩ := lookI_mem (List.getElem_mem hi)
      rw [hm]
      have hlen := occAt_len hml ho
      rw [ls_len, ls_len] at hlen
      rw [w64 (n := (m : Int) + p.size) (by omega) (by omega)]
      refine Ev.pos (by omega) (Ev.pos (by omega) (Ev.pos (by omega) (Ev.pos ?_ lives20')))
      have a1 : ((m : Int)).toNat = m := by omega
      have a2 : ((m : Int) + p.size).toNat = m + p.size := by omega
      rw [a1, a2]
      exact (occ_ext t p m hlen).2 ho
  have key : ∀ b : Bool, (b = false → t.size ≤ 500 ∧ 1 ≤ n ∧ n ≤ 1000) → Ev (fun k => calamuslaw20_LookRound.j0 k t p q n b) true := by
    intro b hb
    refine Ev.step (fun _ => (by rw [calamuslaw20_LookRound.j0])) ?_
    refine Ev.ite (fun _ => lives20') (fun h => ?_)
    obtain ⟨h1, h2, h3⟩ := hb (by simpa using h)
    rw [look_All.eq t p (by omega)]
    simp only [Option.bind_some]
    refine Ev.ite (fun hc => key2 true h1 h2 h3 (fun _ => .inl (List.length_eq_zero_iff.1 (by omega))) (fun h => by cases h)) (fun hc => ?_)
    refine Ev.ite (fun hd => key2 true h1 h2 h3 (fun _ => .inr (.inl hd)) (fun h => by cases h)) (fun hd => ?_)
    refine key2 _ h1 h2 h3 (fun h => .inr (.inr (by simpa using h))) (fun h => ?_)
    simp at h
    omega
  unfold calamuslaw20_LookRound.f
  refine Ev.ite (fun _ => key true (fun h => by cases h)) (fun h => Ev.ite (fun _ => key true (fun h => by cases h)) (fun h2 => key _ (fun h3 => ?_)))
  simp at h3
  omega
end Go.Proofs.Ythjlhbblflmajaa
