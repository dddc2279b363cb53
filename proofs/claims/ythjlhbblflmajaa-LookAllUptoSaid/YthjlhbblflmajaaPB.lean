/- slices.BinarySearch over rising whole numbers. -/
import Derived.Test.YthjlhbblflmajaaPE
import Derived.Test.YthjlhbblflmajaaMN
import Derived.Test.YthjlhbblflmajaaQ1
namespace Go.Proofs.Ythjlhbblflmajaa
open Go.RowKit
set_option linter.unusedVariables false
set_option linter.unusedSimpArgs false
open Go.RowKit Go.Proofs.Ythjlhbblflmajaa.Q Go.Proofs.YthjlhbblflmajaaW.PrintWords Go.Proofs.YthjlhbblflmajaaW.PrintMore

theorem mid_eq {i j : Int} (h0 : 0 ≤ i) (h1 : i ≤ j) (h2 : j ≤ 4611686018427387903) : wrap64 ((IntKind.u64.wrap (wrap64 (i + j))) / 2) = (i + j) / 2 := by
  rw [w64 (n := i + j) (by omega) (by omega), IntWalk.u64_in _ (by omega), w64 (by omega) (by omega)]
theorem less_ev (a b : Int) : cmp_Less_int.f a b = some (decide (a < b)) := by
  unfold cmp_Less_int.f cmp_isNaN_int.f
  simp
theorem bs_l0 {xs : List Int} {t : Int} (hn : xs.length ≤ 1099511627776) (hs : xs.Pairwise (· < ·)) : ∀ (d i j : Nat), j - i ≤ d → i ≤ j → j ≤ xs.length → (∀ k (hk : k < xs.length), k < i → xs[k] < t) → (∀ k (hk : k < xs.length), j ≤ k → t ≤ xs[k]) →
    Ev (fun k => slices_BinarySearch_int_int.l0 k xs t xs.length i j) ((lessN xs t : Int), decide (t ∈ xs)) := by
  intro d
  induction d with
  | zero =>
    intro i j hd hij hj h1 h2
    have : i = j := by omega
    subst this
    have hl := lessN_at hj h1 h2
    refine Ev.step (fun _ => rfl) (Ev.neg (by omega) ?_)
    by_cases hlt : i < xs.length
    · refine Ev.pos (by omega) (Ev.pos (by omega) (Ev.pos (by omega) ?_))
      rw [rd_nat xs i hlt, hl]
      have hi := h2 i hlt (Nat.le_refl _)
      by_cases he : xs[i] = t
      · refine Ev.pos he (Ev.ret ?_)
        rw [decide_eq_true (by rw [← he]; exact List.getElem_mem _)]
      · refine Ev.neg he ?_
        unfold slices_isNaN_int.f
        simp only [bne_self_eq_false, Option.bind_some, Bool.false_eq_true, if_false]
        refine Ev.ret ?_
        rw [decide_eq_false]
        intro hm
        obtain ⟨k, hk, hk2⟩ := List.getElem_of_mem hm
        rcases Nat.lt_trichotomy k i with h | h | h
        · have := h1 k hk h; omega
        · subst h; exact he hk2
        · have := List.pairwise_iff_getElem.1 hs i k hlt hk h; omega
    · refine Ev.neg (by omega) (Ev.ret ?_)
      rw [hl, decide_eq_false]
      intro hm
      obtain ⟨k, hk, hk2⟩ := List.getElem_of_mem hm
      have := h1 k hk (by omega); omega
  | succ d ih =>
    intro i j hd hij hj h1 h2
    by_cases he : i = j
    · exact ih i j (by omega) hij hj h1 h2
    · refine Ev.step (fun _ => rfl) (Ev.pos (by omega) ?_)
      rw [mid_eq (by omega) (by omega) (by omega)]
      obtain ⟨m, hm⟩ : ∃ m : Nat, ((i : Int) + j) / 2 = m := ⟨((i + j) / 2 : Nat), by omega⟩
      have hm1 : i ≤ m := by omega
      have hm2 : m < j := by omega
      rw [hm]
      refine Ev.pos (by omega) (Ev.pos (by omega) ?_)
      rw [less_ev, rd_nat xs m (by omega), w64 (n := (m : Int) + 1) (by omega) (by omega)]
      simp only [Option.bind_some, decide_eq_true_eq]
      refine Ev.ite (fun hc => ?_) (fun hc => ?_)
      · refine ih (m + 1) j (by omega) (by omega) hj (fun k hk hk2 => ?_) h2
        rcases Nat.lt_or_eq_of_le (Nat.le_of_lt_succ hk2) with h | h
        · have := List.pairwise_iff_getElem.1 hs k m hk (by omega) h; omega
        · subst h; exact hc
      · refine ih i m (by omega) hm1 (by omega) h1 (fun k hk hk2 => ?_)
        rcases Nat.lt_or_eq_of_le hk2 with h | h
        · have := List.pairwise_iff_getElem.1 hs m k (by omega) hk h; omega
        · subst h; omega
theorem bs_ev {xs : List Int} (t : Int) (hn : xs.length ≤ 1099511627776) (hs : xs.Pairwise (· < ·)) : Ev (fun k => slices_BinarySearch_int_int.f k xs t) ((lessN xs t : Int), decide (t ∈ xs)) := by
  unfold slices_BinarySearch_int_int.f
  exact bs_l0 hn hs xs.length 0 xs.length (by omega) (by omega) (Nat.le_refl _) (fun k _ h => by omega) (fun k hk h => by omega)
end Go.Proofs.Ythjlhbblflmajaa
