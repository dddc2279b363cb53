/- Two lists of whole numbers: are they the same? -/
import Derived.Test.YthjlhbblflmajaaPE
import Derived.Test.YthjlhbblflmajaaQ1
namespace Go.Proofs.Ythjlhbblflmajaa
open Go.RowKit
set_option linter.unusedVariables false
set_option linter.unusedSimpArgs false
open Go.RowKit Go.Proofs.Ythjlhbblflmajaa.Q Go.Proofs.YthjlhbblflmajaaW.PrintWords Go.Proofs.YthjlhbblflmajaaW.PrintMore
theorem same_l0 (xs ys : List Int) (he : xs.length = ys.length) (hn : xs.length ≤ 4611686018427387903) : ∀ (d i : Nat), xs.length - i ≤ d → i ≤ xs.length → Ev (fun k => calamusref01_Same.l0 k xs ys i) (decide (xs.drop i = ys.drop i)) := by
  intro d
  induction d with
  | zero =>
    intro i hd hi
    refine Ev.step (fun _ => rfl) (Ev.neg (by omega) (Ev.ret ?_))
    rw [List.drop_eq_nil_of_le (by omega), List.drop_eq_nil_of_le (by omega)]; rfl
  | succ d ih =>
    intro i hd hi
    by_cases hlt : i < xs.length
    · refine Ev.step (fun _ => rfl) (Ev.pos (by omega) (Ev.pos (by omega) (Ev.pos (by omega) ?_)))
      have hlt' : i < ys.length := by omega
      rw [rd_nat xs i hlt, rd_nat ys i hlt', w64 (by omega) (by omega), List.drop_eq_getElem_cons hlt, List.drop_eq_getElem_cons hlt']
      refine Ev.ite (fun hc => ?_) (fun hc => Ev.ret ?_)
      · refine Ev.eq (ih (i + 1) (by omega) (by omega)) ?_
        rw [hc]; simp only [List.cons.injEq, true_and]
      · exact (decide_eq_false (fun e => hc (List.cons.inj e).1)).symm
    · exact ih i (by omega) hi
theorem same_ev (xs ys : List Int) (hn : xs.length ≤ 4611686018427387903) : Ev (fun k => calamusref01_Same.f k xs ys) (decide (xs = ys)) := by
  unfold calamusref01_Same.f
  refine Ev.ite (fun hc => ?_) (fun hc => Ev.ret ?_)
  · exact Ev.eq (same_l0 xs ys (by omega) hn xs.length 0 (by omega) (by omega)) (by simp)
  · exact (decide_eq_false (fun e => hc (by rw [e]))).symm
theorem same_refl (xs : List Int) (hn : xs.length ≤ 4611686018427387903) : Ev (fun k => calamusref01_Same.f k xs xs) true := Ev.eq (same_ev xs xs hn) (by simp)
end Go.Proofs.Ythjlhbblflmajaa
