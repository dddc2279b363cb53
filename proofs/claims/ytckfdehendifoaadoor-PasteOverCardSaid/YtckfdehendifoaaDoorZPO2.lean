/- Joined by merge.py out of this work's texts: PPa, PPb, PPi, PFl, PPn, L4, PPr, XIs, QP8, QP2, QP9. -/
import Derived.Test.YtckfdehendifoaaDoorZPO0
import Derived.Test.YtckfdehendifoaaDoorZPO1
/- The parts of layer 24 (paste) in plain words (MOD QP): stop, behind, some, times, rep. -/
namespace Go.Proofs.YtckfdehendifoaaDoor
open Go.RowKit
set_option linter.unusedVariables false
set_option linter.unusedSimpArgs false
open Go.RowKit Go.Proofs.YtckfdehendifoaaDoor.QP Go.Proofs.YtckfdehendifoaaDoorW.PrintWords Go.Proofs.YtckfdehendifoaaDoorW.PrintMore
theorem ls_cat (a b : ByteArray) : ls (a ++ b) = ls a ++ ls b := by unfold ls; rw [ByteArray.data_append, Array.toList_append]
theorem stop_val (t : ByteArray) {p e : Nat} (hp : placeB (ls t) p = true) (he : endI (ls t) (ofI (ls t) p) = e) (ht : t.size ≤ 1000000) : paste_stop.f t p = some (decide (p = e)) := by
  obtain ⟨g1, g2, g3⟩ := end_gt hp he
  rw [ls_len] at g1 g3
  unfold paste_stop.f
  by_cases h : (p : Int) = t.size
  · rw [if_pos h]; congr 1; symm; rw [decide_eq_true_eq]; omega
  · have hlt : p < t.size := by omega
    rw [if_neg h, if_pos (by omega), if_pos (by omega), bt_nat t p hlt]
    congr 1
    by_cases hb : byL (ls t) p = 10
    · rw [show (byL (ls t) p == 10) = true by rw [hb]; rfl]
      symm; rw [decide_eq_true_eq]
      have : ¬ p < e := fun h => (g1.1 h).2 hb
      omega
    · rw [show (byL (ls t) p == 10) = false by simpa using hb]
      symm; rw [decide_eq_false_iff_not]
      have := g1.2 ⟨hlt, hb⟩
      omega
theorem rune_feed {t : ByteArray} {p : Nat} (hp : placeB (ls t) p = true) : ((ls ⟨(runeL (ls t) p).toArray⟩ = []) ↔ p = t.size) ∧ (p < t.size → ((ls ⟨(runeL (ls t) p).toArray⟩ = [10]) ↔ byL (ls t) p = 10)) := by
  have hl : ls ⟨(runeL (ls t) p).toArray⟩ = runeL (ls t) p := rfl
  rw [hl]
  have hle := (valid_at hp).2.1
  rw [ls_len] at hle
  have hr : p < t.size → ∃ n, runeL (ls t) p = ((ls t).drop p).take (n + 1) ∧ n + 1 = szL ((ls t).drop p) := by
    intro h
    obtain ⟨hz, _⟩ := sz_at hp (by rw [ls_len]; exact h)
    unfold runeL
    rw [if_pos ⟨hp, by rw [ls_len]; omega⟩, Int.toNat_natCast]
    obtain ⟨n, hn⟩ := Nat.exists_eq_succ_of_ne_zero hz
    exact ⟨n, by rw [hn], hn.symm⟩
  refine ⟨⟨fun h => ?_, fun h => ?_⟩, fun hlt => ⟨fun h => ?_, fun h => ?_⟩⟩
  · rcases Nat.lt_or_ge p t.size with hlt | hge
    · obtain ⟨n, h1, _⟩ := hr hlt
      rw [h1, List.drop_eq_getElem_cons (by rw [ls_len]; exact hlt)] at h
      simp at h
    · omega
  · unfold runeL; rw [if_neg]; rintro ⟨_, h2⟩; rw [ls_len] at h2; omega
  · obtain ⟨n, h1, _⟩ := hr hlt
    rw [h1, List.drop_eq_getElem_cons (by rw [ls_len]; exact hlt)] at h
    simp only [List.take_succ_cons] at h
    have h2 := (List.cons.inj h).1
    rw [← inn_get (by rw [ls_len]; exact hlt), h2]; rfl
  · obtain ⟨n, h1, h2⟩ := hr hlt
    have h10 : (ls t)[p]'(by rw [ls_len]; exact hlt) = 10 := by
      rw [← inn_get (by rw [ls_len]; exact hlt)] at h
      have : ((ls t)[p]'(by rw [ls_len]; exact hlt)).toNat = 10 := by omega
      exact UInt8.toNat_inj.1 this
    have hz1 : szL ((ls t).drop p) = 1 := by
      obtain ⟨hz, _⟩ := sz_at hp (by rw [ls_len]; exact hlt)
      obtain ⟨_, h3, _⟩ := szL_pos hz
      rw [byL_drop, Nat.add_zero, h] at h3
      have : fSize 10 = 1 := by decide
      omega
    rw [h1, h2, hz1, List.drop_eq_getElem_cons (by rw [ls_len]; exact hlt), h10]; rfl
theorem rstop_val (t : ByteArray) {p e : Nat} (hp : placeB (ls t) p = true) (he : endI (ls t) (ofI (ls t) p) = e) (ht : t.size ≤ 1000000) : calamusref24_stop.f t p = some (decide (p = e)) := by
  obtain ⟨g1, g2, g3⟩ := end_gt hp he
  obtain ⟨r1, r2⟩ := rune_feed hp
  rw [ls_len] at g1 g3
  unfold calamusref24_stop.f
  rw [calamusref03_Rune.eq t p (by omega)]
  simp only [Option.bind_some]
  rw [toList_ls]
  by_cases h : p = t.size
  · rw [if_pos (r1.2 h)]; congr 1; symm; rw [decide_eq_true_eq]; omega
  · have hlt : p < t.size := by omega
    rw [if_neg (fun x => h (r1.1 x))]
    congr 1
    by_cases hb : byL (ls t) p = 10
    · rw [(r2 hlt).2 hb]
      symm; show decide (p = e) = true; rw [decide_eq_true_eq]
      have : ¬ p < e := fun h => (g1.1 h).2 hb
      omega
    · have : (ls ⟨(runeL (ls t) p).toArray⟩ == [10]) = false := by
        rw [beq_eq_false_iff_ne]; exact fun x => hb ((r2 hlt).1 x)
      rw [this]
      symm; rw [decide_eq_false_iff_not]
      have := g1.2 ⟨hlt, hb⟩
      omega
def restN (l : List UInt8) (p e : Nat) : Nat := cntL (rowL l (p, e))
theorem rest_end (l : List UInt8) (e : Nat) : restN l e e = 0 := by unfold restN; rw [row_nil]; rfl
theorem rest_next {l : List UInt8} {p e : Nat} (hp : placeB l p = true) (he : endI l (ofI l p) = e) (h : p < e) : ∃ n : Nat, nextI l p = n ∧ p < n ∧ n ≤ e ∧ placeB l n = true ∧ ofI l n = ofI l p ∧ restN l p e = restN l n e + 1 ∧ ∀ m : Int, 0 < m → vAt l e p m = vAt l e n (m - 1) := by
  obtain ⟨e', h1, h2, h3, h4, h5, h6, h7, h8⟩ := line_pair hp
  obtain rfl : e' = e := by omega
  obtain ⟨n, g1, g2, g3, g4, g5, g6⟩ := col_next hp he h
  obtain ⟨n', k1, k2, k3, k4, k5⟩ := next_gap hp (show p < l.length by omega)
  obtain rfl : n' = n := by omega
  have h1c := cnt_one_rune hp (n' - (p + 1)) n' (by omega) k3 (fun i a b => k5 i a b)
  refine ⟨n', g1, g2, g3, g4, g5, ?_, ?_⟩
  · unfold restN; rw [row_app (n := n') (by omega) g3 h6, cnt_app, h1c]; omega
  · intro m hm
    obtain ⟨q, q1, _, _, _, q5⟩ := vAt_step (c := m) hm h hp h8
    obtain rfl : q = n' := by rw [g1] at q1; omega
    exact q5
theorem rest_pos {l : List UInt8} {p e : Nat} (hp : placeB l p = true) (he : endI l (ofI l p) = e) (h : p < e) : 0 < restN l p e := by
  obtain ⟨n, _, _, _, _, _, h6, _⟩ := rest_next hp he h; omega
theorem rest_le {l : List UInt8} {p e : Nat} (h : p ≤ e) (h2 : e ≤ l.length) : restN l p e ≤ e - p := by
  unfold restN
  have := cntL_le (rowL l (p, e))
  rw [rowL_len h h2] at this
  simp only at this
  omega
theorem behind_ev (t : ByteArray) (e : Nat) (N : Int) (ht : t.size ≤ 1000000) (hN : N ≤ 9223372036854775807) : ∀ (d p : Nat) (j : Int), e - p ≤ d → p ≤ e → placeB (ls t) p = true → endI (ls t) (ofI (ls t) p) = e → 0 ≤ j → j ≤ N → j + (e - p) ≤ 2000000 → Ev (fun K => paste_behind.l0 K t p N j) (vAt (ls t) e p (N - j), j + min (N - j) (restN (ls t) p e)) := by
  intro d
  induction d with
  | zero =>
    intro p j h1 h2 hp he h0 hj hb
    obtain rfl : p = e := by omega
    refine Ev.step (fun _ => (by rw [paste_behind.l0])) ?_
    rw [rest_end, vAt_end]
    refine Ev.ite (fun hlt => ?_) (fun hlt => Ev.ret (by rw [show j + min (N - j) ((0 : Nat) : Int) = j by omega]))
    refine Ev.call (stop_val t hp he ht) (Ev.pos (by simp) (Ev.ret (by rw [show j + min (N - j) ((0 : Nat) : Int) = j by omega])))
  | succ d ih =>
    intro p j h1 h2 hp he h0 hj hb
    by_cases hpe : p = e
    · exact ih p j (by omega) h2 hp he h0 hj hb
    · obtain ⟨_, _, _, _, _, _, _, _, h8⟩ := line_pair hp
      obtain ⟨n, g1, g2, g3, g4, g5, g6, g7⟩ := rest_next hp he (by omega)
      refine Ev.step (fun _ => (by rw [paste_behind.l0])) ?_
      refine Ev.ite (fun hlt => ?_) (fun hlt => Ev.ret ?_)
      · refine Ev.call (stop_val t hp he ht) (Ev.neg (by simpa using hpe) (Ev.call (utf_Next.eq t p (by omega)) ?_))
        rw [g1, w64 (by omega) (by omega)]
        refine Ev.eq (ih n (j + 1) (by omega) g3 g4 (by rw [g5]; exact he) (by omega) (by omega) (by omega)) ?_
        rw [g7 _ (by omega), g6, show N - j - 1 = N - (j + 1) by omega, show j + 1 + min (N - (j + 1)) (restN (ls t) n e : Int) = j + min (N - j) ((restN (ls t) n e + 1 : Nat) : Int) by omega]
      · obtain rfl : j = N := by omega
        obtain ⟨e', k1, k2, k3, k4, k5, k6, k7, k8⟩ := line_pair hp
        obtain rfl : e' = e := by omega
        rw [show j - j = 0 by omega, vAt_zero k8 hp h2, show j + min 0 (restN (ls t) p e' : Int) = j by omega]
theorem some_ev (t : ByteArray) (e : Nat) (N : Int) (ht : t.size ≤ 1000000) : ∀ (d p : Nat) (L : List Int), e - p ≤ d → p ≤ e → placeB (ls t) p = true → endI (ls t) (ofI (ls t) p) = e → L.length ≤ N → L.length + (e - p) ≤ 2000000 → (L ≠ [] → ∃ x, L.getLast? = some x ∧ nextI (ls t) x = p) →
    ∃ R, Ev (fun K => calamusref24_some.l0 K t p N L) R ∧ (R.length : Int) = L.length + min (N - L.length) (restN (ls t) p e) ∧ (R ≠ [] → ∃ x, R.getLast? = some x ∧ nextI (ls t) x = vAt (ls t) e p (N - L.length)) := by
  intro d
  induction d with
  | zero =>
    intro p L h1 h2 hp he hL hb hx
    obtain rfl : p = e := by omega
    refine ⟨L, ?_, by rw [rest_end]; omega, by rw [vAt_end]; exact hx⟩
    refine Ev.step (fun _ => (by rw [calamusref24_some.l0])) ?_
    refine Ev.ite (fun hlt => ?_) (fun _ => Ev.ret rfl)
    exact Ev.call (rstop_val t hp he ht) (Ev.pos (by simp) (Ev.ret rfl))
  | succ d ih =>
    intro p L h1 h2 hp he hL hb hx
    by_cases hpe : p = e
    · exact ih p L (by omega) h2 hp he hL hb hx
    · by_cases hlt : (L.length : Int) < N
      · obtain ⟨n, g1, g2, g3, g4, g5, g6, g7⟩ := rest_next hp he (by omega)
        obtain ⟨R, r1, r2, r3⟩ := ih n (L ++ [(p : Int)]) (by omega) g3 g4 (by rw [g5]; exact he) (by simp; omega) (by simp; omega) (fun _ => ⟨p, by simp, g1⟩)
        have hL1 : ((L ++ [(p : Int)]).length : Int) = L.length + 1 := by simp
        rw [hL1] at r2 r3
        refine ⟨R, ?_, by rw [r2, g6]; omega, fun h => ?_⟩
        · refine Ev.step (fun _ => (by rw [calamusref24_some.l0])) ?_
          refine Ev.pos hlt (Ev.call (rstop_val t hp he ht) (Ev.neg (by simpa using hpe) (Ev.pos (by omega) (Ev.call (calamusref03_Next.eq t p (by omega)) ?_))))
          rw [g1]; exact r1
        · obtain ⟨x, x1, x2⟩ := r3 h
          exact ⟨x, x1, by rw [x2, g7 _ (by omega), show N - L.length - 1 = N - (L.length + 1) by omega]⟩
      · refine ⟨L, ?_, by omega, fun h => ?_⟩
        · refine Ev.step (fun _ => (by rw [calamusref24_some.l0])) ?_
          exact Ev.neg hlt (Ev.ret rfl)
        · obtain ⟨x, x1, x2⟩ := hx h
          obtain ⟨e', k1, k2, k3, k4, k5, k6, k7, k8⟩ := line_pair hp
          obtain rfl : e' = e := by omega
          exact ⟨x, x1, by rw [show N - L.length = 0 by omega, vAt_zero k8 hp h2]; exact x2⟩
end Go.Proofs.YtckfdehendifoaaDoor
/- The parts of layer 24 (paste), further: a text so many times (times); Flip and Over (MOD QP). -/
namespace Go.Proofs.YtckfdehendifoaaDoor
open Go.RowKit
set_option linter.unusedVariables false
set_option linter.unusedSimpArgs false
open Go.RowKit Go.Proofs.YtckfdehendifoaaDoor.QP Go.Proofs.YtckfdehendifoaaDoorW.PrintWords Go.Proofs.YtckfdehendifoaaDoorW.PrintMore
def repB (s b : List UInt8) : Nat → List UInt8
  | 0 => []
  | 1 => s
  | n + 2 => repB s b (n + 1) ++ b ++ s
theorem tail_snoc (b : List UInt8) : ∀ (r : List (List UInt8)) (x : List UInt8), Lib.joinTail b (r ++ [x]) = Lib.joinTail b r ++ b ++ x := by
  intro r x
  simp [Lib.joinTail, List.append_assoc]
theorem join_rep (s b : List UInt8) : ∀ n, Lib.join (List.replicate n s) b = repB s b n := by
  have tl : ∀ n, s ++ Lib.joinTail b (List.replicate n s) = repB s b (n + 1) := by
    intro n
    induction n with
    | zero => simp [Lib.joinTail, repB]
    | succ n ih => rw [repB, ← ih, List.replicate_succ', tail_snoc]; simp [List.append_assoc]
  intro n
  cases n with
  | zero => rfl
  | succ n => rw [List.replicate_succ, Lib.join_cons, tl]
theorem repB_len (s b : List UInt8) : ∀ n, (repB s b (n + 1)).length = (n + 1) * s.length + n * b.length
  | 0 => by simp [repB]
  | n + 1 => by
    rw [repB, List.length_append, List.length_append, repB_len s b n, Nat.succ_mul (n + 1), Nat.succ_mul n b.length]; omega
def repT (s b : ByteArray) (n : Nat) : ByteArray := ⟨(repB (ls s) (ls b) n).toArray⟩
theorem ls_repT (s b : ByteArray) (n : Nat) : ls (repT s b n) = repB (ls s) (ls b) n := by unfold repT ls; simp
theorem size_repT (s b : ByteArray) (n : Nat) : (repT s b (n + 1)).size = (n + 1) * s.size + n * b.size := by rw [← ls_len, ls_repT, repB_len, ls_len, ls_len]
theorem joinS_rep (s b : ByteArray) (n : Nat) : joinS (List.replicate n s) b = repT s b n := by
  unfold joinS repT
  rw [List.map_replicate]
  show (⟨(Lib.join (List.replicate n (ls s)) (ls b)).toArray⟩ : ByteArray) = _
  rw [join_rep]
theorem set_rep (s z : ByteArray) (n i : Nat) (h : i < n) : (List.replicate i s ++ List.replicate (n - i) z).set i s = List.replicate (i + 1) s ++ List.replicate (n - (i + 1)) z := by
  have e : n - i = (n - (i + 1)) + 1 := by omega
  rw [e, List.replicate_succ, List.set_append_right _ _ (by simp), List.replicate_succ']
  simp
theorem times_l0 (s b : ByteArray) (n : Nat) (hn : 1 ≤ n) (hn2 : n ≤ 4097) (hb : n * (s.size + b.size) ≤ 8194) : ∀ (d i : Nat), n - i ≤ d → i ≤ n → Ev (fun K => paste_times.l0 K s b (List.replicate i s ++ List.replicate (n - i) ⟨#[]⟩) n i) (repT s b n, true) := by
  intro d
  have hz : (Lib.join ((List.replicate n s).map (·.data.toList)) b.data.toList).length ≤ 140737488355328 := by
    rw [List.map_replicate]
    show (Lib.join (List.replicate n (ls s)) (ls b)).length ≤ _
    rw [join_rep]
    obtain ⟨m, rfl⟩ := Nat.exists_eq_succ_of_ne_zero (show n ≠ 0 by omega)
    rw [repB_len, ls_len, ls_len]
    rw [Nat.mul_add] at hb
    have : m * b.size ≤ (m + 1) * b.size := Nat.mul_le_mul_right _ (by omega)
    simp only [Nat.succ_eq_add_one] at hb
    omega
  have last : Ev (fun K => paste_times.l0 K s b (List.replicate n s ++ List.replicate (n - n) ⟨#[]⟩) n n) (repT s b n, true) := by
    refine Ev.step (fun _ => (by rw [paste_times.l0])) ?_
    refine Ev.neg (by omega) ?_
    rw [Nat.sub_self, List.replicate_zero, List.append_nil]
    refine Ev.call (paste_join.eq b _ ⟨by rw [List.length_replicate]; omega, hz⟩) (Ev.ret ?_)
    rw [joinS_rep]
  induction d with
  | zero => intro i h1 h2; obtain rfl : i = n := by omega
            exact last
  | succ d ih =>
    intro i h1 h2
    by_cases he : i = n
    · subst he; exact last
    · refine Ev.step (fun _ => (by rw [paste_times.l0])) ?_
      refine Ev.pos (by omega) (Ev.pos (by omega) (Ev.pos (by simp; omega) ?_))
      rw [Int.toNat_natCast, set_rep s _ n i (by omega), w64 (by omega) (by omega)]
      exact ih (i + 1) (by omega) (by omega)
theorem times_ev (s b : ByteArray) (n : Nat) (hn : 1 ≤ n) (hn2 : n ≤ 4097) (hb : n * (s.size + b.size) ≤ 8194) : Ev (fun K => paste_times.f K s b n) (repT s b n, true) := by
  have h1 : ((n * (s.size + b.size) : Nat) : Int) = (n : Int) * ((s.size : Int) + (b.size : Int)) := by push_cast; rfl
  have h2 : s.size + b.size ≤ n * (s.size + b.size) := Nat.le_mul_of_pos_left _ hn
  unfold paste_times.f
  refine Ev.neg (by omega) ?_
  rw [w64 (n := (s.size : Int) + b.size) (by omega) (by omega), w64 (by omega) (by omega), decide_eq_false (by omega)]
  refine Ev.step (fun _ => (by rw [paste_times.j0])) ?_
  refine Ev.neg (by simp) (Ev.pos (by omega) (Ev.pos (by omega) (Ev.call rfl ?_)))
  have := times_l0 s b n hn hn2 hb n 0 (by omega) (by omega)
  rw [List.replicate_zero, List.nil_append, Nat.sub_zero] at this
  rw [Int.toNat_natCast, List.length_replicate]
  exact this
theorem times_long (s b : ByteArray) (n : Int) (hs : s.size + b.size ≤ 100000) (hn : 1 ≤ n) (h : n > 4097 ∨ n * ((s.size : Int) + (b.size : Int)) > 8194) : Ev (fun K => paste_times.f K s b n) (⟨#[]⟩, false) := by
  have fin : Ev (fun K => paste_times.j0 K s b n true) (⟨#[]⟩, false) := by
    refine Ev.step (fun _ => (by rw [paste_times.j0])) ?_
    exact Ev.pos rfl (Ev.ret rfl)
  unfold paste_times.f
  refine Ev.ite (fun _ => fin) (fun h1 => ?_)
  have h2 : n * ((s.size : Int) + (b.size : Int)) > 8194 := by
    rcases h with h | h
    · omega
    · exact h
  have h3 : n * ((s.size : Int) + (b.size : Int)) ≤ 4097 * ((s.size : Int) + (b.size : Int)) := Int.mul_le_mul_of_nonneg_right (by omega) (by omega)
  rw [w64 (n := (s.size : Int) + b.size) (by omega) (by omega), w64 (by omega) (by omega), decide_eq_true h2]
  exact fin
end Go.Proofs.YtckfdehendifoaaDoor
/- A text at a place (paste.insert), and one so many times without another between (MOD QP). -/
namespace Go.Proofs.YtckfdehendifoaaDoor
open Go.RowKit
set_option linter.unusedVariables false
set_option linter.unusedSimpArgs false
open Go.RowKit Go.Proofs.YtckfdehendifoaaDoor.QP Go.Proofs.YtckfdehendifoaaDoorW.PrintWords Go.Proofs.YtckfdehendifoaaDoorW.PrintMore
theorem repB_nil_succ (s : List UInt8) : ∀ n, repB s [] (n + 1) = repB s [] n ++ s
  | 0 => rfl
  | n + 1 => by rw [repB]; simp
theorem size_rep0 (s : ByteArray) (n : Nat) : (repT s ⟨#[]⟩ n).size = n * s.size := by
  cases n with
  | zero => rw [← ls_len, ls_repT]; simp [repB]
  | succ n => rw [size_repT]; show (n + 1) * s.size + n * 0 = _; rw [Nat.mul_zero, Nat.add_zero]
theorem insert_ok (t s : ByteArray) (at_ : Nat) (ha : at_ ≤ t.size) (h : t.size + s.size ≤ 4096) : paste_insert.f t at_ s = some ((t.extract 0 at_ ++ s) ++ t.extract at_ t.size, 0) := by
  have z1 : (t.extract 0 at_).size = at_ := by rw [ByteArray.size_extract]; omega
  have z2 : (t.extract at_ t.size).size = t.size - at_ := by rw [ByteArray.size_extract]; omega
  unfold paste_insert.f
  rw [w64 (by omega) (by omega), if_neg (by omega), if_pos (by omega), if_pos (by omega), Int.toNat_natCast, if_pos (by rw [z1]; omega), if_pos (by rw [ByteArray.size_append, z1, z2]; omega)]
theorem insert_long (t s : ByteArray) (at_ : Int) (ht : t.size ≤ 100000) (hs : s.size ≤ 1000000) (h : ¬ t.size + s.size ≤ 4096) : paste_insert.f t at_ s = some (⟨#[]⟩, 8) := by
  unfold paste_insert.f
  rw [w64 (by omega) (by omega), if_pos (by omega)]
end Go.Proofs.YtckfdehendifoaaDoor
/- calamusref05.Flip in plain words (MOD QP). -/
namespace Go.Proofs.YtckfdehendifoaaDoor
open Go.RowKit
set_option linter.unusedVariables false
set_option linter.unusedSimpArgs false
open Go.RowKit Go.Proofs.YtckfdehendifoaaDoor.QP Go.Proofs.YtckfdehendifoaaDoorW.PrintWords Go.Proofs.YtckfdehendifoaaDoorW.PrintMore
def tabB (A B : List UInt8) (g : UInt8 → UInt8) : Bool := (List.range 256).all fun n => if 0 ≤ findF (bsI A) n 0 then B[(findF (bsI A) n 0).toNat]? == some (g (UInt8.ofNat n)) else g (UInt8.ofNat n) == UInt8.ofNat n
theorem tab_at {A B : List UInt8} {g : UInt8 → UInt8} (h : tabB A B g = true) (c : UInt8) : (0 ≤ findF (bsI A) c.toNat 0 → B[(findF (bsI A) c.toNat 0).toNat]? = some (g c)) ∧ (¬ 0 ≤ findF (bsI A) c.toNat 0 → g c = c) := by
  have h2 := List.all_eq_true.1 h c.toNat (List.mem_range.2 c.toNat_lt)
  rw [UInt8.ofNat_toNat] at h2
  refine ⟨fun hc => ?_, fun hc => ?_⟩
  · rw [if_pos hc] at h2; simpa using h2
  · rw [if_neg hc] at h2; simpa using h2
theorem swap_l0 (s A B : ByteArray) (g : UInt8 → UInt8) (hs : s.size ≤ 100000) (hA : A.size ≤ 1000) (hB : B.size ≤ 1000) (ht : tabB (ls A) (ls B) g = true) : ∀ (d i : Nat) (out : ByteArray), s.size - i ≤ d → i ≤ s.size → out.size = i → ls out = ((ls s).take i).map g →
    Ev (fun n => calamusref05_swap.l0 n s A B out i) ⟨((ls s).map g).toArray⟩ := by
  intro d
  induction d with
  | zero =>
    intro i out h1 h2 h3 h4
    refine Ev.step (fun _ => (by rw [calamusref05_swap.l0])) ?_
    refine Ev.neg (by omega) (Ev.ret (ba_ext ?_))
    rw [h4, List.take_of_length_le (by rw [ls_len]; omega)]
  | succ d ih =>
    intro i out h1 h2 h3 h4
    by_cases he : i = s.size
    · exact ih i out (by omega) h2 h3 h4
    · have hi : i < (ls s).length := by rw [ls_len]; omega
      have hbt : bt s i = ((ls s)[i].toNat : Int) := by rw [bt_nat s i (by omega)]; exact (inn_get hi).symm
      have htk : (ls s).take (i + 1) = (ls s).take i ++ [(ls s)[i]] := List.take_succ_eq_append_getElem hi
      obtain ⟨t1, t2⟩ := tab_at ht (ls s)[i]
      refine Ev.step (fun _ => (by rw [calamusref05_swap.l0])) ?_
      rw [hbt, calamusref05_in.eq A _ (by omega)]
      simp only [Option.bind_some]
      have hr := find_range (bsI (ls A)) ((ls s)[i].toNat) 
      rw [bsI_len, ls_len] at hr
      refine Ev.pos (by omega) (Ev.pos (by omega) (Ev.ite (fun hk => ?_) (fun hk => ?_)))
      · have hk0 : 0 ≤ findF (bsI (ls A)) ((ls s)[i].toNat : Int) 0 := hk
        obtain ⟨k, hkk⟩ : ∃ k : Nat, findF (bsI (ls A)) ((ls s)[i].toNat : Int) 0 = k := ⟨_, (Int.toNat_of_nonneg hk0).symm⟩
        have hB2 := t1 hk0
        rw [hkk] at hB2 hr ⊢
        rw [Int.toNat_natCast] at hB2
        obtain ⟨hkl, hkv⟩ := List.getElem?_eq_some_iff.1 hB2
        rw [ls_len] at hkl
        rw [w64 (n := (k : Int) + 1) (by omega) (by omega), w64 (n := (i : Int) + 1) (by omega) (by omega), show ((k : Int) + 1).toNat = k + 1 by omega, Int.toNat_natCast, show (i : Int) + 1 = ((i + 1 : Nat) : Int) by omega]
        have hz : (B.extract k (k + 1)).size = 1 := by rw [ByteArray.size_extract]; omega
        refine Ev.pos (by omega) (Ev.pos (by omega) (Ev.pos (by omega) (Ev.pos (by rw [hz]; omega) (ih (i + 1) _ (by omega) (by omega) (by rw [ByteArray.size_append, hz]; omega) ?_))))
        have : ls (B.extract k (k + 1)) = [g (ls s)[i]] := by
          rw [ls_ext2, List.drop_eq_getElem_cons (by rw [ls_len]; exact hkl), hkv, show k + 1 - k = 1 by omega]; rfl
        show ls (out ++ B.extract k (k + 1)) = _
        unfold ls at this h4 ⊢
        rw [ByteArray.data_append, Array.toList_append, this, h4]
        show _ = ((ls s).take (i + 1)).map g
        rw [htk, List.map_append]; rfl
      · have hg := t2 (by omega)
        rw [w64 (n := (i : Int) + 1) (by omega) (by omega), show ((i : Int) + 1).toNat = i + 1 by omega, Int.toNat_natCast, show (i : Int) + 1 = ((i + 1 : Nat) : Int) by omega]
        have hz : (s.extract i (i + 1)).size = 1 := by rw [ByteArray.size_extract]; omega
        refine Ev.pos (by omega) (Ev.pos (by omega) (Ev.pos (by rw [hz]; omega) (ih (i + 1) _ (by omega) (by omega) (by rw [ByteArray.size_append, hz]; omega) ?_)))
        have : ls (s.extract i (i + 1)) = [g (ls s)[i]] := by
          rw [ls_ext2, List.drop_eq_getElem_cons hi, hg, show i + 1 - i = 1 by omega]; rfl
        show ls (out ++ s.extract i (i + 1)) = _
        unfold ls at this h4 ⊢
        rw [ByteArray.data_append, Array.toList_append, this, h4]
        show _ = ((ls s).take (i + 1)).map g
        rw [htk, List.map_append]; rfl
theorem swap_ev (s A B : ByteArray) (g : UInt8 → UInt8) (hs : s.size ≤ 100000) (hA : A.size ≤ 1000) (hB : B.size ≤ 1000) (ht : tabB (ls A) (ls B) g = true) : Ev (fun n => calamusref05_swap.f n s A B) ⟨((ls s).map g).toArray⟩ := by
  unfold calamusref05_swap.f
  exact swap_l0 s A B g hs hA hB ht s.size 0 _ (by omega) (by omega) rfl rfl
theorem rflip_ev (s : ByteArray) (hz : s.size ≤ 100000) : Ev (fun k => calamusref05_Flip.f k s) (flS s) := by
  unfold calamusref05_Flip.f
  exact Ev.bind (swap_ev s _ _ (fun b => b8 (flB b.toNat)) hz (by decide) (by decide) (by decide +kernel)) (Ev.ret rfl)
end Go.Proofs.YtckfdehendifoaaDoor
/- line.First in plain words (MOD QP). -/
namespace Go.Proofs.YtckfdehendifoaaDoor
open Go.RowKit
set_option linter.unusedVariables false
set_option linter.unusedSimpArgs false
open Go.RowKit Go.Proofs.YtckfdehendifoaaDoor.QP Go.Proofs.YtckfdehendifoaaDoorW.PrintWords Go.Proofs.YtckfdehendifoaaDoorW.PrintMore
theorem first_val (t : ByteArray) (k : Int) (ht : t.size ≤ 1000000) : line_First.f t k = some (firstI (ls t) k) := by
  unfold line_First.f firstI
  rw [line_find.eq t k (by omega)]
  simp only [Option.bind_some]
  cases hl : lineI (ls t) k with
  | none => simp
  | some x =>
    obtain ⟨a1, a2, a3, _, _⟩ := lineI_le hl
    rw [ls_len] at a2
    have hs : startI (ls t) k = x.1 := by unfold startI; rw [hl]
    have he : endI (ls t) k = x.2 := by unfold endI; rw [hl]
    rw [hs, he]
    have hrow : ls (t.extract x.1 x.2) = rowL (ls t) x := ls_ext2 t x.1 x.2
    have hrl : (rowL (ls t) x).length = x.2 - x.1 := rowL_len a1 (by rw [ls_len]; exact a2)
    have hbl := blk_le (rowL (ls t) x)
    have hts : (trS (t.extract x.1 x.2) ⟨#[32, 9]⟩).size = (x.2 - x.1) - blk (rowL (ls t) x) := by
      rw [trS_size _ _ rfl, hrow, ← ls_len, hrow, hrl]
    rw [if_pos (show (some x).isSome = true from rfl), if_pos (show (0 : Int) ≤ x.1 by omega), if_pos (show (x.1 : Int) ≤ x.2 by omega), if_pos (show (x.2 : Int) ≤ t.size by omega), Int.toNat_natCast, Int.toNat_natCast, strings_TrimLeft.eq _ _ ⟨by decide, by decide⟩]
    simp only [Option.bind_some]
    rw [line_Clamp.eq t _ (by omega)]
    simp only [Option.bind_some]
    rw [hrl]
    by_cases hc : blk (rowL (ls t) x) = x.2 - x.1
    · rw [if_pos ((empty_iff _).2 (by rw [hts]; omega)), if_pos hc]
    · rw [if_neg (fun h => hc (by have := (empty_iff _).1 h; rw [hts] at this; omega)), if_neg hc, w64 (by rw [hts]; omega) (by rw [hts]; omega), hts]
      congr 1; omega
end Go.Proofs.YtckfdehendifoaaDoor
/- The contract of line.Normal. -/
namespace Go.Proofs.YtckfdehendifoaaDoor
open Go.RowKit
set_option linter.unusedVariables false
set_option linter.unusedSimpArgs false
set_option maxHeartbeats 4000000 in
set_option maxRecDepth 100000 in
theorem lnormal_c (s : ByteArray) (p : Int) (w : World) (hs : s.size ≤ 1099511627775) : Calls Tryd.prog 11 #[.string s, .int .i64 p] w fun e w' => e = .returned (.bool (normalB (ls s) p)) ∧ Ext w w' := by
  rcases place_cases s p with hp | ⟨q, rfl, hq, hp, hv⟩
  · have H : Hid (normalB (ls s) p = false) := Lib.hid (by unfold normalB; rw [hp]; rfl)
    go_enter Tryd.func11, Tryd.ntmps11
    go_wp2_with (first | (go_at_call 19; refine (place_c _ _ _ (by omega)).mono ?_; rintro e w1 ⟨rfl, hx1⟩))
    go_ret
    exact ⟨retb H.out.symm, (by (repeat (first | exact Ext.refl _ | exact ‹Ext _ _› | refine Ext.alloc ?_ _ | refine Ext.drew ?_ | refine Ext.drewN ?_ _ | (refine Ext.setCell ?_ (by first | omega | (simp; done) | (simp; omega)) _) | refine Ext.trans ?_ ‹Ext _ _›)))⟩
  · have H : Hid (normalB (ls s) q = (!endsB (ls s) q || decide (lst (ls s) q = q))) := Lib.hid (by unfold normalB; rw [hp, Int.toNat_natCast, Bool.true_and])
    obtain ⟨b, hb⟩ : ∃ b, endsB (ls s) q = b := ⟨_, rfl⟩
    have Hb := Lib.hid hb
    obtain ⟨m, hm⟩ : ∃ m, lst (ls s) q = m := ⟨_, rfl⟩
    have Hm := Lib.hid hm
    have hbeg : ∀ w, Calls Tryd.prog 45 #[.string s, .int .i64 q] w fun e w' => e = .returned (.int .i64 (m : Nat)) ∧ Ext w w' := fun w => by rw [← hm]; exact begin_c s q hq w hs
    clear hm
    cases b with
    | true =>
      go_enter Tryd.func11, Tryd.ntmps11
      go_wp2_with (first | (go_at_call 19; refine (place_c _ _ _ (by omega)).mono ?_; rintro e w1 ⟨rfl, hx1⟩) | (go_at_call 44; refine (ends_c s q hq _ hs).mono ?_; rintro e w1 ⟨rfl, hx1⟩) | (go_at_call 45; refine (hbeg _).mono ?_; rintro e w1 ⟨rfl, hx1⟩))
      all_goals (go_ret; refine ⟨retb ?_, (by (repeat (first | exact Ext.refl _ | exact ‹Ext _ _› | refine Ext.alloc ?_ _ | refine Ext.drew ?_ | refine Ext.drewN ?_ _ | (refine Ext.setCell ?_ (by first | omega | (simp; done) | (simp; omega)) _) | refine Ext.trans ?_ ‹Ext _ _›)))⟩; rw [H.out, Hb.out, Hm.out]; first | rfl | (rw [Bool.eq_iff_iff]; simp <;> omega) | (simp <;> omega))
    | false =>
      go_enter Tryd.func11, Tryd.ntmps11
      go_wp2_with (first | (go_at_call 19; refine (place_c _ _ _ (by omega)).mono ?_; rintro e w1 ⟨rfl, hx1⟩) | (go_at_call 44; refine (ends_c s q hq _ hs).mono ?_; rintro e w1 ⟨rfl, hx1⟩))
      go_ret
      exact ⟨retb (by rw [H.out, Hb.out]; rfl), (by (repeat (first | exact Ext.refl _ | exact ‹Ext _ _› | refine Ext.alloc ?_ _ | refine Ext.drew ?_ | refine Ext.drewN ?_ _ | (refine Ext.setCell ?_ (by first | omega | (simp; done) | (simp; omega)) _) | refine Ext.trans ?_ ‹Ext _ _›)))⟩
def line_Normal.f (a0 : ByteArray) (a1 : Int) : Option (Bool) := if a0.size ≤ 1099511627775 then some (normalB (ls a0) a1) else none
theorem line_Normal.eq (a0 : ByteArray) (a1 : Int) (hg : a0.size ≤ 1099511627775) : line_Normal.f a0 a1 = some (normalB (ls a0) a1) := if_pos hg
theorem line_Normal.calls (a0 : ByteArray) (a1 : Int) (r : Bool) (w : World) (h : line_Normal.f a0 a1 = some r) : Calls Tryd.prog 11 #[.string a0, .int .i64 a1] w fun e w' => e = .returned (.bool r) ∧ Below w.heap.size w w' := by
  unfold line_Normal.f at h
  split at h
  · cases h; exact lnormal_c a0 a1 w (by omega)
  · cases h
end Go.Proofs.YtckfdehendifoaaDoor
/- The document's normal places and first signs (calamusref04) and the statements LineNormal, LineLeads in plain words (MOD QP). -/
namespace Go.Proofs.YtckfdehendifoaaDoor
open Go.RowKit
set_option linter.unusedVariables false
set_option linter.unusedSimpArgs false
open Go.RowKit Go.Proofs.YtckfdehendifoaaDoor.QP Go.Proofs.YtckfdehendifoaaDoorW.PrintWords Go.Proofs.YtckfdehendifoaaDoorW.PrintMore
theorem rnormal_val (t : ByteArray) (p : Int) (ht : t.size ≤ 1000000) : calamusref04_Normal.f t p = some (normalB (ls t) p) := by
  unfold calamusref04_Normal.f normalB
  rw [calamusref03_Place.eq t p (by omega)]
  simp only [Option.bind_some]
  split
  · rename_i hp
    obtain ⟨a, rfl, ha⟩ : ∃ a : Nat, p = a ∧ a ≤ (ls t).length := by
      unfold placeB at hp; simp at hp; exact ⟨p.toNat, by omega, by simp; omega⟩
    obtain ⟨_, hl, hv⟩ := valid_at hp
    obtain ⟨h1, h2, e, h3, h4, h5⟩ := start_of hl hv
    have he := line_end hp h3
    rw [calamusref04_Of.eq t a (by omega)]
    simp only [Option.bind_some]
    rw [calamusref04_End.eq t _ (by omega), h3]
    simp only [Option.bind_some]
    rw [hp, Bool.true_and, Int.toNat_natCast]
    split
    · rename_i hlt
      have : endsB (ls t) a = false := by
        unfold endsB
        have := (end_gt hp h3).1.1 (by omega)
        rw [decide_eq_false (by omega), decide_eq_false this.2]; rfl
      rw [this]; rfl
    · rename_i hlt
      have hae : a = e := by omega
      subst hae
      have : endsB (ls t) a = true := by unfold endsB; simpa using he
      rw [this, calamusref04_Start.eq t _ (by omega), h2]
      simp only [Option.bind_some]
      congr 1
      rw [Bool.eq_iff_iff]; simp; omega
  · rename_i hp
    rw [show placeB (ls t) p = false by simpa using hp]; rfl
theorem rclamp_l0' (t : ByteArray) (ht : t.size ≤ 1000000) (hv : validL (ls t) = true) : ∀ k : Nat, k ≤ t.size → Ev (fun n => calamusref04_Clamp.l0 n t k) (if endsB (ls t) (downTo (ls t) k) = true ∧ lst (ls t) (downTo (ls t) k) < downTo (ls t) k then prevI (ls t) (downTo (ls t) k : Nat) else (downTo (ls t) k : Nat)) := by
  have hit : ∀ k : Nat, k ≤ t.size → placeB (ls t) k = true → Ev (fun n => calamusref04_Clamp.l0 n t k) (if endsB (ls t) k = true ∧ lst (ls t) k < k then prevI (ls t) (k : Nat) else (k : Nat)) := by
    intro k hk hp
    refine Ev.step (fun _ => (by rw [calamusref04_Clamp.l0])) ?_
    rw [calamusref03_Place.eq t k (by omega), rnormal_val t k ht, calamusref03_Prev.eq t k (by omega)]
    simp only [Option.bind_some]
    have hle := lst_le (ls t) k
    refine Ev.pos hp (Ev.ite (fun h => ?_) (fun h => ?_))
    · rw [if_neg (show ¬ (endsB (ls t) k = true ∧ lst (ls t) k < k) from fun hc => by
        unfold normalB at h; rw [hp, Int.toNat_natCast, hc.1] at h; simp at h; omega)]
      exact Ev.ret rfl
    · rw [if_pos (show endsB (ls t) k = true ∧ lst (ls t) k < k by
        unfold normalB at h; rw [hp, Int.toNat_natCast] at h; simp at h; exact ⟨h.1, by omega⟩)]
      exact Ev.ret rfl
  intro k
  induction k with
  | zero => intro hk; exact hit 0 hk (place_zero hv)
  | succ k ih =>
    intro hk
    rcases Bool.eq_false_or_eq_true (placeB (ls t) ((k + 1 : Nat) : Int)) with hp | hp
    · rw [downTo_hit hp]; exact hit (k + 1) hk hp
    · rw [downTo_miss hp]
      refine Ev.step (fun _ => (by rw [calamusref04_Clamp.l0])) ?_
      rw [calamusref03_Place.eq t _ (by omega)]
      simp only [Option.bind_some]
      rw [w64 (n := ((k + 1 : Nat) : Int) - 1) (by omega) (by omega), show ((k + 1 : Nat) : Int) - 1 = k by omega]
      exact Ev.neg (by rw [hp]; decide) (ih (by omega))
theorem rclamp_ev' (t : ByteArray) (p : Int) (ht : t.size ≤ 1000000) : Ev (fun k => calamusref04_Clamp.f k t p) (clampI (ls t) p) := by
  unfold calamusref04_Clamp.f clampI
  rw [calamusref03_Valid.eq t (by omega)]
  simp only [Option.bind_some]
  refine Ev.ite (fun hv => ?_) (fun hv => ?_)
  · rw [if_pos hv]
    have key : ∀ x : Int, x = cutI (ls t) p → Ev (fun k => calamusref04_Clamp.j1 k t x) (let q := downTo (ls t) (cutI (ls t) p); if endsB (ls t) q = true ∧ lst (ls t) q < q then prevI (ls t) q else q) := by
      rintro x rfl
      refine Ev.step (fun _ => (by rw [calamusref04_Clamp.j1])) ?_
      exact rclamp_l0' t ht hv _ (by unfold cutI; rw [ls_len]; omega)
    refine Ev.ite (fun h => ?_) (fun h => ?_)
    · refine Ev.step (fun _ => (by rw [calamusref04_Clamp.j0])) ?_
      exact Ev.neg (by omega) (key _ (by unfold cutI; rw [ls_len]; omega))
    · refine Ev.step (fun _ => (by rw [calamusref04_Clamp.j0])) ?_
      refine Ev.ite (fun h2 => ?_) (fun h2 => ?_)
      · exact key _ (by unfold cutI; rw [ls_len]; omega)
      · exact key _ (by unfold cutI; rw [ls_len]; omega)
  · rw [if_neg hv]; exact Ev.ret rfl
theorem rfirst_l0 (t : ByteArray) (ht : t.size ≤ 1000000) (k : Int) (b : Nat) (hb : b ≤ t.size) (he : endI (ls t) k = b) : ∀ (d p : Nat), b - p ≤ d → p ≤ b → Ev (fun n => calamusref04_First.l0 n t k p) (if p + blk (rowL (ls t) (p, b)) = b then clampI (ls t) b else ((p + blk (rowL (ls t) (p, b)) : Nat) : Int)) := by
  have hbl : b ≤ (ls t).length := by rw [ls_len]; exact hb
  have stop : ∀ p : Nat, p ≤ b → (p = b ∨ p < b ∧ ¬ (byL (ls t) p = 32 ∨ byL (ls t) p = 9)) → Ev (fun n => calamusref04_First.j1 n t k p) (if p + blk (rowL (ls t) (p, b)) = b then clampI (ls t) b else ((p + blk (rowL (ls t) (p, b)) : Nat) : Int)) := by
    intro p hp h
    refine Ev.step (fun _ => (by rw [calamusref04_First.j1])) ?_
    rw [calamusref04_End.eq t k (by omega), he]
    simp only [Option.bind_some]
    rcases h with rfl | ⟨h1, h2⟩
    · rw [blk_nil, if_pos (show p + 0 = p from rfl)]
      exact Ev.pos rfl (Ev.bind (rclamp_ev' t p ht) (Ev.ret rfl))
    · rw [blk_no h1 hbl h2, if_neg (show ¬ p + 0 = b by omega)]
      exact Ev.neg (by omega) (Ev.ret rfl)
  intro d
  induction d with
  | zero =>
    intro p h1 h2
    obtain rfl : p = b := by omega
    refine Ev.step (fun _ => (by rw [calamusref04_First.l0])) ?_
    rw [calamusref04_End.eq t k (by omega), he]
    simp only [Option.bind_some]
    exact Ev.neg (by omega) (stop p (Nat.le_refl _) (.inl rfl))
  | succ d ih =>
    intro p h1 h2
    by_cases hpb : p = b
    · exact ih p (by omega) h2
    · have hn := ih (p + 1) (by omega) (by omega)
      refine Ev.step (fun _ => (by rw [calamusref04_First.l0])) ?_
      rw [calamusref04_End.eq t k (by omega), he, bt_nat t p (by omega)]
      simp only [Option.bind_some]
      rw [w64 (n := (p : Int) + 1) (by omega) (by omega), show (p : Int) + 1 = ((p + 1 : Nat) : Int) by omega]
      have on : (byL (ls t) p = 32 ∨ byL (ls t) p = 9) → Ev (fun n => calamusref04_First.l0 n t k ((p + 1 : Nat) : Int)) (if p + blk (rowL (ls t) (p, b)) = b then clampI (ls t) b else ((p + blk (rowL (ls t) (p, b)) : Nat) : Int)) := by
        intro h
        rw [blk_yes (by omega) hbl h, show p + (blk (rowL (ls t) (p + 1, b)) + 1) = p + 1 + blk (rowL (ls t) (p + 1, b)) by omega]
        exact hn
      refine Ev.pos (by omega) (Ev.pos (by omega) (Ev.pos (by omega) (Ev.ite (fun h => on (.inl h)) (fun h => Ev.ite (fun h3 => on (.inr h3)) (fun h3 => stop p h2 (.inr ⟨by omega, by omega⟩))))))
theorem rfirst_ev (t : ByteArray) (k : Int) (ht : t.size ≤ 1000000) : Ev (fun n => calamusref04_First.f n t k) (firstI (ls t) k) := by
  unfold calamusref04_First.f firstI
  rw [calamusref04_Start.eq t k (by omega)]
  simp only [Option.bind_some]
  cases hl : lineI (ls t) k with
  | none =>
    have hs : startI (ls t) k = -1 := by unfold startI; rw [hl]
    rw [hs]; exact Ev.pos (by omega) (Ev.ret rfl)
  | some x =>
    obtain ⟨a1, a2, a3, _, _⟩ := lineI_le hl
    rw [ls_len] at a2
    have hs : startI (ls t) k = x.1 := by unfold startI; rw [hl]
    have he : endI (ls t) k = x.2 := by unfold endI; rw [hl]
    have hrl : (rowL (ls t) x).length = x.2 - x.1 := rowL_len a1 (by rw [ls_len]; exact a2)
    have key := rfirst_l0 t ht k x.2 a2 he _ x.1 (Nat.le_refl _) a1
    rw [hs]
    show Ev _ (if blk (rowL (ls t) x) = (rowL (ls t) x).length then clampI (ls t) x.2 else ((x.1 + blk (rowL (ls t) x) : Nat) : Int))
    rw [hrl]
    have e : (if x.1 + blk (rowL (ls t) (x.1, x.2)) = x.2 then clampI (ls t) x.2 else ((x.1 + blk (rowL (ls t) (x.1, x.2)) : Nat) : Int)) = (if blk (rowL (ls t) x) = x.2 - x.1 then clampI (ls t) x.2 else ((x.1 + blk (rowL (ls t) x) : Nat) : Int)) := by
      by_cases hc : blk (rowL (ls t) x) = x.2 - x.1
      · rw [if_pos hc, if_pos (show x.1 + blk (rowL (ls t) (x.1, x.2)) = x.2 by have : blk (rowL (ls t) (x.1, x.2)) = x.2 - x.1 := hc; omega)]
      · rw [if_neg hc, if_neg (show ¬ x.1 + blk (rowL (ls t) (x.1, x.2)) = x.2 by intro h; exact hc (by have : blk (rowL (ls t) (x.1, x.2)) = blk (rowL (ls t) x) := rfl; omega))]
    rw [e] at key
    exact Ev.neg (by omega) key
end Go.Proofs.YtckfdehendifoaaDoor
/- The contract of calamusref03.Is in the printer's form. -/
namespace Go.Proofs.YtckfdehendifoaaDoor
open Go.RowKit
set_option linter.unusedVariables false
set_option linter.unusedSimpArgs false
def calamusref03_Is.f (a0 : ByteArray) : Option (Bool) := some (isL (ls a0))
theorem calamusref03_Is.eq (a0 : ByteArray) : calamusref03_Is.f a0 = some (isL (ls a0)) := rfl
theorem calamusref03_Is.calls (a0 : ByteArray) (r : Bool) (w : World) (h : calamusref03_Is.f a0 = some r) : Calls Tryd.prog 70 #[.string a0] w fun e w' => e = .returned (.bool r) ∧ Below w.heap.size w w' := by
  unfold calamusref03_Is.f at h
  cases h; exact ris_c a0 w
end Go.Proofs.YtckfdehendifoaaDoor
-- Printed by this work's xp.py out of the translation. Lean checks it.
namespace Go.Proofs.YtckfdehendifoaaDoor.QP
open Go.RowKit Go.Proofs.YtckfdehendifoaaDoorW.PrintWords Go.Proofs.YtckfdehendifoaaDoorW.PrintLast Go.Proofs.YtckfdehendifoaaDoorW.PrintMore
attribute [local go_sem] max2_int min2_int max_two min_two max_three min_three max_four min_four   -- for this text's walks alone
set_option linter.unusedVariables false
set_option linter.unusedSimpArgs false


/-! ### calamusref24_Flip -/
def calamusref24_Flip.f (k : Nat) (a0 : ByteArray) (a1 : Int) (a2 : Int) : Option (ByteArray × Int × Int) := (calamusref03_Place.f a0 a1).bind fun t220 => (if t220 = true then ((calamusref24_some.f k a0 a1 a2).bind fun t221 => (if (t221.length : Int) = 0 then (some ((⟨#[]⟩ : ByteArray), 0, 10)) else (if 0 ≤ (wrap64 ((t221.length : Int) - 1)) then (if (wrap64 ((t221.length : Int) - 1)) < (t221.length : Int) then ((calamusref03_Next.f a0 (rd t221 (wrap64 ((t221.length : Int) - 1)))).bind fun t225 => (if 0 ≤ a1 then (if a1 ≤ (a0.size : Int) then (if a1 ≤ t225 then (if t225 ≤ (a0.size : Int) then ((calamusref05_Flip.f k (a0.extract (a1 : Int).toNat (t225 : Int).toNat)).bind fun t226 => (if (a0.extract 0 (a1 : Int).toNat).size + t226.size ≤ 9223372036854775807 then (if 0 ≤ t225 then (if ((a0.extract 0 (a1 : Int).toNat) ++ t226).size + (a0.extract (t225 : Int).toNat a0.size).size ≤ 9223372036854775807 then ((calamusref04_Clamp.f k (((a0.extract 0 (a1 : Int).toNat) ++ t226) ++ (a0.extract (t225 : Int).toNat a0.size)) t225).bind fun t227 => (some (((a0.extract 0 (a1 : Int).toNat) ++ t226) ++ (a0.extract (t225 : Int).toNat a0.size), t227, 0))) else (none)) else (none)) else (none))) else (none)) else (none)) else (none)) else (none))) else (none)) else (none)))) else (some ((⟨#[]⟩ : ByteArray), 0, 1)))
theorem calamusref24_Flip.mono : ∀ a0 a1 a2 k, LeO (calamusref24_Flip.f k a0 a1 a2) (calamusref24_Flip.f (k + 1) a0 a1 a2) := by
  intro a0 a1 a2 k
  unfold calamusref24_Flip.f
  repeat' first
      | (with_reducible exact calamusref04_Clamp.mono _ _ _)
      | (with_reducible exact calamusref05_Flip.mono _ _)
      | (with_reducible exact calamusref24_some.mono _ _ _ _)
      | (with_reducible exact LeO.refl _)
      | (with_reducible exact LeO.none _)
      | (with_reducible refine LeO.ite ?_ ?_)
      | (with_reducible refine LeO.bind ?_ (fun _ => ?_))
      | exact calamusref04_Clamp.mono _ _ _
      | exact calamusref05_Flip.mono _ _
      | exact calamusref24_some.mono _ _ _ _
      | exact LeO.none _
      | refine LeO.ite ?_ ?_
      | refine LeO.bind ?_ (fun _ => ?_)
def calamusref24_Flip.T7 : Bool × List (List Nat × List Nat) := (true, [([], []), ([], []), ([0, 1], [0, 1]), ([], []), ([], []), ([], []), ([3, 4, 5], [3, 4, 5]), ([6], [6]), ([2, 7], [2, 7]), ([], []), ([], []), ([9, 10], [9, 10]), ([8, 11], [8, 11]), ([12, 7, 0, 1, 2, 3, 4, 5, 6, 7, 8, 9, 10, 11, 12], [12])])
def calamusref24_Flip.B7 : List Nat := [0, 0, 3, 0, 0, 0, 56, 120, 255, 0, 0, 1536, 4095, 8191]
theorem calamusref24_Flip.tab7 : rtab .any (opsOf Tryd.f13 7) = calamusref24_Flip.T7 := by kernel_rfl
theorem calamusref24_Flip.bits7 : waitsOk calamusref24_Flip.T7.2 calamusref24_Flip.B7 = true := by kernel_rfl
set_option maxHeartbeats 8000000 in
set_option maxRecDepth 100000 in
theorem calamusref24_Flip.calls (k : Nat) (a0 : ByteArray) (a1 : Int) (a2 : Int) (r1 : ByteArray) (r2 : Int) (r3 : Int) (w : World) (h : calamusref24_Flip.f k a0 a1 a2 = some (r1, r2, r3)) :
    Calls Tryd.prog 13 #[.string a0, .int .i64 a1, .int .i64 a2] w fun e w' => e = .returned (.tuple #[.string r1, .int .i64 r2, .int .i64 r3]) ∧ Below w.heap.size w w' := by
  have HB := Aside0.mk (Below.refl w.heap.size w)
  have H : ((calamusref03_Place.f a0 a1).bind fun t220 => (if t220 = true then ((calamusref24_some.f k a0 a1 a2).bind fun t221 => (if (t221.length : Int) = 0 then (some ((⟨#[]⟩ : ByteArray), 0, 10)) else (if 0 ≤ (wrap64 ((t221.length : Int) - 1)) then (if (wrap64 ((t221.length : Int) - 1)) < (t221.length : Int) then ((calamusref03_Next.f a0 (rd t221 (wrap64 ((t221.length : Int) - 1)))).bind fun t225 => (if 0 ≤ a1 then (if a1 ≤ (a0.size : Int) then (if a1 ≤ t225 then (if t225 ≤ (a0.size : Int) then ((calamusref05_Flip.f k (a0.extract (a1 : Int).toNat (t225 : Int).toNat)).bind fun t226 => (if (a0.extract 0 (a1 : Int).toNat).size + t226.size ≤ 9223372036854775807 then (if 0 ≤ t225 then (if ((a0.extract 0 (a1 : Int).toNat) ++ t226).size + (a0.extract (t225 : Int).toNat a0.size).size ≤ 9223372036854775807 then ((calamusref04_Clamp.f k (((a0.extract 0 (a1 : Int).toNat) ++ t226) ++ (a0.extract (t225 : Int).toNat a0.size)) t225).bind fun t227 => (some (((a0.extract 0 (a1 : Int).toNat) ++ t226) ++ (a0.extract (t225 : Int).toNat a0.size), t227, 0))) else (none)) else (none)) else (none))) else (none)) else (none)) else (none)) else (none))) else (none)) else (none)))) else (some ((⟨#[]⟩ : ByteArray), 0, 1)))) = some (r1, r2, r3) := h
  clear h
  replace H := Option.bind_eq_some_iff.mp H
  obtain ⟨t220, A40, H⟩ := H
  replace H : (if t220 = true then ((calamusref24_some.f k a0 a1 a2).bind fun t221 => (if (t221.length : Int) = 0 then (some ((⟨#[]⟩ : ByteArray), 0, 10)) else (if 0 ≤ (wrap64 ((t221.length : Int) - 1)) then (if (wrap64 ((t221.length : Int) - 1)) < (t221.length : Int) then ((calamusref03_Next.f a0 (rd t221 (wrap64 ((t221.length : Int) - 1)))).bind fun t225 => (if 0 ≤ a1 then (if a1 ≤ (a0.size : Int) then (if a1 ≤ t225 then (if t225 ≤ (a0.size : Int) then ((calamusref05_Flip.f k (a0.extract (a1 : Int).toNat (t225 : Int).toNat)).bind fun t226 => (if (a0.extract 0 (a1 : Int).toNat).size + t226.size ≤ 9223372036854775807 then (if 0 ≤ t225 then (if ((a0.extract 0 (a1 : Int).toNat) ++ t226).size + (a0.extract (t225 : Int).toNat a0.size).size ≤ 9223372036854775807 then ((calamusref04_Clamp.f k (((a0.extract 0 (a1 : Int).toNat) ++ t226) ++ (a0.extract (t225 : Int).toNat a0.size)) t225).bind fun t227 => (some (((a0.extract 0 (a1 : Int).toNat) ++ t226) ++ (a0.extract (t225 : Int).toNat a0.size), t227, 0))) else (none)) else (none)) else (none))) else (none)) else (none)) else (none)) else (none))) else (none)) else (none)))) else (some ((⟨#[]⟩ : ByteArray), 0, 1))) = some (r1, r2, r3) := H
  have A4 := Aside0.mk A40
  clear A40
  by_cases c5 : t220 = true
  · subst c5
    have H1 : ((calamusref24_some.f k a0 a1 a2).bind fun t221 => (if (t221.length : Int) = 0 then (some ((⟨#[]⟩ : ByteArray), 0, 10)) else (if 0 ≤ (wrap64 ((t221.length : Int) - 1)) then (if (wrap64 ((t221.length : Int) - 1)) < (t221.length : Int) then ((calamusref03_Next.f a0 (rd t221 (wrap64 ((t221.length : Int) - 1)))).bind fun t225 => (if 0 ≤ a1 then (if a1 ≤ (a0.size : Int) then (if a1 ≤ t225 then (if t225 ≤ (a0.size : Int) then ((calamusref05_Flip.f k (a0.extract (a1 : Int).toNat (t225 : Int).toNat)).bind fun t226 => (if (a0.extract 0 (a1 : Int).toNat).size + t226.size ≤ 9223372036854775807 then (if 0 ≤ t225 then (if ((a0.extract 0 (a1 : Int).toNat) ++ t226).size + (a0.extract (t225 : Int).toNat a0.size).size ≤ 9223372036854775807 then ((calamusref04_Clamp.f k (((a0.extract 0 (a1 : Int).toNat) ++ t226) ++ (a0.extract (t225 : Int).toNat a0.size)) t225).bind fun t227 => (some (((a0.extract 0 (a1 : Int).toNat) ++ t226) ++ (a0.extract (t225 : Int).toNat a0.size), t227, 0))) else (none)) else (none)) else (none))) else (none)) else (none)) else (none)) else (none))) else (none)) else (none)))) = some (r1, r2, r3) := by rw [if_pos rfl] at H; exact H
    clear H
    have H := H1
    clear H1
    replace H := Option.bind_eq_some_iff.mp H
    obtain ⟨t221, A60, H⟩ := H
    replace H : (if (t221.length : Int) = 0 then (some ((⟨#[]⟩ : ByteArray), 0, 10)) else (if 0 ≤ (wrap64 ((t221.length : Int) - 1)) then (if (wrap64 ((t221.length : Int) - 1)) < (t221.length : Int) then ((calamusref03_Next.f a0 (rd t221 (wrap64 ((t221.length : Int) - 1)))).bind fun t225 => (if 0 ≤ a1 then (if a1 ≤ (a0.size : Int) then (if a1 ≤ t225 then (if t225 ≤ (a0.size : Int) then ((calamusref05_Flip.f k (a0.extract (a1 : Int).toNat (t225 : Int).toNat)).bind fun t226 => (if (a0.extract 0 (a1 : Int).toNat).size + t226.size ≤ 9223372036854775807 then (if 0 ≤ t225 then (if ((a0.extract 0 (a1 : Int).toNat) ++ t226).size + (a0.extract (t225 : Int).toNat a0.size).size ≤ 9223372036854775807 then ((calamusref04_Clamp.f k (((a0.extract 0 (a1 : Int).toNat) ++ t226) ++ (a0.extract (t225 : Int).toNat a0.size)) t225).bind fun t227 => (some (((a0.extract 0 (a1 : Int).toNat) ++ t226) ++ (a0.extract (t225 : Int).toNat a0.size), t227, 0))) else (none)) else (none)) else (none))) else (none)) else (none)) else (none)) else (none))) else (none)) else (none))) = some (r1, r2, r3) := H
    have A6 := Aside0.mk A60
    clear A60
    by_cases c7 : (t221.length : Int) = 0
    · rw [if_pos c7] at H
      have c7b0 : ((t221.length : Int) == 0) = true := beq_iff_eq.mpr c7
      have c7b1 : ((t221.length : Int) != 0) = false := bne_eq_false_iff_eq.mpr c7
      clear c7
      simp only [Option.some.injEq, Prod.mk.injEq] at H
      obtain ⟨rfl, rfl, rfl⟩ := H
      go_enter Tryd.func13, Tryd.ntmps13
      go_wp2_with (first | ((with_reducible refine gate_callee (f := 30) rfl ?_); refine goesL_ (some 14) rfl rfl Tryd.func30 (by kernel_rfl) rfl #[.string a0, .int .i64 a1] rfl (by (try simp only [List.map_toArray, List.map_cons, List.map_nil]); first | done | rfl | (simp only [List.length_drop, List.length_take]; rfl)) ?_; (with_reducible refine (calamusref03_Place.calls a0 a1 true _ A4.out).mono ?_); rintro e w8 ⟨rfl, hb⟩; refine ⟨_, rfl, ?_⟩; have n0_ := Aside0.mk (below_step (by repeat (first | (with_reducible first | exact HB.out | apply below_alloc | apply pw_below_drewN | apply below_drew1) | exact HB.out)) hb); clear HB; have HB := n0_; clear n0_; (try clear hb); (try clear hb2); (try clear hk); (try clear hi)) | ((with_reducible refine gate_callee (f := 48) rfl ?_); refine goesL_ (some 19) rfl rfl Tryd.func48 (by kernel_rfl) rfl #[.string a0, .int .i64 a1, .int .i64 a2] rfl (by (try simp only [List.map_toArray, List.map_cons, List.map_nil]); first | done | rfl | (simp only [List.length_drop, List.length_take]; rfl)) ?_; (with_reducible refine (calamusref24_some.calls k a0 a1 a2 t221 _ A6.out).mono ?_); rintro e w9 ⟨v222, rfl, ho0, hb⟩; refine ⟨_, rfl, ?_⟩; have n0_ := Aside0.mk (Kd.R_lower ho0 (below_size (by repeat (first | (with_reducible first | exact HB.out | apply below_alloc | apply pw_below_drewN | apply below_drew1) | exact HB.out)))); have n1_ := Aside0.mk (below_step (by repeat (first | (with_reducible first | exact HB.out | apply below_alloc | apply pw_below_drewN | apply below_drew1) | exact HB.out)) hb); clear HB; have HO223 := n0_; have HB := n1_; clear n0_ n1_; (try clear hb); (try clear hb2); (try clear hk); (try clear hi); (try clear ho0); obtain ⟨Ao10, co10, eo10⟩ := Kd.R_slice HO223.out; subst eo10))
      go_ret3
      exact ⟨by first | rfl | (simp [errW_none, errW_some] <;> rfl) | (simp [*, errW_none, errW_some] <;> rfl), by repeat (first | (with_reducible first | exact HB.out | apply below_alloc | apply pw_below_drewN | apply below_drew1) | exact HB.out)⟩
    · rw [if_neg c7] at H
      have c7b0 : ((t221.length : Int) == 0) = false := beq_eq_false_iff_ne.mpr c7
      have c7b1 : ((t221.length : Int) != 0) = true := bne_iff_ne.mpr c7
      have c7b2 : ¬ (t221 = []) := fun h_ => c7 (by rw [h_]; rfl)
      obtain ⟨ji11, hji11⟩ : ∃ j_ : Int, (wrap64 ((t221.length : Int) - 1)) = j_ := ⟨_, rfl⟩
      replace H : (if 0 ≤ (ji11) then (if (ji11) < (t221.length : Int) then ((calamusref03_Next.f a0 (rd t221 (ji11))).bind fun t225 => (if 0 ≤ a1 then (if a1 ≤ (a0.size : Int) then (if a1 ≤ t225 then (if t225 ≤ (a0.size : Int) then ((calamusref05_Flip.f k (a0.extract (a1 : Int).toNat (t225 : Int).toNat)).bind fun t226 => (if (a0.extract 0 (a1 : Int).toNat).size + t226.size ≤ 9223372036854775807 then (if 0 ≤ t225 then (if ((a0.extract 0 (a1 : Int).toNat) ++ t226).size + (a0.extract (t225 : Int).toNat a0.size).size ≤ 9223372036854775807 then ((calamusref04_Clamp.f k (((a0.extract 0 (a1 : Int).toNat) ++ t226) ++ (a0.extract (t225 : Int).toNat a0.size)) t225).bind fun t227 => (some (((a0.extract 0 (a1 : Int).toNat) ++ t226) ++ (a0.extract (t225 : Int).toNat a0.size), t227, 0))) else (none)) else (none)) else (none))) else (none)) else (none)) else (none)) else (none))) else (none)) else (none)) = some (r1, r2, r3) := by first | (rw [hji11] at H; exact H) | (simp only [hji11] at H ⊢; exact H)
      (try rw [hji11] at A4)
      (try rw [hji11] at A6)
      have hji11w : (IntKind.i64.wrap ((t221.length : Int) - 1)) = ji11 := (i64_w _).trans hji11
      by_cases c12 : 0 ≤ (ji11)
      · rw [if_pos c12] at H
        have c12b0 : decide (0 ≤ (ji11)) = true := decide_eq_true c12
        clear c12
        by_cases c13 : (ji11) < (t221.length : Int)
        · rw [if_pos c13] at H
          have c13b0 : decide ((ji11) < (t221.length : Int)) = true := decide_eq_true c13
          clear c13
          replace H := Option.bind_eq_some_iff.mp H
          obtain ⟨t225, A140, H⟩ := H
          replace H : (if 0 ≤ a1 then (if a1 ≤ (a0.size : Int) then (if a1 ≤ t225 then (if t225 ≤ (a0.size : Int) then ((calamusref05_Flip.f k (a0.extract (a1 : Int).toNat (t225 : Int).toNat)).bind fun t226 => (if (a0.extract 0 (a1 : Int).toNat).size + t226.size ≤ 9223372036854775807 then (if 0 ≤ t225 then (if ((a0.extract 0 (a1 : Int).toNat) ++ t226).size + (a0.extract (t225 : Int).toNat a0.size).size ≤ 9223372036854775807 then ((calamusref04_Clamp.f k (((a0.extract 0 (a1 : Int).toNat) ++ t226) ++ (a0.extract (t225 : Int).toNat a0.size)) t225).bind fun t227 => (some (((a0.extract 0 (a1 : Int).toNat) ++ t226) ++ (a0.extract (t225 : Int).toNat a0.size), t227, 0))) else (none)) else (none)) else (none))) else (none)) else (none)) else (none)) else (none)) = some (r1, r2, r3) := H
          have A14 := Aside0.mk A140
          clear A140
          by_cases c15 : 0 ≤ a1
          · rw [if_pos c15] at H
            have c15b0 := eq_true c15
            have c15b1 : decide (0 ≤ a1) = true := decide_eq_true c15
            clear c15
            by_cases c16 : a1 ≤ (a0.size : Int)
            · rw [if_pos c16] at H
              have c16b0 := eq_true c16
              have c16b1 : decide (a1 ≤ (a0.size : Int)) = true := decide_eq_true c16
              clear c16
              have c17b0 := eq_true (of_decide_eq_true (by first | (with_reducible assumption) | assumption) : 0 ≤ a1)
              by_cases c18 : a1 ≤ t225
              · rw [if_pos c18] at H
                have c18b0 := eq_true c18
                have c18b1 : decide (a1 ≤ t225) = true := decide_eq_true c18
                clear c18
                by_cases c19 : t225 ≤ (a0.size : Int)
                · rw [if_pos c19] at H
                  have c19b0 := eq_true c19
                  have c19b1 : decide (t225 ≤ (a0.size : Int)) = true := decide_eq_true c19
                  clear c19
                  replace H := Option.bind_eq_some_iff.mp H
                  obtain ⟨t226, A200, H⟩ := H
                  replace H : (if (a0.extract 0 (a1 : Int).toNat).size + t226.size ≤ 9223372036854775807 then (if 0 ≤ t225 then (if ((a0.extract 0 (a1 : Int).toNat) ++ t226).size + (a0.extract (t225 : Int).toNat a0.size).size ≤ 9223372036854775807 then ((calamusref04_Clamp.f k (((a0.extract 0 (a1 : Int).toNat) ++ t226) ++ (a0.extract (t225 : Int).toNat a0.size)) t225).bind fun t227 => (some (((a0.extract 0 (a1 : Int).toNat) ++ t226) ++ (a0.extract (t225 : Int).toNat a0.size), t227, 0))) else (none)) else (none)) else (none)) = some (r1, r2, r3) := H
                  have A20 := Aside0.mk A200
                  clear A200
                  by_cases c21 : (a0.extract 0 (a1 : Int).toNat).size + t226.size ≤ 9223372036854775807
                  · rw [if_pos c21] at H
                    have c21b0 := eq_true c21
                    have c21b1 : decide ((a0.extract 0 (a1 : Int).toNat).size + t226.size ≤ 9223372036854775807) = true := decide_eq_true c21
                    try have c21b2 : (9223372036854775807 < (a0.extract 0 (a1 : Int).toNat).size + t226.size) = False := eq_false (Nat.not_lt.2 c21)
                    try have c21b3 : (9223372036854775807 < a1.toNat + t226.size) = False := eq_false (Nat.not_lt.2 (by have q := c21; simp only [ByteArray.size_append, ByteArray.size_extract] at q; have q0 : (a1 : Int) ≤ (a0.size : Int) := of_decide_eq_true (by assumption); have p0 : (0 : Int) ≤ a1 := of_decide_eq_true (by assumption); omega))
                    by_cases c22 : 0 ≤ t225
                    · rw [if_pos c22] at H
                      have c22b0 := eq_true c22
                      have c22b1 : decide (0 ≤ t225) = true := decide_eq_true c22
                      clear c22
                      have c23b0 := eq_true (of_decide_eq_true (by first | (with_reducible assumption) | assumption) : t225 ≤ (a0.size : Int))
                      by_cases c24 : ((a0.extract 0 (a1 : Int).toNat) ++ t226).size + (a0.extract (t225 : Int).toNat a0.size).size ≤ 9223372036854775807
                      · rw [if_pos c24] at H
                        have c24b0 := eq_true c24
                        have c24b1 : decide (((a0.extract 0 (a1 : Int).toNat) ++ t226).size + (a0.extract (t225 : Int).toNat a0.size).size ≤ 9223372036854775807) = true := decide_eq_true c24
                        try have c24b2 : (9223372036854775807 < ((a0.extract 0 (a1 : Int).toNat) ++ t226).size + (a0.extract (t225 : Int).toNat a0.size).size) = False := eq_false (Nat.not_lt.2 c24)
                        try have c24b3 : (9223372036854775807 < a1.toNat + t226.size + (a0.size - t225.toNat)) = False := eq_false (Nat.not_lt.2 (by have q := c24; simp only [ByteArray.size_append, ByteArray.size_extract] at q; have q0 : (a1 : Int) ≤ (a0.size : Int) := of_decide_eq_true (by assumption); have p0 : (0 : Int) ≤ a1 := of_decide_eq_true (by assumption); have q1 : (t225 : Int) ≤ (a0.size : Int) := of_decide_eq_true (by assumption); have p1 : (0 : Int) ≤ t225 := of_decide_eq_true (by assumption); omega))
                        replace H := Option.bind_eq_some_iff.mp H
                        obtain ⟨t227, A250, H⟩ := H
                        replace H : (some (((a0.extract 0 (a1 : Int).toNat) ++ t226) ++ (a0.extract (t225 : Int).toNat a0.size), t227, 0)) = some (r1, r2, r3) := H
                        have A25 := Aside0.mk A250
                        clear A250
                        simp only [Option.some.injEq, Prod.mk.injEq] at H
                        obtain ⟨rfl, rfl, rfl⟩ := H
                        go_enter Tryd.func13, Tryd.ntmps13
                        try go_wp2_with (first | ((with_reducible refine gate_callee (f := 30) rfl ?_); refine goesL_ (some 14) rfl rfl Tryd.func30 (by kernel_rfl) rfl #[.string a0, .int .i64 a1] rfl (by (try simp only [List.map_toArray, List.map_cons, List.map_nil]); first | done | rfl | (simp only [List.length_drop, List.length_take]; rfl)) ?_; (with_reducible refine (calamusref03_Place.calls a0 a1 true _ A4.out).mono ?_); rintro e w26 ⟨rfl, hb⟩; refine ⟨_, rfl, ?_⟩; have n0_ := Aside0.mk (below_step (by repeat (first | (with_reducible first | exact HB.out | apply below_alloc | apply pw_below_drewN | apply below_drew1) | exact HB.out)) hb); clear HB; have HB := n0_; clear n0_; (try clear hb); (try clear hb2); (try clear hk); (try clear hi)) | ((with_reducible refine gate_callee (f := 48) rfl ?_); refine goesL_ (some 19) rfl rfl Tryd.func48 (by kernel_rfl) rfl #[.string a0, .int .i64 a1, .int .i64 a2] rfl (by (try simp only [List.map_toArray, List.map_cons, List.map_nil]); first | done | rfl | (simp only [List.length_drop, List.length_take]; rfl)) ?_; (with_reducible refine (calamusref24_some.calls k a0 a1 a2 t221 _ A6.out).mono ?_); rintro e w27 ⟨v222, rfl, ho0, hb⟩; refine ⟨_, rfl, ?_⟩; have n0_ := Aside0.mk (Kd.R_lower ho0 (below_size (by repeat (first | (with_reducible first | exact HB.out | apply below_alloc | apply pw_below_drewN | apply below_drew1) | exact HB.out)))); have n1_ := Aside0.mk (below_step (by repeat (first | (with_reducible first | exact HB.out | apply below_alloc | apply pw_below_drewN | apply below_drew1) | exact HB.out)) hb); clear HB; have HO223 := n0_; have HB := n1_; clear n0_ n1_; (try clear hb); (try clear hb2); (try clear hk); (try clear hi); (try clear ho0); obtain ⟨Ao28, co28, eo28⟩ := Kd.R_slice HO223.out; subst eo28; have p224 : 0 ≤ ((ji11) : Int) := of_decide_eq_true (by first | (with_reducible assumption) | assumption); have q224 : (ji11) < (t221.length : Int) := of_decide_eq_true (by first | (with_reducible assumption) | assumption); obtain ⟨ad224, e224, hx224_0⟩ := Kd.at_int (Kd.R_reads' HO223.out).2.2 (ji11) p224 q224; cases e224; replace p224 := eq_true p224; replace q224 := eq_true q224) | ((with_reducible refine gate_callee (f := 37) rfl ?_); refine goesL_ (some 30) rfl rfl Tryd.func37 (by kernel_rfl) rfl #[.string a0, .int .i64 (rd t221 (ji11))] rfl (by (try simp only [List.map_toArray, List.map_cons, List.map_nil]); first | done | (simp only [hji11]; rfl) | rfl | (simp only [List.length_drop, List.length_take]; rfl)) ?_; (with_reducible refine (calamusref03_Next.calls a0 (rd t221 (ji11)) t225 _ A14.out).mono ?_); rintro e w29 ⟨rfl, hb⟩; refine ⟨_, rfl, ?_⟩; have n0_ := Aside0.mk (Kd.R_below (by (with_reducible repeat (first | apply Kd.R_alloc | apply Kd.R_drewN | apply Kd.R_drew)); exact HO223.out) hb); have n1_ := Aside0.mk (below_step (by repeat (first | (with_reducible first | exact HB.out | apply below_alloc | apply pw_below_drewN | apply below_drew1) | exact HB.out)) hb); clear HO223; clear HB; have HO223 := n0_; have HB := n1_; clear n0_ n1_; (try clear hb); (try clear hb2); (try clear hk); (try clear hi)))
                        have n0_ := Aside0.mk (Kd.R_drew HO223.out)
                        have n1_ := Aside0.mk (below_drew1 HB.out)
                        clear HO223
                        clear HB
                        have HO223 := n0_
                        have HB := n1_
                        clear n0_ n1_
                        refine start_ (n := 14) (S := fun w' => True) (ds := []) #[false, false, false, false, false, false, false, false, false, false, false, false, false, false] (by kernel_rfl) rfl rfl trivial (fun hHeld => ?_); refine with_tabW calamusref24_Flip.tab7 calamusref24_Flip.bits7 (fun HT_ HW_ => ?_)
                        generalize w29.drew = w30 at HO223 HB hHeld ⊢
                        refine pure_ (i := 0) (N := some 31) (v := ?_) (a' := ?_) #[true, false, false, false, false, false, false, false, false, false, false, false, false, false] rfl rfl (any_of HT_.out (by kernel_rfl)) (fun _ _ _ h => h) (Or.inl ⟨by rfl, ?_⟩) ?_ ?_
                        rotate_left
                        · intro w'
                          go_simp
                          with_reducible rfl
                        rotate_left
                        · simp only [Act.put, List.setIfInBounds_toArray, List.set_cons_zero, List.set_cons_succ, i64_w, i32_w]
                          rfl
                        refine pure_ (i := 1) (N := some 32) (v := ?_) (a' := ?_) #[true, true, false, false, false, false, false, false, false, false, false, false, false, false] rfl rfl (any_of HT_.out (by kernel_rfl)) (fun _ _ _ h => h) (Or.inl ⟨by rfl, ?_⟩) ?_ ?_
                        rotate_left
                        · intro w'
                          go_simp
                          with_reducible rfl
                        rotate_left
                        · simp only [Act.put, List.setIfInBounds_toArray, List.set_cons_zero, List.set_cons_succ, i64_w, i32_w]
                          rfl
                        refine pure_ (i := 2) (N := some 33) (v := ?_) (a' := ?_) #[true, true, true, false, false, false, false, false, false, false, false, false, false, false] rfl rfl (any_of HT_.out (by kernel_rfl)) (fun _ _ _ h => h) (Or.inl ⟨by rfl, ?_⟩) ?_ ?_
                        rotate_left
                        · intro w'
                          go_simp
                          with_reducible rfl
                        rotate_left
                        · simp only [Act.put, List.setIfInBounds_toArray, List.set_cons_zero, List.set_cons_succ, i64_w, i32_w]
                          rfl
                        refine pure_ (i := 3) (N := some 34) (v := ?_) (a' := ?_) #[true, true, true, true, false, false, false, false, false, false, false, false, false, false] rfl rfl (any_of HT_.out (by kernel_rfl)) (fun _ _ _ h => h) (Or.inl ⟨by rfl, ?_⟩) ?_ ?_
                        rotate_left
                        · intro w'
                          go_simp
                          with_reducible rfl
                        rotate_left
                        · simp only [Act.put, List.setIfInBounds_toArray, List.set_cons_zero, List.set_cons_succ, i64_w, i32_w]
                          rfl
                        refine pure_ (i := 4) (N := some 35) (v := ?_) (a' := ?_) #[true, true, true, true, true, false, false, false, false, false, false, false, false, false] rfl rfl (any_of HT_.out (by kernel_rfl)) (fun _ _ _ h => h) (Or.inl ⟨by rfl, ?_⟩) ?_ ?_
                        rotate_left
                        · intro w'
                          go_simp
                          with_reducible rfl
                        rotate_left
                        · simp only [Act.put, List.setIfInBounds_toArray, List.set_cons_zero, List.set_cons_succ, i64_w, i32_w]
                          rfl
                        refine pure_ (i := 5) (N := some 36) (v := ?_) (a' := ?_) #[true, true, true, true, true, true, false, false, false, false, false, false, false, false] rfl rfl (any_of HT_.out (by kernel_rfl)) (fun _ _ _ h => h) (Or.inl ⟨by rfl, ?_⟩) ?_ ?_
                        rotate_left
                        · intro w'
                          go_simp
                          with_reducible rfl
                        rotate_left
                        · simp only [Act.put, List.setIfInBounds_toArray, List.set_cons_zero, List.set_cons_succ, i64_w, i32_w]
                          rfl
                        refine pure_ (i := 6) (N := some 37) (v := ?_) (a' := ?_) #[true, true, true, true, true, true, true, false, false, false, false, false, false, false] rfl rfl (any_of HT_.out (by kernel_rfl)) (fun _ _ _ h => h) (Or.inl ⟨by rfl, ?_⟩) ?_ ?_
                        rotate_left
                        · intro w'
                          go_simp
                          with_reducible rfl
                        rotate_left
                        · simp only [Act.put, List.setIfInBounds_toArray, List.set_cons_zero, List.set_cons_succ, i64_w, i32_w]
                          rfl
                        refine pure_ (i := 9) (N := some 40) (v := ?_) (a' := ?_) #[true, true, true, true, true, true, true, false, false, true, false, false, false, false] rfl rfl (any_of HT_.out (by kernel_rfl)) (fun _ _ _ h => h) (Or.inl ⟨by rfl, ?_⟩) ?_ ?_
                        rotate_left
                        · intro w'
                          go_simp
                          with_reducible rfl
                        rotate_left
                        · simp only [Act.put, List.setIfInBounds_toArray, List.set_cons_zero, List.set_cons_succ, i64_w, i32_w]
                          rfl
                        refine pure_ (i := 10) (N := some 41) (v := ?_) (a' := ?_) #[true, true, true, true, true, true, true, false, false, true, true, false, false, false] rfl rfl (any_of HT_.out (by kernel_rfl)) (fun _ _ _ h => h) (Or.inl ⟨by rfl, ?_⟩) ?_ ?_
                        rotate_left
                        · intro w'
                          go_simp
                          with_reducible rfl
                        rotate_left
                        · simp only [Act.put, List.setIfInBounds_toArray, List.set_cons_zero, List.set_cons_succ, i64_w, i32_w]
                          rfl
                        refine pure_ (i := 11) (N := some 42) (v := ?_) (a' := ?_) #[true, true, true, true, true, true, true, false, false, true, true, true, false, false] rfl rfl (any_of HT_.out (by kernel_rfl)) (fun _ _ _ h => h) (Or.inl ⟨by rfl, ?_⟩) ?_ ?_
                        rotate_left
                        · intro w'
                          go_simp
                          with_reducible rfl
                        rotate_left
                        · simp only [Act.put, List.setIfInBounds_toArray, List.set_cons_zero, List.set_cons_succ, i64_w, i32_w]
                          rfl
                        refine one_ (i := 7) (N := some 38) #[true, true, true, true, true, true, true, true, false, true, true, true, false, false] rfl rfl (one_of HT_.out (by kernel_rfl)) (by decide) (fun K hK => ?_)
                        refine goes_ Tryd.func49 (by kernel_rfl) rfl #[.string (a0.extract (a1 : Int).toNat (t225 : Int).toNat)] (by rfl) rfl rfl (by (try simp only [List.map_toArray, List.map_cons, List.map_nil]); first | done | rfl | (simp only [List.length_drop, List.length_take]; rfl)) ?_
                        with_reducible refine (calamusref05_Flip.calls k (a0.extract (a1 : Int).toNat (t225 : Int).toNat) t226 _ A20.out).mono ?_
                        rintro e w31 ⟨rfl, hb⟩
                        refine ⟨_, rfl, ?_⟩
                        have n0_ := Aside0.mk (Kd.R_below (by (with_reducible repeat (first | apply Kd.R_alloc | apply Kd.R_drewN | apply Kd.R_drew)); exact HO223.out) hb)
                        have n1_ := Aside0.mk (below_step (by repeat (first | (with_reducible first | exact HB.out | apply below_alloc | apply pw_below_drewN | apply below_drew1) | exact HB.out)) hb)
                        clear HO223
                        clear HB
                        have HO223 := n0_
                        have HB := n1_
                        clear n0_ n1_
                        (try clear hb)
                        (try clear hb2)
                        (try clear hk)
                        (try clear hi)
                        refine hK.out _ _ trivial (fun hHeld => ?_)
                        clear hK K
                        refine norm_ (a' := ?_) ?_ ?_
                        rotate_left
                        · show Act.put _ (some 38) _ = _
                          simp only [Act.put, List.setIfInBounds_toArray, List.set_cons_zero, List.set_cons_succ, i64_w, i32_w]
                          rfl
                        refine pure_ (i := 8) (N := some 39) (v := ?_) (a' := ?_) #[true, true, true, true, true, true, true, true, true, true, true, true, false, false] rfl rfl (any_of HT_.out (by kernel_rfl)) (fun _ _ _ h => h) (Or.inl ⟨by rfl, ?_⟩) ?_ ?_
                        rotate_left
                        · intro w'
                          go_simp
                          with_reducible rfl
                        rotate_left
                        · simp only [Act.put, List.setIfInBounds_toArray, List.set_cons_zero, List.set_cons_succ, i64_w, i32_w]
                          rfl
                        refine pure_ (i := 12) (N := some 43) (v := ?_) (a' := ?_) #[true, true, true, true, true, true, true, true, true, true, true, true, true, false] rfl rfl (any_of HT_.out (by kernel_rfl)) (fun _ _ _ h => h) (Or.inl ⟨by rfl, ?_⟩) ?_ ?_
                        rotate_left
                        · intro w'
                          go_simp
                          with_reducible rfl
                        rotate_left
                        · simp only [Act.put, List.setIfInBounds_toArray, List.set_cons_zero, List.set_cons_succ, i64_w, i32_w]
                          rfl
                        refine pure_ (i := 13) (N := some 11) (v := ?_) (a' := ?_) #[true, true, true, true, true, true, true, true, true, true, true, true, true, true] rfl rfl (any_of HT_.out (by kernel_rfl)) (fun _ _ _ h => h) (Or.inl ⟨by rfl, ?_⟩) ?_ ?_
                        rotate_left
                        · intro w'
                          go_simp
                          with_reducible rfl
                        rotate_left
                        · simp only [Act.put, List.setIfInBounds_toArray, List.set_cons_zero, List.set_cons_succ, i64_w, i32_w]
                          rfl
                        refine done_ (done_of HT_.out (by kernel_rfl)) ?_
                        try go_wp2_with (first | ((with_reducible refine gate_callee (f := 40) rfl ?_); refine goesL_ (some 47) rfl rfl Tryd.func40 (by kernel_rfl) rfl #[.string (((a0.extract 0 (a1 : Int).toNat) ++ t226) ++ (a0.extract (t225 : Int).toNat a0.size)), .int .i64 t225] rfl (by (try simp only [List.map_toArray, List.map_cons, List.map_nil]); first | done | rfl | (simp only [List.length_drop, List.length_take]; rfl)) ?_; (with_reducible refine (calamusref04_Clamp.calls k (((a0.extract 0 (a1 : Int).toNat) ++ t226) ++ (a0.extract (t225 : Int).toNat a0.size)) t225 t227 _ A25.out).mono ?_); rintro e w32 ⟨rfl, hb⟩; refine ⟨_, rfl, ?_⟩; have n0_ := Aside0.mk (Kd.R_below (by (with_reducible repeat (first | apply Kd.R_alloc | apply Kd.R_drewN | apply Kd.R_drew)); exact HO223.out) hb); have n1_ := Aside0.mk (below_step (by repeat (first | (with_reducible first | exact HB.out | apply below_alloc | apply pw_below_drewN | apply below_drew1) | exact HB.out)) hb); clear HO223; clear HB; have HO223 := n0_; have HB := n1_; clear n0_ n1_; (try clear hb); (try clear hb2); (try clear hk); (try clear hi)))
                        go_ret3
                        exact ⟨by first | rfl | (simp [errW_none, errW_some] <;> rfl) | (simp only [← hji11]; first | rfl | (simp [errW_none, errW_some] <;> rfl)) | (simp [*, errW_none, errW_some] <;> rfl), by repeat (first | (with_reducible first | exact HB.out | apply below_alloc | apply pw_below_drewN | apply below_drew1) | exact HB.out)⟩
                      · rw [if_neg c24] at H
                        exact absurd H (by simp)
                    · rw [if_neg c22] at H
                      exact absurd H (by simp)
                  · rw [if_neg c21] at H
                    exact absurd H (by simp)
                · rw [if_neg c19] at H
                  exact absurd H (by simp)
              · rw [if_neg c18] at H
                exact absurd H (by simp)
            · rw [if_neg c16] at H
              exact absurd H (by simp)
          · rw [if_neg c15] at H
            exact absurd H (by simp)
        · rw [if_neg c13] at H
          exact absurd H (by simp)
      · rw [if_neg c12] at H
        exact absurd H (by simp)
  · replace c5 := Bool.eq_false_iff.mpr c5
    subst c5
    have H1 : (some ((⟨#[]⟩ : ByteArray), 0, 1)) = some (r1, r2, r3) := by rw [if_neg (show ¬ (false = true) by decide)] at H; exact H
    clear H
    have H := H1
    clear H1
    simp only [Option.some.injEq, Prod.mk.injEq] at H
    obtain ⟨rfl, rfl, rfl⟩ := H
    go_enter Tryd.func13, Tryd.ntmps13
    go_wp2_with (first | ((with_reducible refine gate_callee (f := 30) rfl ?_); refine goesL_ (some 14) rfl rfl Tryd.func30 (by kernel_rfl) rfl #[.string a0, .int .i64 a1] rfl (by (try simp only [List.map_toArray, List.map_cons, List.map_nil]); first | done | rfl | (simp only [List.length_drop, List.length_take]; rfl)) ?_; (with_reducible refine (calamusref03_Place.calls a0 a1 false _ A4.out).mono ?_); rintro e w33 ⟨rfl, hb⟩; refine ⟨_, rfl, ?_⟩; have n0_ := Aside0.mk (below_step (by repeat (first | (with_reducible first | exact HB.out | apply below_alloc | apply pw_below_drewN | apply below_drew1) | exact HB.out)) hb); clear HB; have HB := n0_; clear n0_; (try clear hb); (try clear hb2); (try clear hk); (try clear hi)))
    go_ret3
    exact ⟨by first | rfl | (simp [errW_none, errW_some] <;> rfl) | (simp [*, errW_none, errW_some] <;> rfl), by repeat (first | (with_reducible first | exact HB.out | apply below_alloc | apply pw_below_drewN | apply below_drew1) | exact HB.out)⟩


/-! ### key_Sign -/
def key_Sign.f (a0 : ByteArray) : Option (Bool) := (utf_Count.f a0).bind fun t228 => (if t228 = 1 then (if (a0.size : Int) > 1 then (some true) else (if 0 < (a0.size : Int) then (if (bt a0 0) ≥ 32 then (some (decide ((bt a0 0) < 127))) else (some false)) else (none))) else (some false))
set_option maxHeartbeats 8000000 in
set_option maxRecDepth 100000 in
theorem key_Sign.calls (a0 : ByteArray) (r : Bool) (w : World) (h : key_Sign.f a0 = some r) :
    Calls Tryd.prog 50 #[.string a0] w fun e w' => e = .returned (.bool r) ∧ Below w.heap.size w w' := by
  have HB := Aside0.mk (Below.refl w.heap.size w)
  have H : ((utf_Count.f a0).bind fun t228 => (if t228 = 1 then (if (a0.size : Int) > 1 then (some true) else (if 0 < (a0.size : Int) then (if (bt a0 0) ≥ 32 then (some (decide ((bt a0 0) < 127))) else (some false)) else (none))) else (some false))) = some r := h
  clear h
  replace H := Option.bind_eq_some_iff.mp H
  obtain ⟨t228, A20, H⟩ := H
  replace H : (if t228 = 1 then (if (a0.size : Int) > 1 then (some true) else (if 0 < (a0.size : Int) then (if (bt a0 0) ≥ 32 then (some (decide ((bt a0 0) < 127))) else (some false)) else (none))) else (some false)) = some r := H
  have A2 := Aside0.mk A20
  clear A20
  by_cases c3 : t228 = 1
  · rw [if_pos c3] at H
    have c3b0 : (t228 == 1) = true := beq_iff_eq.mpr c3
    have c3b1 : (t228 != 1) = false := bne_eq_false_iff_eq.mpr c3
    clear c3
    by_cases c4 : (a0.size : Int) > 1
    · rw [if_pos c4] at H
      have c4b0 : decide (1 < (a0.size : Int)) = true := decide_eq_true c4
      have c4b1 : decide (1 < a0.size) = true := decide_eq_true (by omega)
      clear c4
      obtain rfl := Option.some.inj H
      go_enter Tryd.func50, Tryd.ntmps50
      go_wp2_with (first | ((with_reducible refine gate_callee (f := 16) rfl ?_); refine goesL_ (some 4) rfl rfl Tryd.func16 (by kernel_rfl) rfl #[.string a0] rfl (by (try simp only [List.map_toArray, List.map_cons, List.map_nil]); first | done | rfl | (simp only [List.length_drop, List.length_take]; rfl)) ?_; (with_reducible refine (utf_Count.calls a0 t228 _ A2.out).mono ?_); rintro e w5 ⟨rfl, hb⟩; refine ⟨_, rfl, ?_⟩; have n0_ := Aside0.mk (below_step (by repeat (first | (with_reducible first | exact HB.out | apply below_alloc | apply pw_below_drewN | apply below_drew1) | exact HB.out)) hb); clear HB; have HB := n0_; clear n0_; (try clear hb); (try clear hb2); (try clear hk); (try clear hi)))
      go_ret
      exact ⟨by first | rfl | (simp [errW_none, errW_some] <;> rfl) | (simp [*, errW_none, errW_some] <;> rfl), by repeat (first | (with_reducible first | exact HB.out | apply below_alloc | apply pw_below_drewN | apply below_drew1) | exact HB.out)⟩
    · rw [if_neg c4] at H
      have c4b0 : decide (1 < (a0.size : Int)) = false := decide_eq_false c4
      have c4b1 : decide (1 < a0.size) = false := decide_eq_false (by omega)
      clear c4
      by_cases c6 : 0 < (a0.size : Int)
      · rw [if_pos c6] at H
        have c6b0 : decide (0 < (a0.size : Int)) = true := decide_eq_true c6
        have c6b1 : decide (0 < a0.size) = true := decide_eq_true (by omega)
        clear c6
        by_cases c8 : (bt a0 0) ≥ 32
        · rw [if_pos c8] at H
          have c8b0 : decide (32 ≤ (bt a0 0)) = true := decide_eq_true c8
          clear c8
          obtain rfl := Option.some.inj H
          go_enter Tryd.func50, Tryd.ntmps50
          go_wp2_with (first | ((with_reducible refine gate_callee (f := 16) rfl ?_); refine goesL_ (some 4) rfl rfl Tryd.func16 (by kernel_rfl) rfl #[.string a0] rfl (by (try simp only [List.map_toArray, List.map_cons, List.map_nil]); first | done | rfl | (simp only [List.length_drop, List.length_take]; rfl)) ?_; (with_reducible refine (utf_Count.calls a0 t228 _ A2.out).mono ?_); rintro e w10 ⟨rfl, hb⟩; refine ⟨_, rfl, ?_⟩; have n0_ := Aside0.mk (below_step (by repeat (first | (with_reducible first | exact HB.out | apply below_alloc | apply pw_below_drewN | apply below_drew1) | exact HB.out)) hb); clear HB; have HB := n0_; clear n0_; (try clear hb); (try clear hb2); (try clear hk); (try clear hi); have p7 : 0 ≤ (0 : Int) := (by omega); have q7 : 0 < a0.size := (by have : (0 : Int) < (a0.size : Int) := of_decide_eq_true (by first | (with_reducible assumption) | assumption); omega); have hx7 : ∀ h : 0 < a0.size, ((a0[0]'h).toNat : Int) = bt a0 0 := bt_at a0 0; clear p7; have qi7 : (0 < (a0.size : Int)) = True := eq_true (of_decide_eq_true (by first | (with_reducible assumption) | assumption)); replace q7 := eq_true q7; have p9 : 0 ≤ (0 : Int) := (by omega); have q9 : 0 < a0.size := (by have : (0 : Int) < (a0.size : Int) := of_decide_eq_true (by first | (with_reducible assumption) | assumption); omega); have hx9 : ∀ h : 0 < a0.size, ((a0[0]'h).toNat : Int) = bt a0 0 := bt_at a0 0; clear p9; have qi9 : (0 < (a0.size : Int)) = True := eq_true (of_decide_eq_true (by first | (with_reducible assumption) | assumption)); replace q9 := eq_true q9))
          go_ret
          exact ⟨by first | rfl | (simp [errW_none, errW_some] <;> rfl) | (simp [*, errW_none, errW_some] <;> rfl), by repeat (first | (with_reducible first | exact HB.out | apply below_alloc | apply pw_below_drewN | apply below_drew1) | exact HB.out)⟩
        · rw [if_neg c8] at H
          have c8b0 : decide (32 ≤ (bt a0 0)) = false := decide_eq_false c8
          clear c8
          obtain rfl := Option.some.inj H
          go_enter Tryd.func50, Tryd.ntmps50
          go_wp2_with (first | ((with_reducible refine gate_callee (f := 16) rfl ?_); refine goesL_ (some 4) rfl rfl Tryd.func16 (by kernel_rfl) rfl #[.string a0] rfl (by (try simp only [List.map_toArray, List.map_cons, List.map_nil]); first | done | rfl | (simp only [List.length_drop, List.length_take]; rfl)) ?_; (with_reducible refine (utf_Count.calls a0 t228 _ A2.out).mono ?_); rintro e w11 ⟨rfl, hb⟩; refine ⟨_, rfl, ?_⟩; have n0_ := Aside0.mk (below_step (by repeat (first | (with_reducible first | exact HB.out | apply below_alloc | apply pw_below_drewN | apply below_drew1) | exact HB.out)) hb); clear HB; have HB := n0_; clear n0_; (try clear hb); (try clear hb2); (try clear hk); (try clear hi); have p7 : 0 ≤ (0 : Int) := (by omega); have q7 : 0 < a0.size := (by have : (0 : Int) < (a0.size : Int) := of_decide_eq_true (by first | (with_reducible assumption) | assumption); omega); have hx7 : ∀ h : 0 < a0.size, ((a0[0]'h).toNat : Int) = bt a0 0 := bt_at a0 0; clear p7; have qi7 : (0 < (a0.size : Int)) = True := eq_true (of_decide_eq_true (by first | (with_reducible assumption) | assumption)); replace q7 := eq_true q7))
          go_ret
          exact ⟨by first | rfl | (simp [errW_none, errW_some] <;> rfl) | (simp [*, errW_none, errW_some] <;> rfl), by repeat (first | (with_reducible first | exact HB.out | apply below_alloc | apply pw_below_drewN | apply below_drew1) | exact HB.out)⟩
      · rw [if_neg c6] at H
        exact absurd H (by simp)
  · rw [if_neg c3] at H
    have c3b0 : (t228 == 1) = false := beq_eq_false_iff_ne.mpr c3
    have c3b1 : (t228 != 1) = true := bne_iff_ne.mpr c3
    obtain rfl := Option.some.inj H
    go_enter Tryd.func50, Tryd.ntmps50
    go_wp2_with (first | ((with_reducible refine gate_callee (f := 16) rfl ?_); refine goesL_ (some 4) rfl rfl Tryd.func16 (by kernel_rfl) rfl #[.string a0] rfl (by (try simp only [List.map_toArray, List.map_cons, List.map_nil]); first | done | rfl | (simp only [List.length_drop, List.length_take]; rfl)) ?_; (with_reducible refine (utf_Count.calls a0 t228 _ A2.out).mono ?_); rintro e w12 ⟨rfl, hb⟩; refine ⟨_, rfl, ?_⟩; have n0_ := Aside0.mk (below_step (by repeat (first | (with_reducible first | exact HB.out | apply below_alloc | apply pw_below_drewN | apply below_drew1) | exact HB.out)) hb); clear HB; have HB := n0_; clear n0_; (try clear hb); (try clear hb2); (try clear hk); (try clear hi)))
    go_ret
    exact ⟨by first | rfl | (simp [errW_none, errW_some] <;> rfl) | (simp [*, errW_none, errW_some] <;> rfl), by repeat (first | (with_reducible first | exact HB.out | apply below_alloc | apply pw_below_drewN | apply below_drew1) | exact HB.out)⟩

/-! ### paste_Over -/
def paste_Over.j0 : Nat → ByteArray → Int → ByteArray → Int → Bool → Option (ByteArray × Int × Int)
  | 0, _, _, _, _, _ => none
  | k + 1, x0, x1, x2, x3, x27 => if x27 = true then (some ((⟨#[]⟩ : ByteArray), 0, 9)) else ((paste_behind.f k x0 x1 (mx x3 1)).bind fun bt231 => (if bt231.2 < (mx x3 1) then (some ((⟨#[]⟩ : ByteArray), 0, 10)) else ((paste_times.f k x2 (⟨#[]⟩ : ByteArray) (mx x3 1)).bind fun bt233 => (if bt233.2 = true then (if 0 ≤ x1 then (if x1 ≤ (x0.size : Int) then (if 0 ≤ bt231.1 then (if bt231.1 ≤ (x0.size : Int) then (if (x0.extract 0 (x1 : Int).toNat).size + (x0.extract (bt231.1 : Int).toNat x0.size).size ≤ 9223372036854775807 then ((paste_insert.f ((x0.extract 0 (x1 : Int).toNat) ++ (x0.extract (bt231.1 : Int).toNat x0.size)) x1 bt233.1).bind fun bt235 => (if bt235.2 = 0 then (some (bt235.1, wrap64 ((wrap64 (x1 + (bt233.1.size : Int))) - (x2.size : Int)), 0)) else (some ((⟨#[]⟩ : ByteArray), 0, bt235.2)))) else (none)) else (none)) else (none)) else (none)) else (none)) else (some ((⟨#[]⟩ : ByteArray), 0, 8))))))
def paste_Over.f (k : Nat) (a0 : ByteArray) (a1 : Int) (a2 : ByteArray) (a3 : Int) : Option (ByteArray × Int × Int) := (utf_Place.f a0 a1).bind fun t229 => (if t229 = true then ((key_Sign.f a2).bind fun t230 => (if t230 = true then (paste_Over.j0 k a0 a1 a2 a3 false) else (paste_Over.j0 k a0 a1 a2 a3 (a2.toList != ([9] : List UInt8))))) else (some ((⟨#[]⟩ : ByteArray), 0, 1)))
theorem paste_Over.mono_l : ∀ k, (∀ y0 y1 y2 y3 y4, LeO (paste_Over.j0 k y0 y1 y2 y3 y4) (paste_Over.j0 (k + 1) y0 y1 y2 y3 y4))
  | 0 => fun _ _ _ _ _ r h => by simp [paste_Over.j0] at h
  | k + 1 => by
    have ih0 := paste_Over.mono_l k
    · intro y0 y1 y2 y3 y4
      unfold paste_Over.j0
      repeat' first
      | (with_reducible exact ih0 _ _ _ _ _)
      | (with_reducible exact paste_behind.mono _ _ _ _)
      | (with_reducible exact paste_times.mono _ _ _ _)
      | (with_reducible exact LeO.refl _)
      | (with_reducible exact LeO.none _)
      | (with_reducible refine LeO.ite ?_ ?_)
      | (with_reducible refine LeO.bind ?_ (fun _ => ?_))
      | exact ih0 _ _ _ _ _
      | exact paste_behind.mono _ _ _ _
      | exact paste_times.mono _ _ _ _
      | exact LeO.none _
      | refine LeO.ite ?_ ?_
      | refine LeO.bind ?_ (fun _ => ?_)
theorem paste_Over.mono : ∀ a0 a1 a2 a3 k, LeO (paste_Over.f k a0 a1 a2 a3) (paste_Over.f (k + 1) a0 a1 a2 a3) := by
  intro a0 a1 a2 a3 k
  have ih0 := paste_Over.mono_l k
  unfold paste_Over.f
  repeat' first
      | (with_reducible exact ih0 _ _ _ _ _)
      | (with_reducible exact paste_behind.mono _ _ _ _)
      | (with_reducible exact paste_times.mono _ _ _ _)
      | (with_reducible exact LeO.refl _)
      | (with_reducible exact LeO.none _)
      | (with_reducible refine LeO.ite ?_ ?_)
      | (with_reducible refine LeO.bind ?_ (fun _ => ?_))
      | exact ih0 _ _ _ _ _
      | exact paste_behind.mono _ _ _ _
      | exact paste_times.mono _ _ _ _
      | exact LeO.none _
      | refine LeO.ite ?_ ?_
      | refine LeO.bind ?_ (fun _ => ?_)
set_option maxHeartbeats 8000000 in
set_option maxRecDepth 100000 in
theorem paste_Over.calls (k : Nat) (a0 : ByteArray) (a1 : Int) (a2 : ByteArray) (a3 : Int) (r1 : ByteArray) (r2 : Int) (r3 : Int) (w : World) (h : paste_Over.f k a0 a1 a2 a3 = some (r1, r2, r3)) :
    Calls Tryd.prog 14 #[.string a0, .int .i64 a1, .string a2, .int .i64 a3] w fun e w' => e = .returned (.tuple #[.string r1, .int .i64 r2, .int .i64 r3]) ∧ Below w.heap.size w w' := by
  have HB := Aside0.mk (Below.refl w.heap.size w)
  have H : ((utf_Place.f a0 a1).bind fun t229 => (if t229 = true then ((key_Sign.f a2).bind fun t230 => (if t230 = true then (paste_Over.j0 k a0 a1 a2 a3 false) else (paste_Over.j0 k a0 a1 a2 a3 (a2.toList != ([9] : List UInt8))))) else (some ((⟨#[]⟩ : ByteArray), 0, 1)))) = some (r1, r2, r3) := h
  clear h
  replace H := Option.bind_eq_some_iff.mp H
  obtain ⟨t229, A50, H⟩ := H
  replace H : (if t229 = true then ((key_Sign.f a2).bind fun t230 => (if t230 = true then (paste_Over.j0 k a0 a1 a2 a3 false) else (paste_Over.j0 k a0 a1 a2 a3 (a2.toList != ([9] : List UInt8))))) else (some ((⟨#[]⟩ : ByteArray), 0, 1))) = some (r1, r2, r3) := H
  have A5 := Aside0.mk A50
  clear A50
  by_cases c6 : t229 = true
  · subst c6
    have H1 : ((key_Sign.f a2).bind fun t230 => (if t230 = true then (paste_Over.j0 k a0 a1 a2 a3 false) else (paste_Over.j0 k a0 a1 a2 a3 (a2.toList != ([9] : List UInt8))))) = some (r1, r2, r3) := by rw [if_pos rfl] at H; exact H
    clear H
    have H := H1
    clear H1
    have HC7 := Aside0.mk H
    clear H
    go_enter Tryd.func14, Tryd.ntmps14
    go_upto_region 3 with (first | (go_at_call 19; (with_reducible refine (utf_Place.calls a0 a1 true _ A5.out).mono ?_); rintro e w8 ⟨rfl, hb⟩; have n0_ := Aside0.mk (below_step (by repeat (first | (with_reducible first | exact HB.out | apply below_alloc | apply pw_below_drewN | apply below_drew1) | exact HB.out)) hb); clear HB; have HB := n0_; clear n0_; (try clear hb); (try clear hb2); (try clear hk); (try clear hi)))
    repeat (go_quiet (first | (go_at_call 19; (with_reducible refine (utf_Place.calls a0 a1 true _ A5.out).mono ?_); rintro e w8 ⟨rfl, hb⟩; have n0_ := Aside0.mk (below_step (by repeat (first | (with_reducible first | exact HB.out | apply below_alloc | apply pw_below_drewN | apply below_drew1) | exact HB.out)) hb); clear HB; have HB := n0_; clear n0_; (try clear hb); (try clear hb2); (try clear hk); (try clear hi))); go_upto_region 3 with (first | (go_at_call 19; (with_reducible refine (utf_Place.calls a0 a1 true _ A5.out).mono ?_); rintro e w8 ⟨rfl, hb⟩; have n0_ := Aside0.mk (below_step (by repeat (first | (with_reducible first | exact HB.out | apply below_alloc | apply pw_below_drewN | apply below_drew1) | exact HB.out)) hb); clear HB; have HB := n0_; clear n0_; (try clear hb); (try clear hb2); (try clear hk); (try clear hi))))
    (try simp only [Act.put, List.setIfInBounds_toArray, List.set_cons_zero, List.set_cons_succ])
    go_cut [27] (fun v27 wc => ∃ (kq : Nat) (x27_6 : Bool), v27 = .bool x27_6 ∧ Aside0 (paste_Over.j0 kq a0 a1 a2 a3 x27_6 = some (r1, r2, r3)) ∧ Aside0 (kq ≤ k) ∧ Aside0 (Below w.heap.size w wc))
    case first =>
      have H := HC7.out
      clear HC7
      replace H := Option.bind_eq_some_iff.mp H
      obtain ⟨t230, A90, H⟩ := H
      replace H : (if t230 = true then (paste_Over.j0 k a0 a1 a2 a3 false) else (paste_Over.j0 k a0 a1 a2 a3 (a2.toList != ([9] : List UInt8)))) = some (r1, r2, r3) := H
      have A9 := Aside0.mk A90
      clear A90
      by_cases c10 : t230 = true
      · subst c10
        have H1 : (paste_Over.j0 k a0 a1 a2 a3 false) = some (r1, r2, r3) := by rw [if_pos rfl] at H; exact H
        clear H
        have H := H1
        clear H1
        have H' := Aside0.mk H
        clear H
        go_wp2_with (first | (go_at_call 50; (with_reducible refine (key_Sign.calls a2 true _ A9.out).mono ?_); rintro e w11 ⟨rfl, hb⟩; have n0_ := Aside0.mk (below_step (by repeat (first | (with_reducible first | exact HB.out | apply below_alloc | apply pw_below_drewN | apply below_drew1) | exact HB.out)) hb); clear HB; have HB := n0_; clear n0_; (try clear hb); (try clear hb2); (try clear hk); (try clear hi)))
        repeat (go_quiet (first | (go_at_call 50; (with_reducible refine (key_Sign.calls a2 true _ A9.out).mono ?_); rintro e w11 ⟨rfl, hb⟩; have n0_ := Aside0.mk (below_step (by repeat (first | (with_reducible first | exact HB.out | apply below_alloc | apply pw_below_drewN | apply below_drew1) | exact HB.out)) hb); clear HB; have HB := n0_; clear n0_; (try clear hb); (try clear hb2); (try clear hk); (try clear hi))); try go_wp2_with (first | (go_at_call 50; (with_reducible refine (key_Sign.calls a2 true _ A9.out).mono ?_); rintro e w11 ⟨rfl, hb⟩; have n0_ := Aside0.mk (below_step (by repeat (first | (with_reducible first | exact HB.out | apply below_alloc | apply pw_below_drewN | apply below_drew1) | exact HB.out)) hb); clear HB; have HB := n0_; clear n0_; (try clear hb); (try clear hb2); (try clear hk); (try clear hi))))
        go_meet
        case rel => exact ⟨_, (false), (by first | rfl | (simp; done) | (simp [*]; done)), H', ⟨by first | omega | exact Nat.le_refl _⟩, ⟨by repeat (first | (with_reducible first | exact HB.out | apply below_alloc | apply pw_below_drewN | apply below_drew1) | exact HB.out)⟩⟩
      · replace c10 := Bool.eq_false_iff.mpr c10
        subst c10
        have H1 : (paste_Over.j0 k a0 a1 a2 a3 (a2.toList != ([9] : List UInt8))) = some (r1, r2, r3) := by rw [if_neg (show ¬ (false = true) by decide)] at H; exact H
        clear H
        have H := H1
        clear H1
        have H' := Aside0.mk H
        clear H
        go_wp2_with (first | (go_at_call 50; (with_reducible refine (key_Sign.calls a2 false _ A9.out).mono ?_); rintro e w12 ⟨rfl, hb⟩; have n0_ := Aside0.mk (below_step (by repeat (first | (with_reducible first | exact HB.out | apply below_alloc | apply pw_below_drewN | apply below_drew1) | exact HB.out)) hb); clear HB; have HB := n0_; clear n0_; (try clear hb); (try clear hb2); (try clear hk); (try clear hi)))
        repeat (go_quiet (first | (go_at_call 50; (with_reducible refine (key_Sign.calls a2 false _ A9.out).mono ?_); rintro e w12 ⟨rfl, hb⟩; have n0_ := Aside0.mk (below_step (by repeat (first | (with_reducible first | exact HB.out | apply below_alloc | apply pw_below_drewN | apply below_drew1) | exact HB.out)) hb); clear HB; have HB := n0_; clear n0_; (try clear hb); (try clear hb2); (try clear hk); (try clear hi))); try go_wp2_with (first | (go_at_call 50; (with_reducible refine (key_Sign.calls a2 false _ A9.out).mono ?_); rintro e w12 ⟨rfl, hb⟩; have n0_ := Aside0.mk (below_step (by repeat (first | (with_reducible first | exact HB.out | apply below_alloc | apply pw_below_drewN | apply below_drew1) | exact HB.out)) hb); clear HB; have HB := n0_; clear n0_; (try clear hb); (try clear hb2); (try clear hk); (try clear hi))))
        go_meet
        case rel => exact ⟨_, ((a2.toList != ([9] : List UInt8))), (by first | rfl | (simp; done) | (simp [*]; done)), H', ⟨by first | omega | exact Nat.le_refl _⟩, ⟨by repeat (first | (with_reducible first | exact HB.out | apply below_alloc | apply pw_below_drewN | apply below_drew1) | exact HB.out)⟩⟩
    case rest =>
      clear HC7
      try clear c1
      try clear p2
      try clear c6
      try clear c10
      obtain ⟨kq, x27_6, rfl, HA, HJ6, HB⟩ := hcut
      cases kq with
      | zero => exact absurd HA.out (by simp [paste_Over.j0])
      | succ kj6 =>
        have H := HA.out
        clear HA
        simp only [paste_Over.j0] at H
        by_cases c13 : x27_6 = true
        · subst c13
          have H1 : (some ((⟨#[]⟩ : ByteArray), 0, 9)) = some (r1, r2, r3) := by rw [if_pos rfl] at H; exact H
          clear H
          have H := H1
          clear H1
          simp only [Option.some.injEq, Prod.mk.injEq] at H
          obtain ⟨rfl, rfl, rfl⟩ := H
          go_wp2
          repeat (go_quiet (fail); try go_wp2)
          go_ret3
          exact ⟨by first | rfl | (simp [errW_none, errW_some] <;> rfl) | (simp [*, errW_none, errW_some] <;> rfl), by repeat (first | (with_reducible first | exact HB.out | apply below_alloc | apply pw_below_drewN | apply below_drew1) | exact HB.out)⟩
        · replace c13 := Bool.eq_false_iff.mpr c13
          subst c13
          have H1 : ((paste_behind.f kj6 a0 a1 (mx a3 1)).bind fun bt231 => (if bt231.2 < (mx a3 1) then (some ((⟨#[]⟩ : ByteArray), 0, 10)) else ((paste_times.f kj6 a2 (⟨#[]⟩ : ByteArray) (mx a3 1)).bind fun bt233 => (if bt233.2 = true then (if 0 ≤ a1 then (if a1 ≤ (a0.size : Int) then (if 0 ≤ bt231.1 then (if bt231.1 ≤ (a0.size : Int) then (if (a0.extract 0 (a1 : Int).toNat).size + (a0.extract (bt231.1 : Int).toNat a0.size).size ≤ 9223372036854775807 then ((paste_insert.f ((a0.extract 0 (a1 : Int).toNat) ++ (a0.extract (bt231.1 : Int).toNat a0.size)) a1 bt233.1).bind fun bt235 => (if bt235.2 = 0 then (some (bt235.1, wrap64 ((wrap64 (a1 + (bt233.1.size : Int))) - (a2.size : Int)), 0)) else (some ((⟨#[]⟩ : ByteArray), 0, bt235.2)))) else (none)) else (none)) else (none)) else (none)) else (none)) else (some ((⟨#[]⟩ : ByteArray), 0, 8)))))) = some (r1, r2, r3) := by rw [if_neg (show ¬ (false = true) by decide)] at H; exact H
          clear H
          have H := H1
          clear H1
          obtain ⟨ji14, hji14⟩ : ∃ j_ : Int, (mx a3 1) = j_ := ⟨_, rfl⟩
          replace H : ((paste_behind.f kj6 a0 a1 (ji14)).bind fun bt231 => (if bt231.2 < (ji14) then (some ((⟨#[]⟩ : ByteArray), 0, 10)) else ((paste_times.f kj6 a2 (⟨#[]⟩ : ByteArray) (ji14)).bind fun bt233 => (if bt233.2 = true then (if 0 ≤ a1 then (if a1 ≤ (a0.size : Int) then (if 0 ≤ bt231.1 then (if bt231.1 ≤ (a0.size : Int) then (if (a0.extract 0 (a1 : Int).toNat).size + (a0.extract (bt231.1 : Int).toNat a0.size).size ≤ 9223372036854775807 then ((paste_insert.f ((a0.extract 0 (a1 : Int).toNat) ++ (a0.extract (bt231.1 : Int).toNat a0.size)) a1 bt233.1).bind fun bt235 => (if bt235.2 = 0 then (some (bt235.1, wrap64 ((wrap64 (a1 + (bt233.1.size : Int))) - (a2.size : Int)), 0)) else (some ((⟨#[]⟩ : ByteArray), 0, bt235.2)))) else (none)) else (none)) else (none)) else (none)) else (none)) else (some ((⟨#[]⟩ : ByteArray), 0, 8)))))) = some (r1, r2, r3) := by first | (rw [hji14] at H; exact H) | (simp only [hji14] at H ⊢; exact H)
          have hji14_ : (if a3 < 1 then 1 else a3) = ji14 := hji14
          replace H := Option.bind_eq_some_iff.mp H
          obtain ⟨⟨t231, t232⟩, A150, H⟩ := H
          replace H : (if t232 < (ji14) then (some ((⟨#[]⟩ : ByteArray), 0, 10)) else ((paste_times.f kj6 a2 (⟨#[]⟩ : ByteArray) (ji14)).bind fun bt233 => (if bt233.2 = true then (if 0 ≤ a1 then (if a1 ≤ (a0.size : Int) then (if 0 ≤ t231 then (if t231 ≤ (a0.size : Int) then (if (a0.extract 0 (a1 : Int).toNat).size + (a0.extract (t231 : Int).toNat a0.size).size ≤ 9223372036854775807 then ((paste_insert.f ((a0.extract 0 (a1 : Int).toNat) ++ (a0.extract (t231 : Int).toNat a0.size)) a1 bt233.1).bind fun bt235 => (if bt235.2 = 0 then (some (bt235.1, wrap64 ((wrap64 (a1 + (bt233.1.size : Int))) - (a2.size : Int)), 0)) else (some ((⟨#[]⟩ : ByteArray), 0, bt235.2)))) else (none)) else (none)) else (none)) else (none)) else (none)) else (some ((⟨#[]⟩ : ByteArray), 0, 8))))) = some (r1, r2, r3) := H
          have A15 := Aside0.mk A150
          clear A150
          by_cases c16 : t232 < (ji14)
          · rw [if_pos c16] at H
            have c16b0 : decide (t232 < (ji14)) = true := decide_eq_true c16
            clear c16
            simp only [Option.some.injEq, Prod.mk.injEq] at H
            obtain ⟨rfl, rfl, rfl⟩ := H
            go_wp2_with (first | (go_at_call 46; (with_reducible refine (paste_behind.calls kj6 a0 a1 ji14 t231 t232 _ A15.out).mono ?_); rintro e w17 ⟨rfl, hb⟩; have n0_ := Aside0.mk (below_step (by repeat (first | (with_reducible first | exact HB.out | apply below_alloc | apply pw_below_drewN | apply below_drew1) | exact HB.out)) hb); clear HB; have HB := n0_; clear n0_; (try clear hb); (try clear hb2); (try clear hk); (try clear hi)))
            repeat (go_quiet (first | (go_at_call 46; (with_reducible refine (paste_behind.calls kj6 a0 a1 ji14 t231 t232 _ A15.out).mono ?_); rintro e w17 ⟨rfl, hb⟩; have n0_ := Aside0.mk (below_step (by repeat (first | (with_reducible first | exact HB.out | apply below_alloc | apply pw_below_drewN | apply below_drew1) | exact HB.out)) hb); clear HB; have HB := n0_; clear n0_; (try clear hb); (try clear hb2); (try clear hk); (try clear hi))); try go_wp2_with (first | (go_at_call 46; (with_reducible refine (paste_behind.calls kj6 a0 a1 ji14 t231 t232 _ A15.out).mono ?_); rintro e w17 ⟨rfl, hb⟩; have n0_ := Aside0.mk (below_step (by repeat (first | (with_reducible first | exact HB.out | apply below_alloc | apply pw_below_drewN | apply below_drew1) | exact HB.out)) hb); clear HB; have HB := n0_; clear n0_; (try clear hb); (try clear hb2); (try clear hk); (try clear hi))))
            go_ret3
            exact ⟨by first | rfl | (simp [errW_none, errW_some] <;> rfl) | (simp only [← hji14]; first | rfl | (simp [errW_none, errW_some] <;> rfl)) | (simp [*, errW_none, errW_some] <;> rfl), by repeat (first | (with_reducible first | exact HB.out | apply below_alloc | apply pw_below_drewN | apply below_drew1) | exact HB.out)⟩
          · rw [if_neg c16] at H
            have c16b0 : decide (t232 < (ji14)) = false := decide_eq_false c16
            clear c16
            replace H := Option.bind_eq_some_iff.mp H
            obtain ⟨⟨t233, t234⟩, A180, H⟩ := H
            replace H : (if t234 = true then (if 0 ≤ a1 then (if a1 ≤ (a0.size : Int) then (if 0 ≤ t231 then (if t231 ≤ (a0.size : Int) then (if (a0.extract 0 (a1 : Int).toNat).size + (a0.extract (t231 : Int).toNat a0.size).size ≤ 9223372036854775807 then ((paste_insert.f ((a0.extract 0 (a1 : Int).toNat) ++ (a0.extract (t231 : Int).toNat a0.size)) a1 t233).bind fun bt235 => (if bt235.2 = 0 then (some (bt235.1, wrap64 ((wrap64 (a1 + (t233.size : Int))) - (a2.size : Int)), 0)) else (some ((⟨#[]⟩ : ByteArray), 0, bt235.2)))) else (none)) else (none)) else (none)) else (none)) else (none)) else (some ((⟨#[]⟩ : ByteArray), 0, 8))) = some (r1, r2, r3) := H
            have A18 := Aside0.mk A180
            clear A180
            by_cases c19 : t234 = true
            · subst c19
              have H1 : (if 0 ≤ a1 then (if a1 ≤ (a0.size : Int) then (if 0 ≤ t231 then (if t231 ≤ (a0.size : Int) then (if (a0.extract 0 (a1 : Int).toNat).size + (a0.extract (t231 : Int).toNat a0.size).size ≤ 9223372036854775807 then ((paste_insert.f ((a0.extract 0 (a1 : Int).toNat) ++ (a0.extract (t231 : Int).toNat a0.size)) a1 t233).bind fun bt235 => (if bt235.2 = 0 then (some (bt235.1, wrap64 ((wrap64 (a1 + (t233.size : Int))) - (a2.size : Int)), 0)) else (some ((⟨#[]⟩ : ByteArray), 0, bt235.2)))) else (none)) else (none)) else (none)) else (none)) else (none)) = some (r1, r2, r3) := by rw [if_pos rfl] at H; exact H
              clear H
              have H := H1
              clear H1
              by_cases c20 : 0 ≤ a1
              · rw [if_pos c20] at H
                have c20b0 := eq_true c20
                have c20b1 : decide (0 ≤ a1) = true := decide_eq_true c20
                clear c20
                by_cases c21 : a1 ≤ (a0.size : Int)
                · rw [if_pos c21] at H
                  have c21b0 := eq_true c21
                  have c21b1 : decide (a1 ≤ (a0.size : Int)) = true := decide_eq_true c21
                  clear c21
                  by_cases c22 : 0 ≤ t231
                  · rw [if_pos c22] at H
                    have c22b0 := eq_true c22
                    have c22b1 : decide (0 ≤ t231) = true := decide_eq_true c22
                    clear c22
                    by_cases c23 : t231 ≤ (a0.size : Int)
                    · rw [if_pos c23] at H
                      have c23b0 := eq_true c23
                      have c23b1 : decide (t231 ≤ (a0.size : Int)) = true := decide_eq_true c23
                      clear c23
                      by_cases c24 : (a0.extract 0 (a1 : Int).toNat).size + (a0.extract (t231 : Int).toNat a0.size).size ≤ 9223372036854775807
                      · rw [if_pos c24] at H
                        have c24b0 := eq_true c24
                        have c24b1 : decide ((a0.extract 0 (a1 : Int).toNat).size + (a0.extract (t231 : Int).toNat a0.size).size ≤ 9223372036854775807) = true := decide_eq_true c24
                        try have c24b2 : (9223372036854775807 < (a0.extract 0 (a1 : Int).toNat).size + (a0.extract (t231 : Int).toNat a0.size).size) = False := eq_false (Nat.not_lt.2 c24)
                        have c24b3 : (9223372036854775807 < a1.toNat + (a0.size - t231.toNat)) = False := eq_false (Nat.not_lt.2 (by have q := c24; simp only [ByteArray.size_extract] at q; have q2 : a1 ≤ (a0.size : Int) := of_decide_eq_true (by assumption); have q3 : 0 ≤ a1 := of_decide_eq_true (by assumption); omega))
                        replace H := Option.bind_eq_some_iff.mp H
                        obtain ⟨⟨t235, t236⟩, A250, H⟩ := H
                        replace H : (if t236 = 0 then (some (t235, wrap64 ((wrap64 (a1 + (t233.size : Int))) - (a2.size : Int)), 0)) else (some ((⟨#[]⟩ : ByteArray), 0, t236))) = some (r1, r2, r3) := H
                        have A25 := Aside0.mk A250
                        clear A250
                        by_cases c26 : t236 = 0
                        · rw [if_pos c26] at H
                          have c26b0 : (t236 == 0) = true := beq_iff_eq.mpr c26
                          have c26b1 : (t236 != 0) = false := bne_eq_false_iff_eq.mpr c26
                          clear c26
                          simp only [Option.some.injEq, Prod.mk.injEq] at H
                          obtain ⟨rfl, rfl, rfl⟩ := H
                          go_wp2_with (first | (go_at_call 46; (with_reducible refine (paste_behind.calls kj6 a0 a1 ji14 t231 t232 _ A15.out).mono ?_); rintro e w27 ⟨rfl, hb⟩; have n0_ := Aside0.mk (below_step (by repeat (first | (with_reducible first | exact HB.out | apply below_alloc | apply pw_below_drewN | apply below_drew1) | exact HB.out)) hb); clear HB; have HB := n0_; clear n0_; (try clear hb); (try clear hb2); (try clear hk); (try clear hi)) | (go_at_call 23; (with_reducible refine (paste_times.calls kj6 a2 (⟨#[]⟩ : ByteArray) ji14 t233 true _ A18.out).mono ?_); rintro e w28 ⟨rfl, hb⟩; have n0_ := Aside0.mk (below_step (by repeat (first | (with_reducible first | exact HB.out | apply below_alloc | apply pw_below_drewN | apply below_drew1) | exact HB.out)) hb); clear HB; have HB := n0_; clear n0_; (try clear hb); (try clear hb2); (try clear hk); (try clear hi)) | (go_at_call 26; (with_reducible refine (paste_insert.calls ((a0.extract 0 (a1 : Int).toNat) ++ (a0.extract (t231 : Int).toNat a0.size)) a1 t233 t235 t236 _ A25.out).mono ?_); rintro e w' ⟨rfl, ⟨nd, rfl⟩⟩; (try first | exact ⟨rfl, _, World.drewN_drewN _ _ _⟩ | exact ⟨rfl, _, Eq.trans (World.drewN_drewN _ _ _) (congrArg (World.drewN _) (Nat.add_assoc _ _ _))⟩)))
                          repeat (go_quiet (first | (go_at_call 46; (with_reducible refine (paste_behind.calls kj6 a0 a1 ji14 t231 t232 _ A15.out).mono ?_); rintro e w27 ⟨rfl, hb⟩; have n0_ := Aside0.mk (below_step (by repeat (first | (with_reducible first | exact HB.out | apply below_alloc | apply pw_below_drewN | apply below_drew1) | exact HB.out)) hb); clear HB; have HB := n0_; clear n0_; (try clear hb); (try clear hb2); (try clear hk); (try clear hi)) | (go_at_call 23; (with_reducible refine (paste_times.calls kj6 a2 (⟨#[]⟩ : ByteArray) ji14 t233 true _ A18.out).mono ?_); rintro e w28 ⟨rfl, hb⟩; have n0_ := Aside0.mk (below_step (by repeat (first | (with_reducible first | exact HB.out | apply below_alloc | apply pw_below_drewN | apply below_drew1) | exact HB.out)) hb); clear HB; have HB := n0_; clear n0_; (try clear hb); (try clear hb2); (try clear hk); (try clear hi)) | (go_at_call 26; (with_reducible refine (paste_insert.calls ((a0.extract 0 (a1 : Int).toNat) ++ (a0.extract (t231 : Int).toNat a0.size)) a1 t233 t235 t236 _ A25.out).mono ?_); rintro e w' ⟨rfl, ⟨nd, rfl⟩⟩; (try first | exact ⟨rfl, _, World.drewN_drewN _ _ _⟩ | exact ⟨rfl, _, Eq.trans (World.drewN_drewN _ _ _) (congrArg (World.drewN _) (Nat.add_assoc _ _ _))⟩))); try go_wp2_with (first | (go_at_call 46; (with_reducible refine (paste_behind.calls kj6 a0 a1 ji14 t231 t232 _ A15.out).mono ?_); rintro e w27 ⟨rfl, hb⟩; have n0_ := Aside0.mk (below_step (by repeat (first | (with_reducible first | exact HB.out | apply below_alloc | apply pw_below_drewN | apply below_drew1) | exact HB.out)) hb); clear HB; have HB := n0_; clear n0_; (try clear hb); (try clear hb2); (try clear hk); (try clear hi)) | (go_at_call 23; (with_reducible refine (paste_times.calls kj6 a2 (⟨#[]⟩ : ByteArray) ji14 t233 true _ A18.out).mono ?_); rintro e w28 ⟨rfl, hb⟩; have n0_ := Aside0.mk (below_step (by repeat (first | (with_reducible first | exact HB.out | apply below_alloc | apply pw_below_drewN | apply below_drew1) | exact HB.out)) hb); clear HB; have HB := n0_; clear n0_; (try clear hb); (try clear hb2); (try clear hk); (try clear hi)) | (go_at_call 26; (with_reducible refine (paste_insert.calls ((a0.extract 0 (a1 : Int).toNat) ++ (a0.extract (t231 : Int).toNat a0.size)) a1 t233 t235 t236 _ A25.out).mono ?_); rintro e w' ⟨rfl, ⟨nd, rfl⟩⟩; (try first | exact ⟨rfl, _, World.drewN_drewN _ _ _⟩ | exact ⟨rfl, _, Eq.trans (World.drewN_drewN _ _ _) (congrArg (World.drewN _) (Nat.add_assoc _ _ _))⟩))))
                          go_ret3
                          exact ⟨by first | rfl | (simp [errW_none, errW_some] <;> rfl) | (simp only [← hji14]; first | rfl | (simp [errW_none, errW_some] <;> rfl)) | (simp [*, errW_none, errW_some] <;> rfl), by repeat (first | (with_reducible first | exact HB.out | apply below_alloc | apply pw_below_drewN | apply below_drew1) | exact HB.out)⟩
                        · rw [if_neg c26] at H
                          have c26b0 : (t236 == 0) = false := beq_eq_false_iff_ne.mpr c26
                          have c26b1 : (t236 != 0) = true := bne_iff_ne.mpr c26
                          simp only [Option.some.injEq, Prod.mk.injEq] at H
                          obtain ⟨rfl, rfl, rfl⟩ := H
                          go_wp2_with (first | (go_at_call 46; (with_reducible refine (paste_behind.calls kj6 a0 a1 ji14 t231 t232 _ A15.out).mono ?_); rintro e w29 ⟨rfl, hb⟩; have n0_ := Aside0.mk (below_step (by repeat (first | (with_reducible first | exact HB.out | apply below_alloc | apply pw_below_drewN | apply below_drew1) | exact HB.out)) hb); clear HB; have HB := n0_; clear n0_; (try clear hb); (try clear hb2); (try clear hk); (try clear hi)) | (go_at_call 23; (with_reducible refine (paste_times.calls kj6 a2 (⟨#[]⟩ : ByteArray) ji14 t233 true _ A18.out).mono ?_); rintro e w30 ⟨rfl, hb⟩; have n0_ := Aside0.mk (below_step (by repeat (first | (with_reducible first | exact HB.out | apply below_alloc | apply pw_below_drewN | apply below_drew1) | exact HB.out)) hb); clear HB; have HB := n0_; clear n0_; (try clear hb); (try clear hb2); (try clear hk); (try clear hi)) | (go_at_call 26; (with_reducible refine (paste_insert.calls ((a0.extract 0 (a1 : Int).toNat) ++ (a0.extract (t231 : Int).toNat a0.size)) a1 t233 t235 t236 _ A25.out).mono ?_); rintro e w' ⟨rfl, ⟨nd, rfl⟩⟩; (try first | exact ⟨rfl, _, World.drewN_drewN _ _ _⟩ | exact ⟨rfl, _, Eq.trans (World.drewN_drewN _ _ _) (congrArg (World.drewN _) (Nat.add_assoc _ _ _))⟩)))
                          repeat (go_quiet (first | (go_at_call 46; (with_reducible refine (paste_behind.calls kj6 a0 a1 ji14 t231 t232 _ A15.out).mono ?_); rintro e w29 ⟨rfl, hb⟩; have n0_ := Aside0.mk (below_step (by repeat (first | (with_reducible first | exact HB.out | apply below_alloc | apply pw_below_drewN | apply below_drew1) | exact HB.out)) hb); clear HB; have HB := n0_; clear n0_; (try clear hb); (try clear hb2); (try clear hk); (try clear hi)) | (go_at_call 23; (with_reducible refine (paste_times.calls kj6 a2 (⟨#[]⟩ : ByteArray) ji14 t233 true _ A18.out).mono ?_); rintro e w30 ⟨rfl, hb⟩; have n0_ := Aside0.mk (below_step (by repeat (first | (with_reducible first | exact HB.out | apply below_alloc | apply pw_below_drewN | apply below_drew1) | exact HB.out)) hb); clear HB; have HB := n0_; clear n0_; (try clear hb); (try clear hb2); (try clear hk); (try clear hi)) | (go_at_call 26; (with_reducible refine (paste_insert.calls ((a0.extract 0 (a1 : Int).toNat) ++ (a0.extract (t231 : Int).toNat a0.size)) a1 t233 t235 t236 _ A25.out).mono ?_); rintro e w' ⟨rfl, ⟨nd, rfl⟩⟩; (try first | exact ⟨rfl, _, World.drewN_drewN _ _ _⟩ | exact ⟨rfl, _, Eq.trans (World.drewN_drewN _ _ _) (congrArg (World.drewN _) (Nat.add_assoc _ _ _))⟩))); try go_wp2_with (first | (go_at_call 46; (with_reducible refine (paste_behind.calls kj6 a0 a1 ji14 t231 t232 _ A15.out).mono ?_); rintro e w29 ⟨rfl, hb⟩; have n0_ := Aside0.mk (below_step (by repeat (first | (with_reducible first | exact HB.out | apply below_alloc | apply pw_below_drewN | apply below_drew1) | exact HB.out)) hb); clear HB; have HB := n0_; clear n0_; (try clear hb); (try clear hb2); (try clear hk); (try clear hi)) | (go_at_call 23; (with_reducible refine (paste_times.calls kj6 a2 (⟨#[]⟩ : ByteArray) ji14 t233 true _ A18.out).mono ?_); rintro e w30 ⟨rfl, hb⟩; have n0_ := Aside0.mk (below_step (by repeat (first | (with_reducible first | exact HB.out | apply below_alloc | apply pw_below_drewN | apply below_drew1) | exact HB.out)) hb); clear HB; have HB := n0_; clear n0_; (try clear hb); (try clear hb2); (try clear hk); (try clear hi)) | (go_at_call 26; (with_reducible refine (paste_insert.calls ((a0.extract 0 (a1 : Int).toNat) ++ (a0.extract (t231 : Int).toNat a0.size)) a1 t233 t235 t236 _ A25.out).mono ?_); rintro e w' ⟨rfl, ⟨nd, rfl⟩⟩; (try first | exact ⟨rfl, _, World.drewN_drewN _ _ _⟩ | exact ⟨rfl, _, Eq.trans (World.drewN_drewN _ _ _) (congrArg (World.drewN _) (Nat.add_assoc _ _ _))⟩))))
                          go_ret3
                          exact ⟨by first | rfl | (simp [errW_none, errW_some] <;> rfl) | (simp only [← hji14]; first | rfl | (simp [errW_none, errW_some] <;> rfl)) | (simp [*, errW_none, errW_some] <;> rfl), by repeat (first | (with_reducible first | exact HB.out | apply below_alloc | apply pw_below_drewN | apply below_drew1) | exact HB.out)⟩
                      · rw [if_neg c24] at H
                        exact absurd H (by simp)
                    · rw [if_neg c23] at H
                      exact absurd H (by simp)
                  · rw [if_neg c22] at H
                    exact absurd H (by simp)
                · rw [if_neg c21] at H
                  exact absurd H (by simp)
              · rw [if_neg c20] at H
                exact absurd H (by simp)
            · replace c19 := Bool.eq_false_iff.mpr c19
              subst c19
              have H1 : (some ((⟨#[]⟩ : ByteArray), 0, 8)) = some (r1, r2, r3) := by rw [if_neg (show ¬ (false = true) by decide)] at H; exact H
              clear H
              have H := H1
              clear H1
              simp only [Option.some.injEq, Prod.mk.injEq] at H
              obtain ⟨rfl, rfl, rfl⟩ := H
              go_wp2_with (first | (go_at_call 46; (with_reducible refine (paste_behind.calls kj6 a0 a1 ji14 t231 t232 _ A15.out).mono ?_); rintro e w31 ⟨rfl, hb⟩; have n0_ := Aside0.mk (below_step (by repeat (first | (with_reducible first | exact HB.out | apply below_alloc | apply pw_below_drewN | apply below_drew1) | exact HB.out)) hb); clear HB; have HB := n0_; clear n0_; (try clear hb); (try clear hb2); (try clear hk); (try clear hi)) | (go_at_call 23; (with_reducible refine (paste_times.calls kj6 a2 (⟨#[]⟩ : ByteArray) ji14 t233 false _ A18.out).mono ?_); rintro e w32 ⟨rfl, hb⟩; have n0_ := Aside0.mk (below_step (by repeat (first | (with_reducible first | exact HB.out | apply below_alloc | apply pw_below_drewN | apply below_drew1) | exact HB.out)) hb); clear HB; have HB := n0_; clear n0_; (try clear hb); (try clear hb2); (try clear hk); (try clear hi)))
              repeat (go_quiet (first | (go_at_call 46; (with_reducible refine (paste_behind.calls kj6 a0 a1 ji14 t231 t232 _ A15.out).mono ?_); rintro e w31 ⟨rfl, hb⟩; have n0_ := Aside0.mk (below_step (by repeat (first | (with_reducible first | exact HB.out | apply below_alloc | apply pw_below_drewN | apply below_drew1) | exact HB.out)) hb); clear HB; have HB := n0_; clear n0_; (try clear hb); (try clear hb2); (try clear hk); (try clear hi)) | (go_at_call 23; (with_reducible refine (paste_times.calls kj6 a2 (⟨#[]⟩ : ByteArray) ji14 t233 false _ A18.out).mono ?_); rintro e w32 ⟨rfl, hb⟩; have n0_ := Aside0.mk (below_step (by repeat (first | (with_reducible first | exact HB.out | apply below_alloc | apply pw_below_drewN | apply below_drew1) | exact HB.out)) hb); clear HB; have HB := n0_; clear n0_; (try clear hb); (try clear hb2); (try clear hk); (try clear hi))); try go_wp2_with (first | (go_at_call 46; (with_reducible refine (paste_behind.calls kj6 a0 a1 ji14 t231 t232 _ A15.out).mono ?_); rintro e w31 ⟨rfl, hb⟩; have n0_ := Aside0.mk (below_step (by repeat (first | (with_reducible first | exact HB.out | apply below_alloc | apply pw_below_drewN | apply below_drew1) | exact HB.out)) hb); clear HB; have HB := n0_; clear n0_; (try clear hb); (try clear hb2); (try clear hk); (try clear hi)) | (go_at_call 23; (with_reducible refine (paste_times.calls kj6 a2 (⟨#[]⟩ : ByteArray) ji14 t233 false _ A18.out).mono ?_); rintro e w32 ⟨rfl, hb⟩; have n0_ := Aside0.mk (below_step (by repeat (first | (with_reducible first | exact HB.out | apply below_alloc | apply pw_below_drewN | apply below_drew1) | exact HB.out)) hb); clear HB; have HB := n0_; clear n0_; (try clear hb); (try clear hb2); (try clear hk); (try clear hi))))
              go_ret3
              exact ⟨by first | rfl | (simp [errW_none, errW_some] <;> rfl) | (simp only [← hji14]; first | rfl | (simp [errW_none, errW_some] <;> rfl)) | (simp [*, errW_none, errW_some] <;> rfl), by repeat (first | (with_reducible first | exact HB.out | apply below_alloc | apply pw_below_drewN | apply below_drew1) | exact HB.out)⟩
  · replace c6 := Bool.eq_false_iff.mpr c6
    subst c6
    have H1 : (some ((⟨#[]⟩ : ByteArray), 0, 1)) = some (r1, r2, r3) := by rw [if_neg (show ¬ (false = true) by decide)] at H; exact H
    clear H
    have H := H1
    clear H1
    simp only [Option.some.injEq, Prod.mk.injEq] at H
    obtain ⟨rfl, rfl, rfl⟩ := H
    go_enter Tryd.func14, Tryd.ntmps14
    go_wp2_with (first | (go_at_call 19; (with_reducible refine (utf_Place.calls a0 a1 false _ A5.out).mono ?_); rintro e w33 ⟨rfl, hb⟩; have n0_ := Aside0.mk (below_step (by repeat (first | (with_reducible first | exact HB.out | apply below_alloc | apply pw_below_drewN | apply below_drew1) | exact HB.out)) hb); clear HB; have HB := n0_; clear n0_; (try clear hb); (try clear hb2); (try clear hk); (try clear hi)))
    repeat (go_quiet (first | (go_at_call 19; (with_reducible refine (utf_Place.calls a0 a1 false _ A5.out).mono ?_); rintro e w33 ⟨rfl, hb⟩; have n0_ := Aside0.mk (below_step (by repeat (first | (with_reducible first | exact HB.out | apply below_alloc | apply pw_below_drewN | apply below_drew1) | exact HB.out)) hb); clear HB; have HB := n0_; clear n0_; (try clear hb); (try clear hb2); (try clear hk); (try clear hi))); try go_wp2_with (first | (go_at_call 19; (with_reducible refine (utf_Place.calls a0 a1 false _ A5.out).mono ?_); rintro e w33 ⟨rfl, hb⟩; have n0_ := Aside0.mk (below_step (by repeat (first | (with_reducible first | exact HB.out | apply below_alloc | apply pw_below_drewN | apply below_drew1) | exact HB.out)) hb); clear HB; have HB := n0_; clear n0_; (try clear hb); (try clear hb2); (try clear hk); (try clear hi))))
    go_ret3
    exact ⟨by first | rfl | (simp [errW_none, errW_some] <;> rfl) | (simp [*, errW_none, errW_some] <;> rfl), by repeat (first | (with_reducible first | exact HB.out | apply below_alloc | apply pw_below_drewN | apply below_drew1) | exact HB.out)⟩


/-! ### calamusref13_Sign -/
def calamusref13_Sign.f (a0 : ByteArray) : Option (Bool) := (calamusref03_Is.f a0).bind fun t237 => (if t237 = true then (if (a0.size : Int) > 1 then (some true) else (if 0 < (a0.size : Int) then (if (bt a0 0) ≥ 32 then (some (decide ((bt a0 0) ≤ 126))) else (some false)) else (none))) else (some false))
set_option maxHeartbeats 8000000 in
set_option maxRecDepth 100000 in
theorem calamusref13_Sign.calls (a0 : ByteArray) (r : Bool) (w : World) (h : calamusref13_Sign.f a0 = some r) :
    Calls Tryd.prog 51 #[.string a0] w fun e w' => e = .returned (.bool r) ∧ Below w.heap.size w w' := by
  have HB := Aside0.mk (Below.refl w.heap.size w)
  have H : ((calamusref03_Is.f a0).bind fun t237 => (if t237 = true then (if (a0.size : Int) > 1 then (some true) else (if 0 < (a0.size : Int) then (if (bt a0 0) ≥ 32 then (some (decide ((bt a0 0) ≤ 126))) else (some false)) else (none))) else (some false))) = some r := h
  clear h
  replace H := Option.bind_eq_some_iff.mp H
  obtain ⟨t237, A20, H⟩ := H
  replace H : (if t237 = true then (if (a0.size : Int) > 1 then (some true) else (if 0 < (a0.size : Int) then (if (bt a0 0) ≥ 32 then (some (decide ((bt a0 0) ≤ 126))) else (some false)) else (none))) else (some false)) = some r := H
  have A2 := Aside0.mk A20
  clear A20
  by_cases c3 : t237 = true
  · subst c3
    have H1 : (if (a0.size : Int) > 1 then (some true) else (if 0 < (a0.size : Int) then (if (bt a0 0) ≥ 32 then (some (decide ((bt a0 0) ≤ 126))) else (some false)) else (none))) = some r := by rw [if_pos rfl] at H; exact H
    clear H
    have H := H1
    clear H1
    by_cases c4 : (a0.size : Int) > 1
    · rw [if_pos c4] at H
      have c4b0 : decide (1 < (a0.size : Int)) = true := decide_eq_true c4
      have c4b1 : decide (1 < a0.size) = true := decide_eq_true (by omega)
      clear c4
      obtain rfl := Option.some.inj H
      go_enter Tryd.func51, Tryd.ntmps51
      go_wp2_with (first | ((with_reducible refine gate_callee (f := 70) rfl ?_); refine goesL_ (some 4) rfl rfl Tryd.func70 (by kernel_rfl) rfl #[.string a0] rfl (by (try simp only [List.map_toArray, List.map_cons, List.map_nil]); first | done | rfl | (simp only [List.length_drop, List.length_take]; rfl)) ?_; (with_reducible refine (calamusref03_Is.calls a0 true _ A2.out).mono ?_); rintro e w5 ⟨rfl, hb⟩; refine ⟨_, rfl, ?_⟩; have n0_ := Aside0.mk (below_step (by repeat (first | (with_reducible first | exact HB.out | apply below_alloc | apply pw_below_drewN | apply below_drew1) | exact HB.out)) hb); clear HB; have HB := n0_; clear n0_; (try clear hb); (try clear hb2); (try clear hk); (try clear hi)))
      go_ret
      exact ⟨by first | rfl | (simp [errW_none, errW_some] <;> rfl) | (simp [*, errW_none, errW_some] <;> rfl), by repeat (first | (with_reducible first | exact HB.out | apply below_alloc | apply pw_below_drewN | apply below_drew1) | exact HB.out)⟩
    · rw [if_neg c4] at H
      have c4b0 : decide (1 < (a0.size : Int)) = false := decide_eq_false c4
      have c4b1 : decide (1 < a0.size) = false := decide_eq_false (by omega)
      clear c4
      by_cases c6 : 0 < (a0.size : Int)
      · rw [if_pos c6] at H
        have c6b0 : decide (0 < (a0.size : Int)) = true := decide_eq_true c6
        have c6b1 : decide (0 < a0.size) = true := decide_eq_true (by omega)
        clear c6
        by_cases c8 : (bt a0 0) ≥ 32
        · rw [if_pos c8] at H
          have c8b0 : decide (32 ≤ (bt a0 0)) = true := decide_eq_true c8
          clear c8
          obtain rfl := Option.some.inj H
          go_enter Tryd.func51, Tryd.ntmps51
          go_wp2_with (first | ((with_reducible refine gate_callee (f := 70) rfl ?_); refine goesL_ (some 4) rfl rfl Tryd.func70 (by kernel_rfl) rfl #[.string a0] rfl (by (try simp only [List.map_toArray, List.map_cons, List.map_nil]); first | done | rfl | (simp only [List.length_drop, List.length_take]; rfl)) ?_; (with_reducible refine (calamusref03_Is.calls a0 true _ A2.out).mono ?_); rintro e w10 ⟨rfl, hb⟩; refine ⟨_, rfl, ?_⟩; have n0_ := Aside0.mk (below_step (by repeat (first | (with_reducible first | exact HB.out | apply below_alloc | apply pw_below_drewN | apply below_drew1) | exact HB.out)) hb); clear HB; have HB := n0_; clear n0_; (try clear hb); (try clear hb2); (try clear hk); (try clear hi); have p7 : 0 ≤ (0 : Int) := (by omega); have q7 : 0 < a0.size := (by have : (0 : Int) < (a0.size : Int) := of_decide_eq_true (by first | (with_reducible assumption) | assumption); omega); have hx7 : ∀ h : 0 < a0.size, ((a0[0]'h).toNat : Int) = bt a0 0 := bt_at a0 0; clear p7; have qi7 : (0 < (a0.size : Int)) = True := eq_true (of_decide_eq_true (by first | (with_reducible assumption) | assumption)); replace q7 := eq_true q7; have p9 : 0 ≤ (0 : Int) := (by omega); have q9 : 0 < a0.size := (by have : (0 : Int) < (a0.size : Int) := of_decide_eq_true (by first | (with_reducible assumption) | assumption); omega); have hx9 : ∀ h : 0 < a0.size, ((a0[0]'h).toNat : Int) = bt a0 0 := bt_at a0 0; clear p9; have qi9 : (0 < (a0.size : Int)) = True := eq_true (of_decide_eq_true (by first | (with_reducible assumption) | assumption)); replace q9 := eq_true q9))
          go_ret
          exact ⟨by first | rfl | (simp [errW_none, errW_some] <;> rfl) | (simp [*, errW_none, errW_some] <;> rfl), by repeat (first | (with_reducible first | exact HB.out | apply below_alloc | apply pw_below_drewN | apply below_drew1) | exact HB.out)⟩
        · rw [if_neg c8] at H
          have c8b0 : decide (32 ≤ (bt a0 0)) = false := decide_eq_false c8
          clear c8
          obtain rfl := Option.some.inj H
          go_enter Tryd.func51, Tryd.ntmps51
          go_wp2_with (first | ((with_reducible refine gate_callee (f := 70) rfl ?_); refine goesL_ (some 4) rfl rfl Tryd.func70 (by kernel_rfl) rfl #[.string a0] rfl (by (try simp only [List.map_toArray, List.map_cons, List.map_nil]); first | done | rfl | (simp only [List.length_drop, List.length_take]; rfl)) ?_; (with_reducible refine (calamusref03_Is.calls a0 true _ A2.out).mono ?_); rintro e w11 ⟨rfl, hb⟩; refine ⟨_, rfl, ?_⟩; have n0_ := Aside0.mk (below_step (by repeat (first | (with_reducible first | exact HB.out | apply below_alloc | apply pw_below_drewN | apply below_drew1) | exact HB.out)) hb); clear HB; have HB := n0_; clear n0_; (try clear hb); (try clear hb2); (try clear hk); (try clear hi); have p7 : 0 ≤ (0 : Int) := (by omega); have q7 : 0 < a0.size := (by have : (0 : Int) < (a0.size : Int) := of_decide_eq_true (by first | (with_reducible assumption) | assumption); omega); have hx7 : ∀ h : 0 < a0.size, ((a0[0]'h).toNat : Int) = bt a0 0 := bt_at a0 0; clear p7; have qi7 : (0 < (a0.size : Int)) = True := eq_true (of_decide_eq_true (by first | (with_reducible assumption) | assumption)); replace q7 := eq_true q7))
          go_ret
          exact ⟨by first | rfl | (simp [errW_none, errW_some] <;> rfl) | (simp [*, errW_none, errW_some] <;> rfl), by repeat (first | (with_reducible first | exact HB.out | apply below_alloc | apply pw_below_drewN | apply below_drew1) | exact HB.out)⟩
      · rw [if_neg c6] at H
        exact absurd H (by simp)
  · replace c3 := Bool.eq_false_iff.mpr c3
    subst c3
    have H1 : (some false) = some r := by rw [if_neg (show ¬ (false = true) by decide)] at H; exact H
    clear H
    have H := H1
    clear H1
    obtain rfl := Option.some.inj H
    go_enter Tryd.func51, Tryd.ntmps51
    go_wp2_with (first | ((with_reducible refine gate_callee (f := 70) rfl ?_); refine goesL_ (some 4) rfl rfl Tryd.func70 (by kernel_rfl) rfl #[.string a0] rfl (by (try simp only [List.map_toArray, List.map_cons, List.map_nil]); first | done | rfl | (simp only [List.length_drop, List.length_take]; rfl)) ?_; (with_reducible refine (calamusref03_Is.calls a0 false _ A2.out).mono ?_); rintro e w12 ⟨rfl, hb⟩; refine ⟨_, rfl, ?_⟩; have n0_ := Aside0.mk (below_step (by repeat (first | (with_reducible first | exact HB.out | apply below_alloc | apply pw_below_drewN | apply below_drew1) | exact HB.out)) hb); clear HB; have HB := n0_; clear n0_; (try clear hb); (try clear hb2); (try clear hk); (try clear hi)))
    go_ret
    exact ⟨by first | rfl | (simp [errW_none, errW_some] <;> rfl) | (simp [*, errW_none, errW_some] <;> rfl), by repeat (first | (with_reducible first | exact HB.out | apply below_alloc | apply pw_below_drewN | apply below_drew1) | exact HB.out)⟩

end Go.Proofs.YtckfdehendifoaaDoor.QP
-- Printed by this work's xp.py out of the translation. Lean checks it.
namespace Go.Proofs.YtckfdehendifoaaDoor.QP
open Go.RowKit Go.Proofs.YtckfdehendifoaaDoorW.PrintWords Go.Proofs.YtckfdehendifoaaDoorW.PrintLast Go.Proofs.YtckfdehendifoaaDoorW.PrintMore
attribute [local go_sem] max2_int min2_int max_two min_two max_three min_three max_four min_four   -- for this text's walks alone
set_option linter.unusedVariables false
set_option linter.unusedSimpArgs false


/-! ### paste_Put -/
mutual
def paste_Put.j0 : Nat → ByteArray → Int → Bool → Int → Bool → Int → Bool → ByteArray → Option (ByteArray × Int × Int)
  | 0, _, _, _, _, _, _, _, _ => none
  | k + 1, x0, x1, x3, x4, x26, x119000, x119001, x119002 => if x26 = true then (some ((⟨#[]⟩ : ByteArray), 0, 1)) else (if x119002.toList = ([] : List UInt8) then (paste_Put.j1 k x0 x1 x3 x4 (!x119001) x119000 x119001 x119002) else (paste_Put.j1 k x0 x1 x3 x4 false x119000 x119001 x119002))
def paste_Put.j1 : Nat → ByteArray → Int → Bool → Int → Bool → Int → Bool → ByteArray → Option (ByteArray × Int × Int)
  | 0, _, _, _, _, _, _, _, _ => none
  | k + 1, x0, x1, x3, x4, x34, x119000, x119001, x119002 => if x34 = true then (some ((⟨#[]⟩ : ByteArray), 0, 7)) else (if x119001 = true then ((line_Of.f x0 x1).bind fun t121 => ((paste_lines.f k x0 t121 x119002 x3 (mx x4 1)).bind fun bt122 => (some (bt122.1, bt122.2.1, bt122.2.2)))) else ((paste_times.f k x119002 (⟨#[]⟩ : ByteArray) (mx x4 1)).bind fun bt125 => (if bt125.2 = true then (if x3 = true then (paste_Put.j2 k x0 x1 bt125.1 false) else ((paste_stop.f x0 x1).bind fun t127 => (paste_Put.j2 k x0 x1 bt125.1 (!t127)))) else (some ((⟨#[]⟩ : ByteArray), 0, 8)))))
def paste_Put.j2 : Nat → ByteArray → Int → ByteArray → Bool → Option (ByteArray × Int × Int)
  | 0, _, _, _, _ => none
  | k + 1, x0, x1, x13, x67 => if x67 = true then ((utf_Next.f x0 x1).bind fun t128 => (paste_Put.j3 k x0 t128 x13)) else (paste_Put.j3 k x0 x1 x13)
def paste_Put.j3 : Nat → ByteArray → Int → ByteArray → Option (ByteArray × Int × Int)
  | 0, _, _, _ => none
  | k + 1, x0, x1, x13 => (paste_insert.f x0 x1 x13).bind fun bt129 => (if bt129.2 = 0 then ((strings_Contains.f x13 (⟨#[10]⟩ : ByteArray)).bind fun t131 => (if t131 = true then ((line_Clamp.f bt129.1 x1).bind fun t132 => (some (bt129.1, t132, 0))) else ((utf_Prev.f bt129.1 (wrap64 (x1 + (x13.size : Int)))).bind fun t133 => (some (bt129.1, t133, 0))))) else (some ((⟨#[]⟩ : ByteArray), 0, bt129.2)))
end
def paste_Put.f (k : Nat) (a0 : ByteArray) (a1 : Int) (a2_0 : Int) (a2_1 : Bool) (a2_2 : ByteArray) (a3 : Bool) (a4 : Int) : Option (ByteArray × Int × Int) := (utf_Place.f a0 a1).bind fun t119 => (if t119 = true then ((utf_Valid.f a2_2).bind fun t120 => (paste_Put.j0 k a0 a1 a3 a4 (!t120) a2_0 a2_1 a2_2)) else (paste_Put.j0 k a0 a1 a3 a4 true a2_0 a2_1 a2_2))
theorem paste_Put.mono_l : ∀ k, (∀ y0 y1 y2 y3 y4 y5 y6 y7, LeO (paste_Put.j0 k y0 y1 y2 y3 y4 y5 y6 y7) (paste_Put.j0 (k + 1) y0 y1 y2 y3 y4 y5 y6 y7)) ∧ (∀ y0 y1 y2 y3 y4 y5 y6 y7, LeO (paste_Put.j1 k y0 y1 y2 y3 y4 y5 y6 y7) (paste_Put.j1 (k + 1) y0 y1 y2 y3 y4 y5 y6 y7)) ∧ (∀ y0 y1 y2 y3, LeO (paste_Put.j2 k y0 y1 y2 y3) (paste_Put.j2 (k + 1) y0 y1 y2 y3)) ∧ (∀ y0 y1 y2, LeO (paste_Put.j3 k y0 y1 y2) (paste_Put.j3 (k + 1) y0 y1 y2))
  | 0 => ⟨fun _ _ _ _ _ _ _ _ r h => by simp [paste_Put.j0] at h, fun _ _ _ _ _ _ _ _ r h => by simp [paste_Put.j1] at h, fun _ _ _ _ r h => by simp [paste_Put.j2] at h, fun _ _ _ r h => by simp [paste_Put.j3] at h⟩
  | k + 1 => by
    obtain ⟨ih0, ih1, ih2, ih3⟩ := paste_Put.mono_l k
    refine ⟨?_, ?_, ?_, ?_⟩
    · intro y0 y1 y2 y3 y4 y5 y6 y7
      unfold paste_Put.j0
      repeat' first
      | (with_reducible exact ih0 _ _ _ _ _ _ _ _)
      | (with_reducible exact ih1 _ _ _ _ _ _ _ _)
      | (with_reducible exact ih2 _ _ _ _)
      | (with_reducible exact ih3 _ _ _)
      | (with_reducible exact paste_lines.mono _ _ _ _ _ _)
      | (with_reducible exact paste_times.mono _ _ _ _)
      | (with_reducible exact LeO.refl _)
      | (with_reducible exact LeO.none _)
      | (with_reducible refine LeO.ite ?_ ?_)
      | (with_reducible refine LeO.bind ?_ (fun _ => ?_))
      | exact ih0 _ _ _ _ _ _ _ _
      | exact ih1 _ _ _ _ _ _ _ _
      | exact ih2 _ _ _ _
      | exact ih3 _ _ _
      | exact paste_lines.mono _ _ _ _ _ _
      | exact paste_times.mono _ _ _ _
      | exact LeO.none _
      | refine LeO.ite ?_ ?_
      | refine LeO.bind ?_ (fun _ => ?_)
    · intro y0 y1 y2 y3 y4 y5 y6 y7
      unfold paste_Put.j1
      repeat' first
      | (with_reducible exact ih0 _ _ _ _ _ _ _ _)
      | (with_reducible exact ih1 _ _ _ _ _ _ _ _)
      | (with_reducible exact ih2 _ _ _ _)
      | (with_reducible exact ih3 _ _ _)
      | (with_reducible exact paste_lines.mono _ _ _ _ _ _)
      | (with_reducible exact paste_times.mono _ _ _ _)
      | (with_reducible exact LeO.refl _)
      | (with_reducible exact LeO.none _)
      | (with_reducible refine LeO.ite ?_ ?_)
      | (with_reducible refine LeO.bind ?_ (fun _ => ?_))
      | exact ih0 _ _ _ _ _ _ _ _
      | exact ih1 _ _ _ _ _ _ _ _
      | exact ih2 _ _ _ _
      | exact ih3 _ _ _
      | exact paste_lines.mono _ _ _ _ _ _
      | exact paste_times.mono _ _ _ _
      | exact LeO.none _
      | refine LeO.ite ?_ ?_
      | refine LeO.bind ?_ (fun _ => ?_)
    · intro y0 y1 y2 y3
      unfold paste_Put.j2
      repeat' first
      | (with_reducible exact ih0 _ _ _ _ _ _ _ _)
      | (with_reducible exact ih1 _ _ _ _ _ _ _ _)
      | (with_reducible exact ih2 _ _ _ _)
      | (with_reducible exact ih3 _ _ _)
      | (with_reducible exact paste_lines.mono _ _ _ _ _ _)
      | (with_reducible exact paste_times.mono _ _ _ _)
      | (with_reducible exact LeO.refl _)
      | (with_reducible exact LeO.none _)
      | (with_reducible refine LeO.ite ?_ ?_)
      | (with_reducible refine LeO.bind ?_ (fun _ => ?_))
      | exact ih0 _ _ _ _ _ _ _ _
      | exact ih1 _ _ _ _ _ _ _ _
      | exact ih2 _ _ _ _
      | exact ih3 _ _ _
      | exact paste_lines.mono _ _ _ _ _ _
      | exact paste_times.mono _ _ _ _
      | exact LeO.none _
      | refine LeO.ite ?_ ?_
      | refine LeO.bind ?_ (fun _ => ?_)
    · intro y0 y1 y2
      unfold paste_Put.j3
      repeat' first
      | (with_reducible exact ih0 _ _ _ _ _ _ _ _)
      | (with_reducible exact ih1 _ _ _ _ _ _ _ _)
      | (with_reducible exact ih2 _ _ _ _)
      | (with_reducible exact ih3 _ _ _)
      | (with_reducible exact paste_lines.mono _ _ _ _ _ _)
      | (with_reducible exact paste_times.mono _ _ _ _)
      | (with_reducible exact LeO.refl _)
      | (with_reducible exact LeO.none _)
      | (with_reducible refine LeO.ite ?_ ?_)
      | (with_reducible refine LeO.bind ?_ (fun _ => ?_))
      | exact ih0 _ _ _ _ _ _ _ _
      | exact ih1 _ _ _ _ _ _ _ _
      | exact ih2 _ _ _ _
      | exact ih3 _ _ _
      | exact paste_lines.mono _ _ _ _ _ _
      | exact paste_times.mono _ _ _ _
      | exact LeO.none _
      | refine LeO.ite ?_ ?_
      | refine LeO.bind ?_ (fun _ => ?_)
theorem paste_Put.mono : ∀ a0 a1 a2 a3 a4 a5 a6 k, LeO (paste_Put.f k a0 a1 a2 a3 a4 a5 a6) (paste_Put.f (k + 1) a0 a1 a2 a3 a4 a5 a6) := by
  intro a0 a1 a2 a3 a4 a5 a6 k
  obtain ⟨ih0, ih1, ih2, ih3⟩ := paste_Put.mono_l k
  unfold paste_Put.f
  repeat' first
      | (with_reducible exact ih0 _ _ _ _ _ _ _ _)
      | (with_reducible exact ih1 _ _ _ _ _ _ _ _)
      | (with_reducible exact ih2 _ _ _ _)
      | (with_reducible exact ih3 _ _ _)
      | (with_reducible exact paste_lines.mono _ _ _ _ _ _)
      | (with_reducible exact paste_times.mono _ _ _ _)
      | (with_reducible exact LeO.refl _)
      | (with_reducible exact LeO.none _)
      | (with_reducible refine LeO.ite ?_ ?_)
      | (with_reducible refine LeO.bind ?_ (fun _ => ?_))
      | exact ih0 _ _ _ _ _ _ _ _
      | exact ih1 _ _ _ _ _ _ _ _
      | exact ih2 _ _ _ _
      | exact ih3 _ _ _
      | exact paste_lines.mono _ _ _ _ _ _
      | exact paste_times.mono _ _ _ _
      | exact LeO.none _
      | refine LeO.ite ?_ ?_
      | refine LeO.bind ?_ (fun _ => ?_)
def paste_Put.T6 : Bool × List (List Nat × List Nat) := (true, [([], []), ([], []), ([], []), ([1, 2], [1, 2]), ([], []), ([4], [4]), ([], []), ([], []), ([7], [7]), ([0, 3, 5, 6, 8, 3], [0, 3, 5, 6, 8]), ([9], [9]), ([9], [9]), ([9], [9]), ([10, 9, 0, 1, 2, 3, 4, 5, 6, 7, 8, 9, 10, 11, 12], [10]), ([11, 13, 0, 1, 2, 3, 4, 5, 6, 7, 8, 9, 10, 11, 12, 13], [11]), ([12, 14, 0, 1, 2, 3, 4, 5, 6, 7, 8, 9, 10, 11, 12, 13, 14], [12])])
def paste_Put.B6 : List Nat := [0, 0, 0, 6, 0, 16, 0, 0, 128, 511, 1023, 1023, 1023, 8191, 16383, 32767]
theorem paste_Put.tab6 : rtab .any (opsOf Tryd.f8 6) = paste_Put.T6 := by kernel_rfl
theorem paste_Put.bits6 : waitsOk paste_Put.T6.2 paste_Put.B6 = true := by kernel_rfl
set_option maxHeartbeats 8000000 in
set_option maxRecDepth 100000 in
theorem paste_Put.calls (k : Nat) (a0 : ByteArray) (a1 : Int) (a2_0 : Int) (a2_1 : Bool) (a2_2 : ByteArray) (a3 : Bool) (a4 : Int) (r1 : ByteArray) (r2 : Int) (r3 : Int) (w : World) (h : paste_Put.f k a0 a1 a2_0 a2_1 a2_2 a3 a4 = some (r1, r2, r3)) :
    Calls Tryd.prog 8 #[.string a0, .int .i64 a1, .agg #[.int .i64 a2_0, .bool a2_1, .string a2_2], .bool a3, .int .i64 a4] w fun e w' => e = .returned (.tuple #[.string r1, .int .i64 r2, .int .i64 r3]) ∧ Below w.heap.size w w' := by
  have hu23 := Tryd.underlying23
  have HB := Aside0.mk (Below.refl w.heap.size w)
  have H : ((utf_Place.f a0 a1).bind fun t119 => (if t119 = true then ((utf_Valid.f a2_2).bind fun t120 => (paste_Put.j0 k a0 a1 a3 a4 (!t120) a2_0 a2_1 a2_2)) else (paste_Put.j0 k a0 a1 a3 a4 true a2_0 a2_1 a2_2))) = some (r1, r2, r3) := h
  clear h
  have HC6 := Aside0.mk H
  clear H
  go_enter Tryd.func8, Tryd.ntmps8
  go_upto_region 1 with (first | ((with_reducible refine gate_dst (N := 7) rfl ?_); refine box_event ?hg (N := 7) ?hd (cs := #[.int .i64 a2_0, .bool a2_1, .string a2_2]) (t := 23) ?hr ?_; (case hd => rfl); (case hg => rfl); (case hr => first | (go_simp; done) | (go_simp; rfl)); intro gb118 hg w7 hbox hb; have n0_ := Aside0.mk (below_step (by repeat (first | (with_reducible first | exact HB.out | apply below_alloc | apply pw_below_drewN | apply below_drew1) | exact HB.out)) hb); have n1_ := Aside0.mk (hbox); have n2_ := Aside0.mk ((by rw [hg]; exact (below_size (by repeat (first | (with_reducible first | exact HB.out | apply below_alloc | apply pw_below_drewN | apply below_drew1) | exact HB.out))) : w.heap.size ≤ gb118)); have n3_ := Aside0.mk ((by rw [hg]; exact (below_size (by repeat (first | (with_reducible first | exact HB.out | apply below_alloc | apply pw_below_drewN | apply below_drew1) | exact HB.out))) : w.heap.size ≤ gb118)); clear HB; have HB := n0_; have BK118 := n1_; have GW118 := n2_; have GE118 := n3_; clear n0_ n1_ n2_ n3_; clear hb hbox hg))
  (try simp only [Act.put, List.setIfInBounds_toArray, List.set_cons_zero, List.set_cons_succ])
  go_cut [26] (fun v26 wc => ∃ (kq : Nat) (x26_5 : Bool), v26 = .bool x26_5 ∧ Aside0 (paste_Put.j0 kq a0 a1 a3 a4 x26_5 a2_0 a2_1 a2_2 = some (r1, r2, r3)) ∧ Aside0 (kq ≤ k) ∧ Aside0 (wc.heap[gb118]? = some (.cells #[.int .i64 a2_0, .bool a2_1, .string a2_2] 23 (0, 0))) ∧ Aside0 (Below w.heap.size w wc))
  case first =>
    have H := HC6.out
    clear HC6
    replace H := Option.bind_eq_some_iff.mp H
    obtain ⟨t119, A80, H⟩ := H
    replace H : (if t119 = true then ((utf_Valid.f a2_2).bind fun t120 => (paste_Put.j0 k a0 a1 a3 a4 (!t120) a2_0 a2_1 a2_2)) else (paste_Put.j0 k a0 a1 a3 a4 true a2_0 a2_1 a2_2)) = some (r1, r2, r3) := H
    have A8 := Aside0.mk A80
    clear A80
    by_cases c9 : t119 = true
    · subst c9
      have H1 : ((utf_Valid.f a2_2).bind fun t120 => (paste_Put.j0 k a0 a1 a3 a4 (!t120) a2_0 a2_1 a2_2)) = some (r1, r2, r3) := by rw [if_pos rfl] at H; exact H
      clear H
      have H := H1
      clear H1
      replace H := Option.bind_eq_some_iff.mp H
      obtain ⟨t120, A100, H⟩ := H
      replace H : (paste_Put.j0 k a0 a1 a3 a4 (!t120) a2_0 a2_1 a2_2) = some (r1, r2, r3) := H
      have A10 := Aside0.mk A100
      clear A100
      have H' := Aside0.mk H
      clear H
      go_wp2_with (first | ((with_reducible refine gate_callee (f := 19) rfl ?_); refine goesL_ (some 19) rfl rfl Tryd.func19 (by kernel_rfl) rfl #[.string a0, .int .i64 a1] rfl (by (try simp only [List.map_toArray, List.map_cons, List.map_nil]); first | done | rfl | (simp only [List.length_drop, List.length_take]; rfl)) ?_; (with_reducible refine (utf_Place.calls a0 a1 true _ A8.out).mono ?_); rintro e w11 ⟨rfl, hb⟩; refine ⟨_, rfl, ?_⟩; have n0_ := Aside0.mk (blk_below (g := gb118) (o := .cells #[.int .i64 a2_0, .bool a2_1, .string a2_2] 23 (0, 0)) (by (with_reducible repeat (first | refine blk_drewN ?_ _ | refine blk_drew ?_ | refine blk_alloc ?_ _)); exact BK118.out) hb); have n1_ := Aside0.mk (below_step (by repeat (first | (with_reducible first | exact HB.out | apply below_alloc | apply pw_below_drewN | apply below_drew1 | refine below_set ?_ GE118.out) | exact HB.out)) hb); clear BK118; clear HB; have BK118 := n0_; have HB := n1_; clear n0_ n1_; (try clear hb); (try clear hb2); (try clear hk); (try clear hi); have hcz12_0 : w11.cell? ⟨gb118, 0, none⟩ = some (.int .i64 a2_0) := (blk_cell BK118.out 0).trans rfl; have hcz12_1 : w11.cell? ⟨gb118, 1, none⟩ = some (.bool a2_1) := (blk_cell BK118.out 1).trans rfl; have hcz12_2 : w11.cell? ⟨gb118, 2, none⟩ = some (.string a2_2) := (blk_cell BK118.out 2).trans rfl; have hfz12_0 := blk_frozen BK118.out 0; have hfz12_1 := blk_frozen BK118.out 1; have hfz12_2 := blk_frozen BK118.out 2) | (go_at_call 20; (with_reducible refine (utf_Valid.calls a2_2 t120 _ A10.out).mono ?_); rintro e w13 ⟨rfl, hb⟩; have n0_ := Aside0.mk (blk_below (g := gb118) (o := .cells #[.int .i64 a2_0, .bool a2_1, .string a2_2] 23 (0, 0)) (by (with_reducible repeat (first | refine blk_drewN ?_ _ | refine blk_drew ?_ | refine blk_alloc ?_ _)); exact BK118.out) hb); have n1_ := Aside0.mk (below_step (by repeat (first | (with_reducible first | exact HB.out | apply below_alloc | apply pw_below_drewN | apply below_drew1 | refine below_set ?_ GE118.out) | exact HB.out)) hb); clear BK118; clear HB; have BK118 := n0_; have HB := n1_; clear n0_ n1_; (try clear hb); (try clear hb2); (try clear hk); (try clear hi)))
      go_meet
      case rel => exact ⟨_, (!t120), (by first | rfl | (simp; done) | (simp [*]; done)), H', ⟨by first | omega | exact Nat.le_refl _⟩, ⟨by (with_reducible repeat (first | refine blk_drewN ?_ _ | refine blk_drew ?_ | refine blk_alloc ?_ _)); exact BK118.out⟩, ⟨by repeat (first | (with_reducible first | exact HB.out | apply below_alloc | apply pw_below_drewN | apply below_drew1 | refine below_set ?_ GE118.out) | exact HB.out)⟩⟩
    · replace c9 := Bool.eq_false_iff.mpr c9
      subst c9
      have H1 : (paste_Put.j0 k a0 a1 a3 a4 true a2_0 a2_1 a2_2) = some (r1, r2, r3) := by rw [if_neg (show ¬ (false = true) by decide)] at H; exact H
      clear H
      have H := H1
      clear H1
      have H' := Aside0.mk H
      clear H
      go_wp2_with (first | ((with_reducible refine gate_callee (f := 19) rfl ?_); refine goesL_ (some 19) rfl rfl Tryd.func19 (by kernel_rfl) rfl #[.string a0, .int .i64 a1] rfl (by (try simp only [List.map_toArray, List.map_cons, List.map_nil]); first | done | rfl | (simp only [List.length_drop, List.length_take]; rfl)) ?_; (with_reducible refine (utf_Place.calls a0 a1 false _ A8.out).mono ?_); rintro e w14 ⟨rfl, hb⟩; refine ⟨_, rfl, ?_⟩; have n0_ := Aside0.mk (blk_below (g := gb118) (o := .cells #[.int .i64 a2_0, .bool a2_1, .string a2_2] 23 (0, 0)) (by (with_reducible repeat (first | refine blk_drewN ?_ _ | refine blk_drew ?_ | refine blk_alloc ?_ _)); exact BK118.out) hb); have n1_ := Aside0.mk (below_step (by repeat (first | (with_reducible first | exact HB.out | apply below_alloc | apply pw_below_drewN | apply below_drew1 | refine below_set ?_ GE118.out) | exact HB.out)) hb); clear BK118; clear HB; have BK118 := n0_; have HB := n1_; clear n0_ n1_; (try clear hb); (try clear hb2); (try clear hk); (try clear hi)))
      go_meet
      case rel => exact ⟨_, (true), (by first | rfl | (simp; done) | (simp [*]; done)), H', ⟨by first | omega | exact Nat.le_refl _⟩, ⟨by (with_reducible repeat (first | refine blk_drewN ?_ _ | refine blk_drew ?_ | refine blk_alloc ?_ _)); exact BK118.out⟩, ⟨by repeat (first | (with_reducible first | exact HB.out | apply below_alloc | apply pw_below_drewN | apply below_drew1 | refine below_set ?_ GE118.out) | exact HB.out)⟩⟩
  case rest =>
    clear HC6
    try clear c1
    try clear p2
    try clear c8
    try clear c9
    try clear hcz12_0
    try clear hcz12_1
    try clear hcz12_2
    try clear hfz12_0
    try clear hfz12_1
    try clear hfz12_2
    obtain ⟨kq, x26_5, rfl, HA, HJ5, BK118, HB⟩ := hcut
    cases kq with
    | zero => exact absurd HA.out (by simp [paste_Put.j0])
    | succ kj5 =>
      have H := HA.out
      clear HA
      simp only [paste_Put.j0] at H
      by_cases c15 : x26_5 = true
      · subst c15
        have H1 : (some ((⟨#[]⟩ : ByteArray), 0, 1)) = some (r1, r2, r3) := by rw [if_pos rfl] at H; exact H
        clear H
        have H := H1
        clear H1
        simp only [Option.some.injEq, Prod.mk.injEq] at H
        obtain ⟨rfl, rfl, rfl⟩ := H
        go_wp2
        go_ret3
        exact ⟨by first | rfl | (simp [errW_none, errW_some] <;> rfl) | (simp [*, errW_none, errW_some] <;> rfl), by repeat (first | (with_reducible first | exact HB.out | apply below_alloc | apply pw_below_drewN | apply below_drew1 | refine below_set ?_ GE118.out) | exact HB.out)⟩
      · replace c15 := Bool.eq_false_iff.mpr c15
        subst c15
        have H1 : (if a2_2.toList = ([] : List UInt8) then (paste_Put.j1 kj5 a0 a1 a3 a4 (!a2_1) a2_0 a2_1 a2_2) else (paste_Put.j1 kj5 a0 a1 a3 a4 false a2_0 a2_1 a2_2)) = some (r1, r2, r3) := by rw [if_neg (show ¬ (false = true) by decide)] at H; exact H
        clear H
        have H := H1
        clear H1
        have HC16 := Aside0.mk H
        clear H
        go_upto_region 3 with (fail)
        go_cut [34] (fun v34 wc => ∃ (kq : Nat) (x34_15 : Bool), v34 = .bool x34_15 ∧ Aside0 (paste_Put.j1 kq a0 a1 a3 a4 x34_15 a2_0 a2_1 a2_2 = some (r1, r2, r3)) ∧ Aside0 (kq ≤ kj5) ∧ Aside0 (wc.heap[gb118]? = some (.cells #[.int .i64 a2_0, .bool a2_1, .string a2_2] 23 (0, 0))) ∧ Aside0 (Below w.heap.size w wc))
        case first =>
          have H := HC16.out
          clear HC16
          by_cases c17 : a2_2.toList = ([] : List UInt8)
          · rw [if_pos c17] at H
            have c17b0 : (a2_2.toList == ([] : List UInt8)) = true := beq_iff_eq.mpr c17
            have c17b1 : (a2_2.toList != ([] : List UInt8)) = false := bne_eq_false_iff_eq.mpr c17
            clear c17
            (first | rw [c17b0] | (simp only [i64_w, i32_w]; rw [c17b0]) | skip)
            have H' := Aside0.mk H
            clear H
            have hcz18_0 : wc.cell? ⟨gb118, 0, none⟩ = some (.int .i64 a2_0) := (blk_cell BK118.out 0).trans rfl
            have hcz18_1 : wc.cell? ⟨gb118, 1, none⟩ = some (.bool a2_1) := (blk_cell BK118.out 1).trans rfl
            have hcz18_2 : wc.cell? ⟨gb118, 2, none⟩ = some (.string a2_2) := (blk_cell BK118.out 2).trans rfl
            have hfz18_0 := blk_frozen BK118.out 0
            have hfz18_1 := blk_frozen BK118.out 1
            have hfz18_2 := blk_frozen BK118.out 2
            go_wp2
            go_meet
            case rel => exact ⟨_, (!a2_1), (by first | rfl | (simp; done) | (simp [*]; done)), H', ⟨by have := HJ5.out; first | omega | exact Nat.le_refl _⟩, ⟨by (with_reducible repeat (first | refine blk_drewN ?_ _ | refine blk_drew ?_ | refine blk_alloc ?_ _)); exact BK118.out⟩, ⟨by repeat (first | (with_reducible first | exact HB.out | apply below_alloc | apply pw_below_drewN | apply below_drew1 | refine below_set ?_ GE118.out) | exact HB.out)⟩⟩
          · rw [if_neg c17] at H
            have c17b0 : (a2_2.toList == ([] : List UInt8)) = false := beq_eq_false_iff_ne.mpr c17
            have c17b1 : (a2_2.toList != ([] : List UInt8)) = true := bne_iff_ne.mpr c17
            (first | rw [c17b0] | (simp only [i64_w, i32_w]; rw [c17b0]) | skip)
            have H' := Aside0.mk H
            clear H
            have hcz19_0 : wc.cell? ⟨gb118, 0, none⟩ = some (.int .i64 a2_0) := (blk_cell BK118.out 0).trans rfl
            have hcz19_1 : wc.cell? ⟨gb118, 1, none⟩ = some (.bool a2_1) := (blk_cell BK118.out 1).trans rfl
            have hcz19_2 : wc.cell? ⟨gb118, 2, none⟩ = some (.string a2_2) := (blk_cell BK118.out 2).trans rfl
            have hfz19_0 := blk_frozen BK118.out 0
            have hfz19_1 := blk_frozen BK118.out 1
            have hfz19_2 := blk_frozen BK118.out 2
            go_wp2
            go_meet
            case rel => exact ⟨_, (false), (by first | rfl | (simp; done) | (simp [*]; done)), H', ⟨by have := HJ5.out; first | omega | exact Nat.le_refl _⟩, ⟨by (with_reducible repeat (first | refine blk_drewN ?_ _ | refine blk_drew ?_ | refine blk_alloc ?_ _)); exact BK118.out⟩, ⟨by repeat (first | (with_reducible first | exact HB.out | apply below_alloc | apply pw_below_drewN | apply below_drew1 | refine below_set ?_ GE118.out) | exact HB.out)⟩⟩
        case rest =>
          clear HC16
          try clear c1
          try clear p2
          try clear c8
          try clear c9
          try clear c15
          try clear c17
          try clear c17b0
          try clear c17b1
          try clear c19
          try clear hcz12_0
          try clear hcz12_1
          try clear hcz12_2
          try clear hcz18_0
          try clear hcz18_1
          try clear hcz18_2
          try clear hcz19_0
          try clear hcz19_1
          try clear hcz19_2
          try clear hfz12_0
          try clear hfz12_1
          try clear hfz12_2
          try clear hfz18_0
          try clear hfz18_1
          try clear hfz18_2
          try clear hfz19_0
          try clear hfz19_1
          try clear hfz19_2
          try clear p2
          obtain ⟨kq, x34_15, rfl, HA, HJ15, BK118, HB⟩ := hcut
          cases kq with
          | zero => exact absurd HA.out (by simp [paste_Put.j1])
          | succ kj15 =>
            have H := HA.out
            clear HA
            simp only [paste_Put.j1] at H
            by_cases c20 : x34_15 = true
            · subst c20
              have H1 : (some ((⟨#[]⟩ : ByteArray), 0, 7)) = some (r1, r2, r3) := by rw [if_pos rfl] at H; exact H
              clear H
              have H := H1
              clear H1
              simp only [Option.some.injEq, Prod.mk.injEq] at H
              obtain ⟨rfl, rfl, rfl⟩ := H
              go_wp2
              go_ret3
              exact ⟨by first | rfl | (simp [errW_none, errW_some] <;> rfl) | (simp [*, errW_none, errW_some] <;> rfl), by repeat (first | (with_reducible first | exact HB.out | apply below_alloc | apply pw_below_drewN | apply below_drew1 | refine below_set ?_ GE118.out) | exact HB.out)⟩
            · replace c20 := Bool.eq_false_iff.mpr c20
              subst c20
              have H1 : (if a2_1 = true then ((line_Of.f a0 a1).bind fun t121 => ((paste_lines.f kj15 a0 t121 a2_2 a3 (mx a4 1)).bind fun bt122 => (some (bt122.1, bt122.2.1, bt122.2.2)))) else ((paste_times.f kj15 a2_2 (⟨#[]⟩ : ByteArray) (mx a4 1)).bind fun bt125 => (if bt125.2 = true then (if a3 = true then (paste_Put.j2 kj15 a0 a1 bt125.1 false) else ((paste_stop.f a0 a1).bind fun t127 => (paste_Put.j2 kj15 a0 a1 bt125.1 (!t127)))) else (some ((⟨#[]⟩ : ByteArray), 0, 8))))) = some (r1, r2, r3) := by rw [if_neg (show ¬ (false = true) by decide)] at H; exact H
              clear H
              have H := H1
              clear H1
              by_cases c21 : a2_1 = true
              · subst c21
                have H1 : ((line_Of.f a0 a1).bind fun t121 => ((paste_lines.f kj15 a0 t121 a2_2 a3 (mx a4 1)).bind fun bt122 => (some (bt122.1, bt122.2.1, bt122.2.2)))) = some (r1, r2, r3) := by rw [if_pos rfl] at H; exact H
                clear H
                have H := H1
                clear H1
                replace H := Option.bind_eq_some_iff.mp H
                obtain ⟨t121, A220, H⟩ := H
                replace H : ((paste_lines.f kj15 a0 t121 a2_2 a3 (mx a4 1)).bind fun bt122 => (some (bt122.1, bt122.2.1, bt122.2.2))) = some (r1, r2, r3) := H
                have A22 := Aside0.mk A220
                clear A220
                obtain ⟨ji23, hji23⟩ : ∃ j_ : Int, (mx a4 1) = j_ := ⟨_, rfl⟩
                replace H : ((paste_lines.f kj15 a0 t121 a2_2 a3 (ji23)).bind fun bt122 => (some (bt122.1, bt122.2.1, bt122.2.2))) = some (r1, r2, r3) := by first | (rw [hji23] at H; exact H) | (simp only [hji23] at H ⊢; exact H)
                (try rw [hji23] at A22)
                have hji23_ : (if a4 < 1 then 1 else a4) = ji23 := hji23
                replace H := Option.bind_eq_some_iff.mp H
                obtain ⟨⟨t122, t123, t124⟩, A240, H⟩ := H
                replace H : (some (t122, t123, t124)) = some (r1, r2, r3) := H
                have A24 := Aside0.mk A240
                clear A240
                simp only [Option.some.injEq, Prod.mk.injEq] at H
                obtain ⟨rfl, rfl, rfl⟩ := H
                have hcz25_0 : wc.cell? ⟨gb118, 0, none⟩ = some (.int .i64 a2_0) := (blk_cell BK118.out 0).trans rfl
                have hcz25_1 : wc.cell? ⟨gb118, 1, none⟩ = some (.bool true) := (blk_cell BK118.out 1).trans rfl
                have hcz25_2 : wc.cell? ⟨gb118, 2, none⟩ = some (.string a2_2) := (blk_cell BK118.out 2).trans rfl
                have hfz25_0 := blk_frozen BK118.out 0
                have hfz25_1 := blk_frozen BK118.out 1
                have hfz25_2 := blk_frozen BK118.out 2
                try go_wp2
                have n0_ := Aside0.mk (blk_drew BK118.out)
                have n1_ := Aside0.mk (below_drew1 HB.out)
                clear BK118
                clear HB
                have BK118 := n0_
                have HB := n1_
                clear n0_ n1_
                refine start_ (n := 16) (S := fun w' => w'.cell? ⟨gb118, 0, none⟩ = some (.int .i64 a2_0) ∧ w'.cell? ⟨gb118, 1, none⟩ = some (.bool true) ∧ w'.cell? ⟨gb118, 2, none⟩ = some (.string a2_2)) (ds := []) #[false, false, false, false, false, false, false, false, false, false, false, false, false, false, false, false] (by kernel_rfl) rfl rfl ⟨(blk_cell BK118.out 0).trans rfl, (blk_cell BK118.out 1).trans rfl, (blk_cell BK118.out 2).trans rfl⟩ (fun hHeld => ?_); refine with_tabW paste_Put.tab6 paste_Put.bits6 (fun HT_ HW_ => ?_)
                generalize wc.drew = w26 at BK118 HB hHeld ⊢
                refine pure_ (i := 0) (N := some 37) (v := ?_) (a' := ?_) #[true, false, false, false, false, false, false, false, false, false, false, false, false, false, false, false] rfl rfl (any_of HT_.out (by kernel_rfl)) (fun _ _ _ h => h) (Or.inl ⟨by rfl, ?_⟩) ?_ ?_
                rotate_left
                · intro w'
                  go_simp
                  with_reducible rfl
                rotate_left
                · simp only [Act.put, List.setIfInBounds_toArray, List.set_cons_zero, List.set_cons_succ, i64_w, i32_w]
                  rfl
                refine pure_ (i := 1) (N := some 38) (v := ?_) (a' := ?_) #[true, true, false, false, false, false, false, false, false, false, false, false, false, false, false, false] rfl rfl (any_of HT_.out (by kernel_rfl)) (fun _ _ _ h => h) (Or.inl ⟨by rfl, ?_⟩) ?_ ?_
                rotate_left
                · intro w'
                  go_simp
                  with_reducible rfl
                rotate_left
                · simp only [Act.put, List.setIfInBounds_toArray, List.set_cons_zero, List.set_cons_succ, i64_w, i32_w]
                  rfl
                refine pure_ (i := 2) (N := some 39) (v := ?_) (a' := ?_) #[true, true, true, false, false, false, false, false, false, false, false, false, false, false, false, false] rfl rfl (any_of HT_.out (by kernel_rfl)) (fun _ _ _ h => h) (Or.inl ⟨by rfl, ?_⟩) ?_ ?_
                rotate_left
                · intro w'
                  go_simp
                  with_reducible rfl
                rotate_left
                · simp only [Act.put, List.setIfInBounds_toArray, List.set_cons_zero, List.set_cons_succ, i64_w, i32_w]
                  rfl
                refine pure_ (i := 4) (N := some 41) (v := ?_) (a' := ?_) #[true, true, true, false, true, false, false, false, false, false, false, false, false, false, false, false] rfl rfl (any_of HT_.out (by kernel_rfl)) (fun _ _ _ h => h) (Or.inl ⟨by rfl, ?_⟩) ?_ ?_
                rotate_left
                · intro w'
                  go_simp
                  with_reducible rfl
                rotate_left
                · simp only [Act.put, List.setIfInBounds_toArray, List.set_cons_zero, List.set_cons_succ, i64_w, i32_w]
                  rfl
                refine pure_ (i := 6) (N := some 43) (v := ?_) (a' := ?_) #[true, true, true, false, true, false, true, false, false, false, false, false, false, false, false, false] rfl rfl (any_of HT_.out (by kernel_rfl)) (fun _ _ _ h => h) (Or.inl ⟨by rfl, ?_⟩) ?_ ?_
                rotate_left
                · intro w'
                  go_simp
                  with_reducible rfl
                rotate_left
                · simp only [Act.put, List.setIfInBounds_toArray, List.set_cons_zero, List.set_cons_succ, i64_w, i32_w]
                  rfl
                refine pure_ (i := 7) (N := some 44) (v := ?_) (a' := ?_) #[true, true, true, false, true, false, true, true, false, false, false, false, false, false, false, false] rfl rfl (any_of HT_.out (by kernel_rfl)) (fun _ _ _ h => h) (Or.inl ⟨by rfl, ?_⟩) ?_ ?_
                rotate_left
                · intro w'
                  go_simp
                  with_reducible rfl
                rotate_left
                · simp only [Act.put, List.setIfInBounds_toArray, List.set_cons_zero, List.set_cons_succ, i64_w, i32_w]
                  rfl
                refine pure_ (i := 8) (N := some 45) (v := ?_) (a' := ?_) #[true, true, true, false, true, false, true, true, true, false, false, false, false, false, false, false] rfl rfl (any_of HT_.out (by kernel_rfl)) (fun _ _ _ h => h) (Or.inl ⟨by rfl, ?_⟩) ?_ ?_
                rotate_left
                · intro w'
                  go_simp
                  with_reducible rfl
                rotate_left
                · simp only [Act.put, List.setIfInBounds_toArray, List.set_cons_zero, List.set_cons_succ, i64_w, i32_w]
                  rfl
                refine take_ (i := 5) (N := some 42) (v := ?_) (a' := ?_) #[true, true, true, false, true, true, true, true, true, false, false, false, false, false, false, false] rfl rfl (take_ofW HT_.out HW_.out (by kernel_rfl)) (fun _ _ _ h => h) (Or.inl ⟨by rfl, ?_⟩) hHeld ?_ ?_
                rotate_left
                · rintro w' ⟨s0, s1, s2⟩
                  go_simp
                  with_reducible rfl
                rotate_left
                · simp only [Act.put, List.setIfInBounds_toArray, List.set_cons_zero, List.set_cons_succ, i64_w, i32_w]
                  rfl
                refine one_ (i := 3) (N := some 40) #[true, true, true, true, true, true, true, true, true, false, false, false, false, false, false, false] rfl rfl (one_of HT_.out (by kernel_rfl)) (by decide) (fun K hK => ?_)
                refine goes_ Tryd.func22 (by kernel_rfl) rfl #[.string a0, .int .i64 a1] (by rfl) rfl rfl (by (try simp only [List.map_toArray, List.map_cons, List.map_nil]); first | done | rfl | (simp only [List.length_drop, List.length_take]; rfl)) ?_
                with_reducible refine (line_Of.calls a0 a1 t121 _ A22.out).mono ?_
                rintro e w27 ⟨rfl, hb⟩
                refine ⟨_, rfl, ?_⟩
                have n0_ := Aside0.mk (blk_below (g := gb118) (o := .cells #[.int .i64 a2_0, .bool true, .string a2_2] 23 (0, 0)) (by (with_reducible repeat (first | refine blk_drewN ?_ _ | refine blk_drew ?_ | refine blk_alloc ?_ _)); exact BK118.out) hb)
                have n1_ := Aside0.mk (below_step (by repeat (first | (with_reducible first | exact HB.out | apply below_alloc | apply pw_below_drewN | apply below_drew1 | refine below_set ?_ GE118.out) | exact HB.out)) hb)
                clear BK118
                clear HB
                have BK118 := n0_
                have HB := n1_
                clear n0_ n1_
                (try clear hb)
                (try clear hb2)
                (try clear hk)
                (try clear hi)
                refine hK.out _ _ ⟨(blk_cell BK118.out 0).trans rfl, (blk_cell BK118.out 1).trans rfl, (blk_cell BK118.out 2).trans rfl⟩ (fun hHeld => ?_)
                clear hK K
                refine norm_ (a' := ?_) ?_ ?_
                rotate_left
                · show Act.put _ (some 40) _ = _
                  simp only [Act.put, List.setIfInBounds_toArray, List.set_cons_zero, List.set_cons_succ, i64_w, i32_w]
                  rfl
                refine one_ (i := 9) (N := some 46) #[true, true, true, true, true, true, true, true, true, true, false, false, false, false, false, false] rfl rfl (one_of HT_.out (by kernel_rfl)) (by decide) (fun K hK => ?_)
                refine goes_ Tryd.func21 (by kernel_rfl) rfl #[.string a0, .int .i64 t121, .string a2_2, .bool a3, .int .i64 ji23] (by rfl) rfl rfl (by (try simp only [List.map_toArray, List.map_cons, List.map_nil]); first | done | (simp only [hji23]; rfl) | rfl | (simp only [List.length_drop, List.length_take]; rfl)) ?_
                with_reducible refine (paste_lines.calls kj15 a0 t121 a2_2 a3 ji23 t122 t123 t124 _ A24.out).mono ?_
                rintro e w28 ⟨rfl, hb⟩
                refine ⟨_, rfl, ?_⟩
                have n0_ := Aside0.mk (blk_below (g := gb118) (o := .cells #[.int .i64 a2_0, .bool true, .string a2_2] 23 (0, 0)) (by (with_reducible repeat (first | refine blk_drewN ?_ _ | refine blk_drew ?_ | refine blk_alloc ?_ _)); exact BK118.out) hb)
                have n1_ := Aside0.mk (below_step (by repeat (first | (with_reducible first | exact HB.out | apply below_alloc | apply pw_below_drewN | apply below_drew1 | refine below_set ?_ GE118.out) | exact HB.out)) hb)
                clear BK118
                clear HB
                have BK118 := n0_
                have HB := n1_
                clear n0_ n1_
                (try clear hb)
                (try clear hb2)
                (try clear hk)
                (try clear hi)
                refine hK.out _ _ ⟨(blk_cell BK118.out 0).trans rfl, (blk_cell BK118.out 1).trans rfl, (blk_cell BK118.out 2).trans rfl⟩ (fun hHeld => ?_)
                clear hK K
                refine norm_ (a' := ?_) ?_ ?_
                rotate_left
                · show Act.put _ (some 46) _ = _
                  simp only [Act.put, List.setIfInBounds_toArray, List.set_cons_zero, List.set_cons_succ, i64_w, i32_w]
                  rfl
                refine pure_ (i := 10) (N := some 47) (v := ?_) (a' := ?_) #[true, true, true, true, true, true, true, true, true, true, true, false, false, false, false, false] rfl rfl (any_of HT_.out (by kernel_rfl)) (fun _ _ _ h => h) (Or.inl ⟨by rfl, ?_⟩) ?_ ?_
                rotate_left
                · intro w'
                  go_simp
                  with_reducible rfl
                rotate_left
                · simp only [Act.put, List.setIfInBounds_toArray, List.set_cons_zero, List.set_cons_succ, i64_w, i32_w]
                  rfl
                refine pure_ (i := 11) (N := some 48) (v := ?_) (a' := ?_) #[true, true, true, true, true, true, true, true, true, true, true, true, false, false, false, false] rfl rfl (any_of HT_.out (by kernel_rfl)) (fun _ _ _ h => h) (Or.inl ⟨by rfl, ?_⟩) ?_ ?_
                rotate_left
                · intro w'
                  go_simp
                  with_reducible rfl
                rotate_left
                · simp only [Act.put, List.setIfInBounds_toArray, List.set_cons_zero, List.set_cons_succ, i64_w, i32_w]
                  rfl
                refine pure_ (i := 12) (N := some 49) (v := ?_) (a' := ?_) #[true, true, true, true, true, true, true, true, true, true, true, true, true, false, false, false] rfl rfl (any_of HT_.out (by kernel_rfl)) (fun _ _ _ h => h) (Or.inl ⟨by rfl, ?_⟩) ?_ ?_
                rotate_left
                · intro w'
                  go_simp
                  with_reducible rfl
                rotate_left
                · simp only [Act.put, List.setIfInBounds_toArray, List.set_cons_zero, List.set_cons_succ, i64_w, i32_w]
                  rfl
                refine pure_ (i := 13) (N := some 10) (v := ?_) (a' := ?_) #[true, true, true, true, true, true, true, true, true, true, true, true, true, true, false, false] rfl rfl (any_of HT_.out (by kernel_rfl)) (fun _ _ _ h => h) (Or.inl ⟨by rfl, ?_⟩) ?_ ?_
                rotate_left
                · intro w'
                  go_simp
                  with_reducible rfl
                rotate_left
                · simp only [Act.put, List.setIfInBounds_toArray, List.set_cons_zero, List.set_cons_succ, i64_w, i32_w]
                  rfl
                refine pure_ (i := 14) (N := some 11) (v := ?_) (a' := ?_) #[true, true, true, true, true, true, true, true, true, true, true, true, true, true, true, false] rfl rfl (any_of HT_.out (by kernel_rfl)) (fun _ _ _ h => h) (Or.inl ⟨by rfl, ?_⟩) ?_ ?_
                rotate_left
                · intro w'
                  go_simp
                  with_reducible rfl
                rotate_left
                · simp only [Act.put, List.setIfInBounds_toArray, List.set_cons_zero, List.set_cons_succ, i64_w, i32_w]
                  rfl
                refine pure_ (i := 15) (N := some 12) (v := ?_) (a' := ?_) #[true, true, true, true, true, true, true, true, true, true, true, true, true, true, true, true] rfl rfl (any_of HT_.out (by kernel_rfl)) (fun _ _ _ h => h) (Or.inl ⟨by rfl, ?_⟩) ?_ ?_
                rotate_left
                · intro w'
                  go_simp
                  with_reducible rfl
                rotate_left
                · simp only [Act.put, List.setIfInBounds_toArray, List.set_cons_zero, List.set_cons_succ, i64_w, i32_w]
                  rfl
                refine done_ (done_of HT_.out (by kernel_rfl)) ?_
                try go_wp2
                go_ret3
                exact ⟨by first | rfl | (simp [errW_none, errW_some] <;> rfl) | (simp only [← hji23]; first | rfl | (simp [errW_none, errW_some] <;> rfl)) | (simp [*, errW_none, errW_some] <;> rfl), by repeat (first | (with_reducible first | exact HB.out | apply below_alloc | apply pw_below_drewN | apply below_drew1 | refine below_set ?_ GE118.out) | exact HB.out)⟩
              · replace c21 := Bool.eq_false_iff.mpr c21
                subst c21
                have H1 : ((paste_times.f kj15 a2_2 (⟨#[]⟩ : ByteArray) (mx a4 1)).bind fun bt125 => (if bt125.2 = true then (if a3 = true then (paste_Put.j2 kj15 a0 a1 bt125.1 false) else ((paste_stop.f a0 a1).bind fun t127 => (paste_Put.j2 kj15 a0 a1 bt125.1 (!t127)))) else (some ((⟨#[]⟩ : ByteArray), 0, 8)))) = some (r1, r2, r3) := by rw [if_neg (show ¬ (false = true) by decide)] at H; exact H
                clear H
                have H := H1
                clear H1
                obtain ⟨ji29, hji29⟩ : ∃ j_ : Int, (mx a4 1) = j_ := ⟨_, rfl⟩
                replace H : ((paste_times.f kj15 a2_2 (⟨#[]⟩ : ByteArray) (ji29)).bind fun bt125 => (if bt125.2 = true then (if a3 = true then (paste_Put.j2 kj15 a0 a1 bt125.1 false) else ((paste_stop.f a0 a1).bind fun t127 => (paste_Put.j2 kj15 a0 a1 bt125.1 (!t127)))) else (some ((⟨#[]⟩ : ByteArray), 0, 8)))) = some (r1, r2, r3) := by first | (rw [hji29] at H; exact H) | (simp only [hji29] at H ⊢; exact H)
                have hji29_ : (if a4 < 1 then 1 else a4) = ji29 := hji29
                replace H := Option.bind_eq_some_iff.mp H
                obtain ⟨⟨t125, t126⟩, A300, H⟩ := H
                replace H : (if t126 = true then (if a3 = true then (paste_Put.j2 kj15 a0 a1 t125 false) else ((paste_stop.f a0 a1).bind fun t127 => (paste_Put.j2 kj15 a0 a1 t125 (!t127)))) else (some ((⟨#[]⟩ : ByteArray), 0, 8))) = some (r1, r2, r3) := H
                have A30 := Aside0.mk A300
                clear A300
                by_cases c31 : t126 = true
                · subst c31
                  have H1 : (if a3 = true then (paste_Put.j2 kj15 a0 a1 t125 false) else ((paste_stop.f a0 a1).bind fun t127 => (paste_Put.j2 kj15 a0 a1 t125 (!t127)))) = some (r1, r2, r3) := by rw [if_pos rfl] at H; exact H
                  clear H
                  have H := H1
                  clear H1
                  have HC32 := Aside0.mk H
                  clear H
                  have hcz33_0 : wc.cell? ⟨gb118, 0, none⟩ = some (.int .i64 a2_0) := (blk_cell BK118.out 0).trans rfl
                  have hcz33_1 : wc.cell? ⟨gb118, 1, none⟩ = some (.bool false) := (blk_cell BK118.out 1).trans rfl
                  have hcz33_2 : wc.cell? ⟨gb118, 2, none⟩ = some (.string a2_2) := (blk_cell BK118.out 2).trans rfl
                  have hfz33_0 := blk_frozen BK118.out 0
                  have hfz33_1 := blk_frozen BK118.out 1
                  have hfz33_2 := blk_frozen BK118.out 2
                  go_upto_region 10 with (first | ((with_reducible refine gate_callee (f := 23) rfl ?_); refine goesL_ (some 55) rfl rfl Tryd.func23 (by kernel_rfl) rfl #[.string a2_2, .string (⟨#[]⟩ : ByteArray), .int .i64 ji29] rfl (by (try simp only [List.map_toArray, List.map_cons, List.map_nil]); first | done | (simp only [hji29]; rfl) | rfl | (simp only [List.length_drop, List.length_take]; rfl)) ?_; (with_reducible refine (paste_times.calls kj15 a2_2 (⟨#[]⟩ : ByteArray) ji29 t125 true _ A30.out).mono ?_); rintro e w34 ⟨rfl, hb⟩; refine ⟨_, rfl, ?_⟩; have n0_ := Aside0.mk (blk_below (g := gb118) (o := .cells #[.int .i64 a2_0, .bool false, .string a2_2] 23 (0, 0)) (by (with_reducible repeat (first | refine blk_drewN ?_ _ | refine blk_drew ?_ | refine blk_alloc ?_ _)); exact BK118.out) hb); have n1_ := Aside0.mk (below_step (by repeat (first | (with_reducible first | exact HB.out | apply below_alloc | apply pw_below_drewN | apply below_drew1 | refine below_set ?_ GE118.out) | exact HB.out)) hb); clear BK118; clear HB; have BK118 := n0_; have HB := n1_; clear n0_ n1_; (try clear hb); (try clear hb2); (try clear hk); (try clear hi)))
                  (try simp only [Act.put, List.setIfInBounds_toArray, List.set_cons_zero, List.set_cons_succ])
                  go_cut [67] (fun v67 wc => ∃ (kq : Nat) (x67_31 : Bool), v67 = .bool x67_31 ∧ Aside0 (paste_Put.j2 kq a0 a1 t125 x67_31 = some (r1, r2, r3)) ∧ Aside0 (kq ≤ kj15) ∧ Aside0 (wc.heap[gb118]? = some (.cells #[.int .i64 a2_0, .bool false, .string a2_2] 23 (0, 0))) ∧ Aside0 (Below w.heap.size w wc))
                  case first =>
                    have H := HC32.out
                    clear HC32
                    by_cases c35 : a3 = true
                    · subst c35
                      have H1 : (paste_Put.j2 kj15 a0 a1 t125 false) = some (r1, r2, r3) := by rw [if_pos rfl] at H; exact H
                      clear H
                      have H := H1
                      clear H1
                      have H' := Aside0.mk H
                      clear H
                      go_wp2
                      go_meet
                      case rel => exact ⟨_, (false), (by first | rfl | (simp; done) | (simp [*]; done)), H', ⟨by have := HJ5.out; have := HJ15.out; first | omega | exact Nat.le_refl _⟩, ⟨by (with_reducible repeat (first | refine blk_drewN ?_ _ | refine blk_drew ?_ | refine blk_alloc ?_ _)); exact BK118.out⟩, ⟨by repeat (first | (with_reducible first | exact HB.out | apply below_alloc | apply pw_below_drewN | apply below_drew1 | refine below_set ?_ GE118.out) | exact HB.out)⟩⟩
                    · replace c35 := Bool.eq_false_iff.mpr c35
                      subst c35
                      have H1 : ((paste_stop.f a0 a1).bind fun t127 => (paste_Put.j2 kj15 a0 a1 t125 (!t127))) = some (r1, r2, r3) := by rw [if_neg (show ¬ (false = true) by decide)] at H; exact H
                      clear H
                      have H := H1
                      clear H1
                      replace H := Option.bind_eq_some_iff.mp H
                      obtain ⟨t127, A360, H⟩ := H
                      replace H : (paste_Put.j2 kj15 a0 a1 t125 (!t127)) = some (r1, r2, r3) := H
                      have A36 := Aside0.mk A360
                      clear A360
                      have H' := Aside0.mk H
                      clear H
                      go_wp2_with (first | (go_at_call 24; (with_reducible refine (paste_stop.calls a0 a1 t127 _ A36.out).mono ?_); rintro e w' ⟨rfl, ⟨nd, rfl⟩⟩))
                      go_meet
                      case rel => exact ⟨_, (!t127), (by first | rfl | (simp; done) | (simp [*]; done)), H', ⟨by have := HJ5.out; have := HJ15.out; first | omega | exact Nat.le_refl _⟩, ⟨by (with_reducible repeat (first | refine blk_drewN ?_ _ | refine blk_drew ?_ | refine blk_alloc ?_ _)); exact BK118.out⟩, ⟨by repeat (first | (with_reducible first | exact HB.out | apply below_alloc | apply pw_below_drewN | apply below_drew1 | refine below_set ?_ GE118.out) | exact HB.out)⟩⟩
                  case rest =>
                    clear HC32
                    try clear c1
                    try clear c2
                    try clear p2
                    try clear c3
                    try clear c8
                    try clear c9
                    try clear c15
                    try clear c17
                    try clear c17b0
                    try clear c17b1
                    try clear c19
                    try clear c20
                    try clear c21
                    try clear c22
                    try clear c23
                    try clear c31
                    try clear c35
                    try clear hcz12_0
                    try clear hcz12_1
                    try clear hcz12_2
                    try clear hcz18_0
                    try clear hcz18_1
                    try clear hcz18_2
                    try clear hcz19_0
                    try clear hcz19_1
                    try clear hcz19_2
                    try clear hcz25_0
                    try clear hcz25_1
                    try clear hcz25_2
                    try clear hcz33_0
                    try clear hcz33_1
                    try clear hcz33_2
                    try clear hfz12_0
                    try clear hfz12_1
                    try clear hfz12_2
                    try clear hfz18_0
                    try clear hfz18_1
                    try clear hfz18_2
                    try clear hfz19_0
                    try clear hfz19_1
                    try clear hfz19_2
                    try clear hfz25_0
                    try clear hfz25_1
                    try clear hfz25_2
                    try clear hfz33_0
                    try clear hfz33_1
                    try clear hfz33_2
                    try clear p2
                    obtain ⟨kq, x67_31, rfl, HA, HJ31, BK118, HB⟩ := hcut
                    cases kq with
                    | zero => exact absurd HA.out (by simp [paste_Put.j2])
                    | succ kj31 =>
                      have H := HA.out
                      clear HA
                      simp only [paste_Put.j2] at H
                      have HC37 := Aside0.mk H
                      clear H
                      go_upto_if 67 with (fail)
                      go_cut [1] (fun v1 wc => ∃ (kq : Nat) (x1_36 : Int), v1 = .int .i64 x1_36 ∧ Aside0 (paste_Put.j3 kq a0 x1_36 t125 = some (r1, r2, r3)) ∧ Aside0 (kq ≤ kj31) ∧ Aside0 (wc.heap[gb118]? = some (.cells #[.int .i64 a2_0, .bool false, .string a2_2] 23 (0, 0))) ∧ Aside0 (Below w.heap.size w wc))
                      case first =>
                        have H := HC37.out
                        clear HC37
                        by_cases c38 : x67_31 = true
                        · subst c38
                          have H1 : ((utf_Next.f a0 a1).bind fun t128 => (paste_Put.j3 kj31 a0 t128 t125)) = some (r1, r2, r3) := by rw [if_pos rfl] at H; exact H
                          clear H
                          have H := H1
                          clear H1
                          replace H := Option.bind_eq_some_iff.mp H
                          obtain ⟨t128, A390, H⟩ := H
                          replace H : (paste_Put.j3 kj31 a0 t128 t125) = some (r1, r2, r3) := H
                          have A39 := Aside0.mk A390
                          clear A390
                          have H' := Aside0.mk H
                          clear H
                          go_wp2_with (first | ((with_reducible refine gate_callee (f := 25) rfl ?_); refine goesL_ (some 70) rfl rfl Tryd.func25 (by kernel_rfl) rfl #[.string a0, .int .i64 a1] rfl (by (try simp only [List.map_toArray, List.map_cons, List.map_nil]); first | done | rfl | (simp only [List.length_drop, List.length_take]; rfl)) ?_; (with_reducible refine (utf_Next.calls a0 a1 t128 _ A39.out).mono ?_); rintro e w40 ⟨rfl, hb⟩; refine ⟨_, rfl, ?_⟩; have n0_ := Aside0.mk (blk_below (g := gb118) (o := .cells #[.int .i64 a2_0, .bool false, .string a2_2] 23 (0, 0)) (by (with_reducible repeat (first | refine blk_drewN ?_ _ | refine blk_drew ?_ | refine blk_alloc ?_ _)); exact BK118.out) hb); have n1_ := Aside0.mk (below_step (by repeat (first | (with_reducible first | exact HB.out | apply below_alloc | apply pw_below_drewN | apply below_drew1 | refine below_set ?_ GE118.out) | exact HB.out)) hb); clear BK118; clear HB; have BK118 := n0_; have HB := n1_; clear n0_ n1_; (try clear hb); (try clear hb2); (try clear hk); (try clear hi)))
                          go_meet
                          case rel => exact ⟨_, (t128), (by first | rfl | (simp; done) | (simp [*]; done)), H', ⟨by have := HJ5.out; have := HJ15.out; have := HJ31.out; first | omega | exact Nat.le_refl _⟩, ⟨by (with_reducible repeat (first | refine blk_drewN ?_ _ | refine blk_drew ?_ | refine blk_alloc ?_ _)); exact BK118.out⟩, ⟨by repeat (first | (with_reducible first | exact HB.out | apply below_alloc | apply pw_below_drewN | apply below_drew1 | refine below_set ?_ GE118.out) | exact HB.out)⟩⟩
                        · replace c38 := Bool.eq_false_iff.mpr c38
                          subst c38
                          have H1 : (paste_Put.j3 kj31 a0 a1 t125) = some (r1, r2, r3) := by rw [if_neg (show ¬ (false = true) by decide)] at H; exact H
                          clear H
                          have H := H1
                          clear H1
                          have H' := Aside0.mk H
                          clear H
                          go_wp2
                          go_meet
                          case rel => exact ⟨_, (a1), (by first | rfl | (simp; done) | (simp [*]; done)), H', ⟨by have := HJ5.out; have := HJ15.out; have := HJ31.out; first | omega | exact Nat.le_refl _⟩, ⟨by (with_reducible repeat (first | refine blk_drewN ?_ _ | refine blk_drew ?_ | refine blk_alloc ?_ _)); exact BK118.out⟩, ⟨by repeat (first | (with_reducible first | exact HB.out | apply below_alloc | apply pw_below_drewN | apply below_drew1 | refine below_set ?_ GE118.out) | exact HB.out)⟩⟩
                      case rest =>
                        clear HC37
                        try clear c1
                        try clear c2
                        try clear p2
                        try clear c3
                        try clear c8
                        try clear c9
                        try clear c15
                        try clear c17
                        try clear c17b0
                        try clear c17b1
                        try clear c19
                        try clear c20
                        try clear c21
                        try clear c22
                        try clear c23
                        try clear c25
                        try clear c31
                        try clear c35
                        try clear c38
                        try clear hcz12_0
                        try clear hcz12_1
                        try clear hcz12_2
                        try clear hcz18_0
                        try clear hcz18_1
                        try clear hcz18_2
                        try clear hcz19_0
                        try clear hcz19_1
                        try clear hcz19_2
                        try clear hcz25_0
                        try clear hcz25_1
                        try clear hcz25_2
                        try clear hcz33_0
                        try clear hcz33_1
                        try clear hcz33_2
                        try clear hfz12_0
                        try clear hfz12_1
                        try clear hfz12_2
                        try clear hfz18_0
                        try clear hfz18_1
                        try clear hfz18_2
                        try clear hfz19_0
                        try clear hfz19_1
                        try clear hfz19_2
                        try clear hfz25_0
                        try clear hfz25_1
                        try clear hfz25_2
                        try clear hfz33_0
                        try clear hfz33_1
                        try clear hfz33_2
                        try clear p2
                        obtain ⟨kq, x1_36, rfl, HA, HJ36, BK118, HB⟩ := hcut
                        cases kq with
                        | zero => exact absurd HA.out (by simp [paste_Put.j3])
                        | succ kj36 =>
                          have H := HA.out
                          clear HA
                          simp only [paste_Put.j3] at H
                          replace H := Option.bind_eq_some_iff.mp H
                          obtain ⟨⟨t129, t130⟩, A410, H⟩ := H
                          replace H : (if t130 = 0 then ((strings_Contains.f t125 (⟨#[10]⟩ : ByteArray)).bind fun t131 => (if t131 = true then ((line_Clamp.f t129 x1_36).bind fun t132 => (some (t129, t132, 0))) else ((utf_Prev.f t129 (wrap64 (x1_36 + (t125.size : Int)))).bind fun t133 => (some (t129, t133, 0))))) else (some ((⟨#[]⟩ : ByteArray), 0, t130))) = some (r1, r2, r3) := H
                          have A41 := Aside0.mk A410
                          clear A410
                          by_cases c42 : t130 = 0
                          · rw [if_pos c42] at H
                            have c42b0 : (t130 == 0) = true := beq_iff_eq.mpr c42
                            have c42b1 : (t130 != 0) = false := bne_eq_false_iff_eq.mpr c42
                            clear c42
                            replace H := Option.bind_eq_some_iff.mp H
                            obtain ⟨t131, A430, H⟩ := H
                            replace H : (if t131 = true then ((line_Clamp.f t129 x1_36).bind fun t132 => (some (t129, t132, 0))) else ((utf_Prev.f t129 (wrap64 (x1_36 + (t125.size : Int)))).bind fun t133 => (some (t129, t133, 0)))) = some (r1, r2, r3) := H
                            have A43 := Aside0.mk A430
                            clear A430
                            by_cases c44 : t131 = true
                            · subst c44
                              have H1 : ((line_Clamp.f t129 x1_36).bind fun t132 => (some (t129, t132, 0))) = some (r1, r2, r3) := by rw [if_pos rfl] at H; exact H
                              clear H
                              have H := H1
                              clear H1
                              replace H := Option.bind_eq_some_iff.mp H
                              obtain ⟨t132, A450, H⟩ := H
                              replace H : (some (t129, t132, 0)) = some (r1, r2, r3) := H
                              have A45 := Aside0.mk A450
                              clear A450
                              simp only [Option.some.injEq, Prod.mk.injEq] at H
                              obtain ⟨rfl, rfl, rfl⟩ := H
                              go_wp2_with (first | ((with_reducible refine gate_callee (f := 26) rfl ?_); refine goesL_ (some 75) rfl rfl Tryd.func26 (by kernel_rfl) rfl #[.string a0, .int .i64 x1_36, .string t125] rfl (by (try simp only [List.map_toArray, List.map_cons, List.map_nil]); first | done | rfl | (simp only [List.length_drop, List.length_take]; rfl)) ?_; (with_reducible refine (paste_insert.calls a0 x1_36 t125 t129 t130 _ A41.out).mono ?_); rintro e w' ⟨rfl, ⟨nd, rfl⟩⟩; refine ⟨_, rfl, ?_⟩) | ((with_reducible refine gate_callee (f := 27) rfl ?_); refine goesL_ (some 82) rfl rfl Tryd.func27 (by kernel_rfl) rfl #[.string t125, .string (⟨#[10]⟩ : ByteArray)] rfl (by (try simp only [List.map_toArray, List.map_cons, List.map_nil]); first | done | rfl | (simp only [List.length_drop, List.length_take]; rfl)) ?_; (with_reducible refine (strings_Contains.calls t125 (⟨#[10]⟩ : ByteArray) true _ A43.out).mono ?_); rintro e w46 ⟨rfl, hb⟩; refine ⟨_, rfl, ?_⟩; have n0_ := Aside0.mk (blk_below (g := gb118) (o := .cells #[.int .i64 a2_0, .bool false, .string a2_2] 23 (0, 0)) (by (with_reducible repeat (first | refine blk_drewN ?_ _ | refine blk_drew ?_ | refine blk_alloc ?_ _)); exact BK118.out) hb); have n1_ := Aside0.mk (below_step (by repeat (first | (with_reducible first | exact HB.out | apply below_alloc | apply pw_below_drewN | apply below_drew1 | refine below_set ?_ GE118.out) | exact HB.out)) hb); clear BK118; clear HB; have BK118 := n0_; have HB := n1_; clear n0_ n1_; (try clear hb); (try clear hb2); (try clear hk); (try clear hi)) | ((with_reducible refine gate_callee (f := 28) rfl ?_); refine goesL_ (some 86) rfl rfl Tryd.func28 (by kernel_rfl) rfl #[.string t129, .int .i64 x1_36] rfl (by (try simp only [List.map_toArray, List.map_cons, List.map_nil]); first | done | rfl | (simp only [List.length_drop, List.length_take]; rfl)) ?_; (with_reducible refine (line_Clamp.calls t129 x1_36 t132 _ A45.out).mono ?_); rintro e w47 ⟨rfl, hb⟩; refine ⟨_, rfl, ?_⟩; have n0_ := Aside0.mk (blk_below (g := gb118) (o := .cells #[.int .i64 a2_0, .bool false, .string a2_2] 23 (0, 0)) (by (with_reducible repeat (first | refine blk_drewN ?_ _ | refine blk_drew ?_ | refine blk_alloc ?_ _)); exact BK118.out) hb); have n1_ := Aside0.mk (below_step (by repeat (first | (with_reducible first | exact HB.out | apply below_alloc | apply pw_below_drewN | apply below_drew1 | refine below_set ?_ GE118.out) | exact HB.out)) hb); clear BK118; clear HB; have BK118 := n0_; have HB := n1_; clear n0_ n1_; (try clear hb); (try clear hb2); (try clear hk); (try clear hi)))
                              go_ret3
                              exact ⟨by first | rfl | (simp [errW_none, errW_some] <;> rfl) | (simp only [← hji29]; first | rfl | (simp [errW_none, errW_some] <;> rfl)) | (simp [*, errW_none, errW_some] <;> rfl), by repeat (first | (with_reducible first | exact HB.out | apply below_alloc | apply pw_below_drewN | apply below_drew1 | refine below_set ?_ GE118.out) | exact HB.out)⟩
                            · replace c44 := Bool.eq_false_iff.mpr c44
                              subst c44
                              have H1 : ((utf_Prev.f t129 (wrap64 (x1_36 + (t125.size : Int)))).bind fun t133 => (some (t129, t133, 0))) = some (r1, r2, r3) := by rw [if_neg (show ¬ (false = true) by decide)] at H; exact H
                              clear H
                              have H := H1
                              clear H1
                              replace H := Option.bind_eq_some_iff.mp H
                              obtain ⟨t133, A480, H⟩ := H
                              replace H : (some (t129, t133, 0)) = some (r1, r2, r3) := H
                              have A48 := Aside0.mk A480
                              clear A480
                              simp only [Option.some.injEq, Prod.mk.injEq] at H
                              obtain ⟨rfl, rfl, rfl⟩ := H
                              go_wp2_with (first | ((with_reducible refine gate_callee (f := 26) rfl ?_); refine goesL_ (some 75) rfl rfl Tryd.func26 (by kernel_rfl) rfl #[.string a0, .int .i64 x1_36, .string t125] rfl (by (try simp only [List.map_toArray, List.map_cons, List.map_nil]); first | done | rfl | (simp only [List.length_drop, List.length_take]; rfl)) ?_; (with_reducible refine (paste_insert.calls a0 x1_36 t125 t129 t130 _ A41.out).mono ?_); rintro e w' ⟨rfl, ⟨nd, rfl⟩⟩; refine ⟨_, rfl, ?_⟩) | ((with_reducible refine gate_callee (f := 27) rfl ?_); refine goesL_ (some 82) rfl rfl Tryd.func27 (by kernel_rfl) rfl #[.string t125, .string (⟨#[10]⟩ : ByteArray)] rfl (by (try simp only [List.map_toArray, List.map_cons, List.map_nil]); first | done | rfl | (simp only [List.length_drop, List.length_take]; rfl)) ?_; (with_reducible refine (strings_Contains.calls t125 (⟨#[10]⟩ : ByteArray) false _ A43.out).mono ?_); rintro e w49 ⟨rfl, hb⟩; refine ⟨_, rfl, ?_⟩; have n0_ := Aside0.mk (blk_below (g := gb118) (o := .cells #[.int .i64 a2_0, .bool false, .string a2_2] 23 (0, 0)) (by (with_reducible repeat (first | refine blk_drewN ?_ _ | refine blk_drew ?_ | refine blk_alloc ?_ _)); exact BK118.out) hb); have n1_ := Aside0.mk (below_step (by repeat (first | (with_reducible first | exact HB.out | apply below_alloc | apply pw_below_drewN | apply below_drew1 | refine below_set ?_ GE118.out) | exact HB.out)) hb); clear BK118; clear HB; have BK118 := n0_; have HB := n1_; clear n0_ n1_; (try clear hb); (try clear hb2); (try clear hk); (try clear hi)) | ((with_reducible refine gate_callee (f := 29) rfl ?_); refine goesL_ (some 93) rfl rfl Tryd.func29 (by kernel_rfl) rfl #[.string t129, .int .i64 (wrap64 (x1_36 + (t125.size : Int)))] rfl (by (try simp only [List.map_toArray, List.map_cons, List.map_nil]); first | done | rfl | (simp only [List.length_drop, List.length_take]; rfl)) ?_; (with_reducible refine (utf_Prev.calls t129 (wrap64 (x1_36 + (t125.size : Int))) t133 _ A48.out).mono ?_); rintro e w50 ⟨rfl, hb⟩; refine ⟨_, rfl, ?_⟩; have n0_ := Aside0.mk (blk_below (g := gb118) (o := .cells #[.int .i64 a2_0, .bool false, .string a2_2] 23 (0, 0)) (by (with_reducible repeat (first | refine blk_drewN ?_ _ | refine blk_drew ?_ | refine blk_alloc ?_ _)); exact BK118.out) hb); have n1_ := Aside0.mk (below_step (by repeat (first | (with_reducible first | exact HB.out | apply below_alloc | apply pw_below_drewN | apply below_drew1 | refine below_set ?_ GE118.out) | exact HB.out)) hb); clear BK118; clear HB; have BK118 := n0_; have HB := n1_; clear n0_ n1_; (try clear hb); (try clear hb2); (try clear hk); (try clear hi)))
                              go_ret3
                              exact ⟨by first | rfl | (simp [errW_none, errW_some] <;> rfl) | (simp only [← hji29]; first | rfl | (simp [errW_none, errW_some] <;> rfl)) | (simp [*, errW_none, errW_some] <;> rfl), by repeat (first | (with_reducible first | exact HB.out | apply below_alloc | apply pw_below_drewN | apply below_drew1 | refine below_set ?_ GE118.out) | exact HB.out)⟩
                          · rw [if_neg c42] at H
                            have c42b0 : (t130 == 0) = false := beq_eq_false_iff_ne.mpr c42
                            have c42b1 : (t130 != 0) = true := bne_iff_ne.mpr c42
                            simp only [Option.some.injEq, Prod.mk.injEq] at H
                            obtain ⟨rfl, rfl, rfl⟩ := H
                            go_wp2_with (first | ((with_reducible refine gate_callee (f := 26) rfl ?_); refine goesL_ (some 75) rfl rfl Tryd.func26 (by kernel_rfl) rfl #[.string a0, .int .i64 x1_36, .string t125] rfl (by (try simp only [List.map_toArray, List.map_cons, List.map_nil]); first | done | rfl | (simp only [List.length_drop, List.length_take]; rfl)) ?_; (with_reducible refine (paste_insert.calls a0 x1_36 t125 t129 t130 _ A41.out).mono ?_); rintro e w' ⟨rfl, ⟨nd, rfl⟩⟩; refine ⟨_, rfl, ?_⟩))
                            go_ret3
                            exact ⟨by first | rfl | (simp [errW_none, errW_some] <;> rfl) | (simp only [← hji29]; first | rfl | (simp [errW_none, errW_some] <;> rfl)) | (simp [*, errW_none, errW_some] <;> rfl), by repeat (first | (with_reducible first | exact HB.out | apply below_alloc | apply pw_below_drewN | apply below_drew1 | refine below_set ?_ GE118.out) | exact HB.out)⟩
                · replace c31 := Bool.eq_false_iff.mpr c31
                  subst c31
                  have H1 : (some ((⟨#[]⟩ : ByteArray), 0, 8)) = some (r1, r2, r3) := by rw [if_neg (show ¬ (false = true) by decide)] at H; exact H
                  clear H
                  have H := H1
                  clear H1
                  simp only [Option.some.injEq, Prod.mk.injEq] at H
                  obtain ⟨rfl, rfl, rfl⟩ := H
                  have hcz51_0 : wc.cell? ⟨gb118, 0, none⟩ = some (.int .i64 a2_0) := (blk_cell BK118.out 0).trans rfl
                  have hcz51_1 : wc.cell? ⟨gb118, 1, none⟩ = some (.bool false) := (blk_cell BK118.out 1).trans rfl
                  have hcz51_2 : wc.cell? ⟨gb118, 2, none⟩ = some (.string a2_2) := (blk_cell BK118.out 2).trans rfl
                  have hfz51_0 := blk_frozen BK118.out 0
                  have hfz51_1 := blk_frozen BK118.out 1
                  have hfz51_2 := blk_frozen BK118.out 2
                  go_wp2_with (first | ((with_reducible refine gate_callee (f := 23) rfl ?_); refine goesL_ (some 55) rfl rfl Tryd.func23 (by kernel_rfl) rfl #[.string a2_2, .string (⟨#[]⟩ : ByteArray), .int .i64 ji29] rfl (by (try simp only [List.map_toArray, List.map_cons, List.map_nil]); first | done | (simp only [hji29]; rfl) | rfl | (simp only [List.length_drop, List.length_take]; rfl)) ?_; (with_reducible refine (paste_times.calls kj15 a2_2 (⟨#[]⟩ : ByteArray) ji29 t125 false _ A30.out).mono ?_); rintro e w52 ⟨rfl, hb⟩; refine ⟨_, rfl, ?_⟩; have n0_ := Aside0.mk (blk_below (g := gb118) (o := .cells #[.int .i64 a2_0, .bool false, .string a2_2] 23 (0, 0)) (by (with_reducible repeat (first | refine blk_drewN ?_ _ | refine blk_drew ?_ | refine blk_alloc ?_ _)); exact BK118.out) hb); have n1_ := Aside0.mk (below_step (by repeat (first | (with_reducible first | exact HB.out | apply below_alloc | apply pw_below_drewN | apply below_drew1 | refine below_set ?_ GE118.out) | exact HB.out)) hb); clear BK118; clear HB; have BK118 := n0_; have HB := n1_; clear n0_ n1_; (try clear hb); (try clear hb2); (try clear hk); (try clear hi)))
                  go_ret3
                  exact ⟨by first | rfl | (simp [errW_none, errW_some] <;> rfl) | (simp only [← hji29]; first | rfl | (simp [errW_none, errW_some] <;> rfl)) | (simp [*, errW_none, errW_some] <;> rfl), by repeat (first | (with_reducible first | exact HB.out | apply below_alloc | apply pw_below_drewN | apply below_drew1 | refine below_set ?_ GE118.out) | exact HB.out)⟩

/-! ### calamuslaw24_lives -/
def calamuslaw24_lives.f (k : Nat)  : Option (Bool) := (paste_Put.f k (⟨#[97, 98]⟩ : ByteArray) 0 0 false (⟨#[120, 121]⟩ : ByteArray) false 1).bind fun bt134 => (if bt134.1.toList = ([97, 120, 121, 98] : List UInt8) then (if bt134.2.1 = 2 then (some (bt134.2.2 == 0)) else (some false)) else (some false))
theorem calamuslaw24_lives.mono : ∀ k, LeO (calamuslaw24_lives.f k ) (calamuslaw24_lives.f (k + 1) ) := by
  intro  k
  unfold calamuslaw24_lives.f
  repeat' first
      | (with_reducible exact paste_Put.mono _ _ _ _ _ _ _ _)
      | (with_reducible exact LeO.refl _)
      | (with_reducible exact LeO.none _)
      | (with_reducible refine LeO.ite ?_ ?_)
      | (with_reducible refine LeO.bind ?_ (fun _ => ?_))
      | exact paste_Put.mono _ _ _ _ _ _ _ _
      | exact LeO.none _
      | refine LeO.ite ?_ ?_
      | refine LeO.bind ?_ (fun _ => ?_)
set_option maxHeartbeats 8000000 in
set_option maxRecDepth 100000 in
theorem calamuslaw24_lives.calls (k : Nat)  (r : Bool) (w : World) (h : calamuslaw24_lives.f k  = some r) :
    Calls Tryd.prog 7 #[] w fun e w' => e = .returned (.bool r) ∧ Below w.heap.size w w' := by
  have hu23 := Tryd.underlying23
  have HB := Aside0.mk (Below.refl w.heap.size w)
  have H : ((paste_Put.f k (⟨#[97, 98]⟩ : ByteArray) 0 0 false (⟨#[120, 121]⟩ : ByteArray) false 1).bind fun bt134 => (if bt134.1.toList = ([97, 120, 121, 98] : List UInt8) then (if bt134.2.1 = 2 then (some (bt134.2.2 == 0)) else (some false)) else (some false))) = some r := h
  clear h
  replace H := Option.bind_eq_some_iff.mp H
  obtain ⟨⟨t134, t135, t136⟩, A10, H⟩ := H
  replace H : (if t134.toList = ([97, 120, 121, 98] : List UInt8) then (if t135 = 2 then (some (t136 == 0)) else (some false)) else (some false)) = some r := H
  have A1 := Aside0.mk A10
  clear A10
  by_cases c2 : t134.toList = ([97, 120, 121, 98] : List UInt8)
  · rw [if_pos c2] at H
    have c2b0 : (t134.toList == ([97, 120, 121, 98] : List UInt8)) = true := beq_iff_eq.mpr c2
    have c2b1 : (t134.toList != ([97, 120, 121, 98] : List UInt8)) = false := bne_eq_false_iff_eq.mpr c2
    clear c2
    by_cases c3 : t135 = 2
    · rw [if_pos c3] at H
      have c3b0 : (t135 == 2) = true := beq_iff_eq.mpr c3
      have c3b1 : (t135 != 2) = false := bne_eq_false_iff_eq.mpr c3
      clear c3
      obtain rfl := Option.some.inj H
      go_enter Tryd.func7, Tryd.ntmps7
      go_wp2_with (first | ((with_reducible refine gate_callee (f := 8) rfl ?_); refine goesL_ (some 6) rfl rfl Tryd.func8 (by kernel_rfl) rfl #[.string (⟨#[97, 98]⟩ : ByteArray), .int .i64 0, .agg #[.int .i64 0, .bool false, .string (⟨#[120, 121]⟩ : ByteArray)], .bool false, .int .i64 1] rfl (by (try simp only [List.map_toArray, List.map_cons, List.map_nil]); first | done | rfl | (simp only [List.length_drop, List.length_take]; rfl)) ?_; (with_reducible refine (paste_Put.calls k (⟨#[97, 98]⟩ : ByteArray) 0 0 false (⟨#[120, 121]⟩ : ByteArray) false 1 t134 t135 t136 _ A1.out).mono ?_); rintro e w4 ⟨rfl, hb⟩; refine ⟨_, rfl, ?_⟩; have n0_ := Aside0.mk (below_step (by repeat (first | (with_reducible first | exact HB.out | apply below_alloc | apply pw_below_drewN | apply below_drew1) | exact HB.out)) hb); clear HB; have HB := n0_; clear n0_; (try clear hb); (try clear hb2); (try clear hk); (try clear hi)))
      go_ret
      exact ⟨by first | rfl | (simp [errW_none, errW_some] <;> rfl) | (simp [*, errW_none, errW_some] <;> rfl), by repeat (first | (with_reducible first | exact HB.out | apply below_alloc | apply pw_below_drewN | apply below_drew1) | exact HB.out)⟩
    · rw [if_neg c3] at H
      have c3b0 : (t135 == 2) = false := beq_eq_false_iff_ne.mpr c3
      have c3b1 : (t135 != 2) = true := bne_iff_ne.mpr c3
      obtain rfl := Option.some.inj H
      go_enter Tryd.func7, Tryd.ntmps7
      go_wp2_with (first | ((with_reducible refine gate_callee (f := 8) rfl ?_); refine goesL_ (some 6) rfl rfl Tryd.func8 (by kernel_rfl) rfl #[.string (⟨#[97, 98]⟩ : ByteArray), .int .i64 0, .agg #[.int .i64 0, .bool false, .string (⟨#[120, 121]⟩ : ByteArray)], .bool false, .int .i64 1] rfl (by (try simp only [List.map_toArray, List.map_cons, List.map_nil]); first | done | rfl | (simp only [List.length_drop, List.length_take]; rfl)) ?_; (with_reducible refine (paste_Put.calls k (⟨#[97, 98]⟩ : ByteArray) 0 0 false (⟨#[120, 121]⟩ : ByteArray) false 1 t134 t135 t136 _ A1.out).mono ?_); rintro e w5 ⟨rfl, hb⟩; refine ⟨_, rfl, ?_⟩; have n0_ := Aside0.mk (below_step (by repeat (first | (with_reducible first | exact HB.out | apply below_alloc | apply pw_below_drewN | apply below_drew1) | exact HB.out)) hb); clear HB; have HB := n0_; clear n0_; (try clear hb); (try clear hb2); (try clear hk); (try clear hi)))
      go_ret
      exact ⟨by first | rfl | (simp [errW_none, errW_some] <;> rfl) | (simp [*, errW_none, errW_some] <;> rfl), by repeat (first | (with_reducible first | exact HB.out | apply below_alloc | apply pw_below_drewN | apply below_drew1) | exact HB.out)⟩
  · rw [if_neg c2] at H
    have c2b0 : (t134.toList == ([97, 120, 121, 98] : List UInt8)) = false := beq_eq_false_iff_ne.mpr c2
    have c2b1 : (t134.toList != ([97, 120, 121, 98] : List UInt8)) = true := bne_iff_ne.mpr c2
    obtain rfl := Option.some.inj H
    go_enter Tryd.func7, Tryd.ntmps7
    go_wp2_with (first | ((with_reducible refine gate_callee (f := 8) rfl ?_); refine goesL_ (some 6) rfl rfl Tryd.func8 (by kernel_rfl) rfl #[.string (⟨#[97, 98]⟩ : ByteArray), .int .i64 0, .agg #[.int .i64 0, .bool false, .string (⟨#[120, 121]⟩ : ByteArray)], .bool false, .int .i64 1] rfl (by (try simp only [List.map_toArray, List.map_cons, List.map_nil]); first | done | rfl | (simp only [List.length_drop, List.length_take]; rfl)) ?_; (with_reducible refine (paste_Put.calls k (⟨#[97, 98]⟩ : ByteArray) 0 0 false (⟨#[120, 121]⟩ : ByteArray) false 1 t134 t135 t136 _ A1.out).mono ?_); rintro e w6 ⟨rfl, hb⟩; refine ⟨_, rfl, ?_⟩; have n0_ := Aside0.mk (below_step (by repeat (first | (with_reducible first | exact HB.out | apply below_alloc | apply pw_below_drewN | apply below_drew1) | exact HB.out)) hb); clear HB; have HB := n0_; clear n0_; (try clear hb); (try clear hb2); (try clear hk); (try clear hi)))
    go_ret
    exact ⟨by first | rfl | (simp [errW_none, errW_some] <;> rfl) | (simp [*, errW_none, errW_some] <;> rfl), by repeat (first | (with_reducible first | exact HB.out | apply below_alloc | apply pw_below_drewN | apply below_drew1) | exact HB.out)⟩





end Go.Proofs.YtckfdehendifoaaDoor.QP
-- Printed by this work's xp.py out of the translation. Lean checks it.
namespace Go.Proofs.YtckfdehendifoaaDoor.QP
open Go.RowKit Go.Proofs.YtckfdehendifoaaDoorW.PrintWords Go.Proofs.YtckfdehendifoaaDoorW.PrintLast Go.Proofs.YtckfdehendifoaaDoorW.PrintMore
attribute [local go_sem] max2_int min2_int max_two min_two max_three min_three max_four min_four   -- for this text's walks alone
set_option linter.unusedVariables false
set_option linter.unusedSimpArgs false


/-! ### calamusref24_Over -/
mutual
def calamusref24_Over.j0 : Nat → ByteArray → Int → ByteArray → Int → Bool → Option (ByteArray × Int × Int)
  | 0, _, _, _, _, _ => none
  | k + 1, x0, x1, x2, x3, x25 => if x25 = true then (some ((⟨#[]⟩ : ByteArray), 0, 9)) else ((calamusref24_some.f k x0 x1 x3).bind fun t240 => (if (t240.length : Int) < x3 then (calamusref24_Over.j1 k x0 x1 x2 t240 true) else (calamusref24_Over.j1 k x0 x1 x2 t240 ((t240.length : Int) == 0))))
def calamusref24_Over.j1 : Nat → ByteArray → Int → ByteArray → List Int → Bool → Option (ByteArray × Int × Int)
  | 0, _, _, _, _, _ => none
  | k + 1, x0, x1, x2, x11, x38 => if x38 = true then (some ((⟨#[]⟩ : ByteArray), 0, 10)) else (if 0 ≤ x1 then (if x1 ≤ (x0.size : Int) then (calamusref24_Over.l0 k x0 x2 x11 (x0.extract 0 (x1 : Int).toNat) x1 0) else (none)) else (none))
def calamusref24_Over.l0 : Nat → ByteArray → ByteArray → List Int → ByteArray → Int → Int → Option (ByteArray × Int × Int)
  | 0, _, _, _, _, _, _ => none
  | k + 1, x0, x2, x11, x12, x13, x14 => if x14 < (x11.length : Int) then (if x12.size + x2.size ≤ 9223372036854775807 then (calamusref24_Over.l0 k x0 x2 x11 (x12 ++ x2) (x12.size : Int) (wrap64 (x14 + 1))) else (none)) else (if 0 ≤ (wrap64 ((x11.length : Int) - 1)) then (if (wrap64 ((x11.length : Int) - 1)) < (x11.length : Int) then ((calamusref03_Next.f x0 (rd x11 (wrap64 ((x11.length : Int) - 1)))).bind fun t244 => (if 0 ≤ t244 then (if t244 ≤ (x0.size : Int) then (if x12.size + (x0.extract (t244 : Int).toNat x0.size).size ≤ 9223372036854775807 then (if ((x12 ++ (x0.extract (t244 : Int).toNat x0.size)).size : Int) > 4096 then (some ((⟨#[]⟩ : ByteArray), 0, 8)) else (some (x12 ++ (x0.extract (t244 : Int).toNat x0.size), x13, 0))) else (none)) else (none)) else (none))) else (none)) else (none))
end
def calamusref24_Over.f (k : Nat) (a0 : ByteArray) (a1 : Int) (a2 : ByteArray) (a3 : Int) : Option (ByteArray × Int × Int) := (calamusref03_Place.f a0 a1).bind fun t238 => (if t238 = true then ((calamusref13_Sign.f a2).bind fun t239 => (if t239 = true then (calamusref24_Over.j0 k a0 a1 a2 a3 false) else (calamusref24_Over.j0 k a0 a1 a2 a3 (a2.toList != ([9] : List UInt8))))) else (some ((⟨#[]⟩ : ByteArray), 0, 1)))
theorem calamusref24_Over.mono_l : ∀ k, (∀ y0 y1 y2 y3 y4, LeO (calamusref24_Over.j0 k y0 y1 y2 y3 y4) (calamusref24_Over.j0 (k + 1) y0 y1 y2 y3 y4)) ∧ (∀ y0 y1 y2 y3 y4, LeO (calamusref24_Over.j1 k y0 y1 y2 y3 y4) (calamusref24_Over.j1 (k + 1) y0 y1 y2 y3 y4)) ∧ (∀ y0 y1 y2 y3 y4 y5, LeO (calamusref24_Over.l0 k y0 y1 y2 y3 y4 y5) (calamusref24_Over.l0 (k + 1) y0 y1 y2 y3 y4 y5))
  | 0 => ⟨fun _ _ _ _ _ r h => by simp [calamusref24_Over.j0] at h, fun _ _ _ _ _ r h => by simp [calamusref24_Over.j1] at h, fun _ _ _ _ _ _ r h => by simp [calamusref24_Over.l0] at h⟩
  | k + 1 => by
    obtain ⟨ih0, ih1, ih2⟩ := calamusref24_Over.mono_l k
    refine ⟨?_, ?_, ?_⟩
    · intro y0 y1 y2 y3 y4
      unfold calamusref24_Over.j0
      repeat' first
      | (with_reducible exact ih0 _ _ _ _ _)
      | (with_reducible exact ih1 _ _ _ _ _)
      | (with_reducible exact ih2 _ _ _ _ _ _)
      | (with_reducible exact calamusref24_some.mono _ _ _ _)
      | (with_reducible exact LeO.refl _)
      | (with_reducible exact LeO.none _)
      | (with_reducible refine LeO.ite ?_ ?_)
      | (with_reducible refine LeO.bind ?_ (fun _ => ?_))
      | exact ih0 _ _ _ _ _
      | exact ih1 _ _ _ _ _
      | exact ih2 _ _ _ _ _ _
      | exact calamusref24_some.mono _ _ _ _
      | exact LeO.none _
      | refine LeO.ite ?_ ?_
      | refine LeO.bind ?_ (fun _ => ?_)
    · intro y0 y1 y2 y3 y4
      unfold calamusref24_Over.j1
      repeat' first
      | (with_reducible exact ih0 _ _ _ _ _)
      | (with_reducible exact ih1 _ _ _ _ _)
      | (with_reducible exact ih2 _ _ _ _ _ _)
      | (with_reducible exact calamusref24_some.mono _ _ _ _)
      | (with_reducible exact LeO.refl _)
      | (with_reducible exact LeO.none _)
      | (with_reducible refine LeO.ite ?_ ?_)
      | (with_reducible refine LeO.bind ?_ (fun _ => ?_))
      | exact ih0 _ _ _ _ _
      | exact ih1 _ _ _ _ _
      | exact ih2 _ _ _ _ _ _
      | exact calamusref24_some.mono _ _ _ _
      | exact LeO.none _
      | refine LeO.ite ?_ ?_
      | refine LeO.bind ?_ (fun _ => ?_)
    · intro y0 y1 y2 y3 y4 y5
      unfold calamusref24_Over.l0
      repeat' first
      | (with_reducible exact ih0 _ _ _ _ _)
      | (with_reducible exact ih1 _ _ _ _ _)
      | (with_reducible exact ih2 _ _ _ _ _ _)
      | (with_reducible exact calamusref24_some.mono _ _ _ _)
      | (with_reducible exact LeO.refl _)
      | (with_reducible exact LeO.none _)
      | (with_reducible refine LeO.ite ?_ ?_)
      | (with_reducible refine LeO.bind ?_ (fun _ => ?_))
      | exact ih0 _ _ _ _ _
      | exact ih1 _ _ _ _ _
      | exact ih2 _ _ _ _ _ _
      | exact calamusref24_some.mono _ _ _ _
      | exact LeO.none _
      | refine LeO.ite ?_ ?_
      | refine LeO.bind ?_ (fun _ => ?_)
theorem calamusref24_Over.mono : ∀ a0 a1 a2 a3 k, LeO (calamusref24_Over.f k a0 a1 a2 a3) (calamusref24_Over.f (k + 1) a0 a1 a2 a3) := by
  intro a0 a1 a2 a3 k
  obtain ⟨ih0, ih1, ih2⟩ := calamusref24_Over.mono_l k
  unfold calamusref24_Over.f
  repeat' first
      | (with_reducible exact ih0 _ _ _ _ _)
      | (with_reducible exact ih1 _ _ _ _ _)
      | (with_reducible exact ih2 _ _ _ _ _ _)
      | (with_reducible exact calamusref24_some.mono _ _ _ _)
      | (with_reducible exact LeO.refl _)
      | (with_reducible exact LeO.none _)
      | (with_reducible refine LeO.ite ?_ ?_)
      | (with_reducible refine LeO.bind ?_ (fun _ => ?_))
      | exact ih0 _ _ _ _ _
      | exact ih1 _ _ _ _ _
      | exact ih2 _ _ _ _ _ _
      | exact calamusref24_some.mono _ _ _ _
      | exact LeO.none _
      | refine LeO.ite ?_ ?_
      | refine LeO.bind ?_ (fun _ => ?_)
set_option maxHeartbeats 8000000 in
set_option maxRecDepth 100000 in
theorem calamusref24_Over.calls (k : Nat) (a0 : ByteArray) (a1 : Int) (a2 : ByteArray) (a3 : Int) (r1 : ByteArray) (r2 : Int) (r3 : Int) (w : World) (h : calamusref24_Over.f k a0 a1 a2 a3 = some (r1, r2, r3)) :
    Calls Tryd.prog 15 #[.string a0, .int .i64 a1, .string a2, .int .i64 a3] w fun e w' => e = .returned (.tuple #[.string r1, .int .i64 r2, .int .i64 r3]) ∧ Below w.heap.size w w' := by
  have HB := Aside0.mk (Below.refl w.heap.size w)
  have H : ((calamusref03_Place.f a0 a1).bind fun t238 => (if t238 = true then ((calamusref13_Sign.f a2).bind fun t239 => (if t239 = true then (calamusref24_Over.j0 k a0 a1 a2 a3 false) else (calamusref24_Over.j0 k a0 a1 a2 a3 (a2.toList != ([9] : List UInt8))))) else (some ((⟨#[]⟩ : ByteArray), 0, 1)))) = some (r1, r2, r3) := h
  clear h
  replace H := Option.bind_eq_some_iff.mp H
  obtain ⟨t238, A50, H⟩ := H
  replace H : (if t238 = true then ((calamusref13_Sign.f a2).bind fun t239 => (if t239 = true then (calamusref24_Over.j0 k a0 a1 a2 a3 false) else (calamusref24_Over.j0 k a0 a1 a2 a3 (a2.toList != ([9] : List UInt8))))) else (some ((⟨#[]⟩ : ByteArray), 0, 1))) = some (r1, r2, r3) := H
  have A5 := Aside0.mk A50
  clear A50
  by_cases c6 : t238 = true
  · subst c6
    have H1 : ((calamusref13_Sign.f a2).bind fun t239 => (if t239 = true then (calamusref24_Over.j0 k a0 a1 a2 a3 false) else (calamusref24_Over.j0 k a0 a1 a2 a3 (a2.toList != ([9] : List UInt8))))) = some (r1, r2, r3) := by rw [if_pos rfl] at H; exact H
    clear H
    have H := H1
    clear H1
    have HC7 := Aside0.mk H
    clear H
    go_enter Tryd.func15, Tryd.ntmps15
    go_upto_region 3 with (first | ((with_reducible refine gate_callee (f := 30) rfl ?_); refine goesL_ (some 17) rfl rfl Tryd.func30 (by kernel_rfl) rfl #[.string a0, .int .i64 a1] rfl (by (try simp only [List.map_toArray, List.map_cons, List.map_nil]); first | done | rfl | (simp only [List.length_drop, List.length_take]; rfl)) ?_; (with_reducible refine (calamusref03_Place.calls a0 a1 true _ A5.out).mono ?_); rintro e w8 ⟨rfl, hb⟩; refine ⟨_, rfl, ?_⟩; have n0_ := Aside0.mk (below_step (by repeat (first | (with_reducible first | exact HB.out | apply below_alloc | apply pw_below_drewN | apply below_drew1) | exact HB.out)) hb); clear HB; have HB := n0_; clear n0_; (try clear hb); (try clear hb2); (try clear hk); (try clear hi)))
    (try simp only [Act.put, List.setIfInBounds_toArray, List.set_cons_zero, List.set_cons_succ])
    go_cut [25] (fun v25 wc => ∃ (kq : Nat) (x25_6 : Bool), v25 = .bool x25_6 ∧ Aside0 (calamusref24_Over.j0 kq a0 a1 a2 a3 x25_6 = some (r1, r2, r3)) ∧ Aside0 (kq ≤ k) ∧ Aside0 (Below w.heap.size w wc))
    case first =>
      have H := HC7.out
      clear HC7
      replace H := Option.bind_eq_some_iff.mp H
      obtain ⟨t239, A90, H⟩ := H
      replace H : (if t239 = true then (calamusref24_Over.j0 k a0 a1 a2 a3 false) else (calamusref24_Over.j0 k a0 a1 a2 a3 (a2.toList != ([9] : List UInt8)))) = some (r1, r2, r3) := H
      have A9 := Aside0.mk A90
      clear A90
      by_cases c10 : t239 = true
      · subst c10
        have H1 : (calamusref24_Over.j0 k a0 a1 a2 a3 false) = some (r1, r2, r3) := by rw [if_pos rfl] at H; exact H
        clear H
        have H := H1
        clear H1
        have H' := Aside0.mk H
        clear H
        go_wp2_with (first | ((with_reducible refine gate_callee (f := 51) rfl ?_); refine goesL_ (some 20) rfl rfl Tryd.func51 (by kernel_rfl) rfl #[.string a2] rfl (by (try simp only [List.map_toArray, List.map_cons, List.map_nil]); first | done | rfl | (simp only [List.length_drop, List.length_take]; rfl)) ?_; (with_reducible refine (calamusref13_Sign.calls a2 true _ A9.out).mono ?_); rintro e w11 ⟨rfl, hb⟩; refine ⟨_, rfl, ?_⟩; have n0_ := Aside0.mk (below_step (by repeat (first | (with_reducible first | exact HB.out | apply below_alloc | apply pw_below_drewN | apply below_drew1) | exact HB.out)) hb); clear HB; have HB := n0_; clear n0_; (try clear hb); (try clear hb2); (try clear hk); (try clear hi)))
        go_meet
        case rel => exact ⟨_, (false), (by first | rfl | (simp; done) | (simp [*]; done)), H', ⟨by first | omega | exact Nat.le_refl _⟩, ⟨by repeat (first | (with_reducible first | exact HB.out | apply below_alloc | apply pw_below_drewN | apply below_drew1) | exact HB.out)⟩⟩
      · replace c10 := Bool.eq_false_iff.mpr c10
        subst c10
        have H1 : (calamusref24_Over.j0 k a0 a1 a2 a3 (a2.toList != ([9] : List UInt8))) = some (r1, r2, r3) := by rw [if_neg (show ¬ (false = true) by decide)] at H; exact H
        clear H
        have H := H1
        clear H1
        have H' := Aside0.mk H
        clear H
        go_wp2_with (first | ((with_reducible refine gate_callee (f := 51) rfl ?_); refine goesL_ (some 20) rfl rfl Tryd.func51 (by kernel_rfl) rfl #[.string a2] rfl (by (try simp only [List.map_toArray, List.map_cons, List.map_nil]); first | done | rfl | (simp only [List.length_drop, List.length_take]; rfl)) ?_; (with_reducible refine (calamusref13_Sign.calls a2 false _ A9.out).mono ?_); rintro e w12 ⟨rfl, hb⟩; refine ⟨_, rfl, ?_⟩; have n0_ := Aside0.mk (below_step (by repeat (first | (with_reducible first | exact HB.out | apply below_alloc | apply pw_below_drewN | apply below_drew1) | exact HB.out)) hb); clear HB; have HB := n0_; clear n0_; (try clear hb); (try clear hb2); (try clear hk); (try clear hi)))
        go_meet
        case rel => exact ⟨_, ((a2.toList != ([9] : List UInt8))), (by first | rfl | (simp; done) | (simp [*]; done)), H', ⟨by first | omega | exact Nat.le_refl _⟩, ⟨by repeat (first | (with_reducible first | exact HB.out | apply below_alloc | apply pw_below_drewN | apply below_drew1) | exact HB.out)⟩⟩
    case rest =>
      clear HC7
      try clear c1
      try clear p2
      try clear c3
      try clear c5
      try clear c6
      try clear c10
      obtain ⟨kq, x25_6, rfl, HA, HJ6, HB⟩ := hcut
      cases kq with
      | zero => exact absurd HA.out (by simp [calamusref24_Over.j0])
      | succ kj6 =>
        have H := HA.out
        clear HA
        simp only [calamusref24_Over.j0] at H
        by_cases c13 : x25_6 = true
        · subst c13
          have H1 : (some ((⟨#[]⟩ : ByteArray), 0, 9)) = some (r1, r2, r3) := by rw [if_pos rfl] at H; exact H
          clear H
          have H := H1
          clear H1
          simp only [Option.some.injEq, Prod.mk.injEq] at H
          obtain ⟨rfl, rfl, rfl⟩ := H
          go_wp2
          go_ret3
          exact ⟨by first | rfl | (simp [errW_none, errW_some] <;> rfl) | (simp [*, errW_none, errW_some] <;> rfl), by repeat (first | (with_reducible first | exact HB.out | apply below_alloc | apply pw_below_drewN | apply below_drew1) | exact HB.out)⟩
        · replace c13 := Bool.eq_false_iff.mpr c13
          subst c13
          have H1 : ((calamusref24_some.f kj6 a0 a1 a3).bind fun t240 => (if (t240.length : Int) < a3 then (calamusref24_Over.j1 kj6 a0 a1 a2 t240 true) else (calamusref24_Over.j1 kj6 a0 a1 a2 t240 ((t240.length : Int) == 0)))) = some (r1, r2, r3) := by rw [if_neg (show ¬ (false = true) by decide)] at H; exact H
          clear H
          have H := H1
          clear H1
          replace H := Option.bind_eq_some_iff.mp H
          obtain ⟨t240, A140, H⟩ := H
          replace H : (if (t240.length : Int) < a3 then (calamusref24_Over.j1 kj6 a0 a1 a2 t240 true) else (calamusref24_Over.j1 kj6 a0 a1 a2 t240 ((t240.length : Int) == 0))) = some (r1, r2, r3) := H
          have A14 := Aside0.mk A140
          clear A140
          have HC15 := Aside0.mk H
          clear H
          go_upto_region 6 with (first | ((with_reducible refine gate_callee (f := 48) rfl ?_); refine goesL_ (some 29) rfl rfl Tryd.func48 (by kernel_rfl) rfl #[.string a0, .int .i64 a1, .int .i64 a3] rfl (by (try simp only [List.map_toArray, List.map_cons, List.map_nil]); first | done | rfl | (simp only [List.length_drop, List.length_take]; rfl)) ?_; (with_reducible refine (calamusref24_some.calls kj6 a0 a1 a3 t240 _ A14.out).mono ?_); rintro e w16 ⟨v241, rfl, ho0, hb⟩; refine ⟨_, rfl, ?_⟩; have n0_ := Aside0.mk (Kd.R_lower ho0 (below_size (by repeat (first | (with_reducible first | exact HB.out | apply below_alloc | apply pw_below_drewN | apply below_drew1) | exact HB.out)))); have n1_ := Aside0.mk (below_step (by repeat (first | (with_reducible first | exact HB.out | apply below_alloc | apply pw_below_drewN | apply below_drew1) | exact HB.out)) hb); clear HB; have HO242 := n0_; have HB := n1_; clear n0_ n1_; (try clear hb); (try clear hb2); (try clear hk); (try clear hi); (try clear ho0)))
          (try simp only [Act.put, List.setIfInBounds_toArray, List.set_cons_zero, List.set_cons_succ])
          go_cut [38] (fun v38 wc => ∃ (kq : Nat) (x38_14 : Bool), v38 = .bool x38_14 ∧ Aside0 (calamusref24_Over.j1 kq a0 a1 a2 t240 x38_14 = some (r1, r2, r3)) ∧ Aside0 (kq ≤ kj6) ∧ Aside0 (Kd.R (Kd.int .i64) 3 wc w.heap.size (fun _ => True) v241 t240) ∧ Aside0 (Below w.heap.size w wc))
          case first =>
            have H := HC15.out
            clear HC15
            by_cases c17 : (t240.length : Int) < a3
            · rw [if_pos c17] at H
              have c17b0 : decide ((t240.length : Int) < a3) = true := decide_eq_true c17
              clear c17
              (first | rw [c17b0] | (simp only [i64_w, i32_w]; rw [c17b0]) | skip)
              have H' := Aside0.mk H
              clear H
              obtain ⟨Ao18, co18, eo18⟩ := Kd.R_slice HO242.out
              subst eo18
              go_wp2
              go_meet
              case rel => exact ⟨_, (true), (by first | rfl | (simp; done) | (simp [*]; done)), H', ⟨by have := HJ6.out; first | omega | exact Nat.le_refl _⟩, ⟨by (with_reducible repeat (first | apply Kd.R_alloc | apply Kd.R_drewN | apply Kd.R_drew)); exact HO242.out⟩, ⟨by repeat (first | (with_reducible first | exact HB.out | apply below_alloc | apply pw_below_drewN | apply below_drew1) | exact HB.out)⟩⟩
            · rw [if_neg c17] at H
              have c17b0 : decide ((t240.length : Int) < a3) = false := decide_eq_false c17
              clear c17
              (first | rw [c17b0] | (simp only [i64_w, i32_w]; rw [c17b0]) | skip)
              have H' := Aside0.mk H
              clear H
              obtain ⟨Ao19, co19, eo19⟩ := Kd.R_slice HO242.out
              subst eo19
              go_wp2
              go_meet
              case rel => exact ⟨_, (((t240.length : Int) == 0)), (by first | rfl | (simp; done) | (simp [*]; done)), H', ⟨by have := HJ6.out; first | omega | exact Nat.le_refl _⟩, ⟨by (with_reducible repeat (first | apply Kd.R_alloc | apply Kd.R_drewN | apply Kd.R_drew)); exact HO242.out⟩, ⟨by repeat (first | (with_reducible first | exact HB.out | apply below_alloc | apply pw_below_drewN | apply below_drew1) | exact HB.out)⟩⟩
          case rest =>
            clear HC15
            try clear c1
            try clear p2
            try clear c3
            try clear c4
            try clear c5
            try clear c6
            try clear c10
            try clear c13
            try clear c15
            try clear c17
            try clear c17b0
            try clear p2
            obtain ⟨kq, x38_14, rfl, HA, HJ14, HO_11, HB⟩ := hcut
            cases kq with
            | zero => exact absurd HA.out (by simp [calamusref24_Over.j1])
            | succ kj14 =>
              have H := HA.out
              clear HA
              simp only [calamusref24_Over.j1] at H
              by_cases c20 : x38_14 = true
              · subst c20
                have H1 : (some ((⟨#[]⟩ : ByteArray), 0, 10)) = some (r1, r2, r3) := by rw [if_pos rfl] at H; exact H
                clear H
                have H := H1
                clear H1
                simp only [Option.some.injEq, Prod.mk.injEq] at H
                obtain ⟨rfl, rfl, rfl⟩ := H
                go_wp2
                go_ret3
                exact ⟨by first | rfl | (simp [errW_none, errW_some] <;> rfl) | (simp [*, errW_none, errW_some] <;> rfl), by repeat (first | (with_reducible first | exact HB.out | apply below_alloc | apply pw_below_drewN | apply below_drew1) | exact HB.out)⟩
              · replace c20 := Bool.eq_false_iff.mpr c20
                subst c20
                have H1 : (if 0 ≤ a1 then (if a1 ≤ (a0.size : Int) then (calamusref24_Over.l0 kj14 a0 a2 t240 (a0.extract 0 (a1 : Int).toNat) a1 0) else (none)) else (none)) = some (r1, r2, r3) := by rw [if_neg (show ¬ (false = true) by decide)] at H; exact H
                clear H
                have H := H1
                clear H1
                by_cases c21 : 0 ≤ a1
                · rw [if_pos c21] at H
                  have c21b0 := eq_true c21
                  have c21b1 : decide (0 ≤ a1) = true := decide_eq_true c21
                  clear c21
                  by_cases c22 : a1 ≤ (a0.size : Int)
                  · rw [if_pos c22] at H
                    have c22b0 := eq_true c22
                    have c22b1 : decide (a1 ≤ (a0.size : Int)) = true := decide_eq_true c22
                    clear c22
                    have H' := Aside0.mk H
                    clear H
                    go_wp2
                    go_loopg [12, 13, 14] kj14 (fun kq v12 v13 v14 w' => ∃ (x12_3 : ByteArray) (x13_3 : Int) (x14_3 : Int), v12 = .string x12_3 ∧ v13 = .int .i64 x13_3 ∧ v14 = .int .i64 x14_3 ∧ Aside0 (calamusref24_Over.l0 kq a0 a2 t240 x12_3 x13_3 x14_3 = some (r1, r2, r3)) ∧ Aside0 (kq ≤ kj14) ∧ Aside0 (Kd.R (Kd.int .i64) 3 w' w.heap.size (fun _ => True) v241 t240) ∧ Aside0 (Below w.heap.size w w'))
                    case atStart => exact ⟨(a0.extract 0 (a1 : Int).toNat), (a1), (0), (by first | rfl | (simp; done) | (simp [*]; done)), (by first | rfl | (simp; done) | (simp [*]; done)), (by first | rfl | (simp; done) | (simp [*]; done)), H', ⟨Nat.le_refl _⟩, ⟨by (with_reducible repeat (first | apply Kd.R_alloc | apply Kd.R_drewN | apply Kd.R_drew)); exact HO_11.out⟩, ⟨by repeat (first | (with_reducible first | exact HB.out | apply below_alloc | apply pw_below_drewN | apply below_drew1) | exact HB.out)⟩⟩
                    case round =>
                      clear H'
                      try clear c1
                      try clear c2
                      try clear p2
                      try clear c3
                      try clear c4
                      try clear c5
                      try clear c6
                      try clear c10
                      try clear c13
                      try clear c15
                      try clear c17
                      try clear c17b0
                      try clear c20
                      try clear c21
                      try clear c21b0
                      try clear c21b1
                      try clear c22
                      try clear c22b0
                      try clear c22b1
                      try clear p2
                      obtain ⟨x12_3, x13_3, x14_3, rfl, rfl, rfl, HA, HK3, HO_11, HB⟩ := hrel
                      cases gk with
                      | zero => exact absurd HA.out (by simp [calamusref24_Over.l0])
                      | succ k3 =>
                        have H := HA.out
                        clear HA
                        simp only [calamusref24_Over.l0] at H
                        by_cases c23 : x14_3 < (t240.length : Int)
                        · rw [if_pos c23] at H
                          have c23b0 : decide (x14_3 < (t240.length : Int)) = true := decide_eq_true c23
                          clear c23
                          by_cases c24 : x12_3.size + a2.size ≤ 9223372036854775807
                          · rw [if_pos c24] at H
                            have c24b0 := eq_true c24
                            have c24b1 : decide (x12_3.size + a2.size ≤ 9223372036854775807) = true := decide_eq_true c24
                            try have c24b2 : (9223372036854775807 < x12_3.size + a2.size) = False := eq_false (Nat.not_lt.2 c24)
                            have H' := Aside0.mk H
                            clear H
                            obtain ⟨Ao25, co25, eo25⟩ := Kd.R_slice HO_11.out
                            subst eo25
                            go_wp2
                            go_roundg k3
                            case measure => have := HJ6.out; have := HJ14.out; have := HK3.out; omega
                            case rel => exact ⟨(x12_3 ++ a2), ((x12_3.size : Int)), (wrap64 (x14_3 + 1)), (by first | rfl | (simp; done) | (simp [*]; done)), (by first | rfl | (simp; done) | (simp [*]; done)), (by first | rfl | (simp; done) | (simp [*]; done)), H', ⟨by have := HJ6.out; have := HJ14.out; have := HK3.out; omega⟩, ⟨by (with_reducible repeat (first | apply Kd.R_alloc | apply Kd.R_drewN | apply Kd.R_drew)); exact HO_11.out⟩, ⟨by repeat (first | (with_reducible first | exact HB.out | apply below_alloc | apply pw_below_drewN | apply below_drew1) | exact HB.out)⟩⟩
                          · rw [if_neg c24] at H
                            exact absurd H (by simp)
                        · rw [if_neg c23] at H
                          have c23b0 : decide (x14_3 < (t240.length : Int)) = false := decide_eq_false c23
                          clear c23
                          obtain ⟨ji26, hji26⟩ : ∃ j_ : Int, (wrap64 ((t240.length : Int) - 1)) = j_ := ⟨_, rfl⟩
                          replace H : (if 0 ≤ (ji26) then (if (ji26) < (t240.length : Int) then ((calamusref03_Next.f a0 (rd t240 (ji26))).bind fun t244 => (if 0 ≤ t244 then (if t244 ≤ (a0.size : Int) then (if x12_3.size + (a0.extract (t244 : Int).toNat a0.size).size ≤ 9223372036854775807 then (if ((x12_3 ++ (a0.extract (t244 : Int).toNat a0.size)).size : Int) > 4096 then (some ((⟨#[]⟩ : ByteArray), 0, 8)) else (some (x12_3 ++ (a0.extract (t244 : Int).toNat a0.size), x13_3, 0))) else (none)) else (none)) else (none))) else (none)) else (none)) = some (r1, r2, r3) := by first | (rw [hji26] at H; exact H) | (simp only [hji26] at H ⊢; exact H)
                          have hji26w : (IntKind.i64.wrap ((t240.length : Int) - 1)) = ji26 := (i64_w _).trans hji26
                          by_cases c27 : 0 ≤ (ji26)
                          · rw [if_pos c27] at H
                            have c27b0 : decide (0 ≤ (ji26)) = true := decide_eq_true c27
                            clear c27
                            by_cases c28 : (ji26) < (t240.length : Int)
                            · rw [if_pos c28] at H
                              have c28b0 : decide ((ji26) < (t240.length : Int)) = true := decide_eq_true c28
                              clear c28
                              replace H := Option.bind_eq_some_iff.mp H
                              obtain ⟨t244, A290, H⟩ := H
                              replace H : (if 0 ≤ t244 then (if t244 ≤ (a0.size : Int) then (if x12_3.size + (a0.extract (t244 : Int).toNat a0.size).size ≤ 9223372036854775807 then (if ((x12_3 ++ (a0.extract (t244 : Int).toNat a0.size)).size : Int) > 4096 then (some ((⟨#[]⟩ : ByteArray), 0, 8)) else (some (x12_3 ++ (a0.extract (t244 : Int).toNat a0.size), x13_3, 0))) else (none)) else (none)) else (none)) = some (r1, r2, r3) := H
                              have A29 := Aside0.mk A290
                              clear A290
                              by_cases c30 : 0 ≤ t244
                              · rw [if_pos c30] at H
                                have c30b0 := eq_true c30
                                have c30b1 : decide (0 ≤ t244) = true := decide_eq_true c30
                                clear c30
                                by_cases c31 : t244 ≤ (a0.size : Int)
                                · rw [if_pos c31] at H
                                  have c31b0 := eq_true c31
                                  have c31b1 : decide (t244 ≤ (a0.size : Int)) = true := decide_eq_true c31
                                  clear c31
                                  by_cases c32 : x12_3.size + (a0.extract (t244 : Int).toNat a0.size).size ≤ 9223372036854775807
                                  · rw [if_pos c32] at H
                                    have c32b0 := eq_true c32
                                    have c32b1 : decide (x12_3.size + (a0.extract (t244 : Int).toNat a0.size).size ≤ 9223372036854775807) = true := decide_eq_true c32
                                    try have c32b2 : (9223372036854775807 < x12_3.size + (a0.extract (t244 : Int).toNat a0.size).size) = False := eq_false (Nat.not_lt.2 c32)
                                    try have c32b3 : (9223372036854775807 < x12_3.size + (a0.size - t244.toNat)) = False := eq_false (Nat.not_lt.2 (by have q := c32; simp only [ByteArray.size_append, ByteArray.size_extract] at q; have q0 : (t244 : Int) ≤ (a0.size : Int) := of_decide_eq_true (by assumption); have p0 : (0 : Int) ≤ t244 := of_decide_eq_true (by assumption); omega))
                                    by_cases c33 : ((x12_3 ++ (a0.extract (t244 : Int).toNat a0.size)).size : Int) > 4096
                                    · rw [if_pos c33] at H
                                      have c33b0 : decide (4096 < ((x12_3 ++ (a0.extract (t244 : Int).toNat a0.size)).size : Int)) = true := decide_eq_true c33
                                      have c33b1 : decide (4096 < (x12_3 ++ (a0.extract (t244 : Int).toNat a0.size)).size) = true := decide_eq_true (by omega)
                                      have c33e : ((x12_3 ++ (a0.extract (t244 : Int).toNat a0.size)).size : Int) = (x12_3.size : Int) + ((a0.size - t244.toNat : Nat) : Int) := by
                                        simp only [ByteArray.size_append, ByteArray.size_extract]; have q0 : (t244 : Int) ≤ (a0.size : Int) := of_decide_eq_true (by assumption); have p0 : (0 : Int) ≤ t244 := of_decide_eq_true (by assumption); omega
                                      have c33b2 := c33b0
                                      rw [c33e] at c33b2
                                      clear c33e
                                      clear c33
                                      simp only [Option.some.injEq, Prod.mk.injEq] at H
                                      obtain ⟨rfl, rfl, rfl⟩ := H
                                      obtain ⟨Ao34, co34, eo34⟩ := Kd.R_slice HO_11.out
                                      subst eo34
                                      have p243 : 0 ≤ ((ji26) : Int) := of_decide_eq_true (by first | (with_reducible assumption) | assumption)
                                      have q243 : (ji26) < (t240.length : Int) := of_decide_eq_true (by first | (with_reducible assumption) | assumption)
                                      obtain ⟨ad243, e243, hx243_0⟩ := Kd.at_int (Kd.R_reads' HO_11.out).2.2 (ji26) p243 q243
                                      cases e243
                                      replace p243 := eq_true p243
                                      replace q243 := eq_true q243
                                      go_wp2_with (first | ((with_reducible refine gate_callee (f := 37) rfl ?_); refine goesL_ (some 63) rfl rfl Tryd.func37 (by kernel_rfl) rfl #[.string a0, .int .i64 (rd t240 (ji26))] rfl (by (try simp only [List.map_toArray, List.map_cons, List.map_nil]); first | done | (simp only [hji26]; rfl) | rfl | (simp only [List.length_drop, List.length_take]; rfl)) ?_; (with_reducible refine (calamusref03_Next.calls a0 (rd t240 (ji26)) t244 _ A29.out).mono ?_); rintro e w35 ⟨rfl, hb⟩; refine ⟨_, rfl, ?_⟩; have n0_ := Aside0.mk (Kd.R_below (by (with_reducible repeat (first | apply Kd.R_alloc | apply Kd.R_drewN | apply Kd.R_drew)); exact HO_11.out) hb); have n1_ := Aside0.mk (below_step (by repeat (first | (with_reducible first | exact HB.out | apply below_alloc | apply pw_below_drewN | apply below_drew1) | exact HB.out)) hb); clear HO_11; clear HB; have HO_11 := n0_; have HB := n1_; clear n0_ n1_; (try clear hb); (try clear hb2); (try clear hk); (try clear hi)))
                                      go_ret3
                                      exact ⟨by first | rfl | (simp [errW_none, errW_some] <;> rfl) | (simp only [← hji26]; first | rfl | (simp [errW_none, errW_some] <;> rfl)) | (simp [*, errW_none, errW_some] <;> rfl), by repeat (first | (with_reducible first | exact HB.out | apply below_alloc | apply pw_below_drewN | apply below_drew1) | exact HB.out)⟩
                                    · rw [if_neg c33] at H
                                      have c33b0 : decide (4096 < ((x12_3 ++ (a0.extract (t244 : Int).toNat a0.size)).size : Int)) = false := decide_eq_false c33
                                      have c33b1 : decide (4096 < (x12_3 ++ (a0.extract (t244 : Int).toNat a0.size)).size) = false := decide_eq_false (by omega)
                                      have c33e : ((x12_3 ++ (a0.extract (t244 : Int).toNat a0.size)).size : Int) = (x12_3.size : Int) + ((a0.size - t244.toNat : Nat) : Int) := by
                                        simp only [ByteArray.size_append, ByteArray.size_extract]; have q0 : (t244 : Int) ≤ (a0.size : Int) := of_decide_eq_true (by assumption); have p0 : (0 : Int) ≤ t244 := of_decide_eq_true (by assumption); omega
                                      have c33b2 := c33b0
                                      rw [c33e] at c33b2
                                      clear c33e
                                      clear c33
                                      simp only [Option.some.injEq, Prod.mk.injEq] at H
                                      obtain ⟨rfl, rfl, rfl⟩ := H
                                      obtain ⟨Ao36, co36, eo36⟩ := Kd.R_slice HO_11.out
                                      subst eo36
                                      have p243 : 0 ≤ ((ji26) : Int) := of_decide_eq_true (by first | (with_reducible assumption) | assumption)
                                      have q243 : (ji26) < (t240.length : Int) := of_decide_eq_true (by first | (with_reducible assumption) | assumption)
                                      obtain ⟨ad243, e243, hx243_0⟩ := Kd.at_int (Kd.R_reads' HO_11.out).2.2 (ji26) p243 q243
                                      cases e243
                                      replace p243 := eq_true p243
                                      replace q243 := eq_true q243
                                      go_wp2_with (first | ((with_reducible refine gate_callee (f := 37) rfl ?_); refine goesL_ (some 63) rfl rfl Tryd.func37 (by kernel_rfl) rfl #[.string a0, .int .i64 (rd t240 (ji26))] rfl (by (try simp only [List.map_toArray, List.map_cons, List.map_nil]); first | done | (simp only [hji26]; rfl) | rfl | (simp only [List.length_drop, List.length_take]; rfl)) ?_; (with_reducible refine (calamusref03_Next.calls a0 (rd t240 (ji26)) t244 _ A29.out).mono ?_); rintro e w37 ⟨rfl, hb⟩; refine ⟨_, rfl, ?_⟩; have n0_ := Aside0.mk (Kd.R_below (by (with_reducible repeat (first | apply Kd.R_alloc | apply Kd.R_drewN | apply Kd.R_drew)); exact HO_11.out) hb); have n1_ := Aside0.mk (below_step (by repeat (first | (with_reducible first | exact HB.out | apply below_alloc | apply pw_below_drewN | apply below_drew1) | exact HB.out)) hb); clear HO_11; clear HB; have HO_11 := n0_; have HB := n1_; clear n0_ n1_; (try clear hb); (try clear hb2); (try clear hk); (try clear hi)))
                                      go_ret3
                                      exact ⟨by first | rfl | (simp [errW_none, errW_some] <;> rfl) | (simp only [← hji26]; first | rfl | (simp [errW_none, errW_some] <;> rfl)) | (simp [*, errW_none, errW_some] <;> rfl), by repeat (first | (with_reducible first | exact HB.out | apply below_alloc | apply pw_below_drewN | apply below_drew1) | exact HB.out)⟩
                                  · rw [if_neg c32] at H
                                    exact absurd H (by simp)
                                · rw [if_neg c31] at H
                                  exact absurd H (by simp)
                              · rw [if_neg c30] at H
                                exact absurd H (by simp)
                            · rw [if_neg c28] at H
                              exact absurd H (by simp)
                          · rw [if_neg c27] at H
                            exact absurd H (by simp)
                  · rw [if_neg c22] at H
                    exact absurd H (by simp)
                · rw [if_neg c21] at H
                  exact absurd H (by simp)
  · replace c6 := Bool.eq_false_iff.mpr c6
    subst c6
    have H1 : (some ((⟨#[]⟩ : ByteArray), 0, 1)) = some (r1, r2, r3) := by rw [if_neg (show ¬ (false = true) by decide)] at H; exact H
    clear H
    have H := H1
    clear H1
    simp only [Option.some.injEq, Prod.mk.injEq] at H
    obtain ⟨rfl, rfl, rfl⟩ := H
    go_enter Tryd.func15, Tryd.ntmps15
    go_wp2_with (first | ((with_reducible refine gate_callee (f := 30) rfl ?_); refine goesL_ (some 17) rfl rfl Tryd.func30 (by kernel_rfl) rfl #[.string a0, .int .i64 a1] rfl (by (try simp only [List.map_toArray, List.map_cons, List.map_nil]); first | done | rfl | (simp only [List.length_drop, List.length_take]; rfl)) ?_; (with_reducible refine (calamusref03_Place.calls a0 a1 false _ A5.out).mono ?_); rintro e w38 ⟨rfl, hb⟩; refine ⟨_, rfl, ?_⟩; have n0_ := Aside0.mk (below_step (by repeat (first | (with_reducible first | exact HB.out | apply below_alloc | apply pw_below_drewN | apply below_drew1) | exact HB.out)) hb); clear HB; have HB := n0_; clear n0_; (try clear hb); (try clear hb2); (try clear hk); (try clear hi)))
    go_ret3
    exact ⟨by first | rfl | (simp [errW_none, errW_some] <;> rfl) | (simp [*, errW_none, errW_some] <;> rfl), by repeat (first | (with_reducible first | exact HB.out | apply below_alloc | apply pw_below_drewN | apply below_drew1) | exact HB.out)⟩

/-! ### calamuslaw24_PasteOver -/
def calamuslaw24_PasteOver.f (k : Nat) (a0 : ByteArray) (a1 : Int) (a2 : ByteArray) (a3 : Int) : Option (Bool) := if (a0.size : Int) > 500 then ((calamuslaw24_lives.f k).bind fun t245 => (some t245)) else ((paste_Flip.f k a0 a1 a3).bind fun bt246 => ((calamusref24_Flip.f k a0 a1 a3).bind fun bt249 => ((paste_Over.f k a0 a1 a2 a3).bind fun bt252 => ((calamusref24_Over.f k a0 a1 a2 a3).bind fun bt255 => (if bt246.1.toList = bt249.1.toList then (if bt246.2.1 = bt249.2.1 then (if bt246.2.2 = bt249.2.2 then (if bt252.1.toList = bt255.1.toList then (if bt252.2.1 = bt255.2.1 then (if bt252.2.2 = bt255.2.2 then ((calamuslaw24_lives.f k).bind fun t258 => (some t258)) else (some false)) else (some false)) else (some false)) else (some false)) else (some false)) else (some false))))))
theorem calamuslaw24_PasteOver.mono : ∀ a0 a1 a2 a3 k, LeO (calamuslaw24_PasteOver.f k a0 a1 a2 a3) (calamuslaw24_PasteOver.f (k + 1) a0 a1 a2 a3) := by
  intro a0 a1 a2 a3 k
  unfold calamuslaw24_PasteOver.f
  repeat' first
      | (with_reducible exact calamuslaw24_lives.mono _)
      | (with_reducible exact calamusref24_Flip.mono _ _ _ _)
      | (with_reducible exact calamusref24_Over.mono _ _ _ _ _)
      | (with_reducible exact paste_Flip.mono _ _ _ _)
      | (with_reducible exact paste_Over.mono _ _ _ _ _)
      | (with_reducible exact LeO.refl _)
      | (with_reducible exact LeO.none _)
      | (with_reducible refine LeO.ite ?_ ?_)
      | (with_reducible refine LeO.bind ?_ (fun _ => ?_))
      | exact calamuslaw24_lives.mono _
      | exact calamusref24_Flip.mono _ _ _ _
      | exact calamusref24_Over.mono _ _ _ _ _
      | exact paste_Flip.mono _ _ _ _
      | exact paste_Over.mono _ _ _ _ _
      | exact LeO.none _
      | refine LeO.ite ?_ ?_
      | refine LeO.bind ?_ (fun _ => ?_)
set_option maxHeartbeats 8000000 in
set_option maxRecDepth 100000 in
theorem calamuslaw24_PasteOver.calls (k : Nat) (a0 : ByteArray) (a1 : Int) (a2 : ByteArray) (a3 : Int) (r : Bool) (w : World) (h : calamuslaw24_PasteOver.f k a0 a1 a2 a3 = some r) :
    Calls Tryd.prog 5 #[.string a0, .int .i64 a1, .string a2, .int .i64 a3] w fun e w' => e = .returned (.bool r) ∧ Below w.heap.size w w' := by
  have HB := Aside0.mk (Below.refl w.heap.size w)
  have H : (if (a0.size : Int) > 500 then ((calamuslaw24_lives.f k).bind fun t245 => (some t245)) else ((paste_Flip.f k a0 a1 a3).bind fun bt246 => ((calamusref24_Flip.f k a0 a1 a3).bind fun bt249 => ((paste_Over.f k a0 a1 a2 a3).bind fun bt252 => ((calamusref24_Over.f k a0 a1 a2 a3).bind fun bt255 => (if bt246.1.toList = bt249.1.toList then (if bt246.2.1 = bt249.2.1 then (if bt246.2.2 = bt249.2.2 then (if bt252.1.toList = bt255.1.toList then (if bt252.2.1 = bt255.2.1 then (if bt252.2.2 = bt255.2.2 then ((calamuslaw24_lives.f k).bind fun t258 => (some t258)) else (some false)) else (some false)) else (some false)) else (some false)) else (some false)) else (some false))))))) = some r := h
  clear h
  by_cases c5 : (a0.size : Int) > 500
  · rw [if_pos c5] at H
    have c5b0 : decide (500 < (a0.size : Int)) = true := decide_eq_true c5
    have c5b1 : decide (500 < a0.size) = true := decide_eq_true (by omega)
    clear c5
    replace H := Option.bind_eq_some_iff.mp H
    obtain ⟨t245, A60, H⟩ := H
    replace H : (some t245) = some r := H
    have A6 := Aside0.mk A60
    clear A60
    obtain rfl := Option.some.inj H
    go_enter Tryd.func5, Tryd.ntmps5
    go_wp2_with (first | ((with_reducible refine gate_callee (f := 7) rfl ?_); refine goesL_ (some 24) rfl rfl Tryd.func7 (by kernel_rfl) rfl #[] rfl (by (try simp only [List.map_toArray, List.map_cons, List.map_nil]); first | done | rfl | (simp only [List.length_drop, List.length_take]; rfl)) ?_; (with_reducible refine (calamuslaw24_lives.calls k  t245 _ A6.out).mono ?_); rintro e w7 ⟨rfl, hb⟩; refine ⟨_, rfl, ?_⟩; have n0_ := Aside0.mk (below_step (by repeat (first | (with_reducible first | exact HB.out | apply below_alloc | apply pw_below_drewN | apply below_drew1) | exact HB.out)) hb); clear HB; have HB := n0_; clear n0_; (try clear hb); (try clear hb2); (try clear hk); (try clear hi)))
    go_ret
    exact ⟨by first | rfl | (simp [errW_none, errW_some] <;> rfl) | (simp [*, errW_none, errW_some] <;> rfl), by repeat (first | (with_reducible first | exact HB.out | apply below_alloc | apply pw_below_drewN | apply below_drew1) | exact HB.out)⟩
  · rw [if_neg c5] at H
    have c5b0 : decide (500 < (a0.size : Int)) = false := decide_eq_false c5
    have c5b1 : decide (500 < a0.size) = false := decide_eq_false (by omega)
    clear c5
    replace H := Option.bind_eq_some_iff.mp H
    obtain ⟨⟨t246, t247, t248⟩, A80, H⟩ := H
    replace H : ((calamusref24_Flip.f k a0 a1 a3).bind fun bt249 => ((paste_Over.f k a0 a1 a2 a3).bind fun bt252 => ((calamusref24_Over.f k a0 a1 a2 a3).bind fun bt255 => (if t246.toList = bt249.1.toList then (if t247 = bt249.2.1 then (if t248 = bt249.2.2 then (if bt252.1.toList = bt255.1.toList then (if bt252.2.1 = bt255.2.1 then (if bt252.2.2 = bt255.2.2 then ((calamuslaw24_lives.f k).bind fun t258 => (some t258)) else (some false)) else (some false)) else (some false)) else (some false)) else (some false)) else (some false))))) = some r := H
    have A8 := Aside0.mk A80
    clear A80
    replace H := Option.bind_eq_some_iff.mp H
    obtain ⟨⟨t249, t250, t251⟩, A90, H⟩ := H
    replace H : ((paste_Over.f k a0 a1 a2 a3).bind fun bt252 => ((calamusref24_Over.f k a0 a1 a2 a3).bind fun bt255 => (if t246.toList = t249.toList then (if t247 = t250 then (if t248 = t251 then (if bt252.1.toList = bt255.1.toList then (if bt252.2.1 = bt255.2.1 then (if bt252.2.2 = bt255.2.2 then ((calamuslaw24_lives.f k).bind fun t258 => (some t258)) else (some false)) else (some false)) else (some false)) else (some false)) else (some false)) else (some false)))) = some r := H
    have A9 := Aside0.mk A90
    clear A90
    replace H := Option.bind_eq_some_iff.mp H
    obtain ⟨⟨t252, t253, t254⟩, A100, H⟩ := H
    replace H : ((calamusref24_Over.f k a0 a1 a2 a3).bind fun bt255 => (if t246.toList = t249.toList then (if t247 = t250 then (if t248 = t251 then (if t252.toList = bt255.1.toList then (if t253 = bt255.2.1 then (if t254 = bt255.2.2 then ((calamuslaw24_lives.f k).bind fun t258 => (some t258)) else (some false)) else (some false)) else (some false)) else (some false)) else (some false)) else (some false))) = some r := H
    have A10 := Aside0.mk A100
    clear A100
    replace H := Option.bind_eq_some_iff.mp H
    obtain ⟨⟨t255, t256, t257⟩, A110, H⟩ := H
    replace H : (if t246.toList = t249.toList then (if t247 = t250 then (if t248 = t251 then (if t252.toList = t255.toList then (if t253 = t256 then (if t254 = t257 then ((calamuslaw24_lives.f k).bind fun t258 => (some t258)) else (some false)) else (some false)) else (some false)) else (some false)) else (some false)) else (some false)) = some r := H
    have A11 := Aside0.mk A110
    clear A110
    by_cases c12 : t246.toList = t249.toList
    · rw [if_pos c12] at H
      have c12b0 : (t246.toList == t249.toList) = true := beq_iff_eq.mpr c12
      have c12b1 : (t246.toList != t249.toList) = false := bne_eq_false_iff_eq.mpr c12
      clear c12
      by_cases c13 : t247 = t250
      · rw [if_pos c13] at H
        have c13b0 : (t247 == t250) = true := beq_iff_eq.mpr c13
        have c13b1 : (t247 != t250) = false := bne_eq_false_iff_eq.mpr c13
        clear c13
        by_cases c14 : t248 = t251
        · rw [if_pos c14] at H
          have c14b0 : (t248 == t251) = true := beq_iff_eq.mpr c14
          have c14b1 : (t248 != t251) = false := bne_eq_false_iff_eq.mpr c14
          clear c14
          by_cases c15 : t252.toList = t255.toList
          · rw [if_pos c15] at H
            have c15b0 : (t252.toList == t255.toList) = true := beq_iff_eq.mpr c15
            have c15b1 : (t252.toList != t255.toList) = false := bne_eq_false_iff_eq.mpr c15
            clear c15
            by_cases c16 : t253 = t256
            · rw [if_pos c16] at H
              have c16b0 : (t253 == t256) = true := beq_iff_eq.mpr c16
              have c16b1 : (t253 != t256) = false := bne_eq_false_iff_eq.mpr c16
              clear c16
              by_cases c17 : t254 = t257
              · rw [if_pos c17] at H
                have c17b0 : (t254 == t257) = true := beq_iff_eq.mpr c17
                have c17b1 : (t254 != t257) = false := bne_eq_false_iff_eq.mpr c17
                clear c17
                replace H := Option.bind_eq_some_iff.mp H
                obtain ⟨t258, A180, H⟩ := H
                replace H : (some t258) = some r := H
                have A18 := Aside0.mk A180
                clear A180
                obtain rfl := Option.some.inj H
                go_enter Tryd.func5, Tryd.ntmps5
                go_wp2_with (first | ((with_reducible refine gate_callee (f := 12) rfl ?_); refine goesL_ (some 29) rfl rfl Tryd.func12 (by kernel_rfl) rfl #[.string a0, .int .i64 a1, .int .i64 a3] rfl (by (try simp only [List.map_toArray, List.map_cons, List.map_nil]); first | done | rfl | (simp only [List.length_drop, List.length_take]; rfl)) ?_; (with_reducible refine (paste_Flip.calls k a0 a1 a3 t246 t247 t248 _ A8.out).mono ?_); rintro e w19 ⟨rfl, hb⟩; refine ⟨_, rfl, ?_⟩; have n0_ := Aside0.mk (below_step (by repeat (first | (with_reducible first | exact HB.out | apply below_alloc | apply pw_below_drewN | apply below_drew1) | exact HB.out)) hb); clear HB; have HB := n0_; clear n0_; (try clear hb); (try clear hb2); (try clear hk); (try clear hi)) | ((with_reducible refine gate_callee (f := 13) rfl ?_); refine goesL_ (some 37) rfl rfl Tryd.func13 (by kernel_rfl) rfl #[.string a0, .int .i64 a1, .int .i64 a3] rfl (by (try simp only [List.map_toArray, List.map_cons, List.map_nil]); first | done | rfl | (simp only [List.length_drop, List.length_take]; rfl)) ?_; (with_reducible refine (calamusref24_Flip.calls k a0 a1 a3 t249 t250 t251 _ A9.out).mono ?_); rintro e w20 ⟨rfl, hb⟩; refine ⟨_, rfl, ?_⟩; have n0_ := Aside0.mk (below_step (by repeat (first | (with_reducible first | exact HB.out | apply below_alloc | apply pw_below_drewN | apply below_drew1) | exact HB.out)) hb); clear HB; have HB := n0_; clear n0_; (try clear hb); (try clear hb2); (try clear hk); (try clear hi)) | ((with_reducible refine gate_callee (f := 14) rfl ?_); refine goesL_ (some 46) rfl rfl Tryd.func14 (by kernel_rfl) rfl #[.string a0, .int .i64 a1, .string a2, .int .i64 a3] rfl (by (try simp only [List.map_toArray, List.map_cons, List.map_nil]); first | done | rfl | (simp only [List.length_drop, List.length_take]; rfl)) ?_; (with_reducible refine (paste_Over.calls k a0 a1 a2 a3 t252 t253 t254 _ A10.out).mono ?_); rintro e w21 ⟨rfl, hb⟩; refine ⟨_, rfl, ?_⟩; have n0_ := Aside0.mk (below_step (by repeat (first | (with_reducible first | exact HB.out | apply below_alloc | apply pw_below_drewN | apply below_drew1) | exact HB.out)) hb); clear HB; have HB := n0_; clear n0_; (try clear hb); (try clear hb2); (try clear hk); (try clear hi)) | ((with_reducible refine gate_callee (f := 15) rfl ?_); refine goesL_ (some 55) rfl rfl Tryd.func15 (by kernel_rfl) rfl #[.string a0, .int .i64 a1, .string a2, .int .i64 a3] rfl (by (try simp only [List.map_toArray, List.map_cons, List.map_nil]); first | done | rfl | (simp only [List.length_drop, List.length_take]; rfl)) ?_; (with_reducible refine (calamusref24_Over.calls k a0 a1 a2 a3 t255 t256 t257 _ A11.out).mono ?_); rintro e w22 ⟨rfl, hb⟩; refine ⟨_, rfl, ?_⟩; have n0_ := Aside0.mk (below_step (by repeat (first | (with_reducible first | exact HB.out | apply below_alloc | apply pw_below_drewN | apply below_drew1) | exact HB.out)) hb); clear HB; have HB := n0_; clear n0_; (try clear hb); (try clear hb2); (try clear hk); (try clear hi)) | (go_at_call 7; (with_reducible refine (calamuslaw24_lives.calls k  t258 _ A18.out).mono ?_); rintro e w23 ⟨rfl, hb⟩; have n0_ := Aside0.mk (below_step (by repeat (first | (with_reducible first | exact HB.out | apply below_alloc | apply pw_below_drewN | apply below_drew1) | exact HB.out)) hb); clear HB; have HB := n0_; clear n0_; (try clear hb); (try clear hb2); (try clear hk); (try clear hi)))
                go_ret
                exact ⟨by first | rfl | (simp [errW_none, errW_some] <;> rfl) | (simp [*, errW_none, errW_some] <;> rfl), by repeat (first | (with_reducible first | exact HB.out | apply below_alloc | apply pw_below_drewN | apply below_drew1) | exact HB.out)⟩
              · rw [if_neg c17] at H
                have c17b0 : (t254 == t257) = false := beq_eq_false_iff_ne.mpr c17
                have c17b1 : (t254 != t257) = true := bne_iff_ne.mpr c17
                obtain rfl := Option.some.inj H
                go_enter Tryd.func5, Tryd.ntmps5
                go_wp2_with (first | ((with_reducible refine gate_callee (f := 12) rfl ?_); refine goesL_ (some 29) rfl rfl Tryd.func12 (by kernel_rfl) rfl #[.string a0, .int .i64 a1, .int .i64 a3] rfl (by (try simp only [List.map_toArray, List.map_cons, List.map_nil]); first | done | rfl | (simp only [List.length_drop, List.length_take]; rfl)) ?_; (with_reducible refine (paste_Flip.calls k a0 a1 a3 t246 t247 t248 _ A8.out).mono ?_); rintro e w24 ⟨rfl, hb⟩; refine ⟨_, rfl, ?_⟩; have n0_ := Aside0.mk (below_step (by repeat (first | (with_reducible first | exact HB.out | apply below_alloc | apply pw_below_drewN | apply below_drew1) | exact HB.out)) hb); clear HB; have HB := n0_; clear n0_; (try clear hb); (try clear hb2); (try clear hk); (try clear hi)) | ((with_reducible refine gate_callee (f := 13) rfl ?_); refine goesL_ (some 37) rfl rfl Tryd.func13 (by kernel_rfl) rfl #[.string a0, .int .i64 a1, .int .i64 a3] rfl (by (try simp only [List.map_toArray, List.map_cons, List.map_nil]); first | done | rfl | (simp only [List.length_drop, List.length_take]; rfl)) ?_; (with_reducible refine (calamusref24_Flip.calls k a0 a1 a3 t249 t250 t251 _ A9.out).mono ?_); rintro e w25 ⟨rfl, hb⟩; refine ⟨_, rfl, ?_⟩; have n0_ := Aside0.mk (below_step (by repeat (first | (with_reducible first | exact HB.out | apply below_alloc | apply pw_below_drewN | apply below_drew1) | exact HB.out)) hb); clear HB; have HB := n0_; clear n0_; (try clear hb); (try clear hb2); (try clear hk); (try clear hi)) | ((with_reducible refine gate_callee (f := 14) rfl ?_); refine goesL_ (some 46) rfl rfl Tryd.func14 (by kernel_rfl) rfl #[.string a0, .int .i64 a1, .string a2, .int .i64 a3] rfl (by (try simp only [List.map_toArray, List.map_cons, List.map_nil]); first | done | rfl | (simp only [List.length_drop, List.length_take]; rfl)) ?_; (with_reducible refine (paste_Over.calls k a0 a1 a2 a3 t252 t253 t254 _ A10.out).mono ?_); rintro e w26 ⟨rfl, hb⟩; refine ⟨_, rfl, ?_⟩; have n0_ := Aside0.mk (below_step (by repeat (first | (with_reducible first | exact HB.out | apply below_alloc | apply pw_below_drewN | apply below_drew1) | exact HB.out)) hb); clear HB; have HB := n0_; clear n0_; (try clear hb); (try clear hb2); (try clear hk); (try clear hi)) | ((with_reducible refine gate_callee (f := 15) rfl ?_); refine goesL_ (some 55) rfl rfl Tryd.func15 (by kernel_rfl) rfl #[.string a0, .int .i64 a1, .string a2, .int .i64 a3] rfl (by (try simp only [List.map_toArray, List.map_cons, List.map_nil]); first | done | rfl | (simp only [List.length_drop, List.length_take]; rfl)) ?_; (with_reducible refine (calamusref24_Over.calls k a0 a1 a2 a3 t255 t256 t257 _ A11.out).mono ?_); rintro e w27 ⟨rfl, hb⟩; refine ⟨_, rfl, ?_⟩; have n0_ := Aside0.mk (below_step (by repeat (first | (with_reducible first | exact HB.out | apply below_alloc | apply pw_below_drewN | apply below_drew1) | exact HB.out)) hb); clear HB; have HB := n0_; clear n0_; (try clear hb); (try clear hb2); (try clear hk); (try clear hi)))
                go_ret
                exact ⟨by first | rfl | (simp [errW_none, errW_some] <;> rfl) | (simp [*, errW_none, errW_some] <;> rfl), by repeat (first | (with_reducible first | exact HB.out | apply below_alloc | apply pw_below_drewN | apply below_drew1) | exact HB.out)⟩
            · rw [if_neg c16] at H
              have c16b0 : (t253 == t256) = false := beq_eq_false_iff_ne.mpr c16
              have c16b1 : (t253 != t256) = true := bne_iff_ne.mpr c16
              obtain rfl := Option.some.inj H
              go_enter Tryd.func5, Tryd.ntmps5
              go_wp2_with (first | ((with_reducible refine gate_callee (f := 12) rfl ?_); refine goesL_ (some 29) rfl rfl Tryd.func12 (by kernel_rfl) rfl #[.string a0, .int .i64 a1, .int .i64 a3] rfl (by (try simp only [List.map_toArray, List.map_cons, List.map_nil]); first | done | rfl | (simp only [List.length_drop, List.length_take]; rfl)) ?_; (with_reducible refine (paste_Flip.calls k a0 a1 a3 t246 t247 t248 _ A8.out).mono ?_); rintro e w28 ⟨rfl, hb⟩; refine ⟨_, rfl, ?_⟩; have n0_ := Aside0.mk (below_step (by repeat (first | (with_reducible first | exact HB.out | apply below_alloc | apply pw_below_drewN | apply below_drew1) | exact HB.out)) hb); clear HB; have HB := n0_; clear n0_; (try clear hb); (try clear hb2); (try clear hk); (try clear hi)) | ((with_reducible refine gate_callee (f := 13) rfl ?_); refine goesL_ (some 37) rfl rfl Tryd.func13 (by kernel_rfl) rfl #[.string a0, .int .i64 a1, .int .i64 a3] rfl (by (try simp only [List.map_toArray, List.map_cons, List.map_nil]); first | done | rfl | (simp only [List.length_drop, List.length_take]; rfl)) ?_; (with_reducible refine (calamusref24_Flip.calls k a0 a1 a3 t249 t250 t251 _ A9.out).mono ?_); rintro e w29 ⟨rfl, hb⟩; refine ⟨_, rfl, ?_⟩; have n0_ := Aside0.mk (below_step (by repeat (first | (with_reducible first | exact HB.out | apply below_alloc | apply pw_below_drewN | apply below_drew1) | exact HB.out)) hb); clear HB; have HB := n0_; clear n0_; (try clear hb); (try clear hb2); (try clear hk); (try clear hi)) | ((with_reducible refine gate_callee (f := 14) rfl ?_); refine goesL_ (some 46) rfl rfl Tryd.func14 (by kernel_rfl) rfl #[.string a0, .int .i64 a1, .string a2, .int .i64 a3] rfl (by (try simp only [List.map_toArray, List.map_cons, List.map_nil]); first | done | rfl | (simp only [List.length_drop, List.length_take]; rfl)) ?_; (with_reducible refine (paste_Over.calls k a0 a1 a2 a3 t252 t253 t254 _ A10.out).mono ?_); rintro e w30 ⟨rfl, hb⟩; refine ⟨_, rfl, ?_⟩; have n0_ := Aside0.mk (below_step (by repeat (first | (with_reducible first | exact HB.out | apply below_alloc | apply pw_below_drewN | apply below_drew1) | exact HB.out)) hb); clear HB; have HB := n0_; clear n0_; (try clear hb); (try clear hb2); (try clear hk); (try clear hi)) | ((with_reducible refine gate_callee (f := 15) rfl ?_); refine goesL_ (some 55) rfl rfl Tryd.func15 (by kernel_rfl) rfl #[.string a0, .int .i64 a1, .string a2, .int .i64 a3] rfl (by (try simp only [List.map_toArray, List.map_cons, List.map_nil]); first | done | rfl | (simp only [List.length_drop, List.length_take]; rfl)) ?_; (with_reducible refine (calamusref24_Over.calls k a0 a1 a2 a3 t255 t256 t257 _ A11.out).mono ?_); rintro e w31 ⟨rfl, hb⟩; refine ⟨_, rfl, ?_⟩; have n0_ := Aside0.mk (below_step (by repeat (first | (with_reducible first | exact HB.out | apply below_alloc | apply pw_below_drewN | apply below_drew1) | exact HB.out)) hb); clear HB; have HB := n0_; clear n0_; (try clear hb); (try clear hb2); (try clear hk); (try clear hi)))
              go_ret
              exact ⟨by first | rfl | (simp [errW_none, errW_some] <;> rfl) | (simp [*, errW_none, errW_some] <;> rfl), by repeat (first | (with_reducible first | exact HB.out | apply below_alloc | apply pw_below_drewN | apply below_drew1) | exact HB.out)⟩
          · rw [if_neg c15] at H
            have c15b0 : (t252.toList == t255.toList) = false := beq_eq_false_iff_ne.mpr c15
            have c15b1 : (t252.toList != t255.toList) = true := bne_iff_ne.mpr c15
            obtain rfl := Option.some.inj H
            go_enter Tryd.func5, Tryd.ntmps5
            go_wp2_with (first | ((with_reducible refine gate_callee (f := 12) rfl ?_); refine goesL_ (some 29) rfl rfl Tryd.func12 (by kernel_rfl) rfl #[.string a0, .int .i64 a1, .int .i64 a3] rfl (by (try simp only [List.map_toArray, List.map_cons, List.map_nil]); first | done | rfl | (simp only [List.length_drop, List.length_take]; rfl)) ?_; (with_reducible refine (paste_Flip.calls k a0 a1 a3 t246 t247 t248 _ A8.out).mono ?_); rintro e w32 ⟨rfl, hb⟩; refine ⟨_, rfl, ?_⟩; have n0_ := Aside0.mk (below_step (by repeat (first | (with_reducible first | exact HB.out | apply below_alloc | apply pw_below_drewN | apply below_drew1) | exact HB.out)) hb); clear HB; have HB := n0_; clear n0_; (try clear hb); (try clear hb2); (try clear hk); (try clear hi)) | ((with_reducible refine gate_callee (f := 13) rfl ?_); refine goesL_ (some 37) rfl rfl Tryd.func13 (by kernel_rfl) rfl #[.string a0, .int .i64 a1, .int .i64 a3] rfl (by (try simp only [List.map_toArray, List.map_cons, List.map_nil]); first | done | rfl | (simp only [List.length_drop, List.length_take]; rfl)) ?_; (with_reducible refine (calamusref24_Flip.calls k a0 a1 a3 t249 t250 t251 _ A9.out).mono ?_); rintro e w33 ⟨rfl, hb⟩; refine ⟨_, rfl, ?_⟩; have n0_ := Aside0.mk (below_step (by repeat (first | (with_reducible first | exact HB.out | apply below_alloc | apply pw_below_drewN | apply below_drew1) | exact HB.out)) hb); clear HB; have HB := n0_; clear n0_; (try clear hb); (try clear hb2); (try clear hk); (try clear hi)) | ((with_reducible refine gate_callee (f := 14) rfl ?_); refine goesL_ (some 46) rfl rfl Tryd.func14 (by kernel_rfl) rfl #[.string a0, .int .i64 a1, .string a2, .int .i64 a3] rfl (by (try simp only [List.map_toArray, List.map_cons, List.map_nil]); first | done | rfl | (simp only [List.length_drop, List.length_take]; rfl)) ?_; (with_reducible refine (paste_Over.calls k a0 a1 a2 a3 t252 t253 t254 _ A10.out).mono ?_); rintro e w34 ⟨rfl, hb⟩; refine ⟨_, rfl, ?_⟩; have n0_ := Aside0.mk (below_step (by repeat (first | (with_reducible first | exact HB.out | apply below_alloc | apply pw_below_drewN | apply below_drew1) | exact HB.out)) hb); clear HB; have HB := n0_; clear n0_; (try clear hb); (try clear hb2); (try clear hk); (try clear hi)) | ((with_reducible refine gate_callee (f := 15) rfl ?_); refine goesL_ (some 55) rfl rfl Tryd.func15 (by kernel_rfl) rfl #[.string a0, .int .i64 a1, .string a2, .int .i64 a3] rfl (by (try simp only [List.map_toArray, List.map_cons, List.map_nil]); first | done | rfl | (simp only [List.length_drop, List.length_take]; rfl)) ?_; (with_reducible refine (calamusref24_Over.calls k a0 a1 a2 a3 t255 t256 t257 _ A11.out).mono ?_); rintro e w35 ⟨rfl, hb⟩; refine ⟨_, rfl, ?_⟩; have n0_ := Aside0.mk (below_step (by repeat (first | (with_reducible first | exact HB.out | apply below_alloc | apply pw_below_drewN | apply below_drew1) | exact HB.out)) hb); clear HB; have HB := n0_; clear n0_; (try clear hb); (try clear hb2); (try clear hk); (try clear hi)))
            go_ret
            exact ⟨by first | rfl | (simp [errW_none, errW_some] <;> rfl) | (simp [*, errW_none, errW_some] <;> rfl), by repeat (first | (with_reducible first | exact HB.out | apply below_alloc | apply pw_below_drewN | apply below_drew1) | exact HB.out)⟩
        · rw [if_neg c14] at H
          have c14b0 : (t248 == t251) = false := beq_eq_false_iff_ne.mpr c14
          have c14b1 : (t248 != t251) = true := bne_iff_ne.mpr c14
          obtain rfl := Option.some.inj H
          go_enter Tryd.func5, Tryd.ntmps5
          go_wp2_with (first | ((with_reducible refine gate_callee (f := 12) rfl ?_); refine goesL_ (some 29) rfl rfl Tryd.func12 (by kernel_rfl) rfl #[.string a0, .int .i64 a1, .int .i64 a3] rfl (by (try simp only [List.map_toArray, List.map_cons, List.map_nil]); first | done | rfl | (simp only [List.length_drop, List.length_take]; rfl)) ?_; (with_reducible refine (paste_Flip.calls k a0 a1 a3 t246 t247 t248 _ A8.out).mono ?_); rintro e w36 ⟨rfl, hb⟩; refine ⟨_, rfl, ?_⟩; have n0_ := Aside0.mk (below_step (by repeat (first | (with_reducible first | exact HB.out | apply below_alloc | apply pw_below_drewN | apply below_drew1) | exact HB.out)) hb); clear HB; have HB := n0_; clear n0_; (try clear hb); (try clear hb2); (try clear hk); (try clear hi)) | ((with_reducible refine gate_callee (f := 13) rfl ?_); refine goesL_ (some 37) rfl rfl Tryd.func13 (by kernel_rfl) rfl #[.string a0, .int .i64 a1, .int .i64 a3] rfl (by (try simp only [List.map_toArray, List.map_cons, List.map_nil]); first | done | rfl | (simp only [List.length_drop, List.length_take]; rfl)) ?_; (with_reducible refine (calamusref24_Flip.calls k a0 a1 a3 t249 t250 t251 _ A9.out).mono ?_); rintro e w37 ⟨rfl, hb⟩; refine ⟨_, rfl, ?_⟩; have n0_ := Aside0.mk (below_step (by repeat (first | (with_reducible first | exact HB.out | apply below_alloc | apply pw_below_drewN | apply below_drew1) | exact HB.out)) hb); clear HB; have HB := n0_; clear n0_; (try clear hb); (try clear hb2); (try clear hk); (try clear hi)) | ((with_reducible refine gate_callee (f := 14) rfl ?_); refine goesL_ (some 46) rfl rfl Tryd.func14 (by kernel_rfl) rfl #[.string a0, .int .i64 a1, .string a2, .int .i64 a3] rfl (by (try simp only [List.map_toArray, List.map_cons, List.map_nil]); first | done | rfl | (simp only [List.length_drop, List.length_take]; rfl)) ?_; (with_reducible refine (paste_Over.calls k a0 a1 a2 a3 t252 t253 t254 _ A10.out).mono ?_); rintro e w38 ⟨rfl, hb⟩; refine ⟨_, rfl, ?_⟩; have n0_ := Aside0.mk (below_step (by repeat (first | (with_reducible first | exact HB.out | apply below_alloc | apply pw_below_drewN | apply below_drew1) | exact HB.out)) hb); clear HB; have HB := n0_; clear n0_; (try clear hb); (try clear hb2); (try clear hk); (try clear hi)) | ((with_reducible refine gate_callee (f := 15) rfl ?_); refine goesL_ (some 55) rfl rfl Tryd.func15 (by kernel_rfl) rfl #[.string a0, .int .i64 a1, .string a2, .int .i64 a3] rfl (by (try simp only [List.map_toArray, List.map_cons, List.map_nil]); first | done | rfl | (simp only [List.length_drop, List.length_take]; rfl)) ?_; (with_reducible refine (calamusref24_Over.calls k a0 a1 a2 a3 t255 t256 t257 _ A11.out).mono ?_); rintro e w39 ⟨rfl, hb⟩; refine ⟨_, rfl, ?_⟩; have n0_ := Aside0.mk (below_step (by repeat (first | (with_reducible first | exact HB.out | apply below_alloc | apply pw_below_drewN | apply below_drew1) | exact HB.out)) hb); clear HB; have HB := n0_; clear n0_; (try clear hb); (try clear hb2); (try clear hk); (try clear hi)))
          go_ret
          exact ⟨by first | rfl | (simp [errW_none, errW_some] <;> rfl) | (simp [*, errW_none, errW_some] <;> rfl), by repeat (first | (with_reducible first | exact HB.out | apply below_alloc | apply pw_below_drewN | apply below_drew1) | exact HB.out)⟩
      · rw [if_neg c13] at H
        have c13b0 : (t247 == t250) = false := beq_eq_false_iff_ne.mpr c13
        have c13b1 : (t247 != t250) = true := bne_iff_ne.mpr c13
        obtain rfl := Option.some.inj H
        go_enter Tryd.func5, Tryd.ntmps5
        go_wp2_with (first | ((with_reducible refine gate_callee (f := 12) rfl ?_); refine goesL_ (some 29) rfl rfl Tryd.func12 (by kernel_rfl) rfl #[.string a0, .int .i64 a1, .int .i64 a3] rfl (by (try simp only [List.map_toArray, List.map_cons, List.map_nil]); first | done | rfl | (simp only [List.length_drop, List.length_take]; rfl)) ?_; (with_reducible refine (paste_Flip.calls k a0 a1 a3 t246 t247 t248 _ A8.out).mono ?_); rintro e w40 ⟨rfl, hb⟩; refine ⟨_, rfl, ?_⟩; have n0_ := Aside0.mk (below_step (by repeat (first | (with_reducible first | exact HB.out | apply below_alloc | apply pw_below_drewN | apply below_drew1) | exact HB.out)) hb); clear HB; have HB := n0_; clear n0_; (try clear hb); (try clear hb2); (try clear hk); (try clear hi)) | ((with_reducible refine gate_callee (f := 13) rfl ?_); refine goesL_ (some 37) rfl rfl Tryd.func13 (by kernel_rfl) rfl #[.string a0, .int .i64 a1, .int .i64 a3] rfl (by (try simp only [List.map_toArray, List.map_cons, List.map_nil]); first | done | rfl | (simp only [List.length_drop, List.length_take]; rfl)) ?_; (with_reducible refine (calamusref24_Flip.calls k a0 a1 a3 t249 t250 t251 _ A9.out).mono ?_); rintro e w41 ⟨rfl, hb⟩; refine ⟨_, rfl, ?_⟩; have n0_ := Aside0.mk (below_step (by repeat (first | (with_reducible first | exact HB.out | apply below_alloc | apply pw_below_drewN | apply below_drew1) | exact HB.out)) hb); clear HB; have HB := n0_; clear n0_; (try clear hb); (try clear hb2); (try clear hk); (try clear hi)) | ((with_reducible refine gate_callee (f := 14) rfl ?_); refine goesL_ (some 46) rfl rfl Tryd.func14 (by kernel_rfl) rfl #[.string a0, .int .i64 a1, .string a2, .int .i64 a3] rfl (by (try simp only [List.map_toArray, List.map_cons, List.map_nil]); first | done | rfl | (simp only [List.length_drop, List.length_take]; rfl)) ?_; (with_reducible refine (paste_Over.calls k a0 a1 a2 a3 t252 t253 t254 _ A10.out).mono ?_); rintro e w42 ⟨rfl, hb⟩; refine ⟨_, rfl, ?_⟩; have n0_ := Aside0.mk (below_step (by repeat (first | (with_reducible first | exact HB.out | apply below_alloc | apply pw_below_drewN | apply below_drew1) | exact HB.out)) hb); clear HB; have HB := n0_; clear n0_; (try clear hb); (try clear hb2); (try clear hk); (try clear hi)) | ((with_reducible refine gate_callee (f := 15) rfl ?_); refine goesL_ (some 55) rfl rfl Tryd.func15 (by kernel_rfl) rfl #[.string a0, .int .i64 a1, .string a2, .int .i64 a3] rfl (by (try simp only [List.map_toArray, List.map_cons, List.map_nil]); first | done | rfl | (simp only [List.length_drop, List.length_take]; rfl)) ?_; (with_reducible refine (calamusref24_Over.calls k a0 a1 a2 a3 t255 t256 t257 _ A11.out).mono ?_); rintro e w43 ⟨rfl, hb⟩; refine ⟨_, rfl, ?_⟩; have n0_ := Aside0.mk (below_step (by repeat (first | (with_reducible first | exact HB.out | apply below_alloc | apply pw_below_drewN | apply below_drew1) | exact HB.out)) hb); clear HB; have HB := n0_; clear n0_; (try clear hb); (try clear hb2); (try clear hk); (try clear hi)))
        go_ret
        exact ⟨by first | rfl | (simp [errW_none, errW_some] <;> rfl) | (simp [*, errW_none, errW_some] <;> rfl), by repeat (first | (with_reducible first | exact HB.out | apply below_alloc | apply pw_below_drewN | apply below_drew1) | exact HB.out)⟩
    · rw [if_neg c12] at H
      have c12b0 : (t246.toList == t249.toList) = false := beq_eq_false_iff_ne.mpr c12
      have c12b1 : (t246.toList != t249.toList) = true := bne_iff_ne.mpr c12
      obtain rfl := Option.some.inj H
      go_enter Tryd.func5, Tryd.ntmps5
      go_wp2_with (first | ((with_reducible refine gate_callee (f := 12) rfl ?_); refine goesL_ (some 29) rfl rfl Tryd.func12 (by kernel_rfl) rfl #[.string a0, .int .i64 a1, .int .i64 a3] rfl (by (try simp only [List.map_toArray, List.map_cons, List.map_nil]); first | done | rfl | (simp only [List.length_drop, List.length_take]; rfl)) ?_; (with_reducible refine (paste_Flip.calls k a0 a1 a3 t246 t247 t248 _ A8.out).mono ?_); rintro e w44 ⟨rfl, hb⟩; refine ⟨_, rfl, ?_⟩; have n0_ := Aside0.mk (below_step (by repeat (first | (with_reducible first | exact HB.out | apply below_alloc | apply pw_below_drewN | apply below_drew1) | exact HB.out)) hb); clear HB; have HB := n0_; clear n0_; (try clear hb); (try clear hb2); (try clear hk); (try clear hi)) | ((with_reducible refine gate_callee (f := 13) rfl ?_); refine goesL_ (some 37) rfl rfl Tryd.func13 (by kernel_rfl) rfl #[.string a0, .int .i64 a1, .int .i64 a3] rfl (by (try simp only [List.map_toArray, List.map_cons, List.map_nil]); first | done | rfl | (simp only [List.length_drop, List.length_take]; rfl)) ?_; (with_reducible refine (calamusref24_Flip.calls k a0 a1 a3 t249 t250 t251 _ A9.out).mono ?_); rintro e w45 ⟨rfl, hb⟩; refine ⟨_, rfl, ?_⟩; have n0_ := Aside0.mk (below_step (by repeat (first | (with_reducible first | exact HB.out | apply below_alloc | apply pw_below_drewN | apply below_drew1) | exact HB.out)) hb); clear HB; have HB := n0_; clear n0_; (try clear hb); (try clear hb2); (try clear hk); (try clear hi)) | ((with_reducible refine gate_callee (f := 14) rfl ?_); refine goesL_ (some 46) rfl rfl Tryd.func14 (by kernel_rfl) rfl #[.string a0, .int .i64 a1, .string a2, .int .i64 a3] rfl (by (try simp only [List.map_toArray, List.map_cons, List.map_nil]); first | done | rfl | (simp only [List.length_drop, List.length_take]; rfl)) ?_; (with_reducible refine (paste_Over.calls k a0 a1 a2 a3 t252 t253 t254 _ A10.out).mono ?_); rintro e w46 ⟨rfl, hb⟩; refine ⟨_, rfl, ?_⟩; have n0_ := Aside0.mk (below_step (by repeat (first | (with_reducible first | exact HB.out | apply below_alloc | apply pw_below_drewN | apply below_drew1) | exact HB.out)) hb); clear HB; have HB := n0_; clear n0_; (try clear hb); (try clear hb2); (try clear hk); (try clear hi)) | ((with_reducible refine gate_callee (f := 15) rfl ?_); refine goesL_ (some 55) rfl rfl Tryd.func15 (by kernel_rfl) rfl #[.string a0, .int .i64 a1, .string a2, .int .i64 a3] rfl (by (try simp only [List.map_toArray, List.map_cons, List.map_nil]); first | done | rfl | (simp only [List.length_drop, List.length_take]; rfl)) ?_; (with_reducible refine (calamusref24_Over.calls k a0 a1 a2 a3 t255 t256 t257 _ A11.out).mono ?_); rintro e w47 ⟨rfl, hb⟩; refine ⟨_, rfl, ?_⟩; have n0_ := Aside0.mk (below_step (by repeat (first | (with_reducible first | exact HB.out | apply below_alloc | apply pw_below_drewN | apply below_drew1) | exact HB.out)) hb); clear HB; have HB := n0_; clear n0_; (try clear hb); (try clear hb2); (try clear hk); (try clear hi)))
      go_ret
      exact ⟨by first | rfl | (simp [errW_none, errW_some] <;> rfl) | (simp [*, errW_none, errW_some] <;> rfl), by repeat (first | (with_reducible first | exact HB.out | apply below_alloc | apply pw_below_drewN | apply below_drew1) | exact HB.out)⟩

def calamuslaw24_PasteOver.Pure : Prop := ∀ (a0 : ByteArray) (a1 : Int) (a2 : ByteArray) (a3 : Int), a0.size ≤ 140737488351232 → (Lit.int .i64 a1).wf = true → a2.size ≤ 140737488351232 → (Lit.int .i64 a3).wf = true → ∃ k, calamuslaw24_PasteOver.f k a0 a1 a2 a3 = some true
theorem calamuslaw24_PasteOver.walk (P : calamuslaw24_PasteOver.Pure) (a0 : ByteArray) (a1 : Int) (a2 : ByteArray) (a3 : Int) (w : World) (w0 : a0.size ≤ 140737488351232) (w1 : (Lit.int .i64 a1).wf = true) (w2 : a2.size ≤ 140737488351232) (w3 : (Lit.int .i64 a3).wf = true) :
    Calls Tryd.prog 5 #[.string a0, .int .i64 a1, .string a2, .int .i64 a3] w fun e w' => e = .returned (.bool true) ∧ Below w.heap.size w w' := by
  obtain ⟨k, h⟩ := P a0 a1 a2 a3 w0 w1 w2 w3
  refine (calamuslaw24_PasteOver.calls k a0 a1 a2 a3 true w h).mono ?_
  rintro e w' ⟨rfl, hd⟩
  exact ⟨rfl, hd⟩



end Go.Proofs.YtckfdehendifoaaDoor.QP
