/- The contract of look.All: an iterator's values, collected. -/
import Derived.Test.YthjlhbblflmajaaL0
import Derived.Test.YthjlhbblflmajaaMO
import Derived.Test.YthjlhbblflmajaaXU
import Derived.Test.YthjlhbblflmajaaSl
import Derived.Test.YthjlhbblflmajaaPE
import Derived.Test.YthjlhbblflmajaaWWords
import Derived.RangeFuncBox
import Derived.Sort.QuietIn
import Derived.Maps.AppendAt
namespace Go.Proofs.Ythjlhbblflmajaa
open Go.RowKit
set_option linter.unusedVariables false
set_option linter.unusedSimpArgs false
open Go.Shelf Go.Proofs.YthjlhbblflmajaaW
attribute [local go_sem] Oper.semAt_some

/-- The library's own number that strings.Index looks at. -/
def MaxLen (w : World) : Prop := ∃ m : Int, w.cell? ⟨0, 0, none⟩ = some (.int .i64 m)
theorem MaxLen.below {w w' : World} (h : MaxLen w) (hb : Below w.heap.size w w') : MaxLen w' := by
  obtain ⟨m, h⟩ := h
  exact ⟨m, by rw [Below.cell hb (World.block_lt_of_cell? w _ h)]; exact h⟩
theorem MaxLen.drewN {w : World} (h : MaxLen w) (n : Nat) : MaxLen (w.drewN n) := by
  obtain ⟨m, h⟩ := h
  exact ⟨m, by simpa using h⟩
theorem index_any (s p : ByteArray) (hs : s.size < 4294967281) (w : World) (h : MaxLen w) : Calls Try.prog 70 #[.string s, .string p] w fun e w' => e = .returned (.int .i64 (Lib.index (ls s) (ls p))) ∧ w' = w := by
  obtain ⟨m, h⟩ := h
  exact Try.strings_Index s p m w hs h

def encI (x : Nat) : Array Value := #[.int .i64 x]

set_option maxHeartbeats 4000000 in
set_option maxRecDepth 100000 in
theorem each1_c (n : Nat) (hn : 2 ≤ n) (l B C : Nat) (s p : ByteArray) (hs : s.size ≤ 1000000000) (hp0 : 0 < p.size) (J Jx : List Nat → World → Prop)
    (hY : ∀ pre x W, J pre W → pre.length < (occF (ls s) (ls p) 0).length → YieldAt Fence.wide (n - 1) Try.prog l (encI x) W fun e W' =>
      (e = .returned (.bool true) ∧ J (pre ++ [x]) W' ∧ (KeepC B W W' ∧ KeepC C W W' ∧ KeepC 0 W W')) ∨ (e = .returned (.bool false) ∧ Jx (pre ++ [x]) W'))
    (hJd : ∀ pre W m, J pre W → J pre (W.drewN m))
    (W : World) (hM : MaxLen W) (hB : W.cell? ⟨B, 0, none⟩ = some (.string s)) (hC : W.cell? ⟨C, 0, none⟩ = some (.string p)) (h0 : J [] W) :
    CallsIn Fence.wide n Try.prog 69 #[.func (.yield l) #[] #[], .pointer (some ⟨B, 0, none⟩), .pointer (some ⟨C, 0, none⟩)] W fun e W' => (∃ v, e = .returned v) ∧
      ((∃ ys, ys = occF (ls s) (ls p) 0 ∧ J ys W') ∨ (∃ pre, pre <+: occF (ls s) (ls p) 0 ∧ Jx pre W')) := by
  refine callsIn_of_wp Try.func69 rfl trivial ?_ rfl
  simp only [Try.ntmps69, List.size_toArray, List.length_cons, List.length_nil, Nat.reduceAdd, Nat.reduceSub, Array.replicate_succ, Array.replicate_zero, List.push_toArray, List.append_toArray, List.nil_append, List.cons_append]
  gi_wp2
  gi_loopw [4] (fun q wr => ∃ (i : Nat) (pre : List Nat), q = .int .i64 i ∧ i ≤ s.size ∧ occF (ls s) (ls p) 0 = pre ++ occF (ls s) (ls p) i ∧ J pre wr ∧ MaxLen wr ∧ wr.cell? ⟨B, 0, none⟩ = some (.string s) ∧ wr.cell? ⟨C, 0, none⟩ = some (.string p))
    (fun q _ => s.size + 1 - (intOf q).toNat)
  case atStart => exact ⟨0, [], rfl, by omega, by simp, h0, hM, hB, hC⟩
  case round =>
    obtain ⟨i, pre, rfl, hi, hpre, hJ, hM, hc, hd⟩ := hrel
    have Hpre := Lib.hid hpre
    have HM := Lib.hid hM
    clear hpre hM
    have hix : ls (s.extract i s.size) = (ls s).drop i := ls_ext s i
    have hge := Lib.index_ge ((ls s).drop i) (ls p)
    by_cases hneg : Lib.index ((ls s).drop i) (ls p) < 0
    · have hlast := occF_none (l := ls s) (p := ls p) (i := i) (by rw [ls_len]; exact hi) hneg
      have hm1 : Lib.index (ls (s.extract i s.size)) (ls p) = -1 := by rw [hix]; omega
      have hall : occF (ls s) (ls p) 0 = pre := by rw [Hpre.out, hlast, List.append_nil]
      have Hall := Lib.hid hall
      clear hall hlast hneg hge hix
      gi_wp2
      (refine wpIn_region_quiet_lit rfl (by kernel_rfl) (by kernel_rfl) ?_; (repeat (gi_big_quiet_step (fail))); (refine wpQuietIn_step (fun _ _ _ _ => trivial) (fun K hK => ?_)); go_simp; apply Exists.intro; refine ⟨fun _ => ?_, hK _ ?_⟩; (focus (refine ⟨fun _ => by omega, ?_⟩; gi_at_call 70; exact CallsIn.quiet_of_same (callsIn_wide.2 (index_any _ _ (by simp; omega) _ (HM.out.drewN _))))); clear hK K; (repeat (gi_big_quiet_step (fail))); refine wpQuietIn_nil ?_; intro _ hw'; obtain ⟨nq, hw''⟩ := hw'; subst hw'')
      rw [hm1]
      gi_wp2
      refine bodyPost_ret (results_none rfl _ _ _) rfl ?_
      exact ⟨⟨_, rfl⟩, .inl ⟨_, Hall.out.symm, hJd _ _ _ hJ⟩⟩
    · obtain ⟨m, hm⟩ : ∃ m : Nat, Lib.index ((ls s).drop i) (ls p) = m := ⟨(Lib.index ((ls s).drop i) (ls p)).toNat, by omega⟩
      obtain ⟨h1, h2⟩ := occF_next (l := ls s) (p := ls p) (i := i) (by rw [ls_len]; exact hi) hm
      rw [ls_len, ls_len] at h2
      have hm1 : Lib.index (ls (s.extract i s.size)) (ls p) = m := by rw [hix]; exact hm
      have H1 := Lib.hid h1
      clear h1 hm hneg hge hix
      gi_wp2
      (refine wpIn_region_quiet_lit rfl (by kernel_rfl) (by kernel_rfl) ?_; (repeat (gi_big_quiet_step (fail))); (refine wpQuietIn_step (fun _ _ _ _ => trivial) (fun K hK => ?_)); go_simp; apply Exists.intro; refine ⟨fun _ => ?_, hK _ ?_⟩; (focus (refine ⟨fun _ => by omega, ?_⟩; gi_at_call 70; exact CallsIn.quiet_of_same (callsIn_wide.2 (index_any _ _ (by simp; omega) _ (HM.out.drewN _))))); clear hK K; (repeat (gi_big_quiet_step (fail))); refine wpQuietIn_nil ?_; intro _ hw'; obtain ⟨nq, hw''⟩ := hw'; subst hw'')
      rw [hm1]
      clear hm1
      obtain ⟨fn, tmps, assign, body, hy, hR⟩ := hY pre (i + m) (wr.drewN nq) (hJd _ _ _ hJ) (by rw [Hpre.out, H1.out]; simp)
      dsimp only [encI] at hy
      simp only [Int.natCast_add] at hy
      gi_wp2
      refine ⟨fun _ => by omega, hR.mono ?_⟩
      rintro e W3 (⟨rfl, hJ3, hk3, hk4, hk5⟩ | ⟨rfl, hJx3⟩)
      · have hc3 := hk3 (.string s) (by simpa using hc)
        have hd3 := hk4 (.string p) (by simpa using hd)
        have hM3 : MaxLen W3 := by obtain ⟨q, hq⟩ := HM.out.drewN nq; exact ⟨q, hk5 _ hq⟩
        gi_wp2
        go_roundw
        case rel => exact ⟨i + m + 1, pre ++ [i + m], by go_num, by omega, by rw [Hpre.out, H1.out]; simp, hJ3, hM3, hc3, hd3⟩
        case measure => simp [intOf]; omega
      · gi_wp2
        refine bodyPost_ret (results_none rfl _ _ _) rfl ?_
        exact ⟨⟨_, rfl⟩, .inr ⟨_, ⟨occF (ls s) (ls p) (i + m + 1), by rw [Hpre.out, H1.out]; simp⟩, hJx3⟩⟩

theorem grownBy_drewN (W : World) (m : Nat) : W.grownBy (W.drewN m) none := by
  have h := (Ext.drewN (Ext.refl W) m)
  exact ⟨h.os, h.tape, h.output, h.size, fun k hk _ => Below.block h k hk⟩
def KeepL (B C : Nat) (W W' : World) : Prop := KeepC B W W' ∧ KeepC C W W' ∧ KeepC 0 W W'
theorem KeepL.t {B C : Nat} {X Y Z : World} (h : KeepL B C X Y) (k : KeepL B C Y Z) : KeepL B C X Z := ⟨h.1.t k.1, h.2.1.t k.2.1, h.2.2.t k.2.2⟩
theorem KeepL.of_ext {B C : Nat} {W W' : World} (h : Ext W W') : KeepL B C W W' := ⟨KeepC.of_ext h, KeepC.of_ext h, KeepC.of_ext h⟩
theorem each_stops (n : Nat) (hn : 2 ≤ n) (B C : Nat) (s p : ByteArray) (hs : s.size ≤ 1000000000) (hp0 : 0 < p.size) (w : World) (hM : MaxLen w) (hB : w.cell? ⟨B, 0, none⟩ = some (.string s)) (hC : w.cell? ⟨C, 0, none⟩ = some (.string p)) :
    SeqStopsK Fence.wide n Try.prog 69 #[.pointer (some ⟨B, 0, none⟩), .pointer (some ⟨C, 0, none⟩)] encI (KeepL B C) (fun ys => ys = occF (ls s) (ls p) 0) (fun pre => pre <+: occF (ls s) (ls p) 0) (occF (ls s) (ls p) 0).length w := fun l J Jx W hW hJ _ hY h0 =>
  each1_c n hn l B C s p hs hp0 J Jx hY (fun pre W m h => hJ pre W _ none h (grownBy_drewN W m) (fun r e => by cases e)) W (hM.below hW) (KeepC.of_ext hW _ hB) (KeepC.of_ext hW _ hC) h0

set_option maxHeartbeats 4000000 in
set_option maxRecDepth 100000 in
theorem each_c (s p : ByteArray) (w : World) : Calls Try.prog 53 #[.string s, .string p] w fun e w' => e = .returned (.func (.func 69) #[] #[.pointer (some ⟨w.heap.size, 0, none⟩), .pointer (some ⟨w.heap.size + 1, 0, none⟩)]) ∧ w' = (w.alloc (.cells #[.string s] 9)).alloc (.cells #[.string p] 9) := by
  go_enter Try.func53, Try.ntmps53
  go_wp2
  go_ret
  exact ⟨rfl, rfl⟩

theorem box_ne {W : World} {B : Nat} {t : TypeId} {v : Value} {row : Option Nat} (h : Boxed W B t v) (hr : ∀ r, row = some r → ∃ o : Obj, W.heap[r]? = some o ∧ o.isCells = false) : some B ≠ row := by
  intro e
  obtain ⟨o, ho, hc⟩ := hr B e.symm
  rw [show W.heap[B]? = _ from h] at ho; cases ho; cases hc
theorem keepC_of {W W' : World} {B : Nat} {t t' : TypeId} {u : Value} (h : Boxed W B t u) (h' : Boxed W' B t' u) : KeepC B W W' := fun v e => by
  rw [h.cell] at e; cases e; exact h'.cell
/-- A row of whole numbers of the call's own. -/
def RowI (base : Nat) (w : World) (v : Value) (xs : List Int) : Prop := w.ownsRow base 3 1 v xs.length (xs.map (Value.int .i64))

set_option maxHeartbeats 4000000 in
set_option maxRecDepth 100000 in
theorem all_bad (s p : ByteArray) (w : World) (hs : s.size ≤ 1000000000) (hp : p.size ≤ 1152921504606846976) (h : p.size = 0 ∨ validL (ls s) = false ∨ validL (ls p) = false) :
    Calls Try.prog 31 #[.string s, .string p] w fun e w' => ∃ v, e = .returned v ∧ RowI w.heap.size w' v (lookI (ls s) (ls p)) ∧ Ext w w' := by
  have hl : lookI (ls s) (ls p) = [] := by
    unfold lookI
    rw [if_neg]
    rintro ⟨h1, h2, h3⟩
    rcases h with h | h | h
    · exact h1 (List.length_eq_zero_iff.1 (by rw [ls_len]; exact h))
    · rw [h2] at h; cases h
    · rw [h3] at h; cases h
  rw [hl]
  clear hl
  by_cases h0 : p.size = 0
  · have he := emp_t p h0
    clear h h0
    go_enter Try.func31, Try.ntmps31
    go_wp2
    go_ret
    exact ⟨_, rfl, ⟨rfl, .inl ⟨rfl, rfl⟩⟩, (by (repeat (first | exact Ext.refl _ | exact ‹Ext _ _› | refine Ext.alloc ?_ _ | refine Ext.drew ?_ | refine Ext.drewN ?_ _ | (refine Ext.setCell ?_ (by first | omega | (simp; done) | (simp; omega)) _) | refine Ext.trans ?_ ‹Ext _ _›)))⟩
  · have he := emp_f p (by omega)
    rcases Bool.eq_false_or_eq_true (validL (ls s)) with hv | hv
    · have hv2 : validL (ls p) = false := by
        rcases h with h | h | h
        · exact absurd h h0
        · rw [hv] at h; cases h
        · exact h
      clear h h0
      go_enter Try.func31, Try.ntmps31
      go_wp2_with (first | (go_at_call 45; refine (valid_c _ _ (by omega)).mono ?_; rintro e w1 ⟨rfl, hx1⟩))
      go_ret
      exact ⟨_, rfl, ⟨rfl, .inl ⟨rfl, rfl⟩⟩, (by (repeat (first | exact Ext.refl _ | exact ‹Ext _ _› | refine Ext.alloc ?_ _ | refine Ext.drew ?_ | refine Ext.drewN ?_ _ | (refine Ext.setCell ?_ (by first | omega | (simp; done) | (simp; omega)) _) | refine Ext.trans ?_ ‹Ext _ _›)))⟩
    · clear h h0
      go_enter Try.func31, Try.ntmps31
      go_wp2_with (first | (go_at_call 45; refine (valid_c _ _ (by omega)).mono ?_; rintro e w1 ⟨rfl, hx1⟩))
      go_ret
      exact ⟨_, rfl, ⟨rfl, .inl ⟨rfl, rfl⟩⟩, (by (repeat (first | exact Ext.refl _ | exact ‹Ext _ _› | refine Ext.alloc ?_ _ | refine Ext.drew ?_ | refine Ext.drewN ?_ _ | (refine Ext.setCell ?_ (by first | omega | (simp; done) | (simp; omega)) _) | refine Ext.trans ?_ ‹Ext _ _›)))⟩

set_option maxHeartbeats 4000000 in
set_option maxRecDepth 100000 in
theorem all_ok (s p : ByteArray) (w : World) (hM : MaxLen w) (hs : s.size ≤ 1000000000) (hp : p.size ≤ 1152921504606846976) (h0 : p.size ≠ 0) (hv : validL (ls s) = true) (hv2 : validL (ls p) = true) :
    Calls Try.prog 31 #[.string s, .string p] w fun e w' => ∃ v, e = .returned v ∧ RowI w.heap.size w' v (lookI (ls s) (ls p)) ∧ Ext w w' := by
  have hl : lookI (ls s) (ls p) = (occF (ls s) (ls p) 0).map Int.ofNat := by
    unfold lookI
    rw [if_pos]
    refine ⟨fun e => h0 ?_, hv, hv2⟩
    rw [← ls_len, e]; rfl
  rw [hl]
  clear hl
  have he := emp_f p (by omega)
  have hN := occF_len (ls s) (ls p) 0
  rw [ls_len] at hN
  have Hp0 : Hid (0 < p.size) := Lib.hid (by omega)
  clear h0
  have HN := Lib.hid hN
  have HM := Lib.hid hM
  clear hN hM
  obtain ⟨i0, hi, hz0, hz1, hz2⟩ := info_parts Try.infoInt
  refine (callsIn_wide (n := 5)).1 ?_
  refine callsIn_of_wp_marks Try.func31 rfl trivial ?_ rfl
  simp only [Try.ntmps31, List.size_toArray, List.length_cons, List.length_nil, Nat.reduceAdd, Nat.reduceSub, Array.replicate_succ, Array.replicate_zero, List.push_toArray, List.append_toArray, List.nil_append, List.cons_append]
  gi_wp2_with (first | ((first | refine ⟨trivial, (fun _ => by omega), ?_⟩ | refine ⟨trivial, ?_⟩); gi_at_call 45; refine (callsIn_wide.2 (valid_c _ _ (by omega))).mono ?_; rintro e w1 ⟨rfl, hx1⟩) | ((first | refine ⟨trivial, (fun _ => by omega), ?_⟩ | refine ⟨trivial, ?_⟩); gi_at_call 53; refine (callsIn_wide.2 (each_c _ _ _)).mono ?_; rintro e w2 ⟨rfl, rfl⟩))
  have hx : Ext w w1 := (by (repeat (first | exact Ext.refl _ | exact ‹Ext _ _› | refine Ext.alloc ?_ _ | refine Ext.drew ?_ | refine Ext.drewN ?_ _ | (refine Ext.setCell ?_ (by first | omega | (simp; done) | (simp; omega)) _) | refine Ext.trans ?_ ‹Ext _ _›)))
  have hM1 : MaxLen w1 := HM.out.below hx
  have h0w : 0 < w.heap.size := by obtain ⟨m, hm⟩ := HM.out; exact World.block_lt_of_cell? w _ hm
  clear hx1
  have bO := Boxed.new w1 47 (.slice none 0 0)
  have bB := Boxed.new (w1.alloc (.cells #[.slice none 0 0] 47)) 9 (.string s)
  have bC := Boxed.new ((w1.alloc (.cells #[.slice none 0 0] 47)).alloc (.cells #[.string s] 9)) 9 (.string p)
  simp only [World.size_alloc] at bB bC
  obtain ⟨W0, hW0⟩ : ∃ W0, ((w1.alloc (.cells #[.slice none 0 0] 47)).alloc (.cells #[.string s] 9)).alloc (.cells #[.string p] 9) = W0 := ⟨_, rfl⟩
  have x0 : Ext w1 W0 := by rw [← hW0]; exact (((Ext.refl _).alloc _).alloc _).alloc _
  have s0 : W0.heap.size = w1.heap.size + 3 := by rw [← hW0]; simp
  have c0 : Boxed W0 w1.heap.size 47 (.slice none 0 0) := by rw [← hW0]; exact (bO.alloc _).alloc _
  have c1 : Boxed W0 (w1.heap.size + 1) 9 (.string s) := by rw [← hW0]; exact bB.alloc _
  have c2 : Boxed W0 (w1.heap.size + 1 + 1) 9 (.string p) := by rw [← hW0]; exact bC
  have xw : Ext w W0 := hx.trans x0
  have hM0 : MaxLen W0 := hM1.below x0
  rw [hW0]
  clear hW0 bO bB bC
  have hp0 : 0 < p.size := Hp0.out
  have sz := hx.size
  refine wpIn_rangeFunc_ownF rfl (by omega) (gf := 69) (lb := #[.pointer (some ⟨w1.heap.size + 1, 0, none⟩), .pointer (some ⟨w1.heap.size + 1 + 1, 0, none⟩)]) rfl trivial (enters_of Try.func69 (by kernel_rfl) rfl)
    (each_stops 4 (by omega) (w1.heap.size + 1) (w1.heap.size + 1 + 1) s p hs hp0 W0 hM0 c1.cell c2.cell) KeepL.t (fun W l o o' h a b c => ⟨KeepC.b (w := W0) W l o o' h a b c, KeepC.b (w := W0) W l o o' h a b c, KeepC.b (w := W0) W l o o' h a b c⟩) (Below.refl _ _) (fun _ => rfl)
    (fun pre W => ((∃ v, Boxed W w1.heap.size 47 v ∧ W.ownsRow w.heap.size 3 1 v pre.length ((pre.map Int.ofNat).map (Value.int .i64)) ∧ True) ∧ (Boxed W (w1.heap.size + 1) 9 (.string s) ∧ Boxed W (w1.heap.size + 1 + 1) 9 (.string p))) ∧ Below w.heap.size w W)
    (fun _ _ _ => False)
    (OwnFrom.and (OwnFrom.and (Own.from (holdsRow_own w.heap.size w1.heap.size 47 3 1 (fun pre : List Nat => pre.length) (fun pre : List Nat => (pre.map Int.ofNat).map (Value.int .i64)) (fun _ _ => True)) _) (Own.from (fun s A B row hs hg hr => ⟨hs.1.kept hg (box_ne hs.1 hr), hs.2.kept hg (box_ne hs.2 hr)⟩) _)) (ownFrom_below (Nat.le_refl _) (by omega)))
    (fun _ _ _ _ _ hs _ _ => hs)
    ⟨⟨⟨_, c0, World.ownsRow_nil _ _ _ _, trivial⟩, c1, c2⟩, xw⟩
    (fun x => { tmps := #[.string s, .string p, undef, undef, .slice none 0 0, .pointer (some ⟨w1.heap.size, 0, none⟩), .int .i64 (x : Nat), .string p, .bool false, .bool false, .string s, .bool true, .bool false, .bool false, .bool false, .string p, .bool true, .bool false, .bool false, .string s, .string p, .func (.func 69) #[] #[.pointer (some ⟨w1.heap.size + 1, 0, none⟩), .pointer (some ⟨w1.heap.size + 1 + 1, 0, none⟩)], .int .i64 (x : Nat), undef, undef, undef, undef, undef], defers := [] }) ?assign ?body ?done ?stop
  case assign =>
    intro l x W K hK
    simp only [encI]
    gi_wp2
    exact hK
  case body =>
    rintro l pre x W ⟨⟨⟨v, hv, hrow, _⟩, hb1, hb2⟩, hB⟩ hlt
    have hc := hv.cell
    have hN := HN.out
    have hl1 : ((pre.map Int.ofNat).map (Value.int .i64)).length = pre.length := by simp
    gi_wp2_with (gi_at_builtin; refine wpListIn_append_own _ rfl _ _ 47 rfl w.heap.size 3 i0 (.int .i64 0) 1 8 Try.underlying47 hi hz0 hz1 hz2 rfl (by decide) _ _ _ rfl (hrow.alloc _) ⟨W.heap.size, 0, none⟩ 1 1 [.int .i64 (x : Nat)] rfl rfl (cell_one_new _ _ _) (by simp [Value.oneCell']) (by unfold maxLen; omega) (by omega) (by have := hB.size; simp; omega) ?_; intro v' w2 hown' hgrow _; obtain ⟨g', cap', rfl⟩ := ownsRow_succ hown'; obtain ⟨hv1, hv2, hr2, hk2, hbe2⟩ := hv.appended (by decide) hrow hB.size sz hown' hgrow; have hc1 := hv1.cell; have hf1 := hv1.frozen; have q1 := ((hb1.alloc _).kept hgrow (hb1.not_row (by decide) hrow)).kept (grownBy_setCell' w2 w1.heap.size (.slice (some ⟨g', 0, none⟩) (pre.length + 1) cap')) (by simp); have q2 := ((hb2.alloc _).kept hgrow (hb2.not_row (by decide) hrow)).kept (grownBy_setCell' w2 w1.heap.size (.slice (some ⟨g', 0, none⟩) (pre.length + 1) cap')) (by simp; omega))
    refine ⟨hk2, ⟨keepC_of hb1 q1, keepC_of hb2 q2, fun u e => by rw [Below.cell hbe2 (p := ⟨0, 0, none⟩) h0w]; exact e⟩, ⟨⟨_, hv2, by simpa using hr2, trivial⟩, q1, q2⟩, hB.trans hbe2⟩
  case done =>
    rintro D ys W hD rfl ⟨⟨⟨v, hv, hrow, _⟩, _, _⟩, hB⟩ hK
    have hc := hv.cell
    gi_wp2
    refine ⟨by simp, .inl ⟨_, _, rfl, run_takeDeferred hK, ?_⟩⟩
    exact ⟨_, results_tmp rfl _ _ _, v, rfl, by unfold RowI; rw [List.length_map]; exact ownsRow_putObj hrow _ hK rfl, hB.trans (belowK_b (w := w) (Nat.le_refl _) W D _ _ (by omega) hK rfl rfl)⟩
  case stop =>
    rintro D c pre W _ _ h _
    exact h.elim

theorem all_c (s p : ByteArray) (w : World) (hM : MaxLen w) (hs : s.size ≤ 1000000000) (hp : p.size ≤ 1152921504606846976) :
    Calls Try.prog 31 #[.string s, .string p] w fun e w' => ∃ v, e = .returned v ∧ RowI w.heap.size w' v (lookI (ls s) (ls p)) ∧ Ext w w' := by
  by_cases h : p.size = 0 ∨ validL (ls s) = false ∨ validL (ls p) = false
  · exact all_bad s p w hs hp h
  · simp only [not_or, Bool.not_eq_false] at h
    exact all_ok s p w hM hs hp h.1 h.2.1 h.2.2

/- EXTM look.All -/
def look_All.f (a0 : ByteArray) (a1 : ByteArray) : Option (List Int) := if a0.size ≤ 1000000000 ∧ a1.size ≤ 1152921504606846976 then some (lookI (ls a0) (ls a1)) else none
theorem look_All.eq (a0 a1 : ByteArray) (hg : a0.size ≤ 1000000000 ∧ a1.size ≤ 1152921504606846976) : look_All.f a0 a1 = some (lookI (ls a0) (ls a1)) := if_pos hg
theorem look_All.calls (a0 : ByteArray) (a1 : ByteArray) (r : List Int) (w : World) (hM : MaxLen w) (h : look_All.f a0 a1 = some r) :
    Calls Try.prog 31 #[.string a0, .string a1] w fun e w' => ∃ v0_ : Value, e = .returned (v0_) ∧ PrintWords.Kd.R (PrintWords.Kd.int .i64) 3 w' w.heap.size (fun _ => True) v0_ r ∧ Below w.heap.size w w' := by
  unfold look_All.f at h
  split at h
  · cases h
    exact (all_c a0 a1 w hM (by omega) (by omega)).mono fun e w' ⟨v, he, hr, hx⟩ => ⟨v, he, kdR_int hr, hx⟩
  · cases h
end Go.Proofs.Ythjlhbblflmajaa
