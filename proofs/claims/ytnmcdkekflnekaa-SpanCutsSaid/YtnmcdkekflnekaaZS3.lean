/- Joined by merge.py out of this work's texts: PSp. -/
import Derived.Test.YtnmcdkekflnekaaZS0
import Derived.Test.YtnmcdkekflnekaaZS1
import Derived.Test.YtnmcdkekflnekaaZS2
/- The laws of layer 22 (span) in plain words. -/
namespace Go.Proofs.Ytnmcdkekflnekaa
open Go.RowKit
set_option linter.unusedVariables false
set_option linter.unusedSimpArgs false
open Go.RowKit Go.Proofs.Ytnmcdkekflnekaa.QS Go.Proofs.YtnmcdkekflnekaaW.PrintWords Go.Proofs.YtnmcdkekflnekaaW.PrintMore
theorem span_of (t : ByteArray) (p q kind : Int) (ht : t.size ≤ 1000000) : Ev (fun k => span_Of.f k t p q kind) (ofS (ls t) p q kind) := by
  have key : ∀ b : Bool, (b = false ↔ placeB (ls t) p = true ∧ placeB (ls t) q = true) → Ev (fun k => span_Of.j0 k t p q kind b) (ofS (ls t) p q kind) := by
    intro b hb
    refine Ev.step (fun _ => (by rw [span_Of.j0])) ?_
    unfold ofS
    refine Ev.ite (fun h => Ev.ret ?_) (fun h => ?_)
    · rw [if_neg (fun hc => by rw [hb.2 hc] at h; cases h)]
    · have hc := hb.1 (by simpa using h)
      rw [if_pos hc]
      obtain ⟨a, b', e1, e2, hab, hbl, pa, pb⟩ := min_max_place hc.1 hc.2
      rw [ls_len] at hbl
      rw [mn_eq, mx_eq, e1, e2]
      refine Ev.ite (fun k1 => Ev.ret ?_) (fun k1 => ?_)
      · rw [if_pos k1]
      · rw [if_neg k1]
        refine Ev.ite (fun k2 => ?_) (fun k2 => ?_)
        · rw [if_pos k2]
          unfold stepS
          rw [ls_len]
          refine Ev.ite (fun h1 => Ev.pos (by omega) ?_) (fun h1 => Ev.ret ?_)
          · rw [bt_nat t b' (by omega), Int.toNat_natCast, utf_Next.eq t _ (by omega)]
            refine Ev.ite (fun h2 => Ev.ret ?_) (fun h2 => ?_)
            · rw [if_neg (fun hh => hh.2 h2)]
            · simp only [Option.bind_some]
              refine Ev.ret ?_
              rw [if_pos ⟨h1, h2⟩]
          · rw [if_neg (fun hh => h1 hh.1)]
        · rw [if_neg k2]
          refine Ev.ite (fun k3 => ?_) (fun k3 => Ev.ret ?_)
          · rw [if_pos k3, line_Of.eq t _ (by omega), line_Of.eq t _ (by omega)]
            simp only [Option.bind_some]
            rw [line_Start.eq t _ (by omega), line_End.eq t _ (by omega)]
            exact Ev.ret rfl
          · rw [if_neg k3]
  unfold span_Of.f
  rw [utf_Place.eq t p (by omega), utf_Place.eq t q (by omega)]
  simp only [Option.bind_some]
  refine Ev.ite (fun h => key _ (by simp [h])) (fun h => key _ (by simp [h]))
theorem ref22_of (t : ByteArray) (p q kind : Int) (ht : t.size ≤ 1000000) : Ev (fun k => calamusref22_Of.f k t p q kind) (ofS (ls t) p q kind) := by
  have key1 : ∀ a b : Nat, a ≤ b → b ≤ t.size → placeB (ls t) a = true → placeB (ls t) b = true → 1 ≤ kind → kind ≤ 3 → Ev (fun k => calamusref22_Of.j1 k t a b kind) (if kind = 1 then ((a : Int), (b : Int), false, true) else if kind = 2 then ((a : Int), stepS (ls t) b, false, true) else if kind = 3 then (startI (ls t) (ofI (ls t) a), endI (ls t) (ofI (ls t) b), true, true) else (0, 0, false, false)) := by
    intro a b hab hb pa pb h1 h3
    refine Ev.step (fun _ => (by rw [calamusref22_Of.j1])) ?_
    rw [calamusref04_Of.eq t _ (by omega), calamusref04_Of.eq t _ (by omega)]
    simp only [Option.bind_some]
    rw [calamusref04_Start.eq t _ (by omega), calamusref04_End.eq t _ (by omega), calamusref03_Next.eq t _ (by omega)]
    simp only [Option.bind_some]
    refine Ev.ite (fun k3 => Ev.ret ?_) (fun k3 => Ev.ite (fun k2 => ?_) (fun k2 => Ev.ret ?_))
    · rw [if_neg (show ¬ kind = 1 by omega), if_neg (show ¬ kind = 2 by omega), if_pos k3]
    · rw [if_neg (show ¬ kind = 1 by omega), if_pos k2]
      obtain ⟨e, -, he, -⟩ := line_at pb
      have hg := (end_gt pb he).1
      rw [he]
      unfold stepS
      rw [Int.toNat_natCast]
      refine Ev.ite (fun hc => Ev.ret ?_) (fun hc => Ev.ret ?_)
      · have := hg.1 (by omega)
        rw [if_pos ⟨by omega, this.2⟩]
      · rw [if_neg]
        rintro ⟨c1, c2⟩
        have := hg.2 ⟨by omega, c2⟩
        omega
    · rw [if_pos (show kind = 1 by omega)]
  have key : ∀ b : Bool, (b = false → placeB (ls t) p = true ∧ placeB (ls t) q = true ∧ 1 ≤ kind ∧ kind ≤ 3) → (b = true → (ofS (ls t) p q kind) = (0, 0, false, false)) → Ev (fun k => calamusref22_Of.j0 k t p q kind b) (ofS (ls t) p q kind) := by
    intro b hb hb2
    refine Ev.step (fun _ => (by rw [calamusref22_Of.j0])) ?_
    refine Ev.ite (fun h => Ev.ret ?_) (fun h => ?_)
    · rw [hb2 h]
    · obtain ⟨h1, h2, h3, h4⟩ := hb (by simpa using h)
      obtain ⟨a, rfl, ha⟩ := place_int h1
      obtain ⟨c, rfl, hc⟩ := place_int h2
      rw [ls_len] at ha hc
      unfold ofS
      rw [if_pos ⟨h1, h2⟩]
      refine Ev.ite (fun hx => ?_) (fun hx => ?_)
      · have e1 : min (a : Int) c = c := by omega
        have e2 : max (a : Int) c = a := by omega
        rw [e1, e2]; exact key1 c a (by omega) ha h2 h1 h3 h4
      · have e1 : min (a : Int) c = a := by omega
        have e2 : max (a : Int) c = c := by omega
        rw [e1, e2]; exact key1 a c (by omega) hc h1 h2 h3 h4
  have bad : ¬ (placeB (ls t) p = true ∧ placeB (ls t) q = true ∧ 1 ≤ kind ∧ kind ≤ 3) → ofS (ls t) p q kind = (0, 0, false, false) := by
    intro h
    unfold ofS
    by_cases hc : placeB (ls t) p = true ∧ placeB (ls t) q = true
    · have h2 : ¬ (1 ≤ kind ∧ kind ≤ 3) := fun hh => h ⟨hc.1, hc.2, hh.1, hh.2⟩
      rw [if_pos hc, if_neg (by omega), if_neg (by omega), if_neg (by omega)]
    · rw [if_neg hc]
  unfold calamusref22_Of.f
  rw [calamusref03_Place.eq t p (by omega), calamusref03_Place.eq t q (by omega)]
  simp only [Option.bind_some]
  refine Ev.ite (fun h1 => Ev.ite (fun h2 => Ev.ite (fun h3 => key _ (fun h => by cases h) (fun _ => bad (fun hh => by have := hh.2.2.1; omega))) (fun h3 => key _ (fun h => ?_) (fun h => bad ?_))) (fun h2 => key _ (fun h => by cases h) (fun _ => bad (fun hh => h2 hh.2.1)))) (fun h1 => key _ (fun h => by cases h) (fun _ => bad (fun hh => h1 hh.1)))
  · simp at h; exact ⟨h1, h2, by omega, by omega⟩
  · simp at h; exact fun hh => by have := hh.2.2.2; omega
/-- The keys' kinds. -/
def K1 : List (List UInt8) := [[104], [108], [48], [94], [36], [124], [119], [98], [87], [66], [123], [125], [70], [84], [110], [78], [96]]
def K2 : List (List UInt8) := [[101], [69], [102], [116], [37]]
def K3 : List (List UInt8) := [[106], [107], [103, 103], [71], [39]]
def kind3 (x : List UInt8) : Int := if x ∈ K3 then 3 else 0
def kind2 (x : List UInt8) : Int := if x ∈ K2 then 2 else kind3 x
def kind1 (x : List UInt8) : Int := if x ∈ K1 then 1 else kind2 x
theorem ref22_in (key : ByteArray) (l : List ByteArray) (hl : l.length ≤ 1000) : ∀ (d i : Nat), l.length - i ≤ d → i ≤ l.length → Ev (fun k => calamusref22_in.l0 k key l i) (decide (key.toList ∈ (l.drop i).map ByteArray.toList)) := by
  intro d
  induction d with
  | zero =>
    intro i hd hi
    refine Ev.step (fun _ => (by rw [calamusref22_in.l0])) ?_
    refine Ev.neg (by omega) (Ev.ret ?_)
    rw [List.drop_eq_nil_of_le (by omega)]; rfl
  | succ d ih =>
    intro i hd hi
    by_cases hlt : i < l.length
    · refine Ev.step (fun _ => (by rw [calamusref22_in.l0])) ?_
      refine Ev.pos (by omega) (Ev.pos (by omega) ?_)
      have e : rdOf ByteArray.empty l (i : Int) = l[i] := by unfold rdOf; simp [List.getD_eq_getElem?_getD, List.getElem?_eq_getElem hlt]
      rw [e, w64 (by omega) (by omega), List.drop_eq_getElem_cons hlt, List.map_cons]
      refine Ev.ite (fun hc => Ev.ret ?_) (fun hc => ?_)
      · simp [hc]
      · refine Ev.eq (ih (i + 1) (by omega) (by omega)) ?_
        have : ¬ key.toList = l[i].toList := fun h => hc h.symm
        simp [this]
    · exact ih i (by omega) hi
theorem ref22_in' (key : ByteArray) (l : List ByteArray) (K : List (List UInt8)) (hK : l.map ByteArray.toList = K) (hl : l.length ≤ 1000) : Ev (fun k => calamusref22_in.f k key l) (decide (key.toList ∈ K)) := by
  subst hK
  unfold calamusref22_in.f
  exact ref22_in key l hl l.length 0 (by omega) (by omega)
theorem ref22_kind (key : ByteArray) : Ev (fun k => calamusref22_Kind.f k key) (kind1 key.toList) := by
  unfold calamusref22_Kind.f kind1
  refine Ev.bind (ref22_in' key _ K1 (by simp only [List.map_cons, List.map_nil, toList_ls]; rfl) (by decide)) (Ev.ite (fun h => Ev.ret ?_) (fun h => ?_))
  · rw [if_pos (of_decide_eq_true h)]
  · rw [if_neg (fun hh => h (decide_eq_true hh))]
    unfold kind2
    refine Ev.bind (ref22_in' key _ K2 (by simp only [List.map_cons, List.map_nil, toList_ls]; rfl) (by decide)) (Ev.ite (fun h => Ev.ret ?_) (fun h => ?_))
    · rw [if_pos (of_decide_eq_true h)]
    · rw [if_neg (fun hh => h (decide_eq_true hh))]
      unfold kind3
      refine Ev.bind (ref22_in' key _ K3 (by simp only [List.map_cons, List.map_nil, toList_ls]; rfl) (by decide)) (Ev.ite (fun h => Ev.ret ?_) (fun h => Ev.ret ?_))
      · rw [if_pos (of_decide_eq_true h)]
      · rw [if_neg (fun hh => h (decide_eq_true hh))]
theorem span_kind (key : ByteArray) : Ev (fun k => span_Kind.f k key) (kind1 key.toList) := by
  have j1 : ∀ b : Bool, Ev (fun k => span_Kind.j1 k key b) (if b = true then 2 else kind3 key.toList) := by
    intro b
    refine Ev.step (fun _ => (by rw [span_Kind.j1])) ?_
    refine Ev.ite (fun h => Ev.ret (by rw [if_pos h])) (fun h => ?_)
    rw [if_neg h]
    unfold kind3
    generalize key.toList = x
    repeat' (first | refine Ev.ite (fun _ => ?_) (fun _ => ?_) | refine Ev.ret ?_)
    all_goals simp_all [K3]
  have j0 : ∀ b : Bool, Ev (fun k => span_Kind.j0 k key b) (if b = true then 1 else kind2 key.toList) := by
    intro b
    refine Ev.step (fun _ => (by rw [span_Kind.j0])) ?_
    refine Ev.ite (fun h => Ev.ret (by rw [if_pos h])) (fun h => ?_)
    rw [if_neg h]
    unfold kind2
    repeat' (refine Ev.ite (fun _ => ?_) (fun _ => ?_))
    all_goals refine Ev.eq (j1 _) ?_
    all_goals simp_all [K2]
  unfold span_Kind.f kind1
  repeat' (refine Ev.ite (fun _ => ?_) (fun _ => ?_))
  all_goals refine Ev.eq (j0 _) ?_
  all_goals simp_all [K1]
theorem lives22_a : ofS (ls ⟨#[97, 98, 10, 99, 100]⟩) 0 3 1 = (0, 3, false, true) := by decide +kernel
theorem lives22_b : ofS (ls ⟨#[97, 98, 10, 99, 100]⟩) 3 0 2 = (0, 4, false, true) := by decide +kernel
theorem lives22_c : ofS (ls ⟨#[97, 98, 10, 99, 100]⟩) 0 3 3 = (0, 5, true, true) := by decide +kernel
theorem lives22 : Ev (fun k => (calamuslaw22_lives.f k).bind fun t => some t) true := by
  refine Ev.bind ?_ (Ev.ret rfl)
  unfold calamuslaw22_lives.f
  refine Ev.bind (span_of _ _ _ _ (by decide)) ?_
  refine Ev.bind (span_of _ _ _ _ (by decide)) ?_
  refine Ev.bind (span_of _ _ _ _ (by decide)) ?_
  rw [lives22_a, lives22_b, lives22_c]
  exact Ev.pos rfl (Ev.pos rfl (Ev.pos rfl (Ev.pos rfl (Ev.pos rfl (Ev.ret rfl)))))
theorem SpanOf_p (t : ByteArray) (p q kind : Int) (key : ByteArray) (ht : t.size ≤ 140737488351232) (hp : -9223372036854775808 ≤ p ∧ p ≤ 9223372036854775807) (hq : -9223372036854775808 ≤ q ∧ q ≤ 9223372036854775807) (hk : -9223372036854775808 ≤ kind ∧ kind ≤ 9223372036854775807) (hkey : key.size ≤ 140737488351232) : ∃ k, calamuslaw22_SpanOf.f k t p q kind key = some true := by
  refine Ev.rounds (g := fun k => calamuslaw22_SpanOf.f k t p q kind key) ?_
  unfold calamuslaw22_SpanOf.f
  refine Ev.ite (fun _ => lives22) (fun h => ?_)
  refine Ev.bind (span_of t p q kind (by omega)) (Ev.bind (ref22_of t p q kind (by omega)) ?_)
  refine Ev.pos (by simp) (Ev.pos (by simp) (Ev.bind (span_kind key) (Ev.bind (ref22_kind key) (Ev.pos rfl lives22))))
/-- Range checks. -/
theorem sp_start {t : ByteArray} {p : Nat} (hp : p ≤ t.size) (ht : t.size ≤ 1000000) : span_start.f t p = some (startB (ls t) p) := by
  unfold span_start.f startB
  by_cases h : p = 0
  · subst h; rfl
  · have e : (p : Int) - 1 = ((p - 1 : Nat) : Int) := by omega
    rw [if_neg (by omega), w64 (by omega) (by omega), if_pos (by omega), if_pos (by omega), e, bt_nat t (p - 1) (by omega), Int.toNat_natCast]
    simp [h]
    rfl
theorem sp_end {t : ByteArray} {p : Nat} (hp : p ≤ t.size) (ht : t.size ≤ 1000000) : span_end.f t p = some (endB (ls t) p) := by
  unfold span_end.f endB
  rw [ls_len]
  by_cases h : p = t.size
  · subst h; simp
  · rw [if_neg (by omega), if_pos (by omega), if_pos (by omega), bt_nat t p (by omega), Int.toNat_natCast]
    have h2 : ¬ (p : Int) = t.size := by omega
    rw [decide_eq_false h2]
    simp
    rfl
theorem sp_right {t : ByteArray} {a b : Int} {lines : Bool} (ht : t.size ≤ 1000000) : Ev (fun k => span_Right.f k t a b lines) (rightS (ls t) a b lines) := by
  have key : ∀ c : Bool, (c = false ↔ a ≤ b ∧ placeB (ls t) a = true ∧ placeB (ls t) b = true) → Ev (fun k => span_Right.j0 k t c a b lines) (rightS (ls t) a b lines) := by
    intro c hc
    refine Ev.step (fun _ => (by rw [span_Right.j0])) ?_
    unfold rightS
    refine Ev.ite (fun h => Ev.ret ?_) (fun h => ?_)
    · have : ¬ (a ≤ b ∧ placeB (ls t) a = true ∧ placeB (ls t) b = true) := fun hh => by rw [hc.2 hh] at h; cases h
      symm
      apply Bool.eq_false_iff.2
      intro h2
      simp only [Bool.and_eq_true, decide_eq_true_eq] at h2
      exact this ⟨h2.1.1.1, h2.1.1.2, h2.1.2⟩
    · obtain ⟨h1, h2, h3⟩ := hc.1 (by simpa using h)
      obtain ⟨x, rfl, hx⟩ := place_int h2
      obtain ⟨y, rfl, hy⟩ := place_int h3
      rw [ls_len] at hx hy
      rw [sp_start hx ht, sp_end hy ht]
      simp only [Option.bind_some]
      cases lines
      · exact Ev.neg (by decide) (Ev.ret (by simp [h1, h2, h3]))
      · refine Ev.pos rfl (Ev.ite (fun k1 => Ev.ret ?_) (fun k1 => Ev.ret ?_))
        · simp [h1, h2, h3, k1]
        · simp [h1, h2, h3, k1]
  unfold span_Right.f
  rw [utf_Place.eq t a (by omega), utf_Place.eq t b (by omega)]
  simp only [Option.bind_some]
  refine Ev.ite (fun h => key _ (by simp <;> omega)) (fun h => Ev.ite (fun h2 => key _ (by simp [h2]; omega)) (fun h2 => key _ (by simp [h2])))
theorem SpanMade_p (t : ByteArray) (p q kind : Int) (ht : t.size ≤ 140737488351232) (hp : -9223372036854775808 ≤ p ∧ p ≤ 9223372036854775807) (hq : -9223372036854775808 ≤ q ∧ q ≤ 9223372036854775807) (hk : -9223372036854775808 ≤ kind ∧ kind ≤ 9223372036854775807) : ∃ k, calamuslaw22_SpanMade.f k t p q kind = some true := by
  refine Ev.rounds (g := fun k => calamuslaw22_SpanMade.f k t p q kind) ?_
  unfold calamuslaw22_SpanMade.f
  refine Ev.ite (fun _ => lives22) (fun h => ?_)
  refine Ev.bind (span_of t p q kind (by omega)) (Ev.bind (span_of t q p kind (by omega)) ?_)
  rw [ofS_comm (ls t) q p]
  refine Ev.neg (by simp) ?_
  rw [bne_self_eq_false]
  refine Ev.step (fun _ => (by rw [calamuslaw22_SpanMade.j0])) ?_
  refine Ev.neg (by decide) (Ev.ite (fun hc => ?_) (fun _ => lives22))
  obtain ⟨h1, h2, h3, h4⟩ := ofS_right hc
  refine Ev.bind (sp_right (by omega)) (Ev.pos h1 (Ev.pos (by rw [mn_eq]; exact h2) (Ev.pos (by rw [mx_eq]; exact h3) (Ev.pos ?_ lives22))))
  rw [h4]
  by_cases hk3 : kind = 3 <;> simp [hk3]
theorem sp_lines {t : ByteArray} {a b : Nat} (hab : a ≤ b) (hb : b ≤ t.size) (ht : t.size ≤ 1000000) (hr : rightS (ls t) a b true = true) : Ev (fun k => span_Lines.f k t a b true) (ofI (ls t) a, ofI (ls t) b) := by
  unfold span_Lines.f
  refine Ev.bind (sp_right ht) (Ev.pos hr (Ev.pos rfl ?_))
  refine Ev.step (fun _ => (by rw [span_Lines.j0])) ?_
  refine Ev.neg (by decide) ?_
  rw [line_Of.eq t _ (by omega), line_Of.eq t _ (by omega)]
  exact Ev.ret rfl
theorem sp_cut {t : ByteArray} {a b : Nat} (hab : a ≤ b) (hb : b ≤ t.size) (ht : t.size ≤ 1000000) (hr : rightS (ls t) a b true = true) :
    Ev (fun k => span_Cut.f k t a b true) (if b < t.size then ((a : Int), ((b + 1 : Nat) : Int), true) else if 0 < a then (((a - 1 : Nat) : Int), (b : Int), true) else ((a : Int), (b : Int), true)) := by
  unfold span_Cut.f
  refine Ev.bind (sp_right ht) (Ev.pos hr (Ev.pos rfl ?_))
  refine Ev.ite (fun h => Ev.ret ?_) (fun h => ?_)
  · rw [if_pos (by omega), w64 (by omega) (by omega)]; simp
  · rw [if_neg (show ¬ b < t.size by omega)]
    refine Ev.ite (fun h2 => Ev.ret ?_) (fun h2 => Ev.ret ?_)
    · rw [if_pos (by omega), w64 (by omega) (by omega)]
      have : (a : Int) - 1 = ((a - 1 : Nat) : Int) := by omega
      rw [this]
    · rw [if_neg (by omega)]
/-- Without what is cut, how many line feeds are left. -/
theorem cut_tens {l : List UInt8} {a b : Nat} (hab : a ≤ b) (hb : b ≤ l.length) (pa : placeB l a = true) (pb : placeB l b = true) (sa : startB l a = true) (eb : endB l b = true) :
    (b < l.length → validL (l.take a ++ l.drop (b + 1)) = true ∧ tens (l.take a ++ l.drop (b + 1)) + fds l b + 1 = fds l a + tens l) ∧
    (¬ b < l.length → 0 < a → validL (l.take (a - 1) ++ l.drop b) = true ∧ tens (l.take (a - 1) ++ l.drop b) + 1 = fds l a ∧ fds l b = tens l) ∧
    (¬ b < l.length → ¬ 0 < a → validL (l.take a ++ l.drop b) = true ∧ tens (l.take a ++ l.drop b) = 0 ∧ fds l b = tens l ∧ fds l a = 0) := by
  have hv := place_valid pa
  refine ⟨fun h => ?_, fun h h0 => ?_, fun h h0 => ?_⟩
  · have e : byL l b = 10 := by
      unfold endB at eb
      have : ¬ (b : Int) = l.length := by omega
      rw [decide_eq_false this, Bool.false_or, Int.toNat_natCast] at eb
      exact of_decide_eq_true eb
    have p1 := (ten_place hv h e).2
    refine ⟨valid_append (place_take pa) (place_drop p1), ?_⟩
    have h1 := fds_drop l (b + 1)
    have h2 := fds_succ l b h
    rw [if_pos e] at h2
    rw [tens_append]
    have h3 : tens (l.take a) = fds l a := rfl
    omega
  · have hbl : b = l.length := by omega
    have e : byL l (a - 1) = 10 := by
      unfold startB at sa
      have e2 : ((a : Int) - 1).toNat = a - 1 := by omega
      rw [e2] at sa
      simpa [show ¬ a = 0 by omega] using sa
    have ha : a - 1 < l.length := by omega
    have p1 := (ten_place hv ha e).1
    subst hbl
    rw [List.drop_length, List.append_nil]
    refine ⟨place_take p1, ?_, fds_all l⟩
    have h2 := fds_succ l (a - 1) ha
    rw [if_pos e] at h2
    have h3 : tens (l.take (a - 1)) = fds l (a - 1) := rfl
    have h4 : a - 1 + 1 = a := by omega
    rw [h4] at h2
    omega
  · have hbl : b = l.length := by omega
    have ha : a = 0 := by omega
    subst ha; subst hbl
    rw [List.drop_length, List.take_zero, List.append_nil]
    exact ⟨rfl, rfl, fds_all l, by simp [fds, tens]⟩
theorem ls_append (a b : ByteArray) : ls (a ++ b) = ls a ++ ls b := by
  unfold ls; simp
theorem SpanCuts_p (t : ByteArray) (p q : Int) (ht : t.size ≤ 140737488351232) (hp : -9223372036854775808 ≤ p ∧ p ≤ 9223372036854775807) (hq : -9223372036854775808 ≤ q ∧ q ≤ 9223372036854775807) : ∃ k, calamuslaw22_SpanCuts.f k t p q = some true := by
  refine Ev.rounds (g := fun k => calamuslaw22_SpanCuts.f k t p q) ?_
  unfold calamuslaw22_SpanCuts.f
  refine Ev.ite (fun _ => lives22) (fun h => ?_)
  have ht' : t.size ≤ 1000000 := by omega
  refine Ev.bind (span_of t p q 3 ht') (Ev.ite (fun hc => ?_) (fun _ => lives22))
  have hpq : placeB (ls t) p = true ∧ placeB (ls t) q = true := by
    apply Classical.byContradiction
    intro hn
    unfold ofS at hc
    rw [if_neg hn] at hc
    cases hc
  obtain ⟨a', b', e1, e2, hab', hb', pa', pb'⟩ := min_max_place hpq.1 hpq.2
  obtain ⟨a, b, s1, s2, ha, hb, hbl, pa, pb, sa, eb, fa, fb⟩ := line_right hab' pa' pb'
  have e : ofS (ls t) p q 3 = ((a : Int), (b : Int), true, true) := by
    unfold ofS
    rw [if_pos hpq, if_neg (by decide), if_neg (by decide), if_pos rfl, e1, e2, s1, s2]
  rw [e]
  have hab : a ≤ b := by omega
  have hbt : b ≤ t.size := by rw [← ls_len]; exact hbl
  have hr : rightS (ls t) a b true = true := by unfold rightS; simp [pa, pb, sa, eb, hab]
  obtain ⟨c1, c2, c3⟩ := cut_tens hab hbl pa pb sa eb
  rw [ls_len] at c1 c2 c3
  have oa := ofI_at pa
  have ob := ofI_at pb
  have hfa := fds_mono (ls t) a
  have hfb := fds_mono (ls t) b
  have hten := tens_le (ls t)
  rw [ls_len] at hten
  have hfab : fds (ls t) a ≤ fds (ls t) b := by
    unfold fds tens
    exact List.Sublist.count_le _ (List.IsPrefix.sublist (List.take_prefix_take_left hab))
  have hv := place_valid pa
  -- what is left, whatever is cut
  have key : ∀ x y : Nat, x ≤ y → y ≤ t.size → validL ((ls t).take x ++ (ls t).drop y) = true → ((tens ((ls t).take x ++ (ls t).drop y) : Int) + 1 = max 1 ((tens (ls t) : Int) + 1 - ((fds (ls t) b : Int) - fds (ls t) a + 1))) →
      Ev (fun k => calamuslaw22_SpanCuts.j0 k t (ofI (ls t) a) (ofI (ls t) b) (decide (ofI (ls t) b < ofI (ls t) a)) x y true) true := by
    intro x y hxy hy hvl hte
    refine Ev.step (fun _ => (by rw [calamuslaw22_SpanCuts.j0])) ?_
    rw [oa, ob]
    refine Ev.neg (by simp <;> omega) (Ev.pos (by omega) (Ev.pos (by omega) (Ev.pos (by omega) (Ev.pos (by omega) ?_))))
    have z1 : (t.extract 0 x).size ≤ t.size := by simp <;> omega
    have z2 : (t.extract y t.size).size ≤ t.size := by simp <;> omega
    rw [Int.toNat_natCast, Int.toNat_natCast]
    refine Ev.pos (by omega) ?_
    have ez : (t.extract 0 x ++ t.extract y t.size).size ≤ 1099511627775 := by
      rw [ByteArray.size_append]; omega
    rw [line_Count.eq _ ez, line_Count.eq t (by omega)]
    simp only [Option.bind_some]
    have el : ls (t.extract 0 x ++ t.extract y t.size) = (ls t).take x ++ (ls t).drop y := by
      rw [ls_append, ls_ext2, ls_ext]; simp
    rw [el]
    unfold lcountI
    rw [hvl, hv, if_pos rfl, if_pos rfl]
    refine Ev.pos ?_ lives22
    rw [mx_eq, w64 (n := (fds (ls t) b : Int) - fds (ls t) a) (by omega) (by omega), w64 (n := (fds (ls t) b : Int) - fds (ls t) a + 1) (by omega) (by omega), w64 (by omega) (by omega)]
    exact hte
  refine Ev.bind (sp_cut hab hbt ht' hr) (Ev.bind (sp_lines hab hbt ht' hr) ?_)
  by_cases hb2 : b < t.size
  · obtain ⟨k1, k2⟩ := c1 hb2
    rw [if_pos hb2]
    refine Ev.neg (by simp) (Ev.neg (by simp <;> omega) (Ev.neg (by simp <;> omega) (Ev.neg (by omega) ?_)))
    exact key a (b + 1) (by omega) (by omega) k1 (by omega)
  · rw [if_neg hb2]
    by_cases h0 : 0 < a
    · obtain ⟨k1, k2, k3⟩ := c2 hb2 h0
      rw [if_pos h0]
      refine Ev.neg (by simp) (Ev.neg (by simp <;> omega) (Ev.neg (by simp <;> omega) (Ev.neg (by omega) ?_)))
      exact key (a - 1) b (by omega) (by omega) k1 (by omega)
    · obtain ⟨k1, k2, k3, k4⟩ := c3 hb2 h0
      rw [if_neg h0]
      refine Ev.neg (by simp) (Ev.neg (by simp <;> omega) (Ev.neg (by simp <;> omega) (Ev.neg (by omega) ?_)))
      exact key a b (by omega) (by omega) k1 (by omega)
end Go.Proofs.Ytnmcdkekflnekaa
