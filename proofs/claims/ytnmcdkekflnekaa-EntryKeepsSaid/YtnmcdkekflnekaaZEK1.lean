/- Joined by merge.py out of this work's texts: MV, PEnF, R3a, Sl, R3b, R3c, XU, L3, Sg, R4, R4b, XL, L4, QK0, QK1. -/
import Derived.Test.YtnmcdkekflnekaaZEK0
import Derived.Lib.SmallJoins
import Derived.Test.YtnmcdkekflnekaaProg
import Derived.Below
import Derived.Deep.Draws
import Derived.Deep.AppendLies
import Derived.Maps.AppendAt
import Derived.OwnWalk
import Derived.Laws.BytesArg
import Derived.Laws.MakeOwn
import Derived.Laws.OwnMore
import Derived.Deep.OwnRows
import Derived.Tactics
import Derived.Lib.ConvBytes
import Derived.Laws.Slices
import Derived.WalkKit
import Derived.KernelRfl
import Derived.RowKit3
import Derived.Deep.LoopGhost
import Derived.Deep.QuietTactic
import Derived.BigQuiet
import Derived.WideLaws
import Derived.Deep.DeepCutAuto
import Derived.Deep.CutBlock
import Derived.Deep.RegionHeld3
import Derived.Laws.Rows
import Derived.Lib.AppendStr
import Derived.ArgAppend
import Derived.Laws.IdiomCopy
import Derived.OrdersHeld
import Derived.Laws.BitsLemmas
import Derived.RowKit
import Derived.Test.YtnmcdkekflnekaaWWords
import Derived.Test.YtnmcdkekflnekaaWLast
import Derived.Test.YtnmcdkekflnekaaWTab
import Derived.Test.YtnmcdkekflnekaaWQPut
import Derived.Test.YtnmcdkekflnekaaWApart
import Derived.Test.YtnmcdkekflnekaaWArr
import Derived.Test.YtnmcdkekflnekaaWZeros
import Derived.Test.YtnmcdkekflnekaaWFoot
import Derived.Test.YtnmcdkekflnekaaWKept
import Derived.Test.YtnmcdkekflnekaaWShare
import Derived.Test.YtnmcdkekflnekaaWN
import Derived.Test.YtnmcdkekflnekaaWFootNe
import Derived.Test.YtnmcdkekflnekaaWEqStruct
import Derived.Test.YtnmcdkekflnekaaWRepsOne
import Derived.Test.YtnmcdkekflnekaaWNEv
import Derived.Test.YtnmcdkekflnekaaWMore
/- Texts one behind the other; where a line ends: plain facts. -/
namespace Go.Proofs.Ytnmcdkekflnekaa
open Go.RowKit
set_option linter.unusedVariables false
set_option linter.unusedSimpArgs false
theorem valid_app : ∀ (m : Nat) (a b : List UInt8), a.length ≤ m → validL a = true → validL b = true → validL (a ++ b) = true
  | 0, a, b, hm, _, hb => by
    have : a = [] := List.length_eq_zero_iff.1 (by omega)
    subst this; exact hb
  | m + 1, a, b, hm, ha, hb => by
    by_cases h0 : a.length = 0
    · have : a = [] := List.length_eq_zero_iff.1 h0
      subst this; exact hb
    · have hz := valid_sz ha h0
      have hle := szL_le a
      have h1 := (sz_take a (szL a) (by omega) hle).2 rfl
      have h2 : (a ++ b).take (szL a) = a.take (szL a) := List.take_append_of_le_length hle
      have h3 : szL (a ++ b) = szL a := by
        refine (sz_take (a ++ b) (szL a) (by omega) (by rw [List.length_append]; omega)).1 ?_
        rw [h2]; exact h1
      have h4 : (a ++ b).drop (szL a) = a.drop (szL a) ++ b := List.drop_append_of_le_length hle
      rw [validL_step (by rw [List.length_append]; omega) (by rw [h3]; exact hz), h3, h4]
      refine valid_app m _ b (by rw [List.length_drop]; omega) ?_ hb
      rw [← validL_step h0 hz]; exact ha
theorem valid_append {a b : List UInt8} (ha : validL a = true) (hb : validL b = true) : validL (a ++ b) = true := valid_app a.length a b (Nat.le_refl _) ha hb
theorem place_le {l : List UInt8} {k : Nat} (h : placeB l k = true) : k ≤ l.length := (valid_at h).2.1
theorem place_valid {l : List UInt8} {p : Int} (h : placeB l p = true) : validL l = true := by
  unfold placeB at h; simp only [Bool.and_eq_true] at h; exact h.2
theorem place_take {l : List UInt8} {k : Nat} (h : placeB l k = true) : validL (l.take k) = true :=
  valid_tk _ l k (Nat.le_refl _) (place_valid h) (place_le h) (place_inn h)
theorem place_drop {l : List UInt8} {k : Nat} (h : placeB l k = true) : validL (l.drop k) = true := (valid_at h).1
theorem place_iff {l : List UInt8} {k : Nat} : placeB l k = true ↔ k ≤ l.length ∧ validL (l.take k) = true ∧ validL (l.drop k) = true := by
  constructor
  · intro h; exact ⟨place_le h, place_take h, place_drop h⟩
  · rintro ⟨h1, h2, h3⟩
    refine place_mk ?_ h1 ?_
    · have := valid_append h2 h3; rwa [List.take_append_drop] at this
    · by_cases he : k = l.length
      · exact .inl he
      · refine .inr ?_
        have := valid_first h3 (by rw [List.length_drop]; omega)
        rwa [byL_drop] at this
theorem place_app {a b : List UInt8} (ha : validL a = true) (hb : validL b = true) : placeB (a ++ b) (a.length : Nat) = true :=
  place_iff.2 ⟨by rw [List.length_append]; omega, by rw [List.take_left]; exact ha, by rw [List.drop_left]; exact hb⟩
theorem place_int {l : List UInt8} {p : Int} (h : placeB l p = true) : ∃ k : Nat, p = k ∧ k ≤ l.length := by
  have h' := h
  unfold placeB at h'
  simp only [Bool.and_eq_true, decide_eq_true_eq] at h'
  exact ⟨p.toNat, by omega, by omega⟩
theorem byL_app1 {a b : List UInt8} {k : Nat} (h : k < a.length) : byL (a ++ b) k = byL a k := by
  unfold byL; rw [List.getD_eq_getElem?_getD, List.getD_eq_getElem?_getD, List.getElem?_append_left h]
theorem byL_app2 {a b : List UInt8} {k : Nat} (h : a.length ≤ k) : byL (a ++ b) k = byL b (k - a.length) := by
  unfold byL; rw [List.getD_eq_getElem?_getD, List.getD_eq_getElem?_getD, List.getElem?_append_right h]
theorem end_gt {l : List UInt8} {p e : Nat} (h : placeB l p = true) (he : endI l (ofI l p) = e) : (p < e ↔ p < l.length ∧ byL l p ≠ 10) ∧ p ≤ e ∧ e ≤ l.length := by
  have hv := place_valid h
  have hp := place_le h
  obtain ⟨ho, -, -⟩ := start_of hp hv
  obtain ⟨a, ha, hl⟩ := lns_split l p hp
  have key : ∀ e', (lns l)[fds l p]? = some (lst l p, e') → e' = e := by
    intro e' h1
    have h2 : lineI l (ofI l p) = some (lst l p, e') := by
      unfold lineI
      rw [ho, if_pos ⟨hv, by omega⟩]
      simpa using h1
    have : endI l (ofI l p) = e' := by unfold endI; rw [h2]
    omega
  have key2 : ∀ e' r, lnsF (l.drop p) (lst l p) p = (lst l p, e') :: r → e' = e := by
    intro e' r h1
    refine key e' ?_
    rw [ha, h1, ← hl]; simp
  by_cases hc : p < l.length
  · have hs := lnsF_step l (lst l p) p hc
    by_cases ht : byL l p = 10
    · rw [if_pos ht] at hs
      have := key2 _ _ hs
      subst this
      exact ⟨⟨fun h => by omega, fun h => absurd ht h.2⟩, Nat.le_refl _, hp⟩
    · rw [if_neg ht] at hs
      obtain ⟨e', q, h1, h2, h3⟩ := lnsF_head (l.drop (p + 1)) (lst l p) (p + 1)
      rw [h1] at hs
      have := key2 _ _ hs
      subst this
      rw [List.length_drop] at h3
      exact ⟨⟨fun _ => ⟨hc, ht⟩, fun _ => by omega⟩, by omega, by omega⟩
  · have hs := lnsF_end l (lst l p) p (by omega)
    have := key2 _ _ hs
    subst this
    exact ⟨⟨fun h => by omega, fun h => absurd h.1 hc⟩, Nat.le_refl _, hp⟩
theorem line_fds {l : List UInt8} {p e : Nat} (h : placeB l p = true) (he : endI l (ofI l p) = e) : fds l (lst l p) = fds l p ∧ fds l e = fds l p := by
  have hv := place_valid h
  have hp := place_le h
  obtain ⟨ho, -, -⟩ := start_of hp hv
  obtain ⟨e', h1, -, -⟩ := line_of l p hp
  have h2 : lineI l (ofI l p) = some (lst l p, e') := by
    unfold lineI
    rw [ho, if_pos ⟨hv, by omega⟩]
    simpa using h1
  have h3 : endI l (ofI l p) = e' := by unfold endI; rw [h2]
  have : e' = e := by omega
  subst this
  have := lnsF_fds l 0 0 l rfl (by simp) rfl (fds l p) (lst l p, e') h1
  have hz : fds l 0 = 0 := by simp [fds, tens]
  rw [hz] at this
  dsimp only at this
  omega
theorem ofI_at {l : List UInt8} {p : Nat} (h : placeB l p = true) : ofI l p = fds l p := (start_of (place_le h) (place_valid h)).1
theorem fds_drop (l : List UInt8) (i : Nat) : fds l i + tens (l.drop i) = tens l := by
  unfold fds tens
  rw [← List.count_append, List.take_append_drop]
theorem tens_append (a b : List UInt8) : tens (a ++ b) = tens a + tens b := by unfold tens; rw [List.count_append]
theorem lst_zero_or {l : List UInt8} {p : Nat} : lst l p = 0 ∨ (0 < lst l p ∧ byL l (lst l p - 1) = 10) := by
  by_cases h : lst l p = 0
  · exact .inl h
  · exact .inr ⟨by omega, lst_ten l p (by omega)⟩
end Go.Proofs.Ytnmcdkekflnekaa
/- Line feeds, classes and what is taken out: plain facts. -/
namespace Go.Proofs.Ytnmcdkekflnekaa
open Go.RowKit
set_option linter.unusedVariables false
set_option linter.unusedSimpArgs false
theorem kind_cls (l : List UInt8) (p : Int) : kindI l p false = clsI l p := rfl
theorem fed_prev {l : List UInt8} {k : Nat} (h : placeB l k = true) (hk : 0 < k) : (fedB l k = true ↔ byL l (prevFrom l (k - 1)) = 10) ∧ (fedB l k = true → prevFrom l (k - 1) = k - 1) := by
  obtain ⟨_, hle, hv⟩ := valid_at h
  obtain ⟨h1, h2, h3⟩ := prev_gap hv (k - 1) (by omega)
  have a1 : fedB l k = true → prevFrom l (k - 1) = k - 1 := by
    intro hf
    have hb : byL l (k - 1) = 10 := by unfold fedB at hf; simp at hf; exact hf.2
    have := (ten_place hv (by omega) hb).1
    exact Nat.le_antisymm h1 (prev_ge h this (by omega))
  refine ⟨⟨fun hf => ?_, fun hb => ?_⟩, a1⟩
  · rw [a1 hf]; unfold fedB at hf; simp at hf; exact hf.2
  · have h4 := (ten_place hv (by omega) hb).2
    have e : prevFrom l (k - 1) = k - 1 := by
      rcases Nat.lt_or_ge (prevFrom l (k - 1)) (k - 1) with h | h
      · rw [h3 (prevFrom l (k - 1) + 1) (by omega) (by omega)] at h4; cases h4
      · omega
    rw [e] at hb
    unfold fedB; simp; exact ⟨hk, hb⟩
theorem cls_four {l : List UInt8} {k : Nat} (h : placeB l k = true) (hk : k < l.length) : clsI l k = 4 ↔ byL l k = 10 := by
  unfold clsI; rw [if_pos ⟨h, by omega⟩, Int.toNat_natCast]
  unfold ofB
  split
  · simp [*]
  · split
    · simp [*]
    · split <;> simp [*]
theorem fed_cls {l : List UInt8} {k : Nat} (h : placeB l k = true) (hk : 0 < k) : fedB l k = true ↔ clsI l (prevI l k) = 4 := by
  obtain ⟨_, hle, hv⟩ := valid_at h
  obtain ⟨h1, h2, h3⟩ := prev_gap hv (k - 1) (by omega)
  rw [(fed_prev h hk).1, prevI_at h hk, cls_four h2 (by omega)]
theorem fed_lst {l : List UInt8} {k : Nat} (hk : 0 < k) : fedB l k = true ↔ lst l k = k := by
  obtain ⟨j, rfl⟩ : ∃ j, k = j + 1 := ⟨k - 1, by omega⟩
  unfold fedB; rw [lst]
  have := lst_le l j
  split <;> simp_all <;> omega
theorem wbF_ge {l : List UInt8} {f : Nat} {pass : Int → Bool} (hf : placeB l f = true) : ∀ (n k : Nat), placeB l k = true → f ≤ k → f ≤ wbF l f pass n k
  | 0, _, _, h => h
  | n + 1, k, hp, h => by
    unfold wbF
    split
    · split
      · rw [prevI_at hp (by omega), Int.toNat_natCast]
        obtain ⟨_, hle, hv⟩ := valid_at hp
        exact wbF_ge hf n _ (prev_gap hv (k - 1) (by omega)).2.1 (prev_ge hp hf (by omega))
      · exact h
    · exact h
def wrgI (l : List UInt8) (p f : Int) : Int := if placeB l p = true ∧ placeB l f = true then (if p ≤ f then 10 else 0) else 1
theorem cutS_max (t : ByteArray) (p f q : Nat) : cutS t p f q = cutS t p (max f q) (max f q) := by unfold cutS; rw [Nat.max_self]
theorem cut_no {t : ByteArray} {p f Q : Int} (h : wrgI (ls t) p f ≠ 0) : cutF t p f Q = (⟨#[]⟩, 0, wrgI (ls t) p f) := by
  unfold wrgI cutF at *
  split at h
  · rename_i hc
    rw [if_pos hc, if_pos hc]
    split at h
    · rename_i hd; rw [if_pos hd, if_pos hd]
    · exact absurd rfl h
  · rename_i hc
    rw [if_neg hc, if_neg hc]
theorem cut_yes {t : ByteArray} {p f : Int} (h : wrgI (ls t) p f = 0) : ∃ a b : Nat, p = a ∧ f = b ∧ placeB (ls t) a = true ∧ placeB (ls t) b = true ∧ b < a ∧ a ≤ t.size := by
  unfold wrgI at h
  split at h
  · rename_i hc
    obtain ⟨a, rfl, ha⟩ := place_nat hc.1
    obtain ⟨b, rfl, hb⟩ := place_nat hc.2
    rw [ls_len] at ha
    split at h
    · cases h
    · exact ⟨a, b, rfl, rfl, hc.1, hc.2, by omega, ha⟩
  · cases h
theorem chopQ_ge {l : List UInt8} {p f : Nat} (hp : placeB l p = true) (hf : placeB l f = true) (h : f < p) : f ≤ chopQ l p f := by
  have h1 := wbF_place (l := l) (f := f) (pass := fun q => clsI l q == 1) (p + 1) p hp
  have h2 := wbF_ge (l := l) (pass := fun q => clsI l q == 1) hf (p + 1) p hp (by omega)
  unfold chopQ
  split
  · omega
  · split
    · exact h2
    · exact wbF_ge hf _ _ h1.1 h2
theorem up_len {l : List UInt8} {p : Nat} (hp : p ≤ l.length) : (upL l p).length = p - lst l p := by
  unfold upL; have := lst_le l p; rw [List.length_take, List.length_drop]; omega
theorem valid_cnt {l : List UInt8} (hv : validL l = true) : 0 < cntL l ↔ l ≠ [] := by
  constructor
  · rintro h rfl; simp [cntL] at h
  · intro h
    cases l with
    | nil => exact absurd rfl h
    | cons b r =>
      have := valid_first hv (by simp)
      unfold cntL byL at *
      simp at this ⊢
      exact .inl (by simpa using this)
theorem col_pos {l : List UInt8} {p : Nat} (hp : placeB l p = true) : colI l p > 0 ↔ lst l p < p := by
  obtain ⟨_, hle, hv⟩ := valid_at hp
  unfold colI; rw [if_pos hp, Int.toNat_natCast]
  have hvu : validL (upL l p) = true := row_valid (lst_le l p) (lst_place hv p hle) hp
  unfold countI; rw [if_pos hvu]
  have h1 := valid_cnt hvu
  have h2 := up_len hle
  have h3 : upL l p ≠ [] ↔ (upL l p).length ≠ 0 := by rw [Ne, Ne, List.length_eq_zero_iff]
  have h4 := lst_le l p
  constructor
  · intro h; have := h3.1 (h1.1 (by omega)); omega
  · intro h; have := h1.2 (h3.2 (by omega)); omega
theorem lst_fed {l : List UInt8} {p : Nat} : lst l p < p ↔ 0 < p ∧ fedB l p = false := by
  have h0 := lst_le l p
  by_cases hp : 0 < p
  · have := fed_lst (l := l) hp
    cases hb : fedB l p <;> rw [hb] at this <;> simp at this <;> simp [hp] <;> omega
  · constructor
    · intro h; omega
    · intro h; omega
end Go.Proofs.Ytnmcdkekflnekaa
/- The contracts of the reference calamusref03. -/
namespace Go.Proofs.Ytnmcdkekflnekaa
open Go.RowKit
set_option linter.unusedVariables false
set_option linter.unusedSimpArgs false
theorem bytes_ret {a : List UInt8} {b : List UInt8} (h : a = b) : Ending.returned (.string ⟨a.toArray⟩) = .returned (.string ⟨b.toArray⟩) := by rw [h]
theorem bytes_retE {a : ByteArray} {b : List UInt8} (h : a.data.toList = b) : Ending.returned (.string a) = .returned (.string ⟨b.toArray⟩) := by rw [← h, Lib.mk_data]
set_option maxHeartbeats 4000000 in
set_option maxRecDepth 100000 in
theorem rbytes_c (n : Int) (w : World) : Calls Try.prog 141 #[.int .i64 n] w fun e w' => e = .returned (.string ⟨(bytesL n).toArray⟩) ∧ Ext w w' := by
  have k1 := fun (W : World) (a : Int) => conv_new (P := Try.prog) W 99 9 5 [a] Try.underlying99 Try.underlying5 Try.underlying9 #[.int .u8 a] 1 rfl rfl
  have k2 := fun (W : World) (a b : Int) => conv_new (P := Try.prog) W 99 9 5 [a, b] Try.underlying99 Try.underlying5 Try.underlying9 #[.int .u8 a, .int .u8 b] 2 rfl rfl
  have k3 := fun (W : World) (a b c : Int) => conv_new (P := Try.prog) W 99 9 5 [a, b, c] Try.underlying99 Try.underlying5 Try.underlying9 #[.int .u8 a, .int .u8 b, .int .u8 c] 3 rfl rfl
  have k4 := fun (W : World) (a b c d : Int) => conv_new (P := Try.prog) W 99 9 5 [a, b, c, d] Try.underlying99 Try.underlying5 Try.underlying9 #[.int .u8 a, .int .u8 b, .int .u8 c, .int .u8 d] 4 rfl rfl
  go_enter Try.func141, Try.ntmps141
  go_wp2
  all_goals clear k1 k2 k3 k4
  all_goals (go_ret; refine ⟨bytes_retE ?_, (by (repeat (first | exact Ext.refl _ | exact ‹Ext _ _› | refine Ext.alloc ?_ _ | refine Ext.drew ?_ | refine Ext.drewN ?_ _ | (refine Ext.setCell ?_ (by first | omega | (simp; done) | (simp; omega)) _) | refine Ext.trans ?_ ‹Ext _ _›)))⟩; unfold bytesL)
  all_goals first
    | (rw [if_pos (by omega)]; done)
    | (rw [if_neg (by omega), if_pos (by omega)]; done)
    | (rw [if_neg (by omega), if_neg (by omega), if_pos (by omega)]; done)
    | (rw [if_neg (by omega), if_neg (by omega), if_neg (by omega), if_pos (by omega)]; done)
    | (rw [if_neg (by omega), if_neg (by omega), if_neg (by omega), if_neg (by omega)]; done)

set_option maxHeartbeats 4000000 in
set_option maxRecDepth 100000 in
theorem rnumber_2 (s : ByteArray) (hc : s.size = 2) (w : World) : Calls Try.prog 142 #[.string s] w fun e w' => e = .returned (.int .i64 (numI (ls s))) ∧ Ext w w' := by
  have HN := Lib.hid (numI_2 (l := ls s) (by rw [ls_len]; exact hc))
  have H0 := Lib.hid (byL_eq s 0 (by omega))
  have y0 : 0 ≤ ((s[0]'(by omega)).toNat : Int) ∧ ((s[0]'(by omega)).toNat : Int) ≤ 255 := by have := (s[0]'(by omega)).toNat_lt; omega
  have H1 := Lib.hid (byL_eq s 1 (by omega))
  have y1 : 0 ≤ ((s[1]'(by omega)).toNat : Int) ∧ ((s[1]'(by omega)).toNat : Int) ≤ 255 := by have := (s[1]'(by omega)).toNat_lt; omega
  go_enter Try.func142, Try.ntmps142
  go_wp2
  go_rounds 3
  all_goals (go_ret; refine ⟨ret1 ?_, (by (repeat (first | exact Ext.refl _ | exact ‹Ext _ _› | refine Ext.alloc ?_ _ | refine Ext.drew ?_ | refine Ext.drewN ?_ _ | (refine Ext.setCell ?_ (by first | omega | (simp; done) | (simp; omega)) _) | refine Ext.trans ?_ ‹Ext _ _›)))⟩; rw [HN.out, ← H0.out, ← H1.out]; unfold num2; repeat' (first | omega | split))

set_option maxHeartbeats 4000000 in
set_option maxRecDepth 100000 in
theorem rnumber_3 (s : ByteArray) (hc : s.size = 3) (w : World) : Calls Try.prog 142 #[.string s] w fun e w' => e = .returned (.int .i64 (numI (ls s))) ∧ Ext w w' := by
  have HN := Lib.hid (numI_3 (l := ls s) (by rw [ls_len]; exact hc))
  have H0 := Lib.hid (byL_eq s 0 (by omega))
  have y0 : 0 ≤ ((s[0]'(by omega)).toNat : Int) ∧ ((s[0]'(by omega)).toNat : Int) ≤ 255 := by have := (s[0]'(by omega)).toNat_lt; omega
  have H1 := Lib.hid (byL_eq s 1 (by omega))
  have y1 : 0 ≤ ((s[1]'(by omega)).toNat : Int) ∧ ((s[1]'(by omega)).toNat : Int) ≤ 255 := by have := (s[1]'(by omega)).toNat_lt; omega
  have H2 := Lib.hid (byL_eq s 2 (by omega))
  have y2 : 0 ≤ ((s[2]'(by omega)).toNat : Int) ∧ ((s[2]'(by omega)).toNat : Int) ≤ 255 := by have := (s[2]'(by omega)).toNat_lt; omega
  go_enter Try.func142, Try.ntmps142
  go_wp2
  go_rounds 4
  all_goals (go_ret; refine ⟨ret1 ?_, (by (repeat (first | exact Ext.refl _ | exact ‹Ext _ _› | refine Ext.alloc ?_ _ | refine Ext.drew ?_ | refine Ext.drewN ?_ _ | (refine Ext.setCell ?_ (by first | omega | (simp; done) | (simp; omega)) _) | refine Ext.trans ?_ ‹Ext _ _›)))⟩; rw [HN.out, ← H0.out, ← H1.out, ← H2.out]; unfold num3; repeat' (first | omega | split))

set_option maxHeartbeats 4000000 in
set_option maxRecDepth 100000 in
theorem rnumber_4 (s : ByteArray) (hc : s.size = 4) (w : World) : Calls Try.prog 142 #[.string s] w fun e w' => e = .returned (.int .i64 (numI (ls s))) ∧ Ext w w' := by
  have HN := Lib.hid (numI_4 (l := ls s) (by rw [ls_len]; exact hc))
  have H0 := Lib.hid (byL_eq s 0 (by omega))
  have y0 : 0 ≤ ((s[0]'(by omega)).toNat : Int) ∧ ((s[0]'(by omega)).toNat : Int) ≤ 255 := by have := (s[0]'(by omega)).toNat_lt; omega
  have H1 := Lib.hid (byL_eq s 1 (by omega))
  have y1 : 0 ≤ ((s[1]'(by omega)).toNat : Int) ∧ ((s[1]'(by omega)).toNat : Int) ≤ 255 := by have := (s[1]'(by omega)).toNat_lt; omega
  have H2 := Lib.hid (byL_eq s 2 (by omega))
  have y2 : 0 ≤ ((s[2]'(by omega)).toNat : Int) ∧ ((s[2]'(by omega)).toNat : Int) ≤ 255 := by have := (s[2]'(by omega)).toNat_lt; omega
  have H3 := Lib.hid (byL_eq s 3 (by omega))
  have y3 : 0 ≤ ((s[3]'(by omega)).toNat : Int) ∧ ((s[3]'(by omega)).toNat : Int) ≤ 255 := by have := (s[3]'(by omega)).toNat_lt; omega
  go_enter Try.func142, Try.ntmps142
  go_wp2
  go_rounds 5
  all_goals (go_ret; refine ⟨ret1 ?_, (by (repeat (first | exact Ext.refl _ | exact ‹Ext _ _› | refine Ext.alloc ?_ _ | refine Ext.drew ?_ | refine Ext.drewN ?_ _ | (refine Ext.setCell ?_ (by first | omega | (simp; done) | (simp; omega)) _) | refine Ext.trans ?_ ‹Ext _ _›)))⟩; rw [HN.out, ← H0.out, ← H1.out, ← H2.out, ← H3.out]; unfold num4; repeat' (first | omega | split))

set_option maxHeartbeats 4000000 in
set_option maxRecDepth 100000 in
theorem rnumber_1 (s : ByteArray) (hc : s.size = 1) (w : World) : Calls Try.prog 142 #[.string s] w fun e w' => e = .returned (.int .i64 (numI (ls s))) ∧ Ext w w' := by
  have HN := Lib.hid (numI_1 (l := ls s) (by rw [ls_len]; exact hc))
  have H0 := Lib.hid (byL_eq s 0 (by omega))
  have y0 : 0 ≤ ((s[0]'(by omega)).toNat : Int) ∧ ((s[0]'(by omega)).toNat : Int) ≤ 255 := by have := (s[0]'(by omega)).toNat_lt; omega
  go_enter Try.func142, Try.ntmps142
  go_wp2
  all_goals (go_ret; refine ⟨ret1 ?_, (by (repeat (first | exact Ext.refl _ | exact ‹Ext _ _› | refine Ext.alloc ?_ _ | refine Ext.drew ?_ | refine Ext.drewN ?_ _ | (refine Ext.setCell ?_ (by first | omega | (simp; done) | (simp; omega)) _) | refine Ext.trans ?_ ‹Ext _ _›)))⟩; rw [HN.out, ← H0.out])
theorem rnumber_c (s : ByteArray) (h1 : 1 ≤ s.size) (h2 : s.size ≤ 4) (w : World) : Calls Try.prog 142 #[.string s] w fun e w' => e = .returned (.int .i64 (numI (ls s))) ∧ Ext w w' := by
  have hc : s.size = 1 ∨ s.size = 2 ∨ s.size = 3 ∨ s.size = 4 := by omega
  rcases hc with hc | hc | hc | hc
  · exact rnumber_1 s hc w
  · exact rnumber_2 s hc w
  · exact rnumber_3 s hc w
  · exact rnumber_4 s hc w

theorem is_bool (s : ByteArray) (h1 : 1 ≤ s.size) (h2 : s.size ≤ 4) : (bytesL (numI (ls s)) == s.toList) = isL (ls s) := by
  rw [Lib.toList_data]
  exact is_eq (ls s) (by rw [ls_len]; exact h1) (by rw [ls_len]; exact h2)
set_option maxHeartbeats 4000000 in
set_option maxRecDepth 100000 in
theorem ris_c (s : ByteArray) (w : World) : Calls Try.prog 126 #[.string s] w fun e w' => e = .returned (.bool (isL (ls s))) ∧ Ext w w' := by
  by_cases h1 : 1 ≤ s.size
  · by_cases h2 : s.size ≤ 4
    · have HI := Lib.hid (is_bool s h1 h2)
      go_enter Try.func126, Try.ntmps126
      go_wp2_with (first | (go_at_call 141; refine (rbytes_c _ _).mono ?_; rintro e w1 ⟨rfl, hx1⟩) | (go_at_call 142; refine (rnumber_c _ h1 h2 _).mono ?_; rintro e w1 ⟨rfl, hx1⟩))
      go_ret
      exact ⟨retb HI.out, (by (repeat (first | exact Ext.refl _ | exact ‹Ext _ _› | refine Ext.alloc ?_ _ | refine Ext.drew ?_ | refine Ext.drewN ?_ _ | (refine Ext.setCell ?_ (by first | omega | (simp; done) | (simp; omega)) _) | refine Ext.trans ?_ ‹Ext _ _›)))⟩
    · have h3 : 5 ≤ s.size := by omega
      clear h2
      have HI : Hid (isL (ls s) = false) := Lib.hid (is_long _ (by rw [ls_len]; omega))
      go_enter Try.func126, Try.ntmps126
      go_wp2_with (first | (go_at_call 141; refine (rbytes_c _ _).mono ?_; rintro e w1 ⟨rfl, hx1⟩))
      go_ret
      exact ⟨retb HI.out.symm, (by (repeat (first | exact Ext.refl _ | exact ‹Ext _ _› | refine Ext.alloc ?_ _ | refine Ext.drew ?_ | refine Ext.drewN ?_ _ | (refine Ext.setCell ?_ (by first | omega | (simp; done) | (simp; omega)) _) | refine Ext.trans ?_ ‹Ext _ _›)))⟩
  · have h3 : s.size = 0 := by omega
    clear h1
    have HI : Hid (isL (ls s) = false) := Lib.hid (is_none _ (by rw [ls_len]; omega))
    go_enter Try.func126, Try.ntmps126
    go_wp2_with (first | (go_at_call 141; refine (rbytes_c _ _).mono ?_; rintro e w1 ⟨rfl, hx1⟩))
    go_ret
    exact ⟨retb HI.out.symm, (by (repeat (first | exact Ext.refl _ | exact ‹Ext _ _› | refine Ext.alloc ?_ _ | refine Ext.drew ?_ | refine Ext.drewN ?_ _ | (refine Ext.setCell ?_ (by first | omega | (simp; done) | (simp; omega)) _) | refine Ext.trans ?_ ‹Ext _ _›)))⟩

end Go.Proofs.Ytnmcdkekflnekaa
/- Slices of whole numbers: what is read, and what a call has made itself. -/
namespace Go.Proofs.Ytnmcdkekflnekaa
open Go.RowKit
set_option linter.unusedVariables false
set_option linter.unusedSimpArgs false
def RdI (w : World) (a : Option Addr) (xs : List Int) : Prop := ∀ j, j < xs.length → ∃ g o, a = some ⟨g, o, none⟩ ∧ w.cell? ⟨g, o + j, none⟩ = some (.int .i64 (xs.getD j 0))
theorem RdI.ext {w w' : World} {a : Option Addr} {xs : List Int} (h : RdI w a xs) (hx : Ext w w') : RdI w' a xs := by
  intro j hj
  obtain ⟨g, o, ha, hc⟩ := h j hj
  exact ⟨g, o, ha, by rw [Below.cell hx (World.block_lt_of_cell? w _ hc)]; exact hc⟩
theorem RdI.take {w : World} {a : Option Addr} {xs : List Int} (h : RdI w a xs) (n : Nat) : RdI w a (xs.take n) := by
  intro j hj
  have hl : j < xs.length := by rw [List.length_take] at hj; omega
  obtain ⟨g, o, ha, hc⟩ := h j hl
  refine ⟨g, o, ha, ?_⟩
  rw [hc]
  have : j < n := by rw [List.length_take] at hj; omega
  simp [List.getD_eq_getElem?_getD, List.getElem?_take, this]
def OwnI (base : Nat) (w : World) (a : Option Addr) (cap : Nat) (xs : List Int) : Prop := w.ownsRow base 3 1 (.slice a xs.length cap) xs.length (xs.map (Value.int .i64))
theorem OwnI.nil (base : Nat) (w : World) : OwnI base w none 0 [] := World.ownsRow_nil _ _ _ _
theorem OwnI.kept {base : Nat} {w w' : World} {row : Option Nat} {a : Option Addr} {cap : Nat} {xs : List Int} (h : OwnI base w a cap xs) (hg : w.grownBy w' row) (hne : ∀ g, row = some g → ∀ p, a = some p → p.block ≠ g) : OwnI base w' a cap xs := by
  refine World.ownsRow.kept h hg ?_
  cases a with
  | none => exact .inl rfl
  | some p => right; intro e; exact hne _ e.symm p rfl rfl
theorem OwnI.ext {base : Nat} {w w' : World} {a : Option Addr} {cap : Nat} {xs : List Int} (h : OwnI base w a cap xs) (hx : Ext w w') : OwnI base w' a cap xs :=
  World.ownsRow.kept h ⟨hx.os, hx.tape, hx.output, hx.size, fun k hk _ => Below.block hx k hk⟩ (row := none) (by cases a <;> simp [Value.ownBlock])
theorem OwnI.le {base base' : Nat} {w : World} {a : Option Addr} {cap : Nat} {xs : List Int} (h : OwnI base w a cap xs) (hb : base' ≤ base) : OwnI base' w a cap xs := Go.Joins.ownsRow_le h hb
theorem OwnI.rd {base : Nat} {w : World} {a : Option Addr} {cap : Nat} {xs : List Int} (h : OwnI base w a cap xs) : RdI w a xs := by
  intro j hj
  have hs := Go.Joins.ownsRow_form h (by omega)
  obtain ⟨g, c, hv⟩ := hs
  simp only [Value.slice.injEq] at hv
  obtain ⟨rfl, -, rfl⟩ := hv
  refine ⟨g, 0, rfl, ?_⟩
  rw [Nat.zero_add, World.ownsRow.cellAt h j (by omega)]
  simp [List.getD_eq_getElem?_getD, List.getElem?_map, List.getElem?_eq_getElem hj]
theorem OwnI.lt {base : Nat} {w : World} {a : Option Addr} {cap : Nat} {xs : List Int} (h : OwnI base w a cap xs) : ∀ p, a = some p → base ≤ p.block ∧ p.block < w.heap.size := by
  rintro p rfl
  exact World.ownsRow.lt h p.block rfl
theorem OwnI.lit {base : Nat} (W : World) (hb : base ≤ W.heap.size) (xs : List Int) (cs : Array Value) (hc : cs = (xs.map (Value.int .i64)).toArray) (hm : xs.length ≤ 1000) : OwnI base (W.alloc (.cells cs 3)) (some ⟨W.heap.size, 0, none⟩) xs.length xs := by
  subst hc
  have := World.ownsRow_lit (base := base) (e := 3) (size := 1) W (xs.map (Value.int .i64)).toArray xs.length hb (by unfold maxLen; omega) (by simp)
  simpa [OwnI] using this
theorem Try.infoInt : (Try.prog.info? 3).map (fun i => (i.zero, i.size, i.bytes)) = some (some (.int .i64 0), 1, 8) := by kernel_rfl
theorem app_i {ops : Array Oper} {rest : List Oper} {o : Oper} {act : Act} {Q : Exit → Act → World → Prop} (w0 W : World) (hgd : o.guard = none) (s x : Operand)
    (ho : o.op = .call { callee := .builtin .append, args := #[s, x], argTypes := #[59, 59] }) (a : Option Addr) (cap : Nat) (xs : List Int) (y : Int)
    (hs : act.eval s = .slice a xs.length cap) (hown : OwnI w0.heap.size W a cap xs) (he : Ext w0 W) (hx : act.eval x = .slice (some ⟨W.heap.size, 0, none⟩) 1 1) (hb : xs.length ≤ 1099511627776)
    (h : ∀ a' cap' w', OwnI w0.heap.size w' a' cap' (xs ++ [y]) → Ext w0 w' → wpList Try.prog ops Q rest (act.put o.dst (.slice a' (xs.length + 1) cap')) w') :
    wpList Try.prog ops Q (o :: rest) act (W.alloc (.cells #[.int .i64 y] 3)) := by
  obtain ⟨i0, hi, hz0, hz1, hz2⟩ := info_parts Try.infoInt
  refine wpList_append_own _ hgd s x 59 ho w0.heap.size 3 i0 (.int .i64 0) 1 8 Try.underlying59 hi hz0 hz1 hz2 rfl (by decide) _ xs.length (xs.map (Value.int .i64)) hs (hown.alloc _) ⟨W.heap.size, 0, none⟩ 1 1 [.int .i64 y] hx rfl ?_ (by simp [Value.oneCell']) (by unfold maxLen; omega) (by omega) (by have := he.size; simp; omega) ?_
  · intro j u hj
    match j, hj with
    | 0, hj =>
      simp at hj; subst hj
      have := cell_of_row (W.alloc (.cells #[.int .i64 y] 3)) W.heap.size 0 #[.int .i64 y] 3 (0, 0) (heap_alloc_new W _)
      simp [Addr.add]
  · intro v' w' hown' hg hnil
    obtain ⟨g, c, rfl⟩ := Go.Joins.ownsRow_form hown' (by omega)
    have e1 : Ext w0 w' := by
      refine Below.trans (Below.alloc he he.size (.cells #[.int .i64 y] 3)) ⟨hg.os, hg.tape, hg.output, hg.size, fun k hk => hg.block k (by have := he.size; simp; omega) ?_⟩
      intro e
      cases a with
      | none => simp [Value.ownBlock] at e
      | some p => have := hown.lt p rfl; simp [Value.ownBlock] at e; omega
    refine h (some ⟨g, 0, none⟩) c w' ?_ e1
    simpa [OwnI] using hown'

end Go.Proofs.Ytnmcdkekflnekaa
/- The contracts of the reference calamusref03, by its places. -/
namespace Go.Proofs.Ytnmcdkekflnekaa
open Go.RowKit
set_option linter.unusedVariables false
set_option linter.unusedSimpArgs false
theorem is_ext (s : ByteArray) (i n : Nat) (hn : 1 ≤ n) (hi : i + n ≤ s.size) : isL (ls (s.extract i (i + n))) = decide (szL ((ls s).drop i) = n) := by
  rw [ls_ext2, Nat.add_sub_cancel_left]
  exact is_take _ n hn (by rw [List.length_drop, ls_len]; omega)
def upTo (l : List UInt8) (i : Nat) : List Int := (plcTo l i).map Int.ofNat ++ [(i : Int)]
theorem upTo_len (l : List UInt8) (i : Nat) : (upTo l i).length ≤ i + 1 := by unfold upTo; have := plcTo_len l i; simp; omega
theorem upTo_next (l : List UInt8) (i n : Nat) (hn : szL (l.drop i) = n) (h0 : n ≠ 0) : upTo l i ++ [(i : Int) + n] = upTo l (i + n) := by
  unfold upTo; rw [plcTo_add l i n hn h0]; simp
theorem upTo_end (l : List UInt8) (h : validL l = true) : upTo l l.length = splitI l := by rw [splitI_ok h]; rfl
set_option maxHeartbeats 4000000 in
set_option maxRecDepth 100000 in
theorem rsplit_c (s : ByteArray) (w : World) (hs : s.size ≤ 1099511627775) : Calls Try.prog 101 #[.string s] w fun e w' => ∃ a cap, e = .returned (.slice a (splitI (ls s)).length cap) ∧ OwnI w.heap.size w' a cap (splitI (ls s)) ∧ Ext w w' := by
  go_enter Try.func101, Try.ntmps101
  go_wp2
  go_loopw [3, 4] (fun v i wr => ∃ (k : Nat) (a : Option Addr) (cap : Nat), k ≤ s.size ∧ i = .int .i64 k ∧ v = .slice a (upTo (ls s) k).length cap ∧ OwnI w.heap.size wr a cap (upTo (ls s) k) ∧ validL ((ls s).drop k) = validL (ls s) ∧ Ext w wr) (fun _ i _ => s.size - (intOf i).toNat)
  case atStart => exact ⟨0, some ⟨w.heap.size, 0, none⟩, 1, by omega, rfl, rfl, OwnI.lit w (Nat.le_refl _) [0] _ rfl (by simp), by simp, (by (repeat (first | exact Ext.refl _ | exact ‹Ext _ _› | refine Ext.alloc ?_ _ | refine Ext.drew ?_ | refine Ext.drewN ?_ _ | (refine Ext.setCell ?_ (by first | omega | (simp; done) | (simp; omega)) _) | refine Ext.trans ?_ ‹Ext _ _›)))⟩
  case round =>
    obtain ⟨k, a, cap, hk, rfl, rfl, hown, hok, hx⟩ := hrel
    have Hok := Lib.hid hok
    have Hown := Lib.hid hown
    clear hok hown
    have hul := upTo_len (ls s) k
    by_cases hlt : k < s.size
    · obtain ⟨wo, rfl⟩ : ∃ wo : World, wo = wr := ⟨_, rfl⟩
      go_wp2
      go_loopw [5] (fun v w2 => ∃ n : Nat, 1 ≤ n ∧ n ≤ 5 ∧ v = .int .i64 n ∧ (szL ((ls s).drop k) = 0 ∨ n ≤ szL ((ls s).drop k)) ∧ Ext wo w2) (fun v _ => 5 - (intOf v).toNat)
      case atStart => exact ⟨1, by omega, by omega, rfl, by omega, (by (repeat (first | exact Ext.refl _ | exact ‹Ext _ _› | refine Ext.alloc ?_ _ | refine Ext.drew ?_ | refine Ext.drewN ?_ _ | (refine Ext.setCell ?_ (by first | omega | (simp; done) | (simp; omega)) _) | refine Ext.trans ?_ ‹Ext _ _›)))⟩
      case round =>
        obtain ⟨n, hn1, hn5, rfl, hz, hx2⟩ := hrel
        have hlu := upTo_len (ls s) k
        go_wp2_with (first | (go_at_call 126; refine (ris_c _ _).mono ?_; rintro e w1 ⟨rfl, hx1⟩) | (at_builtin; refine app_i w _ rfl _ _ rfl _ _ (upTo (ls s) k) _ rfl (Hown.out.ext (by (repeat (first | exact Ext.refl _ | exact ‹Ext _ _› | refine Ext.alloc ?_ _ | refine Ext.drew ?_ | refine Ext.drewN ?_ _ | (refine Ext.setCell ?_ (by first | omega | (simp; done) | (simp; omega)) _) | refine Ext.trans ?_ ‹Ext _ _›)))) (by (repeat (first | exact Ext.refl _ | exact ‹Ext _ _› | refine Ext.alloc ?_ _ | refine Ext.drew ?_ | refine Ext.drewN ?_ _ | (refine Ext.setCell ?_ (by first | omega | (simp; done) | (simp; omega)) _) | refine Ext.trans ?_ ‹Ext _ _›))) rfl (by omega) ?_; intro a2 cap2 w2 hown2 hx2))
        all_goals (try simp only [Bool.not_eq_true', Bool.not_eq_false'] at *)
        · go_roundw
          case rel =>
            have hi : isL (ls (s.extract k (k + n))) = false := by rename_i h; rcases h with h | h; (exfalso; omega); exact h
            rw [is_ext s k n hn1 (by omega), decide_eq_false_iff_not] at hi
            exact ⟨n + 1, by omega, by omega, by go_num, by omega, (by (repeat (first | exact Ext.refl _ | exact ‹Ext _ _› | refine Ext.alloc ?_ _ | refine Ext.drew ?_ | refine Ext.drewN ?_ _ | (refine Ext.setCell ?_ (by first | omega | (simp; done) | (simp; omega)) _) | refine Ext.trans ?_ ‹Ext _ _›)))⟩
          case measure => simp [intOf]; omega
        · have hi : isL (ls (s.extract k (k + n))) = true := by
            have h : (k : Int) + n ≤ s.size ∧ isL (ls (s.extract k (k + n))) = true := by assumption
            exact h.2
          rw [is_ext s k n hn1 (by omega), decide_eq_true_eq] at hi
          go_roundw
          case rel =>
            have hnx := upTo_next (ls s) k n hi (by omega)
            refine ⟨k + n, a2, cap2, by omega, by go_num, ?_, ?_, ?_, (by (repeat (first | exact Ext.refl _ | exact ‹Ext _ _› | refine Ext.alloc ?_ _ | refine Ext.drew ?_ | refine Ext.drewN ?_ _ | (refine Ext.setCell ?_ (by first | omega | (simp; done) | (simp; omega)) _) | refine Ext.trans ?_ ‹Ext _ _›)))⟩
            · rw [← hnx]; simp
            · rw [← hnx]; exact hown2
            · rw [← Hok.out, validL_step (l := (ls s).drop k) (by rw [List.length_drop, ls_len]; omega) (by omega), hi, List.drop_drop]
          case measure => simp [intOf]; omega
        · go_roundw
          case rel =>
            have hz2 := szL_le ((ls s).drop k)
            rw [List.length_drop, ls_len] at hz2
            exact ⟨n + 1, by omega, by omega, by go_num, by omega, (by (repeat (first | exact Ext.refl _ | exact ‹Ext _ _› | refine Ext.alloc ?_ _ | refine Ext.drew ?_ | refine Ext.drewN ?_ _ | (refine Ext.setCell ?_ (by first | omega | (simp; done) | (simp; omega)) _) | refine Ext.trans ?_ ‹Ext _ _›)))⟩
          case measure => simp [intOf]; omega
        · have hz4 := szL_hi ((ls s).drop k)
          have hv : validL (ls s) = false := by rw [← Hok.out]; exact validL_bad (by rw [List.length_drop, ls_len]; omega) (by omega)
          go_ret
          exact ⟨none, 0, by rw [splitI_bad hv]; rfl, by rw [splitI_bad hv]; exact OwnI.nil _ _, (by (repeat (first | exact Ext.refl _ | exact ‹Ext _ _› | refine Ext.alloc ?_ _ | refine Ext.drew ?_ | refine Ext.drewN ?_ _ | (refine Ext.setCell ?_ (by first | omega | (simp; done) | (simp; omega)) _) | refine Ext.trans ?_ ‹Ext _ _›)))⟩
    · have hk' : k = s.size := by omega
      subst hk'
      have hv : validL (ls s) = true := by rw [← Hok.out, ← ls_len s, List.drop_length]; exact validL_nil
      have He : Hid (upTo (ls s) s.size = splitI (ls s)) := Lib.hid (by rw [← ls_len s]; exact upTo_end _ hv)
      go_wp2
      go_ret
      exact ⟨a, cap, by first | rfl | (simp; done) | (rw [← He.out]; rfl) | (simp [He.out]; done), by rw [← He.out]; exact Hown.out, (by (repeat (first | exact Ext.refl _ | exact ‹Ext _ _› | refine Ext.alloc ?_ _ | refine Ext.drew ?_ | refine Ext.drewN ?_ _ | (refine Ext.setCell ?_ (by first | omega | (simp; done) | (simp; omega)) _) | refine Ext.trans ?_ ‹Ext _ _›)))⟩

set_option maxHeartbeats 4000000 in
set_option maxRecDepth 100000 in
theorem rfind_c (a : Option Addr) (cap : Nat) (xs : List Int) (p : Int) (w : World) (hr : RdI w a xs) (hl : xs.length ≤ 1152921504606846976) : Calls Try.prog 100 #[.slice a xs.length cap, .int .i64 p] w fun e w' => e = .returned (.int .i64 (findF xs p 0)) ∧ Ext w w' := by
  have HR := Lib.hid hr
  clear hr
  go_enter Try.func100, Try.ntmps100
  go_wp2
  go_loopw [5] (fun i wr => ∃ k : Nat, k ≤ xs.length ∧ i = .int .i64 k ∧ findF (xs.drop k) p k = findF xs p 0 ∧ Ext w wr) (fun i _ => xs.length - (intOf i).toNat)
  case atStart => exact ⟨0, by omega, rfl, by simp, (by (repeat (first | exact Ext.refl _ | exact ‹Ext _ _› | refine Ext.alloc ?_ _ | refine Ext.drew ?_ | refine Ext.drewN ?_ _ | (refine Ext.setCell ?_ (by first | omega | (simp; done) | (simp; omega)) _) | refine Ext.trans ?_ ‹Ext _ _›)))⟩
  case round =>
    obtain ⟨k, hk, rfl, hok, hx⟩ := hrel
    have Hok := Lib.hid hok
    clear hok
    by_cases hlt : k < xs.length
    · have Hs := Lib.hid (findF_step xs p k hlt)
      obtain ⟨g, o, rfl, hc⟩ := (HR.out.ext hx) k hlt
      go_wp2
      all_goals (try simp only [beq_iff_eq, beq_eq_false_iff_ne] at *)
      · go_ret
        refine ⟨ret1 ?_, (by (repeat (first | exact Ext.refl _ | exact ‹Ext _ _› | refine Ext.alloc ?_ _ | refine Ext.drew ?_ | refine Ext.drewN ?_ _ | (refine Ext.setCell ?_ (by first | omega | (simp; done) | (simp; omega)) _) | refine Ext.trans ?_ ‹Ext _ _›)))⟩
        rw [← Hok.out, Hs.out, if_pos (by assumption)]
      · go_roundw
        case rel =>
          refine ⟨k + 1, by omega, by go_num, ?_, (by (repeat (first | exact Ext.refl _ | exact ‹Ext _ _› | refine Ext.alloc ?_ _ | refine Ext.drew ?_ | refine Ext.drewN ?_ _ | (refine Ext.setCell ?_ (by first | omega | (simp; done) | (simp; omega)) _) | refine Ext.trans ?_ ‹Ext _ _›)))⟩
          rw [← Hok.out, Hs.out, if_neg (by assumption)]
        case measure => simp [intOf]; omega
    · have Hs := Lib.hid (findF_end xs p k (by omega))
      go_wp2
      go_ret
      exact ⟨ret1 (by rw [← Hok.out, Hs.out]), (by (repeat (first | exact Ext.refl _ | exact ‹Ext _ _› | refine Ext.alloc ?_ _ | refine Ext.drew ?_ | refine Ext.drewN ?_ _ | (refine Ext.setCell ?_ (by first | omega | (simp; done) | (simp; omega)) _) | refine Ext.trans ?_ ‹Ext _ _›)))⟩

set_option maxHeartbeats 4000000 in
set_option maxRecDepth 100000 in
theorem rvalid_c (s : ByteArray) (w : World) (hs : s.size ≤ 1099511627775) : Calls Try.prog 76 #[.string s] w fun e w' => e = .returned (.bool (validL (ls s))) ∧ Ext w w' := by
  have hsl := splitI_len (ls s)
  rw [ls_len] at hsl
  have Hv : Hid (decide (0 < (splitI (ls s)).length) = validL (ls s)) := Lib.hid (by
    unfold splitI plcs
    rcases Bool.eq_false_or_eq_true (validL (ls s)) with h | h <;> simp [h])
  go_enter Try.func76, Try.ntmps76
  go_wp2_with (first | (go_at_call 101; refine (rsplit_c _ _ hs).mono ?_; rintro e w1 ⟨a, cap, rfl, hown, hx1⟩))
  all_goals (go_ret; exact ⟨retb Hv.out, (by (repeat (first | exact Ext.refl _ | exact ‹Ext _ _› | refine Ext.alloc ?_ _ | refine Ext.drew ?_ | refine Ext.drewN ?_ _ | (refine Ext.setCell ?_ (by first | omega | (simp; done) | (simp; omega)) _) | refine Ext.trans ?_ ‹Ext _ _›)))⟩)

set_option maxHeartbeats 4000000 in
set_option maxRecDepth 100000 in
theorem rplace_c (s : ByteArray) (p : Int) (w : World) (hs : s.size ≤ 1099511627775) : Calls Try.prog 62 #[.string s, .int .i64 p] w fun e w' => e = .returned (.bool (placeB (ls s) p)) ∧ Ext w w' := by
  have hsl := splitI_len (ls s)
  rw [ls_len] at hsl
  have Hp := Lib.hid (place_find (ls s) p)
  go_enter Try.func62, Try.ntmps62
  go_wp2_with (first | (go_at_call 101; refine (rsplit_c _ _ hs).mono ?_; rintro e w1 ⟨a, cap, rfl, hown, hx1⟩) | (go_at_call 100; refine (rfind_c _ _ (splitI (ls s)) _ _ (OwnI.rd (by assumption)) (by omega)).mono ?_; rintro e w1 ⟨rfl, hx1⟩))
  all_goals (go_ret; exact ⟨retb Hp.out, (by (repeat (first | exact Ext.refl _ | exact ‹Ext _ _› | refine Ext.alloc ?_ _ | refine Ext.drew ?_ | refine Ext.drewN ?_ _ | (refine Ext.setCell ?_ (by first | omega | (simp; done) | (simp; omega)) _) | refine Ext.trans ?_ ‹Ext _ _›)))⟩)

end Go.Proofs.Ytnmcdkekflnekaa
/- The contracts of the reference calamusref03, from place to place. -/
namespace Go.Proofs.Ytnmcdkekflnekaa
open Go.RowKit
set_option linter.unusedVariables false
set_option linter.unusedSimpArgs false
set_option maxHeartbeats 4000000 in
set_option maxRecDepth 100000 in
theorem rnext_c (s : ByteArray) (p : Int) (w : World) (hs : s.size ≤ 1099511627775) : Calls Try.prog 66 #[.string s, .int .i64 p] w fun e w' => e = .returned (.int .i64 (nextI (ls s) p)) ∧ Ext w w' := by
  have hsl := splitI_len (ls s)
  rw [ls_len] at hsl
  rcases place_cases s p with hp | ⟨k, rfl, hk, hp, hv⟩
  · have hf := find_bad hp
    have Hn : Hid (nextI (ls s) p = -1) := Lib.hid (by unfold nextI; simp [hp])
    go_enter Try.func66, Try.ntmps66
    go_wp2_with (first | (go_at_call 101; refine (rsplit_c _ _ hs).mono ?_; rintro e w1 ⟨a, cap, rfl, hown, hx1⟩) | (go_at_call 100; refine (rfind_c _ _ (splitI (ls s)) _ _ (OwnI.rd (by assumption)) (by omega)).mono ?_; rintro e w1 ⟨rfl, hx1⟩))
    all_goals (go_ret; exact ⟨ret1 Hn.out.symm, (by (repeat (first | exact Ext.refl _ | exact ‹Ext _ _› | refine Ext.alloc ?_ _ | refine Ext.drew ?_ | refine Ext.drewN ?_ _ | (refine Ext.setCell ?_ (by first | omega | (simp; done) | (simp; omega)) _) | refine Ext.trans ?_ ‹Ext _ _›)))⟩)
  · have hf := find_at hp
    by_cases hlt : k < (ls s).length
    · obtain ⟨h1, h2⟩ := next_at hp hlt
      obtain ⟨m, hm⟩ : ∃ m, m = (plcTo (ls s) k).length := ⟨_, rfl⟩
      rw [← hm] at hf h1 h2
      have H2 := Lib.hid h2
      have h3 : ((m : Int) + 1 == ((splitI (ls s)).length : Int)) = false := by simp; omega
      clear hm h2 hp hlt
      go_enter Try.func66, Try.ntmps66
      go_wp2_with (first | (go_at_call 101; refine (rsplit_c _ _ hs).mono ?_; rintro e w1 ⟨a, cap, rfl, hown, hx1⟩) | (go_at_call 100; refine (rfind_c _ _ (splitI (ls s)) _ _ (OwnI.rd (by assumption)) (by omega)).mono ?_; rintro e w1 ⟨rfl, hx1⟩; obtain ⟨g, o, rfl, hc⟩ := (RdI.ext (OwnI.rd (by assumption)) hx1) (m + 1) h1))
      all_goals (go_ret; refine ⟨ret1 ?_, (by (repeat (first | exact Ext.refl _ | exact ‹Ext _ _› | refine Ext.alloc ?_ _ | refine Ext.drew ?_ | refine Ext.drewN ?_ _ | (refine Ext.setCell ?_ (by first | omega | (simp; done) | (simp; omega)) _) | refine Ext.trans ?_ ‹Ext _ _›)))⟩; rw [← H2.out]; simp [List.getD_eq_getElem?_getD, List.getElem?_eq_getElem h1])
    · obtain ⟨h1, h2⟩ := next_end hp (by rw [ls_len] at hlt ⊢; omega)
      obtain ⟨m, hm⟩ : ∃ m, m = (plcTo (ls s) k).length := ⟨_, rfl⟩
      rw [← hm] at hf h1
      have H2 := Lib.hid h2
      have h3 : ((m : Int) + 1 == ((splitI (ls s)).length : Int)) = true := by rw [h1]; simp
      have h4 : m + 1 ≤ (splitI (ls s)).length := by omega
      clear hm h2 hp hlt h1
      go_enter Try.func66, Try.ntmps66
      go_wp2_with (first | (go_at_call 101; refine (rsplit_c _ _ hs).mono ?_; rintro e w1 ⟨a, cap, rfl, hown, hx1⟩) | (go_at_call 100; refine (rfind_c _ _ (splitI (ls s)) _ _ (OwnI.rd (by assumption)) (by omega)).mono ?_; rintro e w1 ⟨rfl, hx1⟩))
      all_goals (go_ret; exact ⟨ret1 H2.out.symm, (by (repeat (first | exact Ext.refl _ | exact ‹Ext _ _› | refine Ext.alloc ?_ _ | refine Ext.drew ?_ | refine Ext.drewN ?_ _ | (refine Ext.setCell ?_ (by first | omega | (simp; done) | (simp; omega)) _) | refine Ext.trans ?_ ‹Ext _ _›)))⟩)

set_option maxHeartbeats 4000000 in
set_option maxRecDepth 100000 in
theorem rprev_c (s : ByteArray) (p : Int) (w : World) (hs : s.size ≤ 1099511627775) : Calls Try.prog 81 #[.string s, .int .i64 p] w fun e w' => e = .returned (.int .i64 (prevI (ls s) p)) ∧ Ext w w' := by
  have hsl := splitI_len (ls s)
  rw [ls_len] at hsl
  rcases place_cases s p with hp | ⟨k, rfl, hk, hp, hv⟩
  · have hf := find_bad hp
    have Hn : Hid (prevI (ls s) p = -1) := Lib.hid (by unfold prevI; simp [hp])
    go_enter Try.func81, Try.ntmps81
    go_wp2_with (first | (go_at_call 101; refine (rsplit_c _ _ hs).mono ?_; rintro e w1 ⟨a, cap, rfl, hown, hx1⟩) | (go_at_call 100; refine (rfind_c _ _ (splitI (ls s)) _ _ (OwnI.rd (by assumption)) (by omega)).mono ?_; rintro e w1 ⟨rfl, hx1⟩))
    all_goals (go_ret; exact ⟨ret1 Hn.out.symm, (by (repeat (first | exact Ext.refl _ | exact ‹Ext _ _› | refine Ext.alloc ?_ _ | refine Ext.drew ?_ | refine Ext.drewN ?_ _ | (refine Ext.setCell ?_ (by first | omega | (simp; done) | (simp; omega)) _) | refine Ext.trans ?_ ‹Ext _ _›)))⟩)
  · have hf := find_at hp
    by_cases hlt : 0 < k
    · obtain ⟨h1, h2, h3⟩ := prev_at hp hlt
      obtain ⟨m, hm⟩ : ∃ m, m + 1 = (plcTo (ls s) k).length := ⟨(plcTo (ls s) k).length - 1, by omega⟩
      rw [← hm] at hf h1 h2 h3
      simp only [Nat.add_sub_cancel] at h2 h3
      have H2 := Lib.hid h2
      clear hm h2 hp hlt h1
      go_enter Try.func81, Try.ntmps81
      go_wp2_with (first | (go_at_call 101; refine (rsplit_c _ _ hs).mono ?_; rintro e w1 ⟨a, cap, rfl, hown, hx1⟩) | (go_at_call 100; refine (rfind_c _ _ (splitI (ls s)) _ _ (OwnI.rd (by assumption)) (by omega)).mono ?_; rintro e w1 ⟨rfl, hx1⟩; obtain ⟨g, o, rfl, hc⟩ := (RdI.ext (OwnI.rd (by assumption)) hx1) m h3))
      all_goals (go_ret; refine ⟨ret1 ?_, (by (repeat (first | exact Ext.refl _ | exact ‹Ext _ _› | refine Ext.alloc ?_ _ | refine Ext.drew ?_ | refine Ext.drewN ?_ _ | (refine Ext.setCell ?_ (by first | omega | (simp; done) | (simp; omega)) _) | refine Ext.trans ?_ ‹Ext _ _›)))⟩; rw [← H2.out]; simp [List.getD_eq_getElem?_getD, List.getElem?_eq_getElem h3])
    · have hk0 : k = 0 := by omega
      subst hk0
      have e0 : ((0 : Nat) : Int) = 0 := rfl
      have Hn : Hid (prevI (ls s) 0 = -1) := Lib.hid (prev_zero _ rfl).1
      have hz : (plcTo (ls s) 0).length = 0 := by simp [plcTo]
      rw [hz, e0] at hf
      rw [e0]
      clear hz hp hlt e0
      go_enter Try.func81, Try.ntmps81
      go_wp2_with (first | (go_at_call 101; refine (rsplit_c _ _ hs).mono ?_; rintro e w1 ⟨a, cap, rfl, hown, hx1⟩) | (go_at_call 100; refine (rfind_c _ _ (splitI (ls s)) _ _ (OwnI.rd (by assumption)) (by omega)).mono ?_; rintro e w1 ⟨rfl, hx1⟩))
      all_goals (go_ret; exact ⟨ret1 Hn.out.symm, (by (repeat (first | exact Ext.refl _ | exact ‹Ext _ _› | refine Ext.alloc ?_ _ | refine Ext.drew ?_ | refine Ext.drewN ?_ _ | (refine Ext.setCell ?_ (by first | omega | (simp; done) | (simp; omega)) _) | refine Ext.trans ?_ ‹Ext _ _›)))⟩)

set_option maxHeartbeats 4000000 in
set_option maxRecDepth 100000 in
theorem rrune_c (s : ByteArray) (p : Int) (w : World) (hs : s.size ≤ 1099511627775) : Calls Try.prog 118 #[.string s, .int .i64 p] w fun e w' => e = .returned (.string ⟨(runeL (ls s) p).toArray⟩) ∧ Ext w w' := by
  by_cases hn : nextI (ls s) p < 0
  · have Hr := Lib.hid (rune_bad hn)
    go_enter Try.func118, Try.ntmps118
    go_wp2_with (first | (go_at_call 66; refine (rnext_c _ _ _ hs).mono ?_; rintro e w1 ⟨rfl, hx1⟩))
    go_ret
    exact ⟨by rw [Hr.out]; rfl, (by (repeat (first | exact Ext.refl _ | exact ‹Ext _ _› | refine Ext.alloc ?_ _ | refine Ext.drew ?_ | refine Ext.drewN ?_ _ | (refine Ext.setCell ?_ (by first | omega | (simp; done) | (simp; omega)) _) | refine Ext.trans ?_ ‹Ext _ _›)))⟩
  · have h0 : 0 ≤ nextI (ls s) p := by omega
    obtain ⟨k, n, rfl, h1, h2, h3, h4⟩ := rune_ok s p h0
    have H4 := Lib.hid h4
    clear hn h0 h4
    go_enter Try.func118, Try.ntmps118
    go_wp2_with (first | (go_at_call 66; refine (rnext_c _ _ _ hs).mono ?_; rintro e w1 ⟨rfl, hx1⟩))
    go_ret
    exact ⟨rets H4.out.symm, (by (repeat (first | exact Ext.refl _ | exact ‹Ext _ _› | refine Ext.alloc ?_ _ | refine Ext.drew ?_ | refine Ext.drewN ?_ _ | (refine Ext.setCell ?_ (by first | omega | (simp; done) | (simp; omega)) _) | refine Ext.trans ?_ ‹Ext _ _›)))⟩

set_option maxHeartbeats 4000000 in
set_option maxRecDepth 100000 in
theorem rcount_c (s : ByteArray) (w : World) (hs : s.size ≤ 1099511627775) : Calls Try.prog 119 #[.string s] w fun e w' => e = .returned (.int .i64 (countI (ls s))) ∧ Ext w w' := by
  have hsl := splitI_len (ls s)
  rw [ls_len] at hsl
  have Hc := Lib.hid (split_count (ls s))
  go_enter Try.func119, Try.ntmps119
  go_wp2_with (first | (go_at_call 101; refine (rsplit_c _ _ hs).mono ?_; rintro e w1 ⟨a, cap, rfl, hown, hx1⟩))
  all_goals (try simp only [beq_iff_eq, beq_eq_false_iff_ne] at *)
  all_goals (go_ret; refine ⟨ret1 ?_, (by (repeat (first | exact Ext.refl _ | exact ‹Ext _ _› | refine Ext.alloc ?_ _ | refine Ext.drew ?_ | refine Ext.drewN ?_ _ | (refine Ext.setCell ?_ (by first | omega | (simp; done) | (simp; omega)) _) | refine Ext.trans ?_ ‹Ext _ _›)))⟩; rw [← Hc.out])
  · rw [if_pos (by omega)]
  · rw [if_neg (by omega)]

end Go.Proofs.Ytnmcdkekflnekaa
/- The contracts of the packages utf, calamusref03 and class in the printer's form. -/
namespace Go.Proofs.Ytnmcdkekflnekaa
open Go.RowKit
set_option linter.unusedVariables false
set_option linter.unusedSimpArgs false
def utf_Valid.f (a0 : ByteArray) : Option (Bool) := if a0.size ≤ 1099511627775 then some (validL (ls a0)) else none
theorem utf_Valid.eq (a0 : ByteArray) (hg : a0.size ≤ 1099511627775) : utf_Valid.f a0 = some (validL (ls a0)) := if_pos hg
theorem utf_Valid.calls (a0 : ByteArray) (r : Bool) (w : World) (h : utf_Valid.f a0 = some r) : Calls Try.prog 51 #[.string a0] w fun e w' => e = .returned (.bool r) ∧ Below w.heap.size w w' := by
  unfold utf_Valid.f at h
  split at h
  · cases h; exact valid_c a0 w (by omega)
  · cases h
def utf_inner.f (a0 : Int) : Option (Bool) := if 0 ≤ a0 ∧ a0 ≤ 255 then some (inn a0) else none
theorem utf_inner.eq (a0 : Int) (hg : 0 ≤ a0 ∧ a0 ≤ 255) : utf_inner.f a0 = some (inn a0) := if_pos hg
theorem utf_inner.calls (a0 : Int) (r : Bool) (w : World) (h : utf_inner.f a0 = some r) : Calls Try.prog 52 #[.int .u8 a0] w fun e w' => e = .returned (.bool r) ∧ Below w.heap.size w w' := by
  unfold utf_inner.f at h
  split at h
  · cases h; exact inner_c a0 (by omega) (by omega) w
  · cases h
def utf_Place.f (a0 : ByteArray) (a1 : Int) : Option (Bool) := if a0.size ≤ 1099511627775 then some (placeB (ls a0) a1) else none
theorem utf_Place.eq (a0 : ByteArray) (a1 : Int) (hg : a0.size ≤ 1099511627775) : utf_Place.f a0 a1 = some (placeB (ls a0) a1) := if_pos hg
theorem utf_Place.calls (a0 : ByteArray) (a1 : Int) (r : Bool) (w : World) (h : utf_Place.f a0 a1 = some r) : Calls Try.prog 45 #[.string a0, .int .i64 a1] w fun e w' => e = .returned (.bool r) ∧ Below w.heap.size w w' := by
  unfold utf_Place.f at h
  split at h
  · cases h; exact place_c a0 a1 w (by omega)
  · cases h
def utf_Next.f (a0 : ByteArray) (a1 : Int) : Option (Int) := if a0.size ≤ 1099511627775 then some (nextI (ls a0) a1) else none
theorem utf_Next.eq (a0 : ByteArray) (a1 : Int) (hg : a0.size ≤ 1099511627775) : utf_Next.f a0 a1 = some (nextI (ls a0) a1) := if_pos hg
theorem utf_Next.calls (a0 : ByteArray) (a1 : Int) (r : Int) (w : World) (h : utf_Next.f a0 a1 = some r) : Calls Try.prog 56 #[.string a0, .int .i64 a1] w fun e w' => e = .returned (.int .i64 r) ∧ Below w.heap.size w w' := by
  unfold utf_Next.f at h
  split at h
  · cases h; exact next_c a0 a1 w (by omega)
  · cases h
def utf_Prev.f (a0 : ByteArray) (a1 : Int) : Option (Int) := if a0.size ≤ 1099511627775 then some (prevI (ls a0) a1) else none
theorem utf_Prev.eq (a0 : ByteArray) (a1 : Int) (hg : a0.size ≤ 1099511627775) : utf_Prev.f a0 a1 = some (prevI (ls a0) a1) := if_pos hg
theorem utf_Prev.calls (a0 : ByteArray) (a1 : Int) (r : Int) (w : World) (h : utf_Prev.f a0 a1 = some r) : Calls Try.prog 55 #[.string a0, .int .i64 a1] w fun e w' => e = .returned (.int .i64 r) ∧ Below w.heap.size w w' := by
  unfold utf_Prev.f at h
  split at h
  · cases h; exact prev_c a0 a1 w (by omega)
  · cases h
def utf_Count.f (a0 : ByteArray) : Option (Int) := if a0.size ≤ 1099511627775 then some (countI (ls a0)) else none
theorem utf_Count.eq (a0 : ByteArray) (hg : a0.size ≤ 1099511627775) : utf_Count.f a0 = some (countI (ls a0)) := if_pos hg
theorem utf_Count.calls (a0 : ByteArray) (r : Int) (w : World) (h : utf_Count.f a0 = some r) : Calls Try.prog 16 #[.string a0] w fun e w' => e = .returned (.int .i64 r) ∧ Below w.heap.size w w' := by
  unfold utf_Count.f at h
  split at h
  · cases h; exact count_c a0 w (by omega)
  · cases h
def calamusref03_Valid.f (a0 : ByteArray) : Option (Bool) := if a0.size ≤ 1099511627775 then some (validL (ls a0)) else none
theorem calamusref03_Valid.eq (a0 : ByteArray) (hg : a0.size ≤ 1099511627775) : calamusref03_Valid.f a0 = some (validL (ls a0)) := if_pos hg
theorem calamusref03_Valid.calls (a0 : ByteArray) (r : Bool) (w : World) (h : calamusref03_Valid.f a0 = some r) : Calls Try.prog 76 #[.string a0] w fun e w' => e = .returned (.bool r) ∧ Below w.heap.size w w' := by
  unfold calamusref03_Valid.f at h
  split at h
  · cases h; exact rvalid_c a0 w (by omega)
  · cases h
def calamusref03_Place.f (a0 : ByteArray) (a1 : Int) : Option (Bool) := if a0.size ≤ 1099511627775 then some (placeB (ls a0) a1) else none
theorem calamusref03_Place.eq (a0 : ByteArray) (a1 : Int) (hg : a0.size ≤ 1099511627775) : calamusref03_Place.f a0 a1 = some (placeB (ls a0) a1) := if_pos hg
theorem calamusref03_Place.calls (a0 : ByteArray) (a1 : Int) (r : Bool) (w : World) (h : calamusref03_Place.f a0 a1 = some r) : Calls Try.prog 62 #[.string a0, .int .i64 a1] w fun e w' => e = .returned (.bool r) ∧ Below w.heap.size w w' := by
  unfold calamusref03_Place.f at h
  split at h
  · cases h; exact rplace_c a0 a1 w (by omega)
  · cases h
def calamusref03_Next.f (a0 : ByteArray) (a1 : Int) : Option (Int) := if a0.size ≤ 1099511627775 then some (nextI (ls a0) a1) else none
theorem calamusref03_Next.eq (a0 : ByteArray) (a1 : Int) (hg : a0.size ≤ 1099511627775) : calamusref03_Next.f a0 a1 = some (nextI (ls a0) a1) := if_pos hg
theorem calamusref03_Next.calls (a0 : ByteArray) (a1 : Int) (r : Int) (w : World) (h : calamusref03_Next.f a0 a1 = some r) : Calls Try.prog 66 #[.string a0, .int .i64 a1] w fun e w' => e = .returned (.int .i64 r) ∧ Below w.heap.size w w' := by
  unfold calamusref03_Next.f at h
  split at h
  · cases h; exact rnext_c a0 a1 w (by omega)
  · cases h
def calamusref03_Prev.f (a0 : ByteArray) (a1 : Int) : Option (Int) := if a0.size ≤ 1099511627775 then some (prevI (ls a0) a1) else none
theorem calamusref03_Prev.eq (a0 : ByteArray) (a1 : Int) (hg : a0.size ≤ 1099511627775) : calamusref03_Prev.f a0 a1 = some (prevI (ls a0) a1) := if_pos hg
theorem calamusref03_Prev.calls (a0 : ByteArray) (a1 : Int) (r : Int) (w : World) (h : calamusref03_Prev.f a0 a1 = some r) : Calls Try.prog 81 #[.string a0, .int .i64 a1] w fun e w' => e = .returned (.int .i64 r) ∧ Below w.heap.size w w' := by
  unfold calamusref03_Prev.f at h
  split at h
  · cases h; exact rprev_c a0 a1 w (by omega)
  · cases h
def calamusref03_Rune.f (a0 : ByteArray) (a1 : Int) : Option (ByteArray) := if a0.size ≤ 1099511627775 then some (⟨(runeL (ls a0) a1).toArray⟩) else none
theorem calamusref03_Rune.eq (a0 : ByteArray) (a1 : Int) (hg : a0.size ≤ 1099511627775) : calamusref03_Rune.f a0 a1 = some (⟨(runeL (ls a0) a1).toArray⟩) := if_pos hg
theorem calamusref03_Rune.calls (a0 : ByteArray) (a1 : Int) (r : ByteArray) (w : World) (h : calamusref03_Rune.f a0 a1 = some r) : Calls Try.prog 118 #[.string a0, .int .i64 a1] w fun e w' => e = .returned (.string r) ∧ Below w.heap.size w w' := by
  unfold calamusref03_Rune.f at h
  split at h
  · cases h; exact rrune_c a0 a1 w (by omega)
  · cases h
def calamusref03_Count.f (a0 : ByteArray) : Option (Int) := if a0.size ≤ 1099511627775 then some (countI (ls a0)) else none
theorem calamusref03_Count.eq (a0 : ByteArray) (hg : a0.size ≤ 1099511627775) : calamusref03_Count.f a0 = some (countI (ls a0)) := if_pos hg
theorem calamusref03_Count.calls (a0 : ByteArray) (r : Int) (w : World) (h : calamusref03_Count.f a0 = some r) : Calls Try.prog 119 #[.string a0] w fun e w' => e = .returned (.int .i64 r) ∧ Below w.heap.size w w' := by
  unfold calamusref03_Count.f at h
  split at h
  · cases h; exact rcount_c a0 w (by omega)
  · cases h
end Go.Proofs.Ytnmcdkekflnekaa
/- The contracts of line.Clamp, line.Normal, line.First. -/
namespace Go.Proofs.Ytnmcdkekflnekaa
open Go.RowKit
set_option linter.unusedVariables false
set_option linter.unusedSimpArgs false

set_option maxHeartbeats 4000000 in
set_option maxRecDepth 100000 in
theorem clamp_c (s : ByteArray) (p : Int) (w : World) (hs : s.size ≤ 1099511627775) : Calls Try.prog 90 #[.string s, .int .i64 p] w fun e w' => e = .returned (.int .i64 (clampI (ls s) p)) ∧ Ext w w' := by
  rcases Bool.eq_false_or_eq_true (validL (ls s)) with hv | hv
  · have hd := downTo_le (ls s) (cutI (ls s) p)
    have hcut : (min (max p 0) (s.size : Int)) = ((cutI (ls s) p : Nat) : Int) := by unfold cutI; rw [ls_len]; omega
    have hcl : cutI (ls s) p ≤ s.size := by unfold cutI; rw [ls_len]; omega
    have Hc : Hid (clampI (ls s) p = if endsB (ls s) (downTo (ls s) (cutI (ls s) p)) = true ∧ lst (ls s) (downTo (ls s) (cutI (ls s) p)) < downTo (ls s) (cutI (ls s) p) then prevI (ls s) (downTo (ls s) (cutI (ls s) p)) else (downTo (ls s) (cutI (ls s) p) : Nat)) := Lib.hid (by unfold clampI; rw [if_pos hv])
    have Hp := Lib.hid (downTo_place hv)
    go_enter Try.func90, Try.ntmps90
    go_wp2_with (first | (go_at_call 51; refine (valid_c _ _ (by omega)).mono ?_; rintro e w1 ⟨rfl, hx1⟩))
    go_loopw [1] (fun v wr => ∃ j : Nat, j ≤ s.size ∧ v = .int .i64 j ∧ downTo (ls s) j = downTo (ls s) (cutI (ls s) p) ∧ Ext w wr) (fun v _ => (intOf v).toNat)
    case atStart => exact ⟨cutI (ls s) p, hcl, rfl, rfl, (by (repeat (first | exact Ext.refl _ | exact ‹Ext _ _› | refine Ext.alloc ?_ _ | refine Ext.drew ?_ | refine Ext.drewN ?_ _ | (refine Ext.setCell ?_ (by first | omega | (simp; done) | (simp; omega)) _) | refine Ext.trans ?_ ‹Ext _ _›)))⟩
    case round =>
      obtain ⟨j, hj, rfl, hok, hx⟩ := hrel
      have Hok := Lib.hid hok
      clear hok hcut
      rcases Bool.eq_false_or_eq_true (placeB (ls s) j) with hp | hp
      · have Hd := Lib.hid (downTo_hit hp)
        have Hc2 : Hid (clampI (ls s) p = if endsB (ls s) j = true ∧ lst (ls s) j < j then prevI (ls s) j else (j : Nat)) := Lib.hid (by rw [Hc.out, ← Hok.out, Hd.out])
        clear Hc hd
        go_wp2_with (first | (go_at_call 45; refine (place_c _ _ _ (by omega)).mono ?_; rintro e w1 ⟨rfl, hx1⟩) | (go_at_call 93; refine (ends_c _ _ hj _ hs).mono ?_; rintro e w1 ⟨rfl, hx1⟩) | (go_at_call 94; refine (begin_c _ _ hj _ hs).mono ?_; rintro e w1 ⟨rfl, hx1⟩) | (go_at_call 55; refine (prev_c _ _ _ (by omega)).mono ?_; rintro e w1 ⟨rfl, hx1⟩))
        all_goals (go_ret; refine ⟨ret1 ?_, (by (repeat (first | exact Ext.refl _ | exact ‹Ext _ _› | refine Ext.alloc ?_ _ | refine Ext.drew ?_ | refine Ext.drewN ?_ _ | (refine Ext.setCell ?_ (by first | omega | (simp; done) | (simp; omega)) _) | refine Ext.trans ?_ ‹Ext _ _›)))⟩; rw [Hc2.out])
        all_goals first
          | (rw [if_pos ⟨by assumption, by omega⟩]; done)
          | (rw [if_neg (by intro h; have := h.2; omega)]; done)
          | (rw [if_neg (by intro h; simp_all)]; done)
      · have hj0 : 1 ≤ j := by
          rcases Nat.eq_zero_or_pos j with h | h
          · subst h; rw [place_zero hv] at hp; exact absurd hp (by simp)
          · exact h
        go_wp2_with (first | (go_at_call 45; refine (place_c _ _ _ (by omega)).mono ?_; rintro e w1 ⟨rfl, hx1⟩))
        go_roundw
        case rel =>
          refine ⟨j - 1, by omega, by go_num, ?_, (by (repeat (first | exact Ext.refl _ | exact ‹Ext _ _› | refine Ext.alloc ?_ _ | refine Ext.drew ?_ | refine Ext.drewN ?_ _ | (refine Ext.setCell ?_ (by first | omega | (simp; done) | (simp; omega)) _) | refine Ext.trans ?_ ‹Ext _ _›)))⟩
          rw [← Hok.out]
          obtain ⟨i, rfl⟩ : ∃ i, j = i + 1 := ⟨j - 1, by omega⟩
          rw [downTo_miss hp]; rfl
        case measure => simp [intOf]; omega
  · have Hc : Hid (clampI (ls s) p = 0) := Lib.hid (by unfold clampI; simp [hv])
    go_enter Try.func90, Try.ntmps90
    go_wp2_with (first | (go_at_call 51; refine (valid_c _ _ (by omega)).mono ?_; rintro e w1 ⟨rfl, hx1⟩))
    go_ret
    exact ⟨ret1 Hc.out.symm, (by (repeat (first | exact Ext.refl _ | exact ‹Ext _ _› | refine Ext.alloc ?_ _ | refine Ext.drew ?_ | refine Ext.drewN ?_ _ | (refine Ext.setCell ?_ (by first | omega | (simp; done) | (simp; omega)) _) | refine Ext.trans ?_ ‹Ext _ _›)))⟩

end Go.Proofs.Ytnmcdkekflnekaa
/- Slices of things of several cells: what is read, and what a call has made itself. -/
namespace Go.Proofs.Ytnmcdkekflnekaa
open Go.RowKit
set_option linter.unusedVariables false
set_option linter.unusedSimpArgs false
structure Enc (α : Type) where
  k : Nat
  enc : α → List Value
  len : ∀ x, (enc x).length = k
  one : ∀ x, ∀ u ∈ enc x, u.oneCell' = true
  pos : 0 < k
def RdS {α : Type} (E : Enc α) (w : World) (a : Option Addr) (xs : List α) : Prop := ∀ j (h : j < xs.length), ∃ g o, a = some ⟨g, o, none⟩ ∧ ∀ i u, (E.enc xs[j])[i]? = some u → w.cell? ⟨g, o + (j * E.k + i), none⟩ = some u
theorem RdS.ext {α : Type} {E : Enc α} {w w' : World} {a : Option Addr} {xs : List α} (h : RdS E w a xs) (hx : Ext w w') : RdS E w' a xs := by
  intro j hj
  obtain ⟨g, o, ha, hc⟩ := h j hj
  exact ⟨g, o, ha, fun i u hu => by rw [Below.cell hx (World.block_lt_of_cell? w _ (hc i u hu))]; exact hc i u hu⟩
theorem flat_len {α : Type} (E : Enc α) : ∀ xs : List α, (xs.flatMap E.enc).length = xs.length * E.k
  | [] => by simp
  | x :: xs => by rw [List.flatMap_cons, List.length_append, E.len, flat_len E xs, List.length_cons, Nat.add_mul]; omega
theorem flat_at {α : Type} (E : Enc α) : ∀ (xs : List α) (j : Nat) (h : j < xs.length) (i : Nat), i < E.k → (xs.flatMap E.enc)[j * E.k + i]? = (E.enc xs[j])[i]?
  | x :: xs, 0, _, i, hi => by
    rw [List.flatMap_cons, Nat.zero_mul, Nat.zero_add, List.getElem?_append_left (by rw [E.len]; exact hi)]; rfl
  | x :: xs, j + 1, h, i, hi => by
    have := flat_at E xs j (by simpa using h) i hi
    rw [List.flatMap_cons, List.getElem?_append_right (by rw [E.len, Nat.add_mul]; omega), E.len]
    rw [show (j + 1) * E.k + i - E.k = j * E.k + i by rw [Nat.add_mul]; omega, this]; rfl
def OwnS {α : Type} (E : Enc α) (e : TypeId) (base : Nat) (w : World) (a : Option Addr) (cap : Nat) (xs : List α) : Prop := w.ownsRow base e E.k (.slice a xs.length cap) xs.length (xs.flatMap E.enc)
section
variable {α : Type} {E : Enc α} {e : TypeId}
theorem OwnS.nil (base : Nat) (w : World) : OwnS E e base w none 0 [] := World.ownsRow_nil _ _ _ _
theorem OwnS.ext {base : Nat} {w w' : World} {a : Option Addr} {cap : Nat} {xs : List α} (h : OwnS E e base w a cap xs) (hx : Ext w w') : OwnS E e base w' a cap xs :=
  World.ownsRow.kept h ⟨hx.os, hx.tape, hx.output, hx.size, fun k hk _ => Below.block hx k hk⟩ (row := none) (by cases a <;> simp [Value.ownBlock])
theorem OwnS.le {base base' : Nat} {w : World} {a : Option Addr} {cap : Nat} {xs : List α} (h : OwnS E e base w a cap xs) (hb : base' ≤ base) : OwnS E e base' w a cap xs := Go.Joins.ownsRow_le h hb
theorem OwnS.lt {base : Nat} {w : World} {a : Option Addr} {cap : Nat} {xs : List α} (h : OwnS E e base w a cap xs) : ∀ p, a = some p → base ≤ p.block ∧ p.block < w.heap.size := by
  rintro p rfl
  exact World.ownsRow.lt h p.block rfl
theorem OwnS.rd {base : Nat} {w : World} {a : Option Addr} {cap : Nat} {xs : List α} (h : OwnS E e base w a cap xs) : RdS E w a xs := by
  intro j hj
  obtain ⟨g, c, hv⟩ := Go.Joins.ownsRow_form h (by omega)
  simp only [Value.slice.injEq] at hv
  obtain ⟨rfl, -, rfl⟩ := hv
  refine ⟨g, 0, rfl, fun i u hu => ?_⟩
  have hi : i < E.k := by rw [← E.len xs[j]]; exact (List.getElem?_eq_some_iff.1 hu).1
  have hjk : j * E.k + i < xs.length * E.k := by
    have : (j + 1) * E.k ≤ xs.length * E.k := Nat.mul_le_mul_right _ hj
    rw [Nat.add_mul] at this; omega
  rw [Nat.zero_add, World.ownsRow.cellAt h _ hjk, flat_at E xs j hj i hi]
  exact hu
theorem OwnS.lit {base : Nat} (W : World) (hb : base ≤ W.heap.size) (xs : List α) (cs : Array Value) (hc : cs = (xs.flatMap E.enc).toArray) (hm : xs.length ≤ 1000) : OwnS E e base (W.alloc (.cells cs e)) (some ⟨W.heap.size, 0, none⟩) xs.length xs := by
  subst hc
  have := World.ownsRow_lit (base := base) (e := e) (size := E.k) W (xs.flatMap E.enc).toArray xs.length hb (by unfold maxLen; omega) (by simp only [List.size_toArray]; exact flat_len E xs)
  simpa [OwnS] using this
theorem app_s {P : Program} {ops : Array Oper} {rest : List Oper} {o : Oper} {act : Act} {Q : Exit → Act → World → Prop} (t : TypeId) (z : Value) (bytes : Nat) (hu : P.underlying t = some (.slice e)) (hinf : (P.info? e).map (fun i => (i.zero, i.size, i.bytes)) = some (some z, E.k, bytes)) (hz : z.cells.size = E.k)
    (w0 W : World) (hgd : o.guard = none) (s x : Operand)
    (ho : o.op = .call { callee := .builtin .append, args := #[s, x], argTypes := #[t, t] }) (a : Option Addr) (cap : Nat) (xs : List α) (y : α) (cs : Array Value) (hcs : cs = (E.enc y).toArray)
    (hs : act.eval s = .slice a xs.length cap) (hown : OwnS E e w0.heap.size W a cap xs) (he : Ext w0 W) (hx : act.eval x = .slice (some ⟨W.heap.size, 0, none⟩) 1 1) (hb : xs.length ≤ 1099511627776) (hby : bytes ≤ 100)
    (h : ∀ a' cap' w', OwnS E e w0.heap.size w' a' cap' (xs ++ [y]) → Ext w0 w' → wpList P ops Q rest (act.put o.dst (.slice a' (xs.length + 1) cap')) w') :
    wpList P ops Q (o :: rest) act (W.alloc (.cells cs e)) := by
  subst hcs
  obtain ⟨i0, hi, hz0, hz1, hz2⟩ := info_parts hinf
  refine wpList_append_own _ hgd s x t ho w0.heap.size e i0 z E.k bytes hu hi hz0 hz1 hz2 hz E.pos _ xs.length (xs.flatMap E.enc) hs (World.ownsRow.alloc hown _) ⟨W.heap.size, 0, none⟩ 1 1 (E.enc y) hx (by rw [E.len, Nat.one_mul]) ?_ (E.one y) (by unfold maxLen; omega) (Nat.le_trans (Nat.mul_le_mul_left _ hby) (by omega)) (by have := he.size; simp; omega) ?_
  · intro j u hj
    have := cell_of_row (W.alloc (.cells (E.enc y).toArray e)) W.heap.size j (E.enc y).toArray e (0, 0) (heap_alloc_new W _)
    have ea : (⟨W.heap.size, 0, none⟩ : Addr).add j = ⟨W.heap.size, j, none⟩ := by unfold Addr.add; split <;> simp_all
    rw [ea, this]; simpa using hj
  · intro v' w' hown' hg hnil
    obtain ⟨g, c, rfl⟩ := Go.Joins.ownsRow_form hown' (by omega)
    have e1 : Ext w0 w' := by
      refine Below.trans (Below.alloc he he.size (.cells (E.enc y).toArray e)) ⟨hg.os, hg.tape, hg.output, hg.size, fun k hk => hg.block k (by have := he.size; simp; omega) ?_⟩
      intro e
      cases a with
      | none => simp [Value.ownBlock] at e
      | some p => have := hown.lt p rfl; simp [Value.ownBlock] at e; omega
    refine h (some ⟨g, 0, none⟩) c w' ?_ e1
    simpa [OwnS] using hown'
end
def EncP : Enc (Nat × Nat) := { k := 2, enc := fun x => [.int .i64 (x.1 : Nat), .int .i64 (x.2 : Nat)], len := fun _ => rfl, one := fun x u hu => by simp at hu; rcases hu with rfl | rfl <;> rfl, pos := by decide }

theorem RdS.pair {w : World} {a : Option Addr} {xs : List (Nat × Nat)} (h : RdS EncP w a xs) (n : Nat) (hn : n < xs.length) : ∃ g o, a = some ⟨g, o, none⟩ ∧ w.cell? ⟨g, o + n * 2, none⟩ = some (.int .i64 (xs[n].1 : Nat)) ∧ w.cell? ⟨g, o + n * 2 + 1, none⟩ = some (.int .i64 (xs[n].2 : Nat)) := by
  obtain ⟨g, o, ha, hc⟩ := h n hn
  exact ⟨g, o, ha, hc 0 _ rfl, hc 1 _ rfl⟩

end Go.Proofs.Ytnmcdkekflnekaa
/- The contracts of the reference calamusref04. -/
namespace Go.Proofs.Ytnmcdkekflnekaa
open Go.RowKit
set_option linter.unusedVariables false
set_option linter.unusedSimpArgs false
def linesL (l : List UInt8) : List (Nat × Nat) := if validL l then lns l else []
theorem Try.infoPair : (Try.prog.info? 91).map (fun i => (i.zero, i.size, i.bytes)) = some (some (.agg #[.int .i64 0, .int .i64 0]), 2, 16) := by kernel_rfl
theorem linesL_len (s : ByteArray) : (linesL (ls s)).length ≤ s.size + 1 := by
  unfold linesL; split
  · rw [lns_len]; have := tens_le (ls s); rw [ls_len] at this; omega
  · simp
set_option maxHeartbeats 4000000 in
set_option maxRecDepth 100000 in
theorem r4lines_c (s : ByteArray) (w : World) (hs : s.size ≤ 1099511627775) : Calls Try.prog 102 #[.string s] w fun e w' => ∃ a cap, e = .returned (.slice a (linesL (ls s)).length cap) ∧ OwnS EncP 91 w.heap.size w' a cap (linesL (ls s)) ∧ Ext w w' := by
  rcases Bool.eq_false_or_eq_true (validL (ls s)) with hv | hv
  case inr =>
    have Hl : Hid (linesL (ls s) = []) := Lib.hid (by unfold linesL; simp [hv])
    go_enter Try.func102, Try.ntmps102
    go_wp2_with (first | (go_at_call 76; refine (rvalid_c _ _ hs).mono ?_; rintro e w1 ⟨rfl, hx1⟩))
    go_ret
    exact ⟨none, 0, by rw [Hl.out]; rfl, by rw [Hl.out]; exact OwnS.nil _ _, (by (repeat (first | exact Ext.refl _ | exact ‹Ext _ _› | refine Ext.alloc ?_ _ | refine Ext.drew ?_ | refine Ext.drewN ?_ _ | (refine Ext.setCell ?_ (by first | omega | (simp; done) | (simp; omega)) _) | refine Ext.trans ?_ ‹Ext _ _›)))⟩
  have Hl : Hid (linesL (ls s) = lns (ls s)) := Lib.hid (by unfold linesL; simp [hv])
  go_enter Try.func102, Try.ntmps102
  go_wp2_with (first | (go_at_call 76; refine (rvalid_c _ _ hs).mono ?_; rintro e w1 ⟨rfl, hx1⟩))
  go_loopw [3, 4, 5] (fun v f i wr => ∃ (j b : Nat) (a : Option Addr) (cap : Nat) (D : List (Nat × Nat)), i = .int .i64 j ∧ f = .int .i64 b ∧ v = .slice a D.length cap ∧ j ≤ s.size + 1 ∧ D.length ≤ j ∧ Hid (j ≤ s.size → lns (ls s) = D ++ lnsF ((ls s).drop j) b j) ∧ Hid (j = s.size + 1 → D = lns (ls s)) ∧ Hid (OwnS EncP 91 w.heap.size wr a cap D) ∧ Ext w wr) (fun _ _ i _ => s.size + 1 - (intOf i).toNat)
  case atStart => exact ⟨0, 0, none, 0, [], rfl, rfl, rfl, by omega, by simp, Lib.hid (fun _ => by simp [lns]), Lib.hid (fun h => by omega), Lib.hid (OwnS.nil _ _), (by (repeat (first | exact Ext.refl _ | exact ‹Ext _ _› | refine Ext.alloc ?_ _ | refine Ext.drew ?_ | refine Ext.drewN ?_ _ | (refine Ext.setCell ?_ (by first | omega | (simp; done) | (simp; omega)) _) | refine Ext.trans ?_ ‹Ext _ _›)))⟩
  case round =>
    obtain ⟨j, b, a, cap, D, rfl, rfl, rfl, hj, hD, H1, H2, Hown, hx⟩ := hrel
    by_cases c1 : j < s.size
    · have Hs := Lib.hid (lnsF_step (ls s) b j (by rw [ls_len]; exact c1))
      have Hby := Lib.hid (byL_eq s j c1)
      by_cases c2 : (s[j].toNat : Int) = 10
      · go_wp2_with (first | (at_builtin; refine app_s 89 (.agg #[.int .i64 0, .int .i64 0]) 16 Try.underlying89 Try.infoPair rfl w _ rfl _ _ rfl _ _ (D) ((b, j)) _ rfl rfl (Hown.out.ext (by (repeat (first | exact Ext.refl _ | exact ‹Ext _ _› | refine Ext.alloc ?_ _ | refine Ext.drew ?_ | refine Ext.drewN ?_ _ | (refine Ext.setCell ?_ (by first | omega | (simp; done) | (simp; omega)) _) | refine Ext.trans ?_ ‹Ext _ _›)))) (by (repeat (first | exact Ext.refl _ | exact ‹Ext _ _› | refine Ext.alloc ?_ _ | refine Ext.drew ?_ | refine Ext.drewN ?_ _ | (refine Ext.setCell ?_ (by first | omega | (simp; done) | (simp; omega)) _) | refine Ext.trans ?_ ‹Ext _ _›))) rfl (by omega) (by decide) ?_; intro a2 cap2 w2 hown2 hx2))
        go_roundw
        case rel =>
          refine ⟨j + 1, j + 1, a2, cap2, D ++ [(b, j)], by go_num, by go_num, by simp, by omega, by (simp <;> omega), Lib.hid (fun _ => ?_), Lib.hid (fun h => by omega), Lib.hid hown2, (by (repeat (first | exact Ext.refl _ | exact ‹Ext _ _› | refine Ext.alloc ?_ _ | refine Ext.drew ?_ | refine Ext.drewN ?_ _ | (refine Ext.setCell ?_ (by first | omega | (simp; done) | (simp; omega)) _) | refine Ext.trans ?_ ‹Ext _ _›)))⟩
          rw [H1.out (by omega), Hs.out, ← Hby.out, if_pos c2]; simp
        case measure => simp [intOf]; omega
      · have c3 : ((s[j].toNat : Int) == 10) = false := by simp; omega
        go_wp2
        go_roundw
        case rel =>
          refine ⟨j + 1, b, a, cap, D, by go_num, rfl, rfl, by omega, by omega, Lib.hid (fun _ => ?_), Lib.hid (fun h => by omega), Hown, (by (repeat (first | exact Ext.refl _ | exact ‹Ext _ _› | refine Ext.alloc ?_ _ | refine Ext.drew ?_ | refine Ext.drewN ?_ _ | (refine Ext.setCell ?_ (by first | omega | (simp; done) | (simp; omega)) _) | refine Ext.trans ?_ ‹Ext _ _›)))⟩
          rw [H1.out (by omega), Hs.out, ← Hby.out, if_neg c2]
        case measure => simp [intOf]; omega
    · by_cases c2 : j = s.size
      · subst c2
        have He : Hid (lnsF ((ls s).drop s.size) b s.size = [(b, s.size)]) := Lib.hid (lnsF_end _ _ _ (by rw [ls_len]; omega))
        go_wp2_with (first | (at_builtin; refine app_s 89 (.agg #[.int .i64 0, .int .i64 0]) 16 Try.underlying89 Try.infoPair rfl w _ rfl _ _ rfl _ _ (D) ((b, s.size)) _ rfl rfl (Hown.out.ext (by (repeat (first | exact Ext.refl _ | exact ‹Ext _ _› | refine Ext.alloc ?_ _ | refine Ext.drew ?_ | refine Ext.drewN ?_ _ | (refine Ext.setCell ?_ (by first | omega | (simp; done) | (simp; omega)) _) | refine Ext.trans ?_ ‹Ext _ _›)))) (by (repeat (first | exact Ext.refl _ | exact ‹Ext _ _› | refine Ext.alloc ?_ _ | refine Ext.drew ?_ | refine Ext.drewN ?_ _ | (refine Ext.setCell ?_ (by first | omega | (simp; done) | (simp; omega)) _) | refine Ext.trans ?_ ‹Ext _ _›))) rfl (by omega) (by decide) ?_; intro a2 cap2 w2 hown2 hx2))
        go_roundw
        case rel =>
          refine ⟨s.size + 1, s.size + 1, a2, cap2, D ++ [(b, s.size)], by go_num, by go_num, by simp, by omega, by (simp <;> omega), Lib.hid (fun h => by omega), Lib.hid (fun _ => ?_), Lib.hid hown2, (by (repeat (first | exact Ext.refl _ | exact ‹Ext _ _› | refine Ext.alloc ?_ _ | refine Ext.drew ?_ | refine Ext.drewN ?_ _ | (refine Ext.setCell ?_ (by first | omega | (simp; done) | (simp; omega)) _) | refine Ext.trans ?_ ‹Ext _ _›)))⟩
          rw [H1.out (by omega), He.out]
        case measure => (simp [intOf] <;> omega)
      · have c3 : j = s.size + 1 := by omega
        have hD2 := H2.out c3
        subst c3
        go_wp2
        go_ret
        subst hD2
        exact ⟨a, cap, by rw [Hl.out]; first | rfl | (simp; done), by rw [Hl.out]; exact Hown.out, (by (repeat (first | exact Ext.refl _ | exact ‹Ext _ _› | refine Ext.alloc ?_ _ | refine Ext.drew ?_ | refine Ext.drewN ?_ _ | (refine Ext.setCell ?_ (by first | omega | (simp; done) | (simp; omega)) _) | refine Ext.trans ?_ ‹Ext _ _›)))⟩

theorem linesL_at {l : List UInt8} {k : Nat} (h : k < (linesL l).length) : startI l k = ((linesL l)[k].1 : Nat) ∧ endI l k = ((linesL l)[k].2 : Nat) ∧ validL l = true := by
  rcases Bool.eq_false_or_eq_true (validL l) with hv | hv
  · have e : linesL l = lns l := by unfold linesL; simp [hv]
    have hl : lineI l k = some (linesL l)[k] := by
      unfold lineI; rw [if_pos ⟨hv, by omega⟩, Int.toNat_natCast]
      simp only [e] at h ⊢
      exact List.getElem?_eq_getElem h
    unfold startI endI; rw [hl]; exact ⟨rfl, rfl, hv⟩
  · have e : linesL l = [] := by unfold linesL; simp [hv]
    rw [e] at h; simp at h
theorem linesL_out {l : List UInt8} {k : Int} (h : k < 0 ∨ ((linesL l).length : Int) ≤ k) : startI l k = -1 ∧ endI l k = -1 := by
  have hl : lineI l k = none := by
    unfold lineI
    split
    · rename_i hc
      have e : linesL l = lns l := by unfold linesL; simp [hc.1]
      rw [e] at h
      exact List.getElem?_eq_none (by omega)
    · rfl
  unfold startI endI; rw [hl]; exact ⟨rfl, rfl⟩
theorem linesL_count (l : List UInt8) : ((linesL l).length : Int) = lcountI l := by
  unfold linesL lcountI; split
  · rw [lns_len]; simp
  · simp
set_option maxHeartbeats 4000000 in
set_option maxRecDepth 100000 in
theorem r4start_c (s : ByteArray) (k : Int) (w : World) (hs : s.size ≤ 1099511627775) : Calls Try.prog 63 #[.string s, .int .i64 k] w fun e w' => e = .returned (.int .i64 (startI (ls s) k)) ∧ Ext w w' := by
  by_cases hk : k < 0 ∨ ((linesL (ls s)).length : Int) ≤ k
  · have Ho := Lib.hid (linesL_out hk).1
    go_enter Try.func63, Try.ntmps63
    go_wp2_with (first | (go_at_call 102; refine (r4lines_c _ _ hs).mono ?_; rintro e w1 ⟨a, cap, rfl, hown, hx1⟩))
    all_goals (first | (go_ret; exact ⟨ret1 Ho.out.symm, (by (repeat (first | exact Ext.refl _ | exact ‹Ext _ _› | refine Ext.alloc ?_ _ | refine Ext.drew ?_ | refine Ext.drewN ?_ _ | (refine Ext.setCell ?_ (by first | omega | (simp; done) | (simp; omega)) _) | refine Ext.trans ?_ ‹Ext _ _›)))⟩) | (exfalso; omega))
  · obtain ⟨n, rfl⟩ : ∃ n : Nat, k = n := ⟨k.toNat, by omega⟩
    have hn : n < (linesL (ls s)).length := by omega
    have Ho := Lib.hid (linesL_at hn).1
    clear hk
    go_enter Try.func63, Try.ntmps63
    go_wp2_with (first | (go_at_call 102; refine (r4lines_c _ _ hs).mono ?_; rintro e w1 ⟨a, cap, rfl, hown, hx1⟩; obtain ⟨g, o, rfl, hc0, hc1⟩ := RdS.pair (OwnS.rd hown) n hn))
    all_goals (go_ret; exact ⟨ret1 Ho.out.symm, (by (repeat (first | exact Ext.refl _ | exact ‹Ext _ _› | refine Ext.alloc ?_ _ | refine Ext.drew ?_ | refine Ext.drewN ?_ _ | (refine Ext.setCell ?_ (by first | omega | (simp; done) | (simp; omega)) _) | refine Ext.trans ?_ ‹Ext _ _›)))⟩)

set_option maxHeartbeats 4000000 in
set_option maxRecDepth 100000 in
theorem r4end_c (s : ByteArray) (k : Int) (w : World) (hs : s.size ≤ 1099511627775) : Calls Try.prog 65 #[.string s, .int .i64 k] w fun e w' => e = .returned (.int .i64 (endI (ls s) k)) ∧ Ext w w' := by
  by_cases hk : k < 0 ∨ ((linesL (ls s)).length : Int) ≤ k
  · have Ho := Lib.hid (linesL_out hk).2
    go_enter Try.func65, Try.ntmps65
    go_wp2_with (first | (go_at_call 102; refine (r4lines_c _ _ hs).mono ?_; rintro e w1 ⟨a, cap, rfl, hown, hx1⟩))
    all_goals (first | (go_ret; exact ⟨ret1 Ho.out.symm, (by (repeat (first | exact Ext.refl _ | exact ‹Ext _ _› | refine Ext.alloc ?_ _ | refine Ext.drew ?_ | refine Ext.drewN ?_ _ | (refine Ext.setCell ?_ (by first | omega | (simp; done) | (simp; omega)) _) | refine Ext.trans ?_ ‹Ext _ _›)))⟩) | (exfalso; omega))
  · obtain ⟨n, rfl⟩ : ∃ n : Nat, k = n := ⟨k.toNat, by omega⟩
    have hn : n < (linesL (ls s)).length := by omega
    have Ho := Lib.hid (linesL_at hn).2.1
    clear hk
    go_enter Try.func65, Try.ntmps65
    go_wp2_with (first | (go_at_call 102; refine (r4lines_c _ _ hs).mono ?_; rintro e w1 ⟨a, cap, rfl, hown, hx1⟩; obtain ⟨g, o, rfl, hc0, hc1⟩ := RdS.pair (OwnS.rd hown) n hn))
    all_goals (go_ret; exact ⟨ret1 Ho.out.symm, (by (repeat (first | exact Ext.refl _ | exact ‹Ext _ _› | refine Ext.alloc ?_ _ | refine Ext.drew ?_ | refine Ext.drewN ?_ _ | (refine Ext.setCell ?_ (by first | omega | (simp; done) | (simp; omega)) _) | refine Ext.trans ?_ ‹Ext _ _›)))⟩)
def lastAt (X : List (Nat × Nat)) (p : Int) : Nat → Int
  | 0 => -1
  | k + 1 => if ((X.getD k (0, 0)).1 : Int) ≤ p then (k : Int) else lastAt X p k
theorem lnsF_starts : ∀ (r : List UInt8) (st i : Nat), st ≤ i → ∀ j, j + 1 < (lnsF r st i).length → i < ((lnsF r st i).getD (j + 1) (0, 0)).1
  | [], st, i, _, j, h => by simp [lnsF] at h
  | b :: r, st, i, hs, j, h => by
    by_cases hb : b = 10
    · rw [lnsF, if_pos hb] at h ⊢
      rw [List.getD_cons_succ]
      obtain ⟨e, q, h1, _, _⟩ := lnsF_head r (i + 1) (i + 1)
      cases j with
      | zero => rw [h1]; simp
      | succ j =>
        have := lnsF_starts r (i + 1) (i + 1) (Nat.le_refl _) j (by simpa using h)
        omega
    · rw [lnsF, if_neg hb] at h ⊢
      have := lnsF_starts r st (i + 1) (by omega) j h
      omega
theorem lastAt_of (l : List UInt8) (p : Nat) (hp : p ≤ l.length) : lastAt (lns l) p (lns l).length = (fds l p : Nat) := by
  obtain ⟨a, ha, hl⟩ := lns_split l p hp
  obtain ⟨e, q, h1, h2, h3⟩ := lnsF_head (l.drop p) (lst l p) p
  have hlst := lst_le l p
  have hlt : fds l p < (lns l).length := by rw [ha, List.length_append, hl, h1]; simp
  have key : ∀ d, fds l p + 1 + d ≤ (lns l).length → lastAt (lns l) p (fds l p + 1 + d) = (fds l p : Nat) := by
    intro d
    induction d with
    | zero =>
      intro _
      have e0 : ((lns l).getD (fds l p) (0, 0)).1 = lst l p := by
        rw [ha, List.getD_eq_getElem?_getD, List.getElem?_append_right (by omega), hl, Nat.sub_self, h1]; rfl
      rw [Nat.add_zero, lastAt, e0, if_pos (by omega)]
    | succ d ih =>
      intro hd
      have e0 : p < ((lns l).getD (fds l p + 1 + d) (0, 0)).1 := by
        have := lnsF_starts (l.drop p) (lst l p) p hlst d (by rw [ha, List.length_append, hl] at hd; omega)
        rw [ha, List.getD_eq_getElem?_getD, List.getElem?_append_right (by omega), hl]
        rw [List.getD_eq_getElem?_getD] at this
        rw [show fds l p + 1 + d - fds l p = d + 1 by omega]
        exact this
      rw [show fds l p + 1 + (d + 1) = (fds l p + 1 + d) + 1 by omega, lastAt, if_neg (by omega)]
      exact ih (by omega)
  have := key ((lns l).length - (fds l p + 1)) (by omega)
  rwa [Nat.add_sub_cancel' (by omega)] at this
set_option maxHeartbeats 4000000 in
set_option maxRecDepth 100000 in
theorem r4of_c (s : ByteArray) (p : Int) (w : World) (hs : s.size ≤ 1099511627775) : Calls Try.prog 64 #[.string s, .int .i64 p] w fun e w' => e = .returned (.int .i64 (ofI (ls s) p)) ∧ Ext w w' := by
  by_cases h0 : p < 0 ∨ (s.size : Int) < p
  · have Ho : Hid (ofI (ls s) p = -1) := Lib.hid (by unfold ofI; rw [if_pos (by rw [ls_len]; omega)])
    go_enter Try.func64, Try.ntmps64
    go_wp2_with (first | (go_at_call 102; refine (r4lines_c _ _ hs).mono ?_; rintro e w1 ⟨a, cap, rfl, hown, hx1⟩))
    all_goals (first | (go_ret; exact ⟨ret1 Ho.out.symm, (by (repeat (first | exact Ext.refl _ | exact ‹Ext _ _› | refine Ext.alloc ?_ _ | refine Ext.drew ?_ | refine Ext.drewN ?_ _ | (refine Ext.setCell ?_ (by first | omega | (simp; done) | (simp; omega)) _) | refine Ext.trans ?_ ‹Ext _ _›)))⟩) | (exfalso; omega))
  · obtain ⟨k, rfl⟩ : ∃ k : Nat, p = k := ⟨p.toNat, by omega⟩
    have hk : k ≤ s.size := by omega
    clear h0
    have hll := linesL_len s
    have Ho : Hid (lastAt (linesL (ls s)) k (linesL (ls s)).length = ofI (ls s) k) := Lib.hid (by
      unfold linesL ofI
      rcases Bool.eq_false_or_eq_true (validL (ls s)) with hv | hv
      · rw [if_pos hv, if_neg (by rw [ls_len, hv]; simp; omega), Int.toNat_natCast]
        exact lastAt_of _ _ (by rw [ls_len]; exact hk)
      · simp [hv, lastAt])
    go_enter Try.func64, Try.ntmps64
    go_wp2_with (first | (go_at_call 102; refine (r4lines_c _ _ hs).mono ?_; rintro e w1 ⟨a, cap, rfl, hown, hx1⟩))
    go_loopw [6] (fun v wr => ∃ j : Nat, v = .int .i64 ((j : Int) - 1) ∧ j ≤ (linesL (ls s)).length ∧ lastAt (linesL (ls s)) k j = lastAt (linesL (ls s)) k (linesL (ls s)).length ∧ Ext w1 wr) (fun v _ => (intOf v + 1).toNat)
    case atStart => exact ⟨(linesL (ls s)).length, rfl, by omega, rfl, Ext.refl _⟩
    case round =>
      obtain ⟨j, rfl, hj, hok, hx⟩ := hrel
      have Hok := Lib.hid hok
      clear hok
      rcases Nat.eq_zero_or_pos j with h0 | h0
      · subst h0
        have Hn : Hid (ofI (ls s) k = -1) := Lib.hid (by rw [← Ho.out, ← Hok.out]; rfl)
        go_wp2
        go_ret
        exact ⟨ret1 Hn.out.symm, (by (repeat (first | exact Ext.refl _ | exact ‹Ext _ _› | refine Ext.alloc ?_ _ | refine Ext.drew ?_ | refine Ext.drewN ?_ _ | (refine Ext.setCell ?_ (by first | omega | (simp; done) | (simp; omega)) _) | refine Ext.trans ?_ ‹Ext _ _›)))⟩
      · obtain ⟨i, rfl⟩ : ∃ i, j = i + 1 := ⟨j - 1, by omega⟩
        have e1 : ((i + 1 : Nat) : Int) - 1 = (i : Int) := by omega
        rw [e1]
        have hi : i < (linesL (ls s)).length := by omega
        have Hs : Hid (lastAt (linesL (ls s)) k (i + 1) = if ((linesL (ls s))[i].1 : Int) ≤ k then (i : Int) else lastAt (linesL (ls s)) k i) := Lib.hid (by
          rw [lastAt, List.getD_eq_getElem?_getD, List.getElem?_eq_getElem hi]; rfl)
        obtain ⟨g, o, rfl, hc0, hc1⟩ := RdS.pair ((OwnS.rd hown).ext hx) i hi
        clear e1
        go_wp2
        · go_ret
          refine ⟨ret1 ?_, (by (repeat (first | exact Ext.refl _ | exact ‹Ext _ _› | refine Ext.alloc ?_ _ | refine Ext.drew ?_ | refine Ext.drewN ?_ _ | (refine Ext.setCell ?_ (by first | omega | (simp; done) | (simp; omega)) _) | refine Ext.trans ?_ ‹Ext _ _›)))⟩
          rw [← Ho.out, ← Hok.out, Hs.out, if_pos (by omega)]
        · go_roundw
          case rel =>
            refine ⟨i, by go_num, by omega, ?_, (by (repeat (first | exact Ext.refl _ | exact ‹Ext _ _› | refine Ext.alloc ?_ _ | refine Ext.drew ?_ | refine Ext.drewN ?_ _ | (refine Ext.setCell ?_ (by first | omega | (simp; done) | (simp; omega)) _) | refine Ext.trans ?_ ‹Ext _ _›)))⟩
            rw [← Hok.out, Hs.out, if_neg (by omega)]
          case measure => (simp [intOf] <;> omega)

end Go.Proofs.Ytnmcdkekflnekaa
/- The contracts of calamusref04.Column and At. -/
namespace Go.Proofs.Ytnmcdkekflnekaa
open Go.RowKit
set_option linter.unusedVariables false
set_option linter.unusedSimpArgs false
theorem up_sub (s : ByteArray) (k : Nat) : ls (s.extract (lst (ls s) k) k) = upL (ls s) k := by unfold upL; exact Lib.extract_data s _ _
set_option maxHeartbeats 4000000 in
set_option maxRecDepth 100000 in
theorem r4column_c (s : ByteArray) (p : Int) (w : World) (hs : s.size ≤ 1099511627775) : Calls Try.prog 91 #[.string s, .int .i64 p] w fun e w' => e = .returned (.int .i64 (colI (ls s) p)) ∧ Ext w w' := by
  rcases place_cases s p with hp | ⟨k, rfl, hk, hp, hv⟩
  · have Hc : Hid (colI (ls s) p = -1) := Lib.hid (by unfold colI; simp [hp])
    go_enter Try.func91, Try.ntmps91
    go_wp2_with (first | (go_at_call 62; refine (rplace_c _ _ _ hs).mono ?_; rintro e w1 ⟨rfl, hx1⟩))
    go_ret
    exact ⟨ret1 Hc.out.symm, (by (repeat (first | exact Ext.refl _ | exact ‹Ext _ _› | refine Ext.alloc ?_ _ | refine Ext.drew ?_ | refine Ext.drewN ?_ _ | (refine Ext.setCell ?_ (by first | omega | (simp; done) | (simp; omega)) _) | refine Ext.trans ?_ ‹Ext _ _›)))⟩
  · obtain ⟨h1, h2, _⟩ := start_of (l := ls s) (p := k) (by rw [ls_len]; omega) hv
    have h3 := lst_le (ls s) k
    have Hc : Hid (colI (ls s) k = countI (ls (s.extract (lst (ls s) k) k))) := Lib.hid (by unfold colI; rw [if_pos hp, up_sub]; rfl)
    obtain ⟨a, ha⟩ : ∃ a, a = lst (ls s) k := ⟨_, rfl⟩
    rw [← ha] at h2 h3 Hc
    have hsz : (s.extract a k).size ≤ 1099511627775 := by rw [ByteArray.size_extract]; omega
    clear ha h1
    go_enter Try.func91, Try.ntmps91
    go_wp2_with (first | (go_at_call 62; refine (rplace_c _ _ _ hs).mono ?_; rintro e w1 ⟨rfl, hx1⟩) | (go_at_call 64; refine (r4of_c _ _ _ hs).mono ?_; rintro e w1 ⟨rfl, hx1⟩) | (go_at_call 63; refine (r4start_c _ _ _ hs).mono ?_; rintro e w1 ⟨rfl, hx1⟩) | (go_at_call 119; refine (rcount_c _ _ hsz).mono ?_; rintro e w1 ⟨rfl, hx1⟩))
    all_goals (first | (go_ret; exact ⟨ret1 Hc.out.symm, (by (repeat (first | exact Ext.refl _ | exact ‹Ext _ _› | refine Ext.alloc ?_ _ | refine Ext.drew ?_ | refine Ext.drewN ?_ _ | (refine Ext.setCell ?_ (by first | omega | (simp; done) | (simp; omega)) _) | refine Ext.trans ?_ ‹Ext _ _›)))⟩) | (exfalso; omega))

end Go.Proofs.Ytnmcdkekflnekaa
/- The contracts of the packages line and calamusref04 in the printer's form. -/
namespace Go.Proofs.Ytnmcdkekflnekaa
open Go.RowKit
set_option linter.unusedVariables false
set_option linter.unusedSimpArgs false
def line_Count.f (a0 : ByteArray) : Option (Int) := if a0.size ≤ 1099511627775 then some (lcountI (ls a0)) else none
theorem line_Count.eq (a0 : ByteArray) (hg : a0.size ≤ 1099511627775) : line_Count.f a0 = some (lcountI (ls a0)) := if_pos hg
theorem line_Count.calls (a0 : ByteArray) (r : Int) (w : World) (h : line_Count.f a0 = some r) : Calls Try.prog 37 #[.string a0] w fun e w' => e = .returned (.int .i64 r) ∧ Below w.heap.size w w' := by
  unfold line_Count.f at h
  split at h
  · cases h; exact lcount_c a0 w (by omega)
  · cases h
def line_Start.f (a0 : ByteArray) (a1 : Int) : Option (Int) := if a0.size ≤ 1099511627775 then some (startI (ls a0) a1) else none
theorem line_Start.eq (a0 : ByteArray) (a1 : Int) (hg : a0.size ≤ 1099511627775) : line_Start.f a0 a1 = some (startI (ls a0) a1) := if_pos hg
theorem line_Start.calls (a0 : ByteArray) (a1 : Int) (r : Int) (w : World) (h : line_Start.f a0 a1 = some r) : Calls Try.prog 57 #[.string a0, .int .i64 a1] w fun e w' => e = .returned (.int .i64 r) ∧ Below w.heap.size w w' := by
  unfold line_Start.f at h
  split at h
  · cases h; exact lstart_c a0 a1 w (by omega)
  · cases h
def line_End.f (a0 : ByteArray) (a1 : Int) : Option (Int) := if a0.size ≤ 1099511627775 then some (endI (ls a0) a1) else none
theorem line_End.eq (a0 : ByteArray) (a1 : Int) (hg : a0.size ≤ 1099511627775) : line_End.f a0 a1 = some (endI (ls a0) a1) := if_pos hg
theorem line_End.calls (a0 : ByteArray) (a1 : Int) (r : Int) (w : World) (h : line_End.f a0 a1 = some r) : Calls Try.prog 59 #[.string a0, .int .i64 a1] w fun e w' => e = .returned (.int .i64 r) ∧ Below w.heap.size w w' := by
  unfold line_End.f at h
  split at h
  · cases h; exact lend_c a0 a1 w (by omega)
  · cases h
def line_Of.f (a0 : ByteArray) (a1 : Int) : Option (Int) := if a0.size ≤ 1099511627775 then some (ofI (ls a0) a1) else none
theorem line_Of.eq (a0 : ByteArray) (a1 : Int) (hg : a0.size ≤ 1099511627775) : line_Of.f a0 a1 = some (ofI (ls a0) a1) := if_pos hg
theorem line_Of.calls (a0 : ByteArray) (a1 : Int) (r : Int) (w : World) (h : line_Of.f a0 a1 = some r) : Calls Try.prog 58 #[.string a0, .int .i64 a1] w fun e w' => e = .returned (.int .i64 r) ∧ Below w.heap.size w w' := by
  unfold line_Of.f at h
  split at h
  · cases h; exact lof_c a0 a1 w (by omega)
  · cases h
def line_Clamp.f (a0 : ByteArray) (a1 : Int) : Option (Int) := if a0.size ≤ 1099511627775 then some (clampI (ls a0) a1) else none
theorem line_Clamp.eq (a0 : ByteArray) (a1 : Int) (hg : a0.size ≤ 1099511627775) : line_Clamp.f a0 a1 = some (clampI (ls a0) a1) := if_pos hg
theorem line_Clamp.calls (a0 : ByteArray) (a1 : Int) (r : Int) (w : World) (h : line_Clamp.f a0 a1 = some r) : Calls Try.prog 90 #[.string a0, .int .i64 a1] w fun e w' => e = .returned (.int .i64 r) ∧ Below w.heap.size w w' := by
  unfold line_Clamp.f at h
  split at h
  · cases h; exact clamp_c a0 a1 w (by omega)
  · cases h
def calamusref04_Start.f (a0 : ByteArray) (a1 : Int) : Option (Int) := if a0.size ≤ 1099511627775 then some (startI (ls a0) a1) else none
theorem calamusref04_Start.eq (a0 : ByteArray) (a1 : Int) (hg : a0.size ≤ 1099511627775) : calamusref04_Start.f a0 a1 = some (startI (ls a0) a1) := if_pos hg
theorem calamusref04_Start.calls (a0 : ByteArray) (a1 : Int) (r : Int) (w : World) (h : calamusref04_Start.f a0 a1 = some r) : Calls Try.prog 63 #[.string a0, .int .i64 a1] w fun e w' => e = .returned (.int .i64 r) ∧ Below w.heap.size w w' := by
  unfold calamusref04_Start.f at h
  split at h
  · cases h; exact r4start_c a0 a1 w (by omega)
  · cases h
def calamusref04_End.f (a0 : ByteArray) (a1 : Int) : Option (Int) := if a0.size ≤ 1099511627775 then some (endI (ls a0) a1) else none
theorem calamusref04_End.eq (a0 : ByteArray) (a1 : Int) (hg : a0.size ≤ 1099511627775) : calamusref04_End.f a0 a1 = some (endI (ls a0) a1) := if_pos hg
theorem calamusref04_End.calls (a0 : ByteArray) (a1 : Int) (r : Int) (w : World) (h : calamusref04_End.f a0 a1 = some r) : Calls Try.prog 65 #[.string a0, .int .i64 a1] w fun e w' => e = .returned (.int .i64 r) ∧ Below w.heap.size w w' := by
  unfold calamusref04_End.f at h
  split at h
  · cases h; exact r4end_c a0 a1 w (by omega)
  · cases h
def calamusref04_Of.f (a0 : ByteArray) (a1 : Int) : Option (Int) := if a0.size ≤ 1099511627775 then some (ofI (ls a0) a1) else none
theorem calamusref04_Of.eq (a0 : ByteArray) (a1 : Int) (hg : a0.size ≤ 1099511627775) : calamusref04_Of.f a0 a1 = some (ofI (ls a0) a1) := if_pos hg
theorem calamusref04_Of.calls (a0 : ByteArray) (a1 : Int) (r : Int) (w : World) (h : calamusref04_Of.f a0 a1 = some r) : Calls Try.prog 64 #[.string a0, .int .i64 a1] w fun e w' => e = .returned (.int .i64 r) ∧ Below w.heap.size w w' := by
  unfold calamusref04_Of.f at h
  split at h
  · cases h; exact r4of_c a0 a1 w (by omega)
  · cases h
def calamusref04_Column.f (a0 : ByteArray) (a1 : Int) : Option (Int) := if a0.size ≤ 1099511627775 then some (colI (ls a0) a1) else none
theorem calamusref04_Column.eq (a0 : ByteArray) (a1 : Int) (hg : a0.size ≤ 1099511627775) : calamusref04_Column.f a0 a1 = some (colI (ls a0) a1) := if_pos hg
theorem calamusref04_Column.calls (a0 : ByteArray) (a1 : Int) (r : Int) (w : World) (h : calamusref04_Column.f a0 a1 = some r) : Calls Try.prog 91 #[.string a0, .int .i64 a1] w fun e w' => e = .returned (.int .i64 r) ∧ Below w.heap.size w w' := by
  unfold calamusref04_Column.f at h
  split at h
  · cases h; exact r4column_c a0 a1 w (by omega)
  · cases h
end Go.Proofs.Ytnmcdkekflnekaa
/- The contract of line.Normal. -/
namespace Go.Proofs.Ytnmcdkekflnekaa
open Go.RowKit
set_option linter.unusedVariables false
set_option linter.unusedSimpArgs false
set_option maxHeartbeats 4000000 in
set_option maxRecDepth 100000 in
theorem lnormal_c (s : ByteArray) (p : Int) (w : World) (hs : s.size ≤ 1099511627775) : Calls Try.prog 46 #[.string s, .int .i64 p] w fun e w' => e = .returned (.bool (normalB (ls s) p)) ∧ Ext w w' := by
  rcases place_cases s p with hp | ⟨q, rfl, hq, hp, hv⟩
  · have H : Hid (normalB (ls s) p = false) := Lib.hid (by unfold normalB; rw [hp]; rfl)
    go_enter Try.func46, Try.ntmps46
    go_wp2_with (first | (go_at_call 45; refine (place_c _ _ _ (by omega)).mono ?_; rintro e w1 ⟨rfl, hx1⟩))
    go_ret
    exact ⟨retb H.out.symm, (by (repeat (first | exact Ext.refl _ | exact ‹Ext _ _› | refine Ext.alloc ?_ _ | refine Ext.drew ?_ | refine Ext.drewN ?_ _ | (refine Ext.setCell ?_ (by first | omega | (simp; done) | (simp; omega)) _) | refine Ext.trans ?_ ‹Ext _ _›)))⟩
  · have H : Hid (normalB (ls s) q = (!endsB (ls s) q || decide (lst (ls s) q = q))) := Lib.hid (by unfold normalB; rw [hp, Int.toNat_natCast, Bool.true_and])
    obtain ⟨b, hb⟩ : ∃ b, endsB (ls s) q = b := ⟨_, rfl⟩
    have Hb := Lib.hid hb
    obtain ⟨m, hm⟩ : ∃ m, lst (ls s) q = m := ⟨_, rfl⟩
    have Hm := Lib.hid hm
    have hbeg : ∀ w, Calls Try.prog 94 #[.string s, .int .i64 q] w fun e w' => e = .returned (.int .i64 (m : Nat)) ∧ Ext w w' := fun w => by rw [← hm]; exact begin_c s q hq w hs
    clear hm
    cases b with
    | true =>
      go_enter Try.func46, Try.ntmps46
      go_wp2_with (first | (go_at_call 45; refine (place_c _ _ _ (by omega)).mono ?_; rintro e w1 ⟨rfl, hx1⟩) | (go_at_call 93; refine (ends_c s q hq _ hs).mono ?_; rintro e w1 ⟨rfl, hx1⟩) | (go_at_call 94; refine (hbeg _).mono ?_; rintro e w1 ⟨rfl, hx1⟩))
      all_goals (go_ret; refine ⟨retb ?_, (by (repeat (first | exact Ext.refl _ | exact ‹Ext _ _› | refine Ext.alloc ?_ _ | refine Ext.drew ?_ | refine Ext.drewN ?_ _ | (refine Ext.setCell ?_ (by first | omega | (simp; done) | (simp; omega)) _) | refine Ext.trans ?_ ‹Ext _ _›)))⟩; rw [H.out, Hb.out, Hm.out]; first | rfl | (rw [Bool.eq_iff_iff]; simp <;> omega) | (simp <;> omega))
    | false =>
      go_enter Try.func46, Try.ntmps46
      go_wp2_with (first | (go_at_call 45; refine (place_c _ _ _ (by omega)).mono ?_; rintro e w1 ⟨rfl, hx1⟩) | (go_at_call 93; refine (ends_c s q hq _ hs).mono ?_; rintro e w1 ⟨rfl, hx1⟩))
      go_ret
      exact ⟨retb (by rw [H.out, Hb.out]; rfl), (by (repeat (first | exact Ext.refl _ | exact ‹Ext _ _› | refine Ext.alloc ?_ _ | refine Ext.drew ?_ | refine Ext.drewN ?_ _ | (refine Ext.setCell ?_ (by first | omega | (simp; done) | (simp; omega)) _) | refine Ext.trans ?_ ‹Ext _ _›)))⟩
def line_Normal.f (a0 : ByteArray) (a1 : Int) : Option (Bool) := if a0.size ≤ 1099511627775 then some (normalB (ls a0) a1) else none
theorem line_Normal.eq (a0 : ByteArray) (a1 : Int) (hg : a0.size ≤ 1099511627775) : line_Normal.f a0 a1 = some (normalB (ls a0) a1) := if_pos hg
theorem line_Normal.calls (a0 : ByteArray) (a1 : Int) (r : Bool) (w : World) (h : line_Normal.f a0 a1 = some r) : Calls Try.prog 46 #[.string a0, .int .i64 a1] w fun e w' => e = .returned (.bool r) ∧ Below w.heap.size w w' := by
  unfold line_Normal.f at h
  split at h
  · cases h; exact lnormal_c a0 a1 w (by omega)
  · cases h
end Go.Proofs.Ytnmcdkekflnekaa
-- Printed by this work's xp.py out of the translation. Lean checks it.
namespace Go.Proofs.Ytnmcdkekflnekaa.QK
open Go.RowKit Go.Proofs.YtnmcdkekflnekaaW.PrintWords Go.Proofs.YtnmcdkekflnekaaW.PrintLast Go.Proofs.YtnmcdkekflnekaaW.PrintMore
attribute [local go_sem] max2_int min2_int max_two min_two max_three min_three max_four min_four   -- for this text's walks alone
set_option linter.unusedVariables false
set_option linter.unusedSimpArgs false



def errW : Option Int → Value
  | none => .nilIface
  | some c => .iface 0 (.int .i64 c)
theorem errW_none : errW none = .nilIface := rfl
theorem errW_some (c : Int) : errW (some c) = .iface 0 (.int .i64 c) := rfl

theorem info3 : (Try.prog.info? 3).map (fun i => (i.zero, i.size, i.bytes)) = some (some (.int .i64 0), 1, 8) := by kernel_rfl
-- the values' own types

end Go.Proofs.Ytnmcdkekflnekaa.QK
-- Printed by this work's xp.py out of the translation. Lean checks it.
namespace Go.Proofs.Ytnmcdkekflnekaa.QK
open Go.RowKit Go.Proofs.YtnmcdkekflnekaaW.PrintWords Go.Proofs.YtnmcdkekflnekaaW.PrintLast Go.Proofs.YtnmcdkekflnekaaW.PrintMore
attribute [local go_sem] max2_int min2_int max_two min_two max_three min_three max_four min_four   -- for this text's walks alone
set_option linter.unusedVariables false
set_option linter.unusedSimpArgs false



/-! ### calamuslaw25_lives -/
def calamuslaw25_lives.f  : Option (Bool) := (entry_Chop.f (⟨#[97, 98, 32, 32, 99, 100, 32]⟩ : ByteArray) 7 0).bind fun bt101 => (if bt101.1.toList = ([97, 98, 32, 32] : List UInt8) then (if bt101.2.1 = 4 then (some (bt101.2.2 == 0)) else (some false)) else (some false))
set_option maxHeartbeats 8000000 in
set_option maxRecDepth 100000 in
theorem calamuslaw25_lives.calls  (r : Bool) (w : World) (h : calamuslaw25_lives.f  = some r) :
  Calls Try.prog 14 #[] w fun e w' => e = .returned (.bool r) ∧ Below w.heap.size w w' := by
 have HB := Aside0.mk (Below.refl w.heap.size w)
 have H : ((entry_Chop.f (⟨#[97, 98, 32, 32, 99, 100, 32]⟩ : ByteArray) 7 0).bind fun bt101 => (if bt101.1.toList = ([97, 98, 32, 32] : List UInt8) then (if bt101.2.1 = 4 then (some (bt101.2.2 == 0)) else (some false)) else (some false))) = some r := h
 clear h
 replace H := Option.bind_eq_some_iff.mp H
 obtain ⟨⟨t101, t102, t103⟩, A10, H⟩ := H
 replace H : (if t101.toList = ([97, 98, 32, 32] : List UInt8) then (if t102 = 4 then (some (t103 == 0)) else (some false)) else (some false)) = some r := H
 have A1 := Aside0.mk A10
 clear A10
 by_cases c2 : t101.toList = ([97, 98, 32, 32] : List UInt8)
 ·rw [if_pos c2] at H
  have c2b0 : (t101.toList == ([97, 98, 32, 32] : List UInt8)) = true := beq_iff_eq.mpr c2
  have c2b1 : (t101.toList != ([97, 98, 32, 32] : List UInt8)) = false := bne_eq_false_iff_eq.mpr c2
  clear c2
  by_cases c3 : t102 = 4
  ·rw [if_pos c3] at H
   have c3b0 : (t102 == 4) = true := beq_iff_eq.mpr c3
   have c3b1 : (t102 != 4) = false := bne_eq_false_iff_eq.mpr c3
   clear c3
   obtain rfl := Option.some.inj H
   go_enter Try.func14, Try.ntmps14
   go_wp2_with (first | ((with_reducible refine gate_callee (f := 39) rfl ?_); refine goesL_ (some 5) rfl rfl Try.func39 (by kernel_rfl) rfl #[.string (⟨#[97, 98, 32, 32, 99, 100, 32]⟩ : ByteArray), .int .i64 7, .int .i64 0] rfl (by (try simp only [List.map_toArray, List.map_cons, List.map_nil]); first | done | rfl | (simp only [List.length_drop, List.length_take]; rfl)) ?_; (with_reducible refine (entry_Chop.calls (⟨#[97, 98, 32, 32, 99, 100, 32]⟩ : ByteArray) 7 0 t101 t102 t103 _ A1.out).mono ?_); rintro e w4 ⟨rfl, hb⟩; refine ⟨_, rfl, ?_⟩; have n0_ := Aside0.mk (below_step (by repeat (first | (with_reducible first | exact HB.out | apply below_alloc | apply pw_below_drewN | apply below_drew1) | exact HB.out)) hb); clear HB; have HB := n0_; clear n0_; (try clear hb); (try clear hb2); (try clear hk); (try clear hi)))
   go_ret
   exact ⟨by first | rfl | (simp [errW_none, errW_some] <;> rfl) | (simp [*, errW_none, errW_some] <;> rfl), by repeat (first | (with_reducible first | exact HB.out | apply below_alloc | apply pw_below_drewN | apply below_drew1) | exact HB.out)⟩
  ·rw [if_neg c3] at H
   have c3b0 : (t102 == 4) = false := beq_eq_false_iff_ne.mpr c3
   have c3b1 : (t102 != 4) = true := bne_iff_ne.mpr c3
   obtain rfl := Option.some.inj H
   go_enter Try.func14, Try.ntmps14
   go_wp2_with (first | ((with_reducible refine gate_callee (f := 39) rfl ?_); refine goesL_ (some 5) rfl rfl Try.func39 (by kernel_rfl) rfl #[.string (⟨#[97, 98, 32, 32, 99, 100, 32]⟩ : ByteArray), .int .i64 7, .int .i64 0] rfl (by (try simp only [List.map_toArray, List.map_cons, List.map_nil]); first | done | rfl | (simp only [List.length_drop, List.length_take]; rfl)) ?_; (with_reducible refine (entry_Chop.calls (⟨#[97, 98, 32, 32, 99, 100, 32]⟩ : ByteArray) 7 0 t101 t102 t103 _ A1.out).mono ?_); rintro e w5 ⟨rfl, hb⟩; refine ⟨_, rfl, ?_⟩; have n0_ := Aside0.mk (below_step (by repeat (first | (with_reducible first | exact HB.out | apply below_alloc | apply pw_below_drewN | apply below_drew1) | exact HB.out)) hb); clear HB; have HB := n0_; clear n0_; (try clear hb); (try clear hb2); (try clear hk); (try clear hi)))
   go_ret
   exact ⟨by first | rfl | (simp [errW_none, errW_some] <;> rfl) | (simp [*, errW_none, errW_some] <;> rfl), by repeat (first | (with_reducible first | exact HB.out | apply below_alloc | apply pw_below_drewN | apply below_drew1) | exact HB.out)⟩
 ·rw [if_neg c2] at H
  have c2b0 : (t101.toList == ([97, 98, 32, 32] : List UInt8)) = false := beq_eq_false_iff_ne.mpr c2
  have c2b1 : (t101.toList != ([97, 98, 32, 32] : List UInt8)) = true := bne_iff_ne.mpr c2
  obtain rfl := Option.some.inj H
  go_enter Try.func14, Try.ntmps14
  go_wp2_with (first | ((with_reducible refine gate_callee (f := 39) rfl ?_); refine goesL_ (some 5) rfl rfl Try.func39 (by kernel_rfl) rfl #[.string (⟨#[97, 98, 32, 32, 99, 100, 32]⟩ : ByteArray), .int .i64 7, .int .i64 0] rfl (by (try simp only [List.map_toArray, List.map_cons, List.map_nil]); first | done | rfl | (simp only [List.length_drop, List.length_take]; rfl)) ?_; (with_reducible refine (entry_Chop.calls (⟨#[97, 98, 32, 32, 99, 100, 32]⟩ : ByteArray) 7 0 t101 t102 t103 _ A1.out).mono ?_); rintro e w6 ⟨rfl, hb⟩; refine ⟨_, rfl, ?_⟩; have n0_ := Aside0.mk (below_step (by repeat (first | (with_reducible first | exact HB.out | apply below_alloc | apply pw_below_drewN | apply below_drew1) | exact HB.out)) hb); clear HB; have HB := n0_; clear n0_; (try clear hb); (try clear hb2); (try clear hk); (try clear hi)))
  go_ret
  exact ⟨by first | rfl | (simp [errW_none, errW_some] <;> rfl) | (simp [*, errW_none, errW_some] <;> rfl), by repeat (first | (with_reducible first | exact HB.out | apply below_alloc | apply pw_below_drewN | apply below_drew1) | exact HB.out)⟩





/-! ### entry_fed -/
def entry_fed.f (a0 : ByteArray) (a1 : Int) : Option (Bool) := if a1 > 0 then (if 0 ≤ (wrap64 (a1 - 1)) then (if (wrap64 (a1 - 1)) < (a0.size : Int) then (some ((bt a0 (wrap64 (a1 - 1))) == 10)) else (none)) else (none)) else (some false)
set_option maxHeartbeats 8000000 in
set_option maxRecDepth 100000 in
theorem entry_fed.calls (a0 : ByteArray) (a1 : Int) (r : Bool) (w : World) (h : entry_fed.f a0 a1 = some r) :
  Calls Try.prog 83 #[.string a0, .int .i64 a1] w fun e w' => e = .returned (.bool r) ∧ Drawn0 w w' := by
 have H : (if a1 > 0 then (if 0 ≤ (wrap64 (a1 - 1)) then (if (wrap64 (a1 - 1)) < (a0.size : Int) then (some ((bt a0 (wrap64 (a1 - 1))) == 10)) else (none)) else (none)) else (some false)) = some r := h
 clear h
 by_cases c3 : a1 > 0
 ·rw [if_pos c3] at H
  have c3b0 : decide (0 < a1) = true := decide_eq_true c3
  clear c3
  obtain ⟨ji4, hji4⟩ : ∃ j_ : Int, (wrap64 (a1 - 1)) = j_ := ⟨_, rfl⟩
  replace H : (if 0 ≤ (ji4) then (if (ji4) < (a0.size : Int) then (some ((bt a0 (ji4)) == 10)) else (none)) else (none)) = some r := by first | (rw [hji4] at H; exact H) | (simp only [hji4] at H ⊢; exact H)
  have hji4w : (IntKind.i64.wrap (a1 - 1)) = ji4 := (i64_w _).trans hji4
  by_cases c5 : 0 ≤ (ji4)
  ·rw [if_pos c5] at H
   have c5b0 : decide (0 ≤ (ji4)) = true := decide_eq_true c5
   clear c5
   by_cases c6 : (ji4) < (a0.size : Int)
   ·rw [if_pos c6] at H
    have c6b0 : decide ((ji4) < (a0.size : Int)) = true := decide_eq_true c6
    clear c6
    obtain rfl := Option.some.inj H
    have p7 : 0 ≤ ((ji4) : Int) := of_decide_eq_true (by first | (with_reducible assumption) | assumption)
    have q7 : (ji4) < (a0.size : Int) := of_decide_eq_true (by first | (with_reducible assumption) | assumption)
    have hx7 := bt_at a0 (ji4)
    replace p7 := eq_true p7
    replace q7 := eq_true q7
    go_enter Try.func83, Try.ntmps83
    go_wp2
    go_ret
    exact ⟨by first | rfl | (simp; done) | (simp only [← hji4] <;> (first | rfl | simp)) | (simp [*]; done), by repeat (first | exact Drawn0.refl _ | apply Drawn0.step)⟩
   ·rw [if_neg c6] at H
    exact absurd H (by simp)
  ·rw [if_neg c5] at H
   exact absurd H (by simp)
 ·rw [if_neg c3] at H
  have c3b0 : decide (0 < a1) = false := decide_eq_false c3
  clear c3
  obtain rfl := Option.some.inj H
  go_enter Try.func83, Try.ntmps83
  go_wp2
  go_ret
  exact ⟨by first | rfl | (simp; done) | (simp [*]; done), by repeat (first | exact Drawn0.refl _ | apply Drawn0.step)⟩


/-! ### entry_Leave -/
def entry_Leave.j0 : Nat → ByteArray → Int → Bool → Option (Int)
 | 0, _, _, _ => none
 | k + 1, x0, x1, x16 => if x16 = true then ((utf_Prev.f x0 x1).bind fun t106 => ((line_Clamp.f x0 t106).bind fun t107 => (some t107))) else ((line_Clamp.f x0 x1).bind fun t108 => (some t108))
def entry_Leave.f (k : Nat) (a0 : ByteArray) (a1 : Int) : Option (Int) := (utf_Place.f a0 a1).bind fun t104 => (if t104 = true then (if a1 > 0 then ((entry_fed.f a0 a1).bind fun t105 => (entry_Leave.j0 k a0 a1 (!t105))) else (entry_Leave.j0 k a0 a1 false)) else (some 0))
theorem entry_Leave.mono_l : ∀ k, (∀ y0 y1 y2, LeO (entry_Leave.j0 k y0 y1 y2) (entry_Leave.j0 (k + 1) y0 y1 y2))
 | 0 => fun _ _ _ r h => by simp [entry_Leave.j0] at h
 | k + 1 => by
  have ih0 := entry_Leave.mono_l k
  ·intro y0 y1 y2
   unfold entry_Leave.j0
   repeat' first
   | (with_reducible exact ih0 _ _ _)
   | (with_reducible exact LeO.refl _)
   | (with_reducible exact LeO.none _)
   | (with_reducible refine LeO.ite ?_ ?_)
   | (with_reducible refine LeO.bind ?_ (fun _ => ?_))
   | exact ih0 _ _ _
   | exact LeO.none _
   | refine LeO.ite ?_ ?_
   | refine LeO.bind ?_ (fun _ => ?_)
theorem entry_Leave.mono : ∀ a0 a1 k, LeO (entry_Leave.f k a0 a1) (entry_Leave.f (k + 1) a0 a1) := by
 intro a0 a1 k
 have ih0 := entry_Leave.mono_l k
 unfold entry_Leave.f
 repeat' first
   | (with_reducible exact ih0 _ _ _)
   | (with_reducible exact LeO.refl _)
   | (with_reducible exact LeO.none _)
   | (with_reducible refine LeO.ite ?_ ?_)
   | (with_reducible refine LeO.bind ?_ (fun _ => ?_))
   | exact ih0 _ _ _
   | exact LeO.none _
   | refine LeO.ite ?_ ?_
   | refine LeO.bind ?_ (fun _ => ?_)
set_option maxHeartbeats 8000000 in
set_option maxRecDepth 100000 in
theorem entry_Leave.calls (k : Nat) (a0 : ByteArray) (a1 : Int) (r : Int) (w : World) (h : entry_Leave.f k a0 a1 = some r) :
  Calls Try.prog 43 #[.string a0, .int .i64 a1] w fun e w' => e = .returned (.int .i64 r) ∧ Below w.heap.size w w' := by
 have HB := Aside0.mk (Below.refl w.heap.size w)
 have H : ((utf_Place.f a0 a1).bind fun t104 => (if t104 = true then (if a1 > 0 then ((entry_fed.f a0 a1).bind fun t105 => (entry_Leave.j0 k a0 a1 (!t105))) else (entry_Leave.j0 k a0 a1 false)) else (some 0))) = some r := h
 clear h
 replace H := Option.bind_eq_some_iff.mp H
 obtain ⟨t104, A30, H⟩ := H
 replace H : (if t104 = true then (if a1 > 0 then ((entry_fed.f a0 a1).bind fun t105 => (entry_Leave.j0 k a0 a1 (!t105))) else (entry_Leave.j0 k a0 a1 false)) else (some 0)) = some r := H
 have A3 := Aside0.mk A30
 clear A30
 by_cases c4 : t104 = true
 ·subst c4
  have H1 : (if a1 > 0 then ((entry_fed.f a0 a1).bind fun t105 => (entry_Leave.j0 k a0 a1 (!t105))) else (entry_Leave.j0 k a0 a1 false)) = some r := by rw [if_pos rfl] at H; exact H
  clear H
  have H := H1
  clear H1
  have HC5 := Aside0.mk H
  clear H
  go_enter Try.func43, Try.ntmps43
  go_upto_region 3 with (first | ((with_reducible refine gate_callee (f := 45) rfl ?_); refine goesL_ (some 7) rfl rfl Try.func45 (by kernel_rfl) rfl #[.string a0, .int .i64 a1] rfl (by (try simp only [List.map_toArray, List.map_cons, List.map_nil]); first | done | rfl | (simp only [List.length_drop, List.length_take]; rfl)) ?_; (with_reducible refine (utf_Place.calls a0 a1 true _ A3.out).mono ?_); rintro e w6 ⟨rfl, hb⟩; refine ⟨_, rfl, ?_⟩; have n0_ := Aside0.mk (below_step (by repeat (first | (with_reducible first | exact HB.out | apply below_alloc | apply pw_below_drewN | apply below_drew1) | exact HB.out)) hb); clear HB; have HB := n0_; clear n0_; (try clear hb); (try clear hb2); (try clear hk); (try clear hi)))
  (try simp only [Act.put, List.setIfInBounds_toArray, List.set_cons_zero, List.set_cons_succ])
  go_cut [16] (fun v16 wc => ∃ (kq : Nat) (x16_4 : Bool), v16 = .bool x16_4 ∧ Aside0 (entry_Leave.j0 kq a0 a1 x16_4 = some r) ∧ Aside0 (kq ≤ k) ∧ Aside0 (Below w.heap.size w wc))
  case first => as_aux_lemma =>
   have H := HC5.out
   clear HC5
   by_cases c7 : a1 > 0
   ·rw [if_pos c7] at H
    have c7b0 : decide (0 < a1) = true := decide_eq_true c7
    clear c7
    (first | rw [c7b0] | (simp only [i64_w, i32_w]; rw [c7b0]) | skip)
    replace H := Option.bind_eq_some_iff.mp H
    obtain ⟨t105, A80, H⟩ := H
    replace H : (entry_Leave.j0 k a0 a1 (!t105)) = some r := H
    have A8 := Aside0.mk A80
    clear A80
    have H' := Aside0.mk H
    clear H
    go_wp2_with (first | (go_at_call 83; (with_reducible refine (entry_fed.calls a0 a1 t105 _ A8.out).mono ?_); rintro e w' ⟨rfl, ⟨nd, rfl⟩⟩))
    go_meet
    case rel => exact ⟨_, (!t105), (by first | rfl | (simp; done) | (simp [*]; done)), H', ⟨by first | omega | exact Nat.le_refl _⟩, ⟨by repeat (first | (with_reducible first | exact HB.out | apply below_alloc | apply pw_below_drewN | apply below_drew1) | exact HB.out)⟩⟩
   ·rw [if_neg c7] at H
    have c7b0 : decide (0 < a1) = false := decide_eq_false c7
    clear c7
    (first | rw [c7b0] | (simp only [i64_w, i32_w]; rw [c7b0]) | skip)
    have H' := Aside0.mk H
    clear H
    go_wp2
    go_meet
    case rel => exact ⟨_, (false), (by first | rfl | (simp; done) | (simp [*]; done)), H', ⟨by first | omega | exact Nat.le_refl _⟩, ⟨by repeat (first | (with_reducible first | exact HB.out | apply below_alloc | apply pw_below_drewN | apply below_drew1) | exact HB.out)⟩⟩
  case rest => as_aux_lemma =>
   clear HC5
   try clear p2
   try clear c4
   try clear c7
   try clear c7b0
   obtain ⟨kq, x16_4, rfl, HA, HJ4, HB⟩ := hcut
   cases kq with
   | zero => exact absurd HA.out (by simp [entry_Leave.j0])
   | succ kj4 =>
    have H := HA.out
    clear HA
    simp only [entry_Leave.j0] at H
    by_cases c9 : x16_4 = true
    ·subst c9
     have H1 : ((utf_Prev.f a0 a1).bind fun t106 => ((line_Clamp.f a0 t106).bind fun t107 => (some t107))) = some r := by rw [if_pos rfl] at H; exact H
     clear H
     have H := H1
     clear H1
     replace H := Option.bind_eq_some_iff.mp H
     obtain ⟨t106, A100, H⟩ := H
     replace H : ((line_Clamp.f a0 t106).bind fun t107 => (some t107)) = some r := H
     have A10 := Aside0.mk A100
     clear A100
     replace H := Option.bind_eq_some_iff.mp H
     obtain ⟨t107, A110, H⟩ := H
     replace H : (some t107) = some r := H
     have A11 := Aside0.mk A110
     clear A110
     obtain rfl := Option.some.inj H
     go_wp2_with (first | ((with_reducible refine gate_callee (f := 55) rfl ?_); refine goesL_ (some 19) rfl rfl Try.func55 (by kernel_rfl) rfl #[.string a0, .int .i64 a1] rfl (by (try simp only [List.map_toArray, List.map_cons, List.map_nil]); first | done | rfl | (simp only [List.length_drop, List.length_take]; rfl)) ?_; (with_reducible refine (utf_Prev.calls a0 a1 t106 _ A10.out).mono ?_); rintro e w12 ⟨rfl, hb⟩; refine ⟨_, rfl, ?_⟩; have n0_ := Aside0.mk (below_step (by repeat (first | (with_reducible first | exact HB.out | apply below_alloc | apply pw_below_drewN | apply below_drew1) | exact HB.out)) hb); clear HB; have HB := n0_; clear n0_; (try clear hb); (try clear hb2); (try clear hk); (try clear hi)) | ((with_reducible refine gate_callee (f := 90) rfl ?_); refine goesL_ (some 22) rfl rfl Try.func90 (by kernel_rfl) rfl #[.string a0, .int .i64 t106] rfl (by (try simp only [List.map_toArray, List.map_cons, List.map_nil]); first | done | rfl | (simp only [List.length_drop, List.length_take]; rfl)) ?_; (with_reducible refine (line_Clamp.calls a0 t106 t107 _ A11.out).mono ?_); rintro e w13 ⟨rfl, hb⟩; refine ⟨_, rfl, ?_⟩; have n0_ := Aside0.mk (below_step (by repeat (first | (with_reducible first | exact HB.out | apply below_alloc | apply pw_below_drewN | apply below_drew1) | exact HB.out)) hb); clear HB; have HB := n0_; clear n0_; (try clear hb); (try clear hb2); (try clear hk); (try clear hi)))
     go_ret
     exact ⟨by first | rfl | (simp [errW_none, errW_some] <;> rfl) | (simp [*, errW_none, errW_some] <;> rfl), by repeat (first | (with_reducible first | exact HB.out | apply below_alloc | apply pw_below_drewN | apply below_drew1) | exact HB.out)⟩
    ·replace c9 := Bool.eq_false_iff.mpr c9
     subst c9
     have H1 : ((line_Clamp.f a0 a1).bind fun t108 => (some t108)) = some r := by rw [if_neg (show ¬ (false = true) by decide)] at H; exact H
     clear H
     have H := H1
     clear H1
     replace H := Option.bind_eq_some_iff.mp H
     obtain ⟨t108, A140, H⟩ := H
     replace H : (some t108) = some r := H
     have A14 := Aside0.mk A140
     clear A140
     obtain rfl := Option.some.inj H
     go_wp2_with (first | ((with_reducible refine gate_callee (f := 90) rfl ?_); refine goesL_ (some 22) rfl rfl Try.func90 (by kernel_rfl) rfl #[.string a0, .int .i64 a1] rfl (by (try simp only [List.map_toArray, List.map_cons, List.map_nil]); first | done | rfl | (simp only [List.length_drop, List.length_take]; rfl)) ?_; (with_reducible refine (line_Clamp.calls a0 a1 t108 _ A14.out).mono ?_); rintro e w15 ⟨rfl, hb⟩; refine ⟨_, rfl, ?_⟩; have n0_ := Aside0.mk (below_step (by repeat (first | (with_reducible first | exact HB.out | apply below_alloc | apply pw_below_drewN | apply below_drew1) | exact HB.out)) hb); clear HB; have HB := n0_; clear n0_; (try clear hb); (try clear hb2); (try clear hk); (try clear hi)))
     go_ret
     exact ⟨by first | rfl | (simp [errW_none, errW_some] <;> rfl) | (simp [*, errW_none, errW_some] <;> rfl), by repeat (first | (with_reducible first | exact HB.out | apply below_alloc | apply pw_below_drewN | apply below_drew1) | exact HB.out)⟩
 ·replace c4 := Bool.eq_false_iff.mpr c4
  subst c4
  have H1 : (some 0) = some r := by rw [if_neg (show ¬ (false = true) by decide)] at H; exact H
  clear H
  have H := H1
  clear H1
  obtain rfl := Option.some.inj H
  go_enter Try.func43, Try.ntmps43
  go_wp2_with (first | ((with_reducible refine gate_callee (f := 45) rfl ?_); refine goesL_ (some 7) rfl rfl Try.func45 (by kernel_rfl) rfl #[.string a0, .int .i64 a1] rfl (by (try simp only [List.map_toArray, List.map_cons, List.map_nil]); first | done | rfl | (simp only [List.length_drop, List.length_take]; rfl)) ?_; (with_reducible refine (utf_Place.calls a0 a1 false _ A3.out).mono ?_); rintro e w16 ⟨rfl, hb⟩; refine ⟨_, rfl, ?_⟩; have n0_ := Aside0.mk (below_step (by repeat (first | (with_reducible first | exact HB.out | apply below_alloc | apply pw_below_drewN | apply below_drew1) | exact HB.out)) hb); clear HB; have HB := n0_; clear n0_; (try clear hb); (try clear hb2); (try clear hk); (try clear hi)))
  go_ret
  exact ⟨by first | rfl | (simp [errW_none, errW_some] <;> rfl) | (simp [*, errW_none, errW_some] <;> rfl), by repeat (first | (with_reducible first | exact HB.out | apply below_alloc | apply pw_below_drewN | apply below_drew1) | exact HB.out)⟩


end Go.Proofs.Ytnmcdkekflnekaa.QK
