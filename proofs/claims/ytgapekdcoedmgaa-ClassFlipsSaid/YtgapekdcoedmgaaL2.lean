/- The contracts of the package line. -/
import Derived.Test.YtgapekdcoedmgaaL1
import Derived.Test.YtgapekdcoedmgaaML2
namespace Go.Proofs.Ytgapekdcoedmgaa
open Go.RowKit
set_option linter.unusedVariables false
set_option linter.unusedSimpArgs false

theorem count_ten (s : ByteArray) (w : World) : Calls Try.prog 41 #[.string s, .string ⟨#[10]⟩] w fun e w' => e = .returned (.int .i64 (tens (ls s) : Nat)) ∧ w = w' :=
  (Try.strings_Count_one s 10 w).mono fun _ _ h => ⟨h.1, h.2.symm⟩
set_option maxHeartbeats 4000000 in
set_option maxRecDepth 100000 in
theorem lcount_c (s : ByteArray) (w : World) (hs : s.size ≤ 1099511627775) : Calls Try.prog 23 #[.string s] w fun e w' => e = .returned (.int .i64 (lcountI (ls s))) ∧ Ext w w' := by
  have hb : tens (ls s) ≤ s.size := by rw [← ls_len s]; exact tens_le _
  rcases Bool.eq_false_or_eq_true (validL (ls s)) with hv | hv
  all_goals
    have Hv : Hid (lcountI (ls s) = if validL (ls s) then (tens (ls s) : Int) + 1 else 0) := Lib.hid rfl
    rw [hv] at Hv
    go_enter Try.func23, Try.ntmps23
    go_wp2_with (first | (go_at_call 15; refine (valid_c _ _ (by omega)).mono ?_; rintro e w1 ⟨rfl, hx1⟩) | (go_at_call 41; refine (count_ten _ _).mono ?_; rintro e w2 ⟨rfl, rfl⟩))
    go_ret
    exact ⟨ret1 Hv.out.symm, (by (repeat (first | exact Ext.refl _ | exact ‹Ext _ _› | refine Ext.alloc ?_ _ | refine Ext.drew ?_ | refine Ext.drewN ?_ _ | (refine Ext.setCell ?_ (by first | omega | (simp; done) | (simp; omega)) _) | refine Ext.trans ?_ ‹Ext _ _›)))⟩

theorem lineI_bd {s : ByteArray} {k : Int} : -1 ≤ startI (ls s) k ∧ startI (ls s) k ≤ s.size ∧ -1 ≤ endI (ls s) k ∧ endI (ls s) k ≤ s.size := by
  cases h : lineI (ls s) k with
  | none => have := line_none h; omega
  | some x =>
    have := line_some h
    have := lineI_le h
    rw [ls_len] at this
    omega
set_option maxHeartbeats 4000000 in
set_option maxRecDepth 100000 in
theorem lstart_c (s : ByteArray) (k : Int) (w : World) (hs : s.size ≤ 1099511627775) : Calls Try.prog 25 #[.string s, .int .i64 k] w fun e w' => e = .returned (.int .i64 (startI (ls s) k)) ∧ Ext w w' := by
  go_enter Try.func25, Try.ntmps25
  go_wp2_with (first | (go_at_call 49; refine (lfind_c _ _ _ (by omega)).mono ?_; rintro e w1 ⟨rfl, hx1⟩))
  go_ret
  exact ⟨rfl, (by (repeat (first | exact Ext.refl _ | exact ‹Ext _ _› | refine Ext.alloc ?_ _ | refine Ext.drew ?_ | refine Ext.drewN ?_ _ | (refine Ext.setCell ?_ (by first | omega | (simp; done) | (simp; omega)) _) | refine Ext.trans ?_ ‹Ext _ _›)))⟩
set_option maxHeartbeats 4000000 in
set_option maxRecDepth 100000 in
theorem lend_c (s : ByteArray) (k : Int) (w : World) (hs : s.size ≤ 1099511627775) : Calls Try.prog 27 #[.string s, .int .i64 k] w fun e w' => e = .returned (.int .i64 (endI (ls s) k)) ∧ Ext w w' := by
  go_enter Try.func27, Try.ntmps27
  go_wp2_with (first | (go_at_call 49; refine (lfind_c _ _ _ (by omega)).mono ?_; rintro e w1 ⟨rfl, hx1⟩))
  go_ret
  exact ⟨rfl, (by (repeat (first | exact Ext.refl _ | exact ‹Ext _ _› | refine Ext.alloc ?_ _ | refine Ext.drew ?_ | refine Ext.drewN ?_ _ | (refine Ext.setCell ?_ (by first | omega | (simp; done) | (simp; omega)) _) | refine Ext.trans ?_ ‹Ext _ _›)))⟩

theorem fds_ext (s : ByteArray) (p : Nat) : tens (ls (s.extract 0 p)) = fds (ls s) p := by
  rw [ls_ext2]; simp [fds]
set_option maxHeartbeats 4000000 in
set_option maxRecDepth 100000 in
theorem lof_c (s : ByteArray) (p : Int) (w : World) (hs : s.size ≤ 1099511627775) : Calls Try.prog 16 #[.string s, .int .i64 p] w fun e w' => e = .returned (.int .i64 (ofI (ls s) p)) ∧ Ext w w' := by
  by_cases h0 : p < 0 ∨ (s.size : Int) < p
  · have Ho : Hid (ofI (ls s) p = -1) := Lib.hid (by unfold ofI; rw [if_pos (by rw [ls_len]; omega)])
    go_enter Try.func16, Try.ntmps16
    go_wp2_with (first | (go_at_call 15; refine (valid_c _ _ (by omega)).mono ?_; rintro e w1 ⟨rfl, hx1⟩) | (go_at_call 41; refine (count_ten _ _).mono ?_; rintro e w2 ⟨rfl, rfl⟩))
    all_goals (go_ret; exact ⟨ret1 Ho.out.symm, (by (repeat (first | exact Ext.refl _ | exact ‹Ext _ _› | refine Ext.alloc ?_ _ | refine Ext.drew ?_ | refine Ext.drewN ?_ _ | (refine Ext.setCell ?_ (by first | omega | (simp; done) | (simp; omega)) _) | refine Ext.trans ?_ ‹Ext _ _›)))⟩)
  · obtain ⟨k, rfl⟩ : ∃ k : Nat, p = k := ⟨p.toNat, by omega⟩
    have hk : k ≤ s.size := by omega
    clear h0
    rcases Bool.eq_false_or_eq_true (validL (ls s)) with hv | hv
    · have Ho : Hid (ofI (ls s) k = (tens (ls (s.extract 0 k)) : Nat)) := Lib.hid (by unfold ofI; rw [if_neg (by rw [ls_len, hv]; simp; omega), fds_ext]; simp)
      go_enter Try.func16, Try.ntmps16
      go_wp2_with (first | (go_at_call 15; refine (valid_c _ _ (by omega)).mono ?_; rintro e w1 ⟨rfl, hx1⟩) | (go_at_call 41; refine (count_ten _ _).mono ?_; rintro e w2 ⟨rfl, rfl⟩))
      all_goals (go_ret; exact ⟨ret1 Ho.out.symm, (by (repeat (first | exact Ext.refl _ | exact ‹Ext _ _› | refine Ext.alloc ?_ _ | refine Ext.drew ?_ | refine Ext.drewN ?_ _ | (refine Ext.setCell ?_ (by first | omega | (simp; done) | (simp; omega)) _) | refine Ext.trans ?_ ‹Ext _ _›)))⟩)
    · have Ho : Hid (ofI (ls s) k = -1) := Lib.hid (by unfold ofI; rw [if_pos (by simp [hv])])
      go_enter Try.func16, Try.ntmps16
      go_wp2_with (first | (go_at_call 15; refine (valid_c _ _ (by omega)).mono ?_; rintro e w1 ⟨rfl, hx1⟩) | (go_at_call 41; refine (count_ten _ _).mono ?_; rintro e w2 ⟨rfl, rfl⟩))
      all_goals (go_ret; exact ⟨ret1 Ho.out.symm, (by (repeat (first | exact Ext.refl _ | exact ‹Ext _ _› | refine Ext.alloc ?_ _ | refine Ext.drew ?_ | refine Ext.drewN ?_ _ | (refine Ext.setCell ?_ (by first | omega | (simp; done) | (simp; omega)) _) | refine Ext.trans ?_ ‹Ext _ _›)))⟩)

theorem last_ten (s : ByteArray) (hs : s.size ≤ 1099511627775) (w : World) : Calls Try.prog 65 #[.string s, .string ⟨#[10]⟩] w fun e w' => e = .returned (.int .i64 (Lib.lastIndexByte s 10)) ∧ w = w' :=
  (Try.strings_LastIndex_one s ⟨#[10]⟩ rfl (by omega) w).mono fun _ _ h => ⟨h.1, h.2.symm⟩
set_option maxHeartbeats 4000000 in
set_option maxRecDepth 100000 in
theorem begin_c (s : ByteArray) (p : Nat) (hp : p ≤ s.size) (w : World) (hs : s.size ≤ 1099511627775) : Calls Try.prog 51 #[.string s, .int .i64 p] w fun e w' => e = .returned (.int .i64 (lst (ls s) p : Nat)) ∧ Ext w w' := by
  have hl := lst_last s p hp
  have hle := lst_le (ls s) p
  have h1 : Lib.lastIndexByte (s.extract 0 p) 10 ≤ 1099511627775 := by omega
  have h2 : -1 ≤ Lib.lastIndexByte (s.extract 0 p) 10 := by omega
  have Hl := Lib.hid hl
  clear hl
  go_enter Try.func51, Try.ntmps51
  go_wp2_with (first | (go_at_call 65; refine (last_ten _ (by simp; omega) _).mono ?_; rintro e w2 ⟨rfl, rfl⟩))
  all_goals (go_ret; exact ⟨ret1 Hl.out, (by (repeat (first | exact Ext.refl _ | exact ‹Ext _ _› | refine Ext.alloc ?_ _ | refine Ext.drew ?_ | refine Ext.drewN ?_ _ | (refine Ext.setCell ?_ (by first | omega | (simp; done) | (simp; omega)) _) | refine Ext.trans ?_ ‹Ext _ _›)))⟩)

theorem up_ext (s : ByteArray) (p : Nat) : ls (s.extract (lst (ls s) p) p) = upL (ls s) p := by rw [ls_ext2]; rfl
set_option maxHeartbeats 4000000 in
set_option maxRecDepth 100000 in
theorem lcolumn_c (s : ByteArray) (p : Int) (w : World) (hs : s.size ≤ 1099511627775) : Calls Try.prog 30 #[.string s, .int .i64 p] w fun e w' => e = .returned (.int .i64 (colI (ls s) p)) ∧ Ext w w' := by
  rcases place_cases s p with hp | ⟨k, rfl, hk, hp, hv⟩
  · have Hc : Hid (colI (ls s) p = -1) := Lib.hid (by unfold colI; simp [hp])
    go_enter Try.func30, Try.ntmps30
    go_wp2_with (first | (go_at_call 36; refine (place_c _ _ _ (by omega)).mono ?_; rintro e w1 ⟨rfl, hx1⟩))
    go_ret
    exact ⟨ret1 Hc.out.symm, (by (repeat (first | exact Ext.refl _ | exact ‹Ext _ _› | refine Ext.alloc ?_ _ | refine Ext.drew ?_ | refine Ext.drewN ?_ _ | (refine Ext.setCell ?_ (by first | omega | (simp; done) | (simp; omega)) _) | refine Ext.trans ?_ ‹Ext _ _›)))⟩
  · have Hc : Hid (colI (ls s) k = countI (ls (s.extract (lst (ls s) k) k))) := Lib.hid (by unfold colI; rw [if_pos hp, up_ext]; rfl)
    have hle := lst_le (ls s) k
    go_enter Try.func30, Try.ntmps30
    go_wp2_with (first | (go_at_call 36; refine (place_c _ _ _ (by omega)).mono ?_; rintro e w1 ⟨rfl, hx1⟩) | (go_at_call 51; refine (begin_c _ _ hk _ hs).mono ?_; rintro e w1 ⟨rfl, hx1⟩) | (go_at_call 50; refine (count_c _ _ (by simp; omega)).mono ?_; rintro e w1 ⟨rfl, hx1⟩))
    all_goals (go_ret; exact ⟨ret1 Hc.out.symm, (by (repeat (first | exact Ext.refl _ | exact ‹Ext _ _› | refine Ext.alloc ?_ _ | refine Ext.drew ?_ | refine Ext.drewN ?_ _ | (refine Ext.setCell ?_ (by first | omega | (simp; done) | (simp; omega)) _) | refine Ext.trans ?_ ‹Ext _ _›)))⟩)
theorem row_ext (s : ByteArray) (x : Nat × Nat) : ls (s.extract x.1 x.2) = rowL (ls s) x := by rw [ls_ext2]; rfl
set_option maxHeartbeats 4000000 in
set_option maxRecDepth 100000 in
theorem lat_c (s : ByteArray) (k col : Int) (w : World) (hs : s.size ≤ 1099511627775) (hc1 : col ≤ 9223372036854775807) : Calls Try.prog 32 #[.string s, .int .i64 k, .int .i64 col] w fun e w' => e = .returned (.int .i64 (atI (ls s) k col)) ∧ Ext w w' := by
  cases h : lineI (ls s) k with
  | none =>
    obtain ⟨h1, h2, h3⟩ := line_none h
    have Ha : Hid (atI (ls s) k col = -1) := Lib.hid (by unfold atI; rw [h])
    rw [Option.isSome_eq_false_iff, Option.isNone_iff_eq_none] at h3
    clear h3
    go_enter Try.func32, Try.ntmps32
    go_wp2_with (first | (go_at_call 49; refine (lfind_c _ _ _ (by omega)).mono ?_; rintro e w1 ⟨rfl, hx1⟩; simp only [h, h1, h2, Option.isSome_none]))
    all_goals (go_ret; exact ⟨ret1 Ha.out.symm, (by (repeat (first | exact Ext.refl _ | exact ‹Ext _ _› | refine Ext.alloc ?_ _ | refine Ext.drew ?_ | refine Ext.drewN ?_ _ | (refine Ext.setCell ?_ (by first | omega | (simp; done) | (simp; omega)) _) | refine Ext.trans ?_ ‹Ext _ _›)))⟩)
  | some x =>
    obtain ⟨h1, h2, h3⟩ := line_some h
    have h4 := lineI_le h
    rw [ls_len] at h4
    obtain ⟨q1, q2, -, -, -⟩ := h4
    have h5 := offI_lo (ls (s.extract x.1 x.2)) (max col 0)
    have h6 : (ls (s.extract x.1 x.2)).length ≤ s.size := by rw [ls_len]; simp; omega
    have Ha : Hid (atI (ls s) k col = if offI (ls (s.extract x.1 x.2)) (max col 0) < 0 then (x.2 : Int) else x.1 + offI (ls (s.extract x.1 x.2)) (max col 0)) := Lib.hid (by unfold atI; rw [h, row_ext])
    go_enter Try.func32, Try.ntmps32
    go_wp2_with (first | (go_at_call 49; refine (lfind_c _ _ _ (by omega)).mono ?_; rintro e w1 ⟨rfl, hx1⟩; simp only [h, h1, h2, Option.isSome_some]) | (go_at_call 53; refine (offset_c _ _ _ (by simp; omega) (by omega)).mono ?_; rintro e w1 ⟨rfl, hx1⟩))
    all_goals (go_ret; refine ⟨ret1 ?_, (by (repeat (first | exact Ext.refl _ | exact ‹Ext _ _› | refine Ext.alloc ?_ _ | refine Ext.drew ?_ | refine Ext.drewN ?_ _ | (refine Ext.setCell ?_ (by first | omega | (simp; done) | (simp; omega)) _) | refine Ext.trans ?_ ‹Ext _ _›)))⟩; rw [Ha.out])
    · rw [if_pos (by assumption)]
    · rw [if_neg (by omega)]

theorem ends_str (s : ByteArray) (k : Nat) (h : k < s.size) : ((s.extract k (k + 1)).toList == [10]) = endsB (ls s) k := by
  rw [Lib.toList_data, Lib.extract_data]
  have h' : k < s.data.toList.length := by rw [← Lib.size_eq]; exact h
  have hk : k ≠ (ls s).length := by rw [ls_len]; omega
  have e : (List.take (k + 1 - k) (List.drop k s.data.toList)) = [s.data.toList[k]] := by
    rw [Nat.add_sub_cancel_left, List.drop_eq_getElem_cons h']; rfl
  rw [e]
  unfold endsB
  simp only [byL_ten (l := ls s) (by rw [ls_len]; exact h)]
  have hk2 : k ≠ s.size := by omega
  rw [Bool.eq_iff_iff]
  simp [hk2]
set_option maxHeartbeats 4000000 in
set_option maxRecDepth 100000 in
theorem ends_c (s : ByteArray) (p : Nat) (hp : p ≤ s.size) (w : World) (hs : s.size ≤ 1099511627775) : Calls Try.prog 62 #[.string s, .int .i64 p] w fun e w' => e = .returned (.bool (endsB (ls s) p)) ∧ Ext w w' := by
  by_cases h : p = s.size
  · subst h
    have He : Hid (true = endsB (ls s) s.size) := Lib.hid (by unfold endsB; rw [ls_len]; simp)
    go_enter Try.func62, Try.ntmps62
    go_wp2
    all_goals (go_ret; exact ⟨retb He.out, (by (repeat (first | exact Ext.refl _ | exact ‹Ext _ _› | refine Ext.alloc ?_ _ | refine Ext.drew ?_ | refine Ext.drewN ?_ _ | (refine Ext.setCell ?_ (by first | omega | (simp; done) | (simp; omega)) _) | refine Ext.trans ?_ ‹Ext _ _›)))⟩)
  · have h1 : p < s.size := by omega
    have h2 : ((p : Int) == (s.size : Int)) = false := by simp; omega
    have He := Lib.hid (ends_str s p h1)
    clear h
    go_enter Try.func62, Try.ntmps62
    go_wp2
    all_goals (go_ret; exact ⟨retb He.out, (by (repeat (first | exact Ext.refl _ | exact ‹Ext _ _› | refine Ext.alloc ?_ _ | refine Ext.drew ?_ | refine Ext.drewN ?_ _ | (refine Ext.setCell ?_ (by first | omega | (simp; done) | (simp; omega)) _) | refine Ext.trans ?_ ‹Ext _ _›)))⟩)

end Go.Proofs.Ytgapekdcoedmgaa
