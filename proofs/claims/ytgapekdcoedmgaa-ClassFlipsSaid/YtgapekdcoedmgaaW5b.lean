/- The contract of ClassFlips. -/
import Derived.Test.YtgapekdcoedmgaaCf
import Derived.Test.YtgapekdcoedmgaaW5
namespace Go.Proofs.Ytgapekdcoedmgaa
open Go.RowKit
set_option linter.unusedVariables false
set_option linter.unusedSimpArgs false
theorem ls_inj {a b : ByteArray} (h : ls a = ls b) : a = b := by
  have : a.data = b.data := Array.toList_inj.1 h
  cases a; cases b; simp_all
theorem u8_all (f g : UInt8 → UInt8) (h : ∀ n : Fin 256, f (UInt8.ofNat n.val) = g (UInt8.ofNat n.val)) (x : UInt8) : f x = g x := by
  have := h ⟨x.toNat, x.toNat_lt⟩
  simpa using this
theorem fl_fl (s : ByteArray) : flS (flS s) = s := by
  apply ls_inj; rw [ls_flS, ls_flS, List.map_map]
  conv => rhs; rw [← List.map_id (ls s)]
  apply List.map_congr_left; intro x _
  exact u8_all (fun x => b8 (flB (b8 (flB x.toNat)).toNat)) id (by decide +kernel) x
theorem up_up (s : ByteArray) : upS (upS s) = upS s := by
  apply ls_inj; simp only [ls_upS, ls_loS, ls_flS, List.map_map]
  apply List.map_congr_left; intro x _
  exact u8_all (fun x => b8 (upB (b8 (upB x.toNat)).toNat)) (fun x => b8 (upB x.toNat)) (by decide +kernel) x
theorem lo_up (s : ByteArray) : loS (upS s) = loS s := by
  apply ls_inj; simp only [ls_upS, ls_loS, ls_flS, List.map_map]
  apply List.map_congr_left; intro x _
  exact u8_all (fun x => b8 (loB (b8 (upB x.toNat)).toNat)) (fun x => b8 (loB x.toNat)) (by decide +kernel) x
theorem up_lo (s : ByteArray) : upS (loS s) = upS s := by
  apply ls_inj; simp only [ls_upS, ls_loS, ls_flS, List.map_map]
  apply List.map_congr_left; intro x _
  exact u8_all (fun x => b8 (upB (b8 (loB x.toNat)).toNat)) (fun x => b8 (upB x.toNat)) (by decide +kernel) x
theorem up_fl (s : ByteArray) : upS (flS s) = upS s := by
  apply ls_inj; simp only [ls_upS, ls_loS, ls_flS, List.map_map]
  apply List.map_congr_left; intro x _
  exact u8_all (fun x => b8 (upB (b8 (flB x.toNat)).toNat)) (fun x => b8 (upB x.toNat)) (by decide +kernel) x
theorem byL_map (g : UInt8 → UInt8) (hg : g 0 = 0) (l : List UInt8) (k : Nat) : byL (l.map g) k = ((g (l.getD k 0)).toNat : Int) := by
  unfold byL; rw [List.getD_eq_getElem?_getD, List.getD_eq_getElem?_getD, List.getElem?_map]
  cases l[k]? <;> simp [hg]
theorem okb_map {b0 : Int} {j : Nat} {c d : Int} (h : fSize b0 ≠ 0) (h1 : 128 ≤ b0) (hc : (128 ≤ c ∧ d = c) ∨ (c < 128 ∧ d < 128)) : okb b0 j d = okb b0 j c := by
  have hl : 128 ≤ fLow b0 := by
    unfold fSize at h; unfold fLow
    repeat' (first | omega | split at h | split)
  rcases hc with ⟨_, rfl⟩ | ⟨h2, h3⟩
  · rfl
  · unfold okb
    have a1 : decide (fLow b0 ≤ d) = false := by simp; omega
    have a2 : decide (fLow b0 ≤ c) = false := by simp; omega
    have a3 : decide (128 ≤ d) = false := by simp; omega
    have a4 : decide (128 ≤ c) = false := by simp; omega
    rw [a1, a2, a3, a4]; split <;> rfl
theorem begOk_map (g : UInt8 → UInt8) (hg : g 0 = 0) (hh : ∀ x : UInt8, (128 ≤ x.toNat ∧ g x = x) ∨ (x.toNat < 128 ∧ (g x).toNat < 128)) (l : List UInt8) : ∀ n : Nat, (n : Int) ≤ fSize (byL l 0) → begOk (l.map g) n = begOk l n := by
  intro n
  induction n with
  | zero => intro _; simp [begOk]
  | succ n ih =>
    intro h
    have h' : (n : Int) + 1 ≤ fSize (byL l 0) := by omega
    clear h
    rw [begOk_succ (l.map g) n, begOk_succ l n, ih (by omega)]
    rcases Nat.eq_zero_or_pos n with hn | hn
    · subst hn; simp
    have h0 : 128 ≤ byL l 0 := by unfold fSize at h'; split at h' <;> omega
    have e0 : byL (l.map g) 0 = byL l 0 := by
      rw [byL_map g hg]
      rcases hh (l.getD 0 0) with ⟨_, h2⟩ | ⟨h2, _⟩
      · rw [h2]; rfl
      · unfold byL at h0; omega
    rw [e0, okb_map (b0 := byL l 0) (j := n) (c := byL l n) (d := byL (l.map g) n) (by omega) h0 (by
      rw [byL_map g hg]
      rcases hh (l.getD n 0) with ⟨a, b⟩ | ⟨a, b⟩
      · left; rw [b]; exact ⟨by unfold byL; omega, rfl⟩
      · right; unfold byL; constructor <;> omega)]
theorem sz_map (g : UInt8 → UInt8) (hg : g 0 = 0) (hh : ∀ x : UInt8, (128 ≤ x.toNat ∧ g x = x) ∨ (x.toNat < 128 ∧ (g x).toNat < 128)) (l : List UInt8) : szL (l.map g) = szL l := by
  have e0 : fSize (byL (l.map g) 0) = fSize (byL l 0) := by
    rw [byL_map g hg]
    rcases hh (l.getD 0 0) with ⟨_, h2⟩ | ⟨h2, h3⟩
    · rw [h2]; rfl
    · unfold fSize byL; rw [if_pos (by omega), if_pos (by omega)]
  have hb : begOk (l.map g) (min l.length (fSize (byL l 0)).toNat) = begOk l (min l.length (fSize (byL l 0)).toNat) := begOk_map g hg hh l _ (by have := fSize_lo (byL l 0); omega)
  unfold szL begA begB
  rw [List.length_map, e0, hb]
theorem valid_map (g : UInt8 → UInt8) (hg : g 0 = 0) (hh : ∀ x : UInt8, (128 ≤ x.toNat ∧ g x = x) ∨ (x.toNat < 128 ∧ (g x).toNat < 128)) : ∀ (m : Nat) (l : List UInt8), l.length ≤ m → validL (l.map g) = validL l
  | 0, l, h => by
    have : l = [] := List.length_eq_zero_iff.1 (by omega)
    subst this; rfl
  | m + 1, l, h => by
    by_cases h0 : l.length = 0
    · have : l = [] := List.length_eq_zero_iff.1 h0
      subst this; rfl
    · have hs := sz_map g hg hh l
      by_cases hz : szL l = 0
      · rw [validL_bad (by rw [List.length_map]; exact h0) (by rw [hs]; exact hz), validL_bad h0 hz]
      · rw [validL_step (by rw [List.length_map]; exact h0) (by rw [hs]; exact hz), validL_step h0 hz, hs, ← List.map_drop]
        exact valid_map g hg hh m _ (by rw [List.length_drop]; omega)
theorem valid_up (s : ByteArray) : validL (ls (upS s)) = validL (ls s) := by
  rw [ls_upS]
  refine valid_map _ (by decide +kernel) ?_ _ _ (Nat.le_refl _)
  intro x
  have h : ∀ n : Fin 256, (128 ≤ (UInt8.ofNat n.val).toNat ∧ b8 (upB (UInt8.ofNat n.val).toNat) = UInt8.ofNat n.val) ∨ ((UInt8.ofNat n.val).toNat < 128 ∧ (b8 (upB (UInt8.ofNat n.val).toNat)).toNat < 128) := by decide +kernel
  have := h ⟨x.toNat, x.toNat_lt⟩
  simpa using this
set_option maxHeartbeats 4000000 in
set_option maxRecDepth 100000 in
theorem ClassFlips_c (s : ByteArray) (hs : s.size ≤ 140737488351232) (w : World) : Calls Try.prog 5 #[.string s] w fun e w' => e = .returned (.bool true) ∧ Ext w w' := by
  have e1 := fl_fl s
  have e2 := up_up s
  have e3 := lo_up s
  have e4 := up_lo s
  have e5 := up_fl s
  have e6 := valid_up s
  have z1 := size_upS s
  have z2 := size_loS s
  have z3 := size_flS s
  go_enter Try.func5, Try.ntmps5
  go_wp2_with (first | (go_at_call 9; refine (lives5_c _).mono ?_; rintro e w1 ⟨rfl, hx1⟩) | (go_at_call 19; refine (cup_c _ _ (by omega)).mono ?_; rintro e w1 ⟨rfl, hx1⟩) | (go_at_call 20; refine (clo_c _ _ (by omega)).mono ?_; rintro e w1 ⟨rfl, hx1⟩) | (go_at_call 21; refine (cfl_c _ _ (by omega)).mono ?_; rintro e w1 ⟨rfl, hx1⟩) | (go_at_call 15; refine (valid_c _ _ (by omega)).mono ?_; rintro e w1 ⟨rfl, hx1⟩))
  all_goals (go_ret; exact ⟨rfl, (by (repeat (first | exact Ext.refl _ | exact ‹Ext _ _› | refine Ext.alloc ?_ _ | refine Ext.drew ?_ | refine Ext.drewN ?_ _ | (refine Ext.setCell ?_ (by first | omega | (simp; done) | (simp; omega)) _) | refine Ext.trans ?_ ‹Ext _ _›)))⟩)

end Go.Proofs.Ytgapekdcoedmgaa
