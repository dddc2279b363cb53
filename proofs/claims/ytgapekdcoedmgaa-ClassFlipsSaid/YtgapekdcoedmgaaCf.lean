/- The contracts of class.each, Up, Low, Flip. -/
import Derived.Test.YtgapekdcoedmgaaCl
import Derived.Laws.IdiomStrings
namespace Go.Proofs.Ytgapekdcoedmgaa
open Go.RowKit
set_option linter.unusedVariables false
set_option linter.unusedSimpArgs false
def upB (b : Int) : Int := if lettB b = true ∧ 97 ≤ b then b - 32 else b
def loB (b : Int) : Int := if lettB b = true ∧ b ≤ 90 then b + 32 else b
def flB (b : Int) : Int := if lettB b = true then (if 97 ≤ b then b - 32 else b + 32) else b
theorem up_bits : ∀ n : Fin 256, lettB (n.val : Int) = true → bits .andNot .u8 (n.val : Int) 32 = upB n.val := by decide +kernel
theorem lo_bits : ∀ n : Fin 256, lettB (n.val : Int) = true → bits .or .u8 (n.val : Int) 32 = loB n.val := by decide +kernel
theorem fl_bits : ∀ n : Fin 256, lettB (n.val : Int) = true → bits .xor .u8 (n.val : Int) 32 = flB n.val := by decide +kernel
theorem b8_toNat {n : Int} (h0 : 0 ≤ n) (h1 : n ≤ 255) : (((b8 n).toNat : Nat) : Int) = n := by
  unfold b8; rw [UInt8.toNat_ofNat_of_lt' (by show n.toNat < 256; omega)]; omega
theorem up_range (b : Int) (h0 : 0 ≤ b) (h1 : b ≤ 255) : 0 ≤ upB b ∧ upB b ≤ 255 := by unfold upB; split <;> omega
theorem lo_range (b : Int) (h0 : 0 ≤ b) (h1 : b ≤ 255) : 0 ≤ loB b ∧ loB b ≤ 255 := by unfold loB; split <;> omega
theorem fl_range (b : Int) (h0 : 0 ≤ b) (h1 : b ≤ 255) : 0 ≤ flB b ∧ flB b ≤ 255 := by
  unfold flB; split
  · rename_i h; unfold lettB at h; simp at h; split <;> omega
  · omega
theorem set_other {W : World} {b j k : Nat} {v : Value} (h : k ≠ j) : (W.setCell ⟨b, k, none⟩ v).cell? ⟨b, j, none⟩ = W.cell? ⟨b, j, none⟩ := by
  apply World.cell?_setCell_other
  intro e; injection e with e1 e2 e3; exact h e2
set_option maxHeartbeats 4000000 in
set_option maxRecDepth 100000 in
theorem up1_c (b : Int) (h0 : 0 ≤ b) (h1 : b ≤ 255) (hl : lettB b = true) (w : World) : Calls Try.prog 44 #[.int .u8 b] w fun e w' => e = .returned (.int .u8 (upB b)) ∧ Ext w w' := by
  obtain ⟨n, rfl⟩ : ∃ n : Nat, b = n := ⟨b.toNat, by omega⟩
  have hn : n < 256 := by omega
  have Hk := Lib.hid (up_bits ⟨n, hn⟩ hl)
  clear hl
  go_enter Try.func44, Try.ntmps44
  go_wp2
  go_ret
  exact ⟨by rw [← Hk.out]; rfl, (by (repeat (first | exact Ext.refl _ | exact ‹Ext _ _› | refine Ext.alloc ?_ _ | refine Ext.drew ?_ | refine Ext.drewN ?_ _ | (refine Ext.setCell ?_ (by first | omega | (simp; done) | (simp; omega)) _) | refine Ext.trans ?_ ‹Ext _ _›)))⟩
/-- The bytes, the first k of them told anew. -/
def upN (l : List UInt8) (k : Nat) (j : Nat) : Int := if j < k then upB (byL l j) else byL l j
set_option maxHeartbeats 4000000 in
set_option maxRecDepth 100000 in
theorem eachup_c (s : ByteArray) (w : World) (hs : s.size ≤ 140737488351232) : Calls Try.prog 43 #[.string s, .func (.func 44) #[] #[]] w fun e w' => e = .returned (.string ⟨((ls s).map fun b => b8 (upB b.toNat)).toArray⟩) ∧ Ext w w' := by
  have hcv := fun w => run_bytes_of_string (P := Try.prog) w 9 52 5 s Try.underlying9 Try.underlying52 Try.underlying5
  go_enter Try.func43, Try.ntmps43
  go_wp2_with (first | (go_at_call 56; refine (letter_c _ _).mono ?_; rintro e w1 ⟨rfl, hx1⟩))
  go_loopw [11] (fun iv wr => ∃ k : Nat, k ≤ s.size ∧ iv = .int .i64 k ∧ Hid (∀ j, j < s.size → wr.cell? ⟨w.heap.size, j, none⟩ = some (.int .u8 (upN (ls s) k j))) ∧ Hid (∀ j, j < s.size → wr.frozen? ⟨w.heap.size, j, none⟩ = false) ∧ w.heap.size < wr.heap.size ∧ Ext w wr) (fun iv _ => s.size - (intOf iv).toNat)
  case atStart =>
    refine ⟨0, by omega, rfl, Lib.hid (fun j hj => ?_), Lib.hid (fun j hj => ?_), by simp, (by (repeat (first | exact Ext.refl _ | exact ‹Ext _ _› | refine Ext.alloc ?_ _ | refine Ext.drew ?_ | refine Ext.drewN ?_ _ | (refine Ext.setCell ?_ (by first | omega | (simp; done) | (simp; omega)) _) | refine Ext.trans ?_ ‹Ext _ _›)))⟩
    · rw [upN, if_neg (by omega), ← byL_eq s j hj]
      simp [World.cell?, World.alloc, World.drew, -World.alloc_eq, -World.drew_eq, bytesRow, hj]
      rw [Array.getElem?_append_left (by simpa using hj)]
      simp [hj]
      rfl
    · simp [World.frozen?, World.alloc, World.drew, -World.alloc_eq, -World.drew_eq, bytesRow, hj]
      all_goals omega
  case round =>
    obtain ⟨k, hk, rfl, Hc, Hf, hz, hx⟩ := hrel
    by_cases hlt : k < s.size
    · have hc : wr.cell? ⟨w.heap.size, k, none⟩ = some (.int .u8 (byL (ls s) k)) := by rw [Hc.out k hlt, upN, if_neg (by omega)]
      have hf := Hf.out k hlt
      have hb0 := byL_lo (ls s) k
      have hb1 := byL_hi (ls s) k
      go_wp2_with (first | (go_at_call 56; refine (letter_c _ _).mono ?_; rintro e w1 ⟨rfl, hx1⟩; have hf2 := Ext.unfr hx1 hc hf; replace hc := Ext.keep hx1 hc; have hz2 := hx1.size) | (go_at_call 44; refine (up1_c _ hb0 hb1 (by assumption) _).mono ?_; rintro e w1 ⟨rfl, hx1⟩; have hf2 := Ext.unfr hx1 hc (by assumption); replace hc := Ext.keep hx1 hc; have hz2 := hx1.size))
      · go_roundw
        case rel =>
          refine ⟨k + 1, by omega, by go_num, Lib.hid (fun j hj => ?_), Lib.hid (fun j hj => ?_), by simp; omega, (by (repeat (first | exact Ext.refl _ | exact ‹Ext _ _› | refine Ext.alloc ?_ _ | refine Ext.drew ?_ | refine Ext.drewN ?_ _ | (refine Ext.setCell ?_ (by first | omega | (simp; done) | (simp; omega)) _) | refine Ext.trans ?_ ‹Ext _ _›)))⟩
          · by_cases e : j = k
            · subst e
              rw [cell_set_eq hc, upN, if_pos (by omega)]
            · rw [set_other (fun x => e x.symm), Below.cell hx1 (by simp; omega)]
              rename Ext wr _ => hx0
              rw [Below.cell hx0 (by simp; omega), Hc.out j hj, upN, upN]
              by_cases e2 : j < k
              · rw [if_pos e2, if_pos (by omega)]
              · rw [if_neg e2, if_neg (by omega)]
          · rw [World.frozen?_setCell, Below.frozen hx1 (by simp; omega)]
            rename Ext wr _ => hx0
            rw [Below.frozen hx0 (by simp; omega)]; exact Hf.out j hj
        case measure => (simp [intOf] <;> omega)
      · go_roundw
        case rel =>
          refine ⟨k + 1, by omega, by go_num, Lib.hid (fun j hj => ?_), Lib.hid (fun j hj => ?_), by omega, (by (repeat (first | exact Ext.refl _ | exact ‹Ext _ _› | refine Ext.alloc ?_ _ | refine Ext.drew ?_ | refine Ext.drewN ?_ _ | (refine Ext.setCell ?_ (by first | omega | (simp; done) | (simp; omega)) _) | refine Ext.trans ?_ ‹Ext _ _›)))⟩
          · rw [Below.cell hx1 (by simp; omega), Hc.out j hj, upN, upN]
            by_cases e : j = k
            · subst e
              rw [if_neg (by omega), if_pos (by omega)]
              congr 2
              rename _ = false => hlf
              unfold upB; simp [hlf]
            · by_cases e2 : j < k
              · rw [if_pos e2, if_pos (by omega)]
              · rw [if_neg e2, if_neg (by omega)]
          · rw [Below.frozen hx1 (by simp; omega)]; exact Hf.out j hj
        case measure => (simp [intOf] <;> omega)
    · have ek : k = s.size := by omega
      subst ek
      have hlen : ((ls s).map fun b => b8 (upB b.toNat)).length = s.size := by rw [List.length_map, ls_len]
      have hback := run_convert_bytes_back (P := Try.prog) wr 52 9 5 ⟨w.heap.size, 0, none⟩ (grownCap w s.size 0 5) ((ls s).map fun b => b8 (upB b.toNat)) Try.underlying52 Try.underlying5 Try.underlying9 (by
        intro j hj
        have hj' : j < s.size := by rw [← hlen]; exact hj
        have hjl : j < (ls s).length := by rw [ls_len]; exact hj'
        have ea : (⟨w.heap.size, 0, none⟩ : Addr).add j = ⟨w.heap.size, j, none⟩ := by unfold Addr.add; split <;> simp_all
        rw [ea, Hc.out j hj', upN, if_pos hj', List.getElem_map]
        have hx0 : byL (ls s) j = (((ls s)[j].toNat : Nat) : Int) := by unfold byL; rw [List.getD_eq_getElem?_getD, List.getElem?_eq_getElem hjl]; rfl
        have hr := up_range (byL (ls s) j) (byL_lo _ _) (byL_hi _ _)
        rw [← hx0, b8_toNat hr.1 hr.2])
      rw [hlen] at hback
      clear hlen
      go_wp2
      go_ret
      exact ⟨rfl, (by (repeat (first | exact Ext.refl _ | exact ‹Ext _ _› | refine Ext.alloc ?_ _ | refine Ext.drew ?_ | refine Ext.drewN ?_ _ | (refine Ext.setCell ?_ (by first | omega | (simp; done) | (simp; omega)) _) | refine Ext.trans ?_ ‹Ext _ _›)))⟩
/-- The text, told anew. -/
def upS (s : ByteArray) : ByteArray := ⟨((ls s).map fun b => b8 (upB b.toNat)).toArray⟩
theorem ls_upS (s : ByteArray) : ls (upS s) = (ls s).map fun b => b8 (upB b.toNat) := by unfold upS ls; simp
theorem size_upS (s : ByteArray) : (upS s).size = s.size := by rw [← ls_len, ls_upS, List.length_map, ls_len]
set_option maxHeartbeats 4000000 in
set_option maxRecDepth 100000 in
theorem cup_c (s : ByteArray) (w : World) (hs : s.size ≤ 140737488351232) : Calls Try.prog 19 #[.string s] w fun e w' => e = .returned (.string (upS s)) ∧ Ext w w' := by
  go_enter Try.func19, Try.ntmps19
  go_wp2_with (first | (go_at_call 43; refine (eachup_c _ _ hs).mono ?_; rintro e w1 ⟨rfl, hx1⟩))
  go_ret
  exact ⟨rfl, (by (repeat (first | exact Ext.refl _ | exact ‹Ext _ _› | refine Ext.alloc ?_ _ | refine Ext.drew ?_ | refine Ext.drewN ?_ _ | (refine Ext.setCell ?_ (by first | omega | (simp; done) | (simp; omega)) _) | refine Ext.trans ?_ ‹Ext _ _›)))⟩
set_option maxHeartbeats 4000000 in
set_option maxRecDepth 100000 in
theorem lo1_c (b : Int) (h0 : 0 ≤ b) (h1 : b ≤ 255) (hl : lettB b = true) (w : World) : Calls Try.prog 45 #[.int .u8 b] w fun e w' => e = .returned (.int .u8 (loB b)) ∧ Ext w w' := by
  obtain ⟨n, rfl⟩ : ∃ n : Nat, b = n := ⟨b.toNat, by omega⟩
  have hn : n < 256 := by omega
  have Hk := Lib.hid (lo_bits ⟨n, hn⟩ hl)
  clear hl
  go_enter Try.func45, Try.ntmps45
  go_wp2
  go_ret
  exact ⟨by rw [← Hk.out]; rfl, (by (repeat (first | exact Ext.refl _ | exact ‹Ext _ _› | refine Ext.alloc ?_ _ | refine Ext.drew ?_ | refine Ext.drewN ?_ _ | (refine Ext.setCell ?_ (by first | omega | (simp; done) | (simp; omega)) _) | refine Ext.trans ?_ ‹Ext _ _›)))⟩
/-- The bytes, the first k of them told anew. -/
def loN (l : List UInt8) (k : Nat) (j : Nat) : Int := if j < k then loB (byL l j) else byL l j
set_option maxHeartbeats 4000000 in
set_option maxRecDepth 100000 in
theorem eachlo_c (s : ByteArray) (w : World) (hs : s.size ≤ 140737488351232) : Calls Try.prog 43 #[.string s, .func (.func 45) #[] #[]] w fun e w' => e = .returned (.string ⟨((ls s).map fun b => b8 (loB b.toNat)).toArray⟩) ∧ Ext w w' := by
  have hcv := fun w => run_bytes_of_string (P := Try.prog) w 9 52 5 s Try.underlying9 Try.underlying52 Try.underlying5
  go_enter Try.func43, Try.ntmps43
  go_wp2_with (first | (go_at_call 56; refine (letter_c _ _).mono ?_; rintro e w1 ⟨rfl, hx1⟩))
  go_loopw [11] (fun iv wr => ∃ k : Nat, k ≤ s.size ∧ iv = .int .i64 k ∧ Hid (∀ j, j < s.size → wr.cell? ⟨w.heap.size, j, none⟩ = some (.int .u8 (loN (ls s) k j))) ∧ Hid (∀ j, j < s.size → wr.frozen? ⟨w.heap.size, j, none⟩ = false) ∧ w.heap.size < wr.heap.size ∧ Ext w wr) (fun iv _ => s.size - (intOf iv).toNat)
  case atStart =>
    refine ⟨0, by omega, rfl, Lib.hid (fun j hj => ?_), Lib.hid (fun j hj => ?_), by simp, (by (repeat (first | exact Ext.refl _ | exact ‹Ext _ _› | refine Ext.alloc ?_ _ | refine Ext.drew ?_ | refine Ext.drewN ?_ _ | (refine Ext.setCell ?_ (by first | omega | (simp; done) | (simp; omega)) _) | refine Ext.trans ?_ ‹Ext _ _›)))⟩
    · rw [loN, if_neg (by omega), ← byL_eq s j hj]
      simp [World.cell?, World.alloc, World.drew, -World.alloc_eq, -World.drew_eq, bytesRow, hj]
      rw [Array.getElem?_append_left (by simpa using hj)]
      simp [hj]
      rfl
    · simp [World.frozen?, World.alloc, World.drew, -World.alloc_eq, -World.drew_eq, bytesRow, hj]
      all_goals omega
  case round =>
    obtain ⟨k, hk, rfl, Hc, Hf, hz, hx⟩ := hrel
    by_cases hlt : k < s.size
    · have hc : wr.cell? ⟨w.heap.size, k, none⟩ = some (.int .u8 (byL (ls s) k)) := by rw [Hc.out k hlt, loN, if_neg (by omega)]
      have hf := Hf.out k hlt
      have hb0 := byL_lo (ls s) k
      have hb1 := byL_hi (ls s) k
      go_wp2_with (first | (go_at_call 56; refine (letter_c _ _).mono ?_; rintro e w1 ⟨rfl, hx1⟩; have hf2 := Ext.unfr hx1 hc hf; replace hc := Ext.keep hx1 hc; have hz2 := hx1.size) | (go_at_call 45; refine (lo1_c _ hb0 hb1 (by assumption) _).mono ?_; rintro e w1 ⟨rfl, hx1⟩; have hf2 := Ext.unfr hx1 hc (by assumption); replace hc := Ext.keep hx1 hc; have hz2 := hx1.size))
      · go_roundw
        case rel =>
          refine ⟨k + 1, by omega, by go_num, Lib.hid (fun j hj => ?_), Lib.hid (fun j hj => ?_), by simp; omega, (by (repeat (first | exact Ext.refl _ | exact ‹Ext _ _› | refine Ext.alloc ?_ _ | refine Ext.drew ?_ | refine Ext.drewN ?_ _ | (refine Ext.setCell ?_ (by first | omega | (simp; done) | (simp; omega)) _) | refine Ext.trans ?_ ‹Ext _ _›)))⟩
          · by_cases e : j = k
            · subst e
              rw [cell_set_eq hc, loN, if_pos (by omega)]
            · rw [set_other (fun x => e x.symm), Below.cell hx1 (by simp; omega)]
              rename Ext wr _ => hx0
              rw [Below.cell hx0 (by simp; omega), Hc.out j hj, loN, loN]
              by_cases e2 : j < k
              · rw [if_pos e2, if_pos (by omega)]
              · rw [if_neg e2, if_neg (by omega)]
          · rw [World.frozen?_setCell, Below.frozen hx1 (by simp; omega)]
            rename Ext wr _ => hx0
            rw [Below.frozen hx0 (by simp; omega)]; exact Hf.out j hj
        case measure => (simp [intOf] <;> omega)
      · go_roundw
        case rel =>
          refine ⟨k + 1, by omega, by go_num, Lib.hid (fun j hj => ?_), Lib.hid (fun j hj => ?_), by omega, (by (repeat (first | exact Ext.refl _ | exact ‹Ext _ _› | refine Ext.alloc ?_ _ | refine Ext.drew ?_ | refine Ext.drewN ?_ _ | (refine Ext.setCell ?_ (by first | omega | (simp; done) | (simp; omega)) _) | refine Ext.trans ?_ ‹Ext _ _›)))⟩
          · rw [Below.cell hx1 (by simp; omega), Hc.out j hj, loN, loN]
            by_cases e : j = k
            · subst e
              rw [if_neg (by omega), if_pos (by omega)]
              congr 2
              rename _ = false => hlf
              unfold loB; simp [hlf]
            · by_cases e2 : j < k
              · rw [if_pos e2, if_pos (by omega)]
              · rw [if_neg e2, if_neg (by omega)]
          · rw [Below.frozen hx1 (by simp; omega)]; exact Hf.out j hj
        case measure => (simp [intOf] <;> omega)
    · have ek : k = s.size := by omega
      subst ek
      have hlen : ((ls s).map fun b => b8 (loB b.toNat)).length = s.size := by rw [List.length_map, ls_len]
      have hback := run_convert_bytes_back (P := Try.prog) wr 52 9 5 ⟨w.heap.size, 0, none⟩ (grownCap w s.size 0 5) ((ls s).map fun b => b8 (loB b.toNat)) Try.underlying52 Try.underlying5 Try.underlying9 (by
        intro j hj
        have hj' : j < s.size := by rw [← hlen]; exact hj
        have hjl : j < (ls s).length := by rw [ls_len]; exact hj'
        have ea : (⟨w.heap.size, 0, none⟩ : Addr).add j = ⟨w.heap.size, j, none⟩ := by unfold Addr.add; split <;> simp_all
        rw [ea, Hc.out j hj', loN, if_pos hj', List.getElem_map]
        have hx0 : byL (ls s) j = (((ls s)[j].toNat : Nat) : Int) := by unfold byL; rw [List.getD_eq_getElem?_getD, List.getElem?_eq_getElem hjl]; rfl
        have hr := lo_range (byL (ls s) j) (byL_lo _ _) (byL_hi _ _)
        rw [← hx0, b8_toNat hr.1 hr.2])
      rw [hlen] at hback
      clear hlen
      go_wp2
      go_ret
      exact ⟨rfl, (by (repeat (first | exact Ext.refl _ | exact ‹Ext _ _› | refine Ext.alloc ?_ _ | refine Ext.drew ?_ | refine Ext.drewN ?_ _ | (refine Ext.setCell ?_ (by first | omega | (simp; done) | (simp; omega)) _) | refine Ext.trans ?_ ‹Ext _ _›)))⟩
/-- The text, told anew. -/
def loS (s : ByteArray) : ByteArray := ⟨((ls s).map fun b => b8 (loB b.toNat)).toArray⟩
theorem ls_loS (s : ByteArray) : ls (loS s) = (ls s).map fun b => b8 (loB b.toNat) := by unfold loS ls; simp
theorem size_loS (s : ByteArray) : (loS s).size = s.size := by rw [← ls_len, ls_loS, List.length_map, ls_len]
set_option maxHeartbeats 4000000 in
set_option maxRecDepth 100000 in
theorem clo_c (s : ByteArray) (w : World) (hs : s.size ≤ 140737488351232) : Calls Try.prog 20 #[.string s] w fun e w' => e = .returned (.string (loS s)) ∧ Ext w w' := by
  go_enter Try.func20, Try.ntmps20
  go_wp2_with (first | (go_at_call 43; refine (eachlo_c _ _ hs).mono ?_; rintro e w1 ⟨rfl, hx1⟩))
  go_ret
  exact ⟨rfl, (by (repeat (first | exact Ext.refl _ | exact ‹Ext _ _› | refine Ext.alloc ?_ _ | refine Ext.drew ?_ | refine Ext.drewN ?_ _ | (refine Ext.setCell ?_ (by first | omega | (simp; done) | (simp; omega)) _) | refine Ext.trans ?_ ‹Ext _ _›)))⟩
set_option maxHeartbeats 4000000 in
set_option maxRecDepth 100000 in
theorem fl1_c (b : Int) (h0 : 0 ≤ b) (h1 : b ≤ 255) (hl : lettB b = true) (w : World) : Calls Try.prog 46 #[.int .u8 b] w fun e w' => e = .returned (.int .u8 (flB b)) ∧ Ext w w' := by
  obtain ⟨n, rfl⟩ : ∃ n : Nat, b = n := ⟨b.toNat, by omega⟩
  have hn : n < 256 := by omega
  have Hk := Lib.hid (fl_bits ⟨n, hn⟩ hl)
  clear hl
  go_enter Try.func46, Try.ntmps46
  go_wp2
  go_ret
  exact ⟨by rw [← Hk.out]; rfl, (by (repeat (first | exact Ext.refl _ | exact ‹Ext _ _› | refine Ext.alloc ?_ _ | refine Ext.drew ?_ | refine Ext.drewN ?_ _ | (refine Ext.setCell ?_ (by first | omega | (simp; done) | (simp; omega)) _) | refine Ext.trans ?_ ‹Ext _ _›)))⟩
/-- The bytes, the first k of them told anew. -/
def flN (l : List UInt8) (k : Nat) (j : Nat) : Int := if j < k then flB (byL l j) else byL l j
set_option maxHeartbeats 4000000 in
set_option maxRecDepth 100000 in
theorem eachfl_c (s : ByteArray) (w : World) (hs : s.size ≤ 140737488351232) : Calls Try.prog 43 #[.string s, .func (.func 46) #[] #[]] w fun e w' => e = .returned (.string ⟨((ls s).map fun b => b8 (flB b.toNat)).toArray⟩) ∧ Ext w w' := by
  have hcv := fun w => run_bytes_of_string (P := Try.prog) w 9 52 5 s Try.underlying9 Try.underlying52 Try.underlying5
  go_enter Try.func43, Try.ntmps43
  go_wp2_with (first | (go_at_call 56; refine (letter_c _ _).mono ?_; rintro e w1 ⟨rfl, hx1⟩))
  go_loopw [11] (fun iv wr => ∃ k : Nat, k ≤ s.size ∧ iv = .int .i64 k ∧ Hid (∀ j, j < s.size → wr.cell? ⟨w.heap.size, j, none⟩ = some (.int .u8 (flN (ls s) k j))) ∧ Hid (∀ j, j < s.size → wr.frozen? ⟨w.heap.size, j, none⟩ = false) ∧ w.heap.size < wr.heap.size ∧ Ext w wr) (fun iv _ => s.size - (intOf iv).toNat)
  case atStart =>
    refine ⟨0, by omega, rfl, Lib.hid (fun j hj => ?_), Lib.hid (fun j hj => ?_), by simp, (by (repeat (first | exact Ext.refl _ | exact ‹Ext _ _› | refine Ext.alloc ?_ _ | refine Ext.drew ?_ | refine Ext.drewN ?_ _ | (refine Ext.setCell ?_ (by first | omega | (simp; done) | (simp; omega)) _) | refine Ext.trans ?_ ‹Ext _ _›)))⟩
    · rw [flN, if_neg (by omega), ← byL_eq s j hj]
      simp [World.cell?, World.alloc, World.drew, -World.alloc_eq, -World.drew_eq, bytesRow, hj]
      rw [Array.getElem?_append_left (by simpa using hj)]
      simp [hj]
      rfl
    · simp [World.frozen?, World.alloc, World.drew, -World.alloc_eq, -World.drew_eq, bytesRow, hj]
      all_goals omega
  case round =>
    obtain ⟨k, hk, rfl, Hc, Hf, hz, hx⟩ := hrel
    by_cases hlt : k < s.size
    · have hc : wr.cell? ⟨w.heap.size, k, none⟩ = some (.int .u8 (byL (ls s) k)) := by rw [Hc.out k hlt, flN, if_neg (by omega)]
      have hf := Hf.out k hlt
      have hb0 := byL_lo (ls s) k
      have hb1 := byL_hi (ls s) k
      go_wp2_with (first | (go_at_call 56; refine (letter_c _ _).mono ?_; rintro e w1 ⟨rfl, hx1⟩; have hf2 := Ext.unfr hx1 hc hf; replace hc := Ext.keep hx1 hc; have hz2 := hx1.size) | (go_at_call 46; refine (fl1_c _ hb0 hb1 (by assumption) _).mono ?_; rintro e w1 ⟨rfl, hx1⟩; have hf2 := Ext.unfr hx1 hc (by assumption); replace hc := Ext.keep hx1 hc; have hz2 := hx1.size))
      · go_roundw
        case rel =>
          refine ⟨k + 1, by omega, by go_num, Lib.hid (fun j hj => ?_), Lib.hid (fun j hj => ?_), by simp; omega, (by (repeat (first | exact Ext.refl _ | exact ‹Ext _ _› | refine Ext.alloc ?_ _ | refine Ext.drew ?_ | refine Ext.drewN ?_ _ | (refine Ext.setCell ?_ (by first | omega | (simp; done) | (simp; omega)) _) | refine Ext.trans ?_ ‹Ext _ _›)))⟩
          · by_cases e : j = k
            · subst e
              rw [cell_set_eq hc, flN, if_pos (by omega)]
            · rw [set_other (fun x => e x.symm), Below.cell hx1 (by simp; omega)]
              rename Ext wr _ => hx0
              rw [Below.cell hx0 (by simp; omega), Hc.out j hj, flN, flN]
              by_cases e2 : j < k
              · rw [if_pos e2, if_pos (by omega)]
              · rw [if_neg e2, if_neg (by omega)]
          · rw [World.frozen?_setCell, Below.frozen hx1 (by simp; omega)]
            rename Ext wr _ => hx0
            rw [Below.frozen hx0 (by simp; omega)]; exact Hf.out j hj
        case measure => (simp [intOf] <;> omega)
      · go_roundw
        case rel =>
          refine ⟨k + 1, by omega, by go_num, Lib.hid (fun j hj => ?_), Lib.hid (fun j hj => ?_), by omega, (by (repeat (first | exact Ext.refl _ | exact ‹Ext _ _› | refine Ext.alloc ?_ _ | refine Ext.drew ?_ | refine Ext.drewN ?_ _ | (refine Ext.setCell ?_ (by first | omega | (simp; done) | (simp; omega)) _) | refine Ext.trans ?_ ‹Ext _ _›)))⟩
          · rw [Below.cell hx1 (by simp; omega), Hc.out j hj, flN, flN]
            by_cases e : j = k
            · subst e
              rw [if_neg (by omega), if_pos (by omega)]
              congr 2
              rename _ = false => hlf
              unfold flB; simp [hlf]
            · by_cases e2 : j < k
              · rw [if_pos e2, if_pos (by omega)]
              · rw [if_neg e2, if_neg (by omega)]
          · rw [Below.frozen hx1 (by simp; omega)]; exact Hf.out j hj
        case measure => (simp [intOf] <;> omega)
    · have ek : k = s.size := by omega
      subst ek
      have hlen : ((ls s).map fun b => b8 (flB b.toNat)).length = s.size := by rw [List.length_map, ls_len]
      have hback := run_convert_bytes_back (P := Try.prog) wr 52 9 5 ⟨w.heap.size, 0, none⟩ (grownCap w s.size 0 5) ((ls s).map fun b => b8 (flB b.toNat)) Try.underlying52 Try.underlying5 Try.underlying9 (by
        intro j hj
        have hj' : j < s.size := by rw [← hlen]; exact hj
        have hjl : j < (ls s).length := by rw [ls_len]; exact hj'
        have ea : (⟨w.heap.size, 0, none⟩ : Addr).add j = ⟨w.heap.size, j, none⟩ := by unfold Addr.add; split <;> simp_all
        rw [ea, Hc.out j hj', flN, if_pos hj', List.getElem_map]
        have hx0 : byL (ls s) j = (((ls s)[j].toNat : Nat) : Int) := by unfold byL; rw [List.getD_eq_getElem?_getD, List.getElem?_eq_getElem hjl]; rfl
        have hr := fl_range (byL (ls s) j) (byL_lo _ _) (byL_hi _ _)
        rw [← hx0, b8_toNat hr.1 hr.2])
      rw [hlen] at hback
      clear hlen
      go_wp2
      go_ret
      exact ⟨rfl, (by (repeat (first | exact Ext.refl _ | exact ‹Ext _ _› | refine Ext.alloc ?_ _ | refine Ext.drew ?_ | refine Ext.drewN ?_ _ | (refine Ext.setCell ?_ (by first | omega | (simp; done) | (simp; omega)) _) | refine Ext.trans ?_ ‹Ext _ _›)))⟩
/-- The text, told anew. -/
def flS (s : ByteArray) : ByteArray := ⟨((ls s).map fun b => b8 (flB b.toNat)).toArray⟩
theorem ls_flS (s : ByteArray) : ls (flS s) = (ls s).map fun b => b8 (flB b.toNat) := by unfold flS ls; simp
theorem size_flS (s : ByteArray) : (flS s).size = s.size := by rw [← ls_len, ls_flS, List.length_map, ls_len]
set_option maxHeartbeats 4000000 in
set_option maxRecDepth 100000 in
theorem cfl_c (s : ByteArray) (w : World) (hs : s.size ≤ 140737488351232) : Calls Try.prog 21 #[.string s] w fun e w' => e = .returned (.string (flS s)) ∧ Ext w w' := by
  go_enter Try.func21, Try.ntmps21
  go_wp2_with (first | (go_at_call 43; refine (eachfl_c _ _ hs).mono ?_; rintro e w1 ⟨rfl, hx1⟩))
  go_ret
  exact ⟨rfl, (by (repeat (first | exact Ext.refl _ | exact ‹Ext _ _› | refine Ext.alloc ?_ _ | refine Ext.drew ?_ | refine Ext.drewN ?_ _ | (refine Ext.setCell ?_ (by first | omega | (simp; done) | (simp; omega)) _) | refine Ext.trans ?_ ‹Ext _ _›)))⟩

end Go.Proofs.Ytgapekdcoedmgaa
