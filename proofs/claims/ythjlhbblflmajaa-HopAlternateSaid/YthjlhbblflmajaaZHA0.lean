/- Joined by merge.py out of this work's texts: Base, RF, MU, MU2, MU3, MU4, ML, ML2, MC, MC2, MH, U0, U, U1, Shelf, L0, Sl, L1, L2, Cl, Hp, Hq, MO, U2. -/
import Derived.Test.YthjlhbblflmajaaProg
import Derived.WalkKit
import Derived.KernelRfl
import Derived.Lib.Hide
import Derived.Deep.QuietTactic
import Derived.BigQuiet
import Derived.Handy
import Derived.WalkLawsBesides
import Derived.WalkSpells
import Derived.WalkSmall
import Derived.Lib.Strings
import Derived.Lib.IndexBytes
import Derived.Laws.BytesString
import Derived.Laws.Cells
import Derived.RangeFuncFrom
import Derived.RangeFuncBox
import Derived.RangeFuncLeaves
import Derived.RangeFuncCalls
import Derived.Lib.LastIndexLaws
import Derived.Lib.LastIndexByte
import Derived.Shelf.Small.Wraps
import Derived.Shelf.Strings.Search1
import Derived.Shelf.Strings.Search2
import Derived.Shelf.Strings.Search3
import Derived.Shelf.LaysM
import Derived.Shelf.Strings.Shaped
import Derived.Shelf.Slices.Turned
import Derived.Ground.Names2Prog
import Derived.Shelf.Slices.SearchI
import Derived.Shelf.Slices.Empties
import Derived.RangeFuncBound
import Derived.RangeFuncWrites
import Derived.Shelf.Abstract
import Derived.Shelf.RegionOpen
import Derived.OwnWalkIn
import Derived.TacticsInMore
import Derived.LoopNIn
import Derived.LoopIn
import Derived.Lib.SmallJoins
import Derived.Maps.AppendAt
import Derived.Lib.IndexMore
/- Words that all walks of this seat use: what a call leaves of the memory that was there. -/
namespace Go.Proofs.Ythjlhbblflmajaa
open Go.RowKit
set_option linter.unusedVariables false
set_option linter.unusedSimpArgs false

def Ext (w w' : World) : Prop := Below w.heap.size w w'
theorem Ext.refl (w : World) : Ext w w := Below.refl _ _
theorem Ext.of_eq {w w' : World} (h : w = w') : Ext w w' := h ▸ Below.refl _ _
theorem Ext.trans {a b c : World} (h : Ext a b) (k : Ext b c) : Ext a c := Below.trans h (Below.mono k h.size)
theorem Ext.alloc {a w : World} (h : Ext a w) (o : Obj) : Ext a (w.alloc o) := Below.alloc h h.size o
theorem Ext.drew {a w : World} (h : Ext a w) : Ext a w.drew := Below.drew h
theorem Ext.drewN {a w : World} (h : Ext a w) (n : Nat) : Ext a (w.drewN n) := below_drewN h n
theorem Ext.setCell {a w : World} (h : Ext a w) {p : Addr} (hp : a.heap.size ≤ p.block) (u : Value) : Ext a (w.setCell p u) := Below.setCell h hp u

theorem Ext.rules {w w' : World} (h : Ext w w') : (∀ b o, b < w.heap.size → w'.cell? ⟨b, o, none⟩ = w.cell? ⟨b, o, none⟩) ∧ (∀ b o, b < w.heap.size → w'.frozen? ⟨b, o, none⟩ = w.frozen? ⟨b, o, none⟩) ∧ w.heap.size ≤ w'.heap.size :=
  ⟨fun b o hb => Below.cell h (p := ⟨b, o, none⟩) hb, fun b o hb => Below.frozen h (p := ⟨b, o, none⟩) hb, h.size⟩
theorem Ext.block {w w' : World} (h : Ext w w') {k : Nat} (hk : k < w.heap.size) : w'.heap[k]? = w.heap[k]? := Below.block h k hk
theorem emp_t (s : ByteArray) (h : s.size = 0) : s.toList.isEmpty = true := by
  rw [Lib.toList_data, List.isEmpty_iff, ← List.length_eq_zero_iff, ← Lib.size_eq]; exact h
theorem emp_f (s : ByteArray) (h : 0 < s.size) : s.toList.isEmpty = false := by
  rw [Lib.toList_data, List.isEmpty_eq_false_iff, ← List.length_pos_iff, ← Lib.size_eq]; exact h
theorem ret1 {a a' : Int} (h : a = a') : Ending.returned (.int .i64 a) = .returned (.int .i64 a') := by rw [h]
theorem retb {a a' : Bool} (h : a = a') : Ending.returned (.bool a) = .returned (.bool a') := by rw [h]
theorem rets {a a' : ByteArray} (h : a = a') : Ending.returned (.string a) = .returned (.string a') := by rw [h]
theorem ret2 {a b a' b' : Int} (h : a = a' ∧ b = b') : Ending.returned (.tuple #[.int .i64 a, .int .i64 b]) = .returned (.tuple #[.int .i64 a', .int .i64 b']) := by rw [h.1, h.2]
theorem ret2b {a a' : Int} {b b' : Bool} (h : a = a' ∧ b = b') : Ending.returned (.tuple #[.int .i64 a, .bool b]) = .returned (.tuple #[.int .i64 a', .bool b']) := by rw [h.1, h.2]
def sizeV : Value → Nat | .string t => t.size | _ => 0
def byL (l : List UInt8) (k : Nat) : Int := ((l.getD k 0).toNat : Int)
abbrev ls (s : ByteArray) : List UInt8 := s.data.toList
theorem byL_eq (s : ByteArray) (k : Nat) (h : k < s.size) : ((s[k].toNat : Nat) : Int) = byL (ls s) k := by
  have h' : k < s.data.toList.length := by rw [← Lib.size_eq]; exact h
  unfold byL
  rw [List.getD_eq_getElem?_getD, List.getElem?_eq_getElem h']
  rfl
theorem byL_lo (l : List UInt8) (k : Nat) : 0 ≤ byL l k := by unfold byL; omega
theorem byL_hi (l : List UInt8) (k : Nat) : byL l k ≤ 255 := by
  unfold byL; have := (l.getD k 0).toNat_lt; omega
theorem byL_drop (l : List UInt8) (i k : Nat) : byL (l.drop i) k = byL l (i + k) := by
  unfold byL; simp [List.getD_eq_getElem?_getD, List.getElem?_drop]
theorem byL_take (l : List UInt8) {n k : Nat} (h : k < n) : byL (l.take n) k = byL l k := by
  unfold byL; rw [List.getD_eq_getElem?_getD, List.getElem?_take_of_lt h, ← List.getD_eq_getElem?_getD]
theorem ls_len (s : ByteArray) : (ls s).length = s.size := (Lib.size_eq s).symm
theorem ls_ext (s : ByteArray) (i : Nat) : ls (s.extract i s.size) = (ls s).drop i := Lib.extract_to_end s i
theorem ls_ext2 (s : ByteArray) (i j : Nat) : ls (s.extract i j) = ((ls s).drop i).take (j - i) := Lib.extract_data s i j

def b8 (n : Int) : UInt8 := UInt8.ofNat n.toNat
theorem push_all : ∀ (ns : List Int) (s : ByteArray), ns.foldl (fun r n => r.push (UInt8.ofNat n.toNat)) s = ⟨(s.data.toList ++ ns.map b8).toArray⟩
  | [], s => by simp
  | n :: ns, s => by
    rw [List.foldl_cons, push_all ns]
    congr 1
    simp [ByteArray.push, b8]
theorem conv_new {P : Program} (W : World) (src dst e : TypeId) (ns : List Int) (hs : P.underlying src = some (.slice e)) (he : P.underlying e = some (.int .u8)) (hd : P.underlying dst = some .string) (cs : Array Value) (n : Nat) (hc : cs = (ns.map (Value.int .u8)).toArray) (hn : n = ns.length) :
    (convert src dst (.slice (some ⟨W.heap.size, 0, none⟩) n n)).run P (W.alloc (.cells cs e)) = .ok (.string ⟨(ns.map b8).toArray⟩) (W.alloc (.cells cs e)) := by
  subst hc hn
  rw [run_convert_bytes_string _ _ _ _ _ _ _ hs he hd]
  have h := run_loadCells_list (P := P) (w := W.alloc (.cells (ns.map (Value.int .u8)).toArray e)) ⟨W.heap.size, 0, none⟩ (ns.map (Value.int .u8)) (by
    intro j v hj
    have := cell_of_row (W.alloc (.cells (ns.map (Value.int .u8)).toArray e)) W.heap.size j (ns.map (Value.int .u8)).toArray e (0, 0) (heap_alloc_new W _)
    have e : (⟨W.heap.size, 0, none⟩ : Addr).add j = ⟨W.heap.size, j, none⟩ := by unfold Addr.add; split <;> simp_all
    rw [e, this]; simpa using hj)
  rw [List.length_map] at h
  rw [run_bytesToString _ _ _ _ ns h, push_all]
  simp

end Go.Proofs.Ythjlhbblflmajaa
/- A range over a function whose iterator has variables of its own in memory and writes them between the rounds: what the library's law for iterators does not allow ('AbidesFrom' lets an iterator turn walks alone). The steps of the iterator are a relation 'St' that its caller's invariant abides. -/
namespace Go.Proofs.Ythjlhbblflmajaa
open Go.RowKit
set_option linter.unusedVariables false
set_option linter.unusedSimpArgs false

def SeqR {α : Type} (F : Fence) (n : Nat) (P : Program) (g : Nat) (lb : Array Value) (encs : α → Array Value) (Kp : World → World → Prop) (St : Nat → World → World → Prop) (S Sp : List α → Prop) (N : Nat) (w : World) : Prop :=
  ∀ (l : Nat) (J Jx : List α → World → Prop) (W : World), Below w.heap.size w W → (∀ s A B, J s A → St W.heap.size A B → J s B) → (∀ s A B, Jx s A → St W.heap.size A B → Jx s B) →
    (∀ pre x W1, J pre W1 → pre.length < N → YieldAt F (n - 1) P l (encs x) W1 fun e W' =>
      (e = .returned (.bool true) ∧ J (pre ++ [x]) W' ∧ Kp W1 W') ∨ (e = .returned (.bool false) ∧ Jx (pre ++ [x]) W')) →
    J [] W →
    CallsIn F n P g (#[.func (.yield l) #[] #[]] ++ lb) W fun e W' => (∃ v, e = .returned v) ∧ ((∃ xs, S xs ∧ J xs W') ∨ (∃ pre, Sp pre ∧ Jx pre W'))

set_option maxHeartbeats 4000000 in
set_option maxRecDepth 100000 in
theorem wpIn_rangeFunc_R {α : Type} {F : Fence} {n : Nat} {P : Program} {g : Operand} {ps : Array Tmp} {assign body : Code} {Q : Exit → Act → World → Prop} {a : Act} {w : World}
    (hro : F.round = none) (h1 : 1 ≤ n) {gf : Nat} {lb : Array Value} (hg : a.eval g = .func (.func gf) #[] lb) (hFg : F.fn gf) (eg : ∀ args w, (callFunc gf args).run P w = .ok (.enter gf args) w)
    {encs : α → Array Value} {Kp : World → World → Prop} {St : Nat → World → World → Prop} {S Sp : List α → Prop} {N : Nat} {w0 : World} (hseq : SeqR F (n - 1) P gf lb encs Kp St S Sp N w0)
    (hKt : ∀ {A B C : World}, Kp A B → Kp B C → Kp A C) (hKb : ∀ (W : World) (l : Nat) (o o' : Obj), w.heap.size ≤ l → l < w.heap.size + 2 → W.heap[l]? = some o → o.isCells = false → Kp W (W.putObj l o')) (hb0 : Below w0.heap.size w0 w) (hps : ∀ x, (encs x).size = ps.size)
    (hSt : ∀ A B k, St (w.heap.size + 2) A B → w.heap.size ≤ k → k < w.heap.size + 2 → k < A.heap.size → B.heap[k]? = A.heap[k]?)
    (I : List α → World → Prop) (Ix : Code → List α → World → Prop) (hI : OwnFrom w.heap.size I) (hIx : ∀ c, OwnFrom w.heap.size (Ix c))
    (hIS : ∀ s A B, I s A → St (w.heap.size + 2) A B → I s B) (hIxS : ∀ c s A B, Ix c s A → St (w.heap.size + 2) A B → Ix c s B) (h0 : I [] w) (a₁ : α → Act)
    (hassign : ∀ (l : Nat) (x : α) (W : World) (K : Act → World → Prop), K (a₁ x) W →
      assign.wpIn (F.inRound l) (n - 1 - 1) P (Exit.then K (fun _ _ _ => False)) { tmps := (ps.zip (encs x)).foldl (fun t (p, v) => t.setIfInBounds p v) a.tmps, defers := [] } W)
    (hbody : ∀ (l : Nat) (pre : List α) (x : α) (W : World), I pre W → pre.length < N → body.wpIn (F.inRound l) (n - 1 - 1) P (ownPostK Kp I Ix (pre ++ [x]) W) (a₁ x) W)
    (hdone : ∀ (D : Nat) (xs : List α) (W : World), w.heap.size ≤ D → S xs → I xs W → W.heap[D]? = some (.deferred (some [])) → Q .normal { a with defers := { target := .collected D, args := #[] } :: a.defers } W)
    (hstop : ∀ (D : Nat) (c : Code) (pre : List α) (W : World), w.heap.size ≤ D → Sp pre → Ix c pre W → W.heap[D]? = some (.deferred (some [])) → c.wpIn F n P Q { a with defers := { target := .collected D, args := #[] } :: a.defers } W) :
    (Code.rangeFunc g ps assign body).wpIn F n P Q a w := by
  refine wpIn_rangeFunc ?_
  intro fn hfn
  rw [hro]
  -- the two blocks that the loop lays: D (deferred calls), l (its record)
  obtain ⟨D, hD⟩ : ∃ D, w.heap.size = D := ⟨_, rfl⟩
  obtain ⟨mk, hmk⟩ : ∃ mk : LoopState → Option Code → Loop, mk = fun st pe => { state := st, pending := pe, fn, tmps := a.tmps, params := ps, assign, body, defers := D } := ⟨_, rfl⟩
  obtain ⟨V, hV⟩ : ∃ V, (w.alloc (.deferred (some []))).alloc (.loop (mk .ready none)) = V := ⟨_, rfl⟩
  have vs : V.heap.size = D + 2 := by rw [← hV, ← hD]; simp
  have vl : V.heap[D + 1]? = some (.loop (mk .ready none)) := by
    rw [← hV, ← hD]; have := World.alloc_heap_new (w.alloc (.deferred (some []))) (.loop (mk .ready none)); rwa [World.size_alloc] at this
  have vd : V.heap[D]? = some (.deferred (some [])) := by
    rw [← hV, ← hD]; exact (Below.heap_alloc _ _ _ (by simp)).trans (World.alloc_heap_new w _)
  have vi : I [] V := by rw [← hV]; exact hI.alloc _ (hI.alloc _ h0)
  have vb : Below w0.heap.size w0 V := by rw [← hV]; exact hb0.trans ((((Below.refl _ w).alloc (Nat.le_refl _) _).alloc (by simp) _).mono hb0.size)
  refine ⟨D + 1, [{ target := .collected D, args := #[] }], V, { target := .fn (.func gf) lb, args := #[.func (.yield (D + 1)) #[] #[]] }, V, gf, #[.func (.yield (D + 1)) #[] #[]] ++ lb, V, ?_, ?_, ?_, ?_, fun _ => h1, ?_⟩
  · rw [← hV, hmk, ← hD]; exact run_enterLoop_outer _ _ _ _ _
  · simp only [resolve, hg]; simp [go_sem]
  · intro f' hf'; simp [Target.leads] at hf'; subst hf'; exact hFg
  · simp [invoke, go_sem, eg]
  -- a turn of the record
  have turn : ∀ {T : List α → World → Prop}, OwnFrom w.heap.size T → ∀ {s W o} (o' : Obj), T s W → W.heap[D + 1]? = some o → o.isCells = false → T s (W.putObj (D + 1) o') := fun hT _ _ _ o' hs ho hc => hT.putObj o' hs (by omega) ho hc
  have kept : ∀ {W : World} {o : Obj} (o' : Obj), W.heap[D + 1]? = some o → o.isCells = false → Kp W (W.putObj (D + 1) o') := fun o' ho hc => hKb _ _ _ _ (by omega) (by omega) ho hc
  have sd : ∀ A B, St V.heap.size A B → ∀ k o, D ≤ k → k < D + 2 → A.heap[k]? = some o → B.heap[k]? = some o := fun A B h k o h2 h3 ho => by
    rw [vs, ← hD] at h
    rw [hSt A B k h (by omega) (by omega) (Array.getElem?_eq_some_iff.1 ho).1]; exact ho
  have iS : ∀ s A B, I s A → St V.heap.size A B → I s B := fun s A B h k => hIS s A B h (by rw [vs, ← hD] at k; exact k)
  have ixS : ∀ c s A B, Ix c s A → St V.heap.size A B → Ix c s B := fun c s A B h k => hIxS c s A B h (by rw [vs, ← hD] at k; exact k)
  refine (hseq (D + 1) (fun pre W => I pre W ∧ W.heap[D + 1]? = some (.loop (mk .ready none)) ∧ W.heap[D]? = some (.deferred (some [])))
    (fun pre W => ∃ c, Ix c pre W ∧ W.heap[D + 1]? = some (.loop (mk .done (some c))) ∧ W.heap[D]? = some (.deferred (some []))) V vb
    (fun s A B h k => ⟨iS s A B h.1 k, sd A B k _ _ (by omega) (by omega) h.2.1, sd A B k _ _ (by omega) (by omega) h.2.2⟩)
    (fun s A B h k => by obtain ⟨c, hc, h2, h3⟩ := h; exact ⟨c, ixS c s A B hc k, sd A B k _ _ (by omega) (by omega) h2, sd A B k _ _ (by omega) (by omega) h3⟩) ?_ ⟨vi, vl, vd⟩).mono ?_
  · rintro pre x W ⟨hi, hl, hd⟩ hlen
    have hlt := (Array.getElem?_eq_some_iff.1 hl).1
    have hy := run_yield (P := P) (args := encs x) hl (by rw [hmk]; exact hps x)
    rw [hmk] at hy
    refine ⟨fn, _, assign, body, hy, roundIn_of_wpIn hfn (hassign _ x W _ ⟨_, run_beginRound hl (by rw [hmk]), ?_⟩)⟩
    obtain ⟨U, hU⟩ : ∃ U, W.putObj (D + 1) (.loop { mk .ready none with state := .busy }) = U := ⟨_, rfl⟩
    have ul : U.heap[D + 1]? = some (.loop { mk .ready none with state := .busy }) := by rw [← hU]; exact World.putObj_heap_same hlt
    have ud : U.heap[D]? = some (.deferred (some [])) := by rw [← hU]; exact (World.putObj_heap_other (by omega)).trans hd
    have uk : Kp W U := by rw [← hU]; exact kept _ hl rfl
    have ui : I pre U := by rw [← hU]; exact turn hI _ hi hl rfl
    rw [hU]
    clear hU
    refine wpIn_mono (hbody _ pre x U ui hlen) ?_
    -- at the round's end
    have fin : ∀ (jump : Option Code) (X : World), KeepsOthers U X → X.heap[D + 1]? = some (.loop { mk .ready none with state := .busy }) ∧
        (Instr.endRound (D + 1) jump).run P X = .ok (.bool jump.isNone) (X.putObj (D + 1) (.loop (mk (if jump.isNone then .ready else .done) jump))) ∧
        (X.putObj (D + 1) (.loop (mk (if jump.isNone then .ready else .done) jump))).heap[D + 1]? = some (.loop (mk (if jump.isNone then .ready else .done) jump)) ∧
        (X.putObj (D + 1) (.loop (mk (if jump.isNone then .ready else .done) jump))).heap[D]? = some (.deferred (some [])) := by
      intro jump X hk
      have xl := hk.same _ _ ul rfl
      have hr := run_endRound (P := P) jump xl
      refine ⟨xl, ?_, World.putObj_heap_same (Array.getElem?_eq_some_iff.1 xl).1, (World.putObj_heap_other (by omega)).trans (hk.same _ _ ud rfl)⟩
      rw [hmk] at hr ⊢; exact hr
    have out : ∀ (c : Code) (X : World), KeepsOthers U X → Ix c (pre ++ [x]) X → ∃ e W', (Instr.endRound (D + 1) (some c)).run P X = .ok (.bool false) W' ∧ e = Ending.returned (.bool false) ∧ (∃ c, Ix c (pre ++ [x]) W' ∧ W'.heap[D + 1]? = some (.loop (mk .done (some c))) ∧ W'.heap[D]? = some (.deferred (some []))) := by
      intro c X hk hi3
      obtain ⟨xl, hr, yl, yd⟩ := fin (some c) X hk
      exact ⟨_, _, hr, rfl, c, turn (hIx c) _ hi3 xl rfl, yl, yd⟩
    rintro e a3 X hp
    cases e with
    | normal =>
      obtain ⟨hk, hkp, hi3⟩ := hp
      obtain ⟨xl, hr, yl, yd⟩ := fin none X hk
      exact ⟨_, _, hr, .inl ⟨rfl, ⟨turn hI _ hi3 xl rfl, yl, yd⟩, hKt (hKt uk hkp) (kept _ xl rfl)⟩⟩
    | ret => obtain ⟨_, W', hr, _, h⟩ := out .ret X hp.1 hp.2; exact ⟨_, _, hr, .inr ⟨rfl, h⟩⟩
    | exit id => obtain ⟨_, W', hr, _, h⟩ := out (.exit id) X hp.1 hp.2; exact ⟨_, _, hr, .inr ⟨rfl, h⟩⟩
    | goto t => obtain ⟨_, W', hr, _, h⟩ := out (.goto t) X hp.1 hp.2; exact ⟨_, _, hr, .inr ⟨rfl, h⟩⟩
    | panic ch => exact hp.elim
    | outgrown => exact hp.elim
  · rintro e W2 ⟨⟨v, rfl⟩, (⟨xs, hS, hi, hl, hd⟩ | ⟨pre, hSp, c, hi, hl, hd⟩)⟩
    · refine ⟨none, _, by have := run_endLoop (P := P) hl (by rw [hmk]; simp); rw [hmk] at this; exact this, hdone D xs _ (by omega) hS ?_ ((World.putObj_heap_other (by omega)).trans hd)⟩
      exact turn hI _ hi hl rfl
    · refine ⟨some c, _, by have := run_endLoop (P := P) hl (by rw [hmk]; simp); rw [hmk] at this; exact this, hstop D c pre _ (by omega) hSp ?_ ((World.putObj_heap_other (by omega)).trans hd)⟩
      exact turn (hIx c) _ hi hl rfl
end Go.Proofs.Ythjlhbblflmajaa
/- Texts as runes: plain facts on lists of bytes, no program in sight. -/
namespace Go.Proofs.Ythjlhbblflmajaa
open Go.RowKit
set_option linter.unusedVariables false
set_option linter.unusedSimpArgs false

def fSize (b : Int) : Int := if b < 128 then 1 else if b < 194 then 0 else if b < 224 then 2 else if b < 240 then 3 else if b ≤ 244 then 4 else 0
def fLow (b : Int) : Int := if b < 194 then 0 else if b < 224 then 128 else if b = 224 then 160 else if b < 240 then 128 else if b = 240 then 144 else if b ≤ 244 then 128 else 0
def fTop (b : Int) : Int := if b < 194 then 0 else if b = 237 then 159 else if b < 244 then 191 else if b = 244 then 143 else 0
theorem fSize_lo (b : Int) : 0 ≤ fSize b := by unfold fSize; repeat' (first | omega | split)
theorem fSize_hi (b : Int) : fSize b ≤ 4 := by unfold fSize; repeat' (first | omega | split)
def okb (b0 : Int) (j : Nat) (c : Int) : Bool := if j = 1 then decide (fLow b0 ≤ c) && decide (c ≤ fTop b0) else decide (128 ≤ c) && decide (c ≤ 191)
def begOk (l : List UInt8) (k : Nat) : Bool := (List.range k).all fun j => j == 0 || okb (byL l 0) j (byL l j)
theorem begOk_succ (l : List UInt8) (k : Nat) : begOk l (k + 1) = (begOk l k && (k == 0 || okb (byL l 0) k (byL l k))) := by
  unfold begOk; rw [List.range_succ, List.all_append]; simp
theorem begOk_mono (l : List UInt8) : ∀ (d k : Nat), begOk l (k + d) = true → begOk l k = true
  | 0, _, h => h
  | d + 1, k, h => begOk_mono l d k (by rw [← Nat.add_assoc, begOk_succ, Bool.and_eq_true] at h; exact h.1)
theorem begOk_le (l : List UInt8) {k m : Nat} (h : begOk l m = true) (hk : k ≤ m) : begOk l k = true :=
  begOk_mono l (m - k) k (by rw [Nat.add_sub_cancel' hk]; exact h)
theorem begOk_at (l : List UInt8) {k j : Nat} (h : begOk l k = true) (h1 : 1 ≤ j) (hj : j < k) : okb (byL l 0) j (byL l j) = true := by
  have := begOk_le l (k := j + 1) h (by omega)
  rw [begOk_succ, Bool.and_eq_true] at this
  have h2 := this.2
  have : (j == 0) = false := by simp; omega
  simpa [this] using h2
def begA (l : List UInt8) : Int := if l.length = 0 then 0 else if begOk l (min l.length (fSize (byL l 0)).toNat) then min (l.length : Int) (fSize (byL l 0)) else 0
def begB (l : List UInt8) : Int := if l.length = 0 then 0 else if begOk l (min l.length (fSize (byL l 0)).toNat) then fSize (byL l 0) else 0
def szL (l : List UInt8) : Nat := if begA l < begB l then 0 else (begB l).toNat
theorem begB_lo (l : List UInt8) : 0 ≤ begB l := by
  unfold begB; have := fSize_lo (byL l 0); repeat' (first | omega | split)
theorem szL_le (l : List UInt8) : szL l ≤ l.length := by
  have := fSize_lo (byL l 0)
  unfold szL begA begB
  repeat' (first | omega | split)
theorem szL_hi (l : List UInt8) : szL l ≤ 4 := by
  have := fSize_hi (byL l 0)
  unfold szL begB
  repeat' (first | omega | split)
theorem szL_nil : szL [] = 0 := by have := szL_le []; simpa using this
theorem szL_eq (l : List UInt8) : (if begA l < begB l then 0 else begB l) = (szL l : Int) := by
  have := begB_lo l
  unfold szL; split <;> omega
def validN : Nat → List UInt8 → Bool
  | 0, l => l.length == 0
  | n + 1, l => if l.length = 0 then true else if szL l = 0 then false else validN n (l.drop (szL l))
def validL (l : List UInt8) : Bool := validN l.length l
theorem validN_eq : ∀ (n : Nat) (l : List UInt8), l.length ≤ n → validN n l = validN l.length l
  | 0, l, h => by have : l.length = 0 := by omega
                  rw [this]
  | n + 1, l, h => by
    by_cases h0 : l.length = 0
    · rw [h0]; simp [validN, h0]
    · obtain ⟨m, hm⟩ : ∃ m, l.length = m + 1 := ⟨l.length - 1, by omega⟩
      by_cases hz : szL l = 0
      · rw [hm]; simp [validN, h0, hz]
      · have h1 := validN_eq n (l.drop (szL l)) (by rw [List.length_drop]; omega)
        have h2 := validN_eq m (l.drop (szL l)) (by rw [List.length_drop]; omega)
        rw [hm]; simp only [validN, if_neg h0, if_neg hz]; rw [h1, h2]
termination_by n => n
theorem validL_unfold (l : List UInt8) : validL l = if l.length = 0 then true else if szL l = 0 then false else validL (l.drop (szL l)) := by
  unfold validL
  by_cases h0 : l.length = 0
  · rw [h0]; simp [validN, h0]
  · obtain ⟨m, hm⟩ : ∃ m, l.length = m + 1 := ⟨l.length - 1, by omega⟩
    by_cases hz : szL l = 0
    · rw [hm]; simp [validN, h0, hz]
    · rw [if_neg h0, if_neg hz, ← validN_eq m (l.drop (szL l)) (by rw [List.length_drop]; omega), hm]
      simp only [validN, if_neg h0, if_neg hz]
theorem validL_nil : validL [] = true := rfl
theorem validL_bad {l : List UInt8} (h : l.length ≠ 0) (hz : szL l = 0) : validL l = false := by rw [validL_unfold, if_neg h, if_pos hz]
theorem validL_step {l : List UInt8} (h : l.length ≠ 0) (hz : szL l ≠ 0) : validL l = validL (l.drop (szL l)) := by
  conv => lhs; rw [validL_unfold, if_neg h, if_neg hz]
def inn (b : Int) : Bool := decide (128 ≤ b) && decide (b < 192)
theorem inn_t {b : Int} (h : inn b = true) : 128 ≤ b ∧ b < 192 := by simpa [inn] using h
theorem inn_f {b : Int} (h : inn b = false) : b < 128 ∨ 192 ≤ b := by simp [inn] at h; omega
theorem inn_t' {b : Int} (h : 128 ≤ b ∧ b < 192) : inn b = true := by simp [inn]; omega
theorem inn_f' {b : Int} (h : b < 128 ∨ 192 ≤ b) : inn b = false := by simp [inn]; omega
def placeB (l : List UInt8) (p : Int) : Bool := decide (0 ≤ p) && decide (p ≤ l.length) && (decide (p = l.length) || !inn (byL l p.toNat)) && validL l
def nextI (l : List UInt8) (p : Int) : Int := if placeB l p = true ∧ p ≠ l.length then p + szL (l.drop p.toNat) else -1
def prevFrom (l : List UInt8) : Nat → Nat
  | 0 => 0
  | k + 1 => if inn (byL l (k + 1)) then prevFrom l k else k + 1
def prevI (l : List UInt8) (p : Int) : Int := if placeB l p = true ∧ p ≠ 0 then prevFrom l (p.toNat - 1) else -1
def cntL (l : List UInt8) : Nat := (l.filter fun b => !inn b.toNat).length
def countI (l : List UInt8) : Int := if validL l then cntL l else 0
def offF : List UInt8 → Nat → Int → Int
  | [], i, k => if 0 < k then -1 else i
  | b :: t, i, k => if inn b.toNat then offF t (i + 1) k else if k = 0 then i else offF t (i + 1) (k - 1)
def offI (l : List UInt8) (k : Int) : Int := if k < 0 ∨ validL l = false then -1 else offF l 0 k

theorem szL_pos {l : List UInt8} (h : szL l ≠ 0) : l.length ≠ 0 ∧ (szL l : Int) = fSize (byL l 0) ∧ szL l ≤ l.length ∧ begOk l (szL l) = true := by
  have hle := szL_le l
  have h0 : l.length ≠ 0 := by omega
  refine ⟨h0, ?_⟩
  have hlo := fSize_lo (byL l 0)
  unfold szL at h hle ⊢
  unfold begA begB at h hle ⊢
  simp only [if_neg h0] at h hle ⊢
  by_cases hb : begOk l (min l.length (fSize (byL l 0)).toNat) = true
  · simp only [if_pos hb] at h hle ⊢
    by_cases hc : min (l.length : Int) (fSize (byL l 0)) < fSize (byL l 0)
    · simp only [if_pos hc] at h; omega
    · simp only [if_neg hc] at h hle ⊢
      refine ⟨by omega, hle, ?_⟩
      rw [Nat.min_eq_right (by omega)] at hb
      exact hb
  · simp only [if_neg hb] at h; simp at h
theorem szL_of {l : List UInt8} {n : Nat} (h0 : l.length ≠ 0) (hn : (n : Int) = fSize (byL l 0)) (hle : n ≤ l.length) (hb : begOk l n = true) : szL l = n := by
  have hm : min l.length (fSize (byL l 0)).toNat = n := by omega
  have hb' : begOk l (min l.length (fSize (byL l 0)).toNat) = true := by rw [hm]; exact hb
  unfold szL begA begB
  simp only [if_neg h0, if_pos hb']
  rw [if_neg (by omega)]; omega
theorem inn_first {l : List UInt8} (h : szL l ≠ 0) : inn (byL l 0) = false := by
  obtain ⟨_, h1, _, _⟩ := szL_pos h
  apply inn_f'
  have hz : fSize (byL l 0) ≠ 0 := by omega
  unfold fSize at hz
  repeat' (first | omega | split at hz)
theorem inn_rest {l : List UInt8} (h : szL l ≠ 0) {j : Nat} (h1 : 1 ≤ j) (hj : j < szL l) : inn (byL l j) = true := by
  obtain ⟨_, hf, _, hb⟩ := szL_pos h
  have := begOk_at l hb h1 hj
  unfold okb at this
  apply inn_t'
  split at this
  · simp only [Bool.and_eq_true, decide_eq_true_eq] at this
    have h2 := fSize_hi (byL l 0)
    unfold fLow fTop at this
    unfold fSize at hf
    repeat' (first | omega | split at this | split at hf)
  · simp only [Bool.and_eq_true, decide_eq_true_eq] at this; omega
theorem valid_sz {l : List UInt8} (h : validL l = true) (h0 : l.length ≠ 0) : szL l ≠ 0 := by
  intro hz; rw [validL_bad h0 hz] at h; exact absurd h (by simp)
theorem valid_first {l : List UInt8} (h : validL l = true) (h0 : l.length ≠ 0) : inn (byL l 0) = false := inn_first (valid_sz h h0)

theorem place_cases (s : ByteArray) (p : Int) : placeB (ls s) p = false ∨ ∃ k : Nat, p = k ∧ k ≤ s.size ∧ placeB (ls s) k = true ∧ validL (ls s) = true := by
  rcases Bool.eq_false_or_eq_true (placeB (ls s) p) with h | h
  · refine .inr ⟨p.toNat, ?_⟩
    have h' := h
    unfold placeB at h'
    simp only [Bool.and_eq_true, decide_eq_true_eq, ls_len] at h'
    refine ⟨by omega, by omega, ?_, h'.2⟩
    rw [Int.toNat_of_nonneg h'.1.1.1]; exact h
  · exact .inl h
theorem cnt_succ (l : List UInt8) (j : Nat) (h : j < l.length) : cntL (l.take (j + 1)) = cntL (l.take j) + if inn (byL l j) = true then 0 else 1 := by
  unfold cntL byL
  rw [List.take_succ_eq_append_getElem h, List.filter_append, List.length_append, List.getD_eq_getElem?_getD, List.getElem?_eq_getElem h]
  rcases Bool.eq_false_or_eq_true (inn ↑l[j].toNat) with e | e <;> simp [List.filter_cons, e]
theorem cnt_le (l : List UInt8) (j : Nat) : cntL (l.take j) ≤ j := by
  unfold cntL
  exact Nat.le_trans (List.length_filter_le _ _) (List.length_take_le _ _)
theorem drop_cons (l : List UInt8) (j : Nat) (h : j < l.length) : l.drop j = l[j] :: l.drop (j + 1) := (List.drop_eq_getElem_cons h)
theorem off_step (l : List UInt8) (j : Nat) (k : Int) (h : j < l.length) : offF (l.drop j) j k = if inn (byL l j) = true then offF (l.drop (j + 1)) (j + 1) k else if k = 0 then (j : Int) else offF (l.drop (j + 1)) (j + 1) (k - 1) := by
  rw [drop_cons l j h]
  unfold byL
  rw [List.getD_eq_getElem?_getD, List.getElem?_eq_getElem h]
  simp [offF]

end Go.Proofs.Ythjlhbblflmajaa
/- A rune by its number: plain facts. -/
namespace Go.Proofs.Ythjlhbblflmajaa
open Go.RowKit
set_option linter.unusedVariables false
set_option linter.unusedSimpArgs false
def bytesL (n : Int) : List UInt8 :=
  if n < 0 ∨ 1114111 < n ∨ 55296 ≤ n ∧ n < 57344 then []
  else if n < 128 then [b8 n]
  else if n < 2048 then [b8 (192 + n / 64), b8 (128 + n % 64)]
  else if n < 65536 then [b8 (224 + n / 4096), b8 (128 + n / 64 % 64), b8 (128 + n % 64)]
  else [b8 (240 + n / 262144), b8 (128 + n / 4096 % 64), b8 (128 + n / 64 % 64), b8 (128 + n % 64)]
def num2 (a b : Int) : Int := if a - 192 < 0 then -1 else if b - 128 < 0 ∨ 63 < b - 128 then -1 else 64 * (a - 192) + (b - 128)
def num3 (a b c : Int) : Int := if a - 224 < 0 then -1 else if b - 128 < 0 ∨ 63 < b - 128 then -1 else if c - 128 < 0 ∨ 63 < c - 128 then -1 else 64 * (64 * (a - 224) + (b - 128)) + (c - 128)
def num4 (a b c d : Int) : Int := if a - 240 < 0 then -1 else if b - 128 < 0 ∨ 63 < b - 128 then -1 else if c - 128 < 0 ∨ 63 < c - 128 then -1 else if d - 128 < 0 ∨ 63 < d - 128 then -1 else 64 * (64 * (64 * (a - 240) + (b - 128)) + (c - 128)) + (d - 128)
def numI (l : List UInt8) : Int :=
  if l.length = 1 then byL l 0 else if l.length = 2 then num2 (byL l 0) (byL l 1) else if l.length = 3 then num3 (byL l 0) (byL l 1) (byL l 2) else num4 (byL l 0) (byL l 1) (byL l 2) (byL l 3)
theorem numI_1 {l : List UInt8} (h : l.length = 1) : numI l = byL l 0 := by simp [numI, h]
theorem numI_2 {l : List UInt8} (h : l.length = 2) : numI l = num2 (byL l 0) (byL l 1) := by simp [numI, h]
theorem numI_3 {l : List UInt8} (h : l.length = 3) : numI l = num3 (byL l 0) (byL l 1) (byL l 2) := by simp [numI, h]
theorem numI_4 {l : List UInt8} (h : l.length = 4) : numI l = num4 (byL l 0) (byL l 1) (byL l 2) (byL l 3) := by simp [numI, h]
def isL (l : List UInt8) : Bool := decide (l.length ≠ 0) && decide (szL l = l.length)
theorem is_long (l : List UInt8) (h : 5 ≤ l.length) : isL l = false := by
  have := szL_hi l
  unfold isL; simp; omega
theorem is_none (l : List UInt8) (h : l.length = 0) : isL l = false := by unfold isL; simp [h]
theorem b8_eq {n : Int} {a : UInt8} (h0 : 0 ≤ n) (h1 : n < 256) : b8 n = a ↔ n = a.toNat := by
  unfold b8
  constructor
  · intro h; subst h
    rw [UInt8.toNat_ofNat']; omega
  · intro h
    apply UInt8.toNat_inj.1
    rw [UInt8.toNat_ofNat']; omega
theorem sz_iff (l : List UInt8) (n : Nat) (hn : n = l.length) (h0 : n ≠ 0) : szL l = n ↔ (n : Int) = fSize (byL l 0) ∧ begOk l n = true := by
  subst hn
  constructor
  · intro h
    obtain ⟨_, h2, _, h4⟩ := szL_pos (l := l) (by omega)
    rw [h] at h2 h4; exact ⟨h2, h4⟩
  · rintro ⟨h2, h4⟩
    exact szL_of (by omega) h2 (Nat.le_refl _) h4
theorem beg2 (a b : UInt8) (r : List UInt8) : begOk (a :: b :: r) 2 = okb a.toNat 1 b.toNat := by
  rw [begOk_succ, begOk_succ]; simp [begOk, byL]
theorem beg3 (a b c : UInt8) (r : List UInt8) : begOk (a :: b :: c :: r) 3 = (okb a.toNat 1 b.toNat && okb a.toNat 2 c.toNat) := by
  rw [begOk_succ, beg2]; simp [byL]
theorem beg4 (a b c d : UInt8) (r : List UInt8) : begOk (a :: b :: c :: d :: r) 4 = (okb a.toNat 1 b.toNat && okb a.toNat 2 c.toNat && okb a.toNat 3 d.toNat) := by
  rw [begOk_succ, beg3]; simp [byL]
theorem sz1 (a : UInt8) : szL [a] = 1 ↔ a.toNat < 128 := by
  rw [sz_iff [a] 1 rfl (by omega)]
  have : begOk [a] 1 = true := by rw [begOk_succ]; simp [begOk]
  simp only [this, and_true, byL, List.getD_cons_zero]
  unfold fSize
  constructor
  · intro h; repeat' (first | omega | split at h)
  · intro h; rw [if_pos (by omega)]; rfl
theorem sz2 (a b : UInt8) : szL [a, b] = 2 ↔ 194 ≤ a.toNat ∧ a.toNat < 224 ∧ 128 ≤ b.toNat ∧ b.toNat < 192 := by
  rw [sz_iff [a, b] 2 rfl (by omega), beg2]
  simp only [byL, List.getD_cons_zero]
  unfold okb fSize fLow fTop
  constructor
  · rintro ⟨h, h2⟩; simp only [if_true, Bool.and_eq_true, decide_eq_true_eq] at h2
    repeat' (first | omega | split at h | split at h2)
  · intro h; simp only [if_true, Bool.and_eq_true, decide_eq_true_eq]
    repeat' (first | omega | split)
theorem sz3 (a b c : UInt8) : szL [a, b, c] = 3 ↔ 224 ≤ a.toNat ∧ a.toNat < 240 ∧ 128 ≤ b.toNat ∧ b.toNat < 192 ∧ 128 ≤ c.toNat ∧ c.toNat < 192 ∧ (a.toNat = 224 → 160 ≤ b.toNat) ∧ (a.toNat = 237 → b.toNat < 160) := by
  rw [sz_iff [a, b, c] 3 rfl (by omega), beg3]
  simp only [byL, List.getD_cons_zero]
  unfold okb fSize fLow fTop
  constructor
  · rintro ⟨h, h2⟩; simp only [if_true, Bool.and_eq_true, decide_eq_true_eq, Nat.reduceEqDiff, if_false] at h2
    obtain ⟨⟨h2, h3⟩, h4, h5⟩ := h2
    repeat' (first | omega | split at h | split at h2 | split at h3)
  · intro h; simp only [if_true, Bool.and_eq_true, decide_eq_true_eq, Nat.reduceEqDiff, if_false]
    repeat' (first | omega | split)
theorem sz4 (a b c d : UInt8) : szL [a, b, c, d] = 4 ↔ 240 ≤ a.toNat ∧ a.toNat ≤ 244 ∧ 128 ≤ b.toNat ∧ b.toNat < 192 ∧ 128 ≤ c.toNat ∧ c.toNat < 192 ∧ 128 ≤ d.toNat ∧ d.toNat < 192 ∧ (a.toNat = 240 → 144 ≤ b.toNat) ∧ (a.toNat = 244 → b.toNat < 144) := by
  rw [sz_iff [a, b, c, d] 4 rfl (by omega), beg4]
  simp only [byL, List.getD_cons_zero]
  unfold okb fSize fLow fTop
  constructor
  · rintro ⟨h, h2⟩; simp only [if_true, Bool.and_eq_true, decide_eq_true_eq, Nat.reduceEqDiff, if_false] at h2
    obtain ⟨⟨⟨h2, h3⟩, h4, h5⟩, h6, h7⟩ := h2
    repeat' (first | omega | split at h | split at h2 | split at h3)
  · intro h; simp only [if_true, Bool.and_eq_true, decide_eq_true_eq, Nat.reduceEqDiff, if_false]
    repeat' (first | omega | split)
theorem bytes_bad : bytesL (-1) = [] := by rfl
theorem is_eq1 (a : UInt8) : bytesL (a.toNat : Int) = [a] ↔ szL [a] = 1 := by
  have ha := a.toNat_lt
  rw [sz1]
  unfold bytesL
  repeat' split
  all_goals simp only [List.cons.injEq, and_true, reduceCtorEq, and_false, false_iff, false_and]
  all_goals first | omega | (rw [b8_eq (by omega) (by omega)]; omega)
theorem is_eq2 (a b : UInt8) : bytesL (num2 a.toNat b.toNat) = [a, b] ↔ szL [a, b] = 2 := by
  have ha := a.toNat_lt
  have hb := b.toNat_lt
  rw [sz2]
  by_cases hw : 192 ≤ a.toNat ∧ 128 ≤ b.toNat ∧ b.toNat < 192
  · obtain ⟨n, hn⟩ : ∃ n : Int, n = 64 * ((a.toNat : Int) - 192) + ((b.toNat : Int) - 128) := ⟨_, rfl⟩
    have : num2 a.toNat b.toNat = n := by unfold num2; rw [if_neg (by omega), if_neg (by omega), hn]
    rw [this]
    unfold bytesL
    repeat' split
    all_goals simp only [List.cons.injEq, and_true, reduceCtorEq, and_false, false_iff, false_and]
    all_goals first | omega | (rw [b8_eq (by omega) (by omega), b8_eq (by omega) (by omega)]; omega)
  · have : num2 a.toNat b.toNat = -1 := by unfold num2; repeat' (first | omega | split)
    rw [this, bytes_bad]; simp; omega
theorem is_eq3 (a b c : UInt8) : bytesL (num3 a.toNat b.toNat c.toNat) = [a, b, c] ↔ szL [a, b, c] = 3 := by
  have ha := a.toNat_lt
  have hb := b.toNat_lt
  have hc := c.toNat_lt
  rw [sz3]
  by_cases hw : 224 ≤ a.toNat ∧ 128 ≤ b.toNat ∧ b.toNat < 192 ∧ 128 ≤ c.toNat ∧ c.toNat < 192
  · obtain ⟨n, hn⟩ : ∃ n : Int, n = 64 * (64 * ((a.toNat : Int) - 224) + ((b.toNat : Int) - 128)) + ((c.toNat : Int) - 128) := ⟨_, rfl⟩
    have : num3 a.toNat b.toNat c.toNat = n := by unfold num3; rw [if_neg (by omega), if_neg (by omega), if_neg (by omega), hn]
    rw [this]
    unfold bytesL
    repeat' split
    all_goals simp only [List.cons.injEq, and_true, reduceCtorEq, and_false, false_iff, false_and]
    all_goals first | omega | (rw [b8_eq (by omega) (by omega), b8_eq (by omega) (by omega), b8_eq (by omega) (by omega)]; omega)
  · have : num3 a.toNat b.toNat c.toNat = -1 := by unfold num3; repeat' (first | omega | split)
    rw [this, bytes_bad]; simp; omega
theorem is_eq4 (a b c d : UInt8) : bytesL (num4 a.toNat b.toNat c.toNat d.toNat) = [a, b, c, d] ↔ szL [a, b, c, d] = 4 := by
  have ha := a.toNat_lt
  have hb := b.toNat_lt
  have hc := c.toNat_lt
  have hd := d.toNat_lt
  rw [sz4]
  by_cases hw : 240 ≤ a.toNat ∧ 128 ≤ b.toNat ∧ b.toNat < 192 ∧ 128 ≤ c.toNat ∧ c.toNat < 192 ∧ 128 ≤ d.toNat ∧ d.toNat < 192
  · obtain ⟨n, hn⟩ : ∃ n : Int, n = 64 * (64 * (64 * ((a.toNat : Int) - 240) + ((b.toNat : Int) - 128)) + ((c.toNat : Int) - 128)) + ((d.toNat : Int) - 128) := ⟨_, rfl⟩
    have : num4 a.toNat b.toNat c.toNat d.toNat = n := by unfold num4; rw [if_neg (by omega), if_neg (by omega), if_neg (by omega), if_neg (by omega), hn]
    rw [this]
    unfold bytesL
    repeat' split
    all_goals simp only [List.cons.injEq, and_true, reduceCtorEq, and_false, false_iff, false_and]
    all_goals first | omega | (rw [b8_eq (by omega) (by omega), b8_eq (by omega) (by omega), b8_eq (by omega) (by omega), b8_eq (by omega) (by omega)]; omega)
  · have : num4 a.toNat b.toNat c.toNat d.toNat = -1 := by unfold num4; repeat' (first | omega | split)
    rw [this, bytes_bad]; simp; omega
theorem is_eq (l : List UInt8) (h1 : 1 ≤ l.length) (h4 : l.length ≤ 4) : (bytesL (numI l) == l) = isL l := by
  rw [Bool.eq_iff_iff, beq_iff_eq]
  unfold isL
  simp only [Bool.and_eq_true, decide_eq_true_eq]
  match l, h1, h4 with
  | [a], _, _ => rw [numI_1 rfl]; simpa [byL] using is_eq1 a
  | [a, b], _, _ => rw [numI_2 rfl]; simpa [byL] using is_eq2 a b
  | [a, b, c], _, _ => rw [numI_3 rfl]; simpa [byL] using is_eq3 a b c
  | [a, b, c, d], _, _ => rw [numI_4 rfl]; simpa [byL] using is_eq4 a b c d
  | a :: b :: c :: d :: e :: r, _, h => simp at h

end Go.Proofs.Ythjlhbblflmajaa
/- The places of a text's runes: plain facts. -/
namespace Go.Proofs.Ythjlhbblflmajaa
open Go.RowKit
set_option linter.unusedVariables false
set_option linter.unusedSimpArgs false
def plcTo (l : List UInt8) (k : Nat) : List Nat := (List.range k).filter fun p => !inn (byL l p)
def plcs (l : List UInt8) : List Nat := plcTo l l.length ++ [l.length]
def splitI (l : List UInt8) : List Int := if validL l then (plcs l).map Int.ofNat else []
theorem plcTo_succ (l : List UInt8) (k : Nat) : plcTo l (k + 1) = plcTo l k ++ if inn (byL l k) then [] else [k] := by
  unfold plcTo; rw [List.range_succ, List.filter_append]
  rcases Bool.eq_false_or_eq_true (inn (byL l k)) with h | h <;> simp [h]
theorem plcTo_len (l : List UInt8) (k : Nat) : (plcTo l k).length ≤ k := by
  unfold plcTo; exact Nat.le_trans (List.length_filter_le _ _) (by simp)
theorem sz_take (l : List UInt8) (n : Nat) (hn : 1 ≤ n) (hl : n ≤ l.length) : szL (l.take n) = n ↔ szL l = n := by
  have hby : ∀ k, k < n → byL (l.take n) k = byL l k := by
    intro k hk; unfold byL; simp [List.getD_eq_getElem?_getD, List.getElem?_take, hk]
  have hbeg : begOk (l.take n) n = begOk l n := by
    have : ∀ m, m ≤ n → begOk (l.take n) m = begOk l m := by
      intro m
      induction m with
      | zero => intro _; simp [begOk]
      | succ m ih => intro hm; rw [begOk_succ, begOk_succ, ih (by omega), hby 0 (by omega), hby m (by omega)]
    exact this n (Nat.le_refl _)
  have hlen : (l.take n).length = n := by rw [List.length_take]; omega
  constructor
  · intro h
    obtain ⟨_, h2, _, h4⟩ := szL_pos (l := l.take n) (by rw [h]; omega)
    rw [h, hby 0 (by omega)] at h2
    rw [h, hbeg] at h4
    exact szL_of (by omega) h2 hl h4
  · intro h
    obtain ⟨_, h2, _, h4⟩ := szL_pos (l := l) (by rw [h]; omega)
    rw [h] at h2 h4
    exact szL_of (by omega) (by rw [hby 0 (by omega)]; exact h2) (by omega) (by rw [hbeg]; exact h4)
theorem is_take (l : List UInt8) (n : Nat) (hn : 1 ≤ n) (hl : n ≤ l.length) : isL (l.take n) = decide (szL l = n) := by
  have hlen : (l.take n).length = n := by rw [List.length_take]; omega
  have := sz_take l n hn hl
  unfold isL
  rw [hlen]
  have h0 : decide (n ≠ 0) = true := by simp; omega
  rw [h0, Bool.true_and]
  exact decide_eq_decide.2 this
theorem plcTo_add (l : List UInt8) (i n : Nat) (hn : szL (l.drop i) = n) (h0 : n ≠ 0) : plcTo l (i + n) = plcTo l i ++ [i] := by
  have h1 := inn_first (l := l.drop i) (by omega)
  have h2 : ∀ m, 1 ≤ m → m ≤ n → plcTo l (i + m) = plcTo l i ++ [i] := by
    intro m
    induction m with
    | zero => intro h; omega
    | succ m ih =>
      intro _ hm
      rw [← Nat.add_assoc, plcTo_succ]
      rcases Nat.eq_zero_or_pos m with h | h
      · subst h
        rw [byL_drop] at h1
        simp only [Nat.add_zero] at h1 ⊢
        rw [h1]; simp
      · have h3 := inn_rest (l := l.drop i) (by omega) (j := m) (by omega) (by omega)
        rw [byL_drop] at h3
        rw [h3, ih (by omega) (by omega)]; simp
  exact h2 n (by omega) (Nat.le_refl _)
theorem splitI_bad {l : List UInt8} (h : validL l = false) : splitI l = [] := by unfold splitI; simp [h]
theorem splitI_ok {l : List UInt8} (h : validL l = true) : splitI l = (plcTo l l.length).map Int.ofNat ++ [(l.length : Int)] := by unfold splitI plcs; simp [h]
theorem splitI_len (l : List UInt8) : (splitI l).length ≤ l.length + 1 := by
  unfold splitI plcs; have := plcTo_len l l.length
  split <;> simp; omega
def findF : List Int → Int → Nat → Int
  | [], _, _ => -1
  | y :: r, x, i => if y = x then i else findF r x (i + 1)
theorem findF_step (xs : List Int) (x : Int) (j : Nat) (h : j < xs.length) : findF (xs.drop j) x j = if xs[j] = x then (j : Int) else findF (xs.drop (j + 1)) x (j + 1) := by
  rw [List.drop_eq_getElem_cons h, findF]
theorem findF_end (xs : List Int) (x : Int) (j : Nat) (h : xs.length ≤ j) : findF (xs.drop j) x j = -1 := by
  rw [List.drop_eq_nil_of_le h]; rfl
theorem findF_none : ∀ (xs : List Int) (x : Int) (i : Nat), x ∉ xs → findF xs x i = -1
  | [], _, _, _ => rfl
  | y :: r, x, i, h => by
    have h1 : y ≠ x := fun e => h (by simp [e])
    have h2 : x ∉ r := fun e => h (by simp [e])
    rw [findF, if_neg h1, findF_none r x (i + 1) h2]
theorem findF_some : ∀ (xs ys : List Int) (x : Int) (i : Nat), x ∉ xs → findF (xs ++ x :: ys) x i = (i + xs.length : Nat)
  | [], ys, x, i, _ => by simp [findF]
  | y :: r, ys, x, i, h => by
    have h1 : y ≠ x := fun e => h (by simp [e])
    have h2 : x ∉ r := fun e => h (by simp [e])
    rw [List.cons_append, findF, if_neg h1, findF_some r ys x (i + 1) h2]
    simp; omega
theorem mem_plcTo (l : List UInt8) (k p : Nat) : p ∈ plcTo l k ↔ p < k ∧ inn (byL l p) = false := by
  unfold plcTo; simp
theorem place_mem (l : List UInt8) (p : Int) : placeB l p = true ↔ p ∈ splitI l := by
  unfold placeB
  rcases Bool.eq_false_or_eq_true (validL l) with h | h
  · rw [splitI_ok h]
    simp only [h, Bool.and_true, Bool.and_eq_true, decide_eq_true_eq, Bool.or_eq_true, Bool.not_eq_true', List.mem_append, List.mem_map, List.mem_singleton]
    constructor
    · rintro ⟨⟨h0, h1⟩, h2⟩
      by_cases he : p = l.length
      · exact .inr he
      · left
        refine ⟨p.toNat, (mem_plcTo _ _ _).2 ⟨by omega, ?_⟩, by simp; omega⟩
        rcases h2 with h2 | h2
        · exact absurd h2 he
        · exact h2
    · rintro (⟨a, ha, rfl⟩ | rfl)
      · obtain ⟨h1, h2⟩ := (mem_plcTo _ _ _).1 ha
        refine ⟨⟨by simp, by simp; omega⟩, .inr (by simpa using h2)⟩
      · simp
  · rw [splitI_bad h]; simp [h]
theorem findF_nonneg (xs : List Int) (x : Int) : decide (0 ≤ findF xs x 0) = decide (x ∈ xs) := by
  by_cases h : x ∈ xs
  · obtain ⟨a, b, rfl, hn⟩ := List.eq_append_cons_of_mem h
    rw [findF_some a b x 0 hn]; simp
  · rw [findF_none xs x 0 h]; simp [h]
theorem place_find (l : List UInt8) (p : Int) : decide (0 ≤ findF (splitI l) p 0) = placeB l p := by
  rw [findF_nonneg, Bool.eq_iff_iff, decide_eq_true_eq]; exact (place_mem l p).symm

end Go.Proofs.Ythjlhbblflmajaa
/- The places of a text's runes, one by one: plain facts. -/
namespace Go.Proofs.Ythjlhbblflmajaa
open Go.RowKit
set_option linter.unusedVariables false
set_option linter.unusedSimpArgs false
theorem valid_drop : ∀ (m : Nat) (l : List UInt8) (k : Nat), l.length ≤ m → validL l = true → k ≤ l.length → (k = l.length ∨ inn (byL l k) = false) → validL (l.drop k) = true
  | m, l, k, hm, hv, hk, hb => by
    rcases Nat.eq_zero_or_pos k with h0 | h0
    · subst h0; simpa using hv
    · have hl : l.length ≠ 0 := by omega
      have hz := valid_sz hv hl
      have hle := szL_le l
      by_cases hkn : k < szL l
      · have := inn_rest hz h0 hkn
        rcases hb with hb | hb
        · omega
        · rw [hb] at this; exact absurd this (by simp)
      · match m, hm with
        | 0, hm => omega
        | m + 1, hm =>
          have := valid_drop m (l.drop (szL l)) (k - szL l) (by rw [List.length_drop]; omega) (by rw [← validL_step hl hz]; exact hv) (by rw [List.length_drop]; omega) (by
            rw [List.length_drop, byL_drop, Nat.add_sub_cancel' (by omega)]
            rcases hb with hb | hb
            · exact .inl (by omega)
            · exact .inr hb)
          rw [List.drop_drop, Nat.add_sub_cancel' (by omega)] at this
          exact this
theorem valid_at {l : List UInt8} {k : Nat} (h : placeB l k = true) : validL (l.drop k) = true ∧ k ≤ l.length ∧ validL l = true := by
  unfold placeB at h
  simp only [Bool.and_eq_true, decide_eq_true_eq, Bool.or_eq_true, Bool.not_eq_true', Int.toNat_natCast] at h
  refine ⟨valid_drop l.length l k (Nat.le_refl _) h.2 (by omega) ?_, by omega, h.2⟩
  rcases h.1.2 with h | h
  · exact .inl (by omega)
  · exact .inr h
theorem sz_at {l : List UInt8} {k : Nat} (h : placeB l k = true) (hk : k < l.length) : szL (l.drop k) ≠ 0 ∧ k + szL (l.drop k) ≤ l.length := by
  have h1 := valid_at h
  have h2 := szL_le (l.drop k)
  rw [List.length_drop] at h2
  exact ⟨valid_sz h1.1 (by rw [List.length_drop]; omega), by omega⟩
theorem place_mk {l : List UInt8} {k : Nat} (hv : validL l = true) (hk : k ≤ l.length) (hb : k = l.length ∨ inn (byL l k) = false) : placeB l k = true := by
  unfold placeB
  simp only [Bool.and_eq_true, decide_eq_true_eq, Bool.or_eq_true, Bool.not_eq_true', Int.toNat_natCast]
  refine ⟨⟨⟨by omega, by omega⟩, ?_⟩, hv⟩
  rcases hb with h | h
  · exact .inl (by omega)
  · exact .inr h
theorem place_next {l : List UInt8} {k : Nat} (h : placeB l k = true) (hk : k < l.length) : placeB l ((k + szL (l.drop k) : Nat) : Int) = true := by
  obtain ⟨h1, _, h3⟩ := valid_at h
  obtain ⟨hz, hle⟩ := sz_at h hk
  refine place_mk h3 hle ?_
  by_cases he : k + szL (l.drop k) = l.length
  · exact .inl he
  · right
    rw [validL_step (by rw [List.length_drop]; omega) hz, List.drop_drop] at h1
    have := valid_first h1 (by rw [List.length_drop]; omega)
    rw [byL_drop] at this; simpa using this
def frm (l : List UInt8) (k : Nat) : List Int := ((List.range' k (l.length - k)).filter fun p => !inn (byL l p)).map Int.ofNat ++ [(l.length : Int)]
theorem split_at {l : List UInt8} (hv : validL l = true) (k : Nat) (hk : k ≤ l.length) : splitI l = (plcTo l k).map Int.ofNat ++ frm l k := by
  rw [splitI_ok hv]
  unfold frm plcTo
  have : List.range l.length = List.range k ++ List.range' k (l.length - k) := by
    have := @List.range'_append_1 0 k (l.length - k)
    rw [Nat.add_sub_cancel' hk, Nat.zero_add] at this
    rw [List.range_eq_range', List.range_eq_range', this]
  rw [this, List.filter_append, List.map_append, List.append_assoc]
theorem frm_end (l : List UInt8) : frm l l.length = [(l.length : Int)] := by simp [frm]
theorem frm_step {l : List UInt8} {k : Nat} (h : placeB l k = true) (hk : k < l.length) : frm l k = (k : Int) :: frm l (k + szL (l.drop k)) := by
  obtain ⟨_, _, hv⟩ := valid_at h
  obtain ⟨hz, hle⟩ := sz_at h hk
  have h1 := split_at hv k (by omega)
  have h2 := split_at hv (k + szL (l.drop k)) hle
  rw [plcTo_add l k _ rfl hz, List.map_append, List.append_assoc] at h2
  rw [h1] at h2
  simpa using List.append_cancel_left h2
theorem frm_head {l : List UInt8} {k : Nat} (h : placeB l k = true) : ∃ r, frm l k = (k : Int) :: r := by
  by_cases hk : k < l.length
  · exact ⟨_, frm_step h hk⟩
  · have := (valid_at h).2.1
    have hk' : k = l.length := by omega
    subst hk'; exact ⟨[], frm_end l⟩
theorem find_at {l : List UInt8} {k : Nat} (h : placeB l k = true) : findF (splitI l) k 0 = ((plcTo l k).length : Int) := by
  obtain ⟨_, hk, hv⟩ := valid_at h
  obtain ⟨r, hr⟩ := frm_head h
  rw [split_at hv k hk, hr, findF_some _ _ _ _ (by
    intro hm
    simp only [List.mem_map] at hm
    obtain ⟨a, ha, hb⟩ := hm
    have := (mem_plcTo _ _ _).1 ha
    simp at hb; omega)]
  simp
theorem find_bad {l : List UInt8} {p : Int} (h : placeB l p = false) : findF (splitI l) p 0 = -1 := by
  refine findF_none _ _ _ fun hm => ?_
  rw [(place_mem l p).2 hm] at h; exact absurd h (by simp)
theorem find_range (xs : List Int) (x : Int) : -1 ≤ findF xs x 0 ∧ findF xs x 0 < xs.length := by
  by_cases h : x ∈ xs
  · obtain ⟨a, b, rfl, hn⟩ := List.eq_append_cons_of_mem h
    rw [findF_some a b x 0 hn]; simp; omega
  · rw [findF_none xs x 0 h]; omega
theorem next_end {l : List UInt8} {k : Nat} (h : placeB l k = true) (hk : k = l.length) : (splitI l).length = (plcTo l k).length + 1 ∧ nextI l k = -1 := by
  obtain ⟨_, _, hv⟩ := valid_at h
  subst hk
  rw [split_at hv _ (Nat.le_refl _), frm_end]
  refine ⟨by simp, ?_⟩
  unfold nextI; rw [if_neg (by simp)]
theorem next_at {l : List UInt8} {k : Nat} (h : placeB l k = true) (hk : k < l.length) : (plcTo l k).length + 1 < (splitI l).length ∧ (splitI l).getD ((plcTo l k).length + 1) 0 = nextI l k := by
  obtain ⟨_, _, hv⟩ := valid_at h
  obtain ⟨r, hr⟩ := frm_head (place_next h hk)
  rw [split_at hv k (by omega), frm_step h hk, hr]
  refine ⟨by simp, ?_⟩
  unfold nextI
  rw [if_pos ⟨h, by omega⟩, Int.toNat_natCast]
  rw [List.getD_eq_getElem?_getD, List.getElem?_append_right (by simp)]
  simp
theorem prev_list (l : List UInt8) (h0 : inn (byL l 0) = false) : ∀ j, ∃ xs, plcTo l (j + 1) = xs ++ [prevFrom l j]
  | 0 => ⟨[], by rw [plcTo_succ, h0]; simp [plcTo, prevFrom]⟩
  | j + 1 => by
    rw [plcTo_succ]
    rcases Bool.eq_false_or_eq_true (inn (byL l (j + 1))) with h | h
    · obtain ⟨xs, hx⟩ := prev_list l h0 j
      exact ⟨xs, by rw [h, hx]; simp [prevFrom, h]⟩
    · exact ⟨plcTo l (j + 1), by rw [h]; simp [prevFrom, h]⟩
theorem prev_at {l : List UInt8} {k : Nat} (h : placeB l k = true) (hk : 0 < k) : 1 ≤ (plcTo l k).length ∧ (splitI l).getD ((plcTo l k).length - 1) 0 = prevI l k ∧ (plcTo l k).length - 1 < (splitI l).length := by
  obtain ⟨_, hle, hv⟩ := valid_at h
  obtain ⟨j, rfl⟩ : ∃ j, k = j + 1 := ⟨k - 1, by omega⟩
  obtain ⟨xs, hx⟩ := prev_list l (valid_first hv (by omega)) j
  rw [split_at hv _ hle, hx]
  unfold prevI
  rw [if_pos ⟨h, by omega⟩]
  have : ((j + 1 : Nat) : Int).toNat - 1 = j := by omega
  rw [this]
  refine ⟨by simp, ?_, by simp⟩
  simp [List.getD_eq_getElem?_getD]
theorem prev_zero {l : List UInt8} (k : Int) (hk : k = 0) : prevI l k = -1 ∧ (plcTo l k.toNat).length = 0 := by
  subst hk
  exact ⟨by unfold prevI; rw [if_neg (by simp)], by simp [plcTo]⟩
theorem plc_cnt (l : List UInt8) : ∀ k, k ≤ l.length → (plcTo l k).length = cntL (l.take k)
  | 0, _ => by simp [plcTo, cntL]
  | k + 1, h => by
    rw [plcTo_succ, cnt_succ l k (by omega), List.length_append, plc_cnt l k (by omega)]
    split <;> simp
theorem split_count (l : List UInt8) : (if (splitI l).length = 0 then (0 : Int) else (splitI l).length - 1) = countI l := by
  unfold countI
  rcases Bool.eq_false_or_eq_true (validL l) with h | h
  · rw [splitI_ok h, h]
    have := plc_cnt l l.length (Nat.le_refl _)
    rw [List.take_length] at this
    simp [this]
  · rw [splitI_bad h, h]; simp
def runeL (l : List UInt8) (p : Int) : List UInt8 := if placeB l p = true ∧ p ≠ l.length then (l.drop p.toNat).take (szL (l.drop p.toNat)) else []
theorem rune_bad {l : List UInt8} {p : Int} (h : nextI l p < 0) : runeL l p = [] := by
  unfold nextI at h; unfold runeL
  by_cases hc : placeB l p = true ∧ p ≠ l.length
  · rw [if_pos hc] at h
    have := hc.1; unfold placeB at this
    simp only [Bool.and_eq_true, decide_eq_true_eq] at this
    omega
  · rw [if_neg hc]
theorem rune_ok (s : ByteArray) (p : Int) (h : 0 ≤ nextI (ls s) p) : ∃ k n : Nat, p = k ∧ nextI (ls s) p = ((k + n : Nat) : Int) ∧ k + n ≤ s.size ∧ 1 ≤ n ∧ (⟨(runeL (ls s) p).toArray⟩ : ByteArray) = s.extract k (k + n) := by
  by_cases hc : placeB (ls s) p = true ∧ p ≠ (ls s).length
  · rcases place_cases s p with hp | ⟨k, rfl, hk, hp, hv⟩
    · rw [hp] at hc; exact absurd hc.1 (by simp)
    · have hlt : k < (ls s).length := by have := hc.2; rw [ls_len] at this ⊢; omega
      obtain ⟨hz, hle⟩ := sz_at hp hlt
      refine ⟨k, szL ((ls s).drop k), rfl, ?_, by rw [ls_len] at hle; exact hle, by omega, ?_⟩
      · unfold nextI; rw [if_pos hc, Int.toNat_natCast]; simp
      · unfold runeL
        rw [if_pos hc, Int.toNat_natCast, Lib.extract_eq]
        simp
  · unfold nextI at h; rw [if_neg hc] at h; omega

end Go.Proofs.Ythjlhbblflmajaa
/- Texts line by line: plain facts. -/
namespace Go.Proofs.Ythjlhbblflmajaa
open Go.RowKit
set_option linter.unusedVariables false
set_option linter.unusedSimpArgs false
def lnsF : List UInt8 → Nat → Nat → List (Nat × Nat)
  | [], st, i => [(st, i)]
  | b :: r, st, i => if b = 10 then (st, i) :: lnsF r (i + 1) (i + 1) else lnsF r st (i + 1)
def lns (l : List UInt8) : List (Nat × Nat) := lnsF l 0 0
def lst (l : List UInt8) : Nat → Nat
  | 0 => 0
  | i + 1 => if byL l i = 10 then i + 1 else lst l i
def tens (l : List UInt8) : Nat := l.count 10
def fds (l : List UInt8) (i : Nat) : Nat := tens (l.take i)
theorem tens_le (l : List UInt8) : tens l ≤ l.length := List.count_le_length
theorem byL_ten {l : List UInt8} {j : Nat} (h : j < l.length) : (byL l j = 10) = (l[j] = 10) := by
  unfold byL; rw [List.getD_eq_getElem?_getD, List.getElem?_eq_getElem h]
  simp only [Option.getD_some, eq_iff_iff]
  constructor
  · intro e; apply UInt8.toNat_inj.1; simpa using (by omega : l[j].toNat = 10)
  · intro e; rw [e]; rfl
theorem lnsF_step (l : List UInt8) (st j : Nat) (h : j < l.length) : lnsF (l.drop j) st j = if byL l j = 10 then (st, j) :: lnsF (l.drop (j + 1)) (j + 1) (j + 1) else lnsF (l.drop (j + 1)) st (j + 1) := by
  rw [List.drop_eq_getElem_cons h, lnsF]; simp only [byL_ten h]
theorem lnsF_end (l : List UInt8) (st j : Nat) (h : l.length ≤ j) : lnsF (l.drop j) st j = [(st, j)] := by
  rw [List.drop_eq_nil_of_le h]; rfl
theorem lnsF_len : ∀ (r : List UInt8) (st i : Nat), (lnsF r st i).length = r.count 10 + 1
  | [], _, _ => rfl
  | b :: r, st, i => by
    by_cases h : b = 10
    · subst h; simp [lnsF, lnsF_len r]
    · rw [lnsF, if_neg h, lnsF_len r, List.count_cons_of_ne h]
theorem lns_len (l : List UInt8) : (lns l).length = tens l + 1 := lnsF_len l 0 0
theorem fds_le (l : List UInt8) (i : Nat) : fds l i ≤ i := Nat.le_trans List.count_le_length (by simp; omega)
theorem fds_mono (l : List UInt8) (i : Nat) : fds l i ≤ tens l := List.Sublist.count_le _ (List.take_sublist _ _)
theorem fds_succ (l : List UInt8) (i : Nat) (h : i < l.length) : fds l (i + 1) = fds l i + if byL l i = 10 then 1 else 0 := by
  unfold fds tens; rw [List.take_succ_eq_append_getElem h, List.count_append]; simp only [byL_ten h]
  by_cases e : l[i] = 10 <;> simp [e, List.count_singleton]
theorem fds_all (l : List UInt8) : fds l l.length = tens l := by unfold fds; rw [List.take_length]
theorem lst_le (l : List UInt8) : ∀ i, lst l i ≤ i
  | 0 => Nat.le_refl _
  | i + 1 => by rw [lst]; have := lst_le l i; split <;> omega
theorem lns_split (l : List UInt8) : ∀ i, i ≤ l.length → ∃ a, lns l = a ++ lnsF (l.drop i) (lst l i) i ∧ a.length = fds l i
  | 0, _ => ⟨[], by simp [lns, lst], by simp [fds, tens]⟩
  | i + 1, h => by
    obtain ⟨a, ha, hl⟩ := lns_split l i (by omega)
    rw [lnsF_step l _ i (by omega)] at ha
    rw [lst, fds_succ l i (by omega)]
    by_cases e : byL l i = 10
    · simp only [if_pos e] at ha ⊢
      exact ⟨a ++ [(lst l i, i)], by rw [ha]; simp, by simp [hl]⟩
    · simp only [if_neg e] at ha ⊢
      exact ⟨a, ha, by omega⟩
theorem lnsF_head : ∀ (r : List UInt8) (st i : Nat), ∃ e q, lnsF r st i = (st, e) :: q ∧ i ≤ e ∧ e ≤ i + r.length
  | [], st, i => ⟨i, [], rfl, by omega, by simp⟩
  | b :: r, st, i => by
    by_cases h : b = 10
    · exact ⟨i, _, by rw [lnsF, if_pos h], by omega, by omega⟩
    · obtain ⟨e, q, h1, h2, h3⟩ := lnsF_head r st (i + 1)
      exact ⟨e, q, by rw [lnsF, if_neg h]; exact h1, by omega, by simp; omega⟩
theorem line_of (l : List UInt8) (p : Nat) (h : p ≤ l.length) : ∃ e, (lns l)[fds l p]? = some (lst l p, e) ∧ p ≤ e ∧ e ≤ l.length := by
  obtain ⟨a, ha, hl⟩ := lns_split l p h
  obtain ⟨e, q, h1, h2, h3⟩ := lnsF_head (l.drop p) (lst l p) p
  rw [List.length_drop] at h3
  refine ⟨e, ?_, h2, by omega⟩
  rw [ha, h1, ← hl]; simp
theorem indexByte_none : ∀ (r : List UInt8) (st i : Nat), Lib.indexByte r 10 < 0 → lnsF r st i = [(st, i + r.length)]
  | [], _, _, _ => by simp [lnsF]
  | b :: r, st, i, h => by
    have hg := Lib.indexByte_ge r 10
    unfold Lib.indexByte at h
    by_cases hb : b = 10
    · simp [hb] at h
    · have hb' : (b == 10) = false := by simpa using hb
      rw [hb'] at h
      rw [lnsF, if_neg hb, indexByte_none r st (i + 1) ?_]
      · simp; omega
      · by_cases e : Lib.indexByte r 10 == -1
        · have : Lib.indexByte r 10 = -1 := by simpa using e
          omega
        · simp [e] at h
          have : ¬ Lib.indexByte r 10 = -1 := by simpa using e
          omega
theorem indexByte_some : ∀ (r : List UInt8) (st i : Nat) (n : Nat), Lib.indexByte r 10 = n → n < r.length ∧ lnsF r st i = (st, i + n) :: lnsF (r.drop (n + 1)) (i + n + 1) (i + n + 1)
  | [], _, _, n, h => by (simp [Lib.indexByte] at h) <;> omega
  | b :: r, st, i, n, h => by
    have hg := Lib.indexByte_ge r 10
    unfold Lib.indexByte at h
    by_cases hb : b = 10
    · have : n = 0 := by simp [hb] at h; omega
      subst this
      simp [lnsF, hb]
    · have hb' : (b == 10) = false := by simpa using hb
      rw [hb'] at h
      by_cases e : Lib.indexByte r 10 == -1
      · (simp [e] at h) <;> omega
      · simp [e] at h
        have e' : ¬ Lib.indexByte r 10 = -1 := by simpa using e
        obtain ⟨m, rfl⟩ : ∃ m, n = m + 1 := ⟨n - 1, by omega⟩
        obtain ⟨h1, h2⟩ := indexByte_some r st (i + 1) m (by omega)
        refine ⟨by simp; omega, ?_⟩
        rw [lnsF, if_neg hb, h2]
        simp [Nat.add_assoc, Nat.add_comm, Nat.add_left_comm]
theorem line_next (l : List UInt8) (i : Nat) (h : i ≤ l.length) (n : Nat) (hn : Lib.indexByte (l.drop i) 10 = n) : i + n < l.length ∧ lnsF (l.drop i) i i = (i, i + n) :: lnsF (l.drop (i + n + 1)) (i + n + 1) (i + n + 1) := by
  obtain ⟨h1, h2⟩ := indexByte_some (l.drop i) i i n hn
  rw [List.length_drop] at h1
  rw [List.drop_drop] at h2
  exact ⟨by omega, by rw [h2, Nat.add_assoc]⟩
theorem line_last (l : List UInt8) (i : Nat) (h : i ≤ l.length) (hn : Lib.indexByte (l.drop i) 10 < 0) : lnsF (l.drop i) i i = [(i, l.length)] := by
  rw [indexByte_none _ _ _ hn, List.length_drop, Nat.add_sub_cancel' h]

def lcountI (l : List UInt8) : Int := if validL l then (tens l : Int) + 1 else 0
def lineI (l : List UInt8) (k : Int) : Option (Nat × Nat) := if validL l = true ∧ 0 ≤ k then (lns l)[k.toNat]? else none
def startI (l : List UInt8) (k : Int) : Int := match lineI l k with | some x => x.1 | none => -1
def endI (l : List UInt8) (k : Int) : Int := match lineI l k with | some x => x.2 | none => -1
def ofI (l : List UInt8) (p : Int) : Int := if p < 0 ∨ (l.length : Int) < p ∨ validL l = false then -1 else fds l p.toNat
theorem lines_le (l : List UInt8) : ∀ x ∈ lns l, x.1 ≤ x.2 ∧ x.2 ≤ l.length := by
  have : ∀ (r : List UInt8) (st i : Nat), st ≤ i → ∀ x ∈ lnsF r st i, x.1 ≤ x.2 ∧ x.2 ≤ i + r.length := by
    intro r
    induction r with
    | nil => intro st i h x hx; simp [lnsF] at hx; subst hx; exact ⟨h, by simp⟩
    | cons b r ih =>
      intro st i h x hx
      rw [lnsF] at hx
      split at hx
      · rcases List.mem_cons.1 hx with rfl | hx
        · exact ⟨h, by simp⟩
        · have := ih (i + 1) (i + 1) (Nat.le_refl _) x hx; simp; omega
      · have := ih st (i + 1) (by omega) x hx; simp; omega
  intro x hx
  have := this l 0 0 (Nat.le_refl _) x hx
  omega
theorem lineI_le {l : List UInt8} {k : Int} {x : Nat × Nat} (h : lineI l k = some x) : x.1 ≤ x.2 ∧ x.2 ≤ l.length ∧ validL l = true ∧ 0 ≤ k ∧ (lns l)[k.toNat]? = some x := by
  unfold lineI at h
  split at h
  · rename_i hc
    have := lines_le l x (List.mem_of_getElem? h)
    exact ⟨this.1, this.2, hc.1, hc.2, h⟩
  · cases h
theorem start_of {l : List UInt8} {p : Nat} (h : p ≤ l.length) (hv : validL l = true) : ofI l p = fds l p ∧ startI l (ofI l p) = lst l p ∧ ∃ e : Nat, endI l (ofI l p) = e ∧ p ≤ e ∧ e ≤ l.length := by
  have ho : ofI l p = fds l p := by unfold ofI; rw [if_neg (by simp [hv]; omega), Int.toNat_natCast]
  obtain ⟨e, h1, h2, h3⟩ := line_of l p h
  have hl : lineI l (fds l p) = some (lst l p, e) := by unfold lineI; rw [if_pos ⟨hv, by omega⟩, Int.toNat_natCast]; exact h1
  rw [ho]
  exact ⟨rfl, by unfold startI; rw [hl], e, by unfold endI; rw [hl], h2, h3⟩

end Go.Proofs.Ythjlhbblflmajaa
/- Columns, and places in lines: plain facts. -/
namespace Go.Proofs.Ythjlhbblflmajaa
open Go.RowKit
set_option linter.unusedVariables false
set_option linter.unusedSimpArgs false
def upL (l : List UInt8) (p : Nat) : List UInt8 := (l.drop (lst l p)).take (p - lst l p)
def colI (l : List UInt8) (p : Int) : Int := if placeB l p = true then countI (upL l p.toNat) else -1
def rowL (l : List UInt8) (x : Nat × Nat) : List UInt8 := (l.drop x.1).take (x.2 - x.1)
def atI (l : List UInt8) (k col : Int) : Int := match lineI l k with
  | none => -1
  | some x => if offI (rowL l x) (max col 0) < 0 then x.2 else x.1 + offI (rowL l x) (max col 0)
def endsB (l : List UInt8) (p : Nat) : Bool := decide (p = l.length) || decide (byL l p = 10)
def downTo (l : List UInt8) : Nat → Nat
  | 0 => 0
  | k + 1 => if placeB l ((k + 1 : Nat) : Int) = true then k + 1 else downTo l k
def cutI (l : List UInt8) (p : Int) : Nat := (min (max p 0) l.length).toNat
def clampI (l : List UInt8) (p : Int) : Int :=
  if validL l = true then
    let q := downTo l (cutI l p)
    if endsB l q = true ∧ lst l q < q then prevI l q else q
  else 0
def normalB (l : List UInt8) (p : Int) : Bool := placeB l p && (!endsB l p.toNat || decide (lst l p.toNat = p.toNat))
theorem downTo_le (l : List UInt8) : ∀ k, downTo l k ≤ k
  | 0 => Nat.le_refl _
  | k + 1 => by rw [downTo]; have := downTo_le l k; split <;> omega
theorem place_zero {l : List UInt8} (hv : validL l = true) : placeB l ((0 : Nat) : Int) = true := by
  refine place_mk hv (by omega) ?_
  rcases Nat.eq_zero_or_pos l.length with h | h
  · exact .inl h.symm
  · exact .inr (valid_first hv (by omega))
theorem downTo_place {l : List UInt8} (hv : validL l = true) : ∀ k, placeB l (downTo l k : Nat) = true
  | 0 => place_zero hv
  | k + 1 => by
    rw [downTo]
    split
    · assumption
    · exact downTo_place hv k
theorem downTo_hit {l : List UInt8} {k : Nat} (h : placeB l k = true) : downTo l k = k := by
  cases k with
  | zero => rfl
  | succ k => rw [downTo, if_pos h]
theorem downTo_miss {l : List UInt8} {k : Nat} (h : placeB l ((k + 1 : Nat) : Int) = false) : downTo l (k + 1) = downTo l k := by
  rw [downTo, if_neg (by rw [h]; simp)]
theorem offF_lo : ∀ (r : List UInt8) (i : Nat) (k : Int), -1 ≤ offF r i k ∧ offF r i k ≤ i + r.length
  | [], i, k => by unfold offF; split <;> simp <;> omega
  | b :: r, i, k => by
    have h1 := offF_lo r (i + 1) k
    have h2 := offF_lo r (i + 1) (k - 1)
    rw [offF]
    simp only [List.length_cons]
    split
    · omega
    · split <;> omega
theorem offI_lo (r : List UInt8) (k : Int) : -1 ≤ offI r k ∧ offI r k ≤ r.length := by
  unfold offI; have := offF_lo r 0 k; split <;> omega
theorem rowL_len {l : List UInt8} {x : Nat × Nat} (h1 : x.1 ≤ x.2) (h2 : x.2 ≤ l.length) : (rowL l x).length = x.2 - x.1 := by
  unfold rowL; rw [List.length_take, List.length_drop]; omega
theorem lst_last (s : ByteArray) (p : Nat) (hp : p ≤ s.size) : Lib.lastIndexByte (s.extract 0 p) 10 + 1 = lst (ls s) p := by
  have key : ∀ (k : Nat), k ≤ p → Lib.lastIdx (s.extract 0 p) 10 k + 1 = lst (ls s) k := by
    intro k
    induction k with
    | zero => intro _; simp [Lib.lastIdx, lst]
    | succ k ih =>
      intro hk
      have hb : (((s.extract 0 p).data[k]!).toNat : Int) = byL (ls s) k := by
        unfold byL
        have h1 : k < (s.extract 0 p).data.size := by
          have : (s.extract 0 p).size = p := by simp; omega
          exact (by rw [← this] at hk; exact hk)
        rw [getElem!_pos (s.extract 0 p).data k h1]
        have h2 : k < (ls s).length := by rw [ls_len]; omega
        rw [List.getD_eq_getElem?_getD, List.getElem?_eq_getElem h2, Option.getD_some]
        have h3 : (s.extract 0 p).data.toList = ((ls s).drop 0).take (p - 0) := Lib.extract_data s 0 p
        have h4 : (s.extract 0 p).data[k] = (s.extract 0 p).data.toList[k]'(by simpa using h1) := by simp
        rw [h4]
        congr 2
        simp only [h3]
        simp
      unfold Lib.lastIdx
      rw [lst, hb]
      by_cases h : byL (ls s) k = 10
      · simp [h]
      · simp [h]; exact ih (by omega)
  have hsz : (s.extract 0 p).size = p := by simp; omega
  unfold Lib.lastIndexByte
  rw [hsz]
  exact key p (Nat.le_refl _)

end Go.Proofs.Ythjlhbblflmajaa
/- Classes of signs: plain facts. -/
namespace Go.Proofs.Ythjlhbblflmajaa
open Go.RowKit
set_option linter.unusedVariables false
set_option linter.unusedSimpArgs false
def lettB (b : Int) : Bool := (decide (97 ≤ b) && decide (b ≤ 122)) || (decide (65 ≤ b) && decide (b ≤ 90))
def ofB (b : Int) : Int := if b = 10 then 4 else if b = 32 ∨ b = 9 then 1 else if lettB b = true ∨ (48 ≤ b ∧ b ≤ 57) ∨ b = 95 ∨ 128 ≤ b then 2 else 3
def clsI (l : List UInt8) (p : Int) : Int := if placeB l p = true ∧ p ≠ l.length then ofB (byL l p.toNat) else 0
def bigI (l : List UInt8) (p : Int) : Int := if clsI l p = 3 then 2 else clsI l p
def kindI (l : List UInt8) (p : Int) (big : Bool) : Int := if big then bigI l p else clsI l p
theorem ofB_bd (b : Int) : 1 ≤ ofB b ∧ ofB b ≤ 4 := by unfold ofB; repeat' (first | omega | split)
theorem clsI_bd (l : List UInt8) (p : Int) : 0 ≤ clsI l p ∧ clsI l p ≤ 4 := by unfold clsI; have := ofB_bd (byL l p.toNat); split <;> omega
theorem bigI_bd (l : List UInt8) (p : Int) : 0 ≤ bigI l p ∧ bigI l p ≤ 4 := by unfold bigI; have := clsI_bd l p; split <;> omega
theorem kindI_bd (l : List UInt8) (p : Int) (big : Bool) : 0 ≤ kindI l p big ∧ kindI l p big ≤ 4 := by unfold kindI; have := clsI_bd l p; have := bigI_bd l p; split <;> omega
def dnI (l : List UInt8) (c : Int) (big : Bool) (lo : Nat) : Nat → Nat → Nat
  | 0, f => f
  | i + 1, f => if i < lo then f else if placeB l i = true then (if kindI l i big = c then dnI l c big lo i i else f) else dnI l c big lo i f
def upI (l : List UInt8) (c : Int) (big : Bool) : Nat → Nat → Int → Int
  | 0, _, t => t
  | d + 1, i, t => if placeB l i = true then (if kindI l i big = c then upI l c big d (i + 1) (nextI l i) else t) else upI l c big d (i + 1) t
def runI (l : List UInt8) (p : Int) (big : Bool) : Int × Int :=
  let c := kindI l p big
  if c = 0 ∨ c = 4 then (-1, -1) else ((dnI l c big (startI l (ofI l p)).toNat p.toNat p.toNat : Nat), upI l c big ((endI l (ofI l p)).toNat - p.toNat) p.toNat p)
theorem place_byte {l : List UInt8} {k : Nat} (hv : validL l = true) (hk : k < l.length) : placeB l k = !inn (byL l k) := by
  unfold placeB
  simp only [hv, Bool.and_true, Int.toNat_natCast]
  have a : decide ((0 : Int) ≤ k) = true := by simp
  have b : decide ((k : Int) ≤ l.length) = true := by simp; omega
  have c : decide ((k : Int) = l.length) = false := by simp; omega
  rw [a, b, c]; simp
theorem prev_gap {l : List UInt8} (hv : validL l = true) : ∀ (j : Nat), j < l.length → prevFrom l j ≤ j ∧ placeB l (prevFrom l j) = true ∧ ∀ i, prevFrom l j < i → i ≤ j → placeB l i = false
  | 0, _ => ⟨Nat.le_refl _, place_zero hv, fun i h1 h2 => by simp [prevFrom] at h1; omega⟩
  | j + 1, h => by
    rcases Bool.eq_false_or_eq_true (inn (byL l (j + 1))) with e | e
    · obtain ⟨h1, h2, h3⟩ := prev_gap hv j (by omega)
      have e2 : prevFrom l (j + 1) = prevFrom l j := by simp [prevFrom, e]
      rw [e2]
      refine ⟨by omega, h2, fun i a b => ?_⟩
      by_cases hij : i = j + 1
      · subst hij; rw [place_byte hv h, e]; rfl
      · exact h3 i a (by omega)
    · have e2 : prevFrom l (j + 1) = j + 1 := by simp [prevFrom, e]
      rw [e2]
      exact ⟨Nat.le_refl _, by rw [place_byte hv h, e]; rfl, fun i a b => by omega⟩
theorem prevI_at {l : List UInt8} {k : Nat} (h : placeB l k = true) (hk : 0 < k) : prevI l k = (prevFrom l (k - 1) : Nat) := by
  unfold prevI; rw [if_pos ⟨h, by omega⟩, Int.toNat_natCast]
theorem dnI_gap (l : List UInt8) (c : Int) (big : Bool) (lo q f : Nat) (hq : lo ≤ q) (hg : ∀ i, q < i → i < f → placeB l i = false) : ∀ i, q + 1 ≤ i → i ≤ f → dnI l c big lo i f = dnI l c big lo (q + 1) f
  | 0, h, _ => by omega
  | i + 1, h, hi => by
    by_cases e : i = q
    · subst e; rfl
    · rw [dnI, if_neg (by omega), if_neg (by rw [hg i (by omega) (by omega)]; simp)]
      exact dnI_gap l c big lo q f hq hg i (by omega) (by omega)
theorem dnI_step {l : List UInt8} {c : Int} {big : Bool} {lo f : Nat} (hv : validL l = true) (hf : f ≤ l.length) (hl : lo < f) (hlo : placeB l lo = true) (hpf : placeB l f = true) :
    lo ≤ prevFrom l (f - 1) ∧ prevFrom l (f - 1) < f ∧ placeB l (prevFrom l (f - 1)) = true ∧ dnI l c big lo f f = if kindI l (prevI l f) big = c then dnI l c big lo (prevFrom l (f - 1)) (prevFrom l (f - 1)) else f := by
  obtain ⟨h1, h2, h3⟩ := prev_gap hv (f - 1) (by omega)
  have h4 : lo ≤ prevFrom l (f - 1) := by
    rcases Nat.lt_or_ge (prevFrom l (f - 1)) lo with h | h
    · rw [h3 lo h (by omega)] at hlo; exact absurd hlo (by simp)
    · exact h
  refine ⟨h4, by omega, h2, ?_⟩
  rw [dnI_gap l c big lo _ f h4 (fun i a b => h3 i a (by omega)) f (by omega) (Nat.le_refl _)]
  rw [dnI, if_neg (by omega), if_pos h2, prevI_at hpf (by omega)]
theorem dnI_end (l : List UInt8) (c : Int) (big : Bool) (lo : Nat) : dnI l c big lo lo lo = lo := by
  cases lo with
  | zero => rfl
  | succ n => rw [dnI, if_pos (by omega)]
theorem next_gap {l : List UInt8} {k : Nat} (h : placeB l k = true) (hk : k < l.length) : ∃ n : Nat, nextI l k = n ∧ k < n ∧ n ≤ l.length ∧ placeB l n = true ∧ ∀ i, k < i → i < n → placeB l i = false := by
  obtain ⟨hz, hle⟩ := sz_at h hk
  obtain ⟨_, _, hv⟩ := valid_at h
  refine ⟨k + szL (l.drop k), ?_, by omega, hle, place_next h hk, fun i a b => ?_⟩
  · unfold nextI; rw [if_pos ⟨h, by omega⟩, Int.toNat_natCast]; simp
  · have := inn_rest hz (j := i - k) (by omega) (by omega)
    rw [byL_drop, Nat.add_sub_cancel' (by omega)] at this
    rw [place_byte hv (by omega), this]; rfl
theorem upI_gap (l : List UInt8) (c : Int) (big : Bool) (n : Nat) (t : Int) : ∀ (d i : Nat), i ≤ n → n - i ≤ d → (∀ j, i ≤ j → j < n → placeB l j = false) → upI l c big d i t = upI l c big (d - (n - i)) n t
  | d, i, hi, hd, hg => by
    by_cases e : i = n
    · subst e; simp
    · match d, hd with
      | 0, hd => omega
      | d + 1, hd =>
        rw [upI, if_neg (by rw [hg i (Nat.le_refl _) (by omega)]; simp), upI_gap l c big n t d (i + 1) (by omega) (by omega) (fun j a b => hg j (by omega) b)]
        congr 1; omega
theorem upI_step {l : List UInt8} {c : Int} {big : Bool} {hi t : Nat} (hh : hi ≤ l.length) (ht : t < hi) (hph : placeB l hi = true) (hpt : placeB l t = true) :
    ∃ n : Nat, nextI l t = n ∧ t < n ∧ n ≤ hi ∧ placeB l n = true ∧ upI l c big (hi - t) t t = if kindI l t big = c then upI l c big (hi - n) n n else (t : Int) := by
  obtain ⟨n, h1, h2, h3, h4, h5⟩ := next_gap hpt (by omega)
  have h6 : n ≤ hi := by
    rcases Nat.lt_or_ge hi n with h | h
    · rw [h5 hi ht h] at hph; exact absurd hph (by simp)
    · exact h
  refine ⟨n, h1, h2, h6, h4, ?_⟩
  rw [show hi - t = (hi - t - 1) + 1 by omega, upI, if_pos hpt, h1]
  rw [upI_gap l c big n n (hi - t - 1) (t + 1) (by omega) (by omega) (fun j a b => h5 j (by omega) b)]
  congr 2; omega

theorem ten_place {l : List UInt8} {i : Nat} (hv : validL l = true) (hi : i < l.length) (h : byL l i = 10) : placeB l i = true ∧ placeB l ((i + 1 : Nat) : Int) = true := by
  have h1 : placeB l i = true := by rw [place_byte hv hi, h]; rfl
  have h2 := place_next h1 hi
  obtain ⟨hz, _⟩ := sz_at h1 hi
  obtain ⟨_, h3, _, _⟩ := szL_pos hz
  rw [byL_drop, Nat.add_zero, h] at h3
  have : szL (l.drop i) = 1 := by have : fSize 10 = 1 := by decide
                                  omega
  rw [this] at h2
  exact ⟨h1, h2⟩
theorem lst_place {l : List UInt8} (hv : validL l = true) : ∀ i, i ≤ l.length → placeB l (lst l i : Nat) = true
  | 0, _ => place_zero hv
  | i + 1, h => by
    rw [lst]
    split
    · rename_i e; exact (ten_place hv (by omega) e).2
    · exact lst_place hv i (by omega)
theorem lnsF_ends : ∀ (r : List UInt8) (st i : Nat) (l : List UInt8), l.drop i = r → i + r.length = l.length → ∀ x ∈ lnsF r st i, x.2 = l.length ∨ byL l x.2 = 10
  | [], st, i, l, _, hl, x, hx => by simp [lnsF] at hx; subst hx; simp at hl; exact .inl hl
  | b :: r, st, i, l, hd, hl, x, hx => by
    have hi : i < l.length := by simp at hl; omega
    have hd' : l.drop (i + 1) = r := by rw [← List.drop_drop, hd]; rfl
    have hb : l[i] = b := by have := List.drop_eq_getElem_cons hi; rw [hd] at this; simpa using (List.cons.inj this).1.symm
    rw [lnsF] at hx
    split at hx
    · rename_i e
      rcases List.mem_cons.1 hx with rfl | hx
      · right; rw [byL_ten hi, hb]; exact e
      · exact lnsF_ends r _ _ l hd' (by simp at hl; omega) x hx
    · exact lnsF_ends r _ _ l hd' (by simp at hl; omega) x hx
theorem lns_ends {l : List UInt8} {x : Nat × Nat} (hx : x ∈ lns l) : x.2 = l.length ∨ byL l x.2 = 10 := lnsF_ends l 0 0 l rfl (by simp) x hx
theorem end_place {l : List UInt8} (hv : validL l = true) {x : Nat × Nat} (hx : x ∈ lns l) : placeB l (x.2 : Nat) = true := by
  have hle := (lines_le l x hx).2
  rcases lns_ends hx with h | h
  · rw [h]; exact place_mk hv (Nat.le_refl _) (.inl rfl)
  · by_cases e : x.2 < l.length
    · exact (ten_place hv e h).1
    · exact place_mk hv hle (.inl (by omega))
theorem lnsF_starts2 : ∀ (r : List UInt8) (st i : Nat) (l : List UInt8), l.drop i = r → i + r.length = l.length → ∀ x ∈ lnsF r st i, x.1 = st ∨ ∃ j, x.1 = j + 1 ∧ j < l.length ∧ byL l j = 10
  | [], st, i, l, _, hl, x, hx => by simp [lnsF] at hx; subst hx; exact .inl rfl
  | b :: r, st, i, l, hd, hl, x, hx => by
    have hi : i < l.length := by simp at hl; omega
    have hd' : l.drop (i + 1) = r := by rw [← List.drop_drop, hd]; rfl
    have hb : l[i] = b := by have := List.drop_eq_getElem_cons hi; rw [hd] at this; simpa using (List.cons.inj this).1.symm
    rw [lnsF] at hx
    split at hx
    · rename_i e
      rcases List.mem_cons.1 hx with rfl | hx
      · exact .inl rfl
      · rcases lnsF_starts2 r _ _ l hd' (by simp at hl; omega) x hx with h | h
        · exact .inr ⟨i, h, hi, by rw [byL_ten hi, hb]; exact e⟩
        · exact .inr h
    · exact lnsF_starts2 r _ _ l hd' (by simp at hl; omega) x hx
theorem start_place {l : List UInt8} (hv : validL l = true) {x : Nat × Nat} (hx : x ∈ lns l) : placeB l (x.1 : Nat) = true := by
  rcases lnsF_starts2 l 0 0 l rfl (by simp) x hx with h | ⟨j, h1, h2, h3⟩
  · rw [h]; exact place_zero hv
  · rw [h1]; exact (ten_place hv h2 h3).2
theorem line_at {l : List UInt8} {p : Nat} (h : placeB l p = true) : ∃ e : Nat, startI l (ofI l p) = (lst l p : Nat) ∧ endI l (ofI l p) = e ∧ lst l p ≤ p ∧ p ≤ e ∧ e ≤ l.length ∧ placeB l (lst l p : Nat) = true ∧ placeB l e = true := by
  obtain ⟨_, hle, hv⟩ := valid_at h
  obtain ⟨h1, h2, e, h3, h4, h5⟩ := start_of hle hv
  refine ⟨e, h2, h3, lst_le l p, h4, h5, lst_place hv p hle, ?_⟩
  obtain ⟨e', q1, q2, q3⟩ := line_of l p hle
  have : e' = e := by
    have hl : lineI l (fds l p : Nat) = some (lst l p, e') := by unfold lineI; rw [if_pos ⟨hv, by omega⟩, Int.toNat_natCast]; exact q1
    rw [h1] at h3
    unfold endI at h3; rw [hl] at h3
    simp at h3; omega
  subst this
  exact end_place hv (List.mem_of_getElem? q1)

end Go.Proofs.Ythjlhbblflmajaa
/- Runs of one class: plain facts. -/
namespace Go.Proofs.Ythjlhbblflmajaa
open Go.RowKit
set_option linter.unusedVariables false
set_option linter.unusedSimpArgs false
theorem dn_facts {l : List UInt8} {c : Int} {big : Bool} {lo : Nat} (hv : validL l = true) (hlo : placeB l lo = true) : ∀ (m f : Nat), f ≤ m → lo ≤ f → f ≤ l.length → placeB l f = true →
    lo ≤ dnI l c big lo f f ∧ dnI l c big lo f f ≤ f ∧ placeB l ((dnI l c big lo f f : Nat) : Int) = true ∧ (∀ i : Nat, dnI l c big lo f f ≤ i → i < f → placeB l i = true → kindI l i big = c) ∧ (lo < dnI l c big lo f f → kindI l (prevI l ((dnI l c big lo f f : Nat) : Int)) big ≠ c)
  | 0, f, hm, h1, h2, h3 => by
    have : f = 0 := by omega
    subst this
    have : lo = 0 := by omega
    subst this
    exact ⟨Nat.le_refl _, Nat.le_refl _, h3, fun i _ h => by omega, fun h => by simp [dnI] at h⟩
  | m + 1, f, hm, h1, h2, h3 => by
    by_cases hlt : lo < f
    · obtain ⟨g1, g2, g3, g4⟩ := dnI_step (c := c) (big := big) hv h2 hlt hlo h3
      have g5 := prevI_at h3 (by omega)
      have g6 := (prev_gap hv (f - 1) (by omega)).2.2
      by_cases hk : kindI l (prevI l f) big = c
      · rw [if_pos hk] at g4
        rw [g4]
        obtain ⟨a1, a2, a3, a4, a5⟩ := dn_facts hv hlo m (prevFrom l (f - 1)) (by omega) g1 (by omega) g3
        refine ⟨a1, by omega, a3, fun i b1 b2 b3 => ?_, a5⟩
        rcases Nat.lt_trichotomy i (prevFrom l (f - 1)) with h | h | h
        · exact a4 i b1 h b3
        · rw [h, ← g5]; exact hk
        · rw [g6 i h (by omega)] at b3; exact absurd b3 (by simp)
      · rw [if_neg hk] at g4
        rw [g4]
        exact ⟨h1, Nat.le_refl _, h3, fun i b1 b2 => by omega, fun _ => hk⟩
    · have : f = lo := by omega
      subst this
      rw [dnI_end]
      exact ⟨Nat.le_refl _, Nat.le_refl _, h3, fun i b1 b2 => by omega, fun h => by omega⟩
theorem up_facts {l : List UInt8} {c : Int} {big : Bool} {hi : Nat} (hh : hi ≤ l.length) (hph : placeB l hi = true) : ∀ (d t : Nat), hi - t ≤ d → t ≤ hi → placeB l t = true →
    ∃ u : Nat, upI l c big (hi - t) t t = u ∧ t ≤ u ∧ u ≤ hi ∧ placeB l u = true ∧ (∀ i : Nat, t ≤ i → i < u → placeB l i = true → kindI l i big = c) ∧ (u < hi → kindI l u big ≠ c) ∧ (kindI l t big = c → t < hi → t < u)
  | 0, t, hd, h1, h2 => by
    have : t = hi := by omega
    subst this
    exact ⟨t, by rw [Nat.sub_self]; rfl, Nat.le_refl _, Nat.le_refl _, h2, fun i b1 b2 => by omega, fun h => by omega, fun _ h => h⟩
  | d + 1, t, hd, h1, h2 => by
    by_cases hlt : t < hi
    · obtain ⟨n, g1, g2, g3, g4, g5⟩ := upI_step (c := c) (big := big) hh hlt hph h2
      obtain ⟨n', m1, m2, m3, m4, m5⟩ := next_gap h2 (by omega)
      have : n' = n := by omega
      subst this
      by_cases hk : kindI l t big = c
      · rw [if_pos hk] at g5
        obtain ⟨u, a1, a2, a3, a4, a5, a6, a7⟩ := up_facts (c := c) (big := big) hh hph d n' (by omega) g3 g4
        refine ⟨u, by rw [g5, a1], by omega, a3, a4, fun i b1 b2 b3 => ?_, a6, fun _ _ => by omega⟩
        rcases Nat.lt_trichotomy i n' with h | h | h
        · by_cases e : i = t
          · rw [e]; exact hk
          · rw [m5 i (by omega) h] at b3; exact absurd b3 (by simp)
        · exact a5 i (by omega) b2 b3
        · exact a5 i (by omega) b2 b3
      · rw [if_neg hk] at g5
        exact ⟨t, g5, Nat.le_refl _, h1, h2, fun i b1 b2 => by omega, fun _ => hk, fun h => absurd h hk⟩
    · have : t = hi := by omega
      subst this
      exact ⟨t, by rw [Nat.sub_self]; rfl, Nat.le_refl _, Nat.le_refl _, h2, fun i b1 b2 => by omega, fun h => by omega, fun _ h => h⟩
theorem lst_ten (l : List UInt8) : ∀ i, 0 < lst l i → byL l (lst l i - 1) = 10
  | 0, h => by simp [lst] at h
  | i + 1, h => by
    rw [lst] at h ⊢
    split at h
    · rename_i e; rw [if_pos e]; exact e
    · rename_i e; rw [if_neg e]; exact lst_ten l i h
theorem line_end {l : List UInt8} {p e : Nat} (h : placeB l p = true) (he : endI l (ofI l p) = e) : e = l.length ∨ byL l e = 10 := by
  obtain ⟨_, hle, hv⟩ := valid_at h
  obtain ⟨h1, _⟩ := start_of hle hv
  obtain ⟨e', q1, q2, q3⟩ := line_of l p hle
  have hl : lineI l (fds l p : Nat) = some (lst l p, e') := by unfold lineI; rw [if_pos ⟨hv, by omega⟩, Int.toNat_natCast]; exact q1
  rw [h1] at he
  unfold endI at he; rw [hl] at he
  have : e' = e := by simp at he; omega
  subst this
  exact lns_ends (List.mem_of_getElem? q1)
theorem kind_ten {l : List UInt8} {i : Nat} (big : Bool) (hv : validL l = true) (hi : i < l.length) (h : byL l i = 10) : kindI l i big = 4 := by
  have h1 := (ten_place hv hi h).1
  have hc : clsI l i = 4 := by unfold clsI; rw [if_pos ⟨h1, by omega⟩, Int.toNat_natCast, h]; rfl
  unfold kindI bigI; rw [hc]; cases big <;> rfl
theorem kind_end {l : List UInt8} (big : Bool) : kindI l l.length big = 0 := by
  have hc : clsI l l.length = 0 := by unfold clsI; rw [if_neg (fun h => h.2 rfl)]
  unfold kindI bigI; rw [hc]; cases big <;> rfl
theorem fds_flat {l : List UInt8} {f : Nat} : ∀ d, f + d ≤ l.length → (∀ i, f ≤ i → i < f + d → byL l i ≠ 10) → fds l (f + d) = fds l f
  | 0, _, _ => rfl
  | d + 1, h, hn => by
    rw [show f + (d + 1) = (f + d) + 1 by omega, fds_succ l _ (by omega), if_neg (hn _ (by omega) (by omega)), Nat.add_zero]
    exact fds_flat d (by omega) fun i a b => hn i a (by omega)
theorem run_facts {l : List UInt8} {k : Nat} {big : Bool} (hk : k < l.length) (hp : placeB l k = true) (h0 : kindI l k big ≠ 0) (h4 : kindI l k big ≠ 4) :
    ∃ f t : Nat, runI l k big = (((f : Nat) : Int), ((t : Nat) : Int)) ∧ f ≤ k ∧ k < t ∧ t ≤ l.length ∧ placeB l f = true ∧ placeB l t = true ∧ ofI l f = ofI l t ∧ (∀ i : Nat, f ≤ i → i < t → placeB l i = true → kindI l i big = kindI l k big) ∧ kindI l t big ≠ kindI l k big ∧ (0 < f → kindI l (prevI l f) big ≠ kindI l k big) := by
  obtain ⟨_, hle, hv⟩ := valid_at hp
  obtain ⟨e, q1, q2, q3, q4, q5, q6, q7⟩ := line_at hp
  have he := line_end hp q2
  have hke : k < e := by
    rcases Nat.lt_or_ge k e with h | h
    · exact h
    · have : e = k := by omega
      subst this
      rcases he with h | h
      · omega
      · exact absurd (kind_ten big hv hk h) h4
  obtain ⟨a1, a2, a3, a4, a5⟩ := dn_facts (c := kindI l k big) (big := big) hv q6 k k (Nat.le_refl _) q3 (by omega) hp
  obtain ⟨u, b1, b2, b3, b4, b5, b6, b7⟩ := up_facts (c := kindI l k big) (big := big) q5 q7 (e - k) k (Nat.le_refl _) q4 hp
  have hall : ∀ i : Nat, dnI l (kindI l k big) big (lst l k) k k ≤ i → i < u → placeB l i = true → kindI l i big = kindI l k big := by
    intro i c1 c2 c3
    rcases Nat.lt_or_ge i k with h | h
    · exact a4 i c1 h c3
    · exact b5 i h c2 c3
  have hlt := b7 rfl hke
  refine ⟨dnI l (kindI l k big) big (lst l k) k k, u, ?_, a2, hlt, by omega, a3, b4, ?_, hall, ?_, ?_⟩
  · unfold runI; rw [if_neg (by rintro (h | h); exact h0 h; exact h4 h), q1, q2]; simp [b1]
  · have hf := fds_flat (l := l) (f := dnI l (kindI l k big) big (lst l k) k k) (u - dnI l (kindI l k big) big (lst l k) k k) (by omega) (fun i c1 c2 c3 => by
      have hi : i < l.length := by omega
      have := hall i c1 (by omega) (ten_place hv hi c3).1
      rw [kind_ten big hv hi c3] at this
      exact h4 this.symm)
    rw [Nat.add_sub_cancel' (by omega)] at hf
    rw [(start_of (p := dnI l (kindI l k big) big (lst l k) k k) (by omega) hv).1, (start_of (p := u) (by omega) hv).1, hf]
  · rcases Nat.lt_or_ge u e with h | h
    · exact b6 h
    · have : u = e := by omega
      subst this
      rcases he with h | h
      · rw [h, kind_end]; exact fun x => h0 x.symm
      · by_cases hu : u < l.length
        · rw [kind_ten big hv hu h]; exact fun x => h4 x.symm
        · have : u = l.length := by omega
          rw [this, kind_end]; exact fun x => h0 x.symm
  · intro hpos
    by_cases hl : lst l k < dnI l (kindI l k big) big (lst l k) k k
    · exact a5 hl
    · have el : dnI l (kindI l k big) big (lst l k) k k = lst l k := by omega
      rw [el] at a3 hpos ⊢
      have ht := lst_ten l k hpos
      obtain ⟨j, ej⟩ : ∃ j, lst l k = j + 1 := ⟨lst l k - 1, by omega⟩
      rw [ej] at ht a3 ⊢
      rw [prevI_at a3 (by omega)]
      simp only [Nat.add_sub_cancel] at ht ⊢
      have hj : j < l.length := by omega
      have e2 : prevFrom l j = j := by
        cases j with
        | zero => rfl
        | succ n => simp [prevFrom, inn, ht]
      rw [e2, kind_ten big hv hj ht]
      exact fun x => h4 x.symm

end Go.Proofs.Ythjlhbblflmajaa
/- Words: plain. -/
namespace Go.Proofs.Ythjlhbblflmajaa
open Go.RowKit
set_option linter.unusedVariables false
set_option linter.unusedSimpArgs false
def kc (l : List UInt8) (big : Bool) (p : Nat) : Int := if kindI l p big = 1 ∨ kindI l p big = 4 then 0 else kindI l p big
def emB (l : List UInt8) (p : Nat) : Bool := (decide (p = 0) || decide (byL l (p - 1) = 10)) && (decide (p = l.length) || decide (byL l p = 10))
def wl (l : List UInt8) (big : Bool) : Nat → Nat → Int → Nat → Int → List (Nat × Int)
  | 0, _, _, _, _ => []
  | n + 1, p, last, fr, prev => (if kc l big p ≠ last ∧ last ≠ 0 then [(fr, prev)] else []) ++ ((if kc l big p = 0 ∧ emB l p = true then [(p, -1)] else []) ++
      (if p = l.length then [] else wl l big n (p + szL (l.drop p)) (kc l big p) (if kc l big p ≠ last then p else fr) p))
def wordsI (l : List UInt8) (big : Bool) : List (Nat × Int) := wl l big (l.length + 1) 0 0 0 (-1)
end Go.Proofs.Ythjlhbblflmajaa
/- What utf.first hands back. -/
namespace Go.Proofs.Ythjlhbblflmajaa
open Go.RowKit
set_option linter.unusedVariables false
set_option linter.unusedSimpArgs false
theorem ret_agg3 {a b c a' b' c' : Int} (h1 : a = a') (h2 : b = b') (h3 : c = c') : Ending.returned (.agg #[.int .i64 a, .int .u8 b, .int .u8 c]) = .returned (.agg #[.int .i64 a', .int .u8 b', .int .u8 c']) := by subst h1 h2 h3; rfl

set_option maxHeartbeats 4000000 in
set_option maxRecDepth 100000 in
theorem first_c (b : Int) (w : World) : Calls Try.prog 89 #[.int .u8 b] w fun e w' => e = .returned (.agg #[.int .i64 (fSize b), .int .u8 (fLow b), .int .u8 (fTop b)]) ∧ Ext w w' := by
  go_enter Try.func89, Try.ntmps89
  go_wp2
  all_goals (go_returns; refine ⟨ret_agg3 ?_ ?_ ?_, ?_⟩)
  all_goals (try simp only [beq_iff_eq, beq_eq_false_iff_ne] at *)
  all_goals (try (first | unfold fSize | unfold fLow | unfold fTop))
  all_goals (try (repeat' (first | omega | split)))
  all_goals (repeat (first | exact Ext.refl _ | exact ‹Ext _ _› | refine Ext.alloc ?_ _ | refine Ext.drew ?_ | refine Ext.drewN ?_ _ | (refine Ext.setCell ?_ (by first | omega | (simp; done) | (simp; omega)) _) | refine Ext.trans ?_ ‹Ext _ _›))

end Go.Proofs.Ythjlhbblflmajaa
/- The contracts of the package utf: what each of its functions hands back. -/
namespace Go.Proofs.Ythjlhbblflmajaa
open Go.RowKit
set_option linter.unusedVariables false
set_option linter.unusedSimpArgs false
theorem beg_step (s : ByteArray) (k : Nat) (hk : k < s.size) (h0 : 0 < s.size) (h : begOk (ls s) k = true) (hb : okb ↑s[0].toNat k ↑s[k].toNat = true) : begOk (ls s) (k + 1) = true := by
  rw [byL_eq s 0 h0, byL_eq s k hk] at hb
  rw [begOk_succ, h, hb]; simp
theorem beg_bad (s : ByteArray) (k : Nat) (h1 : 1 ≤ k) (hk : k < s.size) (h0 : 0 < s.size) (hn : ↑k < fSize ↑s[0].toNat) (hb : okb ↑s[0].toNat k ↑s[k].toNat = false) : 0 = begA (ls s) ∧ 0 = begB (ls s) := by
  rw [byL_eq s 0 h0] at hn
  rw [byL_eq s 0 h0, byL_eq s k hk] at hb
  have : begOk (ls s) (min (ls s).length (fSize (byL (ls s) 0)).toNat) = false := by
    rcases Bool.eq_false_or_eq_true (begOk (ls s) (min (ls s).length (fSize (byL (ls s) 0)).toNat)) with hc | hc
    · have hc := begOk_le (ls s) (k := k + 1) hc (by rw [ls_len]; omega)
      rw [begOk_succ, hb] at hc
      simp at hc; omega
    · exact hc
  rw [ls_len] at this
  unfold begA begB
  rw [ls_len]
  simp [this]
theorem beg_done (s : ByteArray) (k : Nat) (h0 : 0 < s.size) (h : begOk (ls s) k = true) (hk : fSize ↑s[0].toNat ≤ k ∨ s.size ≤ k) : min (s.size : Int) (fSize ↑s[0].toNat) = begA (ls s) ∧ fSize ↑s[0].toNat = begB (ls s) := by
  rw [byL_eq s 0 h0] at hk ⊢
  have := begOk_le (ls s) (k := min (ls s).length (fSize (byL (ls s) 0)).toNat) h (by rw [ls_len]; omega)
  unfold begA begB
  have h0' : ¬ s.size = 0 := by omega
  rw [ls_len] at this ⊢
  simp only [if_neg h0', if_pos this, and_self]
set_option maxHeartbeats 4000000 in
set_option maxRecDepth 100000 in
theorem begins_c (s : ByteArray) (w : World) (hs : s.size ≤ 1152921504606846976) : Calls Try.prog 82 #[.string s] w fun e w' => e = .returned (.tuple #[.int .i64 (begA (ls s)), .int .i64 (begB (ls s))]) ∧ Ext w w' := by
  by_cases h0 : s.size = 0
  · have he := emp_t s h0
    have Hz : Hid (0 = begA (ls s) ∧ 0 = begB (ls s)) := Lib.hid (by unfold begA begB; simp [ls_len, h0])
    clear h0
    go_enter Try.func82, Try.ntmps82
    go_wp2_with (first | (go_at_call 89; refine (first_c _ _).mono ?_; rintro e w1 ⟨rfl, hx1⟩))
    go_ret2
    exact ⟨ret2 Hz.out, Ext.refl _⟩
  · have h1 : 0 < s.size := by omega
    have he := emp_f s h1
    have b0 := fSize_lo ↑s[0].toNat
    have b1 := fSize_hi ↑s[0].toNat
    clear h0
    go_enter Try.func82, Try.ntmps82
    go_wp2_with (first | (go_at_call 89; refine (first_c _ _).mono ?_; rintro e w1 ⟨rfl, hx1⟩))
    go_loopw [5] (fun i wr => ∃ k : Nat, 1 ≤ k ∧ k ≤ s.size ∧ i = .int .i64 k ∧ begOk (ls s) k = true ∧ wr.cell? ⟨w1.heap.size, 0, none⟩ = some (.int .i64 (fSize ↑s[0].toNat)) ∧ wr.cell? ⟨w1.heap.size, 1, none⟩ = some (.int .u8 (fLow ↑s[0].toNat)) ∧ wr.cell? ⟨w1.heap.size, 2, none⟩ = some (.int .u8 (fTop ↑s[0].toNat)) ∧ Ext w wr) (fun i _ => s.size - (intOf i).toNat)
    case atStart => exact ⟨1, Nat.le_refl _, h1, rfl, rfl, by simp, by simp, by simp, (by (repeat (first | exact Ext.refl _ | exact ‹Ext _ _› | refine Ext.alloc ?_ _ | refine Ext.drew ?_ | refine Ext.drewN ?_ _ | (refine Ext.setCell ?_ (by first | omega | (simp; done) | (simp; omega)) _) | refine Ext.trans ?_ ‹Ext _ _›)))⟩
    case round =>
      obtain ⟨k, hk1, hk2, rfl, hok, c0, c1, c2, hx⟩ := hrel
      have Hok := Lib.hid hok
      clear hok he
      go_wp2
      all_goals (try (go_quiet (fail)))
      all_goals go_wp2
      all_goals (try simp only [beq_iff_eq, beq_eq_false_iff_ne] at *)
      all_goals first
        | (go_ret2; refine ⟨ret2 (beg_bad s k hk1 (by omega) h1 (by omega) (by unfold okb; split <;> simp <;> omega)), (by (repeat (first | exact Ext.refl _ | exact ‹Ext _ _› | refine Ext.alloc ?_ _ | refine Ext.drew ?_ | refine Ext.drewN ?_ _ | (refine Ext.setCell ?_ (by first | omega | (simp; done) | (simp; omega)) _) | refine Ext.trans ?_ ‹Ext _ _›)))⟩)
        | (go_ret2; refine ⟨ret2 ?_, (by (repeat (first | exact Ext.refl _ | exact ‹Ext _ _› | refine Ext.alloc ?_ _ | refine Ext.drew ?_ | refine Ext.drewN ?_ _ | (refine Ext.setCell ?_ (by first | omega | (simp; done) | (simp; omega)) _) | refine Ext.trans ?_ ‹Ext _ _›)))⟩; have hd := beg_done s k h1 Hok.out (by omega); exact ⟨by omega, by omega⟩)
        | (go_roundw; (case rel => exact ⟨k + 1, by omega, by omega, by go_num, beg_step s k (by omega) h1 Hok.out (by unfold okb; split <;> simp <;> omega), c0, c1, c2, (by (repeat (first | exact Ext.refl _ | exact ‹Ext _ _› | refine Ext.alloc ?_ _ | refine Ext.drew ?_ | refine Ext.drewN ?_ _ | (refine Ext.setCell ?_ (by first | omega | (simp; done) | (simp; omega)) _) | refine Ext.trans ?_ ‹Ext _ _›)))⟩); (case measure => simp [intOf]; omega))

set_option maxHeartbeats 4000000 in
set_option maxRecDepth 100000 in
theorem size_c (s : ByteArray) (w : World) (hs : s.size ≤ 1152921504606846976) : Calls Try.prog 63 #[.string s] w fun e w' => e = .returned (.int .i64 (szL (ls s))) ∧ Ext w w' := by
  have H := Lib.hid (szL_eq (ls s))
  go_enter Try.func63, Try.ntmps63
  go_wp2_with (first | (go_at_call 82; refine (begins_c _ _ hs).mono ?_; rintro e w1 ⟨rfl, hx1⟩))
  all_goals (go_ret; refine ⟨ret1 ?_, (by (repeat (first | exact Ext.refl _ | exact ‹Ext _ _› | refine Ext.alloc ?_ _ | refine Ext.drew ?_ | refine Ext.drewN ?_ _ | (refine Ext.setCell ?_ (by first | omega | (simp; done) | (simp; omega)) _) | refine Ext.trans ?_ ‹Ext _ _›)))⟩; rw [← H.out])
  · rw [if_pos (by assumption)]
  · rw [if_neg (by omega)]

theorem valid_more (s : ByteArray) (i : Nat) (hi : i < s.size) (hn : szL (ls (s.extract i s.size)) ≠ 0) : validL ((ls s).drop i) = validL ((ls s).drop (i + szL (ls (s.extract i s.size)))) := by
  rw [ls_ext] at hn ⊢
  rw [validL_step (by rw [List.length_drop, ls_len]; omega) hn, List.drop_drop]
theorem valid_end (s : ByteArray) (i : Nat) (hi : i ≤ s.size) (hn : (s.extract i s.size).toList.isEmpty = true) : validL ((ls s).drop i) = true := by
  rw [Lib.toList_data, List.isEmpty_iff] at hn
  rw [← ls_ext]; unfold ls; rw [hn]; exact validL_nil
theorem valid_not (s : ByteArray) (i : Nat) (hi : i < s.size) (hn : szL (ls (s.extract i s.size)) = 0) : validL ((ls s).drop i) = false := by
  rw [ls_ext] at hn
  exact validL_bad (by rw [List.length_drop, ls_len]; omega) hn
theorem ext_ext (s : ByteArray) (i n : Nat) (hn : i + n ≤ s.size) : (s.extract i s.size).extract n (s.extract i s.size).size = s.extract (i + n) s.size := by
  apply ByteArray.ext
  apply Array.toList_inj.1
  have h1 := ls_ext (s.extract i s.size) n
  have h2 := ls_ext s (i + n)
  have h3 := ls_ext s i
  unfold ls at *
  rw [h1, h2, h3, List.drop_drop]

set_option maxHeartbeats 4000000 in
set_option maxRecDepth 100000 in
theorem valid_c (s : ByteArray) (w : World) (hs : s.size ≤ 1152921504606846976) : Calls Try.prog 45 #[.string s] w fun e w' => e = .returned (.bool (validL (ls s))) ∧ Ext w w' := by
  go_enter Try.func45, Try.ntmps45
  go_wp2
  go_loopw [0] (fun v wr => ∃ i : Nat, i ≤ s.size ∧ v = .string (s.extract i s.size) ∧ validL ((ls s).drop i) = validL (ls s) ∧ Ext w wr) (fun v _ => sizeV v)
  case atStart => exact ⟨0, by omega, by simp, by simp, (by (repeat (first | exact Ext.refl _ | exact ‹Ext _ _› | refine Ext.alloc ?_ _ | refine Ext.drew ?_ | refine Ext.drewN ?_ _ | (refine Ext.setCell ?_ (by first | omega | (simp; done) | (simp; omega)) _) | refine Ext.trans ?_ ‹Ext _ _›)))⟩
  case round =>
    obtain ⟨i, hi, rfl, hok, hx⟩ := hrel
    have Hok := Lib.hid hok
    clear hok
    have hle : szL (ls (s.extract i s.size)) ≤ s.size - i := by have := szL_le (ls (s.extract i s.size)); rw [ls_ext, List.length_drop, ls_len] at this; rw [ls_ext]; exact this
    go_wp2_with (first | (go_at_call 63; refine (size_c _ _ (by simp; omega)).mono ?_; rintro e w1 ⟨rfl, hx1⟩))
    all_goals (try simp only [beq_iff_eq, beq_eq_false_iff_ne, Bool.not_eq_true', Bool.not_eq_false'] at *)
    · go_ret
      have hi' : i < s.size := by
        rcases Nat.lt_or_ge i s.size with h | h
        · exact h
        · have := emp_t (s.extract i s.size) (by simp; omega); simp_all
      exact ⟨retb (by rw [← Hok.out, valid_not s i hi' (by omega)]), (by (repeat (first | exact Ext.refl _ | exact ‹Ext _ _› | refine Ext.alloc ?_ _ | refine Ext.drew ?_ | refine Ext.drewN ?_ _ | (refine Ext.setCell ?_ (by first | omega | (simp; done) | (simp; omega)) _) | refine Ext.trans ?_ ‹Ext _ _›)))⟩
    · go_roundw
      case rel =>
        have hi' : i < s.size := by omega
        refine ⟨i + szL (ls (s.extract i s.size)), by omega, ?_, ?_, (by (repeat (first | exact Ext.refl _ | exact ‹Ext _ _› | refine Ext.alloc ?_ _ | refine Ext.drew ?_ | refine Ext.drewN ?_ _ | (refine Ext.setCell ?_ (by first | omega | (simp; done) | (simp; omega)) _) | refine Ext.trans ?_ ‹Ext _ _›)))⟩
        · have := ext_ext s i (szL (ls (s.extract i s.size))) (by omega)
          simp at this
          rw [this]
        · rw [← valid_more s i hi' (by omega)]; exact Hok.out
      case measure => simp [sizeV]; omega
    · go_ret
      exact ⟨retb (by rw [← Hok.out, valid_end s i hi (by assumption)]), (by (repeat (first | exact Ext.refl _ | exact ‹Ext _ _› | refine Ext.alloc ?_ _ | refine Ext.drew ?_ | refine Ext.drewN ?_ _ | (refine Ext.setCell ?_ (by first | omega | (simp; done) | (simp; omega)) _) | refine Ext.trans ?_ ‹Ext _ _›)))⟩

end Go.Proofs.Ythjlhbblflmajaa
/- The contracts of the package utf: what each of its functions hands back. -/
namespace Go.Proofs.Ythjlhbblflmajaa
open Go.RowKit
set_option linter.unusedVariables false
set_option linter.unusedSimpArgs false
theorem inn_bits : ∀ n : Fin 256, (bits BinOp.and IntKind.u8 (n.val : Int) 192 == 128) = inn n.val := by decide +kernel
theorem inn_eq (b : Int) (h0 : 0 ≤ b) (h1 : b ≤ 255) : (bits BinOp.and IntKind.u8 b 192 == 128) = inn b := by
  have := inn_bits ⟨b.toNat, by omega⟩
  simpa [Int.toNat_of_nonneg h0] using this
set_option maxHeartbeats 4000000 in
set_option maxRecDepth 100000 in
theorem inner_c (b : Int) (h0 : 0 ≤ b) (h1 : b ≤ 255) (w : World) : Calls Try.prog 57 #[.int .u8 b] w fun e w' => e = .returned (.bool (inn b)) ∧ Ext w w' := by
  go_enter Try.func57, Try.ntmps57
  go_wp2
  go_ret
  exact ⟨retb (inn_eq b h0 h1), (by (repeat (first | exact Ext.refl _ | exact ‹Ext _ _› | refine Ext.alloc ?_ _ | refine Ext.drew ?_ | refine Ext.drewN ?_ _ | (refine Ext.setCell ?_ (by first | omega | (simp; done) | (simp; omega)) _) | refine Ext.trans ?_ ‹Ext _ _›)))⟩

theorem inner_u (b : UInt8) (w : World) : Calls Try.prog 57 #[.int .u8 b.toNat] w fun e w' => e = .returned (.bool (inn b.toNat)) ∧ Ext w w' :=
  inner_c _ (by omega) (by have := b.toNat_lt; omega) w

theorem place_at (s : ByteArray) (p : Int) (h0 : 0 ≤ p) (h1 : p < s.size) : placeB (ls s) p = (!inn ↑s[p.toNat].toNat && validL (ls s)) := by
  unfold placeB
  rw [byL_eq s p.toNat (by omega), ls_len]
  have a : decide (0 ≤ p) = true := decide_eq_true h0
  have b : decide (p ≤ s.size) = true := decide_eq_true (by omega)
  have c : decide (p = s.size) = false := decide_eq_false (by omega)
  simp [a, b, c]
theorem place_out (s : ByteArray) (p : Int) (h : p < 0 ∨ s.size < p) : placeB (ls s) p = false := by
  unfold placeB; rw [ls_len]
  rcases h with h | h
  · have a : decide (0 ≤ p) = false := decide_eq_false (by omega)
    simp [a]
  · have a : decide (p ≤ s.size) = false := decide_eq_false (by omega)
    simp [a]
theorem place_end (s : ByteArray) (p : Int) (h : p = s.size) : placeB (ls s) p = validL (ls s) := by
  unfold placeB; rw [ls_len]; subst h; simp
set_option maxHeartbeats 4000000 in
set_option maxRecDepth 100000 in
theorem place_c (s : ByteArray) (p : Int) (w : World) (hs : s.size ≤ 1152921504606846976) : Calls Try.prog 35 #[.string s, .int .i64 p] w fun e w' => e = .returned (.bool (placeB (ls s) p)) ∧ Ext w w' := by
  go_enter Try.func35, Try.ntmps35
  go_wp2_with (first | (go_at_call 57; refine (inner_u _ _).mono ?_; rintro e w1 ⟨rfl, hx1⟩) | (go_at_call 45; refine (valid_c _ _ hs).mono ?_; rintro e w1 ⟨rfl, hx1⟩))
  all_goals (try simp only [Bool.not_eq_true', Bool.not_eq_false'] at *)
  all_goals (go_ret; refine ⟨retb ?_, (by (repeat (first | exact Ext.refl _ | exact ‹Ext _ _› | refine Ext.alloc ?_ _ | refine Ext.drew ?_ | refine Ext.drewN ?_ _ | (refine Ext.setCell ?_ (by first | omega | (simp; done) | (simp; omega)) _) | refine Ext.trans ?_ ‹Ext _ _›)))⟩)
  all_goals first
    | (rw [place_end s p (by assumption)]; done)
    | (rw [place_at s p (by omega) (by omega)]; simp [*]; done)
    | (rw [place_out s p (by omega)]; done)

set_option maxHeartbeats 4000000 in
set_option maxRecDepth 100000 in
theorem next_c (s : ByteArray) (p : Int) (w : World) (hs : s.size ≤ 1152921504606846976) : Calls Try.prog 79 #[.string s, .int .i64 p] w fun e w' => e = .returned (.int .i64 (nextI (ls s) p)) ∧ Ext w w' := by
  rcases place_cases s p with hp | ⟨k, rfl, hk, hp, hv⟩
  · go_enter Try.func79, Try.ntmps79
    go_wp2_with (first | (go_at_call 35; refine (place_c _ _ _ hs).mono ?_; rintro e w1 ⟨rfl, hx1⟩) | (go_at_call 63; refine (size_c _ _ (by simp; omega)).mono ?_; rintro e w1 ⟨rfl, hx1⟩))
    go_ret
    exact ⟨ret1 (by unfold nextI; simp [hp]), (by (repeat (first | exact Ext.refl _ | exact ‹Ext _ _› | refine Ext.alloc ?_ _ | refine Ext.drew ?_ | refine Ext.drewN ?_ _ | (refine Ext.setCell ?_ (by first | omega | (simp; done) | (simp; omega)) _) | refine Ext.trans ?_ ‹Ext _ _›)))⟩
  · have hz := szL_le ((ls s).drop k)
    rw [List.length_drop, ls_len] at hz
    have hy : szL (ls (s.extract k s.size)) ≤ s.size - k := by rw [ls_ext]; exact hz
    go_enter Try.func79, Try.ntmps79
    go_wp2_with (first | (go_at_call 35; refine (place_c _ _ _ hs).mono ?_; rintro e w1 ⟨rfl, hx1⟩) | (go_at_call 63; refine (size_c _ _ (by simp; omega)).mono ?_; rintro e w1 ⟨rfl, hx1⟩))
    all_goals (try simp only [beq_iff_eq, beq_eq_false_iff_ne] at *)
    all_goals (go_ret; refine ⟨ret1 ?_, (by (repeat (first | exact Ext.refl _ | exact ‹Ext _ _› | refine Ext.alloc ?_ _ | refine Ext.drew ?_ | refine Ext.drewN ?_ _ | (refine Ext.setCell ?_ (by first | omega | (simp; done) | (simp; omega)) _) | refine Ext.trans ?_ ‹Ext _ _›)))⟩; unfold nextI)
    · rw [if_neg (by rw [ls_len]; omega)]
    · rw [if_pos ⟨hp, by rw [ls_len]; omega⟩, ls_ext]; rfl

end Go.Proofs.Ythjlhbblflmajaa
/-
  DERIVED: THE SHELF's CONTRACTS AT THIS DUMP, IN PLAIN WORDS (tools/lay-plain.mjs out of 'TryShelf.lean', which tools/lay-shelf.mjs wrote): THE SAME DECLARATIONS UNDER THE SAME NAMES: 'import', 'namespace', 'open', 'def', 'theorem' AND NOTHING ELSE: no command of the shelf's: FOR A HAND-IN. Each laying: the table of numbers ('.._ren') and one theorem, a field a fact of the dump's own or the kernel's comparison; each contract: ONE APPLICATION.
-/
namespace Go.Proofs
open Go.Shelf
def Try.lays215_ren : Go.Shelf.Ren := ⟨fun | 215 => 86 | n => n, fun | 3 => 3 | 4 => 4 | n => n, fun | n => n⟩
theorem Try.lays215 : Go.Proofs.Lays.n215 Try.prog Try.lays215_ren := {
  mixed := by kernel_rfl
  f215 := Try.func86.trans (congrArg some (by kernel_rfl))
  t3 := Try.underlying3
  a3 := Try.isAgg3
  z3 := Try.sizeOf3
  v3 := Try.zeroValue3
  t4 := Try.underlying4
  a4 := Try.isAgg4
  z4 := Try.sizeOf4
  v4 := Try.zeroValue4 }
open Go.RowKit in
theorem Try.cmp_isNaN_int (x : Int) (w : World) :
    Calls Try.prog 86 #[.int .i64 x] w fun e w' => e = .returned (.bool false) ∧ w' = w := Any.cmp_isNaN_int Try.lays215 x w
def Try.lays217_ren : Go.Shelf.Ren := ⟨fun | 217 => 91 | 266 => 98 | n => n, fun | 9 => 9 | 5 => 5 | 3 => 3 | n => n, fun | n => n⟩
theorem Try.lays217 : Go.Proofs.Lays.n217 Try.prog Try.lays217_ren := {
  mixed := by kernel_rfl
  f217 := Try.func91.trans (congrArg some (by kernel_rfl))
  f266 := Try.func98.trans (congrArg some (by kernel_rfl))
  t3 := Try.underlying3
  a3 := Try.isAgg3
  z3 := Try.sizeOf3
  v3 := Try.zeroValue3
  t5 := Try.underlying5
  a5 := Try.isAgg5
  z5 := Try.sizeOf5
  v5 := Try.zeroValue5
  t9 := Try.underlying9
  a9 := Try.isAgg9
  z9 := Try.sizeOf9
  v9 := Try.zeroValue9 }
open Go.RowKit Go.Lib in
theorem Try.stringslite_IndexByte (s : ByteArray) (c : Int) (w : World) :
    Calls Try.prog 91 #[.string s, .int .u8 c] w fun e w' => e = .returned (.int .i64 (Lib.indexByte s.data.toList c.toNat.toUInt8)) ∧ w' = w := Any.stringslite_IndexByte Try.lays217 s c w
def Try.lays224_ren : Go.Shelf.Ren := ⟨fun | 224 => 93 | n => n, fun | 3 => 3 | n => n, fun | n => n⟩
theorem Try.lays224 : Go.Proofs.Lays.n224 Try.prog Try.lays224_ren := {
  mixed := by kernel_rfl
  f224 := Try.func93.trans (congrArg some (by kernel_rfl))
  t3 := Try.underlying3
  a3 := Try.isAgg3
  z3 := Try.sizeOf3
  v3 := Try.zeroValue3 }
open Go.RowKit Go.Lib in
theorem Try.bytealg_Cutover (n : Int) (h0 : 0 ≤ n) (h1 : n < 4611686018427387904) (w : World) :
    Calls Try.prog 93 #[.int .i64 n] w fun e w' => e = .returned (.int .i64 ((n + 16) / 8)) ∧ w' = w := Any.bytealg_Cutover Try.lays224 n h0 h1 w
def Try.lays314_ren : Go.Shelf.Ren := ⟨fun | 314 => 99 | n => n, fun | 9 => 9 | 51 => 100 | 3 => 3 | 4 => 4 | 5 => 5 | 46 => 85 | n => n, fun | n => n⟩
theorem Try.lays314 : Go.Proofs.Lays.n314 Try.prog Try.lays314_ren := {
  mixed := by kernel_rfl
  f314 := Try.func99.trans (congrArg some (by kernel_rfl))
  t3 := Try.underlying3
  a3 := Try.isAgg3
  z3 := Try.sizeOf3
  v3 := Try.zeroValue3
  t4 := Try.underlying4
  a4 := Try.isAgg4
  z4 := Try.sizeOf4
  v4 := Try.zeroValue4
  t5 := Try.underlying5
  a5 := Try.isAgg5
  z5 := Try.sizeOf5
  v5 := Try.zeroValue5
  t9 := Try.underlying9
  a9 := Try.isAgg9
  z9 := Try.sizeOf9
  v9 := Try.zeroValue9
  t46 := Try.underlying85
  a46 := Try.isAgg85
  z46 := Try.sizeOf85
  v46 := Try.zeroValue85
  t51 := Try.underlying100
  a51 := Try.isAgg100
  z51 := Try.sizeOf100
  v51 := Try.zeroValue100 }
open Go.RowKit Go.Lib in
theorem Try.bytealg_hashStr (sep : ByteArray) (hs : sep.size < 4294967281) (w : World) :
    Calls Try.prog 99 #[.string sep] w fun e w' => e = .returned (.tuple #[.int .u32 (RK.H sep.data.toList % 4294967296), .int .u32 (16777619 ^ sep.size % 4294967296)]) ∧ w' = w := Any.bytealg_hashStr Try.lays314 sep hs w
def Try.lays267_ren : Go.Shelf.Ren := ⟨fun | 267 => 94 | 314 => 99 | n => n, fun | 9 => 9 | 3 => 3 | 146 => 101 | 51 => 100 | 4 => 4 | 5 => 5 | 46 => 85 | n => n, fun | n => n⟩
theorem Try.lays267 : Go.Proofs.Lays.n267 Try.prog Try.lays267_ren := {
  mixed := by kernel_rfl
  f267 := Try.func94.trans (congrArg some (by kernel_rfl))
  f314 := Try.func99.trans (congrArg some (by kernel_rfl))
  t3 := Try.underlying3
  a3 := Try.isAgg3
  z3 := Try.sizeOf3
  v3 := Try.zeroValue3
  t4 := Try.underlying4
  a4 := Try.isAgg4
  z4 := Try.sizeOf4
  v4 := Try.zeroValue4
  t5 := Try.underlying5
  a5 := Try.isAgg5
  z5 := Try.sizeOf5
  v5 := Try.zeroValue5
  t9 := Try.underlying9
  a9 := Try.isAgg9
  z9 := Try.sizeOf9
  v9 := Try.zeroValue9
  t46 := Try.underlying85
  a46 := Try.isAgg85
  z46 := Try.sizeOf85
  v46 := Try.zeroValue85
  t51 := Try.underlying100
  a51 := Try.isAgg100
  z51 := Try.sizeOf100
  v51 := Try.zeroValue100
  t146 := Try.underlying101
  a146 := Try.isAgg101
  z146 := Try.sizeOf101
  v146 := Try.zeroValue101 }
open Go.RowKit Go.Lib in
theorem Try.bytealg_IndexRabinKarp (s sep : ByteArray) (h1 : 1 ≤ sep.size) (h2 : sep.size ≤ s.size) (hs : s.size < 4294967281) (w : World) :
    Calls Try.prog 94 #[.string s, .string sep] w fun e w' => e = .returned (.int .i64 (Lib.index s.data.toList sep.data.toList)) ∧ w' = w := Any.bytealg_IndexRabinKarp Try.lays267 s sep h1 h2 hs w
def Try.lays219_ren : Go.Shelf.Ren := ⟨fun | 219 => 84 | 217 => 91 | 225 => 92 | 224 => 93 | 267 => 94 | 266 => 98 | 314 => 99 | n => n, fun | 9 => 9 | 3 => 3 | 4 => 4 | 5 => 5 | 46 => 85 | 146 => 101 | 51 => 100 | n => n, fun | 1 => 0 | n => n⟩
theorem Try.lays219 : Go.Proofs.Lays.n219 Try.prog Try.lays219_ren := {
  mixed := by kernel_rfl
  f217 := Try.func91.trans (congrArg some (by kernel_rfl))
  f219 := Try.func84.trans (congrArg some (by kernel_rfl))
  f224 := Try.func93.trans (congrArg some (by kernel_rfl))
  f225 := Try.func92.trans (congrArg some (by kernel_rfl))
  f266 := Try.func98.trans (congrArg some (by kernel_rfl))
  f267 := Try.func94.trans (congrArg some (by kernel_rfl))
  f314 := Try.func99.trans (congrArg some (by kernel_rfl))
  t3 := Try.underlying3
  a3 := Try.isAgg3
  z3 := Try.sizeOf3
  v3 := Try.zeroValue3
  t4 := Try.underlying4
  a4 := Try.isAgg4
  z4 := Try.sizeOf4
  v4 := Try.zeroValue4
  t5 := Try.underlying5
  a5 := Try.isAgg5
  z5 := Try.sizeOf5
  v5 := Try.zeroValue5
  t9 := Try.underlying9
  a9 := Try.isAgg9
  z9 := Try.sizeOf9
  v9 := Try.zeroValue9
  t46 := Try.underlying85
  a46 := Try.isAgg85
  z46 := Try.sizeOf85
  v46 := Try.zeroValue85
  t51 := Try.underlying100
  a51 := Try.isAgg100
  z51 := Try.sizeOf100
  v51 := Try.zeroValue100
  t146 := Try.underlying101
  a146 := Try.isAgg101
  z146 := Try.sizeOf101
  v146 := Try.zeroValue101
  g1 := by kernel_rfl }
open Go.RowKit Go.Lib in
theorem Try.stringslite_Index_one (s : ByteArray) (c : UInt8) (w : World) :
    Calls Try.prog 84 #[.string s, .string ⟨#[c]⟩] w fun e w' => e = .returned (.int .i64 (Lib.indexByte s.data.toList c)) ∧ w' = w := Any.stringslite_Index_one Try.lays219 s c w
open Go.RowKit Go.Lib in
theorem Try.stringslite_Index (s sub : ByteArray) (m : Int) (w : World) (hs : s.size < 4294967281) (hm : w.cell? ⟨0, 0, none⟩ = some (.int .i64 m)) :
    Calls Try.prog 84 #[.string s, .string sub] w fun e w' => e = .returned (.int .i64 (Lib.index s.data.toList sub.data.toList)) ∧ w' = w := Any.stringslite_Index Try.lays219 s sub m w hs hm
def Try.lays143_ren : Go.Shelf.Ren := ⟨fun | 143 => 70 | 219 => 84 | 217 => 91 | 225 => 92 | 224 => 93 | 267 => 94 | 266 => 98 | 314 => 99 | n => n, fun | 9 => 9 | 3 => 3 | 4 => 4 | 5 => 5 | 46 => 85 | 146 => 101 | 51 => 100 | n => n, fun | 1 => 0 | n => n⟩
theorem Try.lays143 : Go.Proofs.Lays.n143 Try.prog Try.lays143_ren := {
  mixed := by kernel_rfl
  f143 := Try.func70.trans (congrArg some (by kernel_rfl))
  f217 := Try.func91.trans (congrArg some (by kernel_rfl))
  f219 := Try.func84.trans (congrArg some (by kernel_rfl))
  f224 := Try.func93.trans (congrArg some (by kernel_rfl))
  f225 := Try.func92.trans (congrArg some (by kernel_rfl))
  f266 := Try.func98.trans (congrArg some (by kernel_rfl))
  f267 := Try.func94.trans (congrArg some (by kernel_rfl))
  f314 := Try.func99.trans (congrArg some (by kernel_rfl))
  t3 := Try.underlying3
  a3 := Try.isAgg3
  z3 := Try.sizeOf3
  v3 := Try.zeroValue3
  t4 := Try.underlying4
  a4 := Try.isAgg4
  z4 := Try.sizeOf4
  v4 := Try.zeroValue4
  t5 := Try.underlying5
  a5 := Try.isAgg5
  z5 := Try.sizeOf5
  v5 := Try.zeroValue5
  t9 := Try.underlying9
  a9 := Try.isAgg9
  z9 := Try.sizeOf9
  v9 := Try.zeroValue9
  t46 := Try.underlying85
  a46 := Try.isAgg85
  z46 := Try.sizeOf85
  v46 := Try.zeroValue85
  t51 := Try.underlying100
  a51 := Try.isAgg100
  z51 := Try.sizeOf100
  v51 := Try.zeroValue100
  t146 := Try.underlying101
  a146 := Try.isAgg101
  z146 := Try.sizeOf101
  v146 := Try.zeroValue101
  g1 := by kernel_rfl }
open Go.RowKit Go.Lib in
theorem Try.strings_Index_one (s : ByteArray) (c : UInt8) (w : World) :
    Calls Try.prog 70 #[.string s, .string ⟨#[c]⟩] w fun e w' => e = .returned (.int .i64 (Lib.indexByte s.data.toList c)) ∧ w' = w := Any.strings_Index_one Try.lays143 s c w
open Go.RowKit Go.Lib in
theorem Try.strings_Index (s sub : ByteArray) (m : Int) (w : World) (hs : s.size < 4294967281) (hm : w.cell? ⟨0, 0, none⟩ = some (.int .i64 m)) :
    Calls Try.prog 70 #[.string s, .string sub] w fun e w' => e = .returned (.int .i64 (Lib.index s.data.toList sub.data.toList)) ∧ w' = w := Any.strings_Index Try.lays143 s sub m w hs hm
def Try.laysM219_ren : Go.Shelf.Ren := ⟨fun | 219 => 84 | 217 => 91 | 225 => 92 | 224 => 93 | 267 => 94 | 266 => 98 | 314 => 99 | n => n, fun | 9 => 9 | 3 => 3 | 4 => 4 | 5 => 5 | 46 => 85 | 146 => 101 | 51 => 100 | n => n, fun | 1 => 0 | n => n⟩
theorem Try.laysM219 : Go.Proofs.LaysM.n219 Try.prog Try.laysM219_ren := {
  mixed := by kernel_rfl
  f217 := Try.func91.trans (congrArg some (by kernel_rfl))
  f219 := Try.func84.trans (congrArg some (by kernel_rfl))
  f224 := Try.func93.trans (congrArg some (by kernel_rfl))
  f225 := Try.func92.trans (congrArg some (by kernel_rfl))
  f266 := Try.func98.trans (congrArg some (by kernel_rfl))
  f267 := Try.func94.trans (congrArg some (by kernel_rfl))
  f314 := Try.func99.trans (congrArg some (by kernel_rfl))
  t3 := Try.underlying3
  a3 := Try.isAgg3
  z3 := Try.sizeOf3
  v3 := Try.zeroValue3
  t4 := Try.underlying4
  a4 := Try.isAgg4
  z4 := Try.sizeOf4
  v4 := Try.zeroValue4
  t5 := Try.underlying5
  a5 := Try.isAgg5
  z5 := Try.sizeOf5
  v5 := Try.zeroValue5
  t9 := Try.underlying9
  a9 := Try.isAgg9
  z9 := Try.sizeOf9
  v9 := Try.zeroValue9
  t46 := Try.underlying85
  a46 := Try.isAgg85
  z46 := Try.sizeOf85
  v46 := Try.zeroValue85
  t51 := Try.underlying100
  a51 := Try.isAgg100
  z51 := Try.sizeOf100
  v51 := Try.zeroValue100
  t146 := Try.underlying101
  a146 := Try.isAgg101
  z146 := Try.sizeOf101
  v146 := Try.zeroValue101
  g1 := by kernel_rfl
  i3 := by kernel_rfl
  i4 := by kernel_rfl
  i5 := by kernel_rfl
  i9 := by kernel_rfl
  i46 := by kernel_rfl
  i51 := by kernel_rfl
  i146 := by kernel_rfl
  m1 := by kernel_rfl
  s1_3 := fun w h => Go.Proofs.cell_of_shapedOpen_int (zero := #[.int .i64 0]) (t := 3) h (of_decide_eq_true (by kernel_rfl)) (by kernel_rfl) rfl (by kernel_rfl) (by kernel_rfl) Try.underlying3 }
open Go.RowKit Go.Lib in
theorem Try.stringslite_Index_shaped (s sub : ByteArray) (w : World) (h : w.ShapedOpen Try.prog) (hs : s.size < 4294967281) :
    Calls Try.prog 84 #[.string s, .string sub] w fun e w' => e = .returned (.int .i64 (Lib.index s.data.toList sub.data.toList)) ∧ w' = w := Any.stringslite_Index_shaped Try.laysM219 s sub w h hs
def Try.laysM143_ren : Go.Shelf.Ren := ⟨fun | 143 => 70 | 219 => 84 | 217 => 91 | 225 => 92 | 224 => 93 | 267 => 94 | 266 => 98 | 314 => 99 | n => n, fun | 9 => 9 | 3 => 3 | 4 => 4 | 5 => 5 | 46 => 85 | 146 => 101 | 51 => 100 | n => n, fun | 1 => 0 | n => n⟩
theorem Try.laysM143 : Go.Proofs.LaysM.n143 Try.prog Try.laysM143_ren := {
  mixed := by kernel_rfl
  f143 := Try.func70.trans (congrArg some (by kernel_rfl))
  f217 := Try.func91.trans (congrArg some (by kernel_rfl))
  f219 := Try.func84.trans (congrArg some (by kernel_rfl))
  f224 := Try.func93.trans (congrArg some (by kernel_rfl))
  f225 := Try.func92.trans (congrArg some (by kernel_rfl))
  f266 := Try.func98.trans (congrArg some (by kernel_rfl))
  f267 := Try.func94.trans (congrArg some (by kernel_rfl))
  f314 := Try.func99.trans (congrArg some (by kernel_rfl))
  t3 := Try.underlying3
  a3 := Try.isAgg3
  z3 := Try.sizeOf3
  v3 := Try.zeroValue3
  t4 := Try.underlying4
  a4 := Try.isAgg4
  z4 := Try.sizeOf4
  v4 := Try.zeroValue4
  t5 := Try.underlying5
  a5 := Try.isAgg5
  z5 := Try.sizeOf5
  v5 := Try.zeroValue5
  t9 := Try.underlying9
  a9 := Try.isAgg9
  z9 := Try.sizeOf9
  v9 := Try.zeroValue9
  t46 := Try.underlying85
  a46 := Try.isAgg85
  z46 := Try.sizeOf85
  v46 := Try.zeroValue85
  t51 := Try.underlying100
  a51 := Try.isAgg100
  z51 := Try.sizeOf100
  v51 := Try.zeroValue100
  t146 := Try.underlying101
  a146 := Try.isAgg101
  z146 := Try.sizeOf101
  v146 := Try.zeroValue101
  g1 := by kernel_rfl
  i3 := by kernel_rfl
  i4 := by kernel_rfl
  i5 := by kernel_rfl
  i9 := by kernel_rfl
  i46 := by kernel_rfl
  i51 := by kernel_rfl
  i146 := by kernel_rfl
  m1 := by kernel_rfl
  s1_3 := fun w h => Go.Proofs.cell_of_shapedOpen_int (zero := #[.int .i64 0]) (t := 3) h (of_decide_eq_true (by kernel_rfl)) (by kernel_rfl) rfl (by kernel_rfl) (by kernel_rfl) Try.underlying3 }
open Go.RowKit Go.Lib in
theorem Try.strings_Index_shaped (s sub : ByteArray) (w : World) (h : w.ShapedOpen Try.prog) (hs : s.size < 4294967281) :
    Calls Try.prog 70 #[.string s, .string sub] w fun e w' => e = .returned (.int .i64 (Lib.index s.data.toList sub.data.toList)) ∧ w' = w := Any.strings_Index_shaped Try.laysM143 s sub w h hs
def Try.lays109_ren : Go.Shelf.Ren := ⟨fun | 109 => 81 | n => n, fun | 31 => 77 | 9 => 9 | 3 => 3 | 0 => 0 | 4 => 4 | n => n, fun | n => n⟩
theorem Try.lays109 : Go.Proofs.Lays.n109 Try.prog Try.lays109_ren := {
  mixed := by kernel_rfl
  f109 := Try.func81.trans (congrArg some (by kernel_rfl))
  t0 := Try.underlying0
  a0 := Try.isAgg0
  z0 := Try.sizeOf0
  v0 := Try.zeroValue0
  t3 := Try.underlying3
  a3 := Try.isAgg3
  z3 := Try.sizeOf3
  v3 := Try.zeroValue3
  t4 := Try.underlying4
  a4 := Try.isAgg4
  z4 := Try.sizeOf4
  v4 := Try.zeroValue4
  t9 := Try.underlying9
  a9 := Try.isAgg9
  z9 := Try.sizeOf9
  v9 := Try.zeroValue9
  t31 := Try.underlying77
  a31 := Try.isAgg77
  z31 := Try.sizeOf77
  v31 := Try.zeroValue77 }
open Go.Lib in
theorem Try.slices_Index_string (b off n c : Nat) (zs : List ByteArray) (x : ByteArray) (w : World) (hz : n ≤ zs.length) (hbig : n ≤ 9223372036854775807) (hc : ∀ j, j < zs.length → w.cell? ⟨b, off + j, none⟩ = some (.string (zs.getD j ByteArray.empty))) :
    Calls Try.prog 81 #[.slice (some ⟨b, off, none⟩) n c, .string x] w fun e w' => e = .returned (.int .i64 (Lib.idxOfS (zs.take n) x)) ∧ w' = w := Any.slices_Index_string Try.lays109 b off n c zs x w hz hbig hc
open Go.Lib in
theorem Try.slices_Index_string_empty (a : Option Addr) (c : Nat) (x : ByteArray) (w : World) :
    Calls Try.prog 81 #[.slice a 0 c, .string x] w fun e w' => e = .returned (.int .i64 (Lib.idxOfS [] x)) ∧ w' = w := Any.slices_Index_string_empty Try.lays109 a c x w
def Try.lays110_ren : Go.Shelf.Ren := ⟨fun | 110 => 62 | 109 => 81 | n => n, fun | 31 => 77 | 9 => 9 | 4 => 4 | 3 => 3 | 0 => 0 | n => n, fun | n => n⟩
theorem Try.lays110 : Go.Proofs.Lays.n110 Try.prog Try.lays110_ren := {
  mixed := by kernel_rfl
  f109 := Try.func81.trans (congrArg some (by kernel_rfl))
  f110 := Try.func62.trans (congrArg some (by kernel_rfl))
  t0 := Try.underlying0
  a0 := Try.isAgg0
  z0 := Try.sizeOf0
  v0 := Try.zeroValue0
  t3 := Try.underlying3
  a3 := Try.isAgg3
  z3 := Try.sizeOf3
  v3 := Try.zeroValue3
  t4 := Try.underlying4
  a4 := Try.isAgg4
  z4 := Try.sizeOf4
  v4 := Try.zeroValue4
  t9 := Try.underlying9
  a9 := Try.isAgg9
  z9 := Try.sizeOf9
  v9 := Try.zeroValue9
  t31 := Try.underlying77
  a31 := Try.isAgg77
  z31 := Try.sizeOf77
  v31 := Try.zeroValue77 }
open Go.Lib in
theorem Try.slices_Contains_string (b off n c : Nat) (zs : List ByteArray) (x : ByteArray) (w : World) (hz : n ≤ zs.length) (hbig : n ≤ 9223372036854775807) (hc : ∀ j, j < zs.length → w.cell? ⟨b, off + j, none⟩ = some (.string (zs.getD j ByteArray.empty))) :
    Calls Try.prog 62 #[.slice (some ⟨b, off, none⟩) n c, .string x] w fun e w' => e = .returned (.bool (Lib.containsS (zs.take n) x)) ∧ w' = w := Any.slices_Contains_string Try.lays110 b off n c zs x w hz hbig hc
open Go.Lib in
theorem Try.slices_Contains_string_empty (a : Option Addr) (c : Nat) (x : ByteArray) (w : World) :
    Calls Try.prog 62 #[.slice a 0 c, .string x] w fun e w' => e = .returned (.bool false) ∧ w' = w := Any.slices_Contains_string_empty Try.lays110 a c x w
def Try.laysNm237_ren : Go.Shelf.Ren := ⟨fun | 37 => 86 | n => n, fun | 3 => 3 | 4 => 4 | n => n, fun | n => n⟩
theorem Try.laysNm237 : Go.Proofs.Lays2.n37 Try.prog Try.laysNm237_ren := {
  mixed := by kernel_rfl
  f37 := Try.func86.trans (congrArg some (by kernel_rfl))
  t3 := Try.underlying3
  a3 := Try.isAgg3
  z3 := Try.sizeOf3
  v3 := Try.zeroValue3
  t4 := Try.underlying4
  a4 := Try.isAgg4
  z4 := Try.sizeOf4
  v4 := Try.zeroValue4 }
open Go.RowKit Go.Lib in
theorem Try.cmp_isNaN_int2 (x : Int) (w : World) :
    Calls Try.prog 86 #[.int .i64 x] w fun e w' => e = .returned (.bool false) ∧ w' = w := Any.cmp_isNaN_int2 Try.laysNm237 x w
def Try.laysNm232_ren : Go.Shelf.Ren := ⟨fun | 32 => 73 | n => n, fun | 3 => 3 | 4 => 4 | n => n, fun | n => n⟩
theorem Try.laysNm232 : Go.Proofs.Lays2.n32 Try.prog Try.laysNm232_ren := {
  mixed := by kernel_rfl
  f32 := Try.func73.trans (congrArg some (by kernel_rfl))
  t3 := Try.underlying3
  a3 := Try.isAgg3
  z3 := Try.sizeOf3
  v3 := Try.zeroValue3
  t4 := Try.underlying4
  a4 := Try.isAgg4
  z4 := Try.sizeOf4
  v4 := Try.zeroValue4 }
open Go.RowKit Go.Lib in
theorem Try.slices_isNaN_int2 (x : Int) (w : World) :
    Calls Try.prog 73 #[.int .i64 x] w fun e w' => e = .returned (.bool false) ∧ w' = w := Any.slices_isNaN_int2 Try.laysNm232 x w
def Try.laysNm231_ren : Go.Shelf.Ren := ⟨fun | 31 => 72 | 37 => 86 | n => n, fun | 3 => 3 | 4 => 4 | n => n, fun | n => n⟩
theorem Try.laysNm231 : Go.Proofs.Lays2.n31 Try.prog Try.laysNm231_ren := {
  mixed := by kernel_rfl
  f31 := Try.func72.trans (congrArg some (by kernel_rfl))
  f37 := Try.func86.trans (congrArg some (by kernel_rfl))
  t3 := Try.underlying3
  a3 := Try.isAgg3
  z3 := Try.sizeOf3
  v3 := Try.zeroValue3
  t4 := Try.underlying4
  a4 := Try.isAgg4
  z4 := Try.sizeOf4
  v4 := Try.zeroValue4 }
open Go.RowKit Go.Lib in
theorem Try.cmp_Less_int2 (x y : Int) (w : World) :
    Calls Try.prog 72 #[.int .i64 x, .int .i64 y] w fun e w' => e = .returned (.bool (decide (x < y))) ∧ w' = w := Any.cmp_Less_int2 Try.laysNm231 x y w
def Try.laysNm225_ren : Go.Shelf.Ren := ⟨fun | 25 => 55 | 31 => 72 | 32 => 73 | 37 => 86 | n => n, fun | 22 => 47 | 3 => 3 | 4 => 4 | 40 => 85 | 0 => 0 | n => n, fun | n => n⟩
theorem Try.laysNm225 : Go.Proofs.Lays2.n25 Try.prog Try.laysNm225_ren := {
  mixed := by kernel_rfl
  f25 := Try.func55.trans (congrArg some (by kernel_rfl))
  f31 := Try.func72.trans (congrArg some (by kernel_rfl))
  f32 := Try.func73.trans (congrArg some (by kernel_rfl))
  f37 := Try.func86.trans (congrArg some (by kernel_rfl))
  t0 := Try.underlying0
  a0 := Try.isAgg0
  z0 := Try.sizeOf0
  v0 := Try.zeroValue0
  t3 := Try.underlying3
  a3 := Try.isAgg3
  z3 := Try.sizeOf3
  v3 := Try.zeroValue3
  t4 := Try.underlying4
  a4 := Try.isAgg4
  z4 := Try.sizeOf4
  v4 := Try.zeroValue4
  t22 := Try.underlying47
  a22 := Try.isAgg47
  z22 := Try.sizeOf47
  v22 := Try.zeroValue47
  t40 := Try.underlying85
  a40 := Try.isAgg85
  z40 := Try.sizeOf85
  v40 := Try.zeroValue85 }
open Go.RowKit Go.Lib in
theorem Try.slices_BinarySearch_int (b off n c : Nat) (zs : List Int) (x : Int) (w : World) (hz : n ≤ zs.length) (hbig : n < 4611686018427387904) (hc : ∀ j, j < zs.length → w.cell? ⟨b, off + j, none⟩ = some (.int .i64 (zs.getD j 0))) (hs : (zs.take n).Pairwise (· ≤ ·)) :
    Calls Try.prog 55 #[.slice (some ⟨b, off, none⟩) n c, .int .i64 x] w fun e w' => e = .returned (.tuple #[.int .i64 ((zs.take n).countP (· < x) : Nat), .bool ((zs.take n).contains x)]) ∧ ∃ q, w' = w.drewN q := Any.slices_BinarySearch_int Try.laysNm225 b off n c zs x w hz hbig hc hs
open Go.RowKit Go.Lib in
theorem Try.slices_BinarySearch_int_empty (a : Option Addr) (c : Nat) (x : Int) (w : World) :
    Calls Try.prog 55 #[.slice a 0 c, .int .i64 x] w fun e w' => e = .returned (.tuple #[.int .i64 0, .bool false]) ∧ w' = w := Any.slices_BinarySearch_int_empty Try.laysNm225 a c x w
end Go.Proofs
/- The contracts of the package line: all, find. -/
namespace Go.Proofs.Ythjlhbblflmajaa
open Go.RowKit
set_option linter.unusedVariables false
set_option linter.unusedSimpArgs false
open Go.Shelf
attribute [local go_sem] Oper.semAt_some

theorem Ext.keep {w w' : World} (h : Ext w w') {a : Addr} {v : Value} (hc : w.cell? a = some v) : w'.cell? a = some v := by rw [Below.cell h (World.block_lt_of_cell? w _ hc)]; exact hc
theorem Ext.unfr {w w' : World} (h : Ext w w') {a : Addr} {v : Value} (hc : w.cell? a = some v) (hf : w.frozen? a = false) : w'.frozen? a = false := by rw [Below.frozen h (World.block_lt_of_cell? w _ hc)]; exact hf
theorem cell_new (W : World) (v : Value) (t : TypeId) : (W.alloc (.cells #[v] t)).cell? ⟨W.heap.size, 0, none⟩ = some v := by
  have := cell_of_row (W.alloc (.cells #[v] t)) W.heap.size 0 #[v] t (0, 0) (heap_alloc_new W _); rw [this]; rfl
theorem unfr_new (W : World) (v : Value) (t : TypeId) : (W.alloc (.cells #[v] t)).frozen? ⟨W.heap.size, 0, none⟩ = false :=
  frozen_of_row _ _ 0 #[v] t (heap_alloc_new W _)
theorem cell_set_ne {W : World} {b b' o o' : Nat} {u v : Value} (h : b ≠ b') (hc : W.cell? ⟨b', o', none⟩ = some v) : (W.setCell ⟨b, o, none⟩ u).cell? ⟨b', o', none⟩ = some v := by
  have := World.cell?_of_block (w := W) (w' := W.setCell ⟨b, o, none⟩ u) (a := ⟨b', o', none⟩) (Below.heap_setCell _ _ _ _ (fun e => h e.symm))
  rw [this]; exact hc
theorem cell_set_eq {W : World} {b o : Nat} {u v : Value} (hc : W.cell? ⟨b, o, none⟩ = some v) : (W.setCell ⟨b, o, none⟩ u).cell? ⟨b, o, none⟩ = some u :=
  World.cell?_setCell_same' _ _ _ (by rw [hc]; rfl)
theorem unfr_set {W : World} {a b : Addr} {u : Value} (h : W.frozen? b = false) : (W.setCell a u).frozen? b = false := by rw [World.frozen?_setCell]; exact h
def KeepC (B : Nat) (W W' : World) : Prop := ∀ v, W.cell? ⟨B, 0, none⟩ = some v → W'.cell? ⟨B, 0, none⟩ = some v
theorem KeepC.refl (B : Nat) (W : World) : KeepC B W W := fun _ h => h
theorem KeepC.t {B : Nat} {A C D : World} (h : KeepC B A C) (k : KeepC B C D) : KeepC B A D := fun v e => k v (h v e)
theorem KeepC.b {B : Nat} {w : World} (W : World) (l : Nat) (o o' : Obj) (_ : w.heap.size ≤ l) (h : W.heap[l]? = some o) (ho : o.isCells = false) (_ : o.isWalk = false) : KeepC B W (W.putObj l o') := by
  intro v hv
  by_cases e : l = B
  · subst e
    unfold World.cell? at hv
    rw [h] at hv
    cases o <;> simp [Obj.isCells] at ho hv
  · have hne : B ≠ l := fun x => e x.symm
    rw [World.cell?_of_block (w := W) (a := ⟨B, 0, none⟩) ((World.putObj_heap_other hne))]
    exact hv
theorem KeepC.of_ext {B : Nat} {W W' : World} (h : Ext W W') : KeepC B W W' := fun v e => by rw [Below.cell h (World.block_lt_of_cell? W _ e)]; exact e
theorem KeepC.setCell {B : Nat} {W : World} {p : Addr} (h : p.block ≠ B) (u : Value) : KeepC B W (W.setCell p u) := fun v e => by
  rw [World.cell?_of_block (w := W) (a := ⟨B, 0, none⟩) (Below.heap_setCell _ _ _ _ (fun x => h x.symm))]; exact e
def encP (x : Nat × Nat) : Array Value := #[.int .i64 x.1, .int .i64 x.2]

theorem index_ten (s : ByteArray) (w : World) : Calls Try.prog 70 #[.string s, .string ⟨#[10]⟩] w fun e w' => e = .returned (.int .i64 (Lib.indexByte (ls s) 10)) ∧ w = w' :=
  (Try.strings_Index_one s 10 w).mono fun _ _ h => ⟨h.1, h.2.symm⟩

end Go.Proofs.Ythjlhbblflmajaa
/- Slices of whole numbers: what is read, and what a call has made itself. -/
namespace Go.Proofs.Ythjlhbblflmajaa
open Go.RowKit
set_option linter.unusedVariables false
set_option linter.unusedSimpArgs false
def RdI (w : World) (a : Option Addr) (xs : List Int) : Prop := ∀ j, j < xs.length → ∃ g o, a = some ⟨g, o, none⟩ ∧ w.cell? ⟨g, o + j, none⟩ = some (.int .i64 (xs.getD j 0))
theorem RdI.ext {w w' : World} {a : Option Addr} {xs : List Int} (h : RdI w a xs) (hx : Ext w w') : RdI w' a xs := by
  intro j hj
  obtain ⟨g, o, ha, hc⟩ := h j hj
  exact ⟨g, o, ha, by rw [Below.cell hx (World.block_lt_of_cell? w _ hc)]; exact hc⟩
theorem RdI.take {w : World} {a : Option Addr} {xs : List Int} (h : RdI w a xs) (n : Nat) : RdI w a (xs.take n) := by
  intro j hj
  have hl : j < xs.length := by rw [List.length_take] at hj; omega
  obtain ⟨g, o, ha, hc⟩ := h j hl
  refine ⟨g, o, ha, ?_⟩
  rw [hc]
  have : j < n := by rw [List.length_take] at hj; omega
  simp [List.getD_eq_getElem?_getD, List.getElem?_take, this]
def OwnI (base : Nat) (w : World) (a : Option Addr) (cap : Nat) (xs : List Int) : Prop := w.ownsRow base 3 1 (.slice a xs.length cap) xs.length (xs.map (Value.int .i64))
theorem OwnI.nil (base : Nat) (w : World) : OwnI base w none 0 [] := World.ownsRow_nil _ _ _ _
theorem OwnI.kept {base : Nat} {w w' : World} {row : Option Nat} {a : Option Addr} {cap : Nat} {xs : List Int} (h : OwnI base w a cap xs) (hg : w.grownBy w' row) (hne : ∀ g, row = some g → ∀ p, a = some p → p.block ≠ g) : OwnI base w' a cap xs := by
  refine World.ownsRow.kept h hg ?_
  cases a with
  | none => exact .inl rfl
  | some p => right; intro e; exact hne _ e.symm p rfl rfl
theorem OwnI.ext {base : Nat} {w w' : World} {a : Option Addr} {cap : Nat} {xs : List Int} (h : OwnI base w a cap xs) (hx : Ext w w') : OwnI base w' a cap xs :=
  World.ownsRow.kept h ⟨hx.os, hx.tape, hx.output, hx.size, fun k hk _ => Below.block hx k hk⟩ (row := none) (by cases a <;> simp [Value.ownBlock])
theorem OwnI.le {base base' : Nat} {w : World} {a : Option Addr} {cap : Nat} {xs : List Int} (h : OwnI base w a cap xs) (hb : base' ≤ base) : OwnI base' w a cap xs := Go.Joins.ownsRow_le h hb
theorem OwnI.rd {base : Nat} {w : World} {a : Option Addr} {cap : Nat} {xs : List Int} (h : OwnI base w a cap xs) : RdI w a xs := by
  intro j hj
  have hs := Go.Joins.ownsRow_form h (by omega)
  obtain ⟨g, c, hv⟩ := hs
  simp only [Value.slice.injEq] at hv
  obtain ⟨rfl, -, rfl⟩ := hv
  refine ⟨g, 0, rfl, ?_⟩
  rw [Nat.zero_add, World.ownsRow.cellAt h j (by omega)]
  simp [List.getD_eq_getElem?_getD, List.getElem?_map, List.getElem?_eq_getElem hj]
theorem OwnI.lt {base : Nat} {w : World} {a : Option Addr} {cap : Nat} {xs : List Int} (h : OwnI base w a cap xs) : ∀ p, a = some p → base ≤ p.block ∧ p.block < w.heap.size := by
  rintro p rfl
  exact World.ownsRow.lt h p.block rfl
theorem OwnI.lit {base : Nat} (W : World) (hb : base ≤ W.heap.size) (xs : List Int) (cs : Array Value) (hc : cs = (xs.map (Value.int .i64)).toArray) (hm : xs.length ≤ 1000) : OwnI base (W.alloc (.cells cs 3)) (some ⟨W.heap.size, 0, none⟩) xs.length xs := by
  subst hc
  have := World.ownsRow_lit (base := base) (e := 3) (size := 1) W (xs.map (Value.int .i64)).toArray xs.length hb (by unfold maxLen; omega) (by simp)
  simpa [OwnI] using this
theorem Try.infoInt : (Try.prog.info? 3).map (fun i => (i.zero, i.size, i.bytes)) = some (some (.int .i64 0), 1, 8) := by kernel_rfl
theorem app_i {ops : Array Oper} {rest : List Oper} {o : Oper} {act : Act} {Q : Exit → Act → World → Prop} (w0 W : World) (hgd : o.guard = none) (s x : Operand)
    (ho : o.op = .call { callee := .builtin .append, args := #[s, x], argTypes := #[47, 47] }) (a : Option Addr) (cap : Nat) (xs : List Int) (y : Int)
    (hs : act.eval s = .slice a xs.length cap) (hown : OwnI w0.heap.size W a cap xs) (he : Ext w0 W) (hx : act.eval x = .slice (some ⟨W.heap.size, 0, none⟩) 1 1) (hb : xs.length ≤ 1099511627776)
    (h : ∀ a' cap' w', OwnI w0.heap.size w' a' cap' (xs ++ [y]) → Ext w0 w' → wpList Try.prog ops Q rest (act.put o.dst (.slice a' (xs.length + 1) cap')) w') :
    wpList Try.prog ops Q (o :: rest) act (W.alloc (.cells #[.int .i64 y] 3)) := by
  obtain ⟨i0, hi, hz0, hz1, hz2⟩ := info_parts Try.infoInt
  refine wpList_append_own _ hgd s x 47 ho w0.heap.size 3 i0 (.int .i64 0) 1 8 Try.underlying47 hi hz0 hz1 hz2 rfl (by decide) _ xs.length (xs.map (Value.int .i64)) hs (hown.alloc _) ⟨W.heap.size, 0, none⟩ 1 1 [.int .i64 y] hx rfl ?_ (by simp [Value.oneCell']) (by unfold maxLen; omega) (by omega) (by have := he.size; simp; omega) ?_
  · intro j u hj
    match j, hj with
    | 0, hj =>
      simp at hj; subst hj
      have := cell_of_row (W.alloc (.cells #[.int .i64 y] 3)) W.heap.size 0 #[.int .i64 y] 3 (0, 0) (heap_alloc_new W _)
      simp [Addr.add]
  · intro v' w' hown' hg hnil
    obtain ⟨g, c, rfl⟩ := Go.Joins.ownsRow_form hown' (by omega)
    have e1 : Ext w0 w' := by
      refine Below.trans (Below.alloc he he.size (.cells #[.int .i64 y] 3)) ⟨hg.os, hg.tape, hg.output, hg.size, fun k hk => hg.block k (by have := he.size; simp; omega) ?_⟩
      intro e
      cases a with
      | none => simp [Value.ownBlock] at e
      | some p => have := hown.lt p rfl; simp [Value.ownBlock] at e; omega
    refine h (some ⟨g, 0, none⟩) c w' ?_ e1
    simpa [OwnI] using hown'

end Go.Proofs.Ythjlhbblflmajaa
/- The contract of line.find. -/
namespace Go.Proofs.Ythjlhbblflmajaa
open Go.RowKit
set_option linter.unusedVariables false
set_option linter.unusedSimpArgs false
open Go.Shelf
attribute [local go_sem] Oper.semAt_some

theorem ret3b {a b a' b' : Int} {c c' : Bool} (h1 : a = a') (h2 : b = b') (h3 : c = c') : Ending.returned (.tuple #[.int .i64 a, .int .i64 b, .bool c]) = .returned (.tuple #[.int .i64 a', .int .i64 b', .bool c']) := by rw [h1, h2, h3]
theorem line_none {l : List UInt8} {k : Int} (h : lineI l k = none) : startI l k = -1 ∧ endI l k = -1 ∧ (lineI l k).isSome = false := by
  unfold startI endI; rw [h]; exact ⟨rfl, rfl, rfl⟩
theorem line_some {l : List UInt8} {k : Int} {x : Nat × Nat} (h : lineI l k = some x) : startI l k = x.1 ∧ endI l k = x.2 ∧ (lineI l k).isSome = true := by
  unfold startI endI; rw [h]; exact ⟨rfl, rfl, rfl⟩

theorem lfind_start (w w1 : World) (k : Int) (hx1 : Ext ((((w.alloc (.cells #[.int .i64 k] 3)).alloc (.cells #[.int .i64 0] 3)).alloc (.cells #[.int .i64 0] 3)).alloc (.cells #[.bool false] 4)) w1) :
    w.heap.size + 4 ≤ w1.heap.size ∧ Ext w w1 ∧ w1.cell? ⟨w.heap.size, 0, none⟩ = some (.int .i64 k) ∧
      (w1.cell? ⟨w.heap.size + 1, 0, none⟩ = some (.int .i64 0) ∧ w1.frozen? ⟨w.heap.size + 1, 0, none⟩ = false) ∧
      (w1.cell? ⟨w.heap.size + 1 + 1, 0, none⟩ = some (.int .i64 0) ∧ w1.frozen? ⟨w.heap.size + 1 + 1, 0, none⟩ = false) ∧
      (w1.cell? ⟨w.heap.size + 1 + 1 + 1, 0, none⟩ = some (.bool false) ∧ w1.frozen? ⟨w.heap.size + 1 + 1 + 1, 0, none⟩ = false) := by
  have hz := hx1.size
  simp at hz
  obtain ⟨hc, hf, -⟩ := hx1.rules
  simp only [World.size_alloc] at hc hf
  refine ⟨by omega, ((((Ext.refl w).alloc _).alloc _).alloc _).alloc _ |>.trans hx1, ?_, ⟨?_, ?_⟩, ⟨?_, ?_⟩, ⟨?_, ?_⟩⟩
  · rw [hc _ _ (by omega)]; simp [go_sem]
  · rw [hc _ _ (by omega)]; simp [go_sem]
  · rw [hf _ _ (by omega)]; simp [go_sem]
  · rw [hc _ _ (by omega)]; simp [go_sem]
  · rw [hf _ _ (by omega)]; simp [go_sem]
  · rw [hc _ _ (by omega)]; simp [go_sem]
  · rw [hf _ _ (by omega)]; simp [go_sem]
end Go.Proofs.Ythjlhbblflmajaa
/- The contracts of the package line. -/
namespace Go.Proofs.Ythjlhbblflmajaa
open Go.RowKit
set_option linter.unusedVariables false
set_option linter.unusedSimpArgs false

theorem lineI_bd {s : ByteArray} {k : Int} : -1 ≤ startI (ls s) k ∧ startI (ls s) k ≤ s.size ∧ -1 ≤ endI (ls s) k ∧ endI (ls s) k ≤ s.size := by
  cases h : lineI (ls s) k with
  | none => have := line_none h; omega
  | some x =>
    have := line_some h
    have := lineI_le h
    rw [ls_len] at this
    omega
theorem fds_ext (s : ByteArray) (p : Nat) : tens (ls (s.extract 0 p)) = fds (ls s) p := by
  rw [ls_ext2]; simp [fds]
theorem ends_str (s : ByteArray) (k : Nat) (h : k < s.size) : ((s.extract k (k + 1)).toList == [10]) = endsB (ls s) k := by
  rw [Lib.toList_data, Lib.extract_data]
  have h' : k < s.data.toList.length := by rw [← Lib.size_eq]; exact h
  have hk : k ≠ (ls s).length := by rw [ls_len]; omega
  have e : (List.take (k + 1 - k) (List.drop k s.data.toList)) = [s.data.toList[k]] := by
    rw [Nat.add_sub_cancel_left, List.drop_eq_getElem_cons h']; rfl
  rw [e]
  unfold endsB
  simp only [byL_ten (l := ls s) (by rw [ls_len]; exact h)]
  have hk2 : k ≠ s.size := by omega
  rw [Bool.eq_iff_iff]
  simp [hk2]
end Go.Proofs.Ythjlhbblflmajaa
/- The contracts of the package class: the classes of runes, and where runes of one stand. -/
namespace Go.Proofs.Ythjlhbblflmajaa
open Go.RowKit
set_option linter.unusedVariables false
set_option linter.unusedSimpArgs false
set_option maxHeartbeats 4000000 in
set_option maxRecDepth 100000 in
theorem letter_c (b : Int) (w : World) : Calls Try.prog 97 #[.int .u8 b] w fun e w' => e = .returned (.bool (lettB b)) ∧ Ext w w' := by
  go_enter Try.func97, Try.ntmps97
  go_wp2
  all_goals (go_ret; refine ⟨retb ?_, (by (repeat (first | exact Ext.refl _ | exact ‹Ext _ _› | refine Ext.alloc ?_ _ | refine Ext.drew ?_ | refine Ext.drewN ?_ _ | (refine Ext.setCell ?_ (by first | omega | (simp; done) | (simp; omega)) _) | refine Ext.trans ?_ ‹Ext _ _›)))⟩; unfold lettB; rw [Bool.eq_iff_iff]; simp; omega)
set_option maxHeartbeats 4000000 in
set_option maxRecDepth 100000 in
theorem of_c (b : Int) (w : World) : Calls Try.prog 87 #[.int .u8 b] w fun e w' => e = .returned (.int .i64 (ofB b)) ∧ Ext w w' := by
  go_enter Try.func87, Try.ntmps87
  go_wp2_with (first | (go_at_call 97; refine (letter_c _ _).mono ?_; rintro e w1 ⟨rfl, hx1⟩))
  all_goals (try simp only [beq_iff_eq, beq_eq_false_iff_ne] at *)
  all_goals (go_ret; refine ⟨ret1 ?_, (by (repeat (first | exact Ext.refl _ | exact ‹Ext _ _› | refine Ext.alloc ?_ _ | refine Ext.drew ?_ | refine Ext.drewN ?_ _ | (refine Ext.setCell ?_ (by first | omega | (simp; done) | (simp; omega)) _) | refine Ext.trans ?_ ‹Ext _ _›)))⟩; unfold ofB; repeat' split)
  all_goals first | rfl | (exfalso; omega) | (exfalso; simp_all <;> omega)
set_option maxHeartbeats 4000000 in
set_option maxRecDepth 100000 in
theorem cof_c (s : ByteArray) (p : Int) (w : World) (hs : s.size ≤ 1099511627775) : Calls Try.prog 75 #[.string s, .int .i64 p] w fun e w' => e = .returned (.int .i64 (clsI (ls s) p)) ∧ Ext w w' := by
  by_cases h0 : p < 0 ∨ (s.size : Int) ≤ p
  · have Hc : Hid (clsI (ls s) p = 0) := Lib.hid (by
      unfold clsI; rw [if_neg]
      rintro ⟨h1, h2⟩
      unfold placeB at h1; simp only [Bool.and_eq_true, decide_eq_true_eq, ls_len] at h1
      rw [ls_len] at h2; omega)
    go_enter Try.func75, Try.ntmps75
    go_wp2_with (first | (go_at_call 35; refine (place_c _ _ _ (by omega)).mono ?_; rintro e w1 ⟨rfl, hx1⟩))
    all_goals (first | (go_ret; exact ⟨ret1 Hc.out.symm, (by (repeat (first | exact Ext.refl _ | exact ‹Ext _ _› | refine Ext.alloc ?_ _ | refine Ext.drew ?_ | refine Ext.drewN ?_ _ | (refine Ext.setCell ?_ (by first | omega | (simp; done) | (simp; omega)) _) | refine Ext.trans ?_ ‹Ext _ _›)))⟩) | (exfalso; omega))
  · obtain ⟨k, rfl⟩ : ∃ k : Nat, p = k := ⟨p.toNat, by omega⟩
    have hk : k < s.size := by omega
    clear h0
    have Hb := Lib.hid (byL_eq s k hk)
    rcases Bool.eq_false_or_eq_true (placeB (ls s) k) with hp | hp
    · have Hc : Hid (clsI (ls s) k = ofB ↑s[k].toNat) := Lib.hid (by unfold clsI; rw [if_pos ⟨hp, by rw [ls_len]; omega⟩, Int.toNat_natCast, Hb.out])
      go_enter Try.func75, Try.ntmps75
      go_wp2_with (first | (go_at_call 35; refine (place_c _ _ _ (by omega)).mono ?_; rintro e w1 ⟨rfl, hx1⟩) | (go_at_call 87; refine (of_c _ _).mono ?_; rintro e w1 ⟨rfl, hx1⟩))
      all_goals (go_ret; exact ⟨ret1 Hc.out.symm, (by (repeat (first | exact Ext.refl _ | exact ‹Ext _ _› | refine Ext.alloc ?_ _ | refine Ext.drew ?_ | refine Ext.drewN ?_ _ | (refine Ext.setCell ?_ (by first | omega | (simp; done) | (simp; omega)) _) | refine Ext.trans ?_ ‹Ext _ _›)))⟩)
    · have Hc : Hid (clsI (ls s) k = 0) := Lib.hid (by unfold clsI; simp [hp])
      go_enter Try.func75, Try.ntmps75
      go_wp2_with (first | (go_at_call 35; refine (place_c _ _ _ (by omega)).mono ?_; rintro e w1 ⟨rfl, hx1⟩) | (go_at_call 87; refine (of_c _ _).mono ?_; rintro e w1 ⟨rfl, hx1⟩))
      all_goals (go_ret; exact ⟨ret1 Hc.out.symm, (by (repeat (first | exact Ext.refl _ | exact ‹Ext _ _› | refine Ext.alloc ?_ _ | refine Ext.drew ?_ | refine Ext.drewN ?_ _ | (refine Ext.setCell ?_ (by first | omega | (simp; done) | (simp; omega)) _) | refine Ext.trans ?_ ‹Ext _ _›)))⟩)
set_option maxHeartbeats 4000000 in
set_option maxRecDepth 100000 in
theorem cbig_c (s : ByteArray) (p : Int) (w : World) (hs : s.size ≤ 1099511627775) : Calls Try.prog 76 #[.string s, .int .i64 p] w fun e w' => e = .returned (.int .i64 (bigI (ls s) p)) ∧ Ext w w' := by
  go_enter Try.func76, Try.ntmps76
  go_wp2_with (first | (go_at_call 75; refine (cof_c _ _ _ hs).mono ?_; rintro e w1 ⟨rfl, hx1⟩))
  all_goals (try simp only [beq_iff_eq, beq_eq_false_iff_ne] at *)
  all_goals (go_ret; refine ⟨ret1 ?_, (by (repeat (first | exact Ext.refl _ | exact ‹Ext _ _› | refine Ext.alloc ?_ _ | refine Ext.drew ?_ | refine Ext.drewN ?_ _ | (refine Ext.setCell ?_ (by first | omega | (simp; done) | (simp; omega)) _) | refine Ext.trans ?_ ‹Ext _ _›)))⟩; unfold bigI)
  · rw [if_pos (by assumption)]
  · rw [if_neg (by assumption)]

theorem run_none {l : List UInt8} {p : Int} {big : Bool} (h : kindI l p big = 0 ∨ kindI l p big = 4) : (runI l p big).1 = -1 ∧ (runI l p big).2 = -1 := by unfold runI; rw [if_pos h]; exact ⟨rfl, rfl⟩
theorem kind_place {l : List UInt8} {p : Int} {big : Bool} (h : kindI l p big ≠ 0) : ∃ k : Nat, p = k ∧ k < l.length ∧ placeB l k = true := by
  have hc : clsI l p ≠ 0 := by
    intro e; apply h; unfold kindI bigI; rw [e]; cases big <;> simp
  unfold clsI at hc
  by_cases hp : placeB l p = true ∧ p ≠ l.length
  · have h1 := hp.1
    unfold placeB at h1; simp only [Bool.and_eq_true, decide_eq_true_eq] at h1
    have h2 := hp.2
    refine ⟨p.toNat, by omega, by omega, ?_⟩
    rw [Int.toNat_of_nonneg (by omega)]; exact hp.1
  · rw [if_neg hp] at hc; exact absurd rfl hc

end Go.Proofs.Ythjlhbblflmajaa
/- The contracts of hop.Starts and hop.Ends: an iterator with variables of its own. -/
namespace Go.Proofs.Ythjlhbblflmajaa
open Go.RowKit
set_option linter.unusedVariables false
set_option linter.unusedSimpArgs false
open Go.Shelf
attribute [local go_sem] Oper.semAt_some

theorem YieldAt.wide {n m : Nat} {P : Program} {l : Nat} {args : Array Value} {W : World} {R : Ending → World → Prop} (h : YieldAt Fence.wide n P l args W R) : YieldAt Fence.wide m P l args W R := by
  obtain ⟨fn, tmps, assign, body, hy, hR⟩ := h
  exact ⟨fn, tmps, assign, body, hy, hR.1, fun c cs _ => hR.2 c cs (by simp [Fence.room, Fence.wide])⟩
def PB (Pv : World → Nat → Prop) (W : World) (B : Nat) (t : TypeId) (v : Value) : Prop := Boxed W B t v ∧ Pv W B
def StP (Pv : World → Nat → Prop) (B0 : Nat) (A B : World) : Prop := Below A.heap.size A B ∨ ∃ r u, B0 ≤ r ∧ Pv A r ∧ B = A.setCell ⟨r, 0, none⟩ u
def KpP (Pv : World → Nat → Prop) (W W' : World) : Prop := ∀ r t u, Pv W r → Boxed W r t u → Pv W' r ∧ Boxed W' r t u
structure PvOk (Pv : World → Nat → Prop) : Prop where
  below : ∀ A B r, Pv A r → Below A.heap.size A B → Pv B r
  set : ∀ A r r' u, Pv A r → Pv A r' → Pv (A.setCell ⟨r', 0, none⟩ u) r
theorem Boxed.below {A B : World} {r : Nat} {t : TypeId} {v : Value} (h : Boxed A r t v) (hb : Below A.heap.size A B) : Boxed B r t v := (Below.block hb r h.lt).trans h
theorem PB.below {Pv : World → Nat → Prop} (ok : PvOk Pv) {A B : World} {r : Nat} {t : TypeId} {v : Value} (h : PB Pv A r t v) (hb : Below A.heap.size A B) : PB Pv B r t v := ⟨Boxed.below h.1 hb, ok.below A B r h.2 hb⟩
theorem PB.other {Pv : World → Nat → Prop} (ok : PvOk Pv) {A : World} {r r' : Nat} {t : TypeId} {v u : Value} (h : PB Pv A r t v) (h' : Pv A r') (hne : r ≠ r') : PB Pv (A.setCell ⟨r', 0, none⟩ u) r t v :=
  ⟨h.1.kept (grownBy_setCell' A r' u) (by simpa using hne), ok.set A r r' u h.2 h'⟩
theorem PB.self {Pv : World → Nat → Prop} (ok : PvOk Pv) {A : World} {r : Nat} {t : TypeId} {v : Value} (h : PB Pv A r t v) (u : Value) : PB Pv (A.setCell ⟨r, 0, none⟩ u) r t u :=
  ⟨h.1.set u, ok.set A r r u h.2 h.2⟩
theorem PB.keep {Pv : World → Nat → Prop} {A B : World} {r : Nat} {t : TypeId} {v : Value} (h : PB Pv A r t v) (k : KpP Pv A B) : PB Pv B r t v := ⟨(k r t v h.2 h.1).2, (k r t v h.2 h.1).1⟩
theorem PB.cell {Pv : World → Nat → Prop} {A : World} {r : Nat} {t : TypeId} {v : Value} (h : PB Pv A r t v) : A.cell? ⟨r, 0, none⟩ = some v ∧ A.frozen? ⟨r, 0, none⟩ = false := ⟨h.1.cell, h.1.frozen⟩
def encW (x : Nat × Int) : Array Value := #[.int .i64 x.1, .int .i64 x.2]

def Yielded (Pv : World → Nat → Prop) (J Jx : List (Nat × Int) → World → Prop) (pre : List (Nat × Int)) (W : World) (e : Ending) (W' : World) : Prop :=
  (e = .returned (.bool true) ∧ J pre W' ∧ KpP Pv W W') ∨ (e = .returned (.bool false) ∧ Jx pre W')
set_option maxHeartbeats 4000000 in
set_option maxRecDepth 100000 in
theorem flush0 (n : Nat) (B4 B3 B5 B6 : Nat) (W : World) (h4 : W.cell? ⟨B4, 0, none⟩ = some (.int .i64 0)) :
    CallsIn Fence.wide n Try.prog 78 #[.pointer (some ⟨B4, 0, none⟩), .pointer (some ⟨B3, 0, none⟩), .pointer (some ⟨B5, 0, none⟩), .pointer (some ⟨B6, 0, none⟩)] W fun e W' => e = .returned (.bool true) ∧ W = W' := by
  refine callsIn_of_wp Try.func78 rfl trivial ?_ rfl
  simp only [Try.ntmps78, List.size_toArray, List.length_cons, List.length_nil, Nat.reduceAdd, Nat.reduceSub, Array.replicate_succ, Array.replicate_zero, List.push_toArray, List.append_toArray, List.nil_append, List.cons_append]
  gi_wp2
  refine ⟨(fun f hf => by cases hf), ?_⟩
  gi_wp2
  go_ret
  exact ⟨rfl, rfl⟩
set_option maxHeartbeats 4000000 in
set_option maxRecDepth 100000 in
theorem flush1 (n : Nat) (B4 B3 B5 B6 l : Nat) (c : Int) (x : Nat × Int) (W : World) (hc : c ≠ 0) (h4 : W.cell? ⟨B4, 0, none⟩ = some (.int .i64 c)) (h3 : W.cell? ⟨B3, 0, none⟩ = some (.func (.yield l) #[] #[]))
    (h5 : W.cell? ⟨B5, 0, none⟩ = some (.int .i64 x.1)) (h6 : W.cell? ⟨B6, 0, none⟩ = some (.int .i64 x.2)) (R : Ending → World → Prop) (hb : ∀ e W', R e W' → ∃ b, e = .returned (.bool b))
    (hY : YieldAt Fence.wide n Try.prog l (encW x) W R) :
    CallsIn Fence.wide n Try.prog 78 #[.pointer (some ⟨B4, 0, none⟩), .pointer (some ⟨B3, 0, none⟩), .pointer (some ⟨B5, 0, none⟩), .pointer (some ⟨B6, 0, none⟩)] W R := by
  refine callsIn_of_wp Try.func78 rfl trivial ?_ rfl
  simp only [Try.ntmps78, List.size_toArray, List.length_cons, List.length_nil, Nat.reduceAdd, Nat.reduceSub, Array.replicate_succ, Array.replicate_zero, List.push_toArray, List.append_toArray, List.nil_append, List.cons_append]
  have hc0 : (c == 0) = false := by simpa using hc
  obtain ⟨fn, tmps, assign, body, hy, hR⟩ := YieldAt.wide (m := n - 1) hY
  dsimp only [encW] at hy
  gi_wp2
  refine ⟨(fun h => by cases h), hR.mono ?_⟩
  rintro e W3 h
  obtain ⟨b, rfl⟩ := hb e W3 h
  gi_wp2
  exact h

theorem wl_step (l : List UInt8) (big : Bool) (n p : Nat) (last : Int) (fr : Nat) (prev : Int) : wl l big (n + 1) p last fr prev = (if kc l big p ≠ last ∧ last ≠ 0 then [(fr, prev)] else []) ++ ((if kc l big p = 0 ∧ emB l p = true then [(p, -1)] else []) ++
      (if p = l.length then [] else wl l big n (p + szL (l.drop p)) (kc l big p) (if kc l big p ≠ last then p else fr) p)) := rfl
structure WInv (Pv : World → Nat → Prop) (J : List (Nat × Int) → World → Prop) (s : ByteArray) (kf l Bt Bk B3 B4 B5 B6 : Nat) (pre : List (Nat × Int)) (c0 : Int) (f : Nat) (pv : Int) (W : World) : Prop where
  j : J pre W
  t : PB Pv W Bt 9 (.string s)
  k : PB Pv W Bk 87 (.func (.func kf) #[] #[])
  y : PB Pv W B3 86 (.func (.yield l) #[] #[])
  a : PB Pv W B4 3 (.int .i64 c0)
  b : PB Pv W B5 3 (.int .i64 f)
  d : PB Pv W B6 3 (.int .i64 pv)
section
variable {Pv : World → Nat → Prop} {J : List (Nat × Int) → World → Prop} {s : ByteArray} {kf l Bt Bk B0 : Nat} {pre : List (Nat × Int)} {c0 : Int} {f : Nat} {pv : Int} {W W' : World}
theorem WInv.below (ok : PvOk Pv) (hJ : ∀ pre A B, J pre A → StP Pv B0 A B → J pre B) (h : WInv Pv J s kf l Bt Bk B0 (B0 + 1) (B0 + 1 + 1) (B0 + 1 + 1 + 1) pre c0 f pv W) (hb : Below W.heap.size W W') : WInv Pv J s kf l Bt Bk B0 (B0 + 1) (B0 + 1 + 1) (B0 + 1 + 1 + 1) pre c0 f pv W' :=
  ⟨hJ _ _ _ h.j (.inl hb), h.t.below ok hb, h.k.below ok hb, h.y.below ok hb, h.a.below ok hb, h.b.below ok hb, h.d.below ok hb⟩
theorem WInv.keep (h : WInv Pv J s kf l Bt Bk B0 (B0 + 1) (B0 + 1 + 1) (B0 + 1 + 1 + 1) pre c0 f pv W) {pre' : List (Nat × Int)} (hj : J pre' W') (hk : KpP Pv W W') : WInv Pv J s kf l Bt Bk B0 (B0 + 1) (B0 + 1 + 1) (B0 + 1 + 1 + 1) pre' c0 f pv W' :=
  ⟨hj, h.t.keep hk, h.k.keep hk, h.y.keep hk, h.a.keep hk, h.b.keep hk, h.d.keep hk⟩
variable (ok : PvOk Pv) (hJ : ∀ pre A B, J pre A → StP Pv B0 A B → J pre B) (hlt : Bt < B0) (hlk : Bk < B0)
include ok hJ hlt hlk
theorem WInv.setA (h : WInv Pv J s kf l Bt Bk B0 (B0 + 1) (B0 + 1 + 1) (B0 + 1 + 1 + 1) pre c0 f pv W) (c : Int) : WInv Pv J s kf l Bt Bk B0 (B0 + 1) (B0 + 1 + 1) (B0 + 1 + 1 + 1) pre c f pv (W.setCell ⟨B0 + 1, 0, none⟩ (.int .i64 c)) :=
  ⟨hJ _ _ _ h.j (.inr ⟨_, _, by omega, h.a.2, rfl⟩), h.t.other ok h.a.2 (by omega), h.k.other ok h.a.2 (by omega), h.y.other ok h.a.2 (by omega), h.a.self ok _, h.b.other ok h.a.2 (by omega), h.d.other ok h.a.2 (by omega)⟩
theorem WInv.setB (h : WInv Pv J s kf l Bt Bk B0 (B0 + 1) (B0 + 1 + 1) (B0 + 1 + 1 + 1) pre c0 f pv W) (c : Nat) : WInv Pv J s kf l Bt Bk B0 (B0 + 1) (B0 + 1 + 1) (B0 + 1 + 1 + 1) pre c0 c pv (W.setCell ⟨B0 + 1 + 1, 0, none⟩ (.int .i64 c)) :=
  ⟨hJ _ _ _ h.j (.inr ⟨_, _, by omega, h.b.2, rfl⟩), h.t.other ok h.b.2 (by omega), h.k.other ok h.b.2 (by omega), h.y.other ok h.b.2 (by omega), h.a.other ok h.b.2 (by omega), h.b.self ok _, h.d.other ok h.b.2 (by omega)⟩
theorem WInv.setD (h : WInv Pv J s kf l Bt Bk B0 (B0 + 1) (B0 + 1 + 1) (B0 + 1 + 1 + 1) pre c0 f pv W) (c : Int) : WInv Pv J s kf l Bt Bk B0 (B0 + 1) (B0 + 1 + 1) (B0 + 1 + 1 + 1) pre c0 f c (W.setCell ⟨B0 + 1 + 1 + 1, 0, none⟩ (.int .i64 c)) :=
  ⟨hJ _ _ _ h.j (.inr ⟨_, _, by omega, h.d.2, rfl⟩), h.t.other ok h.d.2 (by omega), h.k.other ok h.d.2 (by omega), h.y.other ok h.d.2 (by omega), h.a.other ok h.d.2 (by omega), h.b.other ok h.d.2 (by omega), h.d.self ok _⟩
end
theorem next_sz {l : List UInt8} {p : Nat} (h : placeB l p = true) (hp : p < l.length) : nextI l p = ((p + szL (l.drop p) : Nat) : Int) := by
  unfold nextI
  rw [if_pos ⟨h, by omega⟩, Int.toNat_natCast]; omega
theorem kind_ways (s : ByteArray) (big : Bool) {p : Nat} (hp : placeB (ls s) p = true) (kv : Int) (h : kindI (ls s) p big = kv) : (kv = 0 ∧ p = s.size ∧ kc (ls s) big p = 0) ∨ (kv = 1 ∧ p < s.size ∧ kc (ls s) big p = 0) ∨ (kv = 4 ∧ p < s.size ∧ kc (ls s) big p = 0) ∨ (kv ≠ 0 ∧ kv ≠ 1 ∧ kv ≠ 4 ∧ p < s.size ∧ kc (ls s) big p = kv) := by
  have hle := (valid_at hp).2.1
  rw [ls_len] at hle
  by_cases he : p = s.size
  · have : kv = 0 := by rw [← h, he, ← ls_len, kind_end]
    refine .inl ⟨this, he, ?_⟩
    unfold kc; rw [h, this]; rfl
  · have hlt : p < s.size := by omega
    have h0 : kv ≠ 0 := by
      rw [← h]
      have hb := ofB_bd (byL (ls s) p)
      have h1 : clsI (ls s) p = ofB (byL (ls s) p) := by
        unfold clsI; rw [if_pos ⟨hp, by rw [ls_len]; omega⟩, Int.toNat_natCast]
      unfold kindI bigI
      rw [h1]
      split <;> (try split) <;> omega
    by_cases h1 : kv = 1
    · exact .inr (.inl ⟨h1, hlt, by unfold kc; rw [h, h1]; rfl⟩)
    · by_cases h4 : kv = 4
      · exact .inr (.inr (.inl ⟨h4, hlt, by unfold kc; rw [h, h4]; rfl⟩))
      · exact .inr (.inr (.inr ⟨h0, h1, h4, hlt, by unfold kc; rw [h, if_neg (by omega)]⟩))
theorem em_true {s : ByteArray} {p : Nat} (h1 : p = 0 ∨ ∃ h : p - 1 < s.size, ((s[p - 1].toNat : Nat) : Int) = 10) (h2 : p = s.size ∨ ∃ h : p < s.size, ((s[p].toNat : Nat) : Int) = 10) : emB (ls s) p = true := by
  unfold emB
  rw [ls_len]
  simp only [Bool.and_eq_true, Bool.or_eq_true, decide_eq_true_eq]
  exact ⟨h1.imp id (fun ⟨h, e⟩ => by rw [← byL_eq s _ h]; exact e), h2.imp id (fun ⟨h, e⟩ => by rw [← byL_eq s _ h]; exact e)⟩
theorem em_false1 {s : ByteArray} {p : Nat} (h0 : ¬ p = 0) (h : p - 1 < s.size) (h1 : ¬ ((s[p - 1].toNat : Nat) : Int) = 10) : emB (ls s) p = false := by
  unfold emB
  rw [← byL_eq s _ h]
  simp [h0, h1]
theorem em_false2 {s : ByteArray} {p : Nat} (h : p < s.size) (h1 : ¬ ((s[p].toNat : Nat) : Int) = 10) : emB (ls s) p = false := by
  unfold emB
  rw [← byL_eq s _ h, ls_len]
  have : ¬ p = s.size := by omega
  simp [this, h1]
theorem p_ways (s : ByteArray) (p : Nat) (hp : p ≤ s.size) : (p = 0 ∧ ((p : Int) == 0) = true) ∨ (¬ p = 0 ∧ ((p : Int) == 0) = false ∧ ∃ h : p - 1 < s.size, (((s[p - 1].toNat : Nat) : Int) == 10) = true) ∨ (¬ p = 0 ∧ ((p : Int) == 0) = false ∧ ∃ h : p - 1 < s.size, (((s[p - 1].toNat : Nat) : Int) == 10) = false) := by
  by_cases h : p = 0
  · exact .inl ⟨h, by simp [h]⟩
  · have hb : p - 1 < s.size := by omega
    have h8 : ((p : Int) == 0) = false := by simp; omega
    by_cases h1 : ((s[p - 1].toNat : Nat) : Int) = 10
    · exact .inr (.inl ⟨h, h8, hb, by simpa using h1⟩)
    · exact .inr (.inr ⟨h, h8, hb, by simpa using h1⟩)
theorem lf_of {a : Int} (h : (a == 10) = true) : a = 10 := by simpa using h
theorem nlf_of {a : Int} (h : (a == 10) = false) : ¬ a = 10 := by simpa using h
theorem cls_of {s : ByteArray} {big : Bool} {p : Nat} (hp : placeB (ls s) p = true) (h : p < s.size) : clsI (ls s) p = ofB (byL (ls s) p) := by
  unfold clsI; rw [if_pos ⟨hp, by rw [ls_len]; omega⟩, Int.toNat_natCast]
theorem byte_feed {s : ByteArray} {big : Bool} {p : Nat} (hk : kindI (ls s) p big = 4) (h : p < s.size) : (((s[p].toNat : Nat) : Int) == 10) = true := by
  rw [byL_eq s _ h]
  unfold kindI bigI clsI ofB at hk
  simp only [Int.toNat_natCast] at hk
  by_cases h1 : byL (ls s) p = 10
  · simp [h1]
  · simp only [h1, if_false] at hk
    repeat' split at hk
    all_goals first | omega | simp at hk
theorem byte_blank {s : ByteArray} {big : Bool} {p : Nat} (hk : kindI (ls s) p big = 1) (h : p < s.size) : (((s[p].toNat : Nat) : Int) == 10) = false := by
  rw [byL_eq s _ h]
  unfold kindI bigI clsI ofB at hk
  simp only [Int.toNat_natCast] at hk
  by_cases h1 : byL (ls s) p = 10
  · simp only [h1, if_true] at hk
    repeat' split at hk
    all_goals first | omega | simp at hk
  · simpa using h1
def RelW (Pv : World → Nat → Prop) (J : List (Nat × Int) → World → Prop) (s : ByteArray) (big : Bool) (kf l Bt Bk B0 : Nat) (q : Value) (wr : World) : Prop :=
  ∃ (p : Nat) (c0 : Int) (f : Nat) (pv : Int) (pre : List (Nat × Int)), q = .int .i64 p ∧ p ≤ s.size ∧ placeB (ls s) p = true ∧ (∃ m, wordsI (ls s) big = pre ++ wl (ls s) big m p c0 f pv ∧ s.size + 1 - p ≤ m) ∧ WInv Pv J s kf l Bt Bk B0 (B0 + 1) (B0 + 1 + 1) (B0 + 1 + 1 + 1) pre c0 f pv wr
set_option maxHeartbeats 4000000 in
set_option maxRecDepth 100000 in
theorem words_false (n : Nat) (hn : 2 ≤ n) (l Bt Bk : Nat) (s : ByteArray) (hs : s.size ≤ 1000000000) (hv : validL (ls s) = true) (Pv : World → Nat → Prop) (ok : PvOk Pv) (J Jx : List (Nat × Int) → World → Prop) (W : World)
    (hJ : ∀ pre A B, J pre A → StP Pv W.heap.size A B → J pre B)
    (hb : PB Pv W Bt 9 (.string s)) (hk : PB Pv W Bk 87 (.func (.func 75) #[] #[])) (hp0 : ∀ W' r, Below W.heap.size W W' → W.heap.size ≤ r → Pv W' r)
    (hY : ∀ pre x W1, J pre W1 → pre.length < (wordsI (ls s) false).length → YieldAt Fence.wide (n - 1) Try.prog l (encW x) W1 (Yielded Pv J Jx (pre ++ [x]) W1)) (h0 : J [] W) :
    CallsIn Fence.wide n Try.prog 77 #[.func (.yield l) #[] #[], .pointer (some ⟨Bt, 0, none⟩), .pointer (some ⟨Bk, 0, none⟩)] W fun e W' => (∃ v, e = .returned v) ∧ ((∃ xs, xs = wordsI (ls s) false ∧ J xs W') ∨ (∃ pre, True ∧ Jx pre W')) := by
  refine callsIn_of_wp Try.func77 rfl trivial ?_ rfl
  simp only [Try.ntmps77, List.size_toArray, List.length_cons, List.length_nil, Nat.reduceAdd, Nat.reduceSub, Array.replicate_succ, Array.replicate_zero, List.push_toArray, List.append_toArray, List.nil_append, List.cons_append]
  gi_wp2
  gi_loopw [8] (fun q wr => RelW Pv J s false 75 l Bt Bk W.heap.size q wr)
    (fun q _ => s.size + 1 - (intOf q).toNat)
  case atStart =>
    obtain ⟨W1, e1⟩ : ∃ W1, W.alloc (.cells #[.func (.yield l) #[] #[]] 86) = W1 := ⟨_, rfl⟩
    obtain ⟨W2, e2⟩ : ∃ W2, W1.alloc (.cells #[.int .i64 0] 3) = W2 := ⟨_, rfl⟩
    obtain ⟨W3, e3⟩ : ∃ W3, W2.alloc (.cells #[.int .i64 0] 3) = W3 := ⟨_, rfl⟩
    obtain ⟨W4, e4⟩ : ∃ W4, W3.alloc (.cells #[.int .i64 (-1)] 3) = W4 := ⟨_, rfl⟩
    rw [e1, e2, e3, e4]
    have z1 : W1.heap.size = W.heap.size + 1 := by rw [← e1, World.size_alloc]
    have z2 : W2.heap.size = W.heap.size + 1 + 1 := by rw [← e2, World.size_alloc, z1]
    have z3 : W3.heap.size = W.heap.size + 1 + 1 + 1 := by rw [← e3, World.size_alloc, z2]
    have x1 : Below W.heap.size W W1 := by rw [← e1]; exact (Below.refl _ W).alloc (Nat.le_refl _) _
    have x2 : Below W1.heap.size W1 W2 := by rw [← e2]; exact (Below.refl _ W1).alloc (Nat.le_refl _) _
    have x3 : Below W2.heap.size W2 W3 := by rw [← e3]; exact (Below.refl _ W2).alloc (Nat.le_refl _) _
    have x4 : Below W3.heap.size W3 W4 := by rw [← e4]; exact (Below.refl _ W3).alloc (Nat.le_refl _) _
    have b1 : Boxed W1 W.heap.size 86 (.func (.yield l) #[] #[]) := by rw [← e1]; exact Boxed.new _ _ _
    have b2 : Boxed W2 (W.heap.size + 1) 3 (.int .i64 0) := by rw [← e2, ← z1]; exact Boxed.new _ _ _
    have b3 : Boxed W3 (W.heap.size + 1 + 1) 3 (.int .i64 0) := by rw [← e3, ← z2]; exact Boxed.new _ _ _
    have b4 : Boxed W4 (W.heap.size + 1 + 1 + 1) 3 (.int .i64 (-1)) := by rw [← e4, ← z3]; exact Boxed.new _ _ _
    have y2 : Below W.heap.size W W2 := x1.trans (x2.mono (by omega))
    have y3 : Below W.heap.size W W3 := y2.trans (x3.mono (by omega))
    have y4 : Below W.heap.size W W4 := y3.trans (x4.mono (by omega))
    have P (r : Nat) (h : W.heap.size ≤ r) : Pv W4 r := hp0 W4 r y4 h
    refine ⟨0, 0, 0, -1, [], rfl, by omega, ?_, ⟨(ls s).length + 1, rfl, by rw [ls_len]; omega⟩, hJ _ _ _ h0 (.inl y4), hb.below ok y4, hk.below ok y4, ⟨Boxed.below (Boxed.below (Boxed.below b1 x2) x3) x4, P _ (by omega)⟩, ⟨Boxed.below (Boxed.below b2 x3) x4, P _ (by omega)⟩, ⟨Boxed.below b3 x4, P _ (by omega)⟩, ⟨b4, P _ (by omega)⟩⟩
    exact place_zero hv
  case round =>
    obtain ⟨p, c0, f, pv, pre, rfl, hp, hpl, ⟨m', hw, hm'⟩, hi⟩ := hrel
    obtain ⟨m, rfl⟩ : ∃ m, m' = m + 1 := ⟨m' - 1, by omega⟩
    have hlt : Bt < W.heap.size := hb.1.lt
    have hlk : Bk < W.heap.size := hk.1.lt
    obtain ⟨kv, hkv⟩ : ∃ kv, kindI (ls s) p false = kv := ⟨_, rfl⟩
    have hcall : ∀ w, Calls Try.prog 75 #[.string s, .int .i64 p] w fun e w' => e = .returned (.int .i64 kv) ∧ Ext w w' := fun w => by rw [← hkv]; exact cof_c s p w (by omega)
    have n1 : ¬ Bt = W.heap.size + 1 := by omega
    have n2 : ¬ Bt = W.heap.size + 1 + 1 := by omega
    have n3 : ¬ Bt = W.heap.size + 1 + 1 + 1 := by omega
    have n4 : ¬ W.heap.size + 1 = Bt := by omega
    have n5 : ¬ W.heap.size + 1 + 1 = Bt := by omega
    have n6 : ¬ W.heap.size + 1 + 1 + 1 = Bt := by omega
    have Hw := Lib.hid hw
    have HI := Lib.hid hi
    have ct := hi.t.cell.1
    have ck := hi.k.cell.1
    clear hw hi
    have hle : decide ((p : Int) ≤ s.size) = true := by simpa using hp
    --ROUND
    rcases kind_ways s false hpl kv hkv with ⟨rfl, hpl2, hkc⟩ | ⟨rfl, hpl2, hkc⟩ | ⟨rfl, hpl2, hkc⟩ | ⟨h0, h1, h4, hpl2, hkc⟩
    · -- the end
      have Hkc := Lib.hid hkc
      clear hkc
      have g5 : ((p : Int) == (s.size : Int)) = true := by simp; omega
      have Hend : Hid (p = s.size) := Lib.hid hpl2
      by_cases hc : c0 = 0
      · subst hc
        rcases p_ways s p hp with ⟨hz0, g8⟩ | ⟨hz0, g8, hpb, g10⟩ | ⟨hz0, g8, hpb, g10⟩
        · have Hem : Hid (emB (ls s) p = true) := Lib.hid (em_true (.inl hz0) (.inl hpl2))
          have Hz := Lib.hid hz0
          clear hz0 hpl2
          gi_wp2_with (first | ((first | refine ⟨trivial, (fun _ => by omega), ?_⟩ | refine ⟨trivial, ?_⟩); gi_at_call 75; refine (callsIn_wide.2 (hcall _)).mono ?_; rintro e w1 ⟨rfl, hx1⟩; have hi1 := HI.out.below ok hJ hx1; have Hi1 := Lib.hid hi1; have ct1 := hi1.t.cell.1; have ca1 := hi1.a.cell.1; have ca2 := hi1.a.cell.2; have cb1 := hi1.b.cell.1; have cb2 := hi1.b.cell.2; have cd1 := hi1.d.cell.1; have cd2 := hi1.d.cell.2; have cy1 := hi1.y.cell.1; clear hi1 hx1 ct ck; obtain ⟨fn, tmps, assign, body, hy, hR⟩ := hY pre (p, -1) _ (WInv.setA ok hJ hlt hlk Hi1.out 0).j (by rw [Hw.out, wl_step] <;> simp [Hkc.out, Hem.out]); dsimp only [encW] at hy; have HR := Lib.hid hR; clear hR))
          refine ⟨(fun _ => by omega), HR.out.mono ?_⟩
          clear HR hy
          rintro e w5 (⟨rfl, hj5, hk5⟩ | ⟨rfl, hjx⟩)
          · have hi5 := (WInv.setA ok hJ hlt hlk Hi1.out 0).keep hj5 hk5
            have hfin := Lib.hid (show (pre ++ [((p, -1) : Nat × Int)]) = wordsI (ls s) false by rw [Hw.out, wl_step, if_pos (c := p = (ls s).length) (by rw [ls_len]; exact Hend.out)]; simp [Hkc.out, Hem.out])
            have cte := hi5.t.cell.1
            gi_wp2
            refine bodyPost_ret (results_none rfl _ _ _) rfl ?_
            exact ⟨⟨_, rfl⟩, .inl ⟨(pre ++ [((p, -1) : Nat × Int)]), hfin.out, hi5.j⟩⟩
          · gi_wp2
            refine bodyPost_ret (results_none rfl _ _ _) rfl ?_
            exact ⟨⟨_, rfl⟩, .inr ⟨_, trivial, hjx⟩⟩
        · have Hem : Hid (emB (ls s) p = true) := Lib.hid (em_true (.inr ⟨hpb, lf_of g10⟩) (.inl hpl2))
          have Hz := Lib.hid hz0
          have ga : 1 ≤ (p : Int) := by omega
          have gb : (p : Int) - 1 < s.size := by omega
          clear hz0 hpl2
          gi_wp2_with (first | ((first | refine ⟨trivial, (fun _ => by omega), ?_⟩ | refine ⟨trivial, ?_⟩); gi_at_call 75; refine (callsIn_wide.2 (hcall _)).mono ?_; rintro e w1 ⟨rfl, hx1⟩; have hi1 := HI.out.below ok hJ hx1; have Hi1 := Lib.hid hi1; have ct1 := hi1.t.cell.1; have ca1 := hi1.a.cell.1; have ca2 := hi1.a.cell.2; have cb1 := hi1.b.cell.1; have cb2 := hi1.b.cell.2; have cd1 := hi1.d.cell.1; have cd2 := hi1.d.cell.2; have cy1 := hi1.y.cell.1; clear hi1 hx1 ct ck; obtain ⟨fn, tmps, assign, body, hy, hR⟩ := hY pre (p, -1) _ (WInv.setA ok hJ hlt hlk Hi1.out 0).j (by rw [Hw.out, wl_step] <;> simp [Hkc.out, Hem.out]); dsimp only [encW] at hy; have HR := Lib.hid hR; clear hR))
          refine ⟨(fun _ => by omega), HR.out.mono ?_⟩
          clear HR hy
          rintro e w5 (⟨rfl, hj5, hk5⟩ | ⟨rfl, hjx⟩)
          · have hi5 := (WInv.setA ok hJ hlt hlk Hi1.out 0).keep hj5 hk5
            have hfin := Lib.hid (show (pre ++ [((p, -1) : Nat × Int)]) = wordsI (ls s) false by rw [Hw.out, wl_step, if_pos (c := p = (ls s).length) (by rw [ls_len]; exact Hend.out)]; simp [Hkc.out, Hem.out])
            have cte := hi5.t.cell.1
            gi_wp2
            refine bodyPost_ret (results_none rfl _ _ _) rfl ?_
            exact ⟨⟨_, rfl⟩, .inl ⟨(pre ++ [((p, -1) : Nat × Int)]), hfin.out, hi5.j⟩⟩
          · gi_wp2
            refine bodyPost_ret (results_none rfl _ _ _) rfl ?_
            exact ⟨⟨_, rfl⟩, .inr ⟨_, trivial, hjx⟩⟩
        · have Hem : Hid (emB (ls s) p = false) := Lib.hid (em_false1 hz0 hpb (nlf_of g10))
          have Hz := Lib.hid hz0
          have ga : 1 ≤ (p : Int) := by omega
          have gb : (p : Int) - 1 < s.size := by omega
          clear hz0 hpl2
          gi_wp2_with (first | ((first | refine ⟨trivial, (fun _ => by omega), ?_⟩ | refine ⟨trivial, ?_⟩); gi_at_call 75; refine (callsIn_wide.2 (hcall _)).mono ?_; rintro e w1 ⟨rfl, hx1⟩; have hi1 := HI.out.below ok hJ hx1; have Hi1 := Lib.hid hi1; have ct1 := hi1.t.cell.1; have ca1 := hi1.a.cell.1; have ca2 := hi1.a.cell.2; have cb1 := hi1.b.cell.1; have cb2 := hi1.b.cell.2; have cd1 := hi1.d.cell.1; have cd2 := hi1.d.cell.2; have cy1 := hi1.y.cell.1; clear hi1 hx1 ct ck))
          refine ⟨(fun f hf => by cases hf), ?_⟩
          have hi4 := (WInv.setA ok hJ hlt hlk Hi1.out 0)
          have hfin := Lib.hid (show pre = wordsI (ls s) false by rw [Hw.out, wl_step, if_pos (c := p = (ls s).length) (by rw [ls_len]; exact Hend.out)]; simp [Hkc.out, Hem.out])
          have cte := hi4.t.cell.1
          gi_wp2
          refine bodyPost_ret (results_none rfl _ _ _) rfl ?_
          exact ⟨⟨_, rfl⟩, .inl ⟨pre, hfin.out, hi4.j⟩⟩
      · have Hc0 : Hid (c0 ≠ 0) := Lib.hid hc
        have Hcc : Hid (¬ (0 : Int) = c0) := Lib.hid (fun e => hc e.symm)
        have g7 : ((0 : Int) != c0) = true := by simpa using fun e => hc (Eq.symm e)
        clear hc
        rcases p_ways s p hp with ⟨hz0, g8⟩ | ⟨hz0, g8, hpb, g10⟩ | ⟨hz0, g8, hpb, g10⟩
        · have Hem : Hid (emB (ls s) p = true) := Lib.hid (em_true (.inl hz0) (.inl hpl2))
          have Hz := Lib.hid hz0
          clear hz0 hpl2
          gi_wp2_with (first | ((first | refine ⟨trivial, (fun _ => by omega), ?_⟩ | refine ⟨trivial, ?_⟩); gi_at_call 75; refine (callsIn_wide.2 (hcall _)).mono ?_; rintro e w1 ⟨rfl, hx1⟩; have hi1 := HI.out.below ok hJ hx1; have Hi1 := Lib.hid hi1; have ct1 := hi1.t.cell.1; have ca1 := hi1.a.cell.1; have ca2 := hi1.a.cell.2; have cb1 := hi1.b.cell.1; have cb2 := hi1.b.cell.2; have cd1 := hi1.d.cell.1; have cd2 := hi1.d.cell.2; have cy1 := hi1.y.cell.1; clear hi1 hx1 ct ck))
          refine ⟨trivial, (fun _ => by omega), ?_⟩
          gi_at_call 78
          refine (flush1 _ _ _ _ _ l c0 (f, pv) w1 Hc0.out ca1 cy1 cb1 cd1 (Yielded Pv J Jx (pre ++ [(f, pv)]) w1) (by rintro e W' (⟨rfl, -⟩ | ⟨rfl, -⟩) <;> exact ⟨_, rfl⟩) (hY pre (f, pv) w1 Hi1.out.j (by rw [Hw.out, wl_step]; simp [Hkc.out, Hcc.out, Hc0.out]))).mono ?_
          rintro e w2 (⟨rfl, hj2, hk2⟩ | ⟨rfl, hjx⟩)
          rotate_left
          · gi_wp2
            refine bodyPost_ret (results_none rfl _ _ _) rfl ?_
            exact ⟨⟨_, rfl⟩, .inr ⟨_, trivial, hjx⟩⟩
          have hi2 := Hi1.out.keep hj2 hk2
          have Hi2 := Lib.hid hi2
          have ct2 := hi2.t.cell.1
          have ca3 := hi2.a.cell.1
          have ca4 := hi2.a.cell.2
          have cb3 := hi2.b.cell.1
          have cb4 := hi2.b.cell.2
          have cd3 := hi2.d.cell.1
          have cd4 := hi2.d.cell.2
          have cy2 := hi2.y.cell.1
          clear hi2 hj2 hk2 ct1 ca1 ca2 cb1 cb2 cd1 cd2 cy1
          obtain ⟨fn, tmps, assign, body, hy, hR⟩ := hY (pre ++ [(f, pv)]) (p, -1) _ (WInv.setA ok hJ hlt hlk (WInv.setB ok hJ hlt hlk Hi2.out p) 0).j (by rw [Hw.out, wl_step] <;> simp [Hkc.out, Hcc.out, Hc0.out, Hem.out])
          dsimp only [encW] at hy
          have HR := Lib.hid hR
          clear hR
          gi_wp2
          refine ⟨(fun _ => by omega), HR.out.mono ?_⟩
          clear HR hy
          rintro e w5 (⟨rfl, hj5, hk5⟩ | ⟨rfl, hjx⟩)
          · have hi5 := (WInv.setA ok hJ hlt hlk (WInv.setB ok hJ hlt hlk Hi2.out p) 0).keep hj5 hk5
            have hfin := Lib.hid (show ((pre ++ [(f, pv)]) ++ [((p, -1) : Nat × Int)]) = wordsI (ls s) false by rw [Hw.out, wl_step, if_pos (c := p = (ls s).length) (by rw [ls_len]; exact Hend.out)]; simp [Hkc.out, Hcc.out, Hc0.out, Hem.out])
            have cte := hi5.t.cell.1
            gi_wp2
            refine bodyPost_ret (results_none rfl _ _ _) rfl ?_
            exact ⟨⟨_, rfl⟩, .inl ⟨((pre ++ [(f, pv)]) ++ [((p, -1) : Nat × Int)]), hfin.out, hi5.j⟩⟩
          · gi_wp2
            refine bodyPost_ret (results_none rfl _ _ _) rfl ?_
            exact ⟨⟨_, rfl⟩, .inr ⟨_, trivial, hjx⟩⟩
        · have Hem : Hid (emB (ls s) p = true) := Lib.hid (em_true (.inr ⟨hpb, lf_of g10⟩) (.inl hpl2))
          have Hz := Lib.hid hz0
          have ga : 1 ≤ (p : Int) := by omega
          have gb : (p : Int) - 1 < s.size := by omega
          clear hz0 hpl2
          gi_wp2_with (first | ((first | refine ⟨trivial, (fun _ => by omega), ?_⟩ | refine ⟨trivial, ?_⟩); gi_at_call 75; refine (callsIn_wide.2 (hcall _)).mono ?_; rintro e w1 ⟨rfl, hx1⟩; have hi1 := HI.out.below ok hJ hx1; have Hi1 := Lib.hid hi1; have ct1 := hi1.t.cell.1; have ca1 := hi1.a.cell.1; have ca2 := hi1.a.cell.2; have cb1 := hi1.b.cell.1; have cb2 := hi1.b.cell.2; have cd1 := hi1.d.cell.1; have cd2 := hi1.d.cell.2; have cy1 := hi1.y.cell.1; clear hi1 hx1 ct ck))
          refine ⟨trivial, (fun _ => by omega), ?_⟩
          gi_at_call 78
          refine (flush1 _ _ _ _ _ l c0 (f, pv) w1 Hc0.out ca1 cy1 cb1 cd1 (Yielded Pv J Jx (pre ++ [(f, pv)]) w1) (by rintro e W' (⟨rfl, -⟩ | ⟨rfl, -⟩) <;> exact ⟨_, rfl⟩) (hY pre (f, pv) w1 Hi1.out.j (by rw [Hw.out, wl_step]; simp [Hkc.out, Hcc.out, Hc0.out]))).mono ?_
          rintro e w2 (⟨rfl, hj2, hk2⟩ | ⟨rfl, hjx⟩)
          rotate_left
          · gi_wp2
            refine bodyPost_ret (results_none rfl _ _ _) rfl ?_
            exact ⟨⟨_, rfl⟩, .inr ⟨_, trivial, hjx⟩⟩
          have hi2 := Hi1.out.keep hj2 hk2
          have Hi2 := Lib.hid hi2
          have ct2 := hi2.t.cell.1
          have ca3 := hi2.a.cell.1
          have ca4 := hi2.a.cell.2
          have cb3 := hi2.b.cell.1
          have cb4 := hi2.b.cell.2
          have cd3 := hi2.d.cell.1
          have cd4 := hi2.d.cell.2
          have cy2 := hi2.y.cell.1
          clear hi2 hj2 hk2 ct1 ca1 ca2 cb1 cb2 cd1 cd2 cy1
          obtain ⟨fn, tmps, assign, body, hy, hR⟩ := hY (pre ++ [(f, pv)]) (p, -1) _ (WInv.setA ok hJ hlt hlk (WInv.setB ok hJ hlt hlk Hi2.out p) 0).j (by rw [Hw.out, wl_step] <;> simp [Hkc.out, Hcc.out, Hc0.out, Hem.out])
          dsimp only [encW] at hy
          have HR := Lib.hid hR
          clear hR
          gi_wp2
          refine ⟨(fun _ => by omega), HR.out.mono ?_⟩
          clear HR hy
          rintro e w5 (⟨rfl, hj5, hk5⟩ | ⟨rfl, hjx⟩)
          · have hi5 := (WInv.setA ok hJ hlt hlk (WInv.setB ok hJ hlt hlk Hi2.out p) 0).keep hj5 hk5
            have hfin := Lib.hid (show ((pre ++ [(f, pv)]) ++ [((p, -1) : Nat × Int)]) = wordsI (ls s) false by rw [Hw.out, wl_step, if_pos (c := p = (ls s).length) (by rw [ls_len]; exact Hend.out)]; simp [Hkc.out, Hcc.out, Hc0.out, Hem.out])
            have cte := hi5.t.cell.1
            gi_wp2
            refine bodyPost_ret (results_none rfl _ _ _) rfl ?_
            exact ⟨⟨_, rfl⟩, .inl ⟨((pre ++ [(f, pv)]) ++ [((p, -1) : Nat × Int)]), hfin.out, hi5.j⟩⟩
          · gi_wp2
            refine bodyPost_ret (results_none rfl _ _ _) rfl ?_
            exact ⟨⟨_, rfl⟩, .inr ⟨_, trivial, hjx⟩⟩
        · have Hem : Hid (emB (ls s) p = false) := Lib.hid (em_false1 hz0 hpb (nlf_of g10))
          have Hz := Lib.hid hz0
          have ga : 1 ≤ (p : Int) := by omega
          have gb : (p : Int) - 1 < s.size := by omega
          clear hz0 hpl2
          gi_wp2_with (first | ((first | refine ⟨trivial, (fun _ => by omega), ?_⟩ | refine ⟨trivial, ?_⟩); gi_at_call 75; refine (callsIn_wide.2 (hcall _)).mono ?_; rintro e w1 ⟨rfl, hx1⟩; have hi1 := HI.out.below ok hJ hx1; have Hi1 := Lib.hid hi1; have ct1 := hi1.t.cell.1; have ca1 := hi1.a.cell.1; have ca2 := hi1.a.cell.2; have cb1 := hi1.b.cell.1; have cb2 := hi1.b.cell.2; have cd1 := hi1.d.cell.1; have cd2 := hi1.d.cell.2; have cy1 := hi1.y.cell.1; clear hi1 hx1 ct ck))
          refine ⟨trivial, (fun _ => by omega), ?_⟩
          gi_at_call 78
          refine (flush1 _ _ _ _ _ l c0 (f, pv) w1 Hc0.out ca1 cy1 cb1 cd1 (Yielded Pv J Jx (pre ++ [(f, pv)]) w1) (by rintro e W' (⟨rfl, -⟩ | ⟨rfl, -⟩) <;> exact ⟨_, rfl⟩) (hY pre (f, pv) w1 Hi1.out.j (by rw [Hw.out, wl_step]; simp [Hkc.out, Hcc.out, Hc0.out]))).mono ?_
          rintro e w2 (⟨rfl, hj2, hk2⟩ | ⟨rfl, hjx⟩)
          rotate_left
          · gi_wp2
            refine bodyPost_ret (results_none rfl _ _ _) rfl ?_
            exact ⟨⟨_, rfl⟩, .inr ⟨_, trivial, hjx⟩⟩
          have hi2 := Hi1.out.keep hj2 hk2
          have Hi2 := Lib.hid hi2
          have ct2 := hi2.t.cell.1
          have ca3 := hi2.a.cell.1
          have ca4 := hi2.a.cell.2
          have cb3 := hi2.b.cell.1
          have cb4 := hi2.b.cell.2
          have cd3 := hi2.d.cell.1
          have cd4 := hi2.d.cell.2
          have cy2 := hi2.y.cell.1
          clear hi2 hj2 hk2 ct1 ca1 ca2 cb1 cb2 cd1 cd2 cy1
          gi_wp2
          refine ⟨(fun f hf => by cases hf), ?_⟩
          have hi4 := (WInv.setA ok hJ hlt hlk (WInv.setB ok hJ hlt hlk Hi2.out p) 0)
          have hfin := Lib.hid (show (pre ++ [(f, pv)]) = wordsI (ls s) false by rw [Hw.out, wl_step, if_pos (c := p = (ls s).length) (by rw [ls_len]; exact Hend.out)]; simp [Hkc.out, Hcc.out, Hc0.out, Hem.out])
          have cte := hi4.t.cell.1
          gi_wp2
          refine bodyPost_ret (results_none rfl _ _ _) rfl ?_
          exact ⟨⟨_, rfl⟩, .inl ⟨(pre ++ [(f, pv)]), hfin.out, hi4.j⟩⟩
    · -- a blank
      have Hkc := Lib.hid hkc
      clear hkc
      have g5 : ((p : Int) == (s.size : Int)) = false := by simp; omega
      have Hend : Hid (¬ p = s.size) := Lib.hid (by omega)
      have Hn0 : Hid (nextI (ls s) p = ((p + szL ((ls s).drop p) : Nat) : Int)) := Lib.hid (next_sz hpl (by rw [ls_len]; exact hpl2))
      have hn1 : p + szL ((ls s).drop p) ≤ s.size := by have := (sz_at hpl (by rw [ls_len]; exact hpl2)).2; rw [ls_len] at this; exact this
      have hn2 := place_next hpl (by rw [ls_len]; exact hpl2)
      have hn3 := (sz_at hpl (by rw [ls_len]; exact hpl2)).1
      have g9 := byte_blank hkv hpl2
      by_cases hc : c0 = 0
      · subst hc
        rcases p_ways s p hp with ⟨hz0, g8⟩ | ⟨hz0, g8, hpb, g10⟩ | ⟨hz0, g8, hpb, g10⟩
        · have Hem : Hid (emB (ls s) p = false) := Lib.hid (em_false2 hpl2 (nlf_of g9))
          have Hz := Lib.hid hz0
          clear hz0
          gi_wp2_with (first | ((first | refine ⟨trivial, (fun _ => by omega), ?_⟩ | refine ⟨trivial, ?_⟩); gi_at_call 75; refine (callsIn_wide.2 (hcall _)).mono ?_; rintro e w1 ⟨rfl, hx1⟩; have hi1 := HI.out.below ok hJ hx1; have Hi1 := Lib.hid hi1; have ct1 := hi1.t.cell.1; have ca1 := hi1.a.cell.1; have ca2 := hi1.a.cell.2; have cb1 := hi1.b.cell.1; have cb2 := hi1.b.cell.2; have cd1 := hi1.d.cell.1; have cd2 := hi1.d.cell.2; have cy1 := hi1.y.cell.1; clear hi1 hx1 ct ck))
          refine ⟨(fun f hf => by cases hf), ?_⟩
          have hi4 := (WInv.setA ok hJ hlt hlk Hi1.out 0)
          have hfin := Lib.hid (show wordsI (ls s) false = pre ++ wl (ls s) false m (p + szL ((ls s).drop p)) 0 f p by rw [Hw.out, wl_step, if_neg (c := p = (ls s).length) (by rw [ls_len]; exact Hend.out)]; simp [Hkc.out, Hem.out])
          have cte := hi4.t.cell.1
          have cde := hi4.d.cell.1
          have cdf := hi4.d.cell.2
          have Hi := Lib.hid hi4
          clear hi4
          gi_wp2_with (first | ((first | refine ⟨trivial, (fun _ => by omega), ?_⟩ | refine ⟨trivial, ?_⟩); gi_at_call 79; refine (callsIn_wide.2 (next_c _ _ _ (by omega))).mono ?_; rintro e w6 ⟨rfl, hx6⟩; have hi6 := WInv.below ok hJ (WInv.setD ok hJ hlt hlk Hi.out p) hx6; clear hx6))
          go_roundw
          case rel => exact ⟨p + szL ((ls s).drop p), 0, f, p, pre, congrArg _ Hn0.out, hn1, hn2, ⟨m, hfin.out, by omega⟩, hi6⟩
          case measure => have hn0 := Hn0.out; simp only [intOf]; rw [show nextI (ls s) ((p : Nat) : Int) = _ from hn0]; simp; omega
        · have Hem : Hid (emB (ls s) p = false) := Lib.hid (em_false2 hpl2 (nlf_of g9))
          have Hz := Lib.hid hz0
          have ga : 1 ≤ (p : Int) := by omega
          have gb : (p : Int) - 1 < s.size := by omega
          clear hz0
          gi_wp2_with (first | ((first | refine ⟨trivial, (fun _ => by omega), ?_⟩ | refine ⟨trivial, ?_⟩); gi_at_call 75; refine (callsIn_wide.2 (hcall _)).mono ?_; rintro e w1 ⟨rfl, hx1⟩; have hi1 := HI.out.below ok hJ hx1; have Hi1 := Lib.hid hi1; have ct1 := hi1.t.cell.1; have ca1 := hi1.a.cell.1; have ca2 := hi1.a.cell.2; have cb1 := hi1.b.cell.1; have cb2 := hi1.b.cell.2; have cd1 := hi1.d.cell.1; have cd2 := hi1.d.cell.2; have cy1 := hi1.y.cell.1; clear hi1 hx1 ct ck))
          refine ⟨(fun f hf => by cases hf), ?_⟩
          have hi4 := (WInv.setA ok hJ hlt hlk Hi1.out 0)
          have hfin := Lib.hid (show wordsI (ls s) false = pre ++ wl (ls s) false m (p + szL ((ls s).drop p)) 0 f p by rw [Hw.out, wl_step, if_neg (c := p = (ls s).length) (by rw [ls_len]; exact Hend.out)]; simp [Hkc.out, Hem.out])
          have cte := hi4.t.cell.1
          have cde := hi4.d.cell.1
          have cdf := hi4.d.cell.2
          have Hi := Lib.hid hi4
          clear hi4
          gi_wp2_with (first | ((first | refine ⟨trivial, (fun _ => by omega), ?_⟩ | refine ⟨trivial, ?_⟩); gi_at_call 79; refine (callsIn_wide.2 (next_c _ _ _ (by omega))).mono ?_; rintro e w6 ⟨rfl, hx6⟩; have hi6 := WInv.below ok hJ (WInv.setD ok hJ hlt hlk Hi.out p) hx6; clear hx6))
          go_roundw
          case rel => exact ⟨p + szL ((ls s).drop p), 0, f, p, pre, congrArg _ Hn0.out, hn1, hn2, ⟨m, hfin.out, by omega⟩, hi6⟩
          case measure => have hn0 := Hn0.out; simp only [intOf]; rw [show nextI (ls s) ((p : Nat) : Int) = _ from hn0]; simp; omega
        · have Hem : Hid (emB (ls s) p = false) := Lib.hid (em_false2 hpl2 (nlf_of g9))
          have Hz := Lib.hid hz0
          have ga : 1 ≤ (p : Int) := by omega
          have gb : (p : Int) - 1 < s.size := by omega
          clear hz0
          gi_wp2_with (first | ((first | refine ⟨trivial, (fun _ => by omega), ?_⟩ | refine ⟨trivial, ?_⟩); gi_at_call 75; refine (callsIn_wide.2 (hcall _)).mono ?_; rintro e w1 ⟨rfl, hx1⟩; have hi1 := HI.out.below ok hJ hx1; have Hi1 := Lib.hid hi1; have ct1 := hi1.t.cell.1; have ca1 := hi1.a.cell.1; have ca2 := hi1.a.cell.2; have cb1 := hi1.b.cell.1; have cb2 := hi1.b.cell.2; have cd1 := hi1.d.cell.1; have cd2 := hi1.d.cell.2; have cy1 := hi1.y.cell.1; clear hi1 hx1 ct ck))
          refine ⟨(fun f hf => by cases hf), ?_⟩
          have hi4 := (WInv.setA ok hJ hlt hlk Hi1.out 0)
          have hfin := Lib.hid (show wordsI (ls s) false = pre ++ wl (ls s) false m (p + szL ((ls s).drop p)) 0 f p by rw [Hw.out, wl_step, if_neg (c := p = (ls s).length) (by rw [ls_len]; exact Hend.out)]; simp [Hkc.out, Hem.out])
          have cte := hi4.t.cell.1
          have cde := hi4.d.cell.1
          have cdf := hi4.d.cell.2
          have Hi := Lib.hid hi4
          clear hi4
          gi_wp2_with (first | ((first | refine ⟨trivial, (fun _ => by omega), ?_⟩ | refine ⟨trivial, ?_⟩); gi_at_call 79; refine (callsIn_wide.2 (next_c _ _ _ (by omega))).mono ?_; rintro e w6 ⟨rfl, hx6⟩; have hi6 := WInv.below ok hJ (WInv.setD ok hJ hlt hlk Hi.out p) hx6; clear hx6))
          go_roundw
          case rel => exact ⟨p + szL ((ls s).drop p), 0, f, p, pre, congrArg _ Hn0.out, hn1, hn2, ⟨m, hfin.out, by omega⟩, hi6⟩
          case measure => have hn0 := Hn0.out; simp only [intOf]; rw [show nextI (ls s) ((p : Nat) : Int) = _ from hn0]; simp; omega
      · have Hc0 : Hid (c0 ≠ 0) := Lib.hid hc
        have Hcc : Hid (¬ (0 : Int) = c0) := Lib.hid (fun e => hc e.symm)
        have g7 : ((0 : Int) != c0) = true := by simpa using fun e => hc (Eq.symm e)
        clear hc
        rcases p_ways s p hp with ⟨hz0, g8⟩ | ⟨hz0, g8, hpb, g10⟩ | ⟨hz0, g8, hpb, g10⟩
        · have Hem : Hid (emB (ls s) p = false) := Lib.hid (em_false2 hpl2 (nlf_of g9))
          have Hz := Lib.hid hz0
          clear hz0
          gi_wp2_with (first | ((first | refine ⟨trivial, (fun _ => by omega), ?_⟩ | refine ⟨trivial, ?_⟩); gi_at_call 75; refine (callsIn_wide.2 (hcall _)).mono ?_; rintro e w1 ⟨rfl, hx1⟩; have hi1 := HI.out.below ok hJ hx1; have Hi1 := Lib.hid hi1; have ct1 := hi1.t.cell.1; have ca1 := hi1.a.cell.1; have ca2 := hi1.a.cell.2; have cb1 := hi1.b.cell.1; have cb2 := hi1.b.cell.2; have cd1 := hi1.d.cell.1; have cd2 := hi1.d.cell.2; have cy1 := hi1.y.cell.1; clear hi1 hx1 ct ck))
          refine ⟨trivial, (fun _ => by omega), ?_⟩
          gi_at_call 78
          refine (flush1 _ _ _ _ _ l c0 (f, pv) w1 Hc0.out ca1 cy1 cb1 cd1 (Yielded Pv J Jx (pre ++ [(f, pv)]) w1) (by rintro e W' (⟨rfl, -⟩ | ⟨rfl, -⟩) <;> exact ⟨_, rfl⟩) (hY pre (f, pv) w1 Hi1.out.j (by rw [Hw.out, wl_step]; simp [Hkc.out, Hcc.out, Hc0.out]))).mono ?_
          rintro e w2 (⟨rfl, hj2, hk2⟩ | ⟨rfl, hjx⟩)
          rotate_left
          · gi_wp2
            refine bodyPost_ret (results_none rfl _ _ _) rfl ?_
            exact ⟨⟨_, rfl⟩, .inr ⟨_, trivial, hjx⟩⟩
          have hi2 := Hi1.out.keep hj2 hk2
          have Hi2 := Lib.hid hi2
          have ct2 := hi2.t.cell.1
          have ca3 := hi2.a.cell.1
          have ca4 := hi2.a.cell.2
          have cb3 := hi2.b.cell.1
          have cb4 := hi2.b.cell.2
          have cd3 := hi2.d.cell.1
          have cd4 := hi2.d.cell.2
          have cy2 := hi2.y.cell.1
          clear hi2 hj2 hk2 ct1 ca1 ca2 cb1 cb2 cd1 cd2 cy1
          gi_wp2
          refine ⟨(fun f hf => by cases hf), ?_⟩
          have hi4 := (WInv.setA ok hJ hlt hlk (WInv.setB ok hJ hlt hlk Hi2.out p) 0)
          have hfin := Lib.hid (show wordsI (ls s) false = (pre ++ [(f, pv)]) ++ wl (ls s) false m (p + szL ((ls s).drop p)) 0 p p by rw [Hw.out, wl_step, if_neg (c := p = (ls s).length) (by rw [ls_len]; exact Hend.out)]; simp [Hkc.out, Hcc.out, Hc0.out, Hem.out])
          have cte := hi4.t.cell.1
          have cde := hi4.d.cell.1
          have cdf := hi4.d.cell.2
          have Hi := Lib.hid hi4
          clear hi4
          gi_wp2_with (first | ((first | refine ⟨trivial, (fun _ => by omega), ?_⟩ | refine ⟨trivial, ?_⟩); gi_at_call 79; refine (callsIn_wide.2 (next_c _ _ _ (by omega))).mono ?_; rintro e w6 ⟨rfl, hx6⟩; have hi6 := WInv.below ok hJ (WInv.setD ok hJ hlt hlk Hi.out p) hx6; clear hx6))
          go_roundw
          case rel => exact ⟨p + szL ((ls s).drop p), 0, p, p, (pre ++ [(f, pv)]), congrArg _ Hn0.out, hn1, hn2, ⟨m, hfin.out, by omega⟩, hi6⟩
          case measure => have hn0 := Hn0.out; simp only [intOf]; rw [show nextI (ls s) ((p : Nat) : Int) = _ from hn0]; simp; omega
        · have Hem : Hid (emB (ls s) p = false) := Lib.hid (em_false2 hpl2 (nlf_of g9))
          have Hz := Lib.hid hz0
          have ga : 1 ≤ (p : Int) := by omega
          have gb : (p : Int) - 1 < s.size := by omega
          clear hz0
          gi_wp2_with (first | ((first | refine ⟨trivial, (fun _ => by omega), ?_⟩ | refine ⟨trivial, ?_⟩); gi_at_call 75; refine (callsIn_wide.2 (hcall _)).mono ?_; rintro e w1 ⟨rfl, hx1⟩; have hi1 := HI.out.below ok hJ hx1; have Hi1 := Lib.hid hi1; have ct1 := hi1.t.cell.1; have ca1 := hi1.a.cell.1; have ca2 := hi1.a.cell.2; have cb1 := hi1.b.cell.1; have cb2 := hi1.b.cell.2; have cd1 := hi1.d.cell.1; have cd2 := hi1.d.cell.2; have cy1 := hi1.y.cell.1; clear hi1 hx1 ct ck))
          refine ⟨trivial, (fun _ => by omega), ?_⟩
          gi_at_call 78
          refine (flush1 _ _ _ _ _ l c0 (f, pv) w1 Hc0.out ca1 cy1 cb1 cd1 (Yielded Pv J Jx (pre ++ [(f, pv)]) w1) (by rintro e W' (⟨rfl, -⟩ | ⟨rfl, -⟩) <;> exact ⟨_, rfl⟩) (hY pre (f, pv) w1 Hi1.out.j (by rw [Hw.out, wl_step]; simp [Hkc.out, Hcc.out, Hc0.out]))).mono ?_
          rintro e w2 (⟨rfl, hj2, hk2⟩ | ⟨rfl, hjx⟩)
          rotate_left
          · gi_wp2
            refine bodyPost_ret (results_none rfl _ _ _) rfl ?_
            exact ⟨⟨_, rfl⟩, .inr ⟨_, trivial, hjx⟩⟩
          have hi2 := Hi1.out.keep hj2 hk2
          have Hi2 := Lib.hid hi2
          have ct2 := hi2.t.cell.1
          have ca3 := hi2.a.cell.1
          have ca4 := hi2.a.cell.2
          have cb3 := hi2.b.cell.1
          have cb4 := hi2.b.cell.2
          have cd3 := hi2.d.cell.1
          have cd4 := hi2.d.cell.2
          have cy2 := hi2.y.cell.1
          clear hi2 hj2 hk2 ct1 ca1 ca2 cb1 cb2 cd1 cd2 cy1
          gi_wp2
          refine ⟨(fun f hf => by cases hf), ?_⟩
          have hi4 := (WInv.setA ok hJ hlt hlk (WInv.setB ok hJ hlt hlk Hi2.out p) 0)
          have hfin := Lib.hid (show wordsI (ls s) false = (pre ++ [(f, pv)]) ++ wl (ls s) false m (p + szL ((ls s).drop p)) 0 p p by rw [Hw.out, wl_step, if_neg (c := p = (ls s).length) (by rw [ls_len]; exact Hend.out)]; simp [Hkc.out, Hcc.out, Hc0.out, Hem.out])
          have cte := hi4.t.cell.1
          have cde := hi4.d.cell.1
          have cdf := hi4.d.cell.2
          have Hi := Lib.hid hi4
          clear hi4
          gi_wp2_with (first | ((first | refine ⟨trivial, (fun _ => by omega), ?_⟩ | refine ⟨trivial, ?_⟩); gi_at_call 79; refine (callsIn_wide.2 (next_c _ _ _ (by omega))).mono ?_; rintro e w6 ⟨rfl, hx6⟩; have hi6 := WInv.below ok hJ (WInv.setD ok hJ hlt hlk Hi.out p) hx6; clear hx6))
          go_roundw
          case rel => exact ⟨p + szL ((ls s).drop p), 0, p, p, (pre ++ [(f, pv)]), congrArg _ Hn0.out, hn1, hn2, ⟨m, hfin.out, by omega⟩, hi6⟩
          case measure => have hn0 := Hn0.out; simp only [intOf]; rw [show nextI (ls s) ((p : Nat) : Int) = _ from hn0]; simp; omega
        · have Hem : Hid (emB (ls s) p = false) := Lib.hid (em_false2 hpl2 (nlf_of g9))
          have Hz := Lib.hid hz0
          have ga : 1 ≤ (p : Int) := by omega
          have gb : (p : Int) - 1 < s.size := by omega
          clear hz0
          gi_wp2_with (first | ((first | refine ⟨trivial, (fun _ => by omega), ?_⟩ | refine ⟨trivial, ?_⟩); gi_at_call 75; refine (callsIn_wide.2 (hcall _)).mono ?_; rintro e w1 ⟨rfl, hx1⟩; have hi1 := HI.out.below ok hJ hx1; have Hi1 := Lib.hid hi1; have ct1 := hi1.t.cell.1; have ca1 := hi1.a.cell.1; have ca2 := hi1.a.cell.2; have cb1 := hi1.b.cell.1; have cb2 := hi1.b.cell.2; have cd1 := hi1.d.cell.1; have cd2 := hi1.d.cell.2; have cy1 := hi1.y.cell.1; clear hi1 hx1 ct ck))
          refine ⟨trivial, (fun _ => by omega), ?_⟩
          gi_at_call 78
          refine (flush1 _ _ _ _ _ l c0 (f, pv) w1 Hc0.out ca1 cy1 cb1 cd1 (Yielded Pv J Jx (pre ++ [(f, pv)]) w1) (by rintro e W' (⟨rfl, -⟩ | ⟨rfl, -⟩) <;> exact ⟨_, rfl⟩) (hY pre (f, pv) w1 Hi1.out.j (by rw [Hw.out, wl_step]; simp [Hkc.out, Hcc.out, Hc0.out]))).mono ?_
          rintro e w2 (⟨rfl, hj2, hk2⟩ | ⟨rfl, hjx⟩)
          rotate_left
          · gi_wp2
            refine bodyPost_ret (results_none rfl _ _ _) rfl ?_
            exact ⟨⟨_, rfl⟩, .inr ⟨_, trivial, hjx⟩⟩
          have hi2 := Hi1.out.keep hj2 hk2
          have Hi2 := Lib.hid hi2
          have ct2 := hi2.t.cell.1
          have ca3 := hi2.a.cell.1
          have ca4 := hi2.a.cell.2
          have cb3 := hi2.b.cell.1
          have cb4 := hi2.b.cell.2
          have cd3 := hi2.d.cell.1
          have cd4 := hi2.d.cell.2
          have cy2 := hi2.y.cell.1
          clear hi2 hj2 hk2 ct1 ca1 ca2 cb1 cb2 cd1 cd2 cy1
          gi_wp2
          refine ⟨(fun f hf => by cases hf), ?_⟩
          have hi4 := (WInv.setA ok hJ hlt hlk (WInv.setB ok hJ hlt hlk Hi2.out p) 0)
          have hfin := Lib.hid (show wordsI (ls s) false = (pre ++ [(f, pv)]) ++ wl (ls s) false m (p + szL ((ls s).drop p)) 0 p p by rw [Hw.out, wl_step, if_neg (c := p = (ls s).length) (by rw [ls_len]; exact Hend.out)]; simp [Hkc.out, Hcc.out, Hc0.out, Hem.out])
          have cte := hi4.t.cell.1
          have cde := hi4.d.cell.1
          have cdf := hi4.d.cell.2
          have Hi := Lib.hid hi4
          clear hi4
          gi_wp2_with (first | ((first | refine ⟨trivial, (fun _ => by omega), ?_⟩ | refine ⟨trivial, ?_⟩); gi_at_call 79; refine (callsIn_wide.2 (next_c _ _ _ (by omega))).mono ?_; rintro e w6 ⟨rfl, hx6⟩; have hi6 := WInv.below ok hJ (WInv.setD ok hJ hlt hlk Hi.out p) hx6; clear hx6))
          go_roundw
          case rel => exact ⟨p + szL ((ls s).drop p), 0, p, p, (pre ++ [(f, pv)]), congrArg _ Hn0.out, hn1, hn2, ⟨m, hfin.out, by omega⟩, hi6⟩
          case measure => have hn0 := Hn0.out; simp only [intOf]; rw [show nextI (ls s) ((p : Nat) : Int) = _ from hn0]; simp; omega
    · -- a line feed
      have Hkc := Lib.hid hkc
      clear hkc
      have g5 : ((p : Int) == (s.size : Int)) = false := by simp; omega
      have Hend : Hid (¬ p = s.size) := Lib.hid (by omega)
      have Hn0 : Hid (nextI (ls s) p = ((p + szL ((ls s).drop p) : Nat) : Int)) := Lib.hid (next_sz hpl (by rw [ls_len]; exact hpl2))
      have hn1 : p + szL ((ls s).drop p) ≤ s.size := by have := (sz_at hpl (by rw [ls_len]; exact hpl2)).2; rw [ls_len] at this; exact this
      have hn2 := place_next hpl (by rw [ls_len]; exact hpl2)
      have hn3 := (sz_at hpl (by rw [ls_len]; exact hpl2)).1
      have g9 := byte_feed hkv hpl2
      by_cases hc : c0 = 0
      · subst hc
        rcases p_ways s p hp with ⟨hz0, g8⟩ | ⟨hz0, g8, hpb, g10⟩ | ⟨hz0, g8, hpb, g10⟩
        · have Hem : Hid (emB (ls s) p = true) := Lib.hid (em_true (.inl hz0) (.inr ⟨hpl2, lf_of g9⟩))
          have Hz := Lib.hid hz0
          clear hz0
          gi_wp2_with (first | ((first | refine ⟨trivial, (fun _ => by omega), ?_⟩ | refine ⟨trivial, ?_⟩); gi_at_call 75; refine (callsIn_wide.2 (hcall _)).mono ?_; rintro e w1 ⟨rfl, hx1⟩; have hi1 := HI.out.below ok hJ hx1; have Hi1 := Lib.hid hi1; have ct1 := hi1.t.cell.1; have ca1 := hi1.a.cell.1; have ca2 := hi1.a.cell.2; have cb1 := hi1.b.cell.1; have cb2 := hi1.b.cell.2; have cd1 := hi1.d.cell.1; have cd2 := hi1.d.cell.2; have cy1 := hi1.y.cell.1; clear hi1 hx1 ct ck; obtain ⟨fn, tmps, assign, body, hy, hR⟩ := hY pre (p, -1) _ (WInv.setA ok hJ hlt hlk Hi1.out 0).j (by rw [Hw.out, wl_step] <;> simp [Hkc.out, Hem.out]); dsimp only [encW] at hy; have HR := Lib.hid hR; clear hR))
          refine ⟨(fun _ => by omega), HR.out.mono ?_⟩
          clear HR hy
          rintro e w5 (⟨rfl, hj5, hk5⟩ | ⟨rfl, hjx⟩)
          · have hi5 := (WInv.setA ok hJ hlt hlk Hi1.out 0).keep hj5 hk5
            have hfin := Lib.hid (show wordsI (ls s) false = (pre ++ [((p, -1) : Nat × Int)]) ++ wl (ls s) false m (p + szL ((ls s).drop p)) 0 f p by rw [Hw.out, wl_step, if_neg (c := p = (ls s).length) (by rw [ls_len]; exact Hend.out)]; simp [Hkc.out, Hem.out])
            have cte := hi5.t.cell.1
            have cde := hi5.d.cell.1
            have cdf := hi5.d.cell.2
            have Hi := Lib.hid hi5
            clear hi5
            gi_wp2_with (first | ((first | refine ⟨trivial, (fun _ => by omega), ?_⟩ | refine ⟨trivial, ?_⟩); gi_at_call 79; refine (callsIn_wide.2 (next_c _ _ _ (by omega))).mono ?_; rintro e w6 ⟨rfl, hx6⟩; have hi6 := WInv.below ok hJ (WInv.setD ok hJ hlt hlk Hi.out p) hx6; clear hx6))
            go_roundw
            case rel => exact ⟨p + szL ((ls s).drop p), 0, f, p, (pre ++ [((p, -1) : Nat × Int)]), congrArg _ Hn0.out, hn1, hn2, ⟨m, hfin.out, by omega⟩, hi6⟩
            case measure => have hn0 := Hn0.out; simp only [intOf]; rw [show nextI (ls s) ((p : Nat) : Int) = _ from hn0]; simp; omega
          · gi_wp2
            refine bodyPost_ret (results_none rfl _ _ _) rfl ?_
            exact ⟨⟨_, rfl⟩, .inr ⟨_, trivial, hjx⟩⟩
        · have Hem : Hid (emB (ls s) p = true) := Lib.hid (em_true (.inr ⟨hpb, lf_of g10⟩) (.inr ⟨hpl2, lf_of g9⟩))
          have Hz := Lib.hid hz0
          have ga : 1 ≤ (p : Int) := by omega
          have gb : (p : Int) - 1 < s.size := by omega
          clear hz0
          gi_wp2_with (first | ((first | refine ⟨trivial, (fun _ => by omega), ?_⟩ | refine ⟨trivial, ?_⟩); gi_at_call 75; refine (callsIn_wide.2 (hcall _)).mono ?_; rintro e w1 ⟨rfl, hx1⟩; have hi1 := HI.out.below ok hJ hx1; have Hi1 := Lib.hid hi1; have ct1 := hi1.t.cell.1; have ca1 := hi1.a.cell.1; have ca2 := hi1.a.cell.2; have cb1 := hi1.b.cell.1; have cb2 := hi1.b.cell.2; have cd1 := hi1.d.cell.1; have cd2 := hi1.d.cell.2; have cy1 := hi1.y.cell.1; clear hi1 hx1 ct ck; obtain ⟨fn, tmps, assign, body, hy, hR⟩ := hY pre (p, -1) _ (WInv.setA ok hJ hlt hlk Hi1.out 0).j (by rw [Hw.out, wl_step] <;> simp [Hkc.out, Hem.out]); dsimp only [encW] at hy; have HR := Lib.hid hR; clear hR))
          refine ⟨(fun _ => by omega), HR.out.mono ?_⟩
          clear HR hy
          rintro e w5 (⟨rfl, hj5, hk5⟩ | ⟨rfl, hjx⟩)
          · have hi5 := (WInv.setA ok hJ hlt hlk Hi1.out 0).keep hj5 hk5
            have hfin := Lib.hid (show wordsI (ls s) false = (pre ++ [((p, -1) : Nat × Int)]) ++ wl (ls s) false m (p + szL ((ls s).drop p)) 0 f p by rw [Hw.out, wl_step, if_neg (c := p = (ls s).length) (by rw [ls_len]; exact Hend.out)]; simp [Hkc.out, Hem.out])
            have cte := hi5.t.cell.1
            have cde := hi5.d.cell.1
            have cdf := hi5.d.cell.2
            have Hi := Lib.hid hi5
            clear hi5
            gi_wp2_with (first | ((first | refine ⟨trivial, (fun _ => by omega), ?_⟩ | refine ⟨trivial, ?_⟩); gi_at_call 79; refine (callsIn_wide.2 (next_c _ _ _ (by omega))).mono ?_; rintro e w6 ⟨rfl, hx6⟩; have hi6 := WInv.below ok hJ (WInv.setD ok hJ hlt hlk Hi.out p) hx6; clear hx6))
            go_roundw
            case rel => exact ⟨p + szL ((ls s).drop p), 0, f, p, (pre ++ [((p, -1) : Nat × Int)]), congrArg _ Hn0.out, hn1, hn2, ⟨m, hfin.out, by omega⟩, hi6⟩
            case measure => have hn0 := Hn0.out; simp only [intOf]; rw [show nextI (ls s) ((p : Nat) : Int) = _ from hn0]; simp; omega
          · gi_wp2
            refine bodyPost_ret (results_none rfl _ _ _) rfl ?_
            exact ⟨⟨_, rfl⟩, .inr ⟨_, trivial, hjx⟩⟩
        · have Hem : Hid (emB (ls s) p = false) := Lib.hid (em_false1 hz0 hpb (nlf_of g10))
          have Hz := Lib.hid hz0
          have ga : 1 ≤ (p : Int) := by omega
          have gb : (p : Int) - 1 < s.size := by omega
          clear hz0
          gi_wp2_with (first | ((first | refine ⟨trivial, (fun _ => by omega), ?_⟩ | refine ⟨trivial, ?_⟩); gi_at_call 75; refine (callsIn_wide.2 (hcall _)).mono ?_; rintro e w1 ⟨rfl, hx1⟩; have hi1 := HI.out.below ok hJ hx1; have Hi1 := Lib.hid hi1; have ct1 := hi1.t.cell.1; have ca1 := hi1.a.cell.1; have ca2 := hi1.a.cell.2; have cb1 := hi1.b.cell.1; have cb2 := hi1.b.cell.2; have cd1 := hi1.d.cell.1; have cd2 := hi1.d.cell.2; have cy1 := hi1.y.cell.1; clear hi1 hx1 ct ck))
          refine ⟨(fun f hf => by cases hf), ?_⟩
          have hi4 := (WInv.setA ok hJ hlt hlk Hi1.out 0)
          have hfin := Lib.hid (show wordsI (ls s) false = pre ++ wl (ls s) false m (p + szL ((ls s).drop p)) 0 f p by rw [Hw.out, wl_step, if_neg (c := p = (ls s).length) (by rw [ls_len]; exact Hend.out)]; simp [Hkc.out, Hem.out])
          have cte := hi4.t.cell.1
          have cde := hi4.d.cell.1
          have cdf := hi4.d.cell.2
          have Hi := Lib.hid hi4
          clear hi4
          gi_wp2_with (first | ((first | refine ⟨trivial, (fun _ => by omega), ?_⟩ | refine ⟨trivial, ?_⟩); gi_at_call 79; refine (callsIn_wide.2 (next_c _ _ _ (by omega))).mono ?_; rintro e w6 ⟨rfl, hx6⟩; have hi6 := WInv.below ok hJ (WInv.setD ok hJ hlt hlk Hi.out p) hx6; clear hx6))
          go_roundw
          case rel => exact ⟨p + szL ((ls s).drop p), 0, f, p, pre, congrArg _ Hn0.out, hn1, hn2, ⟨m, hfin.out, by omega⟩, hi6⟩
          case measure => have hn0 := Hn0.out; simp only [intOf]; rw [show nextI (ls s) ((p : Nat) : Int) = _ from hn0]; simp; omega
      · have Hc0 : Hid (c0 ≠ 0) := Lib.hid hc
        have Hcc : Hid (¬ (0 : Int) = c0) := Lib.hid (fun e => hc e.symm)
        have g7 : ((0 : Int) != c0) = true := by simpa using fun e => hc (Eq.symm e)
        clear hc
        rcases p_ways s p hp with ⟨hz0, g8⟩ | ⟨hz0, g8, hpb, g10⟩ | ⟨hz0, g8, hpb, g10⟩
        · have Hem : Hid (emB (ls s) p = true) := Lib.hid (em_true (.inl hz0) (.inr ⟨hpl2, lf_of g9⟩))
          have Hz := Lib.hid hz0
          clear hz0
          gi_wp2_with (first | ((first | refine ⟨trivial, (fun _ => by omega), ?_⟩ | refine ⟨trivial, ?_⟩); gi_at_call 75; refine (callsIn_wide.2 (hcall _)).mono ?_; rintro e w1 ⟨rfl, hx1⟩; have hi1 := HI.out.below ok hJ hx1; have Hi1 := Lib.hid hi1; have ct1 := hi1.t.cell.1; have ca1 := hi1.a.cell.1; have ca2 := hi1.a.cell.2; have cb1 := hi1.b.cell.1; have cb2 := hi1.b.cell.2; have cd1 := hi1.d.cell.1; have cd2 := hi1.d.cell.2; have cy1 := hi1.y.cell.1; clear hi1 hx1 ct ck))
          refine ⟨trivial, (fun _ => by omega), ?_⟩
          gi_at_call 78
          refine (flush1 _ _ _ _ _ l c0 (f, pv) w1 Hc0.out ca1 cy1 cb1 cd1 (Yielded Pv J Jx (pre ++ [(f, pv)]) w1) (by rintro e W' (⟨rfl, -⟩ | ⟨rfl, -⟩) <;> exact ⟨_, rfl⟩) (hY pre (f, pv) w1 Hi1.out.j (by rw [Hw.out, wl_step]; simp [Hkc.out, Hcc.out, Hc0.out]))).mono ?_
          rintro e w2 (⟨rfl, hj2, hk2⟩ | ⟨rfl, hjx⟩)
          rotate_left
          · gi_wp2
            refine bodyPost_ret (results_none rfl _ _ _) rfl ?_
            exact ⟨⟨_, rfl⟩, .inr ⟨_, trivial, hjx⟩⟩
          have hi2 := Hi1.out.keep hj2 hk2
          have Hi2 := Lib.hid hi2
          have ct2 := hi2.t.cell.1
          have ca3 := hi2.a.cell.1
          have ca4 := hi2.a.cell.2
          have cb3 := hi2.b.cell.1
          have cb4 := hi2.b.cell.2
          have cd3 := hi2.d.cell.1
          have cd4 := hi2.d.cell.2
          have cy2 := hi2.y.cell.1
          clear hi2 hj2 hk2 ct1 ca1 ca2 cb1 cb2 cd1 cd2 cy1
          obtain ⟨fn, tmps, assign, body, hy, hR⟩ := hY (pre ++ [(f, pv)]) (p, -1) _ (WInv.setA ok hJ hlt hlk (WInv.setB ok hJ hlt hlk Hi2.out p) 0).j (by rw [Hw.out, wl_step] <;> simp [Hkc.out, Hcc.out, Hc0.out, Hem.out])
          dsimp only [encW] at hy
          have HR := Lib.hid hR
          clear hR
          gi_wp2
          refine ⟨(fun _ => by omega), HR.out.mono ?_⟩
          clear HR hy
          rintro e w5 (⟨rfl, hj5, hk5⟩ | ⟨rfl, hjx⟩)
          · have hi5 := (WInv.setA ok hJ hlt hlk (WInv.setB ok hJ hlt hlk Hi2.out p) 0).keep hj5 hk5
            have hfin := Lib.hid (show wordsI (ls s) false = ((pre ++ [(f, pv)]) ++ [((p, -1) : Nat × Int)]) ++ wl (ls s) false m (p + szL ((ls s).drop p)) 0 p p by rw [Hw.out, wl_step, if_neg (c := p = (ls s).length) (by rw [ls_len]; exact Hend.out)]; simp [Hkc.out, Hcc.out, Hc0.out, Hem.out])
            have cte := hi5.t.cell.1
            have cde := hi5.d.cell.1
            have cdf := hi5.d.cell.2
            have Hi := Lib.hid hi5
            clear hi5
            gi_wp2_with (first | ((first | refine ⟨trivial, (fun _ => by omega), ?_⟩ | refine ⟨trivial, ?_⟩); gi_at_call 79; refine (callsIn_wide.2 (next_c _ _ _ (by omega))).mono ?_; rintro e w6 ⟨rfl, hx6⟩; have hi6 := WInv.below ok hJ (WInv.setD ok hJ hlt hlk Hi.out p) hx6; clear hx6))
            go_roundw
            case rel => exact ⟨p + szL ((ls s).drop p), 0, p, p, ((pre ++ [(f, pv)]) ++ [((p, -1) : Nat × Int)]), congrArg _ Hn0.out, hn1, hn2, ⟨m, hfin.out, by omega⟩, hi6⟩
            case measure => have hn0 := Hn0.out; simp only [intOf]; rw [show nextI (ls s) ((p : Nat) : Int) = _ from hn0]; simp; omega
          · gi_wp2
            refine bodyPost_ret (results_none rfl _ _ _) rfl ?_
            exact ⟨⟨_, rfl⟩, .inr ⟨_, trivial, hjx⟩⟩
        · have Hem : Hid (emB (ls s) p = true) := Lib.hid (em_true (.inr ⟨hpb, lf_of g10⟩) (.inr ⟨hpl2, lf_of g9⟩))
          have Hz := Lib.hid hz0
          have ga : 1 ≤ (p : Int) := by omega
          have gb : (p : Int) - 1 < s.size := by omega
          clear hz0
          gi_wp2_with (first | ((first | refine ⟨trivial, (fun _ => by omega), ?_⟩ | refine ⟨trivial, ?_⟩); gi_at_call 75; refine (callsIn_wide.2 (hcall _)).mono ?_; rintro e w1 ⟨rfl, hx1⟩; have hi1 := HI.out.below ok hJ hx1; have Hi1 := Lib.hid hi1; have ct1 := hi1.t.cell.1; have ca1 := hi1.a.cell.1; have ca2 := hi1.a.cell.2; have cb1 := hi1.b.cell.1; have cb2 := hi1.b.cell.2; have cd1 := hi1.d.cell.1; have cd2 := hi1.d.cell.2; have cy1 := hi1.y.cell.1; clear hi1 hx1 ct ck))
          refine ⟨trivial, (fun _ => by omega), ?_⟩
          gi_at_call 78
          refine (flush1 _ _ _ _ _ l c0 (f, pv) w1 Hc0.out ca1 cy1 cb1 cd1 (Yielded Pv J Jx (pre ++ [(f, pv)]) w1) (by rintro e W' (⟨rfl, -⟩ | ⟨rfl, -⟩) <;> exact ⟨_, rfl⟩) (hY pre (f, pv) w1 Hi1.out.j (by rw [Hw.out, wl_step]; simp [Hkc.out, Hcc.out, Hc0.out]))).mono ?_
          rintro e w2 (⟨rfl, hj2, hk2⟩ | ⟨rfl, hjx⟩)
          rotate_left
          · gi_wp2
            refine bodyPost_ret (results_none rfl _ _ _) rfl ?_
            exact ⟨⟨_, rfl⟩, .inr ⟨_, trivial, hjx⟩⟩
          have hi2 := Hi1.out.keep hj2 hk2
          have Hi2 := Lib.hid hi2
          have ct2 := hi2.t.cell.1
          have ca3 := hi2.a.cell.1
          have ca4 := hi2.a.cell.2
          have cb3 := hi2.b.cell.1
          have cb4 := hi2.b.cell.2
          have cd3 := hi2.d.cell.1
          have cd4 := hi2.d.cell.2
          have cy2 := hi2.y.cell.1
          clear hi2 hj2 hk2 ct1 ca1 ca2 cb1 cb2 cd1 cd2 cy1
          obtain ⟨fn, tmps, assign, body, hy, hR⟩ := hY (pre ++ [(f, pv)]) (p, -1) _ (WInv.setA ok hJ hlt hlk (WInv.setB ok hJ hlt hlk Hi2.out p) 0).j (by rw [Hw.out, wl_step] <;> simp [Hkc.out, Hcc.out, Hc0.out, Hem.out])
          dsimp only [encW] at hy
          have HR := Lib.hid hR
          clear hR
          gi_wp2
          refine ⟨(fun _ => by omega), HR.out.mono ?_⟩
          clear HR hy
          rintro e w5 (⟨rfl, hj5, hk5⟩ | ⟨rfl, hjx⟩)
          · have hi5 := (WInv.setA ok hJ hlt hlk (WInv.setB ok hJ hlt hlk Hi2.out p) 0).keep hj5 hk5
            have hfin := Lib.hid (show wordsI (ls s) false = ((pre ++ [(f, pv)]) ++ [((p, -1) : Nat × Int)]) ++ wl (ls s) false m (p + szL ((ls s).drop p)) 0 p p by rw [Hw.out, wl_step, if_neg (c := p = (ls s).length) (by rw [ls_len]; exact Hend.out)]; simp [Hkc.out, Hcc.out, Hc0.out, Hem.out])
            have cte := hi5.t.cell.1
            have cde := hi5.d.cell.1
            have cdf := hi5.d.cell.2
            have Hi := Lib.hid hi5
            clear hi5
            gi_wp2_with (first | ((first | refine ⟨trivial, (fun _ => by omega), ?_⟩ | refine ⟨trivial, ?_⟩); gi_at_call 79; refine (callsIn_wide.2 (next_c _ _ _ (by omega))).mono ?_; rintro e w6 ⟨rfl, hx6⟩; have hi6 := WInv.below ok hJ (WInv.setD ok hJ hlt hlk Hi.out p) hx6; clear hx6))
            go_roundw
            case rel => exact ⟨p + szL ((ls s).drop p), 0, p, p, ((pre ++ [(f, pv)]) ++ [((p, -1) : Nat × Int)]), congrArg _ Hn0.out, hn1, hn2, ⟨m, hfin.out, by omega⟩, hi6⟩
            case measure => have hn0 := Hn0.out; simp only [intOf]; rw [show nextI (ls s) ((p : Nat) : Int) = _ from hn0]; simp; omega
          · gi_wp2
            refine bodyPost_ret (results_none rfl _ _ _) rfl ?_
            exact ⟨⟨_, rfl⟩, .inr ⟨_, trivial, hjx⟩⟩
        · have Hem : Hid (emB (ls s) p = false) := Lib.hid (em_false1 hz0 hpb (nlf_of g10))
          have Hz := Lib.hid hz0
          have ga : 1 ≤ (p : Int) := by omega
          have gb : (p : Int) - 1 < s.size := by omega
          clear hz0
          gi_wp2_with (first | ((first | refine ⟨trivial, (fun _ => by omega), ?_⟩ | refine ⟨trivial, ?_⟩); gi_at_call 75; refine (callsIn_wide.2 (hcall _)).mono ?_; rintro e w1 ⟨rfl, hx1⟩; have hi1 := HI.out.below ok hJ hx1; have Hi1 := Lib.hid hi1; have ct1 := hi1.t.cell.1; have ca1 := hi1.a.cell.1; have ca2 := hi1.a.cell.2; have cb1 := hi1.b.cell.1; have cb2 := hi1.b.cell.2; have cd1 := hi1.d.cell.1; have cd2 := hi1.d.cell.2; have cy1 := hi1.y.cell.1; clear hi1 hx1 ct ck))
          refine ⟨trivial, (fun _ => by omega), ?_⟩
          gi_at_call 78
          refine (flush1 _ _ _ _ _ l c0 (f, pv) w1 Hc0.out ca1 cy1 cb1 cd1 (Yielded Pv J Jx (pre ++ [(f, pv)]) w1) (by rintro e W' (⟨rfl, -⟩ | ⟨rfl, -⟩) <;> exact ⟨_, rfl⟩) (hY pre (f, pv) w1 Hi1.out.j (by rw [Hw.out, wl_step]; simp [Hkc.out, Hcc.out, Hc0.out]))).mono ?_
          rintro e w2 (⟨rfl, hj2, hk2⟩ | ⟨rfl, hjx⟩)
          rotate_left
          · gi_wp2
            refine bodyPost_ret (results_none rfl _ _ _) rfl ?_
            exact ⟨⟨_, rfl⟩, .inr ⟨_, trivial, hjx⟩⟩
          have hi2 := Hi1.out.keep hj2 hk2
          have Hi2 := Lib.hid hi2
          have ct2 := hi2.t.cell.1
          have ca3 := hi2.a.cell.1
          have ca4 := hi2.a.cell.2
          have cb3 := hi2.b.cell.1
          have cb4 := hi2.b.cell.2
          have cd3 := hi2.d.cell.1
          have cd4 := hi2.d.cell.2
          have cy2 := hi2.y.cell.1
          clear hi2 hj2 hk2 ct1 ca1 ca2 cb1 cb2 cd1 cd2 cy1
          gi_wp2
          refine ⟨(fun f hf => by cases hf), ?_⟩
          have hi4 := (WInv.setA ok hJ hlt hlk (WInv.setB ok hJ hlt hlk Hi2.out p) 0)
          have hfin := Lib.hid (show wordsI (ls s) false = (pre ++ [(f, pv)]) ++ wl (ls s) false m (p + szL ((ls s).drop p)) 0 p p by rw [Hw.out, wl_step, if_neg (c := p = (ls s).length) (by rw [ls_len]; exact Hend.out)]; simp [Hkc.out, Hcc.out, Hc0.out, Hem.out])
          have cte := hi4.t.cell.1
          have cde := hi4.d.cell.1
          have cdf := hi4.d.cell.2
          have Hi := Lib.hid hi4
          clear hi4
          gi_wp2_with (first | ((first | refine ⟨trivial, (fun _ => by omega), ?_⟩ | refine ⟨trivial, ?_⟩); gi_at_call 79; refine (callsIn_wide.2 (next_c _ _ _ (by omega))).mono ?_; rintro e w6 ⟨rfl, hx6⟩; have hi6 := WInv.below ok hJ (WInv.setD ok hJ hlt hlk Hi.out p) hx6; clear hx6))
          go_roundw
          case rel => exact ⟨p + szL ((ls s).drop p), 0, p, p, (pre ++ [(f, pv)]), congrArg _ Hn0.out, hn1, hn2, ⟨m, hfin.out, by omega⟩, hi6⟩
          case measure => have hn0 := Hn0.out; simp only [intOf]; rw [show nextI (ls s) ((p : Nat) : Int) = _ from hn0]; simp; omega
    · -- a sign of a word
      have Hkc := Lib.hid hkc
      clear hkc
      have Hk0 : Hid (¬ kv = 0) := Lib.hid h0
      have g0 : (kv == 0) = false := by simpa using h0
      have g1 : (kv == 1) = false := by simpa using h1
      have g4 : (kv == 4) = false := by simpa using h4
      have g5 : ((p : Int) == (s.size : Int)) = false := by simp; omega
      have Hend : Hid (¬ p = s.size) := Lib.hid (by omega)
      have Hn0 : Hid (nextI (ls s) p = ((p + szL ((ls s).drop p) : Nat) : Int)) := Lib.hid (next_sz hpl (by rw [ls_len]; exact hpl2))
      have hn1 : p + szL ((ls s).drop p) ≤ s.size := by have := (sz_at hpl (by rw [ls_len]; exact hpl2)).2; rw [ls_len] at this; exact this
      have hn2 := place_next hpl (by rw [ls_len]; exact hpl2)
      have hn3 := (sz_at hpl (by rw [ls_len]; exact hpl2)).1
      by_cases hc : kv = c0
      · subst hc
        gi_wp2_with (first | ((first | refine ⟨trivial, (fun _ => by omega), ?_⟩ | refine ⟨trivial, ?_⟩); gi_at_call 75; refine (callsIn_wide.2 (hcall _)).mono ?_; rintro e w1 ⟨rfl, hx1⟩; have hi1 := HI.out.below ok hJ hx1; have Hi1 := Lib.hid hi1; have ct1 := hi1.t.cell.1; have ca1 := hi1.a.cell.1; have ca2 := hi1.a.cell.2; have cb1 := hi1.b.cell.1; have cb2 := hi1.b.cell.2; have cd1 := hi1.d.cell.1; have cd2 := hi1.d.cell.2; have cy1 := hi1.y.cell.1; clear hi1 hx1 ct ck))
        refine ⟨(fun f hf => by cases hf), ?_⟩
        have hi4 := (WInv.setA ok hJ hlt hlk Hi1.out kv)
        have hfin := Lib.hid (show wordsI (ls s) false = pre ++ wl (ls s) false m (p + szL ((ls s).drop p)) kv f p by rw [Hw.out, wl_step, if_neg (c := p = (ls s).length) (by rw [ls_len]; exact Hend.out)]; simp [Hkc.out, Hk0.out])
        have cte := hi4.t.cell.1
        have cde := hi4.d.cell.1
        have cdf := hi4.d.cell.2
        have Hi := Lib.hid hi4
        clear hi4
        gi_wp2_with (first | ((first | refine ⟨trivial, (fun _ => by omega), ?_⟩ | refine ⟨trivial, ?_⟩); gi_at_call 79; refine (callsIn_wide.2 (next_c _ _ _ (by omega))).mono ?_; rintro e w6 ⟨rfl, hx6⟩; have hi6 := WInv.below ok hJ (WInv.setD ok hJ hlt hlk Hi.out p) hx6; clear hx6))
        go_roundw
        case rel => exact ⟨p + szL ((ls s).drop p), kv, f, p, pre, congrArg _ Hn0.out, hn1, hn2, ⟨m, hfin.out, by omega⟩, hi6⟩
        case measure => have hn0 := Hn0.out; simp only [intOf]; rw [show nextI (ls s) ((p : Nat) : Int) = _ from hn0]; simp; omega
      · by_cases h00 : c0 = 0
        · subst h00
          have g7 : (kv != 0) = true := by simpa using h0
          have Hcc : Hid (¬ kv = 0) := Lib.hid h0
          clear hc h0 h1 h4
          gi_wp2_with (first | ((first | refine ⟨trivial, (fun _ => by omega), ?_⟩ | refine ⟨trivial, ?_⟩); gi_at_call 75; refine (callsIn_wide.2 (hcall _)).mono ?_; rintro e w1 ⟨rfl, hx1⟩; have hi1 := HI.out.below ok hJ hx1; have Hi1 := Lib.hid hi1; have ct1 := hi1.t.cell.1; have ca1 := hi1.a.cell.1; have ca2 := hi1.a.cell.2; have cb1 := hi1.b.cell.1; have cb2 := hi1.b.cell.2; have cd1 := hi1.d.cell.1; have cd2 := hi1.d.cell.2; have cy1 := hi1.y.cell.1; clear hi1 hx1 ct ck) | (refine ⟨trivial, (fun _ => by omega), ?_⟩; gi_at_call 78; refine (flush0 _ _ _ _ _ _ ca1).mono ?_; rintro e w2 ⟨rfl, rfl⟩))
          refine ⟨(fun f hf => by cases hf), ?_⟩
          have hi4 := (WInv.setA ok hJ hlt hlk (WInv.setB ok hJ hlt hlk Hi1.out p) kv)
          have hfin := Lib.hid (show wordsI (ls s) false = pre ++ wl (ls s) false m (p + szL ((ls s).drop p)) kv p p by rw [Hw.out, wl_step, if_neg (c := p = (ls s).length) (by rw [ls_len]; exact Hend.out)]; simp [Hkc.out, Hcc.out, Hk0.out])
          have cte := hi4.t.cell.1
          have cde := hi4.d.cell.1
          have cdf := hi4.d.cell.2
          have Hi := Lib.hid hi4
          clear hi4
          gi_wp2_with (first | ((first | refine ⟨trivial, (fun _ => by omega), ?_⟩ | refine ⟨trivial, ?_⟩); gi_at_call 79; refine (callsIn_wide.2 (next_c _ _ _ (by omega))).mono ?_; rintro e w6 ⟨rfl, hx6⟩; have hi6 := WInv.below ok hJ (WInv.setD ok hJ hlt hlk Hi.out p) hx6; clear hx6))
          go_roundw
          case rel => exact ⟨p + szL ((ls s).drop p), kv, p, p, pre, congrArg _ Hn0.out, hn1, hn2, ⟨m, hfin.out, by omega⟩, hi6⟩
          case measure => have hn0 := Hn0.out; simp only [intOf]; rw [show nextI (ls s) ((p : Nat) : Int) = _ from hn0]; simp; omega
        · have Hc0 : Hid (c0 ≠ 0) := Lib.hid h00
          have Hcc : Hid (¬ kv = c0) := Lib.hid hc
          have g7 : (kv != c0) = true := by simpa using hc
          clear hc h00 h0 h1 h4
          gi_wp2_with (first | ((first | refine ⟨trivial, (fun _ => by omega), ?_⟩ | refine ⟨trivial, ?_⟩); gi_at_call 75; refine (callsIn_wide.2 (hcall _)).mono ?_; rintro e w1 ⟨rfl, hx1⟩; have hi1 := HI.out.below ok hJ hx1; have Hi1 := Lib.hid hi1; have ct1 := hi1.t.cell.1; have ca1 := hi1.a.cell.1; have ca2 := hi1.a.cell.2; have cb1 := hi1.b.cell.1; have cb2 := hi1.b.cell.2; have cd1 := hi1.d.cell.1; have cd2 := hi1.d.cell.2; have cy1 := hi1.y.cell.1; clear hi1 hx1 ct ck))
          refine ⟨trivial, (fun _ => by omega), ?_⟩
          gi_at_call 78
          refine (flush1 _ _ _ _ _ l c0 (f, pv) w1 Hc0.out ca1 cy1 cb1 cd1 (Yielded Pv J Jx (pre ++ [(f, pv)]) w1) (by rintro e W' (⟨rfl, -⟩ | ⟨rfl, -⟩) <;> exact ⟨_, rfl⟩) (hY pre (f, pv) w1 Hi1.out.j (by rw [Hw.out, wl_step]; simp [Hkc.out, Hcc.out, Hc0.out]))).mono ?_
          rintro e w2 (⟨rfl, hj2, hk2⟩ | ⟨rfl, hjx⟩)
          rotate_left
          · gi_wp2
            refine bodyPost_ret (results_none rfl _ _ _) rfl ?_
            exact ⟨⟨_, rfl⟩, .inr ⟨_, trivial, hjx⟩⟩
          have hi2 := Hi1.out.keep hj2 hk2
          have Hi2 := Lib.hid hi2
          have ct2 := hi2.t.cell.1
          have ca3 := hi2.a.cell.1
          have ca4 := hi2.a.cell.2
          have cb3 := hi2.b.cell.1
          have cb4 := hi2.b.cell.2
          have cd3 := hi2.d.cell.1
          have cd4 := hi2.d.cell.2
          have cy2 := hi2.y.cell.1
          clear hi2 hj2 hk2 ct1 ca1 ca2 cb1 cb2 cd1 cd2 cy1
          gi_wp2
          refine ⟨(fun f hf => by cases hf), ?_⟩
          have hi4 := (WInv.setA ok hJ hlt hlk (WInv.setB ok hJ hlt hlk Hi2.out p) kv)
          have hfin := Lib.hid (show wordsI (ls s) false = (pre ++ [(f, pv)]) ++ wl (ls s) false m (p + szL ((ls s).drop p)) kv p p by rw [Hw.out, wl_step, if_neg (c := p = (ls s).length) (by rw [ls_len]; exact Hend.out)]; simp [Hkc.out, Hcc.out, Hc0.out, Hk0.out])
          have cte := hi4.t.cell.1
          have cde := hi4.d.cell.1
          have cdf := hi4.d.cell.2
          have Hi := Lib.hid hi4
          clear hi4
          gi_wp2_with (first | ((first | refine ⟨trivial, (fun _ => by omega), ?_⟩ | refine ⟨trivial, ?_⟩); gi_at_call 79; refine (callsIn_wide.2 (next_c _ _ _ (by omega))).mono ?_; rintro e w6 ⟨rfl, hx6⟩; have hi6 := WInv.below ok hJ (WInv.setD ok hJ hlt hlk Hi.out p) hx6; clear hx6))
          go_roundw
          case rel => exact ⟨p + szL ((ls s).drop p), kv, p, p, (pre ++ [(f, pv)]), congrArg _ Hn0.out, hn1, hn2, ⟨m, hfin.out, by omega⟩, hi6⟩
          case measure => have hn0 := Hn0.out; simp only [intOf]; rw [show nextI (ls s) ((p : Nat) : Int) = _ from hn0]; simp; omega
    --END
end Go.Proofs.Ythjlhbblflmajaa
/- words_true: printed by genhop.py from Hp. -/
namespace Go.Proofs.Ythjlhbblflmajaa
open Go.RowKit
set_option linter.unusedVariables false
set_option linter.unusedSimpArgs false
open Go.Shelf
attribute [local go_sem] Oper.semAt_some
set_option maxHeartbeats 4000000 in
set_option maxRecDepth 100000 in
theorem words_true (n : Nat) (hn : 2 ≤ n) (l Bt Bk : Nat) (s : ByteArray) (hs : s.size ≤ 1000000000) (hv : validL (ls s) = true) (Pv : World → Nat → Prop) (ok : PvOk Pv) (J Jx : List (Nat × Int) → World → Prop) (W : World)
    (hJ : ∀ pre A B, J pre A → StP Pv W.heap.size A B → J pre B)
    (hb : PB Pv W Bt 9 (.string s)) (hk : PB Pv W Bk 87 (.func (.func 76) #[] #[])) (hp0 : ∀ W' r, Below W.heap.size W W' → W.heap.size ≤ r → Pv W' r)
    (hY : ∀ pre x W1, J pre W1 → pre.length < (wordsI (ls s) true).length → YieldAt Fence.wide (n - 1) Try.prog l (encW x) W1 (Yielded Pv J Jx (pre ++ [x]) W1)) (h0 : J [] W) :
    CallsIn Fence.wide n Try.prog 77 #[.func (.yield l) #[] #[], .pointer (some ⟨Bt, 0, none⟩), .pointer (some ⟨Bk, 0, none⟩)] W fun e W' => (∃ v, e = .returned v) ∧ ((∃ xs, xs = wordsI (ls s) true ∧ J xs W') ∨ (∃ pre, True ∧ Jx pre W')) := by
  refine callsIn_of_wp Try.func77 rfl trivial ?_ rfl
  simp only [Try.ntmps77, List.size_toArray, List.length_cons, List.length_nil, Nat.reduceAdd, Nat.reduceSub, Array.replicate_succ, Array.replicate_zero, List.push_toArray, List.append_toArray, List.nil_append, List.cons_append]
  gi_wp2
  gi_loopw [8] (fun q wr => RelW Pv J s true 76 l Bt Bk W.heap.size q wr)
    (fun q _ => s.size + 1 - (intOf q).toNat)
  case atStart =>
    obtain ⟨W1, e1⟩ : ∃ W1, W.alloc (.cells #[.func (.yield l) #[] #[]] 86) = W1 := ⟨_, rfl⟩
    obtain ⟨W2, e2⟩ : ∃ W2, W1.alloc (.cells #[.int .i64 0] 3) = W2 := ⟨_, rfl⟩
    obtain ⟨W3, e3⟩ : ∃ W3, W2.alloc (.cells #[.int .i64 0] 3) = W3 := ⟨_, rfl⟩
    obtain ⟨W4, e4⟩ : ∃ W4, W3.alloc (.cells #[.int .i64 (-1)] 3) = W4 := ⟨_, rfl⟩
    rw [e1, e2, e3, e4]
    have z1 : W1.heap.size = W.heap.size + 1 := by rw [← e1, World.size_alloc]
    have z2 : W2.heap.size = W.heap.size + 1 + 1 := by rw [← e2, World.size_alloc, z1]
    have z3 : W3.heap.size = W.heap.size + 1 + 1 + 1 := by rw [← e3, World.size_alloc, z2]
    have x1 : Below W.heap.size W W1 := by rw [← e1]; exact (Below.refl _ W).alloc (Nat.le_refl _) _
    have x2 : Below W1.heap.size W1 W2 := by rw [← e2]; exact (Below.refl _ W1).alloc (Nat.le_refl _) _
    have x3 : Below W2.heap.size W2 W3 := by rw [← e3]; exact (Below.refl _ W2).alloc (Nat.le_refl _) _
    have x4 : Below W3.heap.size W3 W4 := by rw [← e4]; exact (Below.refl _ W3).alloc (Nat.le_refl _) _
    have b1 : Boxed W1 W.heap.size 86 (.func (.yield l) #[] #[]) := by rw [← e1]; exact Boxed.new _ _ _
    have b2 : Boxed W2 (W.heap.size + 1) 3 (.int .i64 0) := by rw [← e2, ← z1]; exact Boxed.new _ _ _
    have b3 : Boxed W3 (W.heap.size + 1 + 1) 3 (.int .i64 0) := by rw [← e3, ← z2]; exact Boxed.new _ _ _
    have b4 : Boxed W4 (W.heap.size + 1 + 1 + 1) 3 (.int .i64 (-1)) := by rw [← e4, ← z3]; exact Boxed.new _ _ _
    have y2 : Below W.heap.size W W2 := x1.trans (x2.mono (by omega))
    have y3 : Below W.heap.size W W3 := y2.trans (x3.mono (by omega))
    have y4 : Below W.heap.size W W4 := y3.trans (x4.mono (by omega))
    have P (r : Nat) (h : W.heap.size ≤ r) : Pv W4 r := hp0 W4 r y4 h
    refine ⟨0, 0, 0, -1, [], rfl, by omega, ?_, ⟨(ls s).length + 1, rfl, by rw [ls_len]; omega⟩, hJ _ _ _ h0 (.inl y4), hb.below ok y4, hk.below ok y4, ⟨Boxed.below (Boxed.below (Boxed.below b1 x2) x3) x4, P _ (by omega)⟩, ⟨Boxed.below (Boxed.below b2 x3) x4, P _ (by omega)⟩, ⟨Boxed.below b3 x4, P _ (by omega)⟩, ⟨b4, P _ (by omega)⟩⟩
    exact place_zero hv
  case round =>
    obtain ⟨p, c0, f, pv, pre, rfl, hp, hpl, ⟨m', hw, hm'⟩, hi⟩ := hrel
    obtain ⟨m, rfl⟩ : ∃ m, m' = m + 1 := ⟨m' - 1, by omega⟩
    have hlt : Bt < W.heap.size := hb.1.lt
    have hlk : Bk < W.heap.size := hk.1.lt
    obtain ⟨kv, hkv⟩ : ∃ kv, kindI (ls s) p true = kv := ⟨_, rfl⟩
    have hcall : ∀ w, Calls Try.prog 76 #[.string s, .int .i64 p] w fun e w' => e = .returned (.int .i64 kv) ∧ Ext w w' := fun w => by rw [← hkv]; exact cbig_c s p w (by omega)
    have n1 : ¬ Bt = W.heap.size + 1 := by omega
    have n2 : ¬ Bt = W.heap.size + 1 + 1 := by omega
    have n3 : ¬ Bt = W.heap.size + 1 + 1 + 1 := by omega
    have n4 : ¬ W.heap.size + 1 = Bt := by omega
    have n5 : ¬ W.heap.size + 1 + 1 = Bt := by omega
    have n6 : ¬ W.heap.size + 1 + 1 + 1 = Bt := by omega
    have Hw := Lib.hid hw
    have HI := Lib.hid hi
    have ct := hi.t.cell.1
    have ck := hi.k.cell.1
    clear hw hi
    have hle : decide ((p : Int) ≤ s.size) = true := by simpa using hp
    --ROUND
    rcases kind_ways s true hpl kv hkv with ⟨rfl, hpl2, hkc⟩ | ⟨rfl, hpl2, hkc⟩ | ⟨rfl, hpl2, hkc⟩ | ⟨h0, h1, h4, hpl2, hkc⟩
    · -- the end
      have Hkc := Lib.hid hkc
      clear hkc
      have g5 : ((p : Int) == (s.size : Int)) = true := by simp; omega
      have Hend : Hid (p = s.size) := Lib.hid hpl2
      by_cases hc : c0 = 0
      · subst hc
        rcases p_ways s p hp with ⟨hz0, g8⟩ | ⟨hz0, g8, hpb, g10⟩ | ⟨hz0, g8, hpb, g10⟩
        · have Hem : Hid (emB (ls s) p = true) := Lib.hid (em_true (.inl hz0) (.inl hpl2))
          have Hz := Lib.hid hz0
          clear hz0 hpl2
          gi_wp2_with (first | ((first | refine ⟨trivial, (fun _ => by omega), ?_⟩ | refine ⟨trivial, ?_⟩); gi_at_call 76; refine (callsIn_wide.2 (hcall _)).mono ?_; rintro e w1 ⟨rfl, hx1⟩; have hi1 := HI.out.below ok hJ hx1; have Hi1 := Lib.hid hi1; have ct1 := hi1.t.cell.1; have ca1 := hi1.a.cell.1; have ca2 := hi1.a.cell.2; have cb1 := hi1.b.cell.1; have cb2 := hi1.b.cell.2; have cd1 := hi1.d.cell.1; have cd2 := hi1.d.cell.2; have cy1 := hi1.y.cell.1; clear hi1 hx1 ct ck; obtain ⟨fn, tmps, assign, body, hy, hR⟩ := hY pre (p, -1) _ (WInv.setA ok hJ hlt hlk Hi1.out 0).j (by rw [Hw.out, wl_step] <;> simp [Hkc.out, Hem.out]); dsimp only [encW] at hy; have HR := Lib.hid hR; clear hR))
          refine ⟨(fun _ => by omega), HR.out.mono ?_⟩
          clear HR hy
          rintro e w5 (⟨rfl, hj5, hk5⟩ | ⟨rfl, hjx⟩)
          · have hi5 := (WInv.setA ok hJ hlt hlk Hi1.out 0).keep hj5 hk5
            have hfin := Lib.hid (show (pre ++ [((p, -1) : Nat × Int)]) = wordsI (ls s) true by rw [Hw.out, wl_step, if_pos (c := p = (ls s).length) (by rw [ls_len]; exact Hend.out)]; simp [Hkc.out, Hem.out])
            have cte := hi5.t.cell.1
            gi_wp2
            refine bodyPost_ret (results_none rfl _ _ _) rfl ?_
            exact ⟨⟨_, rfl⟩, .inl ⟨(pre ++ [((p, -1) : Nat × Int)]), hfin.out, hi5.j⟩⟩
          · gi_wp2
            refine bodyPost_ret (results_none rfl _ _ _) rfl ?_
            exact ⟨⟨_, rfl⟩, .inr ⟨_, trivial, hjx⟩⟩
        · have Hem : Hid (emB (ls s) p = true) := Lib.hid (em_true (.inr ⟨hpb, lf_of g10⟩) (.inl hpl2))
          have Hz := Lib.hid hz0
          have ga : 1 ≤ (p : Int) := by omega
          have gb : (p : Int) - 1 < s.size := by omega
          clear hz0 hpl2
          gi_wp2_with (first | ((first | refine ⟨trivial, (fun _ => by omega), ?_⟩ | refine ⟨trivial, ?_⟩); gi_at_call 76; refine (callsIn_wide.2 (hcall _)).mono ?_; rintro e w1 ⟨rfl, hx1⟩; have hi1 := HI.out.below ok hJ hx1; have Hi1 := Lib.hid hi1; have ct1 := hi1.t.cell.1; have ca1 := hi1.a.cell.1; have ca2 := hi1.a.cell.2; have cb1 := hi1.b.cell.1; have cb2 := hi1.b.cell.2; have cd1 := hi1.d.cell.1; have cd2 := hi1.d.cell.2; have cy1 := hi1.y.cell.1; clear hi1 hx1 ct ck; obtain ⟨fn, tmps, assign, body, hy, hR⟩ := hY pre (p, -1) _ (WInv.setA ok hJ hlt hlk Hi1.out 0).j (by rw [Hw.out, wl_step] <;> simp [Hkc.out, Hem.out]); dsimp only [encW] at hy; have HR := Lib.hid hR; clear hR))
          refine ⟨(fun _ => by omega), HR.out.mono ?_⟩
          clear HR hy
          rintro e w5 (⟨rfl, hj5, hk5⟩ | ⟨rfl, hjx⟩)
          · have hi5 := (WInv.setA ok hJ hlt hlk Hi1.out 0).keep hj5 hk5
            have hfin := Lib.hid (show (pre ++ [((p, -1) : Nat × Int)]) = wordsI (ls s) true by rw [Hw.out, wl_step, if_pos (c := p = (ls s).length) (by rw [ls_len]; exact Hend.out)]; simp [Hkc.out, Hem.out])
            have cte := hi5.t.cell.1
            gi_wp2
            refine bodyPost_ret (results_none rfl _ _ _) rfl ?_
            exact ⟨⟨_, rfl⟩, .inl ⟨(pre ++ [((p, -1) : Nat × Int)]), hfin.out, hi5.j⟩⟩
          · gi_wp2
            refine bodyPost_ret (results_none rfl _ _ _) rfl ?_
            exact ⟨⟨_, rfl⟩, .inr ⟨_, trivial, hjx⟩⟩
        · have Hem : Hid (emB (ls s) p = false) := Lib.hid (em_false1 hz0 hpb (nlf_of g10))
          have Hz := Lib.hid hz0
          have ga : 1 ≤ (p : Int) := by omega
          have gb : (p : Int) - 1 < s.size := by omega
          clear hz0 hpl2
          gi_wp2_with (first | ((first | refine ⟨trivial, (fun _ => by omega), ?_⟩ | refine ⟨trivial, ?_⟩); gi_at_call 76; refine (callsIn_wide.2 (hcall _)).mono ?_; rintro e w1 ⟨rfl, hx1⟩; have hi1 := HI.out.below ok hJ hx1; have Hi1 := Lib.hid hi1; have ct1 := hi1.t.cell.1; have ca1 := hi1.a.cell.1; have ca2 := hi1.a.cell.2; have cb1 := hi1.b.cell.1; have cb2 := hi1.b.cell.2; have cd1 := hi1.d.cell.1; have cd2 := hi1.d.cell.2; have cy1 := hi1.y.cell.1; clear hi1 hx1 ct ck))
          refine ⟨(fun f hf => by cases hf), ?_⟩
          have hi4 := (WInv.setA ok hJ hlt hlk Hi1.out 0)
          have hfin := Lib.hid (show pre = wordsI (ls s) true by rw [Hw.out, wl_step, if_pos (c := p = (ls s).length) (by rw [ls_len]; exact Hend.out)]; simp [Hkc.out, Hem.out])
          have cte := hi4.t.cell.1
          gi_wp2
          refine bodyPost_ret (results_none rfl _ _ _) rfl ?_
          exact ⟨⟨_, rfl⟩, .inl ⟨pre, hfin.out, hi4.j⟩⟩
      · have Hc0 : Hid (c0 ≠ 0) := Lib.hid hc
        have Hcc : Hid (¬ (0 : Int) = c0) := Lib.hid (fun e => hc e.symm)
        have g7 : ((0 : Int) != c0) = true := by simpa using fun e => hc (Eq.symm e)
        clear hc
        rcases p_ways s p hp with ⟨hz0, g8⟩ | ⟨hz0, g8, hpb, g10⟩ | ⟨hz0, g8, hpb, g10⟩
        · have Hem : Hid (emB (ls s) p = true) := Lib.hid (em_true (.inl hz0) (.inl hpl2))
          have Hz := Lib.hid hz0
          clear hz0 hpl2
          gi_wp2_with (first | ((first | refine ⟨trivial, (fun _ => by omega), ?_⟩ | refine ⟨trivial, ?_⟩); gi_at_call 76; refine (callsIn_wide.2 (hcall _)).mono ?_; rintro e w1 ⟨rfl, hx1⟩; have hi1 := HI.out.below ok hJ hx1; have Hi1 := Lib.hid hi1; have ct1 := hi1.t.cell.1; have ca1 := hi1.a.cell.1; have ca2 := hi1.a.cell.2; have cb1 := hi1.b.cell.1; have cb2 := hi1.b.cell.2; have cd1 := hi1.d.cell.1; have cd2 := hi1.d.cell.2; have cy1 := hi1.y.cell.1; clear hi1 hx1 ct ck))
          refine ⟨trivial, (fun _ => by omega), ?_⟩
          gi_at_call 78
          refine (flush1 _ _ _ _ _ l c0 (f, pv) w1 Hc0.out ca1 cy1 cb1 cd1 (Yielded Pv J Jx (pre ++ [(f, pv)]) w1) (by rintro e W' (⟨rfl, -⟩ | ⟨rfl, -⟩) <;> exact ⟨_, rfl⟩) (hY pre (f, pv) w1 Hi1.out.j (by rw [Hw.out, wl_step]; simp [Hkc.out, Hcc.out, Hc0.out]))).mono ?_
          rintro e w2 (⟨rfl, hj2, hk2⟩ | ⟨rfl, hjx⟩)
          rotate_left
          · gi_wp2
            refine bodyPost_ret (results_none rfl _ _ _) rfl ?_
            exact ⟨⟨_, rfl⟩, .inr ⟨_, trivial, hjx⟩⟩
          have hi2 := Hi1.out.keep hj2 hk2
          have Hi2 := Lib.hid hi2
          have ct2 := hi2.t.cell.1
          have ca3 := hi2.a.cell.1
          have ca4 := hi2.a.cell.2
          have cb3 := hi2.b.cell.1
          have cb4 := hi2.b.cell.2
          have cd3 := hi2.d.cell.1
          have cd4 := hi2.d.cell.2
          have cy2 := hi2.y.cell.1
          clear hi2 hj2 hk2 ct1 ca1 ca2 cb1 cb2 cd1 cd2 cy1
          obtain ⟨fn, tmps, assign, body, hy, hR⟩ := hY (pre ++ [(f, pv)]) (p, -1) _ (WInv.setA ok hJ hlt hlk (WInv.setB ok hJ hlt hlk Hi2.out p) 0).j (by rw [Hw.out, wl_step] <;> simp [Hkc.out, Hcc.out, Hc0.out, Hem.out])
          dsimp only [encW] at hy
          have HR := Lib.hid hR
          clear hR
          gi_wp2
          refine ⟨(fun _ => by omega), HR.out.mono ?_⟩
          clear HR hy
          rintro e w5 (⟨rfl, hj5, hk5⟩ | ⟨rfl, hjx⟩)
          · have hi5 := (WInv.setA ok hJ hlt hlk (WInv.setB ok hJ hlt hlk Hi2.out p) 0).keep hj5 hk5
            have hfin := Lib.hid (show ((pre ++ [(f, pv)]) ++ [((p, -1) : Nat × Int)]) = wordsI (ls s) true by rw [Hw.out, wl_step, if_pos (c := p = (ls s).length) (by rw [ls_len]; exact Hend.out)]; simp [Hkc.out, Hcc.out, Hc0.out, Hem.out])
            have cte := hi5.t.cell.1
            gi_wp2
            refine bodyPost_ret (results_none rfl _ _ _) rfl ?_
            exact ⟨⟨_, rfl⟩, .inl ⟨((pre ++ [(f, pv)]) ++ [((p, -1) : Nat × Int)]), hfin.out, hi5.j⟩⟩
          · gi_wp2
            refine bodyPost_ret (results_none rfl _ _ _) rfl ?_
            exact ⟨⟨_, rfl⟩, .inr ⟨_, trivial, hjx⟩⟩
        · have Hem : Hid (emB (ls s) p = true) := Lib.hid (em_true (.inr ⟨hpb, lf_of g10⟩) (.inl hpl2))
          have Hz := Lib.hid hz0
          have ga : 1 ≤ (p : Int) := by omega
          have gb : (p : Int) - 1 < s.size := by omega
          clear hz0 hpl2
          gi_wp2_with (first | ((first | refine ⟨trivial, (fun _ => by omega), ?_⟩ | refine ⟨trivial, ?_⟩); gi_at_call 76; refine (callsIn_wide.2 (hcall _)).mono ?_; rintro e w1 ⟨rfl, hx1⟩; have hi1 := HI.out.below ok hJ hx1; have Hi1 := Lib.hid hi1; have ct1 := hi1.t.cell.1; have ca1 := hi1.a.cell.1; have ca2 := hi1.a.cell.2; have cb1 := hi1.b.cell.1; have cb2 := hi1.b.cell.2; have cd1 := hi1.d.cell.1; have cd2 := hi1.d.cell.2; have cy1 := hi1.y.cell.1; clear hi1 hx1 ct ck))
          refine ⟨trivial, (fun _ => by omega), ?_⟩
          gi_at_call 78
          refine (flush1 _ _ _ _ _ l c0 (f, pv) w1 Hc0.out ca1 cy1 cb1 cd1 (Yielded Pv J Jx (pre ++ [(f, pv)]) w1) (by rintro e W' (⟨rfl, -⟩ | ⟨rfl, -⟩) <;> exact ⟨_, rfl⟩) (hY pre (f, pv) w1 Hi1.out.j (by rw [Hw.out, wl_step]; simp [Hkc.out, Hcc.out, Hc0.out]))).mono ?_
          rintro e w2 (⟨rfl, hj2, hk2⟩ | ⟨rfl, hjx⟩)
          rotate_left
          · gi_wp2
            refine bodyPost_ret (results_none rfl _ _ _) rfl ?_
            exact ⟨⟨_, rfl⟩, .inr ⟨_, trivial, hjx⟩⟩
          have hi2 := Hi1.out.keep hj2 hk2
          have Hi2 := Lib.hid hi2
          have ct2 := hi2.t.cell.1
          have ca3 := hi2.a.cell.1
          have ca4 := hi2.a.cell.2
          have cb3 := hi2.b.cell.1
          have cb4 := hi2.b.cell.2
          have cd3 := hi2.d.cell.1
          have cd4 := hi2.d.cell.2
          have cy2 := hi2.y.cell.1
          clear hi2 hj2 hk2 ct1 ca1 ca2 cb1 cb2 cd1 cd2 cy1
          obtain ⟨fn, tmps, assign, body, hy, hR⟩ := hY (pre ++ [(f, pv)]) (p, -1) _ (WInv.setA ok hJ hlt hlk (WInv.setB ok hJ hlt hlk Hi2.out p) 0).j (by rw [Hw.out, wl_step] <;> simp [Hkc.out, Hcc.out, Hc0.out, Hem.out])
          dsimp only [encW] at hy
          have HR := Lib.hid hR
          clear hR
          gi_wp2
          refine ⟨(fun _ => by omega), HR.out.mono ?_⟩
          clear HR hy
          rintro e w5 (⟨rfl, hj5, hk5⟩ | ⟨rfl, hjx⟩)
          · have hi5 := (WInv.setA ok hJ hlt hlk (WInv.setB ok hJ hlt hlk Hi2.out p) 0).keep hj5 hk5
            have hfin := Lib.hid (show ((pre ++ [(f, pv)]) ++ [((p, -1) : Nat × Int)]) = wordsI (ls s) true by rw [Hw.out, wl_step, if_pos (c := p = (ls s).length) (by rw [ls_len]; exact Hend.out)]; simp [Hkc.out, Hcc.out, Hc0.out, Hem.out])
            have cte := hi5.t.cell.1
            gi_wp2
            refine bodyPost_ret (results_none rfl _ _ _) rfl ?_
            exact ⟨⟨_, rfl⟩, .inl ⟨((pre ++ [(f, pv)]) ++ [((p, -1) : Nat × Int)]), hfin.out, hi5.j⟩⟩
          · gi_wp2
            refine bodyPost_ret (results_none rfl _ _ _) rfl ?_
            exact ⟨⟨_, rfl⟩, .inr ⟨_, trivial, hjx⟩⟩
        · have Hem : Hid (emB (ls s) p = false) := Lib.hid (em_false1 hz0 hpb (nlf_of g10))
          have Hz := Lib.hid hz0
          have ga : 1 ≤ (p : Int) := by omega
          have gb : (p : Int) - 1 < s.size := by omega
          clear hz0 hpl2
          gi_wp2_with (first | ((first | refine ⟨trivial, (fun _ => by omega), ?_⟩ | refine ⟨trivial, ?_⟩); gi_at_call 76; refine (callsIn_wide.2 (hcall _)).mono ?_; rintro e w1 ⟨rfl, hx1⟩; have hi1 := HI.out.below ok hJ hx1; have Hi1 := Lib.hid hi1; have ct1 := hi1.t.cell.1; have ca1 := hi1.a.cell.1; have ca2 := hi1.a.cell.2; have cb1 := hi1.b.cell.1; have cb2 := hi1.b.cell.2; have cd1 := hi1.d.cell.1; have cd2 := hi1.d.cell.2; have cy1 := hi1.y.cell.1; clear hi1 hx1 ct ck))
          refine ⟨trivial, (fun _ => by omega), ?_⟩
          gi_at_call 78
          refine (flush1 _ _ _ _ _ l c0 (f, pv) w1 Hc0.out ca1 cy1 cb1 cd1 (Yielded Pv J Jx (pre ++ [(f, pv)]) w1) (by rintro e W' (⟨rfl, -⟩ | ⟨rfl, -⟩) <;> exact ⟨_, rfl⟩) (hY pre (f, pv) w1 Hi1.out.j (by rw [Hw.out, wl_step]; simp [Hkc.out, Hcc.out, Hc0.out]))).mono ?_
          rintro e w2 (⟨rfl, hj2, hk2⟩ | ⟨rfl, hjx⟩)
          rotate_left
          · gi_wp2
            refine bodyPost_ret (results_none rfl _ _ _) rfl ?_
            exact ⟨⟨_, rfl⟩, .inr ⟨_, trivial, hjx⟩⟩
          have hi2 := Hi1.out.keep hj2 hk2
          have Hi2 := Lib.hid hi2
          have ct2 := hi2.t.cell.1
          have ca3 := hi2.a.cell.1
          have ca4 := hi2.a.cell.2
          have cb3 := hi2.b.cell.1
          have cb4 := hi2.b.cell.2
          have cd3 := hi2.d.cell.1
          have cd4 := hi2.d.cell.2
          have cy2 := hi2.y.cell.1
          clear hi2 hj2 hk2 ct1 ca1 ca2 cb1 cb2 cd1 cd2 cy1
          gi_wp2
          refine ⟨(fun f hf => by cases hf), ?_⟩
          have hi4 := (WInv.setA ok hJ hlt hlk (WInv.setB ok hJ hlt hlk Hi2.out p) 0)
          have hfin := Lib.hid (show (pre ++ [(f, pv)]) = wordsI (ls s) true by rw [Hw.out, wl_step, if_pos (c := p = (ls s).length) (by rw [ls_len]; exact Hend.out)]; simp [Hkc.out, Hcc.out, Hc0.out, Hem.out])
          have cte := hi4.t.cell.1
          gi_wp2
          refine bodyPost_ret (results_none rfl _ _ _) rfl ?_
          exact ⟨⟨_, rfl⟩, .inl ⟨(pre ++ [(f, pv)]), hfin.out, hi4.j⟩⟩
    · -- a blank
      have Hkc := Lib.hid hkc
      clear hkc
      have g5 : ((p : Int) == (s.size : Int)) = false := by simp; omega
      have Hend : Hid (¬ p = s.size) := Lib.hid (by omega)
      have Hn0 : Hid (nextI (ls s) p = ((p + szL ((ls s).drop p) : Nat) : Int)) := Lib.hid (next_sz hpl (by rw [ls_len]; exact hpl2))
      have hn1 : p + szL ((ls s).drop p) ≤ s.size := by have := (sz_at hpl (by rw [ls_len]; exact hpl2)).2; rw [ls_len] at this; exact this
      have hn2 := place_next hpl (by rw [ls_len]; exact hpl2)
      have hn3 := (sz_at hpl (by rw [ls_len]; exact hpl2)).1
      have g9 := byte_blank hkv hpl2
      by_cases hc : c0 = 0
      · subst hc
        rcases p_ways s p hp with ⟨hz0, g8⟩ | ⟨hz0, g8, hpb, g10⟩ | ⟨hz0, g8, hpb, g10⟩
        · have Hem : Hid (emB (ls s) p = false) := Lib.hid (em_false2 hpl2 (nlf_of g9))
          have Hz := Lib.hid hz0
          clear hz0
          gi_wp2_with (first | ((first | refine ⟨trivial, (fun _ => by omega), ?_⟩ | refine ⟨trivial, ?_⟩); gi_at_call 76; refine (callsIn_wide.2 (hcall _)).mono ?_; rintro e w1 ⟨rfl, hx1⟩; have hi1 := HI.out.below ok hJ hx1; have Hi1 := Lib.hid hi1; have ct1 := hi1.t.cell.1; have ca1 := hi1.a.cell.1; have ca2 := hi1.a.cell.2; have cb1 := hi1.b.cell.1; have cb2 := hi1.b.cell.2; have cd1 := hi1.d.cell.1; have cd2 := hi1.d.cell.2; have cy1 := hi1.y.cell.1; clear hi1 hx1 ct ck))
          refine ⟨(fun f hf => by cases hf), ?_⟩
          have hi4 := (WInv.setA ok hJ hlt hlk Hi1.out 0)
          have hfin := Lib.hid (show wordsI (ls s) true = pre ++ wl (ls s) true m (p + szL ((ls s).drop p)) 0 f p by rw [Hw.out, wl_step, if_neg (c := p = (ls s).length) (by rw [ls_len]; exact Hend.out)]; simp [Hkc.out, Hem.out])
          have cte := hi4.t.cell.1
          have cde := hi4.d.cell.1
          have cdf := hi4.d.cell.2
          have Hi := Lib.hid hi4
          clear hi4
          gi_wp2_with (first | ((first | refine ⟨trivial, (fun _ => by omega), ?_⟩ | refine ⟨trivial, ?_⟩); gi_at_call 79; refine (callsIn_wide.2 (next_c _ _ _ (by omega))).mono ?_; rintro e w6 ⟨rfl, hx6⟩; have hi6 := WInv.below ok hJ (WInv.setD ok hJ hlt hlk Hi.out p) hx6; clear hx6))
          go_roundw
          case rel => exact ⟨p + szL ((ls s).drop p), 0, f, p, pre, congrArg _ Hn0.out, hn1, hn2, ⟨m, hfin.out, by omega⟩, hi6⟩
          case measure => have hn0 := Hn0.out; simp only [intOf]; rw [show nextI (ls s) ((p : Nat) : Int) = _ from hn0]; simp; omega
        · have Hem : Hid (emB (ls s) p = false) := Lib.hid (em_false2 hpl2 (nlf_of g9))
          have Hz := Lib.hid hz0
          have ga : 1 ≤ (p : Int) := by omega
          have gb : (p : Int) - 1 < s.size := by omega
          clear hz0
          gi_wp2_with (first | ((first | refine ⟨trivial, (fun _ => by omega), ?_⟩ | refine ⟨trivial, ?_⟩); gi_at_call 76; refine (callsIn_wide.2 (hcall _)).mono ?_; rintro e w1 ⟨rfl, hx1⟩; have hi1 := HI.out.below ok hJ hx1; have Hi1 := Lib.hid hi1; have ct1 := hi1.t.cell.1; have ca1 := hi1.a.cell.1; have ca2 := hi1.a.cell.2; have cb1 := hi1.b.cell.1; have cb2 := hi1.b.cell.2; have cd1 := hi1.d.cell.1; have cd2 := hi1.d.cell.2; have cy1 := hi1.y.cell.1; clear hi1 hx1 ct ck))
          refine ⟨(fun f hf => by cases hf), ?_⟩
          have hi4 := (WInv.setA ok hJ hlt hlk Hi1.out 0)
          have hfin := Lib.hid (show wordsI (ls s) true = pre ++ wl (ls s) true m (p + szL ((ls s).drop p)) 0 f p by rw [Hw.out, wl_step, if_neg (c := p = (ls s).length) (by rw [ls_len]; exact Hend.out)]; simp [Hkc.out, Hem.out])
          have cte := hi4.t.cell.1
          have cde := hi4.d.cell.1
          have cdf := hi4.d.cell.2
          have Hi := Lib.hid hi4
          clear hi4
          gi_wp2_with (first | ((first | refine ⟨trivial, (fun _ => by omega), ?_⟩ | refine ⟨trivial, ?_⟩); gi_at_call 79; refine (callsIn_wide.2 (next_c _ _ _ (by omega))).mono ?_; rintro e w6 ⟨rfl, hx6⟩; have hi6 := WInv.below ok hJ (WInv.setD ok hJ hlt hlk Hi.out p) hx6; clear hx6))
          go_roundw
          case rel => exact ⟨p + szL ((ls s).drop p), 0, f, p, pre, congrArg _ Hn0.out, hn1, hn2, ⟨m, hfin.out, by omega⟩, hi6⟩
          case measure => have hn0 := Hn0.out; simp only [intOf]; rw [show nextI (ls s) ((p : Nat) : Int) = _ from hn0]; simp; omega
        · have Hem : Hid (emB (ls s) p = false) := Lib.hid (em_false2 hpl2 (nlf_of g9))
          have Hz := Lib.hid hz0
          have ga : 1 ≤ (p : Int) := by omega
          have gb : (p : Int) - 1 < s.size := by omega
          clear hz0
          gi_wp2_with (first | ((first | refine ⟨trivial, (fun _ => by omega), ?_⟩ | refine ⟨trivial, ?_⟩); gi_at_call 76; refine (callsIn_wide.2 (hcall _)).mono ?_; rintro e w1 ⟨rfl, hx1⟩; have hi1 := HI.out.below ok hJ hx1; have Hi1 := Lib.hid hi1; have ct1 := hi1.t.cell.1; have ca1 := hi1.a.cell.1; have ca2 := hi1.a.cell.2; have cb1 := hi1.b.cell.1; have cb2 := hi1.b.cell.2; have cd1 := hi1.d.cell.1; have cd2 := hi1.d.cell.2; have cy1 := hi1.y.cell.1; clear hi1 hx1 ct ck))
          refine ⟨(fun f hf => by cases hf), ?_⟩
          have hi4 := (WInv.setA ok hJ hlt hlk Hi1.out 0)
          have hfin := Lib.hid (show wordsI (ls s) true = pre ++ wl (ls s) true m (p + szL ((ls s).drop p)) 0 f p by rw [Hw.out, wl_step, if_neg (c := p = (ls s).length) (by rw [ls_len]; exact Hend.out)]; simp [Hkc.out, Hem.out])
          have cte := hi4.t.cell.1
          have cde := hi4.d.cell.1
          have cdf := hi4.d.cell.2
          have Hi := Lib.hid hi4
          clear hi4
          gi_wp2_with (first | ((first | refine ⟨trivial, (fun _ => by omega), ?_⟩ | refine ⟨trivial, ?_⟩); gi_at_call 79; refine (callsIn_wide.2 (next_c _ _ _ (by omega))).mono ?_; rintro e w6 ⟨rfl, hx6⟩; have hi6 := WInv.below ok hJ (WInv.setD ok hJ hlt hlk Hi.out p) hx6; clear hx6))
          go_roundw
          case rel => exact ⟨p + szL ((ls s).drop p), 0, f, p, pre, congrArg _ Hn0.out, hn1, hn2, ⟨m, hfin.out, by omega⟩, hi6⟩
          case measure => have hn0 := Hn0.out; simp only [intOf]; rw [show nextI (ls s) ((p : Nat) : Int) = _ from hn0]; simp; omega
      · have Hc0 : Hid (c0 ≠ 0) := Lib.hid hc
        have Hcc : Hid (¬ (0 : Int) = c0) := Lib.hid (fun e => hc e.symm)
        have g7 : ((0 : Int) != c0) = true := by simpa using fun e => hc (Eq.symm e)
        clear hc
        rcases p_ways s p hp with ⟨hz0, g8⟩ | ⟨hz0, g8, hpb, g10⟩ | ⟨hz0, g8, hpb, g10⟩
        · have Hem : Hid (emB (ls s) p = false) := Lib.hid (em_false2 hpl2 (nlf_of g9))
          have Hz := Lib.hid hz0
          clear hz0
          gi_wp2_with (first | ((first | refine ⟨trivial, (fun _ => by omega), ?_⟩ | refine ⟨trivial, ?_⟩); gi_at_call 76; refine (callsIn_wide.2 (hcall _)).mono ?_; rintro e w1 ⟨rfl, hx1⟩; have hi1 := HI.out.below ok hJ hx1; have Hi1 := Lib.hid hi1; have ct1 := hi1.t.cell.1; have ca1 := hi1.a.cell.1; have ca2 := hi1.a.cell.2; have cb1 := hi1.b.cell.1; have cb2 := hi1.b.cell.2; have cd1 := hi1.d.cell.1; have cd2 := hi1.d.cell.2; have cy1 := hi1.y.cell.1; clear hi1 hx1 ct ck))
          refine ⟨trivial, (fun _ => by omega), ?_⟩
          gi_at_call 78
          refine (flush1 _ _ _ _ _ l c0 (f, pv) w1 Hc0.out ca1 cy1 cb1 cd1 (Yielded Pv J Jx (pre ++ [(f, pv)]) w1) (by rintro e W' (⟨rfl, -⟩ | ⟨rfl, -⟩) <;> exact ⟨_, rfl⟩) (hY pre (f, pv) w1 Hi1.out.j (by rw [Hw.out, wl_step]; simp [Hkc.out, Hcc.out, Hc0.out]))).mono ?_
          rintro e w2 (⟨rfl, hj2, hk2⟩ | ⟨rfl, hjx⟩)
          rotate_left
          · gi_wp2
            refine bodyPost_ret (results_none rfl _ _ _) rfl ?_
            exact ⟨⟨_, rfl⟩, .inr ⟨_, trivial, hjx⟩⟩
          have hi2 := Hi1.out.keep hj2 hk2
          have Hi2 := Lib.hid hi2
          have ct2 := hi2.t.cell.1
          have ca3 := hi2.a.cell.1
          have ca4 := hi2.a.cell.2
          have cb3 := hi2.b.cell.1
          have cb4 := hi2.b.cell.2
          have cd3 := hi2.d.cell.1
          have cd4 := hi2.d.cell.2
          have cy2 := hi2.y.cell.1
          clear hi2 hj2 hk2 ct1 ca1 ca2 cb1 cb2 cd1 cd2 cy1
          gi_wp2
          refine ⟨(fun f hf => by cases hf), ?_⟩
          have hi4 := (WInv.setA ok hJ hlt hlk (WInv.setB ok hJ hlt hlk Hi2.out p) 0)
          have hfin := Lib.hid (show wordsI (ls s) true = (pre ++ [(f, pv)]) ++ wl (ls s) true m (p + szL ((ls s).drop p)) 0 p p by rw [Hw.out, wl_step, if_neg (c := p = (ls s).length) (by rw [ls_len]; exact Hend.out)]; simp [Hkc.out, Hcc.out, Hc0.out, Hem.out])
          have cte := hi4.t.cell.1
          have cde := hi4.d.cell.1
          have cdf := hi4.d.cell.2
          have Hi := Lib.hid hi4
          clear hi4
          gi_wp2_with (first | ((first | refine ⟨trivial, (fun _ => by omega), ?_⟩ | refine ⟨trivial, ?_⟩); gi_at_call 79; refine (callsIn_wide.2 (next_c _ _ _ (by omega))).mono ?_; rintro e w6 ⟨rfl, hx6⟩; have hi6 := WInv.below ok hJ (WInv.setD ok hJ hlt hlk Hi.out p) hx6; clear hx6))
          go_roundw
          case rel => exact ⟨p + szL ((ls s).drop p), 0, p, p, (pre ++ [(f, pv)]), congrArg _ Hn0.out, hn1, hn2, ⟨m, hfin.out, by omega⟩, hi6⟩
          case measure => have hn0 := Hn0.out; simp only [intOf]; rw [show nextI (ls s) ((p : Nat) : Int) = _ from hn0]; simp; omega
        · have Hem : Hid (emB (ls s) p = false) := Lib.hid (em_false2 hpl2 (nlf_of g9))
          have Hz := Lib.hid hz0
          have ga : 1 ≤ (p : Int) := by omega
          have gb : (p : Int) - 1 < s.size := by omega
          clear hz0
          gi_wp2_with (first | ((first | refine ⟨trivial, (fun _ => by omega), ?_⟩ | refine ⟨trivial, ?_⟩); gi_at_call 76; refine (callsIn_wide.2 (hcall _)).mono ?_; rintro e w1 ⟨rfl, hx1⟩; have hi1 := HI.out.below ok hJ hx1; have Hi1 := Lib.hid hi1; have ct1 := hi1.t.cell.1; have ca1 := hi1.a.cell.1; have ca2 := hi1.a.cell.2; have cb1 := hi1.b.cell.1; have cb2 := hi1.b.cell.2; have cd1 := hi1.d.cell.1; have cd2 := hi1.d.cell.2; have cy1 := hi1.y.cell.1; clear hi1 hx1 ct ck))
          refine ⟨trivial, (fun _ => by omega), ?_⟩
          gi_at_call 78
          refine (flush1 _ _ _ _ _ l c0 (f, pv) w1 Hc0.out ca1 cy1 cb1 cd1 (Yielded Pv J Jx (pre ++ [(f, pv)]) w1) (by rintro e W' (⟨rfl, -⟩ | ⟨rfl, -⟩) <;> exact ⟨_, rfl⟩) (hY pre (f, pv) w1 Hi1.out.j (by rw [Hw.out, wl_step]; simp [Hkc.out, Hcc.out, Hc0.out]))).mono ?_
          rintro e w2 (⟨rfl, hj2, hk2⟩ | ⟨rfl, hjx⟩)
          rotate_left
          · gi_wp2
            refine bodyPost_ret (results_none rfl _ _ _) rfl ?_
            exact ⟨⟨_, rfl⟩, .inr ⟨_, trivial, hjx⟩⟩
          have hi2 := Hi1.out.keep hj2 hk2
          have Hi2 := Lib.hid hi2
          have ct2 := hi2.t.cell.1
          have ca3 := hi2.a.cell.1
          have ca4 := hi2.a.cell.2
          have cb3 := hi2.b.cell.1
          have cb4 := hi2.b.cell.2
          have cd3 := hi2.d.cell.1
          have cd4 := hi2.d.cell.2
          have cy2 := hi2.y.cell.1
          clear hi2 hj2 hk2 ct1 ca1 ca2 cb1 cb2 cd1 cd2 cy1
          gi_wp2
          refine ⟨(fun f hf => by cases hf), ?_⟩
          have hi4 := (WInv.setA ok hJ hlt hlk (WInv.setB ok hJ hlt hlk Hi2.out p) 0)
          have hfin := Lib.hid (show wordsI (ls s) true = (pre ++ [(f, pv)]) ++ wl (ls s) true m (p + szL ((ls s).drop p)) 0 p p by rw [Hw.out, wl_step, if_neg (c := p = (ls s).length) (by rw [ls_len]; exact Hend.out)]; simp [Hkc.out, Hcc.out, Hc0.out, Hem.out])
          have cte := hi4.t.cell.1
          have cde := hi4.d.cell.1
          have cdf := hi4.d.cell.2
          have Hi := Lib.hid hi4
          clear hi4
          gi_wp2_with (first | ((first | refine ⟨trivial, (fun _ => by omega), ?_⟩ | refine ⟨trivial, ?_⟩); gi_at_call 79; refine (callsIn_wide.2 (next_c _ _ _ (by omega))).mono ?_; rintro e w6 ⟨rfl, hx6⟩; have hi6 := WInv.below ok hJ (WInv.setD ok hJ hlt hlk Hi.out p) hx6; clear hx6))
          go_roundw
          case rel => exact ⟨p + szL ((ls s).drop p), 0, p, p, (pre ++ [(f, pv)]), congrArg _ Hn0.out, hn1, hn2, ⟨m, hfin.out, by omega⟩, hi6⟩
          case measure => have hn0 := Hn0.out; simp only [intOf]; rw [show nextI (ls s) ((p : Nat) : Int) = _ from hn0]; simp; omega
        · have Hem : Hid (emB (ls s) p = false) := Lib.hid (em_false2 hpl2 (nlf_of g9))
          have Hz := Lib.hid hz0
          have ga : 1 ≤ (p : Int) := by omega
          have gb : (p : Int) - 1 < s.size := by omega
          clear hz0
          gi_wp2_with (first | ((first | refine ⟨trivial, (fun _ => by omega), ?_⟩ | refine ⟨trivial, ?_⟩); gi_at_call 76; refine (callsIn_wide.2 (hcall _)).mono ?_; rintro e w1 ⟨rfl, hx1⟩; have hi1 := HI.out.below ok hJ hx1; have Hi1 := Lib.hid hi1; have ct1 := hi1.t.cell.1; have ca1 := hi1.a.cell.1; have ca2 := hi1.a.cell.2; have cb1 := hi1.b.cell.1; have cb2 := hi1.b.cell.2; have cd1 := hi1.d.cell.1; have cd2 := hi1.d.cell.2; have cy1 := hi1.y.cell.1; clear hi1 hx1 ct ck))
          refine ⟨trivial, (fun _ => by omega), ?_⟩
          gi_at_call 78
          refine (flush1 _ _ _ _ _ l c0 (f, pv) w1 Hc0.out ca1 cy1 cb1 cd1 (Yielded Pv J Jx (pre ++ [(f, pv)]) w1) (by rintro e W' (⟨rfl, -⟩ | ⟨rfl, -⟩) <;> exact ⟨_, rfl⟩) (hY pre (f, pv) w1 Hi1.out.j (by rw [Hw.out, wl_step]; simp [Hkc.out, Hcc.out, Hc0.out]))).mono ?_
          rintro e w2 (⟨rfl, hj2, hk2⟩ | ⟨rfl, hjx⟩)
          rotate_left
          · gi_wp2
            refine bodyPost_ret (results_none rfl _ _ _) rfl ?_
            exact ⟨⟨_, rfl⟩, .inr ⟨_, trivial, hjx⟩⟩
          have hi2 := Hi1.out.keep hj2 hk2
          have Hi2 := Lib.hid hi2
          have ct2 := hi2.t.cell.1
          have ca3 := hi2.a.cell.1
          have ca4 := hi2.a.cell.2
          have cb3 := hi2.b.cell.1
          have cb4 := hi2.b.cell.2
          have cd3 := hi2.d.cell.1
          have cd4 := hi2.d.cell.2
          have cy2 := hi2.y.cell.1
          clear hi2 hj2 hk2 ct1 ca1 ca2 cb1 cb2 cd1 cd2 cy1
          gi_wp2
          refine ⟨(fun f hf => by cases hf), ?_⟩
          have hi4 := (WInv.setA ok hJ hlt hlk (WInv.setB ok hJ hlt hlk Hi2.out p) 0)
          have hfin := Lib.hid (show wordsI (ls s) true = (pre ++ [(f, pv)]) ++ wl (ls s) true m (p + szL ((ls s).drop p)) 0 p p by rw [Hw.out, wl_step, if_neg (c := p = (ls s).length) (by rw [ls_len]; exact Hend.out)]; simp [Hkc.out, Hcc.out, Hc0.out, Hem.out])
          have cte := hi4.t.cell.1
          have cde := hi4.d.cell.1
          have cdf := hi4.d.cell.2
          have Hi := Lib.hid hi4
          clear hi4
          gi_wp2_with (first | ((first | refine ⟨trivial, (fun _ => by omega), ?_⟩ | refine ⟨trivial, ?_⟩); gi_at_call 79; refine (callsIn_wide.2 (next_c _ _ _ (by omega))).mono ?_; rintro e w6 ⟨rfl, hx6⟩; have hi6 := WInv.below ok hJ (WInv.setD ok hJ hlt hlk Hi.out p) hx6; clear hx6))
          go_roundw
          case rel => exact ⟨p + szL ((ls s).drop p), 0, p, p, (pre ++ [(f, pv)]), congrArg _ Hn0.out, hn1, hn2, ⟨m, hfin.out, by omega⟩, hi6⟩
          case measure => have hn0 := Hn0.out; simp only [intOf]; rw [show nextI (ls s) ((p : Nat) : Int) = _ from hn0]; simp; omega
    · -- a line feed
      have Hkc := Lib.hid hkc
      clear hkc
      have g5 : ((p : Int) == (s.size : Int)) = false := by simp; omega
      have Hend : Hid (¬ p = s.size) := Lib.hid (by omega)
      have Hn0 : Hid (nextI (ls s) p = ((p + szL ((ls s).drop p) : Nat) : Int)) := Lib.hid (next_sz hpl (by rw [ls_len]; exact hpl2))
      have hn1 : p + szL ((ls s).drop p) ≤ s.size := by have := (sz_at hpl (by rw [ls_len]; exact hpl2)).2; rw [ls_len] at this; exact this
      have hn2 := place_next hpl (by rw [ls_len]; exact hpl2)
      have hn3 := (sz_at hpl (by rw [ls_len]; exact hpl2)).1
      have g9 := byte_feed hkv hpl2
      by_cases hc : c0 = 0
      · subst hc
        rcases p_ways s p hp with ⟨hz0, g8⟩ | ⟨hz0, g8, hpb, g10⟩ | ⟨hz0, g8, hpb, g10⟩
        · have Hem : Hid (emB (ls s) p = true) := Lib.hid (em_true (.inl hz0) (.inr ⟨hpl2, lf_of g9⟩))
          have Hz := Lib.hid hz0
          clear hz0
          gi_wp2_with (first | ((first | refine ⟨trivial, (fun _ => by omega), ?_⟩ | refine ⟨trivial, ?_⟩); gi_at_call 76; refine (callsIn_wide.2 (hcall _)).mono ?_; rintro e w1 ⟨rfl, hx1⟩; have hi1 := HI.out.below ok hJ hx1; have Hi1 := Lib.hid hi1; have ct1 := hi1.t.cell.1; have ca1 := hi1.a.cell.1; have ca2 := hi1.a.cell.2; have cb1 := hi1.b.cell.1; have cb2 := hi1.b.cell.2; have cd1 := hi1.d.cell.1; have cd2 := hi1.d.cell.2; have cy1 := hi1.y.cell.1; clear hi1 hx1 ct ck; obtain ⟨fn, tmps, assign, body, hy, hR⟩ := hY pre (p, -1) _ (WInv.setA ok hJ hlt hlk Hi1.out 0).j (by rw [Hw.out, wl_step] <;> simp [Hkc.out, Hem.out]); dsimp only [encW] at hy; have HR := Lib.hid hR; clear hR))
          refine ⟨(fun _ => by omega), HR.out.mono ?_⟩
          clear HR hy
          rintro e w5 (⟨rfl, hj5, hk5⟩ | ⟨rfl, hjx⟩)
          · have hi5 := (WInv.setA ok hJ hlt hlk Hi1.out 0).keep hj5 hk5
            have hfin := Lib.hid (show wordsI (ls s) true = (pre ++ [((p, -1) : Nat × Int)]) ++ wl (ls s) true m (p + szL ((ls s).drop p)) 0 f p by rw [Hw.out, wl_step, if_neg (c := p = (ls s).length) (by rw [ls_len]; exact Hend.out)]; simp [Hkc.out, Hem.out])
            have cte := hi5.t.cell.1
            have cde := hi5.d.cell.1
            have cdf := hi5.d.cell.2
            have Hi := Lib.hid hi5
            clear hi5
            gi_wp2_with (first | ((first | refine ⟨trivial, (fun _ => by omega), ?_⟩ | refine ⟨trivial, ?_⟩); gi_at_call 79; refine (callsIn_wide.2 (next_c _ _ _ (by omega))).mono ?_; rintro e w6 ⟨rfl, hx6⟩; have hi6 := WInv.below ok hJ (WInv.setD ok hJ hlt hlk Hi.out p) hx6; clear hx6))
            go_roundw
            case rel => exact ⟨p + szL ((ls s).drop p), 0, f, p, (pre ++ [((p, -1) : Nat × Int)]), congrArg _ Hn0.out, hn1, hn2, ⟨m, hfin.out, by omega⟩, hi6⟩
            case measure => have hn0 := Hn0.out; simp only [intOf]; rw [show nextI (ls s) ((p : Nat) : Int) = _ from hn0]; simp; omega
          · gi_wp2
            refine bodyPost_ret (results_none rfl _ _ _) rfl ?_
            exact ⟨⟨_, rfl⟩, .inr ⟨_, trivial, hjx⟩⟩
        · have Hem : Hid (emB (ls s) p = true) := Lib.hid (em_true (.inr ⟨hpb, lf_of g10⟩) (.inr ⟨hpl2, lf_of g9⟩))
          have Hz := Lib.hid hz0
          have ga : 1 ≤ (p : Int) := by omega
          have gb : (p : Int) - 1 < s.size := by omega
          clear hz0
          gi_wp2_with (first | ((first | refine ⟨trivial, (fun _ => by omega), ?_⟩ | refine ⟨trivial, ?_⟩); gi_at_call 76; refine (callsIn_wide.2 (hcall _)).mono ?_; rintro e w1 ⟨rfl, hx1⟩; have hi1 := HI.out.below ok hJ hx1; have Hi1 := Lib.hid hi1; have ct1 := hi1.t.cell.1; have ca1 := hi1.a.cell.1; have ca2 := hi1.a.cell.2; have cb1 := hi1.b.cell.1; have cb2 := hi1.b.cell.2; have cd1 := hi1.d.cell.1; have cd2 := hi1.d.cell.2; have cy1 := hi1.y.cell.1; clear hi1 hx1 ct ck; obtain ⟨fn, tmps, assign, body, hy, hR⟩ := hY pre (p, -1) _ (WInv.setA ok hJ hlt hlk Hi1.out 0).j (by rw [Hw.out, wl_step] <;> simp [Hkc.out, Hem.out]); dsimp only [encW] at hy; have HR := Lib.hid hR; clear hR))
          refine ⟨(fun _ => by omega), HR.out.mono ?_⟩
          clear HR hy
          rintro e w5 (⟨rfl, hj5, hk5⟩ | ⟨rfl, hjx⟩)
          · have hi5 := (WInv.setA ok hJ hlt hlk Hi1.out 0).keep hj5 hk5
            have hfin := Lib.hid (show wordsI (ls s) true = (pre ++ [((p, -1) : Nat × Int)]) ++ wl (ls s) true m (p + szL ((ls s).drop p)) 0 f p by rw [Hw.out, wl_step, if_neg (c := p = (ls s).length) (by rw [ls_len]; exact Hend.out)]; simp [Hkc.out, Hem.out])
            have cte := hi5.t.cell.1
            have cde := hi5.d.cell.1
            have cdf := hi5.d.cell.2
            have Hi := Lib.hid hi5
            clear hi5
            gi_wp2_with (first | ((first | refine ⟨trivial, (fun _ => by omega), ?_⟩ | refine ⟨trivial, ?_⟩); gi_at_call 79; refine (callsIn_wide.2 (next_c _ _ _ (by omega))).mono ?_; rintro e w6 ⟨rfl, hx6⟩; have hi6 := WInv.below ok hJ (WInv.setD ok hJ hlt hlk Hi.out p) hx6; clear hx6))
            go_roundw
            case rel => exact ⟨p + szL ((ls s).drop p), 0, f, p, (pre ++ [((p, -1) : Nat × Int)]), congrArg _ Hn0.out, hn1, hn2, ⟨m, hfin.out, by omega⟩, hi6⟩
            case measure => have hn0 := Hn0.out; simp only [intOf]; rw [show nextI (ls s) ((p : Nat) : Int) = _ from hn0]; simp; omega
          · gi_wp2
            refine bodyPost_ret (results_none rfl _ _ _) rfl ?_
            exact ⟨⟨_, rfl⟩, .inr ⟨_, trivial, hjx⟩⟩
        · have Hem : Hid (emB (ls s) p = false) := Lib.hid (em_false1 hz0 hpb (nlf_of g10))
          have Hz := Lib.hid hz0
          have ga : 1 ≤ (p : Int) := by omega
          have gb : (p : Int) - 1 < s.size := by omega
          clear hz0
          gi_wp2_with (first | ((first | refine ⟨trivial, (fun _ => by omega), ?_⟩ | refine ⟨trivial, ?_⟩); gi_at_call 76; refine (callsIn_wide.2 (hcall _)).mono ?_; rintro e w1 ⟨rfl, hx1⟩; have hi1 := HI.out.below ok hJ hx1; have Hi1 := Lib.hid hi1; have ct1 := hi1.t.cell.1; have ca1 := hi1.a.cell.1; have ca2 := hi1.a.cell.2; have cb1 := hi1.b.cell.1; have cb2 := hi1.b.cell.2; have cd1 := hi1.d.cell.1; have cd2 := hi1.d.cell.2; have cy1 := hi1.y.cell.1; clear hi1 hx1 ct ck))
          refine ⟨(fun f hf => by cases hf), ?_⟩
          have hi4 := (WInv.setA ok hJ hlt hlk Hi1.out 0)
          have hfin := Lib.hid (show wordsI (ls s) true = pre ++ wl (ls s) true m (p + szL ((ls s).drop p)) 0 f p by rw [Hw.out, wl_step, if_neg (c := p = (ls s).length) (by rw [ls_len]; exact Hend.out)]; simp [Hkc.out, Hem.out])
          have cte := hi4.t.cell.1
          have cde := hi4.d.cell.1
          have cdf := hi4.d.cell.2
          have Hi := Lib.hid hi4
          clear hi4
          gi_wp2_with (first | ((first | refine ⟨trivial, (fun _ => by omega), ?_⟩ | refine ⟨trivial, ?_⟩); gi_at_call 79; refine (callsIn_wide.2 (next_c _ _ _ (by omega))).mono ?_; rintro e w6 ⟨rfl, hx6⟩; have hi6 := WInv.below ok hJ (WInv.setD ok hJ hlt hlk Hi.out p) hx6; clear hx6))
          go_roundw
          case rel => exact ⟨p + szL ((ls s).drop p), 0, f, p, pre, congrArg _ Hn0.out, hn1, hn2, ⟨m, hfin.out, by omega⟩, hi6⟩
          case measure => have hn0 := Hn0.out; simp only [intOf]; rw [show nextI (ls s) ((p : Nat) : Int) = _ from hn0]; simp; omega
      · have Hc0 : Hid (c0 ≠ 0) := Lib.hid hc
        have Hcc : Hid (¬ (0 : Int) = c0) := Lib.hid (fun e => hc e.symm)
        have g7 : ((0 : Int) != c0) = true := by simpa using fun e => hc (Eq.symm e)
        clear hc
        rcases p_ways s p hp with ⟨hz0, g8⟩ | ⟨hz0, g8, hpb, g10⟩ | ⟨hz0, g8, hpb, g10⟩
        · have Hem : Hid (emB (ls s) p = true) := Lib.hid (em_true (.inl hz0) (.inr ⟨hpl2, lf_of g9⟩))
          have Hz := Lib.hid hz0
          clear hz0
          gi_wp2_with (first | ((first | refine ⟨trivial, (fun _ => by omega), ?_⟩ | refine ⟨trivial, ?_⟩); gi_at_call 76; refine (callsIn_wide.2 (hcall _)).mono ?_; rintro e w1 ⟨rfl, hx1⟩; have hi1 := HI.out.below ok hJ hx1; have Hi1 := Lib.hid hi1; have ct1 := hi1.t.cell.1; have ca1 := hi1.a.cell.1; have ca2 := hi1.a.cell.2; have cb1 := hi1.b.cell.1; have cb2 := hi1.b.cell.2; have cd1 := hi1.d.cell.1; have cd2 := hi1.d.cell.2; have cy1 := hi1.y.cell.1; clear hi1 hx1 ct ck))
          refine ⟨trivial, (fun _ => by omega), ?_⟩
          gi_at_call 78
          refine (flush1 _ _ _ _ _ l c0 (f, pv) w1 Hc0.out ca1 cy1 cb1 cd1 (Yielded Pv J Jx (pre ++ [(f, pv)]) w1) (by rintro e W' (⟨rfl, -⟩ | ⟨rfl, -⟩) <;> exact ⟨_, rfl⟩) (hY pre (f, pv) w1 Hi1.out.j (by rw [Hw.out, wl_step]; simp [Hkc.out, Hcc.out, Hc0.out]))).mono ?_
          rintro e w2 (⟨rfl, hj2, hk2⟩ | ⟨rfl, hjx⟩)
          rotate_left
          · gi_wp2
            refine bodyPost_ret (results_none rfl _ _ _) rfl ?_
            exact ⟨⟨_, rfl⟩, .inr ⟨_, trivial, hjx⟩⟩
          have hi2 := Hi1.out.keep hj2 hk2
          have Hi2 := Lib.hid hi2
          have ct2 := hi2.t.cell.1
          have ca3 := hi2.a.cell.1
          have ca4 := hi2.a.cell.2
          have cb3 := hi2.b.cell.1
          have cb4 := hi2.b.cell.2
          have cd3 := hi2.d.cell.1
          have cd4 := hi2.d.cell.2
          have cy2 := hi2.y.cell.1
          clear hi2 hj2 hk2 ct1 ca1 ca2 cb1 cb2 cd1 cd2 cy1
          obtain ⟨fn, tmps, assign, body, hy, hR⟩ := hY (pre ++ [(f, pv)]) (p, -1) _ (WInv.setA ok hJ hlt hlk (WInv.setB ok hJ hlt hlk Hi2.out p) 0).j (by rw [Hw.out, wl_step] <;> simp [Hkc.out, Hcc.out, Hc0.out, Hem.out])
          dsimp only [encW] at hy
          have HR := Lib.hid hR
          clear hR
          gi_wp2
          refine ⟨(fun _ => by omega), HR.out.mono ?_⟩
          clear HR hy
          rintro e w5 (⟨rfl, hj5, hk5⟩ | ⟨rfl, hjx⟩)
          · have hi5 := (WInv.setA ok hJ hlt hlk (WInv.setB ok hJ hlt hlk Hi2.out p) 0).keep hj5 hk5
            have hfin := Lib.hid (show wordsI (ls s) true = ((pre ++ [(f, pv)]) ++ [((p, -1) : Nat × Int)]) ++ wl (ls s) true m (p + szL ((ls s).drop p)) 0 p p by rw [Hw.out, wl_step, if_neg (c := p = (ls s).length) (by rw [ls_len]; exact Hend.out)]; simp [Hkc.out, Hcc.out, Hc0.out, Hem.out])
            have cte := hi5.t.cell.1
            have cde := hi5.d.cell.1
            have cdf := hi5.d.cell.2
            have Hi := Lib.hid hi5
            clear hi5
            gi_wp2_with (first | ((first | refine ⟨trivial, (fun _ => by omega), ?_⟩ | refine ⟨trivial, ?_⟩); gi_at_call 79; refine (callsIn_wide.2 (next_c _ _ _ (by omega))).mono ?_; rintro e w6 ⟨rfl, hx6⟩; have hi6 := WInv.below ok hJ (WInv.setD ok hJ hlt hlk Hi.out p) hx6; clear hx6))
            go_roundw
            case rel => exact ⟨p + szL ((ls s).drop p), 0, p, p, ((pre ++ [(f, pv)]) ++ [((p, -1) : Nat × Int)]), congrArg _ Hn0.out, hn1, hn2, ⟨m, hfin.out, by omega⟩, hi6⟩
            case measure => have hn0 := Hn0.out; simp only [intOf]; rw [show nextI (ls s) ((p : Nat) : Int) = _ from hn0]; simp; omega
          · gi_wp2
            refine bodyPost_ret (results_none rfl _ _ _) rfl ?_
            exact ⟨⟨_, rfl⟩, .inr ⟨_, trivial, hjx⟩⟩
        · have Hem : Hid (emB (ls s) p = true) := Lib.hid (em_true (.inr ⟨hpb, lf_of g10⟩) (.inr ⟨hpl2, lf_of g9⟩))
          have Hz := Lib.hid hz0
          have ga : 1 ≤ (p : Int) := by omega
          have gb : (p : Int) - 1 < s.size := by omega
          clear hz0
          gi_wp2_with (first | ((first | refine ⟨trivial, (fun _ => by omega), ?_⟩ | refine ⟨trivial, ?_⟩); gi_at_call 76; refine (callsIn_wide.2 (hcall _)).mono ?_; rintro e w1 ⟨rfl, hx1⟩; have hi1 := HI.out.below ok hJ hx1; have Hi1 := Lib.hid hi1; have ct1 := hi1.t.cell.1; have ca1 := hi1.a.cell.1; have ca2 := hi1.a.cell.2; have cb1 := hi1.b.cell.1; have cb2 := hi1.b.cell.2; have cd1 := hi1.d.cell.1; have cd2 := hi1.d.cell.2; have cy1 := hi1.y.cell.1; clear hi1 hx1 ct ck))
          refine ⟨trivial, (fun _ => by omega), ?_⟩
          gi_at_call 78
          refine (flush1 _ _ _ _ _ l c0 (f, pv) w1 Hc0.out ca1 cy1 cb1 cd1 (Yielded Pv J Jx (pre ++ [(f, pv)]) w1) (by rintro e W' (⟨rfl, -⟩ | ⟨rfl, -⟩) <;> exact ⟨_, rfl⟩) (hY pre (f, pv) w1 Hi1.out.j (by rw [Hw.out, wl_step]; simp [Hkc.out, Hcc.out, Hc0.out]))).mono ?_
          rintro e w2 (⟨rfl, hj2, hk2⟩ | ⟨rfl, hjx⟩)
          rotate_left
          · gi_wp2
            refine bodyPost_ret (results_none rfl _ _ _) rfl ?_
            exact ⟨⟨_, rfl⟩, .inr ⟨_, trivial, hjx⟩⟩
          have hi2 := Hi1.out.keep hj2 hk2
          have Hi2 := Lib.hid hi2
          have ct2 := hi2.t.cell.1
          have ca3 := hi2.a.cell.1
          have ca4 := hi2.a.cell.2
          have cb3 := hi2.b.cell.1
          have cb4 := hi2.b.cell.2
          have cd3 := hi2.d.cell.1
          have cd4 := hi2.d.cell.2
          have cy2 := hi2.y.cell.1
          clear hi2 hj2 hk2 ct1 ca1 ca2 cb1 cb2 cd1 cd2 cy1
          obtain ⟨fn, tmps, assign, body, hy, hR⟩ := hY (pre ++ [(f, pv)]) (p, -1) _ (WInv.setA ok hJ hlt hlk (WInv.setB ok hJ hlt hlk Hi2.out p) 0).j (by rw [Hw.out, wl_step] <;> simp [Hkc.out, Hcc.out, Hc0.out, Hem.out])
          dsimp only [encW] at hy
          have HR := Lib.hid hR
          clear hR
          gi_wp2
          refine ⟨(fun _ => by omega), HR.out.mono ?_⟩
          clear HR hy
          rintro e w5 (⟨rfl, hj5, hk5⟩ | ⟨rfl, hjx⟩)
          · have hi5 := (WInv.setA ok hJ hlt hlk (WInv.setB ok hJ hlt hlk Hi2.out p) 0).keep hj5 hk5
            have hfin := Lib.hid (show wordsI (ls s) true = ((pre ++ [(f, pv)]) ++ [((p, -1) : Nat × Int)]) ++ wl (ls s) true m (p + szL ((ls s).drop p)) 0 p p by rw [Hw.out, wl_step, if_neg (c := p = (ls s).length) (by rw [ls_len]; exact Hend.out)]; simp [Hkc.out, Hcc.out, Hc0.out, Hem.out])
            have cte := hi5.t.cell.1
            have cde := hi5.d.cell.1
            have cdf := hi5.d.cell.2
            have Hi := Lib.hid hi5
            clear hi5
            gi_wp2_with (first | ((first | refine ⟨trivial, (fun _ => by omega), ?_⟩ | refine ⟨trivial, ?_⟩); gi_at_call 79; refine (callsIn_wide.2 (next_c _ _ _ (by omega))).mono ?_; rintro e w6 ⟨rfl, hx6⟩; have hi6 := WInv.below ok hJ (WInv.setD ok hJ hlt hlk Hi.out p) hx6; clear hx6))
            go_roundw
            case rel => exact ⟨p + szL ((ls s).drop p), 0, p, p, ((pre ++ [(f, pv)]) ++ [((p, -1) : Nat × Int)]), congrArg _ Hn0.out, hn1, hn2, ⟨m, hfin.out, by omega⟩, hi6⟩
            case measure => have hn0 := Hn0.out; simp only [intOf]; rw [show nextI (ls s) ((p : Nat) : Int) = _ from hn0]; simp; omega
          · gi_wp2
            refine bodyPost_ret (results_none rfl _ _ _) rfl ?_
            exact ⟨⟨_, rfl⟩, .inr ⟨_, trivial, hjx⟩⟩
        · have Hem : Hid (emB (ls s) p = false) := Lib.hid (em_false1 hz0 hpb (nlf_of g10))
          have Hz := Lib.hid hz0
          have ga : 1 ≤ (p : Int) := by omega
          have gb : (p : Int) - 1 < s.size := by omega
          clear hz0
          gi_wp2_with (first | ((first | refine ⟨trivial, (fun _ => by omega), ?_⟩ | refine ⟨trivial, ?_⟩); gi_at_call 76; refine (callsIn_wide.2 (hcall _)).mono ?_; rintro e w1 ⟨rfl, hx1⟩; have hi1 := HI.out.below ok hJ hx1; have Hi1 := Lib.hid hi1; have ct1 := hi1.t.cell.1; have ca1 := hi1.a.cell.1; have ca2 := hi1.a.cell.2; have cb1 := hi1.b.cell.1; have cb2 := hi1.b.cell.2; have cd1 := hi1.d.cell.1; have cd2 := hi1.d.cell.2; have cy1 := hi1.y.cell.1; clear hi1 hx1 ct ck))
          refine ⟨trivial, (fun _ => by omega), ?_⟩
          gi_at_call 78
          refine (flush1 _ _ _ _ _ l c0 (f, pv) w1 Hc0.out ca1 cy1 cb1 cd1 (Yielded Pv J Jx (pre ++ [(f, pv)]) w1) (by rintro e W' (⟨rfl, -⟩ | ⟨rfl, -⟩) <;> exact ⟨_, rfl⟩) (hY pre (f, pv) w1 Hi1.out.j (by rw [Hw.out, wl_step]; simp [Hkc.out, Hcc.out, Hc0.out]))).mono ?_
          rintro e w2 (⟨rfl, hj2, hk2⟩ | ⟨rfl, hjx⟩)
          rotate_left
          · gi_wp2
            refine bodyPost_ret (results_none rfl _ _ _) rfl ?_
            exact ⟨⟨_, rfl⟩, .inr ⟨_, trivial, hjx⟩⟩
          have hi2 := Hi1.out.keep hj2 hk2
          have Hi2 := Lib.hid hi2
          have ct2 := hi2.t.cell.1
          have ca3 := hi2.a.cell.1
          have ca4 := hi2.a.cell.2
          have cb3 := hi2.b.cell.1
          have cb4 := hi2.b.cell.2
          have cd3 := hi2.d.cell.1
          have cd4 := hi2.d.cell.2
          have cy2 := hi2.y.cell.1
          clear hi2 hj2 hk2 ct1 ca1 ca2 cb1 cb2 cd1 cd2 cy1
          gi_wp2
          refine ⟨(fun f hf => by cases hf), ?_⟩
          have hi4 := (WInv.setA ok hJ hlt hlk (WInv.setB ok hJ hlt hlk Hi2.out p) 0)
          have hfin := Lib.hid (show wordsI (ls s) true = (pre ++ [(f, pv)]) ++ wl (ls s) true m (p + szL ((ls s).drop p)) 0 p p by rw [Hw.out, wl_step, if_neg (c := p = (ls s).length) (by rw [ls_len]; exact Hend.out)]; simp [Hkc.out, Hcc.out, Hc0.out, Hem.out])
          have cte := hi4.t.cell.1
          have cde := hi4.d.cell.1
          have cdf := hi4.d.cell.2
          have Hi := Lib.hid hi4
          clear hi4
          gi_wp2_with (first | ((first | refine ⟨trivial, (fun _ => by omega), ?_⟩ | refine ⟨trivial, ?_⟩); gi_at_call 79; refine (callsIn_wide.2 (next_c _ _ _ (by omega))).mono ?_; rintro e w6 ⟨rfl, hx6⟩; have hi6 := WInv.below ok hJ (WInv.setD ok hJ hlt hlk Hi.out p) hx6; clear hx6))
          go_roundw
          case rel => exact ⟨p + szL ((ls s).drop p), 0, p, p, (pre ++ [(f, pv)]), congrArg _ Hn0.out, hn1, hn2, ⟨m, hfin.out, by omega⟩, hi6⟩
          case measure => have hn0 := Hn0.out; simp only [intOf]; rw [show nextI (ls s) ((p : Nat) : Int) = _ from hn0]; simp; omega
    · -- a sign of a word
      have Hkc := Lib.hid hkc
      clear hkc
      have Hk0 : Hid (¬ kv = 0) := Lib.hid h0
      have g0 : (kv == 0) = false := by simpa using h0
      have g1 : (kv == 1) = false := by simpa using h1
      have g4 : (kv == 4) = false := by simpa using h4
      have g5 : ((p : Int) == (s.size : Int)) = false := by simp; omega
      have Hend : Hid (¬ p = s.size) := Lib.hid (by omega)
      have Hn0 : Hid (nextI (ls s) p = ((p + szL ((ls s).drop p) : Nat) : Int)) := Lib.hid (next_sz hpl (by rw [ls_len]; exact hpl2))
      have hn1 : p + szL ((ls s).drop p) ≤ s.size := by have := (sz_at hpl (by rw [ls_len]; exact hpl2)).2; rw [ls_len] at this; exact this
      have hn2 := place_next hpl (by rw [ls_len]; exact hpl2)
      have hn3 := (sz_at hpl (by rw [ls_len]; exact hpl2)).1
      by_cases hc : kv = c0
      · subst hc
        gi_wp2_with (first | ((first | refine ⟨trivial, (fun _ => by omega), ?_⟩ | refine ⟨trivial, ?_⟩); gi_at_call 76; refine (callsIn_wide.2 (hcall _)).mono ?_; rintro e w1 ⟨rfl, hx1⟩; have hi1 := HI.out.below ok hJ hx1; have Hi1 := Lib.hid hi1; have ct1 := hi1.t.cell.1; have ca1 := hi1.a.cell.1; have ca2 := hi1.a.cell.2; have cb1 := hi1.b.cell.1; have cb2 := hi1.b.cell.2; have cd1 := hi1.d.cell.1; have cd2 := hi1.d.cell.2; have cy1 := hi1.y.cell.1; clear hi1 hx1 ct ck))
        refine ⟨(fun f hf => by cases hf), ?_⟩
        have hi4 := (WInv.setA ok hJ hlt hlk Hi1.out kv)
        have hfin := Lib.hid (show wordsI (ls s) true = pre ++ wl (ls s) true m (p + szL ((ls s).drop p)) kv f p by rw [Hw.out, wl_step, if_neg (c := p = (ls s).length) (by rw [ls_len]; exact Hend.out)]; simp [Hkc.out, Hk0.out])
        have cte := hi4.t.cell.1
        have cde := hi4.d.cell.1
        have cdf := hi4.d.cell.2
        have Hi := Lib.hid hi4
        clear hi4
        gi_wp2_with (first | ((first | refine ⟨trivial, (fun _ => by omega), ?_⟩ | refine ⟨trivial, ?_⟩); gi_at_call 79; refine (callsIn_wide.2 (next_c _ _ _ (by omega))).mono ?_; rintro e w6 ⟨rfl, hx6⟩; have hi6 := WInv.below ok hJ (WInv.setD ok hJ hlt hlk Hi.out p) hx6; clear hx6))
        go_roundw
        case rel => exact ⟨p + szL ((ls s).drop p), kv, f, p, pre, congrArg _ Hn0.out, hn1, hn2, ⟨m, hfin.out, by omega⟩, hi6⟩
        case measure => have hn0 := Hn0.out; simp only [intOf]; rw [show nextI (ls s) ((p : Nat) : Int) = _ from hn0]; simp; omega
      · by_cases h00 : c0 = 0
        · subst h00
          have g7 : (kv != 0) = true := by simpa using h0
          have Hcc : Hid (¬ kv = 0) := Lib.hid h0
          clear hc h0 h1 h4
          gi_wp2_with (first | ((first | refine ⟨trivial, (fun _ => by omega), ?_⟩ | refine ⟨trivial, ?_⟩); gi_at_call 76; refine (callsIn_wide.2 (hcall _)).mono ?_; rintro e w1 ⟨rfl, hx1⟩; have hi1 := HI.out.below ok hJ hx1; have Hi1 := Lib.hid hi1; have ct1 := hi1.t.cell.1; have ca1 := hi1.a.cell.1; have ca2 := hi1.a.cell.2; have cb1 := hi1.b.cell.1; have cb2 := hi1.b.cell.2; have cd1 := hi1.d.cell.1; have cd2 := hi1.d.cell.2; have cy1 := hi1.y.cell.1; clear hi1 hx1 ct ck) | (refine ⟨trivial, (fun _ => by omega), ?_⟩; gi_at_call 78; refine (flush0 _ _ _ _ _ _ ca1).mono ?_; rintro e w2 ⟨rfl, rfl⟩))
          refine ⟨(fun f hf => by cases hf), ?_⟩
          have hi4 := (WInv.setA ok hJ hlt hlk (WInv.setB ok hJ hlt hlk Hi1.out p) kv)
          have hfin := Lib.hid (show wordsI (ls s) true = pre ++ wl (ls s) true m (p + szL ((ls s).drop p)) kv p p by rw [Hw.out, wl_step, if_neg (c := p = (ls s).length) (by rw [ls_len]; exact Hend.out)]; simp [Hkc.out, Hcc.out, Hk0.out])
          have cte := hi4.t.cell.1
          have cde := hi4.d.cell.1
          have cdf := hi4.d.cell.2
          have Hi := Lib.hid hi4
          clear hi4
          gi_wp2_with (first | ((first | refine ⟨trivial, (fun _ => by omega), ?_⟩ | refine ⟨trivial, ?_⟩); gi_at_call 79; refine (callsIn_wide.2 (next_c _ _ _ (by omega))).mono ?_; rintro e w6 ⟨rfl, hx6⟩; have hi6 := WInv.below ok hJ (WInv.setD ok hJ hlt hlk Hi.out p) hx6; clear hx6))
          go_roundw
          case rel => exact ⟨p + szL ((ls s).drop p), kv, p, p, pre, congrArg _ Hn0.out, hn1, hn2, ⟨m, hfin.out, by omega⟩, hi6⟩
          case measure => have hn0 := Hn0.out; simp only [intOf]; rw [show nextI (ls s) ((p : Nat) : Int) = _ from hn0]; simp; omega
        · have Hc0 : Hid (c0 ≠ 0) := Lib.hid h00
          have Hcc : Hid (¬ kv = c0) := Lib.hid hc
          have g7 : (kv != c0) = true := by simpa using hc
          clear hc h00 h0 h1 h4
          gi_wp2_with (first | ((first | refine ⟨trivial, (fun _ => by omega), ?_⟩ | refine ⟨trivial, ?_⟩); gi_at_call 76; refine (callsIn_wide.2 (hcall _)).mono ?_; rintro e w1 ⟨rfl, hx1⟩; have hi1 := HI.out.below ok hJ hx1; have Hi1 := Lib.hid hi1; have ct1 := hi1.t.cell.1; have ca1 := hi1.a.cell.1; have ca2 := hi1.a.cell.2; have cb1 := hi1.b.cell.1; have cb2 := hi1.b.cell.2; have cd1 := hi1.d.cell.1; have cd2 := hi1.d.cell.2; have cy1 := hi1.y.cell.1; clear hi1 hx1 ct ck))
          refine ⟨trivial, (fun _ => by omega), ?_⟩
          gi_at_call 78
          refine (flush1 _ _ _ _ _ l c0 (f, pv) w1 Hc0.out ca1 cy1 cb1 cd1 (Yielded Pv J Jx (pre ++ [(f, pv)]) w1) (by rintro e W' (⟨rfl, -⟩ | ⟨rfl, -⟩) <;> exact ⟨_, rfl⟩) (hY pre (f, pv) w1 Hi1.out.j (by rw [Hw.out, wl_step]; simp [Hkc.out, Hcc.out, Hc0.out]))).mono ?_
          rintro e w2 (⟨rfl, hj2, hk2⟩ | ⟨rfl, hjx⟩)
          rotate_left
          · gi_wp2
            refine bodyPost_ret (results_none rfl _ _ _) rfl ?_
            exact ⟨⟨_, rfl⟩, .inr ⟨_, trivial, hjx⟩⟩
          have hi2 := Hi1.out.keep hj2 hk2
          have Hi2 := Lib.hid hi2
          have ct2 := hi2.t.cell.1
          have ca3 := hi2.a.cell.1
          have ca4 := hi2.a.cell.2
          have cb3 := hi2.b.cell.1
          have cb4 := hi2.b.cell.2
          have cd3 := hi2.d.cell.1
          have cd4 := hi2.d.cell.2
          have cy2 := hi2.y.cell.1
          clear hi2 hj2 hk2 ct1 ca1 ca2 cb1 cb2 cd1 cd2 cy1
          gi_wp2
          refine ⟨(fun f hf => by cases hf), ?_⟩
          have hi4 := (WInv.setA ok hJ hlt hlk (WInv.setB ok hJ hlt hlk Hi2.out p) kv)
          have hfin := Lib.hid (show wordsI (ls s) true = (pre ++ [(f, pv)]) ++ wl (ls s) true m (p + szL ((ls s).drop p)) kv p p by rw [Hw.out, wl_step, if_neg (c := p = (ls s).length) (by rw [ls_len]; exact Hend.out)]; simp [Hkc.out, Hcc.out, Hc0.out, Hk0.out])
          have cte := hi4.t.cell.1
          have cde := hi4.d.cell.1
          have cdf := hi4.d.cell.2
          have Hi := Lib.hid hi4
          clear hi4
          gi_wp2_with (first | ((first | refine ⟨trivial, (fun _ => by omega), ?_⟩ | refine ⟨trivial, ?_⟩); gi_at_call 79; refine (callsIn_wide.2 (next_c _ _ _ (by omega))).mono ?_; rintro e w6 ⟨rfl, hx6⟩; have hi6 := WInv.below ok hJ (WInv.setD ok hJ hlt hlk Hi.out p) hx6; clear hx6))
          go_roundw
          case rel => exact ⟨p + szL ((ls s).drop p), kv, p, p, (pre ++ [(f, pv)]), congrArg _ Hn0.out, hn1, hn2, ⟨m, hfin.out, by omega⟩, hi6⟩
          case measure => have hn0 := Hn0.out; simp only [intOf]; rw [show nextI (ls s) ((p : Nat) : Int) = _ from hn0]; simp; omega
    --END
end Go.Proofs.Ythjlhbblflmajaa
/- Where a text stands in another one: plain facts. -/
namespace Go.Proofs.Ythjlhbblflmajaa
open Go.RowKit
set_option linter.unusedVariables false
set_option linter.unusedSimpArgs false
def occF (l p : List UInt8) (i : Nat) : List Nat := (List.range' i (l.length + 1 - i)).filter (Lib.occAt l p)
def lookI (l p : List UInt8) : List Int := if p ≠ [] ∧ validL l = true ∧ validL p = true then (occF l p 0).map Int.ofNat else []
theorem occAt_drop (l p : List UInt8) (i j : Nat) : Lib.occAt (l.drop i) p j = Lib.occAt l p (i + j) := by
  unfold Lib.occAt; rw [List.drop_drop]
theorem occAt_len {l p : List UInt8} {i : Nat} (hi : i ≤ l.length) (h : Lib.occAt l p i = true) : i + p.length ≤ l.length := by
  unfold Lib.occAt at h
  have h2 := (List.isPrefixOf_iff_prefix.1 h).length_le
  rw [List.length_drop] at h2; omega
theorem occF_skip (l p : List UInt8) (i : Nat) : ∀ m, i + m ≤ l.length + 1 → (∀ j, j < m → Lib.occAt l p (i + j) = false) → occF l p i = occF l p (i + m)
  | 0, _, _ => rfl
  | m + 1, hm, h => by
    rw [occF_skip l p i m (by omega) (fun j hj => h j (by omega))]
    unfold occF
    obtain ⟨d, hd⟩ : ∃ d, l.length + 1 - (i + m) = d + 1 := ⟨l.length - (i + m), by omega⟩
    have hd2 : l.length + 1 - (i + (m + 1)) = d := by omega
    rw [hd, hd2, List.range'_succ, List.filter_cons_of_neg (by rw [h m (by omega)]; decide)]
    rfl
theorem occF_hit {l p : List UInt8} {i : Nat} (hi : i ≤ l.length) (h : Lib.occAt l p i = true) : occF l p i = i :: occF l p (i + 1) := by
  unfold occF
  obtain ⟨d, hd⟩ : ∃ d, l.length + 1 - i = d + 1 := ⟨l.length - i, by omega⟩
  have hd2 : l.length + 1 - (i + 1) = d := by omega
  rw [hd, hd2, List.range'_succ, List.filter_cons_of_pos h]
theorem occF_end (l p : List UInt8) (i : Nat) (hi : l.length < i) : occF l p i = [] := by
  unfold occF
  have : l.length + 1 - i = 0 := by omega
  rw [this]; rfl
theorem occF_next {l p : List UInt8} {i n : Nat} (hi : i ≤ l.length) (hn : Lib.index (l.drop i) p = n) : occF l p i = (i + n) :: occF l p (i + n + 1) ∧ i + n + p.length ≤ l.length := by
  rcases Lib.index_spec (l.drop i) p with ⟨h, _⟩ | ⟨m, h, hm, ho, hno⟩
  · omega
  · have : m = n := by omega
    subst this
    rw [List.length_drop] at hm
    rw [occAt_drop] at ho
    refine ⟨?_, occAt_len (by omega) ho⟩
    rw [occF_skip l p i m (by omega) (fun j hj => by rw [← occAt_drop]; exact hno j hj), occF_hit (by omega) ho]
theorem occF_none {l p : List UInt8} {i : Nat} (hi : i ≤ l.length) (hn : Lib.index (l.drop i) p < 0) : occF l p i = [] := by
  rcases Lib.index_spec (l.drop i) p with ⟨_, h⟩ | ⟨m, h, hm, ho, hno⟩
  · rw [occF_skip l p i (l.length + 1 - i) (by omega) (fun j hj => by rw [← occAt_drop]; exact h j (by rw [List.length_drop]; omega))]
    exact occF_end _ _ _ (by omega)
  · omega
theorem occF_len (l p : List UInt8) (i : Nat) : (occF l p i).length ≤ l.length + 1 := by
  unfold occF
  refine Nat.le_trans (List.length_filter_le _ _) ?_
  rw [List.length_range']; omega
theorem lookI_len (l p : List UInt8) : (lookI l p).length ≤ l.length + 1 := by
  unfold lookI; split
  · rw [List.length_map]; exact occF_len _ _ _
  · simp
end Go.Proofs.Ythjlhbblflmajaa
/- The contract of utf.Rune. -/
namespace Go.Proofs.Ythjlhbblflmajaa
open Go.RowKit
set_option linter.unusedVariables false
set_option linter.unusedSimpArgs false
end Go.Proofs.Ythjlhbblflmajaa
