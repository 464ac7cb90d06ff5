/- Lemmas of this claim (a part of its texts, kept as far as the claim reaches them). -/
import Derived.WalkKit
import Derived.WalkSpells
import Derived.WalkLawsBesides
import Derived.BigQuiet
import Derived.Deep.QuietTactic
import Derived.Laws.BitsAllLaws
import Derived.Deep.LoopGhost
import Derived.Deep.DeepCutAuto
import Derived.Deep.RegionHeld3
import Derived.Maps.AppendAt
import Derived.Deep.AppendLies
import Derived.RegionTactic
import Derived.OwnWalk
import Derived.Deep.Draws
import Derived.Laws.Rows
import Derived.Laws.OwnMore
import Derived.Lib.OthersKept
import Derived.Deep.DeepFit
import Derived.Lib.ConvBytes
import Derived.Laws.MakeOwn
import Derived.Lib.AppendStr
import Derived.Test.YtefokfbgpfcbkaaGreatRows
import Derived.KernelRfl
import Derived.Lib.Strings
import Derived.Laws.IdiomStrings
import Derived.Laws.BytesArg
import Derived.RangeFuncNested
import Derived.RangeFuncBound
import Derived.RangeFuncCalls
import Derived.RangeFuncLeaves
import Derived.Shelf.Abstract
import Derived.Shelf.RegionOpen
import Derived.OwnWalkIn
import Derived.TacticsInMore
import Derived.LoopNIn
import Derived.LoopIn
namespace Go.Proofs.YtefokfbgpfcbkaaGreat
set_option linter.unusedVariables false
set_option linter.unusedSimpArgs false
open Go.RowKit
theorem nb {b : Bool} (h : b = false) : ¬ b = true := by simp [h]
theorem hide {p : Prop} (h : p) : Hid p := h
theorem unhide {p : Prop} (h : Hid p) : p := h
theorem ret_bool {a b : Bool} (h : a = b) : Ending.returned (.bool a) = .returned (.bool b) := by rw [h]
theorem ret_int {k : IntKind} {a b : Int} (h : a = b) : Ending.returned (.int k a) = .returned (.int k b) := by rw [h]
theorem all_bytes {p : UInt8 → Prop} (h : ∀ n, n < 256 → p (UInt8.ofNat n)) (c : UInt8) : p c := by
  have := h c.toNat c.toNat_lt
  simpa using this
end Go.Proofs.YtefokfbgpfcbkaaGreat
namespace Go.Proofs.YtefokfbgpfcbkaaGreat
set_option linter.unusedVariables false
set_option linter.unusedSimpArgs false
end Go.Proofs.YtefokfbgpfcbkaaGreat
namespace Go.Proofs.YtefokfbgpfcbkaaGreat
set_option linter.unusedVariables false
set_option linter.unusedSimpArgs false
open Go.RowKit
theorem grown_of_below {w w' : World} (hb : Below w.heap.size w w') (row : Option Nat) : w.grownBy w' row := ⟨hb.os, hb.tape, hb.output, hb.size, fun k hk _ => hb.block k hk⟩
section
variable {w w' : World} {B : Nat} {e : TypeId} {v : Value} {l : List UInt8}
theorem below_drewN {a : World} {B n : Nat} (h : Below B a w) : Below B a (w.drewN n) := ⟨h.os, h.tape, h.output, h.size, h.block⟩
end
end Go.Proofs.YtefokfbgpfcbkaaGreat
namespace Go.Proofs.YtefokfbgpfcbkaaGreat
set_option linter.unusedVariables false
set_option linter.unusedSimpArgs false
open Go.RowKit
variable {F : Fence} {n : Nat} {P : Program}

theorem grownBy_none_trans {A B C : World} (h : A.grownBy B none) (k : B.grownBy C none) : A.grownBy C none :=
  ⟨k.os.trans h.os, k.tape.trans h.tape, k.output.trans h.output, Nat.le_trans h.size k.size,
    fun i hi hn => (k.block i (Nat.lt_of_lt_of_le hi h.size) (by simp)).trans (h.block i hi (by simp))⟩

structure KeepsT (T : Nat → Prop) (W W' : World) : Prop where
  size : W.heap.size ≤ W'.heap.size
  same : ∀ r, T r → r < W.heap.size → W'.heap[r]? = W.heap[r]?

def AbidesT {β : Type} (T : Nat → Prop) (J : β → World → Prop) : Prop :=
  ∀ s W W' row, J s W → W.grownBy W' row → (∀ r, row = some r → T r) → J s W'

theorem AbidesT.putObj {β : Type} {T : Nat → Prop} {J : β → World → Prop} (h : AbidesT T J) {s : β} {W : World} {l : Nat} (o : Obj) (hs : J s W) (hl : T l) : J s (W.putObj l o) :=
  h s W _ (some l) hs (grownBy_putObj' W l o) (fun r e => by cases e; exact hl)
def SeqT {α : Type} (F : Fence) (n : Nat) (P : Program) (g : Nat) (lb : Array Value) (encs : α → Array Value) (L : List α) (T : Nat → Prop) (k : Nat) (W : World) : Prop :=
  ∀ (l : Nat) (J Jx : Nat → World → Prop), AbidesT T J → AbidesT T Jx →
    (∀ i x W1, L[i]? = some x → J i W1 → W.heap.size + k ≤ W1.heap.size → YieldAt F (n - 1) P l (encs x) W1 fun e W' =>
      (e = .returned (.bool true) ∧ J (i + 1) W' ∧ KeepsT T W1 W') ∨ (e = .returned (.bool false) ∧ Jx (i + 1) W' ∧ KeepsT T W1 W')) →
    J 0 W →
    CallsIn F n P g (#[.func (.yield l) #[] #[]] ++ lb) W fun e W' => (∃ v, e = .returned v) ∧ (J L.length W' ∨ ∃ i, i ≤ L.length ∧ Jx i W')

def postT (T : Nat → Prop) (I : Nat → World → Prop) (Ix : Code → Nat → World → Prop) (i : Nat) (W : World) : Exit → Act → World → Prop
  | .normal, _, W' => KeepsT T W W' ∧ I (i + 1) W'
  | .ret, _, W' => KeepsT T W W' ∧ Ix .ret (i + 1) W'
  | .exit id, _, W' => KeepsT T W W' ∧ Ix (.exit id) (i + 1) W'
  | .goto t, _, W' => KeepsT T W W' ∧ Ix (.goto t) (i + 1) W'
  | _, _, _ => False

def Span (C : Nat → Prop) (lo hi : Nat) (r : Nat) : Prop := C r ∨ (lo ≤ r ∧ r < hi)

theorem wpIn_rangeFunc_T {α : Type} {g : Operand} {ps : Array Tmp} {assign body : Code} {Q : Exit → Act → World → Prop} {a : Act} {w : World}
    (hro : F.round = none) (h1 : 1 ≤ n) {gf : Nat} {lb : Array Value} (hg : a.eval g = .func (.func gf) #[] lb) (hFg : F.fn gf)
    (eg : ∀ args w, (callFunc gf args).run P w = .ok (.enter gf args) w)
    {encs : α → Array Value} (L : List α) (C : Nat → Prop) (k : Nat) (hC : ∀ r, C r → r < w.heap.size)
    (hseq : ∀ W, w.grownBy W none → W.heap.size = w.heap.size + 2 → SeqT F (n - 1) P gf lb encs L (Span C (w.heap.size + 2) (w.heap.size + 2 + k)) k W)
    (hps : ∀ x, (encs x).size = ps.size)
    (I : Nat → World → Prop) (Ix : Code → Nat → World → Prop)
    (hI : AbidesT (Span C w.heap.size (w.heap.size + 2 + k)) I) (hIx : ∀ c, AbidesT (Span C w.heap.size (w.heap.size + 2 + k)) (Ix c)) (h0 : I 0 w) (a₁ : α → Act)
    (hassign : ∀ (l : Nat) (x : α) (W : World) (K : Act → World → Prop), K (a₁ x) W →
      assign.wpIn (F.inRound l) (n - 1 - 1) P (Exit.then K (fun _ _ _ => False)) { tmps := (ps.zip (encs x)).foldl (fun t (p, v) => t.setIfInBounds p v) a.tmps, defers := [] } W)
    (hbody : ∀ (l i : Nat) (x : α) (W : World), L[i]? = some x → I i W → w.heap.size + 2 + k ≤ W.heap.size →
      body.wpIn (F.inRound l) (n - 1 - 1) P (postT (Span C w.heap.size (w.heap.size + 2 + k)) I Ix i W) (a₁ x) W)
    (hdone : ∀ (D : Nat) (W : World), D = w.heap.size → I L.length W → W.heap[D]? = some (.deferred (some [])) →
      Q .normal { a with defers := { target := .collected D, args := #[] } :: a.defers } W)
    (hstop : ∀ (D : Nat) (c : Code) (i : Nat) (W : World), D = w.heap.size → i ≤ L.length → Ix c i W → W.heap[D]? = some (.deferred (some [])) →
      c.wpIn F n P Q { a with defers := { target := .collected D, args := #[] } :: a.defers } W) :
    (Code.rangeFunc g ps assign body).wpIn F n P Q a w := by
  refine wpIn_rangeFunc fun fn hfn => ?_
  rw [hro]
  let rec0 : LoopState → Option Code → Loop := fun st pe => { state := st, pending := pe, fn, tmps := a.tmps, params := ps, assign, body, defers := w.heap.size }
  obtain ⟨rc, hrc⟩ : ∃ rc, rc = rec0 := ⟨_, rfl⟩
  obtain ⟨W1, hW1⟩ : ∃ W1, (w.alloc (.deferred (some []))).alloc (.loop (rc .ready none)) = W1 := ⟨_, rfl⟩
  have hsz : W1.heap.size = w.heap.size + 2 := by rw [← hW1]; simp
  have hgr : w.grownBy W1 none := by rw [← hW1]; exact grownBy_none_trans (World.grownBy_alloc w _ none) (World.grownBy_alloc _ _ none)
  have hL1 : W1.heap[w.heap.size + 1]? = some (.loop (rc .ready none)) := by
    rw [← hW1]; have := World.alloc_heap_new (w.alloc (.deferred (some []))) (.loop (rc .ready none)); rwa [World.size_alloc] at this
  have hK1 : W1.heap[w.heap.size]? = some (.deferred (some [])) := by
    rw [← hW1]; exact (Below.heap_alloc _ _ _ (by simp)).trans (World.alloc_heap_new w _)
  refine ⟨w.heap.size + 1, [{ target := .collected w.heap.size, args := #[] }], W1, { target := .fn (.func gf) lb, args := #[.func (.yield (w.heap.size + 1)) #[] #[]] }, W1, gf,
    #[.func (.yield (w.heap.size + 1)) #[] #[]] ++ lb, W1, ?_, ?_, ?_, ?_, fun _ => h1, ?_⟩
  · rw [← hW1, hrc]; exact run_enterLoop_outer _ _ _ _ _
  · simp only [resolve, hg]
    simp [go_sem]
  · intro f' hf'; simp [Target.leads] at hf'; subst hf'; exact hFg
  · simp [invoke, go_sem, eg]
  · have hI1 : I 0 W1 := hI 0 w W1 none h0 hgr (fun r e => by cases e)
    have hsub : ∀ r, Span C (w.heap.size + 2) (w.heap.size + 2 + k) r → Span C w.heap.size (w.heap.size + 2 + k) r := fun r hr => hr.imp id (fun h => ⟨by omega, h.2⟩)
    have hne : ∀ r, Span C (w.heap.size + 2) (w.heap.size + 2 + k) r → r ≠ w.heap.size ∧ r ≠ w.heap.size + 1 := fun r hr => by
      rcases hr with hr | hr
      · have := hC r hr; omega
      · omega
    have hst : ∀ {A B : World} {row : Option Nat} {q : Nat} {o : Obj}, A.grownBy B row → (∀ r, row = some r → Span C (w.heap.size + 2) (w.heap.size + 2 + k) r) → (q = w.heap.size ∨ q = w.heap.size + 1) →
        A.heap[q]? = some o → B.heap[q]? = some o := fun {A B row q o} hg hr hq ho =>
      (hg.block q (Array.getElem?_eq_some_iff.1 ho).1 (fun e => by have := hne q (hr q e.symm); omega)).trans ho
    refine (hseq W1 hgr hsz (w.heap.size + 1)
      (fun i W => I i W ∧ W.heap[w.heap.size + 1]? = some (.loop (rc .ready none)) ∧ W.heap[w.heap.size]? = some (.deferred (some [])))
      (fun i W => ∃ c, Ix c i W ∧ W.heap[w.heap.size + 1]? = some (.loop (rc .done (some c))) ∧ W.heap[w.heap.size]? = some (.deferred (some [])))
      (fun s A B row hs hg' hr => ⟨hI s A B row hs.1 hg' (fun r e => hsub r (hr r e)), hst hg' hr (.inr rfl) hs.2.1, hst hg' hr (.inl rfl) hs.2.2⟩)
      (fun s A B row hs hg' hr => by
        obtain ⟨c, hc, hl, hk⟩ := hs
        exact ⟨c, hIx c s A B row hc hg' (fun r e => hsub r (hr r e)), hst hg' hr (.inr rfl) hl, hst hg' hr (.inl rfl) hk⟩)
      ?_ ⟨hI1, hL1, hK1⟩).mono ?_
    · rintro i x W hx ⟨hi, hl, hk⟩ hlen
      have hT0 : Span C w.heap.size (w.heap.size + 2 + k) w.heap.size := .inr ⟨Nat.le_refl _, by omega⟩
      have hT1 : Span C w.heap.size (w.heap.size + 2 + k) (w.heap.size + 1) := .inr ⟨by omega, by omega⟩
      have hlt : w.heap.size + 1 < W.heap.size := (Array.getElem?_eq_some_iff.1 hl).1
      have hy := run_yield (P := P) (args := encs x) hl (by rw [hrc]; exact hps x)
      rw [hrc] at hy
      refine ⟨fn, _, assign, body, hy, roundIn_of_wpIn hfn (hassign _ x W _ ?_)⟩
      clear hy
      refine ⟨_, run_beginRound hl (by rw [hrc]), ?_⟩
      obtain ⟨W2, hW2⟩ : ∃ W2, W.putObj (w.heap.size + 1) (.loop { rc .ready none with state := .busy }) = W2 := ⟨_, rfl⟩
      rw [hW2]
      have hl2 : W2.heap[w.heap.size + 1]? = some (.loop { rc .ready none with state := .busy }) := by rw [← hW2]; exact World.putObj_heap_same hlt
      have hk2 : W2.heap[w.heap.size]? = some (.deferred (some [])) := by rw [← hW2]; exact (World.putObj_heap_other (by omega)).trans hk
      have hsz2 : W2.heap.size = W.heap.size := by rw [← hW2]; simp
      have hkeep : ∀ (W3 : World) (o : Obj), KeepsT (Span C w.heap.size (w.heap.size + 2 + k)) W2 W3 →
          KeepsT (Span C (w.heap.size + 2) (w.heap.size + 2 + k)) W (W3.putObj (w.heap.size + 1) o) := fun W3 o h3 =>
        ⟨by have := h3.size; simp; omega, fun r hr hrl => by
          have hn := hne r hr
          rw [World.putObj_heap_other hn.2, h3.same r (hsub r hr) (by omega), ← hW2, World.putObj_heap_other hn.2]⟩
      refine wpIn_mono (hbody _ i x W2 hx (by rw [← hW2]; exact hI.putObj _ hi hT1) (by omega)) ?_
      have fin : ∀ (jump : Option Code) (W3 : World), KeepsT (Span C w.heap.size (w.heap.size + 2 + k)) W2 W3 →
          (Instr.endRound (w.heap.size + 1) jump).run P W3 = .ok (.bool jump.isNone) (W3.putObj (w.heap.size + 1) (.loop (rc (if jump.isNone then .ready else .done) jump))) ∧
          (W3.putObj (w.heap.size + 1) (.loop (rc (if jump.isNone then .ready else .done) jump))).heap[w.heap.size + 1]? = some (.loop (rc (if jump.isNone then .ready else .done) jump)) ∧
          (W3.putObj (w.heap.size + 1) (.loop (rc (if jump.isNone then .ready else .done) jump))).heap[w.heap.size]? = some (.deferred (some [])) := fun jump W3 h3 => by
        have hl3 : W3.heap[w.heap.size + 1]? = some (.loop { rc .ready none with state := .busy }) := (h3.same _ hT1 (by omega)).trans hl2
        have := run_endRound (P := P) jump hl3
        rw [hrc] at this ⊢
        exact ⟨this, World.putObj_heap_same (Array.getElem?_eq_some_iff.1 hl3).1, (World.putObj_heap_other (by omega)).trans ((h3.same _ hT0 (by omega)).trans hk2)⟩
      rintro e a3 W3 hp
      cases e with
      | normal =>
        obtain ⟨hk3, hi3⟩ := hp
        obtain ⟨hr, hl4, hk4⟩ := fin none W3 hk3
        exact ⟨_, _, hr, .inl ⟨rfl, ⟨hI.putObj _ hi3 hT1, hl4, hk4⟩, hkeep W3 _ hk3⟩⟩
      | ret =>
        obtain ⟨hk3, hi3⟩ := hp
        obtain ⟨hr, hl4, hk4⟩ := fin (some .ret) W3 hk3
        exact ⟨_, _, hr, .inr ⟨rfl, ⟨.ret, (hIx _).putObj _ hi3 hT1, hl4, hk4⟩, hkeep W3 _ hk3⟩⟩
      | exit id =>
        obtain ⟨hk3, hi3⟩ := hp
        obtain ⟨hr, hl4, hk4⟩ := fin (some (.exit id)) W3 hk3
        exact ⟨_, _, hr, .inr ⟨rfl, ⟨.exit id, (hIx _).putObj _ hi3 hT1, hl4, hk4⟩, hkeep W3 _ hk3⟩⟩
      | goto t =>
        obtain ⟨hk3, hi3⟩ := hp
        obtain ⟨hr, hl4, hk4⟩ := fin (some (.goto t)) W3 hk3
        exact ⟨_, _, hr, .inr ⟨rfl, ⟨.goto t, (hIx _).putObj _ hi3 hT1, hl4, hk4⟩, hkeep W3 _ hk3⟩⟩
      | panic ch => exact hp.elim
      | outgrown => exact hp.elim
    · have hT1 : Span C w.heap.size (w.heap.size + 2 + k) (w.heap.size + 1) := .inr ⟨by omega, by omega⟩
      rintro e W2 ⟨⟨v, rfl⟩, (⟨hi, hl, hk⟩ | ⟨i, hle, c, hi, hl, hk⟩)⟩
      · exact ⟨none, _, by have := run_endLoop (P := P) hl (by rw [hrc]; simp [rec0]); rw [hrc] at this; exact this, hdone _ _ rfl (hI.putObj _ hi hT1) ((World.putObj_heap_other (by omega)).trans hk)⟩
      · exact ⟨some c, _, by have := run_endLoop (P := P) hl (by rw [hrc]; simp [rec0]); rw [hrc] at this; exact this, hstop _ c i _ rfl hle ((hIx c).putObj _ hi hT1) ((World.putObj_heap_other (by omega)).trans hk)⟩
end Go.Proofs.YtefokfbgpfcbkaaGreat
namespace Go.Proofs.YtefokfbgpfcbkaaGreat
set_option linter.unusedVariables false
set_option linter.unusedSimpArgs false
open Go.RowKit
variable {F : Fence} {n : Nat} {P : Program}

def AbidesM (R : Nat → Prop) (J : Nat → (Nat → Prop) → World → Prop) : Prop :=
  ∀ i M W W' row, J i M W → W.grownBy W' row → (∀ r, row = some r → ¬ M r ∧ ¬ R r) → J i M W'
theorem AbidesM.putObj {R : Nat → Prop} {J : Nat → (Nat → Prop) → World → Prop} (h : AbidesM R J) {i : Nat} {M : Nat → Prop} {W : World} {l : Nat} (o : Obj) (hs : J i M W) (hl : ¬ M l) (hr : ¬ R l) : J i M (W.putObj l o) :=
  h i M W _ (some l) hs (grownBy_putObj' W l o) (fun r e => by cases e; exact ⟨hl, hr⟩)
structure KeepsM (M : Nat → Prop) (W : World) (M' : Nat → Prop) (W' : World) : Prop where
  size : W.heap.size ≤ W'.heap.size
  same : ∀ r, ¬ M r → r < W.heap.size → W'.heap[r]? = W.heap[r]?
  more : ∀ r, M' r → M r ∨ W.heap.size ≤ r
theorem KeepsM.refl (M : Nat → Prop) (W : World) : KeepsM M W M W := ⟨Nat.le_refl _, fun _ _ _ => rfl, fun _ h => .inl h⟩
theorem KeepsM.trans {M M1 M2 : Nat → Prop} {A B C : World} (h : KeepsM M A M1 B) (k : KeepsM M1 B M2 C) : KeepsM M A M2 C :=
  ⟨Nat.le_trans h.size k.size, fun r hr hl => (k.same r (fun h1 => (h.more r h1).elim hr (fun h2 => by omega)) (Nat.lt_of_lt_of_le hl h.size)).trans (h.same r hr hl),
   fun r hr => (k.more r hr).elim (h.more r) (fun h2 => .inr (Nat.le_trans h.size h2))⟩
theorem KeepsM.grown {M : Nat → Prop} {W W' : World} {row : Option Nat} (hg : W.grownBy W' row) (hr : ∀ r, row = some r → M r ∨ W.heap.size ≤ r) : KeepsM M W M W' :=
  ⟨hg.size, fun r hM hl => hg.block r hl (fun e => (hr r e.symm).elim hM (fun h => by omega)), fun _ h => .inl h⟩
def SeqM {α : Type} (F : Fence) (n : Nat) (P : Program) (g : Nat) (lb : Array Value) (encs : α → Array Value) (L : List α) (R T : Nat → Prop) (W : World) : Prop :=
  ∀ (l : Nat) (J Jx : Nat → (Nat → Prop) → World → Prop), AbidesM R J → AbidesM R Jx → (∀ i M V, J i M V → ∀ r, M r → r < V.heap.size ∧ ¬ R r) →
    (∀ i x M V, L[i]? = some x → J i M V → W.heap.size ≤ V.heap.size → YieldAt F (n - 1) P l (encs x) V fun e W' =>
      ∃ M', KeepsM M V M' W' ∧ ((e = .returned (.bool true) ∧ J (i + 1) M' W') ∨ (e = .returned (.bool false) ∧ Jx (i + 1) M' W'))) →
    ∀ M0, (∀ r, T r → ¬ M0 r ∧ ¬ R r) → J 0 M0 W →
    CallsIn F n P g (#[.func (.yield l) #[] #[]] ++ lb) W fun e W' => (∃ v, e = .returned v) ∧ ∃ M', J L.length M' W' ∨ ∃ i, i ≤ L.length ∧ Jx i M' W'
def postM (I : Nat → (Nat → Prop) → World → Prop) (Ix : Code → Nat → (Nat → Prop) → World → Prop) (i : Nat) (M : Nat → Prop) (W : World) : Exit → Act → World → Prop
  | .normal, _, W' => ∃ M', KeepsM M W M' W' ∧ I (i + 1) M' W'
  | .ret, _, W' => ∃ M', KeepsM M W M' W' ∧ Ix .ret (i + 1) M' W'
  | .exit id, _, W' => ∃ M', KeepsM M W M' W' ∧ Ix (.exit id) (i + 1) M' W'
  | .goto t, _, W' => ∃ M', KeepsM M W M' W' ∧ Ix (.goto t) (i + 1) M' W'
  | _, _, _ => False
theorem wpIn_rangeFunc_MA {α : Type} {g : Operand} {ps : Array Tmp} {assign body : Code} {Q : Exit → Act → World → Prop} {a : Act} {w : World}
    (hro : F.round = none) (h1 : 1 ≤ n) {gf : Nat} {lb : Array Value} (hg : a.eval g = .func (.func gf) #[] lb) (hFg : F.fn gf)
    (eg : ∀ args w, (callFunc gf args).run P w = .ok (.enter gf args) w)
    {encs : α → Array Value} (L : List α) (R T : Nat → Prop) (hR : ∀ r, R r → r < w.heap.size)
    (hseq : ∀ W, w.grownBy W none → W.heap.size = w.heap.size + 2 → SeqM F (n - 1) P gf lb encs L R T W)
    (hps : ∀ x, (encs x).size = ps.size)
    (I : Nat → (Nat → Prop) → World → Prop) (Ix : Code → Nat → (Nat → Prop) → World → Prop)
    (hI : AbidesM R I) (hIx : ∀ c, AbidesM R (Ix c)) (hM : ∀ i M V, I i M V → ∀ r, M r → r < V.heap.size ∧ ¬ R r) (M0 : Nat → Prop) (hT : ∀ r, T r → r < w.heap.size ∧ ¬ M0 r ∧ ¬ R r) (h0 : I 0 M0 w)
    (B : Nat → α → (Nat → Prop) → Act → World → Prop)
    (hB : ∀ i x M a' V V' row, B i x M a' V → V.grownBy V' row → (∀ r, row = some r → ¬ M r ∧ ¬ R r) → B i x M a' V')
    (hassign : ∀ (l i : Nat) (x : α) (M : Nat → Prop) (W : World) (K : Act → World → Prop), L[i]? = some x → I i M W → w.heap.size + 2 ≤ W.heap.size →
      (∀ M' a' W', W.grownBy W' none → (∀ r, M' r → M r ∨ W.heap.size ≤ r) → B i x M' a' W' → K a' W') →
      assign.wpIn (F.inRound l) (n - 1 - 1) P (Exit.then K (fun _ _ _ => False)) { tmps := (ps.zip (encs x)).foldl (fun t (p, v) => t.setIfInBounds p v) a.tmps, defers := [] } W)
    (hbody : ∀ (l i : Nat) (x : α) (M : Nat → Prop) (a' : Act) (W : World), L[i]? = some x → B i x M a' W → w.heap.size + 2 ≤ W.heap.size →
      body.wpIn (F.inRound l) (n - 1 - 1) P (postM I Ix i M W) a' W)
    (hdone : ∀ (D : Nat) (M : Nat → Prop) (W : World), D = w.heap.size → ¬ M D → I L.length M W → W.heap[D]? = some (.deferred (some [])) →
      Q .normal { a with defers := { target := .collected D, args := #[] } :: a.defers } W)
    (hstop : ∀ (D : Nat) (c : Code) (i : Nat) (M : Nat → Prop) (W : World), D = w.heap.size → ¬ M D → i ≤ L.length → Ix c i M W → W.heap[D]? = some (.deferred (some [])) →
      c.wpIn F n P Q { a with defers := { target := .collected D, args := #[] } :: a.defers } W) :
    (Code.rangeFunc g ps assign body).wpIn F n P Q a w := by
  refine wpIn_rangeFunc fun fn hfn => ?_
  rw [hro]
  let rec0 : LoopState → Option Code → Loop := fun st pe => { state := st, pending := pe, fn, tmps := a.tmps, params := ps, assign, body, defers := w.heap.size }
  obtain ⟨rc, hrc⟩ : ∃ rc, rc = rec0 := ⟨_, rfl⟩
  obtain ⟨W1, hW1⟩ : ∃ W1, (w.alloc (.deferred (some []))).alloc (.loop (rc .ready none)) = W1 := ⟨_, rfl⟩
  have hsz : W1.heap.size = w.heap.size + 2 := by rw [← hW1]; simp
  have hgr : w.grownBy W1 none := by rw [← hW1]; exact grownBy_none_trans (World.grownBy_alloc w _ none) (World.grownBy_alloc _ _ none)
  have hL1 : W1.heap[w.heap.size + 1]? = some (.loop (rc .ready none)) := by
    rw [← hW1]; have := World.alloc_heap_new (w.alloc (.deferred (some []))) (.loop (rc .ready none)); rwa [World.size_alloc] at this
  have hK1 : W1.heap[w.heap.size]? = some (.deferred (some [])) := by
    rw [← hW1]; exact (Below.heap_alloc _ _ _ (by simp)).trans (World.alloc_heap_new w _)
  obtain ⟨D, hD⟩ : ∃ D, w.heap.size = D := ⟨_, rfl⟩
  rw [hD] at hL1 hK1 hsz
  have hRD : ∀ r, R r → r ≠ D ∧ r ≠ D + 1 := fun r hr => by have := hR r hr; omega
  refine ⟨w.heap.size + 1, [{ target := .collected w.heap.size, args := #[] }], W1, { target := .fn (.func gf) lb, args := #[.func (.yield (w.heap.size + 1)) #[] #[]] }, W1, gf,
    #[.func (.yield (w.heap.size + 1)) #[] #[]] ++ lb, W1, ?_, ?_, ?_, ?_, fun _ => h1, ?_⟩
  · rw [← hW1, hrc]; exact run_enterLoop_outer _ _ _ _ _
  · simp only [resolve, hg]
    simp [go_sem]
  · intro f' hf'; simp [Target.leads] at hf'; subst hf'; exact hFg
  · simp [invoke, go_sem, eg]
  · have hI1 : I 0 M0 W1 := hI 0 M0 w W1 none h0 hgr (fun r e => by cases e)
    rw [hD]
    have hst : ∀ {A B : World} {M : Nat → Prop} {row : Option Nat} {q : Nat} {o : Obj}, A.grownBy B row → (∀ r, row = some r → ¬ (M r ∨ r = D ∨ r = D + 1) ∧ ¬ R r) → (q = D ∨ q = D + 1) →
        A.heap[q]? = some o → B.heap[q]? = some o := fun {A B M row q o} hg hr hq ho =>
      (hg.block q (Array.getElem?_eq_some_iff.1 ho).1 (fun e => (hr q e.symm).1 (.inr hq))).trans ho
    refine (hseq W1 hgr (by omega) (D + 1)
      (fun i M' W => ∃ M, (M' = fun r => M r ∨ r = D ∨ r = D + 1) ∧ ¬ M D ∧ ¬ M (D + 1) ∧ I i M W ∧ W.heap[D + 1]? = some (.loop (rc .ready none)) ∧ W.heap[D]? = some (.deferred (some [])))
      (fun i M' W => ∃ M, (M' = fun r => M r ∨ r = D ∨ r = D + 1) ∧ ¬ M D ∧ ¬ M (D + 1) ∧ ∃ c, Ix c i M W ∧ W.heap[D + 1]? = some (.loop (rc .done (some c))) ∧ W.heap[D]? = some (.deferred (some [])))
      ?_ ?_ ?_ ?_ (fun r => M0 r ∨ r = D ∨ r = D + 1) ?_ ⟨M0, rfl, fun h => by have := (hM 0 M0 w h0 _ h).1; omega, fun h => by have := (hM 0 M0 w h0 _ h).1; omega, hI1, hL1, hK1⟩).mono ?_
    · rintro i M' A B row ⟨M, rfl, hn1, hn2, hs, hl, hk⟩ hg' hr
      exact ⟨M, rfl, hn1, hn2, hI i M A B row hs hg' (fun r e => ⟨fun h => (hr r e).1 (.inl h), (hr r e).2⟩), hst hg' hr (.inr rfl) hl, hst hg' hr (.inl rfl) hk⟩
    · rintro i M' A B row ⟨M, rfl, hn1, hn2, c, hs, hl, hk⟩ hg' hr
      exact ⟨M, rfl, hn1, hn2, c, hIx c i M A B row hs hg' (fun r e => ⟨fun h => (hr r e).1 (.inl h), (hr r e).2⟩), hst hg' hr (.inr rfl) hl, hst hg' hr (.inl rfl) hk⟩
    · rintro i M' V ⟨M, rfl, hn1, hn2, hs, hl, hk⟩ r hr
      have e1 := (Array.getElem?_eq_some_iff.1 hl).1
      rcases hr with hr | rfl | rfl
      · exact hM i M V hs r hr
      · exact ⟨by omega, fun h => (hRD _ h).1 rfl⟩
      · exact ⟨e1, fun h => (hRD _ h).2 rfl⟩
    · rintro i x M' W hx ⟨M, rfl, hn1, hn2, hi, hl, hk⟩ hlen
      have hlt : D + 1 < W.heap.size := (Array.getElem?_eq_some_iff.1 hl).1
      have hy := run_yield (P := P) (args := encs x) hl (by rw [hrc]; exact hps x)
      rw [hrc] at hy
      refine ⟨fn, _, assign, body, hy, roundIn_of_wpIn hfn (hassign _ i x M W _ hx hi (by omega) ?_)⟩
      clear hy
      intro MB a' WB hgB hmB hBB
      have hslB : W.heap.size ≤ WB.heap.size := hgB.size
      have hlB : WB.heap[D + 1]? = some (.loop (rc .ready none)) := (hgB.block _ hlt (by simp)).trans hl
      have hkB : WB.heap[D]? = some (.deferred (some [])) := (hgB.block _ (by omega) (by simp)).trans hk
      have hnB1 : ¬ MB D := fun h => (hmB _ h).elim hn1 (by omega)
      have hnB2 : ¬ MB (D + 1) := fun h => (hmB _ h).elim hn2 (by omega)
      have hltB : D + 1 < WB.heap.size := by omega
      refine ⟨_, run_beginRound hlB (by rw [hrc]), ?_⟩
      obtain ⟨W2, hW2⟩ : ∃ W2, WB.putObj (D + 1) (.loop { rc .ready none with state := .busy }) = W2 := ⟨_, rfl⟩
      rw [hW2]
      have hl2 : W2.heap[D + 1]? = some (.loop { rc .ready none with state := .busy }) := by rw [← hW2]; exact World.putObj_heap_same hltB
      have hk2 : W2.heap[D]? = some (.deferred (some [])) := by rw [← hW2]; exact (World.putObj_heap_other (by omega)).trans hkB
      have hsz2 : W2.heap.size = WB.heap.size := by rw [← hW2]; simp
      have hRl : ¬ R (D + 1) := fun h => (hRD _ h).2 rfl
      have hkeep : ∀ (M3 : Nat → Prop) (W3 : World) (o : Obj), KeepsM MB W2 M3 W3 →
          KeepsM (fun r => M r ∨ r = D ∨ r = D + 1) W (fun r => M3 r ∨ r = D ∨ r = D + 1) (W3.putObj (D + 1) o) := fun M3 W3 o h3 =>
        ⟨by have := h3.size; simp; omega, fun r hr hrl => by
          rw [World.putObj_heap_other (fun e => hr (.inr (.inr e))), h3.same r (fun h => (hmB r h).elim (fun h => hr (.inl h)) (by omega)) (by omega), ← hW2, World.putObj_heap_other (fun e => hr (.inr (.inr e))), hgB.block r hrl (by simp)],
         fun r hr => by
          rcases hr with hr | hr
          · rcases h3.more r hr with h | h
            · exact (hmB r h).imp .inl id
            · exact .inr (by omega)
          · exact .inl (.inr hr)⟩
      refine wpIn_mono (hbody _ i x MB a' W2 hx (by rw [← hW2]; exact hB i x MB a' WB _ (some (D + 1)) hBB (grownBy_putObj' WB (D + 1) _) (fun r e => by cases e; exact ⟨hnB2, hRl⟩)) (by omega)) ?_
      have fin : ∀ (jump : Option Code) (M3 : Nat → Prop) (W3 : World), KeepsM MB W2 M3 W3 →
          (Instr.endRound (D + 1) jump).run P W3 = .ok (.bool jump.isNone) (W3.putObj (D + 1) (.loop (rc (if jump.isNone then .ready else .done) jump))) ∧
          (W3.putObj (D + 1) (.loop (rc (if jump.isNone then .ready else .done) jump))).heap[D + 1]? = some (.loop (rc (if jump.isNone then .ready else .done) jump)) ∧
          (W3.putObj (D + 1) (.loop (rc (if jump.isNone then .ready else .done) jump))).heap[D]? = some (.deferred (some [])) ∧ ¬ M3 D ∧ ¬ M3 (D + 1) := fun jump M3 W3 h3 => by
        have hl3 : W3.heap[D + 1]? = some (.loop { rc .ready none with state := .busy }) := (h3.same _ hnB2 (by omega)).trans hl2
        have := run_endRound (P := P) jump hl3
        rw [hrc] at this ⊢
        exact ⟨this, World.putObj_heap_same (Array.getElem?_eq_some_iff.1 hl3).1, (World.putObj_heap_other (by omega)).trans ((h3.same _ hnB1 (by omega)).trans hk2), fun h => (h3.more _ h).elim hnB1 (by omega), fun h => (h3.more _ h).elim hnB2 (by omega)⟩
      rintro e a3 W3 hp
      cases e with
      | normal =>
        obtain ⟨M3, hk3, hi3⟩ := hp
        obtain ⟨hr, hl4, hk4, hn3, hn4⟩ := fin none M3 W3 hk3
        exact ⟨_, _, hr, _, hkeep M3 W3 _ hk3, .inl ⟨rfl, M3, rfl, hn3, hn4, hI.putObj _ hi3 hn4 hRl, hl4, hk4⟩⟩
      | ret =>
        obtain ⟨M3, hk3, hi3⟩ := hp
        obtain ⟨hr, hl4, hk4, hn3, hn4⟩ := fin (some .ret) M3 W3 hk3
        exact ⟨_, _, hr, _, hkeep M3 W3 _ hk3, .inr ⟨rfl, M3, rfl, hn3, hn4, .ret, (hIx _).putObj _ hi3 hn4 hRl, hl4, hk4⟩⟩
      | exit id =>
        obtain ⟨M3, hk3, hi3⟩ := hp
        obtain ⟨hr, hl4, hk4, hn3, hn4⟩ := fin (some (.exit id)) M3 W3 hk3
        exact ⟨_, _, hr, _, hkeep M3 W3 _ hk3, .inr ⟨rfl, M3, rfl, hn3, hn4, .exit id, (hIx _).putObj _ hi3 hn4 hRl, hl4, hk4⟩⟩
      | goto t =>
        obtain ⟨M3, hk3, hi3⟩ := hp
        obtain ⟨hr, hl4, hk4, hn3, hn4⟩ := fin (some (.goto t)) M3 W3 hk3
        exact ⟨_, _, hr, _, hkeep M3 W3 _ hk3, .inr ⟨rfl, M3, rfl, hn3, hn4, .goto t, (hIx _).putObj _ hi3 hn4 hRl, hl4, hk4⟩⟩
      | panic ch => exact hp.elim
      | outgrown => exact hp.elim
    · intro r hr
      have h3 := hT r hr
      refine ⟨?_, h3.2.2⟩
      rintro (h | h | h)
      · exact h3.2.1 h
      · omega
      · omega
    · have hRl : ¬ R (D + 1) := fun h => (hRD _ h).2 rfl
      rintro e W2 ⟨⟨v, rfl⟩, M', (⟨M, rfl, hn1, hn2, hi, hl, hk⟩ | ⟨i, hle, M, rfl, hn1, hn2, c, hi, hl, hk⟩)⟩
      · exact ⟨none, _, by have := run_endLoop (P := P) hl (by rw [hrc]; simp [rec0]); rw [hrc] at this; exact this, by rw [hD] at hdone; exact hdone D M _ rfl hn1 (hI.putObj _ hi hn2 hRl) ((World.putObj_heap_other (by omega)).trans hk)⟩
      · exact ⟨some c, _, by have := run_endLoop (P := P) hl (by rw [hrc]; simp [rec0]); rw [hrc] at this; exact this, by rw [hD] at hstop; exact hstop D c i M _ rfl hn1 hle ((hIx c).putObj _ hi hn2 hRl) ((World.putObj_heap_other (by omega)).trans hk)⟩
theorem wpIn_rangeFunc_M {α : Type} {g : Operand} {ps : Array Tmp} {assign body : Code} {Q : Exit → Act → World → Prop} {a : Act} {w : World}
    (hro : F.round = none) (h1 : 1 ≤ n) {gf : Nat} {lb : Array Value} (hg : a.eval g = .func (.func gf) #[] lb) (hFg : F.fn gf)
    (eg : ∀ args w, (callFunc gf args).run P w = .ok (.enter gf args) w)
    {encs : α → Array Value} (L : List α) (R T : Nat → Prop) (hR : ∀ r, R r → r < w.heap.size)
    (hseq : ∀ W, w.grownBy W none → W.heap.size = w.heap.size + 2 → SeqM F (n - 1) P gf lb encs L R T W)
    (hps : ∀ x, (encs x).size = ps.size)
    (I : Nat → (Nat → Prop) → World → Prop) (Ix : Code → Nat → (Nat → Prop) → World → Prop)
    (hI : AbidesM R I) (hIx : ∀ c, AbidesM R (Ix c)) (hM : ∀ i M V, I i M V → ∀ r, M r → r < V.heap.size ∧ ¬ R r) (M0 : Nat → Prop) (hT : ∀ r, T r → r < w.heap.size ∧ ¬ M0 r ∧ ¬ R r) (h0 : I 0 M0 w) (a₁ : α → Act)
    (hassign : ∀ (l : Nat) (x : α) (W : World) (K : Act → World → Prop), K (a₁ x) W →
      assign.wpIn (F.inRound l) (n - 1 - 1) P (Exit.then K (fun _ _ _ => False)) { tmps := (ps.zip (encs x)).foldl (fun t (p, v) => t.setIfInBounds p v) a.tmps, defers := [] } W)
    (hbody : ∀ (l i : Nat) (x : α) (M : Nat → Prop) (W : World), L[i]? = some x → I i M W → w.heap.size + 2 ≤ W.heap.size →
      body.wpIn (F.inRound l) (n - 1 - 1) P (postM I Ix i M W) (a₁ x) W)
    (hdone : ∀ (D : Nat) (M : Nat → Prop) (W : World), D = w.heap.size → ¬ M D → I L.length M W → W.heap[D]? = some (.deferred (some [])) →
      Q .normal { a with defers := { target := .collected D, args := #[] } :: a.defers } W)
    (hstop : ∀ (D : Nat) (c : Code) (i : Nat) (M : Nat → Prop) (W : World), D = w.heap.size → ¬ M D → i ≤ L.length → Ix c i M W → W.heap[D]? = some (.deferred (some [])) →
      c.wpIn F n P Q { a with defers := { target := .collected D, args := #[] } :: a.defers } W) :
    (Code.rangeFunc g ps assign body).wpIn F n P Q a w :=
  wpIn_rangeFunc_MA hro h1 hg hFg eg L R T hR hseq hps I Ix hI hIx hM M0 hT h0 (fun i x M a' V => a' = a₁ x ∧ I i M V)
    (fun i x M a' V V' row h hg hr => ⟨h.1, hI i M V V' row h.2 hg hr⟩)
    (fun l i x M W K hx hi hs hK => hassign l x W K (hK M _ W ⟨rfl, rfl, rfl, Nat.le_refl _, fun _ _ _ => rfl⟩ (fun r h => .inl h) ⟨rfl, hi⟩))
    (fun l i x M a' W hx hb hs => by rw [hb.1]; exact hbody l i x M W hx hb.2 hs) hdone hstop
end Go.Proofs.YtefokfbgpfcbkaaGreat
namespace Go.Proofs.YtefokfbgpfcbkaaGreat
set_option linter.unusedVariables false
set_option linter.unusedSimpArgs false
open Go.RowKit
variable {F : Fence} {n : Nat} {P : Program}
def SeqX {α : Type} (F : Fence) (n : Nat) (P : Program) (g : Nat) (lb : Array Value) (encs : α → Array Value) (L : List α) (G : Nat → World → Prop) (R T : Nat → Prop) (W : World) : Prop :=
  ∀ (l : Nat) (J Jx : Nat → (Nat → Prop) → World → Prop), AbidesM R J → AbidesM R Jx → (∀ i M V, J i M V → ∀ r, M r → r < V.heap.size ∧ ¬ R r) →
    (∀ i x M V, L[i]? = some x → J i M V → W.heap.size ≤ V.heap.size → YieldAt F (n - 1) P l (encs x) V fun e W' =>
      ∃ M', KeepsM M V M' W' ∧ ((e = .returned (.bool true) ∧ J (i + 1) M' W') ∨ (e = .returned (.bool false) ∧ Jx (i + 1) M' W'))) →
    (∀ i M V, J i M V → G i V) →
    ∀ M0, (∀ r, T r → ¬ M0 r ∧ ¬ R r) → J 0 M0 W →
    CallsIn F n P g (#[.func (.yield l) #[] #[]] ++ lb) W fun e W' => (∃ v, e = .returned v) ∧ ∃ M', J L.length M' W' ∨ ∃ i, i ≤ L.length ∧ Jx i M' W'
theorem wpIn_rangeFunc_X {α : Type} {g : Operand} {ps : Array Tmp} {assign body : Code} {Q : Exit → Act → World → Prop} {a : Act} {w : World}
    (hro : F.round = none) (h1 : 1 ≤ n) {gf : Nat} {lb : Array Value} (hg : a.eval g = .func (.func gf) #[] lb) (hFg : F.fn gf)
    (eg : ∀ args w, (callFunc gf args).run P w = .ok (.enter gf args) w)
    {encs : α → Array Value} (L : List α) (G : Nat → World → Prop) (R T : Nat → Prop) (hR : ∀ r, R r → r < w.heap.size)
    (hseq : ∀ W, w.grownBy W none → W.heap.size = w.heap.size + 2 → SeqX F (n - 1) P gf lb encs L G R T W)
    (hps : ∀ x, (encs x).size = ps.size)
    (I : Nat → (Nat → Prop) → World → Prop) (Ix : Code → Nat → (Nat → Prop) → World → Prop)
    (hI : AbidesM R I) (hIx : ∀ c, AbidesM R (Ix c)) (hM : ∀ i M V, I i M V → ∀ r, M r → r < V.heap.size ∧ ¬ R r) (M0 : Nat → Prop) (hT : ∀ r, T r → r < w.heap.size ∧ ¬ M0 r ∧ ¬ R r) (h0 : I 0 M0 w)
    (B : Nat → α → (Nat → Prop) → Act → World → Prop)
    (hB : ∀ i x M a' V V' row, B i x M a' V → V.grownBy V' row → (∀ r, row = some r → ¬ M r ∧ ¬ R r) → B i x M a' V')
    (hassign : ∀ (l i : Nat) (x : α) (M : Nat → Prop) (W : World) (K : Act → World → Prop), L[i]? = some x → I i M W → w.heap.size + 2 ≤ W.heap.size →
      (∀ M' a' W', W.grownBy W' none → (∀ r, M' r → M r ∨ W.heap.size ≤ r) → B i x M' a' W' → K a' W') →
      assign.wpIn (F.inRound l) (n - 1 - 1) P (Exit.then K (fun _ _ _ => False)) { tmps := (ps.zip (encs x)).foldl (fun t (p, v) => t.setIfInBounds p v) a.tmps, defers := [] } W)
    (hbody : ∀ (l i : Nat) (x : α) (M : Nat → Prop) (a' : Act) (W : World), L[i]? = some x → B i x M a' W → w.heap.size + 2 ≤ W.heap.size →
      body.wpIn (F.inRound l) (n - 1 - 1) P (postM I Ix i M W) a' W)
    (hz : ∀ i M V, I i M V → G i V)
    (hdone : ∀ (D : Nat) (M : Nat → Prop) (W : World), D = w.heap.size → ¬ M D → I L.length M W → W.heap[D]? = some (.deferred (some [])) →
      Q .normal { a with defers := { target := .collected D, args := #[] } :: a.defers } W)
    (hstop : ∀ (D : Nat) (c : Code) (i : Nat) (M : Nat → Prop) (W : World), D = w.heap.size → ¬ M D → i ≤ L.length → Ix c i M W → W.heap[D]? = some (.deferred (some [])) →
      c.wpIn F n P Q { a with defers := { target := .collected D, args := #[] } :: a.defers } W) :
    (Code.rangeFunc g ps assign body).wpIn F n P Q a w := by
  refine wpIn_rangeFunc fun fn hfn => ?_
  rw [hro]
  let rec0 : LoopState → Option Code → Loop := fun st pe => { state := st, pending := pe, fn, tmps := a.tmps, params := ps, assign, body, defers := w.heap.size }
  obtain ⟨rc, hrc⟩ : ∃ rc, rc = rec0 := ⟨_, rfl⟩
  obtain ⟨W1, hW1⟩ : ∃ W1, (w.alloc (.deferred (some []))).alloc (.loop (rc .ready none)) = W1 := ⟨_, rfl⟩
  have hsz : W1.heap.size = w.heap.size + 2 := by rw [← hW1]; simp
  have hgr : w.grownBy W1 none := by rw [← hW1]; exact grownBy_none_trans (World.grownBy_alloc w _ none) (World.grownBy_alloc _ _ none)
  have hL1 : W1.heap[w.heap.size + 1]? = some (.loop (rc .ready none)) := by
    rw [← hW1]; have := World.alloc_heap_new (w.alloc (.deferred (some []))) (.loop (rc .ready none)); rwa [World.size_alloc] at this
  have hK1 : W1.heap[w.heap.size]? = some (.deferred (some [])) := by
    rw [← hW1]; exact (Below.heap_alloc _ _ _ (by simp)).trans (World.alloc_heap_new w _)
  obtain ⟨D, hD⟩ : ∃ D, w.heap.size = D := ⟨_, rfl⟩
  rw [hD] at hL1 hK1 hsz
  have hRD : ∀ r, R r → r ≠ D ∧ r ≠ D + 1 := fun r hr => by have := hR r hr; omega
  refine ⟨w.heap.size + 1, [{ target := .collected w.heap.size, args := #[] }], W1, { target := .fn (.func gf) lb, args := #[.func (.yield (w.heap.size + 1)) #[] #[]] }, W1, gf,
    #[.func (.yield (w.heap.size + 1)) #[] #[]] ++ lb, W1, ?_, ?_, ?_, ?_, fun _ => h1, ?_⟩
  · rw [← hW1, hrc]; exact run_enterLoop_outer _ _ _ _ _
  · simp only [resolve, hg]
    simp [go_sem]
  · intro f' hf'; simp [Target.leads] at hf'; subst hf'; exact hFg
  · simp [invoke, go_sem, eg]
  · have hI1 : I 0 M0 W1 := hI 0 M0 w W1 none h0 hgr (fun r e => by cases e)
    rw [hD]
    have hst : ∀ {A B : World} {M : Nat → Prop} {row : Option Nat} {q : Nat} {o : Obj}, A.grownBy B row → (∀ r, row = some r → ¬ (M r ∨ r = D ∨ r = D + 1) ∧ ¬ R r) → (q = D ∨ q = D + 1) →
        A.heap[q]? = some o → B.heap[q]? = some o := fun {A B M row q o} hg hr hq ho =>
      (hg.block q (Array.getElem?_eq_some_iff.1 ho).1 (fun e => (hr q e.symm).1 (.inr hq))).trans ho
    refine (hseq W1 hgr (by omega) (D + 1)
      (fun i M' W => ∃ M, (M' = fun r => M r ∨ r = D ∨ r = D + 1) ∧ ¬ M D ∧ ¬ M (D + 1) ∧ I i M W ∧ W.heap[D + 1]? = some (.loop (rc .ready none)) ∧ W.heap[D]? = some (.deferred (some [])))
      (fun i M' W => ∃ M, (M' = fun r => M r ∨ r = D ∨ r = D + 1) ∧ ¬ M D ∧ ¬ M (D + 1) ∧ ∃ c, Ix c i M W ∧ W.heap[D + 1]? = some (.loop (rc .done (some c))) ∧ W.heap[D]? = some (.deferred (some [])))
      ?_ ?_ ?_ ?_ (fun i M' V h => (by obtain ⟨M, rfl, _, _, hs, _⟩ := h; exact hz i M V hs)) (fun r => M0 r ∨ r = D ∨ r = D + 1) ?_ ⟨M0, rfl, fun h => by have := (hM 0 M0 w h0 _ h).1; omega, fun h => by have := (hM 0 M0 w h0 _ h).1; omega, hI1, hL1, hK1⟩).mono ?_
    · rintro i M' A B row ⟨M, rfl, hn1, hn2, hs, hl, hk⟩ hg' hr
      exact ⟨M, rfl, hn1, hn2, hI i M A B row hs hg' (fun r e => ⟨fun h => (hr r e).1 (.inl h), (hr r e).2⟩), hst hg' hr (.inr rfl) hl, hst hg' hr (.inl rfl) hk⟩
    · rintro i M' A B row ⟨M, rfl, hn1, hn2, c, hs, hl, hk⟩ hg' hr
      exact ⟨M, rfl, hn1, hn2, c, hIx c i M A B row hs hg' (fun r e => ⟨fun h => (hr r e).1 (.inl h), (hr r e).2⟩), hst hg' hr (.inr rfl) hl, hst hg' hr (.inl rfl) hk⟩
    · rintro i M' V ⟨M, rfl, hn1, hn2, hs, hl, hk⟩ r hr
      have e1 := (Array.getElem?_eq_some_iff.1 hl).1
      rcases hr with hr | rfl | rfl
      · exact hM i M V hs r hr
      · exact ⟨by omega, fun h => (hRD _ h).1 rfl⟩
      · exact ⟨e1, fun h => (hRD _ h).2 rfl⟩
    · rintro i x M' W hx ⟨M, rfl, hn1, hn2, hi, hl, hk⟩ hlen
      have hlt : D + 1 < W.heap.size := (Array.getElem?_eq_some_iff.1 hl).1
      have hy := run_yield (P := P) (args := encs x) hl (by rw [hrc]; exact hps x)
      rw [hrc] at hy
      refine ⟨fn, _, assign, body, hy, roundIn_of_wpIn hfn (hassign _ i x M W _ hx hi (by omega) ?_)⟩
      clear hy
      intro MB a' WB hgB hmB hBB
      have hslB : W.heap.size ≤ WB.heap.size := hgB.size
      have hlB : WB.heap[D + 1]? = some (.loop (rc .ready none)) := (hgB.block _ hlt (by simp)).trans hl
      have hkB : WB.heap[D]? = some (.deferred (some [])) := (hgB.block _ (by omega) (by simp)).trans hk
      have hnB1 : ¬ MB D := fun h => (hmB _ h).elim hn1 (by omega)
      have hnB2 : ¬ MB (D + 1) := fun h => (hmB _ h).elim hn2 (by omega)
      have hltB : D + 1 < WB.heap.size := by omega
      refine ⟨_, run_beginRound hlB (by rw [hrc]), ?_⟩
      obtain ⟨W2, hW2⟩ : ∃ W2, WB.putObj (D + 1) (.loop { rc .ready none with state := .busy }) = W2 := ⟨_, rfl⟩
      rw [hW2]
      have hl2 : W2.heap[D + 1]? = some (.loop { rc .ready none with state := .busy }) := by rw [← hW2]; exact World.putObj_heap_same hltB
      have hk2 : W2.heap[D]? = some (.deferred (some [])) := by rw [← hW2]; exact (World.putObj_heap_other (by omega)).trans hkB
      have hsz2 : W2.heap.size = WB.heap.size := by rw [← hW2]; simp
      have hRl : ¬ R (D + 1) := fun h => (hRD _ h).2 rfl
      have hkeep : ∀ (M3 : Nat → Prop) (W3 : World) (o : Obj), KeepsM MB W2 M3 W3 →
          KeepsM (fun r => M r ∨ r = D ∨ r = D + 1) W (fun r => M3 r ∨ r = D ∨ r = D + 1) (W3.putObj (D + 1) o) := fun M3 W3 o h3 =>
        ⟨by have := h3.size; simp; omega, fun r hr hrl => by
          rw [World.putObj_heap_other (fun e => hr (.inr (.inr e))), h3.same r (fun h => (hmB r h).elim (fun h => hr (.inl h)) (by omega)) (by omega), ← hW2, World.putObj_heap_other (fun e => hr (.inr (.inr e))), hgB.block r hrl (by simp)],
         fun r hr => by
          rcases hr with hr | hr
          · rcases h3.more r hr with h | h
            · exact (hmB r h).imp .inl id
            · exact .inr (by omega)
          · exact .inl (.inr hr)⟩
      refine wpIn_mono (hbody _ i x MB a' W2 hx (by rw [← hW2]; exact hB i x MB a' WB _ (some (D + 1)) hBB (grownBy_putObj' WB (D + 1) _) (fun r e => by cases e; exact ⟨hnB2, hRl⟩)) (by omega)) ?_
      have fin : ∀ (jump : Option Code) (M3 : Nat → Prop) (W3 : World), KeepsM MB W2 M3 W3 →
          (Instr.endRound (D + 1) jump).run P W3 = .ok (.bool jump.isNone) (W3.putObj (D + 1) (.loop (rc (if jump.isNone then .ready else .done) jump))) ∧
          (W3.putObj (D + 1) (.loop (rc (if jump.isNone then .ready else .done) jump))).heap[D + 1]? = some (.loop (rc (if jump.isNone then .ready else .done) jump)) ∧
          (W3.putObj (D + 1) (.loop (rc (if jump.isNone then .ready else .done) jump))).heap[D]? = some (.deferred (some [])) ∧ ¬ M3 D ∧ ¬ M3 (D + 1) := fun jump M3 W3 h3 => by
        have hl3 : W3.heap[D + 1]? = some (.loop { rc .ready none with state := .busy }) := (h3.same _ hnB2 (by omega)).trans hl2
        have := run_endRound (P := P) jump hl3
        rw [hrc] at this ⊢
        exact ⟨this, World.putObj_heap_same (Array.getElem?_eq_some_iff.1 hl3).1, (World.putObj_heap_other (by omega)).trans ((h3.same _ hnB1 (by omega)).trans hk2), fun h => (h3.more _ h).elim hnB1 (by omega), fun h => (h3.more _ h).elim hnB2 (by omega)⟩
      rintro e a3 W3 hp
      cases e with
      | normal =>
        obtain ⟨M3, hk3, hi3⟩ := hp
        obtain ⟨hr, hl4, hk4, hn3, hn4⟩ := fin none M3 W3 hk3
        exact ⟨_, _, hr, _, hkeep M3 W3 _ hk3, .inl ⟨rfl, M3, rfl, hn3, hn4, hI.putObj _ hi3 hn4 hRl, hl4, hk4⟩⟩
      | ret =>
        obtain ⟨M3, hk3, hi3⟩ := hp
        obtain ⟨hr, hl4, hk4, hn3, hn4⟩ := fin (some .ret) M3 W3 hk3
        exact ⟨_, _, hr, _, hkeep M3 W3 _ hk3, .inr ⟨rfl, M3, rfl, hn3, hn4, .ret, (hIx _).putObj _ hi3 hn4 hRl, hl4, hk4⟩⟩
      | exit id =>
        obtain ⟨M3, hk3, hi3⟩ := hp
        obtain ⟨hr, hl4, hk4, hn3, hn4⟩ := fin (some (.exit id)) M3 W3 hk3
        exact ⟨_, _, hr, _, hkeep M3 W3 _ hk3, .inr ⟨rfl, M3, rfl, hn3, hn4, .exit id, (hIx _).putObj _ hi3 hn4 hRl, hl4, hk4⟩⟩
      | goto t =>
        obtain ⟨M3, hk3, hi3⟩ := hp
        obtain ⟨hr, hl4, hk4, hn3, hn4⟩ := fin (some (.goto t)) M3 W3 hk3
        exact ⟨_, _, hr, _, hkeep M3 W3 _ hk3, .inr ⟨rfl, M3, rfl, hn3, hn4, .goto t, (hIx _).putObj _ hi3 hn4 hRl, hl4, hk4⟩⟩
      | panic ch => exact hp.elim
      | outgrown => exact hp.elim
    · intro r hr
      have h3 := hT r hr
      refine ⟨?_, h3.2.2⟩
      rintro (h | h | h)
      · exact h3.2.1 h
      · omega
      · omega
    · have hRl : ¬ R (D + 1) := fun h => (hRD _ h).2 rfl
      rintro e W2 ⟨⟨v, rfl⟩, M', (⟨M, rfl, hn1, hn2, hi, hl, hk⟩ | ⟨i, hle, M, rfl, hn1, hn2, c, hi, hl, hk⟩)⟩
      · exact ⟨none, _, by have := run_endLoop (P := P) hl (by rw [hrc]; simp [rec0]); rw [hrc] at this; exact this, by rw [hD] at hdone; exact hdone D M _ rfl hn1 (hI.putObj _ hi hn2 hRl) ((World.putObj_heap_other (by omega)).trans hk)⟩
      · exact ⟨some c, _, by have := run_endLoop (P := P) hl (by rw [hrc]; simp [rec0]); rw [hrc] at this; exact this, by rw [hD] at hstop; exact hstop D c i M _ rfl hn1 hle ((hIx c).putObj _ hi hn2 hRl) ((World.putObj_heap_other (by omega)).trans hk)⟩
end Go.Proofs.YtefokfbgpfcbkaaGreat
