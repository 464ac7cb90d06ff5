/- A range over a function whose iterator keeps cells of its own: which blocks are the iterator's is said ahead (T); the caller's invariant does not mind
   what becomes of them, the caller's round leaves them. -/
import Derived.RangeFuncNested
import Derived.RangeFuncBound
import Derived.RangeFuncCalls
import Derived.RangeFuncLeaves
import Derived.Shelf.Abstract
import Derived.Shelf.RegionOpen
import Derived.WalkKit
import Derived.OwnWalkIn
import Derived.TacticsInMore
import Derived.LoopNIn
import Derived.LoopIn
namespace Go.Proofs.YtbnheebblicgkaaDoor
set_option linter.unusedVariables false
set_option linter.unusedSimpArgs false
open Go.RowKit
variable {F : Fence} {n : Nat} {P : Program}

theorem grownBy_none_trans {A B C : World} (h : A.grownBy B none) (k : B.grownBy C none) : A.grownBy C none :=
  ⟨k.os.trans h.os, k.tape.trans h.tape, k.output.trans h.output, Nat.le_trans h.size k.size,
    fun i hi hn => (k.block i (Nat.lt_of_lt_of_le hi h.size) (by simp)).trans (h.block i hi (by simp))⟩

/-- The blocks of T lie as they lay. -/
structure KeepsT (T : Nat → Prop) (W W' : World) : Prop where
  size : W.heap.size ≤ W'.heap.size
  same : ∀ r, T r → r < W.heap.size → W'.heap[r]? = W.heap[r]?

theorem KeepsT.refl (T : Nat → Prop) (W : World) : KeepsT T W W := ⟨Nat.le_refl _, fun _ _ _ => rfl⟩
theorem KeepsT.trans {T : Nat → Prop} {A B C : World} (h : KeepsT T A B) (k : KeepsT T B C) : KeepsT T A C :=
  ⟨Nat.le_trans h.size k.size, fun r hr hl => (k.same r hr (Nat.lt_of_lt_of_le hl h.size)).trans (h.same r hr hl)⟩
theorem KeepsT.mono {T T' : Nat → Prop} {A B : World} (h : KeepsT T A B) (hs : ∀ r, T' r → T r) : KeepsT T' A B :=
  ⟨h.size, fun r hr hl => h.same r (hs r hr) hl⟩
theorem KeepsT.of_grownBy {T : Nat → Prop} {W W' : World} {row : Option Nat} (hg : W.grownBy W' row) (hr : ∀ r, row = some r → ¬ T r) : KeepsT T W W' :=
  ⟨hg.size, fun r hT hl => hg.block r hl (fun e => hr r e.symm hT)⟩
theorem KeepsT.alloc (T : Nat → Prop) (W : World) (o : Obj) : KeepsT T W (W.alloc o) := .of_grownBy (World.grownBy_alloc W o none) (fun r e => by cases e)
theorem KeepsT.drew (T : Nat → Prop) (W : World) : KeepsT T W W.drew := ⟨Nat.le_refl _, fun _ _ _ => rfl⟩

/-- A state of the caller's does not mind what becomes of the blocks of T. -/
def AbidesT {β : Type} (T : Nat → Prop) (J : β → World → Prop) : Prop :=
  ∀ s W W' row, J s W → W.grownBy W' row → (∀ r, row = some r → T r) → J s W'

theorem AbidesT.alloc {β : Type} {T : Nat → Prop} {J : β → World → Prop} (h : AbidesT T J) {s : β} {W : World} (o : Obj) (hs : J s W) : J s (W.alloc o) :=
  h s W _ none hs (World.grownBy_alloc W o none) (fun r e => by cases e)
theorem AbidesT.putObj {β : Type} {T : Nat → Prop} {J : β → World → Prop} (h : AbidesT T J) {s : β} {W : World} {l : Nat} (o : Obj) (hs : J s W) (hl : T l) : J s (W.putObj l o) :=
  h s W _ (some l) hs (grownBy_putObj' W l o) (fun r e => by cases e; exact hl)
theorem AbidesT.mono {β : Type} {T T' : Nat → Prop} {J : β → World → Prop} (h : AbidesT T J) (hs : ∀ r, T' r → T r) : AbidesT T' J :=
  fun s W W' row hj hg hr => h s W W' row hj hg (fun r e => hs r (hr r e))

/-- The iterator's word: every value of L comes, one after another, but that a round may say 'no more'. Its own blocks are those of T; k of them it lays first. -/
def SeqT {α : Type} (F : Fence) (n : Nat) (P : Program) (g : Nat) (lb : Array Value) (encs : α → Array Value) (L : List α) (T : Nat → Prop) (k : Nat) (W : World) : Prop :=
  ∀ (l : Nat) (J Jx : Nat → World → Prop), AbidesT T J → AbidesT T Jx →
    (∀ i x W1, L[i]? = some x → J i W1 → W.heap.size + k ≤ W1.heap.size → YieldAt F (n - 1) P l (encs x) W1 fun e W' =>
      (e = .returned (.bool true) ∧ J (i + 1) W' ∧ KeepsT T W1 W') ∨ (e = .returned (.bool false) ∧ Jx (i + 1) W' ∧ KeepsT T W1 W')) →
    J 0 W →
    CallsIn F n P g (#[.func (.yield l) #[] #[]] ++ lb) W fun e W' => (∃ v, e = .returned v) ∧ (J L.length W' ∨ ∃ i, i ≤ L.length ∧ Jx i W')

/-- How the body of a round may be left. -/
def postT (T : Nat → Prop) (I : Nat → World → Prop) (Ix : Code → Nat → World → Prop) (i : Nat) (W : World) : Exit → Act → World → Prop
  | .normal, _, W' => KeepsT T W W' ∧ I (i + 1) W'
  | .ret, _, W' => KeepsT T W W' ∧ Ix .ret (i + 1) W'
  | .exit id, _, W' => KeepsT T W W' ∧ Ix (.exit id) (i + 1) W'
  | .goto t, _, W' => KeepsT T W W' ∧ Ix (.goto t) (i + 1) W'
  | _, _, _ => False

/-- The blocks that are not the caller's: the iterator's own from before (C), and those from lo to hi. -/
def Span (C : Nat → Prop) (lo hi : Nat) (r : Nat) : Prop := C r ∨ (lo ≤ r ∧ r < hi)

/-- **The statement 'for .. := range g { .. }'.** -/
theorem wpIn_rangeFunc_T {α : Type} {g : Operand} {ps : Array Tmp} {assign body : Code} {Q : Exit → Act → World → Prop} {a : Act} {w : World}
    (hro : F.round = none) (h1 : 1 ≤ n) {gf : Nat} {lb : Array Value} (hg : a.eval g = .func (.func gf) #[] lb) (hFg : F.fn gf)
    (eg : ∀ args w, (callFunc gf args).run P w = .ok (.enter gf args) w)
    {encs : α → Array Value} (L : List α) (C : Nat → Prop) (k : Nat) (hC : ∀ r, C r → r < w.heap.size)
    (hseq : ∀ W, w.grownBy W none → W.heap.size = w.heap.size + 2 → SeqT F (n - 1) P gf lb encs L (Span C (w.heap.size + 2) (w.heap.size + 2 + k)) k W)
    (hps : ∀ x, (encs x).size = ps.size)
    (I : Nat → World → Prop) (Ix : Code → Nat → World → Prop)
    (hI : AbidesT (Span C w.heap.size (w.heap.size + 2 + k)) I) (hIx : ∀ c, AbidesT (Span C w.heap.size (w.heap.size + 2 + k)) (Ix c)) (h0 : I 0 w) (a₁ : α → Act)
    (hassign : ∀ (l : Nat) (x : α) (W : World) (K : Act → World → Prop), K (a₁ x) W →
      assign.wpIn (F.inRound l) (n - 1 - 1) P (Exit.then K (fun _ _ _ => False)) { tmps := (ps.zip (encs x)).foldl (fun t (p, v) => t.setIfInBounds p v) a.tmps, defers := [] } W)
    (hbody : ∀ (l i : Nat) (x : α) (W : World), L[i]? = some x → I i W → w.heap.size + 2 + k ≤ W.heap.size →
      body.wpIn (F.inRound l) (n - 1 - 1) P (postT (Span C w.heap.size (w.heap.size + 2 + k)) I Ix i W) (a₁ x) W)
    (hdone : ∀ (D : Nat) (W : World), D = w.heap.size → I L.length W → W.heap[D]? = some (.deferred (some [])) →
      Q .normal { a with defers := { target := .collected D, args := #[] } :: a.defers } W)
    (hstop : ∀ (D : Nat) (c : Code) (i : Nat) (W : World), D = w.heap.size → i ≤ L.length → Ix c i W → W.heap[D]? = some (.deferred (some [])) →
      c.wpIn F n P Q { a with defers := { target := .collected D, args := #[] } :: a.defers } W) :
    (Code.rangeFunc g ps assign body).wpIn F n P Q a w := by
  refine wpIn_rangeFunc fun fn hfn => ?_
  rw [hro]
  let rec0 : LoopState → Option Code → Loop := fun st pe => { state := st, pending := pe, fn, tmps := a.tmps, params := ps, assign, body, defers := w.heap.size }
  obtain ⟨rc, hrc⟩ : ∃ rc, rc = rec0 := ⟨_, rfl⟩
  obtain ⟨W1, hW1⟩ : ∃ W1, (w.alloc (.deferred (some []))).alloc (.loop (rc .ready none)) = W1 := ⟨_, rfl⟩
  have hsz : W1.heap.size = w.heap.size + 2 := by rw [← hW1]; simp
  have hgr : w.grownBy W1 none := by rw [← hW1]; exact grownBy_none_trans (World.grownBy_alloc w _ none) (World.grownBy_alloc _ _ none)
  have hL1 : W1.heap[w.heap.size + 1]? = some (.loop (rc .ready none)) := by
    rw [← hW1]; have := World.alloc_heap_new (w.alloc (.deferred (some []))) (.loop (rc .ready none)); rwa [World.size_alloc] at this
  have hK1 : W1.heap[w.heap.size]? = some (.deferred (some [])) := by
    rw [← hW1]; exact (Below.heap_alloc _ _ _ (by simp)).trans (World.alloc_heap_new w _)
  refine ⟨w.heap.size + 1, [{ target := .collected w.heap.size, args := #[] }], W1, { target := .fn (.func gf) lb, args := #[.func (.yield (w.heap.size + 1)) #[] #[]] }, W1, gf,
    #[.func (.yield (w.heap.size + 1)) #[] #[]] ++ lb, W1, ?_, ?_, ?_, ?_, fun _ => h1, ?_⟩
  · rw [← hW1, hrc]; exact run_enterLoop_outer _ _ _ _ _
  · simp only [resolve, hg]
    simp [go_sem]
  · intro f' hf'; simp [Target.leads] at hf'; subst hf'; exact hFg
  · simp [invoke, go_sem, eg]
  · have hI1 : I 0 W1 := hI 0 w W1 none h0 hgr (fun r e => by cases e)
    have hsub : ∀ r, Span C (w.heap.size + 2) (w.heap.size + 2 + k) r → Span C w.heap.size (w.heap.size + 2 + k) r := fun r hr => hr.imp id (fun h => ⟨by omega, h.2⟩)
    have hne : ∀ r, Span C (w.heap.size + 2) (w.heap.size + 2 + k) r → r ≠ w.heap.size ∧ r ≠ w.heap.size + 1 := fun r hr => by
      rcases hr with hr | hr
      · have := hC r hr; omega
      · omega
    have hst : ∀ {A B : World} {row : Option Nat} {q : Nat} {o : Obj}, A.grownBy B row → (∀ r, row = some r → Span C (w.heap.size + 2) (w.heap.size + 2 + k) r) → (q = w.heap.size ∨ q = w.heap.size + 1) →
        A.heap[q]? = some o → B.heap[q]? = some o := fun {A B row q o} hg hr hq ho =>
      (hg.block q (Array.getElem?_eq_some_iff.1 ho).1 (fun e => by have := hne q (hr q e.symm); omega)).trans ho
    refine (hseq W1 hgr hsz (w.heap.size + 1)
      (fun i W => I i W ∧ W.heap[w.heap.size + 1]? = some (.loop (rc .ready none)) ∧ W.heap[w.heap.size]? = some (.deferred (some [])))
      (fun i W => ∃ c, Ix c i W ∧ W.heap[w.heap.size + 1]? = some (.loop (rc .done (some c))) ∧ W.heap[w.heap.size]? = some (.deferred (some [])))
      (fun s A B row hs hg' hr => ⟨hI s A B row hs.1 hg' (fun r e => hsub r (hr r e)), hst hg' hr (.inr rfl) hs.2.1, hst hg' hr (.inl rfl) hs.2.2⟩)
      (fun s A B row hs hg' hr => by
        obtain ⟨c, hc, hl, hk⟩ := hs
        exact ⟨c, hIx c s A B row hc hg' (fun r e => hsub r (hr r e)), hst hg' hr (.inr rfl) hl, hst hg' hr (.inl rfl) hk⟩)
      ?_ ⟨hI1, hL1, hK1⟩).mono ?_
    · rintro i x W hx ⟨hi, hl, hk⟩ hlen
      have hT0 : Span C w.heap.size (w.heap.size + 2 + k) w.heap.size := .inr ⟨Nat.le_refl _, by omega⟩
      have hT1 : Span C w.heap.size (w.heap.size + 2 + k) (w.heap.size + 1) := .inr ⟨by omega, by omega⟩
      have hlt : w.heap.size + 1 < W.heap.size := (Array.getElem?_eq_some_iff.1 hl).1
      have hy := run_yield (P := P) (args := encs x) hl (by rw [hrc]; exact hps x)
      rw [hrc] at hy
      refine ⟨fn, _, assign, body, hy, roundIn_of_wpIn hfn (hassign _ x W _ ?_)⟩
      clear hy
      refine ⟨_, run_beginRound hl (by rw [hrc]), ?_⟩
      obtain ⟨W2, hW2⟩ : ∃ W2, W.putObj (w.heap.size + 1) (.loop { rc .ready none with state := .busy }) = W2 := ⟨_, rfl⟩
      rw [hW2]
      have hl2 : W2.heap[w.heap.size + 1]? = some (.loop { rc .ready none with state := .busy }) := by rw [← hW2]; exact World.putObj_heap_same hlt
      have hk2 : W2.heap[w.heap.size]? = some (.deferred (some [])) := by rw [← hW2]; exact (World.putObj_heap_other (by omega)).trans hk
      have hsz2 : W2.heap.size = W.heap.size := by rw [← hW2]; simp
      have hkeep : ∀ (W3 : World) (o : Obj), KeepsT (Span C w.heap.size (w.heap.size + 2 + k)) W2 W3 →
          KeepsT (Span C (w.heap.size + 2) (w.heap.size + 2 + k)) W (W3.putObj (w.heap.size + 1) o) := fun W3 o h3 =>
        ⟨by have := h3.size; simp; omega, fun r hr hrl => by
          have hn := hne r hr
          rw [World.putObj_heap_other hn.2, h3.same r (hsub r hr) (by omega), ← hW2, World.putObj_heap_other hn.2]⟩
      refine wpIn_mono (hbody _ i x W2 hx (by rw [← hW2]; exact hI.putObj _ hi hT1) (by omega)) ?_
      have fin : ∀ (jump : Option Code) (W3 : World), KeepsT (Span C w.heap.size (w.heap.size + 2 + k)) W2 W3 →
          (Instr.endRound (w.heap.size + 1) jump).run P W3 = .ok (.bool jump.isNone) (W3.putObj (w.heap.size + 1) (.loop (rc (if jump.isNone then .ready else .done) jump))) ∧
          (W3.putObj (w.heap.size + 1) (.loop (rc (if jump.isNone then .ready else .done) jump))).heap[w.heap.size + 1]? = some (.loop (rc (if jump.isNone then .ready else .done) jump)) ∧
          (W3.putObj (w.heap.size + 1) (.loop (rc (if jump.isNone then .ready else .done) jump))).heap[w.heap.size]? = some (.deferred (some [])) := fun jump W3 h3 => by
        have hl3 : W3.heap[w.heap.size + 1]? = some (.loop { rc .ready none with state := .busy }) := (h3.same _ hT1 (by omega)).trans hl2
        have := run_endRound (P := P) jump hl3
        rw [hrc] at this ⊢
        exact ⟨this, World.putObj_heap_same (Array.getElem?_eq_some_iff.1 hl3).1, (World.putObj_heap_other (by omega)).trans ((h3.same _ hT0 (by omega)).trans hk2)⟩
      rintro e a3 W3 hp
      cases e with
      | normal =>
        obtain ⟨hk3, hi3⟩ := hp
        obtain ⟨hr, hl4, hk4⟩ := fin none W3 hk3
        exact ⟨_, _, hr, .inl ⟨rfl, ⟨hI.putObj _ hi3 hT1, hl4, hk4⟩, hkeep W3 _ hk3⟩⟩
      | ret =>
        obtain ⟨hk3, hi3⟩ := hp
        obtain ⟨hr, hl4, hk4⟩ := fin (some .ret) W3 hk3
        exact ⟨_, _, hr, .inr ⟨rfl, ⟨.ret, (hIx _).putObj _ hi3 hT1, hl4, hk4⟩, hkeep W3 _ hk3⟩⟩
      | exit id =>
        obtain ⟨hk3, hi3⟩ := hp
        obtain ⟨hr, hl4, hk4⟩ := fin (some (.exit id)) W3 hk3
        exact ⟨_, _, hr, .inr ⟨rfl, ⟨.exit id, (hIx _).putObj _ hi3 hT1, hl4, hk4⟩, hkeep W3 _ hk3⟩⟩
      | goto t =>
        obtain ⟨hk3, hi3⟩ := hp
        obtain ⟨hr, hl4, hk4⟩ := fin (some (.goto t)) W3 hk3
        exact ⟨_, _, hr, .inr ⟨rfl, ⟨.goto t, (hIx _).putObj _ hi3 hT1, hl4, hk4⟩, hkeep W3 _ hk3⟩⟩
      | panic ch => exact hp.elim
      | outgrown => exact hp.elim
    · have hT1 : Span C w.heap.size (w.heap.size + 2 + k) (w.heap.size + 1) := .inr ⟨by omega, by omega⟩
      rintro e W2 ⟨⟨v, rfl⟩, (⟨hi, hl, hk⟩ | ⟨i, hle, c, hi, hl, hk⟩)⟩
      · exact ⟨none, _, by have := run_endLoop (P := P) hl (by rw [hrc]; simp [rec0]); rw [hrc] at this; exact this, hdone _ _ rfl (hI.putObj _ hi hT1) ((World.putObj_heap_other (by omega)).trans hk)⟩
      · exact ⟨some c, _, by have := run_endLoop (P := P) hl (by rw [hrc]; simp [rec0]); rw [hrc] at this; exact this, hstop _ c i _ rfl hle ((hIx c).putObj _ hi hT1) ((World.putObj_heap_other (by omega)).trans hk)⟩
end Go.Proofs.YtbnheebblicgkaaDoor
