/- Lemmas of this claim (a part of its texts, kept as far as the claim reaches them). -/
import Derived.Test.YtefokfbgpfcbkaaGreatPlain33Z
namespace Go.Proofs.YtefokfbgpfcbkaaGreat
set_option linter.unusedVariables false
set_option linter.unusedSimpArgs false
namespace P31
open P22 (Def Step Try)
structure Run where
  phase : Nat
  att : Int
  til : Int
  last : Bool
def Run.zero : Run := ⟨0, 0, 0, false⟩
def now (n : Int) : Int := min (max n 0) 1099511627776
def limit (s : Step) : Int := min (max (P28.meant s.limit 100) 0) 10000
def first (t : Try) : Int := min (max t.first 0) 1000
def factor (t : Try) : Int := min (max (P28.meant t.factor 1) 0) 1000
def waitN (t : Try) : Nat → Int
  | 0 => first t
  | k + 1 => min (waitN t k * factor t) 1000
def wait (t : Try) (k : Int) : Int := if k < 1 then 0 else waitN t ((min k 20).toNat - 1)
def end_ (r : Run) (p : Nat) : Run := ⟨p, r.att, 0, r.last⟩
def next (s : Step) (n : Int) (r : Run) : Run := ⟨1, r.att + 1, now n + limit s, r.last⟩
def fail (s : Step) (n : Int) (r : Run) : Run :=
  if r.last = true ∨ P33.more s.tries r.att = false then end_ r 4 else if wait s.tries r.att = 0 then next s n r else ⟨2, r.att, now n + wait s.tries r.att, r.last⟩
def begin_ (s : Step) (n : Int) : Run := next s n Run.zero
def answer (s : Step) (n : Int) (r : Run) (t : Int) (o : Nat) : Run × Bool :=
  if r.phase ≠ 1 ∨ r.att ≠ t then (r, false) else if o = 0 then (end_ r 3, true) else if o = 1 then (fail s n r, true) else if o = 2 then (end_ r 4, true) else (r, false)
def tick (s : Step) (n : Int) (r : Run) : Run × Bool :=
  if now n < r.til then (r, false) else if r.phase = 1 then (fail s n r, true) else if r.phase = 2 then (next s n r, true) else (r, false)
def stop (r : Run) : Run := if r.phase = 0 ∨ r.phase = 2 then ⟨4, r.att, 0, true⟩ else if r.phase = 1 then ⟨1, r.att, r.til, true⟩ else r
structure Run.ok (r : Run) : Prop where
  ph : r.phase ≤ 4
  lo : 0 ≤ r.att
  hi : r.att ≤ 10
  p2 : r.phase = 2 → r.att ≤ 9
  p1 : r.phase = 1 ∨ r.phase = 2 → 1 ≤ r.att
  t0 : 0 ≤ r.til
  t1 : r.til ≤ 1099511640000
theorem now_le (n : Int) : 0 ≤ now n ∧ now n ≤ 1099511627776 := by unfold now; omega
theorem limit_le (s : Step) : 0 ≤ limit s ∧ limit s ≤ 10000 := by unfold limit; omega
theorem factor_le (t : Try) : 0 ≤ factor t ∧ factor t ≤ 1000 := by unfold factor; omega
theorem waitN_le (t : Try) : ∀ k, 0 ≤ waitN t k ∧ waitN t k ≤ 1000
  | 0 => by unfold waitN first; omega
  | k + 1 => by
    obtain ⟨h1, h2⟩ := waitN_le t k
    obtain ⟨h3, h4⟩ := factor_le t
    unfold waitN
    have := Int.mul_nonneg h1 h3
    omega
theorem wait_le (t : Try) (k : Int) : 0 ≤ wait t k ∧ wait t k ≤ 1000 := by
  unfold wait
  split
  · omega
  · exact waitN_le t _
theorem zero_ok : Run.zero.ok := ⟨by decide, by decide, by decide, by decide, by decide, by decide, by decide⟩
theorem end_ok {r : Run} (h : r.ok) {p : Nat} (hp : p = 3 ∨ p = 4) : (end_ r p).ok := by
  refine ⟨by show p ≤ 4; omega, h.lo, h.hi, fun e => ?_, fun e => ?_, Int.le_refl _, by show (0 : Int) ≤ _; decide⟩
  · have e : p = 2 := e
    omega
  · have e : p = 1 ∨ p = 2 := e
    omega
theorem next_ok {r : Run} (h : r.ok) (s : Step) (n : Int) (h9 : r.att ≤ 9) : (next s n r).ok := by
  have a := now_le n
  have b := limit_le s
  have := h.lo
  refine ⟨by show 1 ≤ 4; decide, by show 0 ≤ r.att + 1; omega, by show r.att + 1 ≤ 10; omega, fun e => ?_, fun _ => by show 1 ≤ r.att + 1; omega, by show 0 ≤ now n + limit s; omega, by show now n + limit s ≤ _; omega⟩
  have e : (1 : Nat) = 2 := e
  omega
theorem fail_ok {r : Run} (h : r.ok) (s : Step) (n : Int) : (fail s n r).ok := by
  unfold fail
  split
  · exact end_ok h (.inr rfl)
  · rename_i hl
    simp only [not_or, Bool.not_eq_true, Bool.not_eq_false] at hl
    have hm := more_lt hl.2
    split
    · exact next_ok h s n hm.2
    · have a := now_le n
      have b := wait_le s.tries r.att
      exact ⟨by show 2 ≤ 4; decide, h.lo, h.hi, fun _ => hm.2, fun _ => hm.1, by show 0 ≤ now n + wait s.tries r.att; omega, by show now n + wait s.tries r.att ≤ _; omega⟩
theorem begin_ok (s : Step) (n : Int) : (begin_ s n).ok := next_ok zero_ok s n (by decide)
theorem stop_ok {r : Run} (h : r.ok) : (stop r).ok := by
  unfold stop
  split
  · exact ⟨by show 4 ≤ 4; decide, h.lo, h.hi, fun e => (by have e : (4 : Nat) = 2 := e; omega), fun e => (by have e : (4 : Nat) = 1 ∨ (4 : Nat) = 2 := e; omega), Int.le_refl _, by show (0 : Int) ≤ _; decide⟩
  · split
    · rename_i h1 h2
      exact ⟨by show 1 ≤ 4; decide, h.lo, h.hi, fun e => (by have e : (1 : Nat) = 2 := e; omega), fun _ => h.p1 (.inl h2), h.t0, h.t1⟩
    · exact h
theorem fail_phase (s : Step) (n : Int) (r : Run) : (fail s n r).phase = 4 ∨ (r.last = false ∧ ((fail s n r).phase = 1 ∨ (fail s n r).phase = 2)) := by
  unfold fail
  split
  · exact .inl rfl
  · rename_i hl
    simp only [not_or, Bool.not_eq_true] at hl
    split
    · exact .inr ⟨hl.1, .inl rfl⟩
    · exact .inr ⟨hl.1, .inr rfl⟩
end P31
namespace P32
open P22 (Def Step)
open P31 (Run)
structure Order where
  step : Nat
  att : Int
  undo : Bool
  til : Int
structure S where
  run : Nat → Bool → Run
  done : List Nat
  undone : List Nat
  status : Nat
def S.new : S := ⟨fun _ _ => Run.zero, [], [], 0⟩
def stepAt (d : Def) (i : Nat) : Step := d.steps.getD i Step.zero
def setR (f : Nat → Bool → Run) (i : Nat) (u : Bool) (r : Run) : Nat → Bool → Run := fun j b => if j = i ∧ b = u then r else f j b
def put (i : Nat) (u : Bool) (r : Run) (x : S × List Order) : S × List Order :=
  (⟨setR x.1.run i u r, if r.phase = 3 ∧ (x.1.run i u).phase ≠ 3 ∧ u = false then x.1.done ++ [i] else x.1.done, x.1.undone, x.1.status⟩,
   if r.phase = 1 ∧ r.att ≠ (x.1.run i u).att then x.2 ++ [⟨i, r.att, u, r.til⟩] else x.2)
def anyP (d : Def) (s : S) (p : Nat) : Bool := (List.range d.steps.length).any fun i => (s.run i false).phase == p
def halt (d : Def) (s : S) : S := ⟨fun i u => if u = false ∧ i < d.steps.length then P31.stop (s.run i u) else s.run i u, s.done, s.undone, 2⟩
def ready (d : Def) (s : S) (i : Nat) : Bool := (s.run i false).phase == 0 && ((P28.refs d).getD i []).all fun j => (s.run j false).phase == 3
def go1 (d : Def) (n : Int) (x : S × List Order) (i : Nat) : S × List Order := if ready d x.1 i = true then put i false (P31.begin_ (stepAt d i) n) x else x
def forth (d : Def) (n : Int) (x : S × List Order) : S × List Order :=
  if anyP d x.1 4 = true then (halt d x.1, x.2) else if x.1.done.length = d.steps.length then (⟨x.1.run, x.1.done, x.1.undone, 3⟩, x.2) else (List.range d.steps.length).foldl (go1 d n) x
def turn (s : S) : Option Nat := s.done.reverse[s.undone.length]?
def backGo (d : Def) (n : Int) : Nat → S × List Order → S × List Order
  | 0, x => x
  | f + 1, x => match turn x.1 with
    | none => (⟨x.1.run, x.1.done, x.1.undone, 4⟩, x.2)
    | some i => if (P33.undoOf d i).isEmpty = true ∨ (x.1.run i true).phase = 3 then backGo d n f (⟨x.1.run, x.1.done, x.1.undone ++ [i], x.1.status⟩, x.2)
      else if (x.1.run i true).phase = 4 then (⟨x.1.run, x.1.done, x.1.undone, 5⟩, x.2)
      else if (x.1.run i true).phase = 0 then put i true (P31.begin_ (stepAt d i) n) x else x
def back (d : Def) (n : Int) (x : S × List Order) : S × List Order := if anyP d x.1 1 = true then x else backGo d n (x.1.done.length - x.1.undone.length + 1) x
def on1 (d : Def) (n : Int) (x : S × List Order) : S × List Order := if x.1.status = 1 then forth d n x else x
def on2 (d : Def) (n : Int) (x : S × List Order) : S × List Order := if x.1.status = 2 then back d n x else x
def on (d : Def) (n : Int) (x : S × List Order) : S × List Order := on2 d n (on1 d n x)
def moving (s : S) : Bool := s.status == 1 || s.status == 2
def start (d : Def) (n : Int) (s : S) : S × List Order := if s.status ≠ 0 then (s, []) else on d n (⟨s.run, s.done, s.undone, 1⟩, [])
def has (d : Def) (i : Int) : Bool := decide (0 ≤ i) && decide (i < (d.steps.length : Int))
def answer (d : Def) (n : Int) (a : P33.Ans) (s : S) : (S × List Order) × Bool :=
  if moving s = false ∨ has d a.step = false then ((s, []), false) else
  if (P31.answer (stepAt d a.step.toNat) n (s.run a.step.toNat a.undo) a.attempt a.outcome).2 = false then ((s, []), false) else
  (on d n (put a.step.toNat a.undo (P31.answer (stepAt d a.step.toNat) n (s.run a.step.toNat a.undo) a.attempt a.outcome).1 (s, [])), true)
def tick1 (d : Def) (n : Int) (u : Bool) (x : S × List Order) (i : Nat) : S × List Order :=
  if (P31.tick (stepAt d i) n (x.1.run i u)).2 = true then put i u (P31.tick (stepAt d i) n (x.1.run i u)).1 x else x
def tick (d : Def) (n : Int) (s : S) : S × List Order :=
  if moving s = false then (s, []) else on d n ((List.range d.steps.length).foldl (tick1 d n true) ((List.range d.steps.length).foldl (tick1 d n false) (s, [])))
def cancel (d : Def) (n : Int) (s : S) : (S × List Order) × Bool := if s.status ≠ 1 then ((s, []), false) else (on d n (halt d s, []), true)
def openU (s : S) (i : Nat) (u : Bool) : List Order := if (s.run i u).phase = 1 then [⟨i, (s.run i u).att, u, (s.run i u).til⟩] else []
def open_ (d : Def) (s : S) : List Order := (List.range d.steps.length).flatMap fun i => openU s i false ++ openU s i true
abbrev R (d : Def) (i : Nat) : List Nat := (P28.refs d).getD i []
theorem setR_self (f : Nat → Bool → Run) (i : Nat) (u : Bool) (r : Run) : setR f i u r i u = r := by simp [setR]
theorem setR_ne {f : Nat → Bool → Run} {i j : Nat} {u b : Bool} {r : Run} (h : ¬ (j = i ∧ b = u)) : setR f i u r j b = f j b := by simp [setR, h]
theorem mem_all {n : Nat} {l : List Nat} (hn : l.Nodup) (h : ∀ x ∈ l, x < n) (hl : l.length = n) {i : Nat} (hi : i < n) : i ∈ l := by
  by_cases hm : i ∈ l
  · exact hm
  · have := len_le n (i :: l) (List.nodup_cons.2 ⟨hm, hn⟩) (fun x hx => by
      rcases List.mem_cons.1 hx with rfl | hx
      · exact hi
      · exact h x hx)
    simp at this
    omega
theorem foldl_range {α : Type} (f : α → Nat → α) (P : Nat → α → Prop) : ∀ (n : Nat) (x : α), P 0 x → (∀ k x, k < n → P k x → P (k + 1) (f x k)) → P n ((List.range n).foldl f x)
  | 0, x, h0, _ => h0
  | n + 1, x, h0, hs => by
    rw [List.range_succ, List.foldl_append]
    exact hs n _ (by omega) (foldl_range f P n x h0 (fun k x hk => hs k x (by omega)))
structure Inv (d : Def) (s : S) : Prop where
  ok : ∀ i u, (s.run i u).ok
  rng : ∀ i u, (s.run i u).phase ≠ 0 → i < d.steps.length
  nodup : s.done.Nodup
  dn : ∀ i, i ∈ s.done ↔ (s.run i false).phase = 3
  und : s.undone = s.done.reverse.take s.undone.length
  len : s.undone.length ≤ s.done.length
  refs : ∀ i, (s.run i false).phase = 1 ∨ (s.run i false).phase = 2 → ∀ j ∈ R d i, j ∈ s.done
  st : s.status ≤ 5
  z : s.status = 0 → ∀ i, (s.run i false).phase = 0
  fwd : s.status ≤ 1 ∨ s.status = 3 → (∀ i, (s.run i true).phase = 0) ∧ s.undone = []
  halted : 2 ≤ s.status → ∀ i, i < d.steps.length → (s.run i false).phase ≠ 0 ∧ (s.run i false).phase ≠ 2 ∧ ((s.run i false).phase = 1 → (s.run i false).last = true)
  shut : s.undone ≠ [] → ∀ j, (s.run j false).phase ≠ 1
  tru : ∀ i, (s.run i true).phase ≠ 0 → ∀ j, (s.run j false).phase ≠ 1
  trn : ∀ i, (s.run i true).phase = 1 ∨ (s.run i true).phase = 2 ∨ (s.run i true).phase = 4 → turn s = some i ∧ (P33.undoOf d i).isEmpty = false
  e3 : s.status = 3 → s.done.length = d.steps.length
  e4 : s.status = 4 → s.undone.length = s.done.length ∧ ∀ j, (s.run j false).phase ≠ 1
  e5 : s.status = 5 → ∃ i, turn s = some i ∧ (s.run i true).phase = 4
theorem Inv.lt {d : Def} {s : S} (h : Inv d s) {i : Nat} (hi : i ∈ s.done) : i < d.steps.length := h.rng i false (by rw [(h.dn i).1 hi]; decide)
theorem Inv.all {d : Def} {s : S} (h : Inv d s) (hl : s.done.length = d.steps.length) {i : Nat} (hi : i < d.steps.length) : (s.run i false).phase = 3 := (h.dn i).1 (mem_all h.nodup (fun x hx => h.lt hx) hl hi)
theorem inv_new (d : Def) : Inv d S.new where
  ok := fun _ _ => P31.zero_ok
  rng := fun i u hp => absurd rfl hp
  nodup := List.nodup_nil
  dn := fun i => by simp [S.new, Run.zero]
  und := rfl
  len := Nat.le_refl _
  refs := fun i hp => by simp [S.new, Run.zero] at hp
  st := by decide
  z := fun _ i => rfl
  fwd := fun _ => ⟨fun i => rfl, rfl⟩
  halted := fun hp => by simp [S.new] at hp
  shut := fun hp => by simp [S.new] at hp
  tru := fun i hp => absurd rfl hp
  trn := fun i hp => by simp [S.new, Run.zero] at hp
  e3 := fun hp => by simp [S.new] at hp
  e4 := fun hp => by simp [S.new] at hp
  e5 := fun hp => by simp [S.new] at hp
theorem inv_putF {d : Def} {x : S × List Order} (h : Inv d x.1) {i : Nat} {r : Run} (hr : r.ok) (hi : i < d.steps.length) (h3 : (x.1.run i false).phase ≠ 3) (hp : r.phase = 1 ∨ r.phase = 2 ∨ r.phase = 4)
    (hs : x.1.status = 1 ∨ (x.1.status = 2 ∧ r.phase = 4)) (hrf : r.phase = 1 ∨ r.phase = 2 → ∀ j ∈ R d i, j ∈ x.1.done) : Inv d (put i false r x).1 ∧ (put i false r x).1.done = x.1.done ∧ (put i false r x).1.undone = x.1.undone ∧ (put i false r x).1.status = x.1.status := by
  have hd : (put i false r x).1.done = x.1.done := by
    unfold put
    simp only
    rw [if_neg (by omega)]
  have hfwd : r.phase = 1 → (∀ i, (x.1.run i true).phase = 0) ∧ x.1.undone = [] := fun e => h.fwd (.inl (by omega))
  have hself : (put i false r x).1.run i false = r := setR_self _ _ _ _
  have hne : ∀ j b, ¬ (j = i ∧ b = false) → (put i false r x).1.run j b = x.1.run j b := fun j b hj => setR_ne hj
  have htr : ∀ j, (put i false r x).1.run j true = x.1.run j true := fun j => hne j true (by simp)
  have h1 : ∀ j, (∀ k, (x.1.run k false).phase ≠ 1) → r.phase ≠ 1 → ((put i false r x).1.run j false).phase ≠ 1 := fun j hk hr1 => by
    by_cases hj : j = i
    · rw [hj, hself]; exact hr1
    · rw [hne j false (by simp [hj])]; exact hk j
  refine ⟨⟨fun j u => ?_, fun j u hq => ?_, by rw [hd]; exact h.nodup, fun j => ?_, by rw [hd]; exact h.und, by rw [hd]; exact h.len, fun j hq => ?_, h.st, fun hz => ?_, fun hf => ?_, fun hh j hj => ?_, fun hu j => ?_, fun k hk j => ?_, fun k hk => ?_, fun hz => ?_, fun hz => ?_, fun hz => ?_⟩, hd, rfl, rfl⟩
  · by_cases hj : j = i ∧ u = false
    · rw [hj.1, hj.2, hself]; exact hr
    · rw [hne j u hj]; exact h.ok j u
  · by_cases hj : j = i ∧ u = false
    · rw [hj.1]; exact hi
    · rw [hne j u hj] at hq; exact h.rng j u hq
  · rw [hd, h.dn j]
    by_cases hj : j = i
    · rw [hj, hself]; constructor <;> intro <;> omega
    · rw [hne j false (by simp [hj])]
  · rw [hd]
    by_cases hj : j = i
    · rw [hj, hself] at hq; rw [hj]; exact hrf hq
    · rw [hne j false (by simp [hj])] at hq; exact h.refs j hq
  · have hz : x.1.status = 0 := hz
    omega
  · have hf : x.1.status ≤ 1 ∨ x.1.status = 3 := hf
    exact ⟨fun j => by rw [htr]; exact (h.fwd hf).1 j, (h.fwd hf).2⟩
  · have hh : 2 ≤ x.1.status := hh
    by_cases hji : j = i
    · rw [hji, hself]; omega
    · rw [hne j false (by simp [hji])]; exact h.halted hh j hj
  · have hu : x.1.undone ≠ [] := hu
    exact h1 j (h.shut hu) (fun e => hu (hfwd e).2)
  · rw [htr] at hk
    exact h1 j (h.tru k hk) (fun e => hk ((hfwd e).1 k))
  · rw [htr] at hk
    have := h.trn k hk
    refine ⟨?_, this.2⟩
    unfold turn
    rw [hd]
    exact this.1
  · have hz : x.1.status = 3 := hz
    omega
  · have hz : x.1.status = 4 := hz
    omega
  · have hz : x.1.status = 5 := hz
    omega
theorem inv_putD {d : Def} {x : S × List Order} (h : Inv d x.1) {i : Nat} {r : Run} (hr : r.ok) (h1 : (x.1.run i false).phase = 1) (hp : r.phase = 3) (hs : x.1.status = 1 ∨ x.1.status = 2) :
    Inv d (put i false r x).1 ∧ (put i false r x).1.done = x.1.done ++ [i] ∧ (put i false r x).1.undone = x.1.undone ∧ (put i false r x).1.status = x.1.status ∧ (put i false r x).2 = x.2 := by
  have hd : (put i false r x).1.done = x.1.done ++ [i] := by
    unfold put
    simp only
    rw [if_pos ⟨hp, by omega, by simp⟩]
  have ho : (put i false r x).2 = x.2 := by
    unfold put
    simp only
    rw [if_neg (by omega)]
  have hi : i < d.steps.length := h.rng i false (by omega)
  have hu0 : x.1.undone = [] := by
    by_cases hu : x.1.undone = []
    · exact hu
    · exact absurd h1 (h.shut hu i)
  have ht0 : ∀ k, (x.1.run k true).phase = 0 := fun k => by
    by_cases hk : (x.1.run k true).phase = 0
    · exact hk
    · exact absurd h1 (h.tru k hk i)
  have hni : i ∉ x.1.done := fun hm => by have := (h.dn i).1 hm; omega
  have hself : (put i false r x).1.run i false = r := setR_self _ _ _ _
  have hne : ∀ j b, ¬ (j = i ∧ b = false) → (put i false r x).1.run j b = x.1.run j b := fun j b hj => setR_ne hj
  have htr : ∀ j, (put i false r x).1.run j true = x.1.run j true := fun j => hne j true (by simp)
  have hun : (put i false r x).1.undone = [] := hu0
  refine ⟨⟨fun j u => ?_, fun j u hq => ?_, ?_, fun j => ?_, by rw [hun]; rfl, by rw [hun]; exact Nat.zero_le _, fun j hq k hk => ?_, h.st, fun hz => ?_, fun hf => ?_, fun hh j hj => ?_, fun hu j => absurd hun hu, fun k hk j => ?_, fun k hk => ?_, fun hz => ?_, fun hz => ?_, fun hz => ?_⟩, hd, rfl, rfl, ho⟩
  · by_cases hj : j = i ∧ u = false
    · rw [hj.1, hj.2, hself]; exact hr
    · rw [hne j u hj]; exact h.ok j u
  · by_cases hj : j = i ∧ u = false
    · rw [hj.1]; exact hi
    · rw [hne j u hj] at hq; exact h.rng j u hq
  · rw [hd, List.nodup_append]
    exact ⟨h.nodup, by simp, fun a ha b hb e => by simp at hb; subst hb; subst e; exact hni ha⟩
  · rw [hd, List.mem_append, List.mem_singleton, h.dn j]
    by_cases hj : j = i
    · rw [hj, hself]; simp [hp]
    · rw [hne j false (by simp [hj])]; simp [hj]
  · rw [hd]
    by_cases hj : j = i
    · rw [hj, hself] at hq; omega
    · rw [hne j false (by simp [hj])] at hq; exact List.mem_append_left _ (h.refs j hq k hk)
  · have hz : x.1.status = 0 := hz
    omega
  · have hf : x.1.status ≤ 1 ∨ x.1.status = 3 := hf
    exact ⟨fun j => by rw [htr]; exact ht0 j, hun⟩
  · have hh : 2 ≤ x.1.status := hh
    by_cases hji : j = i
    · rw [hji, hself]; omega
    · rw [hne j false (by simp [hji])]; exact h.halted hh j hj
  · rw [htr, ht0 k] at hk; exact absurd rfl hk
  · rw [htr, ht0 k] at hk; omega
  · have hz : x.1.status = 3 := hz
    omega
  · have hz : x.1.status = 4 := hz
    omega
  · have hz : x.1.status = 5 := hz
    omega
theorem inv_putU {d : Def} {x : S × List Order} (h : Inv d x.1) {i : Nat} {r : Run} (hr : r.ok) (ht : turn x.1 = some i) (hu : (P33.undoOf d i).isEmpty = false) (hj : ∀ j, (x.1.run j false).phase ≠ 1) (hs : x.1.status = 2) :
    Inv d (put i true r x).1 ∧ (put i true r x).1.done = x.1.done ∧ (put i true r x).1.undone = x.1.undone ∧ (put i true r x).1.status = x.1.status := by
  have hd : (put i true r x).1.done = x.1.done := by
    unfold put
    simp only
    rw [if_neg (by simp)]
  have hi : i < d.steps.length := by
    have := List.mem_of_getElem? ht
    exact h.lt (by simpa using this)
  have hself : (put i true r x).1.run i true = r := setR_self _ _ _ _
  have hne : ∀ j b, ¬ (j = i ∧ b = true) → (put i true r x).1.run j b = x.1.run j b := fun j b hj => setR_ne hj
  have hfa : ∀ j, (put i true r x).1.run j false = x.1.run j false := fun j => hne j false (by simp)
  have htn : turn (put i true r x).1 = turn x.1 := by unfold turn; rw [hd]; rfl
  refine ⟨⟨fun j u => ?_, fun j u hq => ?_, by rw [hd]; exact h.nodup, fun j => by rw [hd, hfa]; exact h.dn j, by rw [hd]; exact h.und, by rw [hd]; exact h.len, fun j hq => by rw [hfa] at hq; rw [hd]; exact h.refs j hq, h.st, fun hz => ?_, fun hf => ?_, fun hh j hj => by rw [hfa]; exact h.halted hh j hj, fun _ j => by rw [hfa]; exact hj j, fun k hk j => by rw [hfa]; exact hj j, fun k hk => ?_, fun hz => ?_, fun hz => ?_, fun hz => ?_⟩, hd, rfl, rfl⟩
  · by_cases hj : j = i ∧ u = true
    · rw [hj.1, hj.2, hself]; exact hr
    · rw [hne j u hj]; exact h.ok j u
  · by_cases hj : j = i ∧ u = true
    · rw [hj.1]; exact hi
    · rw [hne j u hj] at hq; exact h.rng j u hq
  · have hz : x.1.status = 0 := hz
    omega
  · have hf : x.1.status ≤ 1 ∨ x.1.status = 3 := hf
    omega
  · rw [htn]
    by_cases hk2 : k = i
    · rw [hk2]; exact ⟨ht, hu⟩
    · rw [hne k true (by simp [hk2])] at hk; exact h.trn k hk
  · have hz : x.1.status = 3 := hz
    omega
  · have hz : x.1.status = 4 := hz
    omega
  · have hz : x.1.status = 5 := hz
    omega
theorem stop_phase (r : Run) : ((P31.stop r).phase = 3 ↔ r.phase = 3) ∧ ((P31.stop r).phase = 1 ↔ r.phase = 1) ∧ (P31.stop r).phase ≠ 0 ∧ (P31.stop r).phase ≠ 2 ∧ ((P31.stop r).phase = 1 → (P31.stop r).last = true) := by
  unfold P31.stop
  split
  · rename_i h
    exact ⟨by simp; omega, by simp; omega, by simp, by simp, by simp⟩
  · rename_i h
    split
    · rename_i h1
      exact ⟨by simp; omega, by simp; omega, by simp, by simp, by simp⟩
    · rename_i h1
      exact ⟨Iff.rfl, Iff.rfl, by omega, by omega, fun e => absurd e h1⟩
theorem inv_halt {d : Def} {s : S} (h : Inv d s) (hs : s.status = 1) : Inv d (halt d s) := by
  obtain ⟨hf1, hf2⟩ := h.fwd (.inl (by omega))
  have htr : ∀ j, (halt d s).run j true = s.run j true := fun j => by simp [halt]
  have hfa : ∀ j, j < d.steps.length → (halt d s).run j false = P31.stop (s.run j false) := fun j hj => by simp [halt, hj]
  have hge : ∀ j, ¬ j < d.steps.length → (halt d s).run j false = s.run j false := fun j hj => by simp [halt, hj]
  have h0 : ∀ j, ¬ j < d.steps.length → (s.run j false).phase = 0 := fun j hj => by
    by_cases hp : (s.run j false).phase = 0
    · exact hp
    · exact absurd (h.rng j false hp) hj
  have hun : (halt d s).undone = [] := hf2
  refine ⟨fun j u => ?_, fun j u hq => ?_, h.nodup, fun j => ?_, by rw [hun]; rfl, by rw [hun]; exact Nat.zero_le _, fun j hq => ?_, by show 2 ≤ 5; decide, fun hz => (by have hz : (2 : Nat) = 0 := hz; omega), fun hf => (by have hf : (2 : Nat) ≤ 1 ∨ (2 : Nat) = 3 := hf; omega), fun _ j hj => ?_, fun hu => absurd hun hu, fun k hk => ?_, fun k hk => ?_, fun hz => (by have hz : (2 : Nat) = 3 := hz; omega), fun hz => (by have hz : (2 : Nat) = 4 := hz; omega), fun hz => (by have hz : (2 : Nat) = 5 := hz; omega)⟩
  · cases u with
    | true => rw [htr]; exact h.ok j true
    | false =>
      by_cases hj : j < d.steps.length
      · rw [hfa j hj]; exact P31.stop_ok (h.ok j false)
      · rw [hge j hj]; exact h.ok j false
  · cases u with
    | true => rw [htr] at hq; exact h.rng j true hq
    | false =>
      by_cases hj : j < d.steps.length
      · exact hj
      · rw [hge j hj] at hq; exact h.rng j false hq
  · show j ∈ s.done ↔ _
    rw [h.dn j]
    by_cases hj : j < d.steps.length
    · rw [hfa j hj]; exact (stop_phase _).1.symm
    · rw [hge j hj]
  · show ∀ k ∈ R d j, k ∈ s.done
    by_cases hj : j < d.steps.length
    · rw [hfa j hj] at hq
      have hq1 := stop_phase (s.run j false)
      exact h.refs j (by rcases hq with hq | hq; exact .inl (hq1.2.1.1 hq); exact absurd hq hq1.2.2.2.1)
    · rw [hge j hj] at hq; exact h.refs j hq
  · rw [hfa j hj]
    have hq1 := stop_phase (s.run j false)
    exact ⟨hq1.2.2.1, hq1.2.2.2.1, hq1.2.2.2.2⟩
  · rw [htr, hf1 k] at hk; exact absurd rfl hk
  · rw [htr, hf1 k] at hk; omega
def OutOk (d : Def) (x : S × List Order) : Prop := ∀ o ∈ x.2, o.step < d.steps.length ∧ 1 ≤ o.att ∧
  (o.undo = false → (∀ j ∈ R d o.step, j ∈ x.1.done) ∧ o.step ∉ x.1.done) ∧ (o.undo = true → turn x.1 = some o.step ∧ (P33.undoOf d o.step).isEmpty = false ∧ (x.1.run o.step true).phase = 1)
theorem put_out {d : Def} {i : Nat} {u : Bool} {r : Run} {x : S × List Order} (h : OutOk d x) (hi : Inv d (put i u r x).1) (hd : (put i u r x).1.done = x.1.done) (hu : (put i u r x).1.undone = x.1.undone)
    (hno : ∀ o ∈ x.2, ¬ (u = true ∧ o.undo = true ∧ o.step = i)) : OutOk d (put i u r x) := by
  have htn : turn (put i u r x).1 = turn x.1 := by unfold turn; rw [hd, hu]
  intro o ho
  have hcase : o ∈ x.2 ∨ (r.phase = 1 ∧ o = ⟨i, r.att, u, r.til⟩) := by
    unfold put at ho
    simp only at ho
    split at ho
    · rename_i hc
      rcases List.mem_append.1 ho with ho | ho
      · exact .inl ho
      · exact .inr ⟨hc.1, by simpa using ho⟩
    · exact .inl ho
  rcases hcase with ho | ⟨hp, rfl⟩
  · obtain ⟨h1, h2, h3, h4⟩ := h o ho
    refine ⟨h1, h2, by rw [hd]; exact h3, fun hou => ?_⟩
    obtain ⟨q1, q2, q3⟩ := h4 hou
    refine ⟨by rw [htn]; exact q1, q2, ?_⟩
    have hn := hno o ho
    have e : (put i u r x).1.run o.step true = x.1.run o.step true := setR_ne (fun hc => hn ⟨hc.2.symm, hou, hc.1⟩)
    rw [e]
    exact q3
  · have hself : (put i u r x).1.run i u = r := setR_self _ _ _ _
    refine ⟨hi.rng i u (by rw [hself]; omega), ?_, fun hf => ?_, fun ht => ?_⟩
    · have := (hi.ok i u).p1
      rw [hself] at this
      exact this (.inl hp)
    · have hf : u = false := hf
      subst hf
      refine ⟨fun j hj => by have := hi.refs i (by rw [hself]; exact .inl hp) j hj; exact this, fun hm => ?_⟩
      have := (hi.dn i).1 hm
      rw [hself] at this
      omega
    · have ht : u = true := ht
      subst ht
      have := hi.trn i (by rw [hself]; exact .inl hp)
      exact ⟨this.1, this.2, by rw [hself]; exact hp⟩
structure Good (d : Def) (x : S × List Order) : Prop where
  inv : Inv d x.1
  out : OutOk d x
theorem anyP_false {d : Def} {s : S} (h : Inv d s) {p : Nat} (hp : p ≠ 0) (hf : anyP d s p = false) (j : Nat) : (s.run j false).phase ≠ p := by
  intro e
  have hj := h.rng j false (by omega)
  unfold anyP at hf
  rw [List.any_eq_false] at hf
  have := hf j (List.mem_range.2 hj)
  simp [e] at this
theorem ready_iff {d : Def} {s : S} {i : Nat} (h : Inv d s) : ready d s i = true ↔ (s.run i false).phase = 0 ∧ ∀ j ∈ R d i, j ∈ s.done := by
  unfold ready
  simp only [Bool.and_eq_true, beq_iff_eq, List.all_eq_true]
  constructor
  · rintro ⟨a, b⟩; exact ⟨a, fun j hj => (h.dn j).2 (b j hj)⟩
  · rintro ⟨a, b⟩; exact ⟨a, fun j hj => (h.dn j).1 (b j hj)⟩
theorem good_go1 {d : Def} {n : Int} {x : S × List Order} {i : Nat} (h : Good d x) (hs : x.1.status = 1) (hi : i < d.steps.length) : Good d (go1 d n x i) ∧ (go1 d n x i).1.status = 1 ∧ (go1 d n x i).1.done = x.1.done := by
  unfold go1
  by_cases hr : ready d x.1 i = true
  · rw [if_pos hr]
    obtain ⟨r1, r2⟩ := (ready_iff h.inv).1 hr
    obtain ⟨q1, q2, q3, q4⟩ := inv_putF (x := x) h.inv (P31.begin_ok (stepAt d i) n) hi (by omega) (.inl rfl) (.inl hs) (fun _ => r2)
    exact ⟨⟨q1, put_out h.out q1 q2 q3 (fun o ho hc => by simp at hc)⟩, by rw [q4]; exact hs, q2⟩
  · rw [if_neg hr]
    exact ⟨h, hs, rfl⟩
theorem inv_status3 {d : Def} {s : S} (h : Inv d s) (hs : s.status = 1) (hl : s.done.length = d.steps.length) : Inv d ⟨s.run, s.done, s.undone, 3⟩ := by
  obtain ⟨hf1, hf2⟩ := h.fwd (.inl (by omega))
  exact ⟨h.ok, h.rng, h.nodup, h.dn, h.und, h.len, h.refs, by show 3 ≤ 5; decide, fun hz => (by have hz : (3 : Nat) = 0 := hz; omega), fun _ => ⟨hf1, hf2⟩, fun _ j hj => by have h3 : (s.run j false).phase = 3 := h.all hl hj; exact ⟨by show (s.run j false).phase ≠ 0; omega, by show (s.run j false).phase ≠ 2; omega, fun e => by have e : (s.run j false).phase = 1 := e; omega⟩, h.shut, h.tru, h.trn, fun _ => hl, fun hz => (by have hz : (3 : Nat) = 4 := hz; omega), fun hz => (by have hz : (3 : Nat) = 5 := hz; omega)⟩
theorem good_forth {d : Def} {n : Int} {x : S × List Order} (h : Good d x) (hs : x.1.status = 1) : Good d (forth d n x) ∧ (forth d n x).1.done = x.1.done := by
  unfold forth
  split
  · refine ⟨⟨inv_halt h.inv hs, fun o ho => ?_⟩, rfl⟩
    obtain ⟨q1, q2, q3, q4⟩ := h.out o ho
    refine ⟨q1, q2, q3, fun hu => ?_⟩
    have := (h.inv.fwd (.inl (by omega))).1 o.step
    have := (q4 hu).2.2
    omega
  · split
    · rename_i hl
      exact ⟨⟨inv_status3 h.inv hs hl, h.out⟩, rfl⟩
    · have := foldl_range (go1 d n) (fun k y => Good d y ∧ y.1.status = 1 ∧ y.1.done = x.1.done) d.steps.length x ⟨h, hs, rfl⟩ (fun k y hk hy => by
        obtain ⟨a, b, c⟩ := good_go1 (n := n) hy.1 hy.2.1 hk
        exact ⟨a, b, c.trans hy.2.2⟩)
      exact ⟨this.1, this.2.2⟩
theorem turn_more {s : S} {i : Nat} (h : turn s = some i) : s.undone.length < s.done.length := by
  have := (List.getElem?_eq_some_iff.1 h).1
  simpa using this
theorem und_more {s : S} {i : Nat} (hu : s.undone = s.done.reverse.take s.undone.length) (h : turn s = some i) : s.undone ++ [i] = s.done.reverse.take (s.undone ++ [i]).length := by
  rw [List.length_append, List.length_singleton, List.take_add_one, ← hu]
  unfold turn at h
  rw [h]
  rfl
theorem good_backGo {d : Def} {n : Int} : ∀ (f : Nat) (x : S × List Order), Good d x → x.1.status = 2 → (∀ j, (x.1.run j false).phase ≠ 1) → Good d (backGo d n f x) ∧ (backGo d n f x).1.done = x.1.done
  | 0, x, h, _, _ => ⟨h, rfl⟩
  | f + 1, x, h, hs, hj => by
    unfold backGo
    have hi := h.inv
    cases ht : turn x.1 with
    | none =>
      have hl : x.1.undone.length = x.1.done.length := by
        have h1 : x.1.done.reverse.length ≤ x.1.undone.length := List.getElem?_eq_none_iff.1 ht
        have := hi.len
        simp at h1
        omega
      refine ⟨⟨⟨hi.ok, hi.rng, hi.nodup, hi.dn, hi.und, hi.len, hi.refs, by show 4 ≤ 5; decide, fun hz => (by have hz : (4 : Nat) = 0 := hz; omega), fun hf => (by have hf : (4 : Nat) ≤ 1 ∨ (4 : Nat) = 3 := hf; omega), fun _ => hi.halted (by omega), hi.shut, hi.tru, hi.trn, fun hz => (by have hz : (4 : Nat) = 3 := hz; omega), fun _ => ⟨hl, hj⟩, fun hz => (by have hz : (4 : Nat) = 5 := hz; omega)⟩, h.out⟩, rfl⟩
    | some i =>
      simp only
      have hlt := turn_more ht
      by_cases hc : (P33.undoOf d i).isEmpty = true ∨ (x.1.run i true).phase = 3
      · rw [if_pos hc]
        have hg : Good d (⟨x.1.run, x.1.done, x.1.undone ++ [i], x.1.status⟩, x.2) := by
          have hno : ∀ k, ¬ ((x.1.run k true).phase = 1 ∨ (x.1.run k true).phase = 2 ∨ (x.1.run k true).phase = 4) := fun k hk => by
            obtain ⟨q1, q2⟩ := hi.trn k hk
            rw [ht] at q1
            cases q1
            rcases hc with hc | hc
            · rw [hc] at q2; cases q2
            · omega
          refine ⟨⟨hi.ok, hi.rng, hi.nodup, hi.dn, und_more hi.und ht, by simp only [List.length_append, List.length_singleton]; omega, hi.refs, hi.st, fun hz => (by have hz : x.1.status = 0 := hz; omega), fun hf => (by have hf : x.1.status ≤ 1 ∨ x.1.status = 3 := hf; omega), hi.halted, fun _ => hj, hi.tru, fun k hk => absurd hk (hno k), fun hz => (by have hz : x.1.status = 3 := hz; omega), fun hz => (by have hz : x.1.status = 4 := hz; omega), fun hz => (by have hz : x.1.status = 5 := hz; omega)⟩, fun o ho => ?_⟩
          obtain ⟨q1, q2, q3, q4⟩ := h.out o ho
          exact ⟨q1, q2, q3, fun hu => absurd (.inl (q4 hu).2.2) (hno o.step)⟩
        exact good_backGo f _ hg hs hj
      · rw [if_neg hc]
        simp only [not_or, Bool.not_eq_true] at hc
        by_cases h4 : (x.1.run i true).phase = 4
        · rw [if_pos h4]
          exact ⟨⟨⟨hi.ok, hi.rng, hi.nodup, hi.dn, hi.und, hi.len, hi.refs, by show 5 ≤ 5; decide, fun hz => (by have hz : (5 : Nat) = 0 := hz; omega), fun hf => (by have hf : (5 : Nat) ≤ 1 ∨ (5 : Nat) = 3 := hf; omega), fun _ => hi.halted (by omega), hi.shut, hi.tru, hi.trn, fun hz => (by have hz : (5 : Nat) = 3 := hz; omega), fun hz => (by have hz : (5 : Nat) = 4 := hz; omega), fun _ => ⟨i, ht, h4⟩⟩, h.out⟩, rfl⟩
        · rw [if_neg h4]
          by_cases h0 : (x.1.run i true).phase = 0
          · rw [if_pos h0]
            obtain ⟨q1, q2, q3, q4⟩ := inv_putU (x := x) hi (P31.begin_ok (stepAt d i) n) ht hc.1 hj hs
            refine ⟨⟨q1, put_out h.out q1 q2 q3 (fun o ho hc => ?_)⟩, q2⟩
            have := ((h.out o ho).2.2.2 hc.2.1).2.2
            rw [hc.2.2] at this
            omega
          · rw [if_neg h0]
            exact ⟨h, rfl⟩
theorem good_back {d : Def} {n : Int} {x : S × List Order} (h : Good d x) (hs : x.1.status = 2) : Good d (back d n x) ∧ (back d n x).1.done = x.1.done := by
  unfold back
  split
  · exact ⟨h, rfl⟩
  · rename_i ha
    exact good_backGo _ x h hs (fun j => anyP_false h.inv (by decide) (by simpa using ha) j)
theorem good_on {d : Def} {n : Int} {x : S × List Order} (h : Good d x) : Good d (on d n x) ∧ (on d n x).1.done = x.1.done := by
  have h1 : Good d (on1 d n x) ∧ (on1 d n x).1.done = x.1.done := by
    unfold on1
    split
    · rename_i hs; exact good_forth h hs
    · exact ⟨h, rfl⟩
  unfold on on2
  split
  · rename_i hs
    obtain ⟨a, b⟩ := good_back (n := n) h1.1 hs
    exact ⟨a, b.trans h1.2⟩
  · exact h1
theorem good_nil {d : Def} {s : S} (h : Inv d s) : Good d (s, []) := ⟨h, fun o ho => by simp at ho⟩
theorem good_step {d : Def} {x : S × List Order} {i : Nat} {u : Bool} {r : Run} (h : Good d x) (hm : x.1.status = 1 ∨ x.1.status = 2) (hr : r.ok) (h12 : (x.1.run i u).phase = 1 ∨ (x.1.run i u).phase = 2)
    (hp : r.phase = 1 ∨ r.phase = 2 ∨ r.phase = 4) (hl : u = false → x.1.status = 2 → r.phase = 4) (hno : ∀ o ∈ x.2, ¬ (u = true ∧ o.undo = true ∧ o.step = i)) :
    Good d (put i u r x) ∧ (put i u r x).1.done = x.1.done ∧ (put i u r x).1.undone = x.1.undone ∧ (put i u r x).1.status = x.1.status := by
  cases u with
  | false =>
    obtain ⟨q1, q2, q3, q4⟩ := inv_putF (x := x) h.inv hr (h.inv.rng i false (by omega)) (by omega) hp (by rcases hm with hm | hm; exact .inl hm; exact .inr ⟨hm, hl rfl hm⟩) (fun _ => h.inv.refs i h12)
    exact ⟨⟨q1, put_out h.out q1 q2 q3 hno⟩, q2, q3, q4⟩
  | true =>
    obtain ⟨t1, t2⟩ := h.inv.trn i (by omega)
    have hs : x.1.status = 2 := by
      rcases hm with hm | hm
      · have := (h.inv.fwd (.inl (by omega))).1 i; omega
      · exact hm
    obtain ⟨q1, q2, q3, q4⟩ := inv_putU (x := x) h.inv hr t1 t2 (h.inv.tru i (by omega)) hs
    exact ⟨⟨q1, put_out h.out q1 q2 q3 hno⟩, q2, q3, q4⟩
theorem fail_ph (s : Step) (n : Int) (r : Run) : (P31.fail s n r).phase = 1 ∨ (P31.fail s n r).phase = 2 ∨ (P31.fail s n r).phase = 4 := by
  rcases P31.fail_phase s n r with h | ⟨_, h | h⟩
  · exact .inr (.inr h)
  · exact .inl h
  · exact .inr (.inl h)
theorem fail_lost {s : Step} {n : Int} {r : Run} (h : r.last = true) : (P31.fail s n r).phase = 4 := by
  rcases P31.fail_phase s n r with h1 | ⟨h1, _⟩
  · exact h1
  · rw [h] at h1; cases h1
theorem moving_iff {s : S} : moving s = true ↔ s.status = 1 ∨ s.status = 2 := by simp [moving]
theorem good_tick1 {d : Def} {n : Int} {u : Bool} {x : S × List Order} {i : Nat} (h : Good d x) (hm : x.1.status = 1 ∨ x.1.status = 2) (hi : i < d.steps.length) (hno : ∀ o ∈ x.2, ¬ (u = true ∧ o.undo = true ∧ o.step = i)) :
    Good d (tick1 d n u x i) ∧ (tick1 d n u x i).1.done = x.1.done ∧ (tick1 d n u x i).1.status = x.1.status ∧ (∀ o ∈ (tick1 d n u x i).2, o ∈ x.2 ∨ (o.undo = u ∧ o.step = i)) := by
  unfold tick1
  split
  · rename_i ht
    have hok := h.inv.ok i u
    have hkey : ((x.1.run i u).phase = 1 ∧ (P31.tick (stepAt d i) n (x.1.run i u)).1 = P31.fail (stepAt d i) n (x.1.run i u)) ∨ ((x.1.run i u).phase = 2 ∧ (P31.tick (stepAt d i) n (x.1.run i u)).1 = P31.next (stepAt d i) n (x.1.run i u)) := by
      unfold P31.tick at ht ⊢
      split at ht
      · cases ht
      · rename_i hl
        rw [if_neg hl]
        split at ht
        · rename_i h1; rw [if_pos h1]; exact .inl ⟨h1, rfl⟩
        · rename_i h1
          rw [if_neg h1]
          split at ht
          · rename_i h2; rw [if_pos h2]; exact .inr ⟨h2, rfl⟩
          · cases ht
    have hsub : ∀ r, ∀ o ∈ (put i u r x).2, o ∈ x.2 ∨ (o.undo = u ∧ o.step = i) := fun r o ho => by
      unfold put at ho
      simp only at ho
      split at ho
      · rcases List.mem_append.1 ho with ho | ho
        · exact .inl ho
        · simp at ho; subst ho; exact .inr ⟨rfl, rfl⟩
      · exact .inl ho
    rcases hkey with ⟨h1, e⟩ | ⟨h2, e⟩
    · rw [e]
      obtain ⟨a, b, c, g⟩ := good_step h hm (P31.fail_ok hok _ n) (.inl h1) (fail_ph _ _ _) (fun hu hs => by subst hu; exact fail_lost ((h.inv.halted (by omega) i hi).2.2 h1)) hno
      exact ⟨a, b, g, hsub _⟩
    · rw [e]
      obtain ⟨a, b, c, g⟩ := good_step h hm (P31.next_ok hok _ n (hok.p2 h2)) (.inr h2) (.inl rfl) (fun hu hs => by subst hu; exact absurd h2 (h.inv.halted (by omega) i hi).2.1) hno
      exact ⟨a, b, g, hsub _⟩
  · exact ⟨h, rfl, rfl, fun o ho => .inl ho⟩
theorem good_tick {d : Def} {n : Int} {s : S} (h : Inv d s) : Good d (tick d n s) ∧ (tick d n s).1.done = s.done := by
  unfold tick
  split
  · exact ⟨good_nil h, rfl⟩
  · rename_i hm
    have hm : s.status = 1 ∨ s.status = 2 := moving_iff.1 (by simpa using hm)
    have h1 := foldl_range (tick1 d n false) (fun k y => Good d y ∧ (y.1.done = s.done ∧ y.1.status = s.status) ∧ ∀ o ∈ y.2, o.undo = false) d.steps.length (s, []) ⟨good_nil h, ⟨rfl, rfl⟩, fun o ho => by simp at ho⟩ (fun k y hk hy => by
      obtain ⟨a, b, c, e⟩ := good_tick1 (n := n) (u := false) hy.1 (by rw [hy.2.1.2]; exact hm) hk (fun o ho hc => by simp at hc)
      exact ⟨a, ⟨b.trans hy.2.1.1, c.trans hy.2.1.2⟩, fun o ho => by rcases e o ho with q | q; exact hy.2.2 o q; exact q.1⟩)
    obtain ⟨y, hy⟩ : ∃ y, (List.range d.steps.length).foldl (tick1 d n false) (s, []) = y := ⟨_, rfl⟩
    rw [hy] at h1 ⊢
    have h2 := foldl_range (tick1 d n true) (fun k z => Good d z ∧ (z.1.done = s.done ∧ z.1.status = s.status) ∧ ∀ o ∈ z.2, o.undo = true → o.step < k) d.steps.length y ⟨h1.1, h1.2.1, fun o ho hu => by rw [h1.2.2 o ho] at hu; cases hu⟩ (fun k z hk hz => by
      obtain ⟨a, b, c, e⟩ := good_tick1 (n := n) (u := true) hz.1 (by rw [hz.2.1.2]; exact hm) hk (fun o ho hc => by have := hz.2.2 o ho hc.2.1; omega)
      exact ⟨a, ⟨b.trans hz.2.1.1, c.trans hz.2.1.2⟩, fun o ho hu => by rcases e o ho with q | q; (have := hz.2.2 o q hu; omega); omega⟩)
    obtain ⟨a, b⟩ := good_on (n := n) h2.1
    exact ⟨a, b.trans h2.2.1.1⟩
theorem good_start {d : Def} {n : Int} {s : S} (h : Inv d s) : Good d (start d n s) ∧ (start d n s).1.done = s.done := by
  unfold start
  split
  · exact ⟨good_nil h, rfl⟩
  · rename_i hs
    have hs : s.status = 0 := by omega
    have hz := h.z hs
    obtain ⟨f1, f2⟩ := h.fwd (.inl (by omega))
    have hi : Inv d ⟨s.run, s.done, s.undone, 1⟩ := ⟨h.ok, h.rng, h.nodup, h.dn, h.und, h.len, h.refs, by show 1 ≤ 5; decide, fun hz => (by have hz : (1 : Nat) = 0 := hz; omega), fun _ => ⟨f1, f2⟩, fun hh => (by have hh : 2 ≤ 1 := hh; omega), h.shut, h.tru, h.trn, fun hz => (by have hz : (1 : Nat) = 3 := hz; omega), fun hz => (by have hz : (1 : Nat) = 4 := hz; omega), fun hz => (by have hz : (1 : Nat) = 5 := hz; omega)⟩
    exact good_on (good_nil hi)
theorem good_cancel {d : Def} {n : Int} {s : S} (h : Inv d s) : Good d (cancel d n s).1 ∧ (cancel d n s).1.1.done = s.done := by
  unfold cancel
  split
  · exact ⟨good_nil h, rfl⟩
  · rename_i hs
    exact good_on (good_nil (inv_halt h (by omega)))
theorem good_answer {d : Def} {n : Int} {a : P33.Ans} {s : S} (h : Inv d s) : Good d (answer d n a s).1 ∧ (∀ i ∈ s.done, i ∈ (answer d n a s).1.1.done) := by
  unfold answer
  split
  · exact ⟨good_nil h, fun i hi => hi⟩
  · rename_i hm
    simp only [not_or, Bool.not_eq_false] at hm
    have hm1 := moving_iff.1 hm.1
    split
    · exact ⟨good_nil h, fun i hi => hi⟩
    · rename_i ht
      simp only
      have hok := h.ok a.step.toNat a.undo
      have h1 : (s.run a.step.toNat a.undo).phase = 1 := by
        by_cases h1 : (s.run a.step.toNat a.undo).phase = 1
        · exact h1
        · exact absurd (by unfold P31.answer; rw [if_pos (.inl h1)]) ht
      have hkey : (P31.answer (stepAt d a.step.toNat) n (s.run a.step.toNat a.undo) a.attempt a.outcome).1 = P31.end_ (s.run a.step.toNat a.undo) 3 ∨ (P31.answer (stepAt d a.step.toNat) n (s.run a.step.toNat a.undo) a.attempt a.outcome).1 = P31.end_ (s.run a.step.toNat a.undo) 4 ∨ (P31.answer (stepAt d a.step.toNat) n (s.run a.step.toNat a.undo) a.attempt a.outcome).1 = P31.fail (stepAt d a.step.toNat) n (s.run a.step.toNat a.undo) := by
        unfold P31.answer at ht ⊢
        split
        · rename_i hc; rw [if_pos hc] at ht; simp at ht
        · rename_i hc
          rw [if_neg hc] at ht
          split
          · exact .inl rfl
          · split
            · exact .inr (.inr rfl)
            · split
              · exact .inr (.inl rfl)
              · rename_i a1 a2 a3; rw [if_neg a1, if_neg a2, if_neg a3] at ht; simp at ht
      have hlt : a.step.toNat < d.steps.length := h.rng _ a.undo (by omega)
      have hfor : ∀ r : Run, r.ok → (r.phase = 1 ∨ r.phase = 2 ∨ r.phase = 4) → (a.undo = false → s.status = 2 → r.phase = 4) → Good d (on d n (put a.step.toNat a.undo r (s, []))) ∧ ∀ i ∈ s.done, i ∈ (on d n (put a.step.toNat a.undo r (s, []))).1.done := fun r hr hp hl => by
        obtain ⟨q1, q2, q3, q4⟩ := good_step (good_nil h) hm1 hr (.inl h1) hp hl (fun o ho => by simp at ho)
        obtain ⟨q5, q6⟩ := good_on (n := n) q1
        exact ⟨q5, fun i hi => by rw [q6, q2]; exact hi⟩
      rcases hkey with e | e | e
      · rw [e]
        cases hu : a.undo with
        | false =>
          rw [hu] at h1 hok
          obtain ⟨q1, q2, q3, q4, q5⟩ := inv_putD (x := (s, [])) h (P31.end_ok hok (.inl rfl)) h1 rfl hm1
          obtain ⟨q6, q7⟩ := good_on (d := d) (n := n) (x := put a.step.toNat false (P31.end_ (s.run a.step.toNat false) 3) (s, [])) ⟨q1, fun o ho => by rw [q5] at ho; simp at ho⟩
          exact ⟨q6, fun i hi => by rw [q7, q2]; exact List.mem_append_left _ hi⟩
        | true =>
          rw [hu] at h1 hok
          obtain ⟨t1, t2⟩ := h.trn _ (.inl h1)
          have hs : s.status = 2 := by
            rcases hm1 with hm1 | hm1
            · have := (h.fwd (.inl (by omega))).1 a.step.toNat; omega
            · exact hm1
          obtain ⟨q1, q2, q3, q4⟩ := inv_putU (x := (s, [])) h (P31.end_ok hok (.inl rfl)) t1 t2 (h.tru a.step.toNat (by omega)) hs
          have ho : (put a.step.toNat true (P31.end_ (s.run a.step.toNat true) 3) (s, [])).2 = [] := by
            unfold put P31.end_; simp
          obtain ⟨q6, q7⟩ := good_on (d := d) (n := n) (x := put a.step.toNat true (P31.end_ (s.run a.step.toNat true) 3) (s, [])) ⟨q1, fun o h9 => by rw [ho] at h9; simp at h9⟩
          exact ⟨q6, fun i hi => by rw [q7, q2]; exact hi⟩
      · rw [e]
        exact hfor _ (P31.end_ok hok (.inr rfl)) (.inr (.inr rfl)) (fun _ _ => rfl)
      · rw [e]
        exact hfor _ (P31.fail_ok hok _ n) (fail_ph _ _ _) (fun hu hs => fail_lost (by rw [hu] at h1 ⊢; exact (h.halted (by omega) _ hlt).2.2 h1))
end P32
end Go.Proofs.YtefokfbgpfcbkaaGreat
