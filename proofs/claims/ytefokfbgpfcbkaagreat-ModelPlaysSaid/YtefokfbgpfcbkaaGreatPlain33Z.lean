/- Lemmas of this claim (a part of its texts, kept as far as the claim reaches them). -/
import Derived.Test.YtefokfbgpfcbkaaGreatPlain28Z
namespace Go.Proofs.YtefokfbgpfcbkaaGreat
set_option linter.unusedVariables false
set_option linter.unusedSimpArgs false
namespace P33
open P22 (Def Step)
structure Order where
  step : Int
  attempt : Int
  undo : Bool
structure Ans where
  step : Int
  attempt : Int
  undo : Bool
  outcome : Nat
structure Act where
  kind : Nat
  o : Order
  a : Ans
  status : Nat
structure S where
  w : Nat → Bool → Int × Bool
  done : List Nat
  undone : List Nat
  failed : Bool
  status : Nat
def S.new : S := ⟨fun _ _ => (0, false), [], [], false, 1⟩
def most (s : P22.Try) : Int := min (max (P28.meant s.most 1) 0) 10
def more (s : P22.Try) (t : Int) : Bool := decide (1 ≤ t) && decide (t < most s)
def undoOf (d : Def) (i : Nat) : List UInt8 := (P28.undos d).getD i []
def triesOf (d : Def) (i : Nat) : P22.Try := (d.steps.map (·.tries)).getD i ⟨0, 0, 0⟩
def back (d : Def) (s : S) (i : Nat) : Bool := !(undoOf d i).isEmpty && !decide (i ∈ s.undone)
def turn (d : Def) (s : S) : Option Nat := s.done.reverse.find? (back d s)
def moving (s : S) : Bool := s.status == 1 || s.status == 2
def has (d : Def) (i : Int) : Bool := decide (0 ≤ i) && decide (i < (d.steps.length : Int))
def orderE (d : Def) (s : S) (i : Nat) (u : Bool) : Int :=
  if u then (match turn d s with | some j => if j = i then 0 else 8 | none => 8)
  else if s.status ≠ 1 then 13 else if ((P28.refs d).getD i []).any (fun j => !decide (j ∈ s.done)) then 8 else if i ∈ s.done then 8 else 0
def upd (w : Nat → Bool → Int × Bool) (i : Nat) (u : Bool) (v : Int × Bool) : Nat → Bool → Int × Bool := fun j b => if j = i ∧ b = u then v else w j b
def shut (n : Nat) (w : Nat → Bool → Int × Bool) : Nat → Bool → Int × Bool := fun j b => if b = false ∧ j < n then ((w j b).1, false) else w j b
def asks (d : Def) (s : S) (o : Order) : Int × S :=
  if moving s = false then (13, s) else if has d o.step = false then (1, s) else
  if orderE d s o.step.toNat o.undo ≠ 0 then (orderE d s o.step.toNat o.undo, s) else
  if o.attempt ≠ (s.w o.step.toNat o.undo).1 + 1 ∨ (0 < (s.w o.step.toNat o.undo).1 ∧ more (triesOf d o.step.toNat) (s.w o.step.toNat o.undo).1 = false) then (3, s) else
  (0, if o.undo then { s with status := 2, w := upd (shut d.steps.length s.w) o.step.toNat true (o.attempt, true) } else { s with w := upd s.w o.step.toNat false (o.attempt, true) })
def bad (d : Def) (i : Nat) (t : Int) (outcome : Nat) : Bool := outcome == 2 || (outcome == 1 && !more (triesOf d i) t)
def says (d : Def) (s : S) (a : Ans) : Int × S :=
  if moving s = false then (13, s) else if has d a.step = false then (1, s) else
  if (s.w a.step.toNat a.undo).2 = false ∨ (s.w a.step.toNat a.undo).1 ≠ a.attempt ∨ 2 < a.outcome then (5, s) else
  (0, if bad d a.step.toNat (s.w a.step.toNat a.undo).1 a.outcome then
      (if a.undo then { s with w := upd s.w a.step.toNat a.undo ((s.w a.step.toNat a.undo).1, false), failed := true } else { s with w := upd s.w a.step.toNat a.undo ((s.w a.step.toNat a.undo).1, false), status := 2 })
    else if a.outcome = 0 then
      (if a.undo then { s with w := upd s.w a.step.toNat a.undo ((s.w a.step.toNat a.undo).1, false), undone := s.undone ++ [a.step.toNat] } else { s with w := upd s.w a.step.toNat a.undo ((s.w a.step.toNat a.undo).1, false), done := s.done ++ [a.step.toNat] })
    else { s with w := upd s.w a.step.toNat a.undo ((s.w a.step.toNat a.undo).1, false) })
def halts (s : S) : Int × S := if s.status ≠ 1 then (13, s) else (0, { s with status := 2 })
def whole (d : Def) (s : S) : Bool := s.status == 1 && decide (s.done.length = d.steps.length)
def lastT (d : Def) (s : S) : Bool := match turn d s with
  | some i => decide (0 < (s.w i true).1) && !more (triesOf d i) (s.w i true).1
  | none => false
def ends (d : Def) (s : S) (st : Nat) : Int × S :=
  if moving s = false then (13, s) else if st ≠ 3 ∧ st ≠ 4 ∧ st ≠ 5 then (1, s) else
  if (if st = 3 then whole d s else if st = 4 then !whole d s && (turn d s).isNone else s.failed || lastT d s) = false then (8, s) else (0, { s with status := st })
def act (d : Def) (s : S) (a : Act) : Int × S := if a.kind = 0 then asks d s a.o else if a.kind = 1 then says d s a.a else if a.kind = 2 then halts s else ends d s a.status
def todo (d : Def) (s : S) : List Nat := s.done.reverse.filter fun i => !(undoOf d i).isEmpty
structure Inv (d : Def) (s : S) : Prop where
  nodup : s.done.Nodup
  lt : ∀ i ∈ s.done, i < d.steps.length
  open_ : ∀ i, (s.w i false).2 = true → i ∉ s.done ∧ i < d.steps.length
  und : s.undone = (todo d s).take s.undone.length
  len : s.undone.length ≤ (todo d s).length
  uopen : ∀ i, (s.w i true).2 = true → turn d s = some i ∧ (∀ j, (s.w j false).2 = false) ∧ s.status ≠ 1
  uu : s.undone ≠ [] → (∀ j, (s.w j false).2 = false) ∧ s.status ≠ 1
theorem inv_new (d : Def) : Inv d S.new := by
  refine ⟨by simp [S.new], by simp [S.new], ?_, by simp [S.new, todo], by simp [S.new], ?_, by simp [S.new]⟩
  · intro i h; simp [S.new] at h
  · intro i h; simp [S.new] at h
theorem find_filter {α : Type} (p q : α → Bool) : ∀ l : List α, l.find? (fun x => p x && q x) = (l.filter p).find? q
  | [] => rfl
  | x :: l => by
    rw [List.find?_cons, List.filter_cons]
    cases hp : p x with
    | false =>
      simp only [Bool.false_and, Bool.false_eq_true, if_false]
      exact find_filter p q l
    | true =>
      simp only [Bool.true_and, if_true, List.find?_cons]
      cases q x with
      | true => rfl
      | false => exact find_filter p q l
theorem find_congr {α : Type} {p q : α → Bool} : ∀ {l : List α}, (∀ x ∈ l, p x = q x) → l.find? p = l.find? q
  | [], _ => rfl
  | x :: l, h => by
    rw [List.find?_cons, List.find?_cons, h x (by simp), find_congr (fun y hy => h y (by simp [hy]))]
theorem find_not_take {l : List Nat} (hn : l.Nodup) (m : Nat) : l.find? (fun i => !decide (i ∈ l.take m)) = l[m]? := by
  induction l generalizing m with
  | nil => simp
  | cons x l ih =>
    cases m with
    | zero => simp
    | succ m =>
      obtain ⟨h1, h2⟩ := List.nodup_cons.1 hn
      rw [List.find?_cons]
      simp only [List.take_succ_cons, List.mem_cons, true_or, decide_true, Bool.not_true]
      rw [List.getElem?_cons_succ, ← ih h2 m]
      refine find_congr (fun y hy => ?_)
      have : y ≠ x := fun e => h1 (e ▸ hy)
      simp [this]
theorem todo_nodup {d : Def} {s : S} (h : s.done.Nodup) : (todo d s).Nodup := List.Nodup.sublist List.filter_sublist (List.pairwise_reverse.2 (h.imp Ne.symm))
theorem turn_get {d : Def} {s : S} (h : Inv d s) : turn d s = (todo d s)[s.undone.length]? := by
  unfold turn back
  rw [find_filter (fun i => !(undoOf d i).isEmpty)]
  have e := find_not_take (todo_nodup (d := d) h.nodup) s.undone.length
  rw [← h.und] at e
  exact e
theorem inv_asks {d : Def} {s : S} (h : Inv d s) (o : Order) : Inv d (asks d s o).2 := by
  unfold asks
  split
  · exact h
  · split
    · exact h
    · rename_i hm hh
      split
      · exact h
      · rename_i ho
        split
        · exact h
        · rename_i hf
          simp only [ne_eq, Decidable.not_not] at ho
          have hlt : o.step.toNat < d.steps.length := by
            simp only [has, Bool.not_eq_false, Bool.and_eq_true, decide_eq_true_eq] at hh
            omega
          cases hu : o.undo with
          | true =>
            simp only [if_true]
            rw [hu] at ho
            unfold orderE at ho
            simp only [if_true] at ho
            cases ht : turn d s with
            | none => rw [ht] at ho; simp at ho
            | some j =>
              rw [ht] at ho
              simp only at ho
              have hj : j = o.step.toNat := by
                by_cases hj : j = o.step.toNat
                · exact hj
                · rw [if_neg hj] at ho; simp at ho
              subst hj
              have hcl : ∀ k, (upd (shut d.steps.length s.w) o.step.toNat true (o.attempt, true) k false).2 = false := by
                intro k
                unfold upd shut
                rw [if_neg (by simp)]
                by_cases hk : k < d.steps.length
                · simp [hk]
                · simp only [hk, and_false, if_false]
                  cases hq : (s.w k false).2 with
                  | false => rfl
                  | true => exact absurd (h.open_ k hq).2 hk
              refine ⟨h.nodup, h.lt, fun i hi => ?_, h.und, h.len, fun i hi => ?_, fun _ => ⟨hcl, by simp⟩⟩
              · rw [hcl i] at hi; cases hi
              · refine ⟨?_, hcl, by simp⟩
                have ht2 : turn d { s with status := 2, w := upd (shut d.steps.length s.w) o.step.toNat true (o.attempt, true) } = turn d s := rfl
                rw [ht2, ht]
                simp only [upd, shut] at hi
                by_cases hio : i = o.step.toNat
                · rw [hio]
                · simp only [hio, false_and, if_false] at hi
                  rw [if_neg (by simp)] at hi
                  have := (h.uopen i hi).1
                  rw [ht] at this
                  exact this
          | false =>
            simp only [Bool.false_eq_true, if_false]
            rw [hu] at ho
            unfold orderE at ho
            simp only [Bool.false_eq_true, if_false] at ho
            have hs1 : s.status = 1 := by
              by_cases hs : s.status = 1
              · exact hs
              · rw [if_pos hs] at ho; simp at ho
            have hnd : o.step.toNat ∉ s.done := by
              intro hd
              rw [if_neg (by simp [hs1])] at ho
              split at ho
              · simp at ho
              · simp [hd] at ho
            refine ⟨h.nodup, h.lt, fun i hi => ?_, h.und, h.len, fun i hi => ?_, fun hne => absurd hs1 (h.uu hne).2⟩
            · simp only [upd] at hi
              by_cases hio : i = o.step.toNat
              · rw [hio]; exact ⟨hnd, hlt⟩
              · simp only [hio, false_and, if_false] at hi
                exact h.open_ i hi
            · simp only [upd] at hi
              rw [if_neg (by simp)] at hi
              exact absurd hs1 (h.uopen i hi).2.2
theorem shut1 {w : Nat → Bool → Int × Bool} {i j : Nat} {u b : Bool} {v : Int} (h : (upd w i u (v, false) j b).2 = true) : (w j b).2 = true ∧ ¬ (j = i ∧ b = u) := by
  unfold upd at h
  split at h
  · cases h
  · rename_i hn; exact ⟨h, hn⟩
theorem inv_says {d : Def} {s : S} (h : Inv d s) (a : Ans) : Inv d (says d s a).2 := by
  unfold says
  split
  · exact h
  · split
    · exact h
    · split
      · exact h
      · rename_i hm hh hx
        simp only [not_or, Bool.not_eq_false, ne_eq, Decidable.not_not, Nat.not_lt] at hx
        obtain ⟨hx1, hx2, hx3⟩ := hx
        -- closing a way keeps all
        have hcl : ∀ (f : Bool) (st : Nat), (s.status ≠ 1 → st ≠ 1) → Inv d { s with w := upd s.w a.step.toNat a.undo ((s.w a.step.toNat a.undo).1, false), failed := f, status := st } := by
          intro f st hst
          refine ⟨h.nodup, h.lt, fun i hi => h.open_ i (shut1 hi).1, h.und, h.len, fun i hi => ?_, fun hne => ⟨fun j => ?_, hst (h.uu hne).2⟩⟩
          · obtain ⟨q1, q2, q3⟩ := h.uopen i (shut1 hi).1
            refine ⟨q1, fun j => ?_, hst q3⟩
            cases hq : (upd s.w a.step.toNat a.undo ((s.w a.step.toNat a.undo).1, false) j false).2 with
            | false => rfl
            | true => have := (shut1 hq).1; rw [q2 j] at this; cases this
          · cases hq : (upd s.w a.step.toNat a.undo ((s.w a.step.toNat a.undo).1, false) j false).2 with
            | false => rfl
            | true => have := (shut1 hq).1; rw [(h.uu hne).1 j] at this; cases this
        simp only
        split
        · split
          · exact hcl true s.status (fun h => h)
          · exact hcl s.failed 2 (fun _ => by decide)
        · split
          · split
            · -- undone
              rename_i hu
              rw [hu] at hx1
              obtain ⟨q1, q2, q3⟩ := h.uopen _ hx1
              have hg := turn_get h
              rw [q1] at hg
              have hg := hg.symm
              have hlt := (List.getElem?_eq_some_iff.1 hg).1
              have c := hcl s.failed s.status (fun h => h)
              rw [hu] at c
              rw [hu]
              refine ⟨h.nodup, h.lt, c.open_, ?_, ?_, fun i hi => ?_, fun _ => ⟨fun j => ?_, q3⟩⟩
              · show s.undone ++ [a.step.toNat] = (todo d s).take (s.undone ++ [a.step.toNat]).length
                rw [List.length_append, List.length_singleton, List.take_add_one, hg, ← h.und]
                rfl
              · show (s.undone ++ [a.step.toNat]).length ≤ (todo d s).length
                rw [List.length_append, List.length_singleton]
                omega
              · obtain ⟨r1, r2⟩ := shut1 hi
                have := (h.uopen i r1).1
                rw [q1] at this
                cases this
                exact absurd ⟨rfl, rfl⟩ r2
              · cases hq : (upd s.w a.step.toNat true ((s.w a.step.toNat true).1, false) j false).2 with
                | false => rfl
                | true => have := (shut1 hq).1; rw [q2 j] at this; cases this
            · -- done
              rename_i hu
              have hu : a.undo = false := by simpa using hu
              rw [hu] at hx1
              obtain ⟨o1, o2⟩ := h.open_ _ hx1
              have hue : s.undone = [] := by
                by_cases hne : s.undone = []
                · exact hne
                · have := (h.uu hne).1 a.step.toNat; rw [hx1] at this; cases this
              rw [hu]
              refine ⟨?_, ?_, fun i hi => ?_, ?_, ?_, fun i hi => ?_, fun hne => absurd hue hne⟩
              · show (s.done ++ [a.step.toNat]).Nodup
                rw [List.nodup_append]
                exact ⟨h.nodup, by simp, fun x hx y hy e => by simp at hy; subst hy; subst e; exact o1 hx⟩
              · intro i hi
                rcases List.mem_append.1 hi with hi | hi
                · exact h.lt i hi
                · simp at hi; rw [hi]; exact o2
              · obtain ⟨r1, r2⟩ := shut1 hi
                obtain ⟨r3, r4⟩ := h.open_ i r1
                refine ⟨fun hm => ?_, r4⟩
                rcases List.mem_append.1 hm with hm | hm
                · exact r3 hm
                · simp at hm; exact r2 ⟨hm, rfl⟩
              · show s.undone = _
                rw [hue]; rfl
              · show s.undone.length ≤ _
                rw [hue]; exact Nat.zero_le _
              · have := (h.uopen i (shut1 hi).1).2.1 a.step.toNat
                rw [hx1] at this
                cases this
          · exact hcl s.failed s.status (fun h => h)
theorem inv_act {d : Def} {s : S} (h : Inv d s) (a : Act) : Inv d (act d s a).2 := by
  unfold act
  split
  · exact inv_asks h _
  · split
    · exact inv_says h _
    · split
      · unfold halts
        split
        · exact h
        · exact ⟨h.nodup, h.lt, h.open_, h.und, h.len, fun i hi => ⟨(h.uopen i hi).1, (h.uopen i hi).2.1, by simp⟩, fun hne => ⟨(h.uu hne).1, by simp⟩⟩
      · unfold ends
        split
        · exact h
        · split
          · exact h
          · obtain ⟨B, hB⟩ : ∃ B, (if a.status = 3 then whole d s else if a.status = 4 then !whole d s && (turn d s).isNone else s.failed || lastT d s) = B := ⟨_, rfl⟩
            rw [hB]
            cases B with
            | false => exact h
            | true =>
              rename_i h1 h2
              have hst : a.status ≠ 1 := by
                intro e
                exact h2 ⟨by omega, by omega, by omega⟩
              exact ⟨h.nodup, h.lt, h.open_, h.und, h.len, fun i hi => ⟨(h.uopen i hi).1, (h.uopen i hi).2.1, hst⟩, fun hne => ⟨(h.uu hne).1, hst⟩⟩
end P33
namespace P31
theorem more_lt {t : P22.Try} {k : Int} (h : P33.more t k = true) : 1 ≤ k ∧ k ≤ 9 := by
  unfold P33.more P33.most at h
  simp only [Bool.and_eq_true, decide_eq_true_eq] at h
  omega
end P31
namespace P32
theorem len_le : ∀ (n : Nat) (l : List Nat), l.Nodup → (∀ x ∈ l, x < n) → l.length ≤ n
  | 0, l, _, h => by
    cases l with
    | nil => simp
    | cons x l => exact absurd (h x (by simp)) (by omega)
  | n + 1, l, hn, h => by
    by_cases hm : n ∈ l
    · have h1 := len_le n (l.erase n) (hn.erase n) (fun x hx => by
        have h2 := (List.Nodup.mem_erase_iff hn).1 hx
        have := h x h2.2
        have := h2.1
        omega)
      rw [List.length_erase_of_mem hm] at h1
      omega
    · have := len_le n l hn (fun x hx => by
        have h1 := h x hx
        have : x ≠ n := fun e => hm (e ▸ hx)
        omega)
      omega
end P32
end Go.Proofs.YtefokfbgpfcbkaaGreat
