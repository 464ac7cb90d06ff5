/- Lemmas of this claim (a part of its texts, kept as far as the claim reaches them). -/
import Derived.Test.YtefokfbgpfcbkaaGreatPlain32Z
namespace Go.Proofs.YtefokfbgpfcbkaaGreat
set_option linter.unusedVariables false
set_option linter.unusedSimpArgs false
namespace P32
open P22 (Def Step)
open P31 (Run)
theorem flat_one {α : Type} {f : Nat → List α} {i : Nat} (h1 : (f i).length ≤ 1) : ∀ {l : List Nat}, l.Nodup → (∀ k ∈ l, k ≠ i → f k = []) → (l.flatMap f).length ≤ 1
  | [], _, _ => by simp
  | k :: l, hn, h => by
    obtain ⟨n1, n2⟩ := List.nodup_cons.1 hn
    rw [List.flatMap_cons, List.length_append]
    by_cases hk : k = i
    · subst hk
      have : l.flatMap f = [] := by
        rw [List.flatMap_eq_nil_iff]
        intro x hx
        exact h x (by simp [hx]) (fun e => n1 (e ▸ hx))
      rw [this]
      simpa using h1
    · rw [h k (by simp) hk]
      have := flat_one h1 n2 (fun x hx => h x (by simp [hx]))
      simpa using this
theorem open_undo {d : Def} {s : S} (h : Inv d s) {o : Order} (ho : o ∈ open_ d s) (hu : o.undo = true) : (open_ d s).length ≤ 1 := by
  unfold open_ at ho ⊢
  obtain ⟨i, _, ho⟩ := List.mem_flatMap.1 ho
  have h1 : (s.run i true).phase = 1 := by
    rcases List.mem_append.1 ho with ho | ho
    · unfold openU at ho
      split at ho
      · simp at ho; subst ho; cases hu
      · simp at ho
    · unfold openU at ho
      split at ho
      · rename_i h1; exact h1
      · simp at ho
  have hf := h.tru i (by omega)
  refine flat_one (i := i) ?_ List.nodup_range (fun k _ hk => ?_)
  · simp [openU, hf i, h1]
  · have : (s.run k true).phase ≠ 1 := fun e => by
      have a := (h.trn k (.inl e)).1
      have b := (h.trn i (.inl h1)).1
      rw [b] at a
      cases a
      exact hk rfl
    simp [openU, hf k, this]
theorem und_get {d : Def} {s : S} (h : Inv d s) {k i : Nat} (hk : s.undone[k]? = some i) : s.done[s.done.length - 1 - k]? = some i := by
  have hl := (List.getElem?_eq_some_iff.1 hk).1
  have hl2 := h.len
  rw [h.und, List.getElem?_take_of_lt hl, List.getElem?_reverse (by omega)] at hk
  exact hk
end P32
end Go.Proofs.YtefokfbgpfcbkaaGreat
namespace Go.Proofs.YtefokfbgpfcbkaaGreat
set_option linter.unusedVariables false
set_option linter.unusedSimpArgs false
namespace P32
open P22 (Def Step)
open P31 (Run)
structure Ask where
  kind : Nat
  a : P33.Ans
  now : Int
  pos : Nat
def pick (d : Def) (s : S) (a : Ask) : P33.Ans :=
  if a.kind = 4 then match (open_ d s)[a.pos % (open_ d s).length]? with
    | some o => ⟨(o.step : Int), o.att, o.undo, a.a.outcome⟩
    | none => a.a
  else a.a
def give (d : Def) (s : S) (a : Ask) : S × List Order :=
  if a.kind = 0 ∨ a.kind = 4 then (answer d a.now (pick d s a) s).1 else if a.kind = 1 then tick d a.now s else if a.kind = 2 then (cancel d a.now s).1 else start d a.now s
theorem good_give {d : Def} {s : S} (h : Inv d s) (a : Ask) : Good d (give d s a) ∧ ∀ i ∈ s.done, i ∈ (give d s a).1.done := by
  unfold give
  split
  · exact good_answer h
  · split
    · obtain ⟨h1, h2⟩ := good_tick (n := a.now) h
      exact ⟨h1, fun i hi => by rw [h2]; exact hi⟩
    · split
      · obtain ⟨h1, h2⟩ := good_cancel (n := a.now) h
        exact ⟨h1, fun i hi => by rw [h2]; exact hi⟩
      · obtain ⟨h1, h2⟩ := good_start (n := a.now) h
        exact ⟨h1, fun i hi => by rw [h2]; exact hi⟩
theorem turn_get {s : S} {i : Nat} (h : turn s = some i) : s.undone.length < s.done.length ∧ s.done[s.done.length - 1 - s.undone.length]? = some i := by
  have hl := turn_more h
  unfold turn at h
  rw [List.getElem?_reverse (by omega)] at h
  exact ⟨hl, h⟩
theorem inv_start {d : Def} {s : S} (h : Inv d s) (hs : s.status = 0) : Inv d ⟨s.run, s.done, s.undone, 1⟩ := by
  obtain ⟨f1, f2⟩ := h.fwd (.inl (by omega))
  exact ⟨h.ok, h.rng, h.nodup, h.dn, h.und, h.len, h.refs, by show 1 ≤ 5; decide, fun hz => (by have hz : (1 : Nat) = 0 := hz; omega), fun _ => ⟨f1, f2⟩, fun hh => (by have hh : 2 ≤ 1 := hh; omega), h.shut, h.tru, h.trn, fun hz => (by have hz : (1 : Nat) = 3 := hz; omega), fun hz => (by have hz : (1 : Nat) = 4 := hz; omega), fun hz => (by have hz : (1 : Nat) = 5 := hz; omega)⟩
end P32
end Go.Proofs.YtefokfbgpfcbkaaGreat
namespace Go.Proofs.YtefokfbgpfcbkaaGreat
namespace P32
open P22 (Def Step)
open P31 (Run)
def waysL (N : Nat) : List (Nat × Bool) := (List.range N).map (fun i => (i, false)) ++ (List.range N).map (fun i => (i, true))
theorem waysL_len (N : Nat) : (waysL N).length = 2 * N := by simp [waysL]; omega
theorem waysL_get (N k i : Nat) (hk : k < 2) (hi : i < N) : (waysL N)[k * N + i]? = some (i, decide (k = 1)) := by
  unfold waysL
  have h2 : k = 0 ∨ k = 1 := by omega
  rcases h2 with rfl | rfl
  · rw [List.getElem?_append_left (by simp; omega)]
    simp [hi]
  · rw [List.getElem?_append_right (by simp)]
    simp [hi]
theorem waysL_of {N j : Nat} {p : Nat × Bool} (h : (waysL N)[j]? = some p) : p.1 < N ∧ j = (if p.2 = true then N else 0) + p.1 := by
  have hj : j < 2 * N := by have := (List.getElem?_eq_some_iff.1 h).1; rwa [waysL_len] at this
  rcases Nat.lt_or_ge j N with h1 | h1
  · have := waysL_get N 0 j (by omega) h1
    rw [Nat.zero_mul, Nat.zero_add, h] at this
    cases this
    exact ⟨h1, by simp⟩
  · have := waysL_get N 1 (j - N) (by omega) (by omega)
    rw [Nat.one_mul, show N + (j - N) = j by omega, h] at this
    cases this
    exact ⟨by show j - N < N; omega, by simp; omega⟩
def tickW (d : Def) (n : Int) (x : S × List Order) (p : Nat × Bool) : S × List Order := tick1 d n p.2 x p.1
def tickX (d : Def) (n : Int) (s : S) (j : Nat) : S × List Order := ((waysL d.steps.length).take j).foldl (tickW d n) (s, [])
theorem tickX_next {d : Def} {n : Int} {s : S} {j : Nat} {p : Nat × Bool} (h : (waysL d.steps.length)[j]? = some p) : tickX d n s (j + 1) = tick1 d n p.2 (tickX d n s j) p.1 := by
  unfold tickX
  rw [List.take_add_one, h, List.foldl_append]
  rfl
theorem tickX_all {d : Def} {n : Int} {s : S} (hm : moving s = true) : tick d n s = on d n (tickX d n s (waysL d.steps.length).length) := by
  unfold tick tickX
  rw [if_neg (by rw [hm]; simp), List.take_of_length_le (Nat.le_refl _)]
  unfold waysL
  rw [List.foldl_append, List.foldl_map, List.foldl_map]
  rfl
theorem put_len (i : Nat) (u : Bool) (r : Run) (x : S × List Order) : (put i u r x).2.length ≤ x.2.length + 1 := by
  unfold put
  simp only
  split
  · simp
  · omega
theorem tickX_good {d : Def} {n : Int} {s : S} (h : Inv d s) (hm : s.status = 1 ∨ s.status = 2) : ∀ j, j ≤ 2 * d.steps.length → Good d (tickX d n s j) ∧ (tickX d n s j).1.status = s.status ∧ (tickX d n s j).2.length ≤ j ∧ ∀ o ∈ (tickX d n s j).2, o.undo = true → o.step + d.steps.length < j
  | 0, _ => ⟨good_nil h, rfl, Nat.le_refl _, fun o ho => by simp [tickX] at ho⟩
  | j + 1, hj => by
    obtain ⟨q1, q2, q3, q4⟩ := tickX_good (n := n) h hm j (by omega)
    obtain ⟨⟨i, u⟩, hp⟩ : ∃ p, (waysL d.steps.length)[j]? = some p := ⟨_, List.getElem?_eq_getElem (by rw [waysL_len]; omega)⟩
    obtain ⟨hi, hju⟩ := waysL_of hp
    rw [tickX_next hp]
    simp only at hi hju ⊢
    obtain ⟨a, b, c, e⟩ := good_tick1 (n := n) (u := u) q1 (by rw [q2]; exact hm) hi (fun o ho hc => by
      have := q4 o ho hc.2.1
      rw [if_pos hc.1] at hju
      omega)
    refine ⟨a, c.trans q2, ?_, fun o ho hu => ?_⟩
    · unfold tick1
      split
      · exact Nat.le_trans (put_len _ _ _ _) (by omega)
      · omega
    · rcases e o ho with q | q
      · have := q4 o q hu; omega
      · rw [if_pos (q.1 ▸ hu)] at hju; omega
theorem good_ans {d : Def} {n : Int} {a : P33.Ans} {s : S} (h : Inv d s) (hm : moving s = true) (ht : ¬ (P31.answer (stepAt d a.step.toNat) n (s.run a.step.toNat a.undo) a.attempt a.outcome).2 = false) :
    Good d (put a.step.toNat a.undo (P31.answer (stepAt d a.step.toNat) n (s.run a.step.toNat a.undo) a.attempt a.outcome).1 (s, [])) := by
  have hm1 := moving_iff.1 hm
  have hok := h.ok a.step.toNat a.undo
  have h1 : (s.run a.step.toNat a.undo).phase = 1 := by
    by_cases h1 : (s.run a.step.toNat a.undo).phase = 1
    · exact h1
    · exact absurd (by unfold P31.answer; rw [if_pos (.inl h1)]) ht
  have hkey : (P31.answer (stepAt d a.step.toNat) n (s.run a.step.toNat a.undo) a.attempt a.outcome).1 = P31.end_ (s.run a.step.toNat a.undo) 3 ∨ (P31.answer (stepAt d a.step.toNat) n (s.run a.step.toNat a.undo) a.attempt a.outcome).1 = P31.end_ (s.run a.step.toNat a.undo) 4 ∨ (P31.answer (stepAt d a.step.toNat) n (s.run a.step.toNat a.undo) a.attempt a.outcome).1 = P31.fail (stepAt d a.step.toNat) n (s.run a.step.toNat a.undo) := by
    unfold P31.answer at ht ⊢
    split
    · rename_i hc; rw [if_pos hc] at ht; simp at ht
    · rename_i hc
      rw [if_neg hc] at ht
      split
      · exact .inl rfl
      · split
        · exact .inr (.inr rfl)
        · split
          · exact .inr (.inl rfl)
          · rename_i a1 a2 a3; rw [if_neg a1, if_neg a2, if_neg a3] at ht; simp at ht
  have hlt : a.step.toNat < d.steps.length := h.rng _ a.undo (by omega)
  have hfor : ∀ r : Run, r.ok → (r.phase = 1 ∨ r.phase = 2 ∨ r.phase = 4) → (a.undo = false → s.status = 2 → r.phase = 4) → Good d (put a.step.toNat a.undo r (s, [])) := fun r hr hp hl =>
    (good_step (good_nil h) hm1 hr (.inl h1) hp hl (fun o ho => by simp at ho)).1
  rcases hkey with e | e | e
  · rw [e]
    cases hu : a.undo with
    | false =>
      rw [hu] at h1 hok
      obtain ⟨q1, q2, q3, q4, q5⟩ := inv_putD (x := (s, [])) h (P31.end_ok hok (.inl rfl)) h1 rfl hm1
      exact ⟨q1, fun o ho => by rw [q5] at ho; simp at ho⟩
    | true =>
      rw [hu] at h1 hok
      obtain ⟨t1, t2⟩ := h.trn _ (.inl h1)
      have hs : s.status = 2 := by
        rcases hm1 with hm1 | hm1
        · have := (h.fwd (.inl (by omega))).1 a.step.toNat; omega
        · exact hm1
      obtain ⟨q1, q2, q3, q4⟩ := inv_putU (x := (s, [])) h (P31.end_ok hok (.inl rfl)) t1 t2 (h.tru a.step.toNat (by omega)) hs
      have ho : (put a.step.toNat true (P31.end_ (s.run a.step.toNat true) 3) (s, [])).2 = [] := by
        unfold put P31.end_; simp
      exact ⟨q1, fun o h9 => by rw [ho] at h9; simp at h9⟩
  · rw [e]
    exact hfor _ (P31.end_ok hok (.inr rfl)) (.inr (.inr rfl)) (fun _ _ => rfl)
  · rw [e]
    exact hfor _ (P31.fail_ok hok _ n) (fail_ph _ _ _) (fun hu hs => fail_lost (by rw [hu] at h1 ⊢; exact (h.halted (by omega) _ hlt).2.2 h1))
end P32
end Go.Proofs.YtefokfbgpfcbkaaGreat
