/- Lemmas of this claim (a part of its texts, kept as far as the claim reaches them). -/
import Derived.Test.YtefokfbgpfcbkaaGreatPlain32Z
namespace Go.Proofs.YtefokfbgpfcbkaaGreat
set_option linter.unusedVariables false
set_option linter.unusedSimpArgs false
namespace P32
open P22 (Def Step)
open P31 (Run)
def Past (i : Nat) (u : Bool) (t : Int) (s : S) : Prop := (s.run i u).phase ≠ 0 ∧ ((s.run i u).phase = 1 → (s.run i u).att ≠ t)
theorem past_put {i k : Nat} {u b : Bool} {t : Int} {r : Run} {x : S × List Order} (h : Past i u t x.1) (h0 : (x.1.run k b).phase = 0) : Past i u t (put k b r x).1 := by
  unfold Past at h ⊢
  have e : (put k b r x).1.run i u = x.1.run i u := setR_ne (fun hc => h.1 (by rw [hc.1, hc.2]; exact h0))
  rw [e]
  exact h
theorem past_go1 {d : Def} {n : Int} {i k : Nat} {u : Bool} {t : Int} {x : S × List Order} (h : Past i u t x.1) : Past i u t (go1 d n x k).1 := by
  unfold go1
  split
  · rename_i hr
    unfold ready at hr
    simp only [Bool.and_eq_true, beq_iff_eq] at hr
    exact past_put h hr.1
  · exact h
theorem past_halt {d : Def} {i : Nat} {u : Bool} {t : Int} {s : S} (h : Past i u t s) : Past i u t (halt d s) := by
  unfold Past halt at *
  simp only
  split
  · have hq := stop_phase (s.run i u)
    refine ⟨hq.2.2.1, fun e => ?_⟩
    have h1 := hq.2.1.1 e
    have e2 : (P31.stop (s.run i u)).att = (s.run i u).att := by unfold P31.stop; split; rfl; first | rfl | (split <;> rfl)
    rw [e2]
    exact h.2 h1
  · exact h
theorem past_back {d : Def} {n : Int} {i : Nat} {u : Bool} {t : Int} : ∀ (f : Nat) {x : S × List Order}, Past i u t x.1 → Past i u t (backGo d n f x).1
  | 0, x, h => h
  | f + 1, x, h => by
    unfold backGo
    split
    · exact h
    · split
      · exact past_back f (x := (⟨x.1.run, x.1.done, x.1.undone ++ [_], x.1.status⟩, x.2)) h
      · split
        · exact h
        · split
          · rename_i h0; exact past_put h h0
          · exact h
theorem past_on {d : Def} {n : Int} {i : Nat} {u : Bool} {t : Int} {x : S × List Order} (h : Past i u t x.1) : Past i u t (on d n x).1 := by
  have h1 : Past i u t (on1 d n x).1 := by
    unfold on1
    split
    · unfold forth
      split
      · exact past_halt h
      · split
        · exact h
        · exact foldl_range (go1 d n) (fun _ y => Past i u t y.1) _ x h (fun k y _ hy => past_go1 hy)
    · exact h
  unfold on on2
  split
  · unfold back
    split
    · exact h1
    · exact past_back _ h1
  · exact h1
theorem past_none {d : Def} {n : Int} {a : P33.Ans} {s : S} (h : Past a.step.toNat a.undo a.attempt s) : answer d n a s = ((s, []), false) := by
  unfold answer
  split
  · rfl
  · have e : (P31.answer (stepAt d a.step.toNat) n (s.run a.step.toNat a.undo) a.attempt a.outcome).2 = false := by
      unfold P31.answer
      by_cases h1 : (s.run a.step.toNat a.undo).phase = 1
      · rw [if_pos (.inr (h.2 h1))]
      · rw [if_pos (.inl h1)]
    rw [if_pos e]
theorem answer_twice {d : Def} {n m : Int} {a : P33.Ans} {s : S} (h : (answer d n a s).2 = true) : answer d m a (answer d n a s).1.1 = (((answer d n a s).1.1, []), false) := by
  refine past_none ?_
  unfold answer at h ⊢
  split
  · rename_i hc; rw [if_pos hc] at h; cases h
  · rename_i hc
    rw [if_neg hc] at h
    split
    · rename_i hc; rw [if_pos hc] at h; cases h
    · rename_i ht
      refine past_on ?_
      unfold Past
      have e : (put a.step.toNat a.undo (P31.answer (stepAt d a.step.toNat) n (s.run a.step.toNat a.undo) a.attempt a.outcome).1 (s, [])).1.run a.step.toNat a.undo = (P31.answer (stepAt d a.step.toNat) n (s.run a.step.toNat a.undo) a.attempt a.outcome).1 := setR_self _ _ _ _
      rw [e]
      unfold P31.answer at ht ⊢
      split
      · rename_i hc; rw [if_pos hc] at ht; simp at ht
      · rename_i hc
        rw [if_neg hc] at ht
        simp only [ne_eq, not_or, Decidable.not_not] at hc
        split
        · exact ⟨by simp [P31.end_], by simp [P31.end_]⟩
        · split
          · have hp := fail_ph (stepAt d a.step.toNat) n (s.run a.step.toNat a.undo)
            refine ⟨by simp only; omega, fun e1 => ?_⟩
            have := P31.fail_att _ _ _ e1
            simp only at this ⊢
            omega
          · split
            · exact ⟨by simp [P31.end_], by simp [P31.end_]⟩
            · rename_i a1 a2 a3; rw [if_neg a1, if_neg a2, if_neg a3] at ht; simp at ht
theorem over_open {d : Def} {s : S} (h : Inv d s) (ho : 2 < s.status) (i : Nat) (u : Bool) : (s.run i u).phase ≠ 1 := by
  have hst := h.st
  have h3 : s.status = 3 ∨ s.status = 4 ∨ s.status = 5 := by omega
  intro e
  have hi := h.rng i u (by omega)
  cases u with
  | false =>
    rcases h3 with h3 | h3 | h3
    · have := h.all (h.e3 h3) hi; omega
    · exact (h.e4 h3).2 i e
    · obtain ⟨k, _, hk⟩ := h.e5 h3
      exact h.tru k (by omega) i e
  | true =>
    rcases h3 with h3 | h3 | h3
    · have := (h.fwd (.inr h3)).1 i; omega
    · have := turn_more (h.trn i (.inl e)).1
      have := (h.e4 h3).1
      omega
    · obtain ⟨k, h1, hk⟩ := h.e5 h3
      have := (h.trn i (.inl e)).1
      rw [h1] at this
      cases this
      omega
theorem over_none {d : Def} {s : S} (h : Inv d s) (ho : 2 < s.status) : open_ d s = [] := by
  unfold open_
  rw [List.flatMap_eq_nil_iff]
  intro i _
  simp [openU, over_open h ho i false, over_open h ho i true]
end P32
end Go.Proofs.YtefokfbgpfcbkaaGreat
namespace Go.Proofs.YtefokfbgpfcbkaaGreat
set_option linter.unusedVariables false
set_option linter.unusedSimpArgs false
namespace P32
open P22 (Def Step)
open P31 (Run)
structure Ask where
  kind : Nat
  a : P33.Ans
  now : Int
  pos : Nat
def pick (d : Def) (s : S) (a : Ask) : P33.Ans :=
  if a.kind = 4 then match (open_ d s)[a.pos % (open_ d s).length]? with
    | some o => ⟨(o.step : Int), o.att, o.undo, a.a.outcome⟩
    | none => a.a
  else a.a
def give (d : Def) (s : S) (a : Ask) : S × List Order :=
  if a.kind = 0 ∨ a.kind = 4 then (answer d a.now (pick d s a) s).1 else if a.kind = 1 then tick d a.now s else if a.kind = 2 then (cancel d a.now s).1 else start d a.now s
theorem inv_start {d : Def} {s : S} (h : Inv d s) (hs : s.status = 0) : Inv d ⟨s.run, s.done, s.undone, 1⟩ := by
  obtain ⟨f1, f2⟩ := h.fwd (.inl (by omega))
  exact ⟨h.ok, h.rng, h.nodup, h.dn, h.und, h.len, h.refs, by show 1 ≤ 5; decide, fun hz => (by have hz : (1 : Nat) = 0 := hz; omega), fun _ => ⟨f1, f2⟩, fun hh => (by have hh : 2 ≤ 1 := hh; omega), h.shut, h.tru, h.trn, fun hz => (by have hz : (1 : Nat) = 3 := hz; omega), fun hz => (by have hz : (1 : Nat) = 4 := hz; omega), fun hz => (by have hz : (1 : Nat) = 5 := hz; omega)⟩
theorem over_answer {d : Def} {n : Int} {a : P33.Ans} {s : S} (h : 2 < s.status) : answer d n a s = ((s, []), false) := by
  unfold answer
  have : moving s = false := by simp [moving]; omega
  rw [if_pos (.inl this)]
theorem over_cancel {d : Def} {n : Int} {s : S} (h : 2 < s.status) : cancel d n s = ((s, []), false) := by
  unfold cancel
  rw [if_pos (by omega)]
theorem over_tick {d : Def} {n : Int} {s : S} (h : 2 < s.status) : tick d n s = (s, []) := by
  unfold tick
  have : moving s = false := by simp [moving]; omega
  rw [if_pos this]
theorem over_start {d : Def} {n : Int} {s : S} (h : 2 < s.status) : start d n s = (s, []) := by
  unfold start
  rw [if_pos (by omega)]
theorem over_means {d : Def} {s : S} (h : Inv d s) (ho : 2 < s.status) : (s.status = 3 ∧ s.done.length = d.steps.length ∧ s.undone.length = 0) ∨ (s.status = 4 ∧ s.undone.length = s.done.length) ∨ (s.status = 5 ∧ s.undone.length < s.done.length) := by
  have := h.st
  have h3 : s.status = 3 ∨ s.status = 4 ∨ s.status = 5 := by omega
  rcases h3 with h3 | h3 | h3
  · exact .inl ⟨h3, h.e3 h3, by rw [(h.fwd (.inr h3)).2]; rfl⟩
  · exact .inr (.inl ⟨h3, (h.e4 h3).1⟩)
  · obtain ⟨i, h1, _⟩ := h.e5 h3
    exact .inr (.inr ⟨h3, turn_more h1⟩)
end P32
end Go.Proofs.YtefokfbgpfcbkaaGreat
namespace Go.Proofs.YtefokfbgpfcbkaaGreat
namespace P32
open P22 (Def Step)
open P31 (Run)
def waysL (N : Nat) : List (Nat × Bool) := (List.range N).map (fun i => (i, false)) ++ (List.range N).map (fun i => (i, true))
theorem waysL_len (N : Nat) : (waysL N).length = 2 * N := by simp [waysL]; omega
theorem waysL_get (N k i : Nat) (hk : k < 2) (hi : i < N) : (waysL N)[k * N + i]? = some (i, decide (k = 1)) := by
  unfold waysL
  have h2 : k = 0 ∨ k = 1 := by omega
  rcases h2 with rfl | rfl
  · rw [List.getElem?_append_left (by simp; omega)]
    simp [hi]
  · rw [List.getElem?_append_right (by simp)]
    simp [hi]
theorem waysL_of {N j : Nat} {p : Nat × Bool} (h : (waysL N)[j]? = some p) : p.1 < N ∧ j = (if p.2 = true then N else 0) + p.1 := by
  have hj : j < 2 * N := by have := (List.getElem?_eq_some_iff.1 h).1; rwa [waysL_len] at this
  rcases Nat.lt_or_ge j N with h1 | h1
  · have := waysL_get N 0 j (by omega) h1
    rw [Nat.zero_mul, Nat.zero_add, h] at this
    cases this
    exact ⟨h1, by simp⟩
  · have := waysL_get N 1 (j - N) (by omega) (by omega)
    rw [Nat.one_mul, show N + (j - N) = j by omega, h] at this
    cases this
    exact ⟨by show j - N < N; omega, by simp; omega⟩
def tickW (d : Def) (n : Int) (x : S × List Order) (p : Nat × Bool) : S × List Order := tick1 d n p.2 x p.1
def tickX (d : Def) (n : Int) (s : S) (j : Nat) : S × List Order := ((waysL d.steps.length).take j).foldl (tickW d n) (s, [])
theorem tickX_next {d : Def} {n : Int} {s : S} {j : Nat} {p : Nat × Bool} (h : (waysL d.steps.length)[j]? = some p) : tickX d n s (j + 1) = tick1 d n p.2 (tickX d n s j) p.1 := by
  unfold tickX
  rw [List.take_add_one, h, List.foldl_append]
  rfl
theorem tickX_all {d : Def} {n : Int} {s : S} (hm : moving s = true) : tick d n s = on d n (tickX d n s (waysL d.steps.length).length) := by
  unfold tick tickX
  rw [if_neg (by rw [hm]; simp), List.take_of_length_le (Nat.le_refl _)]
  unfold waysL
  rw [List.foldl_append, List.foldl_map, List.foldl_map]
  rfl
theorem put_len (i : Nat) (u : Bool) (r : Run) (x : S × List Order) : (put i u r x).2.length ≤ x.2.length + 1 := by
  unfold put
  simp only
  split
  · simp
  · omega
theorem tickX_good {d : Def} {n : Int} {s : S} (h : Inv d s) (hm : s.status = 1 ∨ s.status = 2) : ∀ j, j ≤ 2 * d.steps.length → Good d (tickX d n s j) ∧ (tickX d n s j).1.status = s.status ∧ (tickX d n s j).2.length ≤ j ∧ ∀ o ∈ (tickX d n s j).2, o.undo = true → o.step + d.steps.length < j
  | 0, _ => ⟨good_nil h, rfl, Nat.le_refl _, fun o ho => by simp [tickX] at ho⟩
  | j + 1, hj => by
    obtain ⟨q1, q2, q3, q4⟩ := tickX_good (n := n) h hm j (by omega)
    obtain ⟨⟨i, u⟩, hp⟩ : ∃ p, (waysL d.steps.length)[j]? = some p := ⟨_, List.getElem?_eq_getElem (by rw [waysL_len]; omega)⟩
    obtain ⟨hi, hju⟩ := waysL_of hp
    rw [tickX_next hp]
    simp only at hi hju ⊢
    obtain ⟨a, b, c, e⟩ := good_tick1 (n := n) (u := u) q1 (by rw [q2]; exact hm) hi (fun o ho hc => by
      have := q4 o ho hc.2.1
      rw [if_pos hc.1] at hju
      omega)
    refine ⟨a, c.trans q2, ?_, fun o ho hu => ?_⟩
    · unfold tick1
      split
      · exact Nat.le_trans (put_len _ _ _ _) (by omega)
      · omega
    · rcases e o ho with q | q
      · have := q4 o q hu; omega
      · rw [if_pos (q.1 ▸ hu)] at hju; omega
theorem good_ans {d : Def} {n : Int} {a : P33.Ans} {s : S} (h : Inv d s) (hm : moving s = true) (ht : ¬ (P31.answer (stepAt d a.step.toNat) n (s.run a.step.toNat a.undo) a.attempt a.outcome).2 = false) :
    Good d (put a.step.toNat a.undo (P31.answer (stepAt d a.step.toNat) n (s.run a.step.toNat a.undo) a.attempt a.outcome).1 (s, [])) := by
  have hm1 := moving_iff.1 hm
  have hok := h.ok a.step.toNat a.undo
  have h1 : (s.run a.step.toNat a.undo).phase = 1 := by
    by_cases h1 : (s.run a.step.toNat a.undo).phase = 1
    · exact h1
    · exact absurd (by unfold P31.answer; rw [if_pos (.inl h1)]) ht
  have hkey : (P31.answer (stepAt d a.step.toNat) n (s.run a.step.toNat a.undo) a.attempt a.outcome).1 = P31.end_ (s.run a.step.toNat a.undo) 3 ∨ (P31.answer (stepAt d a.step.toNat) n (s.run a.step.toNat a.undo) a.attempt a.outcome).1 = P31.end_ (s.run a.step.toNat a.undo) 4 ∨ (P31.answer (stepAt d a.step.toNat) n (s.run a.step.toNat a.undo) a.attempt a.outcome).1 = P31.fail (stepAt d a.step.toNat) n (s.run a.step.toNat a.undo) := by
    unfold P31.answer at ht ⊢
    split
    · rename_i hc; rw [if_pos hc] at ht; simp at ht
    · rename_i hc
      rw [if_neg hc] at ht
      split
      · exact .inl rfl
      · split
        · exact .inr (.inr rfl)
        · split
          · exact .inr (.inl rfl)
          · rename_i a1 a2 a3; rw [if_neg a1, if_neg a2, if_neg a3] at ht; simp at ht
  have hlt : a.step.toNat < d.steps.length := h.rng _ a.undo (by omega)
  have hfor : ∀ r : Run, r.ok → (r.phase = 1 ∨ r.phase = 2 ∨ r.phase = 4) → (a.undo = false → s.status = 2 → r.phase = 4) → Good d (put a.step.toNat a.undo r (s, [])) := fun r hr hp hl =>
    (good_step (good_nil h) hm1 hr (.inl h1) hp hl (fun o ho => by simp at ho)).1
  rcases hkey with e | e | e
  · rw [e]
    cases hu : a.undo with
    | false =>
      rw [hu] at h1 hok
      obtain ⟨q1, q2, q3, q4, q5⟩ := inv_putD (x := (s, [])) h (P31.end_ok hok (.inl rfl)) h1 rfl hm1
      exact ⟨q1, fun o ho => by rw [q5] at ho; simp at ho⟩
    | true =>
      rw [hu] at h1 hok
      obtain ⟨t1, t2⟩ := h.trn _ (.inl h1)
      have hs : s.status = 2 := by
        rcases hm1 with hm1 | hm1
        · have := (h.fwd (.inl (by omega))).1 a.step.toNat; omega
        · exact hm1
      obtain ⟨q1, q2, q3, q4⟩ := inv_putU (x := (s, [])) h (P31.end_ok hok (.inl rfl)) t1 t2 (h.tru a.step.toNat (by omega)) hs
      have ho : (put a.step.toNat true (P31.end_ (s.run a.step.toNat true) 3) (s, [])).2 = [] := by
        unfold put P31.end_; simp
      exact ⟨q1, fun o h9 => by rw [ho] at h9; simp at h9⟩
  · rw [e]
    exact hfor _ (P31.end_ok hok (.inr rfl)) (.inr (.inr rfl)) (fun _ _ => rfl)
  · rw [e]
    exact hfor _ (P31.fail_ok hok _ n) (fail_ph _ _ _) (fun hu hs => fail_lost (by rw [hu] at h1 ⊢; exact (h.halted (by omega) _ hlt).2.2 h1))
end P32
end Go.Proofs.YtefokfbgpfcbkaaGreat
