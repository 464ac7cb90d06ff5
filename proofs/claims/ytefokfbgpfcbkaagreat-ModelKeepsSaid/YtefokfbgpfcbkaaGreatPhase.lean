/- A region whose order is drawn, by phases: operations that only read, and a chain of operations that write (no program in it). -/
import Derived.Test.YtefokfbgpfcbkaaGreatInvIn
namespace Go.Proofs.YtefokfbgpfcbkaaGreat
set_option linter.unusedVariables false
set_option linter.unusedSimpArgs false
/-- whatever an operation looks at, and an operation of the region yields, comes ahead of it -/
def closedB (ops : Array Oper) : Bool := (List.range ops.size).all fun i => match ops[i]? with
  | none => true
  | some o => (o.looksAt ops).all fun x => (List.range ops.size).all fun j => match ops[j]? with
    | none => true
    | some o' => !(o'.dst == some x) || o.after.any (fun e => e.on == j && Region.binds .any e)
/-- no two operations yield into one slot -/
def uniqB (ops : Array Oper) : Bool := (List.range ops.size).all fun i => match ops[i]? with
  | none => true
  | some o => (List.range ops.size).all fun j => match ops[j]? with
    | none => true
    | some o' => i == j || o.dst == none || !(o.dst == o'.dst)
def kindB (ops : Array Oper) : Bool := ops.all fun o => match o.op with
  | .select .. => false
  | .defer .. => false
  | _ => true
/-- does x hang on y? -/
def ancB (ops : Array Oper) : Nat → Nat → Nat → Bool
  | 0, _, _ => false
  | n + 1, x, y => match ops[x]? with
    | none => false
    | some o => o.after.any fun e => Region.binds .any e && (e.on == y || ancB ops n e.on y)
structure Agree (ops : Array Oper) (L : Array Bool) (a aF : Act) : Prop where
  defers : a.defers = aF.defers
  size : a.tmps.size = aF.tmps.size
  same : ∀ t, (∃ (i : Nat) (o : Oper), ops[i]? = some o ∧ o.dst = some t ∧ L.getD i true = false) ∨ a.tmps[t]? = aF.tmps[t]?
theorem closed_of {ops : Array Oper} (h : closedB ops = true) {i j : Nat} {o o' : Oper} {x : Tmp} (ho : ops[i]? = some o) (hx : x ∈ o.looksAt ops) (hj : ops[j]? = some o') (hd : o'.dst = some x) : ∃ e ∈ o.after, e.on = j ∧ Region.binds .any e = true := by
  have h1 := List.all_eq_true.1 h i (List.mem_range.2 (Array.getElem?_eq_some_iff.1 ho).1)
  rw [ho] at h1
  have h2 := List.all_eq_true.1 (List.all_eq_true.1 h1 x hx) j (List.mem_range.2 (Array.getElem?_eq_some_iff.1 hj).1)
  rw [hj] at h2
  simp only [hd, BEq.rfl, Bool.not_true, Bool.false_or] at h2
  obtain ⟨e, he, h3⟩ := Array.any_eq_true'.1 h2
  simp only [Bool.and_eq_true, beq_iff_eq] at h3
  exact ⟨e, he, h3⟩
theorem uniq_of {ops : Array Oper} (h : uniqB ops = true) {i j : Nat} {o o' : Oper} {t : Tmp} (ho : ops[i]? = some o) (hj : ops[j]? = some o') (h1 : o.dst = some t) (h2 : o'.dst = some t) : i = j := by
  have h3 := List.all_eq_true.1 h i (List.mem_range.2 (Array.getElem?_eq_some_iff.1 ho).1)
  rw [ho] at h3
  have h4 := List.all_eq_true.1 h3 j (List.mem_range.2 (Array.getElem?_eq_some_iff.1 hj).1)
  rw [hj] at h4
  simp only [h1, h2, BEq.rfl, Bool.not_true, Bool.or_false] at h4
  have h5 : ((some t : Option Tmp) == none) = false := rfl
  rw [h5, Bool.or_false] at h4
  exact beq_iff_eq.1 h4
theorem kind_of {ops : Array Oper} (h : kindB ops = true) {i : Nat} {o : Oper} (ho : ops[i]? = some o) : (∀ cs b, o.op ≠ .select cs b) ∧ ∀ c, o.op ≠ .defer c := by
  obtain ⟨hl, he⟩ := Array.getElem?_eq_some_iff.1 ho
  have h1 := (Array.all_eq_true.1 h) i hl
  rw [he] at h1
  refine ⟨fun cs b e => ?_, fun c e => ?_⟩ <;> (rw [e] at h1; cases h1)
theorem getD_listed {L : Array Bool} {j : Nat} (h1 : L.getD j true = false) (h2 : L.getD j false = true) : False := by
  have := (getD_of h1).2
  rw [h2] at this
  cases this
theorem Agree.looks {ops : Array Oper} {L : Array Bool} {a aF : Act} (hA : Agree ops L a aF) (hc : closedB ops = true) {i : Nat} {o : Oper} (ho : ops[i]? = some o) (hdep : ∀ e ∈ o.after, Region.binds .any e = true → L.getD e.on false = true) : ∀ x ∈ o.looksAt ops, a.tmps[x]? = aF.tmps[x]? := by
  intro x hx
  rcases hA.same x with ⟨j, o', h1, h2, h3⟩ | h
  · obtain ⟨e, he, rfl, hb⟩ := closed_of hc ho hx h1 h2
    exact (getD_listed h3 (hdep e he hb)).elim
  · exact h
theorem eval_of_looks {ops : Array Oper} {a aF : Act} {o : Oper} (h : ∀ x ∈ o.looksAt ops, a.tmps[x]? = aF.tmps[x]?) : ∀ x ∈ o.op.operands, a.eval x = aF.eval x := by
  intro x hx
  cases x with
  | tmp t =>
    have := h t (List.mem_append_left _ (List.mem_filterMap.2 ⟨.tmp t, by simpa using hx, rfl⟩))
    show a.tmps.getD t undef = aF.tmps.getD t undef
    rw [Array.getD_eq_getD_getElem?, Array.getD_eq_getD_getElem?, this]
  | _ => rfl
theorem wanted_of_looks {ops : Array Oper} {a aF : Act} {o : Oper} (h : ∀ x ∈ o.looksAt ops, a.tmps[x]? = aF.tmps[x]?) : Region.wanted o (yielded ops a.tmps) = Region.wanted o (yielded ops aF.tmps) := by
  unfold Region.wanted
  cases hg : o.guard with
  | none => rfl
  | some gb =>
    obtain ⟨g, b⟩ := gb
    have : yielded ops a.tmps g = yielded ops aF.tmps g := by
      unfold yielded
      cases hd : (ops[g]?).bind (·.dst) with
      | none => rfl
      | some t =>
        simp only [Option.bind_some]
        rw [h t (List.mem_append_right _ (by rw [hg]; simp [hd]))]
    simp only [this]
theorem getElem?_put {a : Act} {d : Option Tmp} {v : Value} (t : Tmp) : (a.put d v).tmps[t]? = if d = some t ∧ t < a.tmps.size then some v else a.tmps[t]? := by
  cases d with
  | none => simp [Act.put]
  | some d =>
    show (a.tmps.setIfInBounds d v)[t]? = _
    rw [Array.getElem?_setIfInBounds]
    by_cases h : d = t
    · subst h
      by_cases h2 : d < a.tmps.size
      · simp [h2]
      · simp [h2]
    · have : ¬ (some d = some t) := fun e => h (by simpa using e)
      simp [h]
theorem put_defers (a : Act) (d : Option Tmp) (v : Value) : (a.put d v).defers = a.defers := by cases d <;> rfl
theorem put_size (a : Act) (d : Option Tmp) (v : Value) : (a.put d v).tmps.size = a.tmps.size := by cases d <;> simp [Act.put]
theorem getD_list (L : Array Bool) (i j : Nat) : (L.setIfInBounds i true).getD j true = if i = j then true else L.getD j true := by
  rw [Array.getD_eq_getD_getElem?, Array.getElem?_setIfInBounds, Array.getD_eq_getD_getElem?]
  by_cases h : i = j
  · subst h
    by_cases h2 : i < L.size <;> simp [h2]
  · simp [h]
/-- an operation is listed: its slot is as it is meant -/
theorem Agree.step {ops : Array Oper} {L : Array Bool} {a aF : Act} (hA : Agree ops L a aF) (hu : uniqB ops = true) {i : Nat} {o : Oper} (ho : ops[i]? = some o) {v : Value} (hv : ∀ t, o.dst = some t → aF.tmps[t]? = some v) : Agree ops (L.setIfInBounds i true) (a.put o.dst v) aF := by
  refine ⟨(put_defers _ _ _).trans hA.defers, (put_size _ _ _).trans hA.size, fun t => ?_⟩
  rw [getElem?_put]
  by_cases hd : o.dst = some t
  · right
    have h1 := hv t hd
    have h2 := (Array.getElem?_eq_some_iff.1 h1).1
    rw [if_pos ⟨hd, by rw [hA.size]; exact h2⟩, h1]
  · rw [if_neg (fun h => hd h.1)]
    rcases hA.same t with ⟨j, o', h1, h2, h3⟩ | h
    · left
      refine ⟨j, o', h1, h2, ?_⟩
      have : i ≠ j := by
        rintro rfl
        rw [ho] at h1
        cases h1
        exact hd h2
      rw [getD_list, if_neg this]
      exact h3
    · exact .inr h
/-- a writing operation is listed: what is meant is turned alike -/
theorem Agree.write {ops : Array Oper} {L : Array Bool} {a aF : Act} (hA : Agree ops L a aF) {i : Nat} {o : Oper} (ho : ops[i]? = some o) (v : Value) : Agree ops (L.setIfInBounds i true) (a.put o.dst v) (aF.put o.dst v) := by
  refine ⟨by rw [put_defers, put_defers]; exact hA.defers, by rw [put_size, put_size]; exact hA.size, fun t => ?_⟩
  rw [getElem?_put, getElem?_put, hA.size]
  by_cases hd : o.dst = some t ∧ t < aF.tmps.size
  · right
    rw [if_pos hd, if_pos hd]
  · rw [if_neg hd, if_neg hd]
    rcases hA.same t with ⟨j, o', h1, h2, h3⟩ | h
    · by_cases hij : i = j
      · subst hij
        rw [ho] at h1
        cases h1
        right
        have h4 : aF.tmps.size ≤ t := Nat.le_of_not_lt fun h => hd ⟨h2, h⟩
        rw [Array.getElem?_eq_none (by rw [hA.size]; exact h4), Array.getElem?_eq_none h4]
      · left
        refine ⟨j, o', h1, h2, ?_⟩
        rw [getD_list, if_neg hij]
        exact h3
    · exact .inr h
theorem Agree.all {ops : Array Oper} {L : Array Bool} {a aF : Act} (hA : Agree ops L a aF) (h : ∀ i, L.getD i true = true) : a = aF := by
  obtain ⟨t1, d1⟩ := a
  obtain ⟨t2, d2⟩ := aF
  obtain ⟨h1, h2, h3⟩ := hA
  simp only at h1 h2 h3
  subst h1
  congr 1
  apply Array.ext_getElem?
  intro t
  rcases h3 t with ⟨i, o, _, _, h4⟩ | h4
  · rw [h i] at h4; cases h4
  · exact h4
/-- an operation that only reads: what it yields -/
def PureOk (P : Program) (o : Oper) (aF : Act) (W : World) (v : Value) : Prop :=
  (execOp aF.eval o).run P W = .ok (.value v) W ∨ ∃ f args, (execOp aF.eval o).run P W = .ok (.enter f args) W ∧ Calls P f args W fun e w' => e = .returned v ∧ w' = W
/-- an operation that writes -/
def StepOk (P : Program) (o : Oper) (aF : Act) (W : World) (Φ : Act → World → Prop) : Prop :=
  (∃ v W', (execOp aF.eval o).run P W = .ok (.value v) W' ∧ Φ (aF.put o.dst v) W') ∨ (∃ W', (execOp aF.eval o).run P W = .ok .skip W' ∧ Φ (aF.put o.dst undef) W') ∨
  ∃ f args W', (execOp aF.eval o).run P W = .ok (.enter f args) W' ∧ Calls P f args W' fun e w' => ∃ v, e = .returned v ∧ Φ (aF.put o.dst v) w'
structure PhI (ops : Array Oper) (ws : List Nat) (Φ : Nat → Act → World → Prop) (L : Array Bool) (a : Act) (w : World) : Prop where
  ex : ∃ k aF, Φ k aF w ∧ Agree ops L a aF ∧ ∀ j x, ws[j]? = some x → (L.getD x false = true ↔ j < k)
  closed : ∀ i o, ops[i]? = some o → L.getD i false = true → ∀ e ∈ o.after, Region.binds .any e = true → L.getD e.on false = true
  size : L.size = ops.size
theorem getD_listF (L : Array Bool) (i j : Nat) (hi : i < L.size) : (L.setIfInBounds i true).getD j false = if i = j then true else L.getD j false := by
  rw [Array.getD_eq_getD_getElem?, Array.getElem?_setIfInBounds, Array.getD_eq_getD_getElem?]
  by_cases h : i = j
  · subst h; simp [hi]
  · simp [h]
theorem anc_listed {ops : Array Oper} {L : Array Bool} (hcl : ∀ i o, ops[i]? = some o → L.getD i false = true → ∀ e ∈ o.after, Region.binds .any e = true → L.getD e.on false = true) : ∀ (n x y : Nat), (∀ o, ops[x]? = some o → ∀ e ∈ o.after, Region.binds .any e = true → L.getD e.on false = true) → ancB ops n x y = true → L.getD y false = true
  | 0, x, y, hx, h => by simp [ancB] at h
  | n + 1, x, y, hx, h => by
    unfold ancB at h
    cases ho : ops[x]? with
    | none => rw [ho] at h; cases h
    | some o =>
      rw [ho] at h
      obtain ⟨e, he, h1⟩ := Array.any_eq_true'.1 h
      simp only [Bool.and_eq_true, Bool.or_eq_true, beq_iff_eq] at h1
      have h2 := hx o ho e he h1.1
      rcases h1.2 with rfl | h3
      · exact h2
      · exact anc_listed hcl n e.on y (fun o' ho' => hcl e.on o' ho' h2) h3
def shapeB (ops : Array Oper) : Bool := closedB ops && (uniqB ops && (kindB ops && dagB ops))
/-- each writer hangs on the one ahead of it -/
def chainB (ops : Array Oper) : List Nat → Bool
  | x :: y :: r => ancB ops ops.size y x && chainB ops (y :: r)
  | _ => true
def chainAll (ops : Array Oper) (ws : List Nat) : Bool := (List.range ws.length).all fun k => (List.range ws.length).all fun j => !decide (k < j) || match ws[j]?, ws[k]? with
  | some y, some x => ancB ops ops.size y x
  | _, _ => true
theorem chain_of {ops : Array Oper} {ws : List Nat} (h : chainAll ops ws = true) {k j x y : Nat} (hk : ws[k]? = some x) (hj : ws[j]? = some y) (hkj : k < j) : ancB ops ops.size y x = true := by
  have h1 := List.all_eq_true.1 (List.all_eq_true.1 h k (List.mem_range.2 (List.getElem?_eq_some_iff.1 hk).1)) j (List.mem_range.2 (List.getElem?_eq_some_iff.1 hj).1)
  rw [hj, hk] at h1
  simpa [hkj] using h1
/-- what an operation does to the words on the region, as the plain calculus has it -/
theorem phase_step {P : Program} {ops : Array Oper} {Q : Exit → Act → World → Prop} (ws : List Nat) (Φ : Nat → Act → World → Prop) (hs : shapeB ops = true) (hch : chainAll ops ws = true)
    (hpure : ∀ k aF W i o, Φ k aF W → ops[i]? = some o → i ∉ ws → (∀ j x, ws[j]? = some x → ancB ops ops.size x i = true → k ≤ j) →
      if Region.wanted o (yielded ops aF.tmps) = true then ∃ t v, o.dst = some t ∧ aF.tmps[t]? = some v ∧ PureOk P o aF W v else ∀ t, o.dst = some t → aF.tmps[t]? = some undef)
    (hwrite : ∀ k aF W i o, Φ k aF W → ws[k]? = some i → ops[i]? = some o → Region.wanted o (yielded ops aF.tmps) = true ∧ StepOk P o aF W (Φ (k + 1)))
    {L : Array Bool} {a : Act} {w : World} {i : Nat} {o : Oper} (hJ : PhI ops ws Φ L a w) (ho : ops[i]? = some o) (hi : L.getD i true = false) (hdep : ∀ e ∈ o.after, Region.binds .any e = true → L.getD e.on false = true) :
    (∀ c, o.op ≠ .defer c) ∧ if Region.wanted o (yielded ops a.tmps) = true then Oper.wp P o a w (PhI ops ws Φ (L.setIfInBounds i true)) Q else PhI ops ws Φ (L.setIfInBounds i true) (a.put o.dst undef) w := by
  simp only [shapeB, Bool.and_eq_true] at hs
  obtain ⟨hc, hu, hk, hd⟩ := hs
  obtain ⟨⟨k, aF, h1, h2, h3⟩, hcl, hsz⟩ := hJ
  obtain ⟨hks, hkd⟩ := kind_of hk ho
  have hlk := h2.looks hc ho hdep
  have hex : execOp a.eval o = execOp aF.eval o := execOp_congr o hks (eval_of_looks hlk)
  have hwn := wanted_of_looks hlk
  have hil := (getD_of hi).1
  have hcl' : ∀ i' o', ops[i']? = some o' → (L.setIfInBounds i true).getD i' false = true → ∀ e ∈ o'.after, Region.binds .any e = true → (L.setIfInBounds i true).getD e.on false = true := by
    intro i' o' ho' hl e he hb
    rw [getD_listF _ _ _ hil]
    split
    · rfl
    · rw [getD_listF _ _ _ hil] at hl
      by_cases hii : i = i'
      · subst hii
        rw [ho] at ho'
        cases ho'
        exact hdep e he hb
      · rw [if_neg hii] at hl
        exact hcl i' o' ho' hl e he hb
  have hsz' : (L.setIfInBounds i true).size = ops.size := by simpa using hsz
  have hanc := fun y (h : ancB ops ops.size i y = true) => anc_listed hcl ops.size i y (fun o' ho' => by rw [ho] at ho'; cases ho'; exact hdep) h
  refine ⟨hkd, ?_⟩
  by_cases hw : i ∈ ws
  · -- a writer: it is the next one
    obtain ⟨j, hj⟩ := List.getElem?_of_mem hw
    have hjk : ¬ j < k := fun h => getD_listed hi ((h3 j i hj).2 h)
    have hkj : j = k := by
      by_cases h : k < j
      · have hkl : k < ws.length := by have := (List.getElem?_eq_some_iff.1 hj).1; omega
        have h4 := hanc ws[k] (chain_of hch (List.getElem?_eq_getElem hkl) hj h)
        have := (h3 k ws[k] (List.getElem?_eq_getElem hkl)).1 h4
        omega
      · omega
    subst hkj
    obtain ⟨hww, hst⟩ := hwrite j aF w i o h1 hj ho
    have hmk : ∀ v W', Φ (j + 1) (aF.put o.dst v) W' → PhI ops ws Φ (L.setIfInBounds i true) (a.put o.dst v) W' := fun v W' hΦ => by
      refine ⟨⟨j + 1, _, hΦ, h2.write ho v, fun j' x hx => ?_⟩, hcl', hsz'⟩
      rw [getD_listF _ _ _ hil]
      by_cases hix : i = x
      · subst hix
        simp only [if_true, true_iff]
        -- the same place
        have h5 : ¬ j' < j := fun h => getD_listed hi ((h3 j' i hx).2 h)
        by_cases h6 : j < j'
        · have h7 := hanc i (chain_of hch hj hx h6)
          exact (getD_listed hi h7).elim
        · omega
      · rw [if_neg hix, h3 j' x hx]
        constructor
        · intro h; omega
        · intro h
          by_cases h8 : j' = j
          · subst h8; rw [hj] at hx; cases hx; exact absurd rfl hix
          · omega
    rw [hwn, if_pos hww]
    unfold Oper.wp
    rw [hex]
    rcases hst with ⟨v, W', hr, hΦ⟩ | ⟨W', hr, hΦ⟩ | ⟨f, args, W', hr, hcall⟩
    · rw [hr]; exact hmk v W' hΦ
    · rw [hr]; exact hmk undef W' hΦ
    · rw [hr]
      refine hcall.mono ?_
      rintro e w' ⟨v, rfl, hΦ⟩
      exact hmk v w' hΦ
  · have hmk : ∀ v, (∀ t, o.dst = some t → aF.tmps[t]? = some v) → PhI ops ws Φ (L.setIfInBounds i true) (a.put o.dst v) w := fun v hv => by
      refine ⟨⟨k, aF, h1, h2.step hu ho hv, fun j x hx => ?_⟩, hcl', hsz'⟩
      rw [getD_listF _ _ _ hil, if_neg (by rintro rfl; exact hw (List.mem_of_getElem? hx))]
      exact h3 j x hx
    have hp := hpure k aF w i o h1 ho hw (fun j x hx hax => by
      by_cases h : k ≤ j
      · exact h
      · have hl := (h3 j x hx).2 (by omega)
        have := anc_listed hcl ops.size x i (fun o' ho' => hcl x o' ho' hl) hax
        exact (getD_listed hi this).elim)
    rw [hwn]
    by_cases hww : Region.wanted o (yielded ops aF.tmps) = true
    · rw [if_pos hww] at hp ⊢
      obtain ⟨t, v, ht, hv, hok⟩ := hp
      have hvv : ∀ t', o.dst = some t' → aF.tmps[t']? = some v := fun t' h => by rw [ht] at h; cases h; exact hv
      unfold Oper.wp
      rw [hex]
      rcases hok with hr | ⟨f, args, hr, hcall⟩
      · rw [hr]; exact hmk v hvv
      · rw [hr]
        refine hcall.mono ?_
        rintro e w' ⟨rfl, rfl⟩
        exact hmk v hvv
    · rw [if_neg hww] at hp ⊢
      exact hmk undef hp
theorem phase_start {ops : Array Oper} {ws : List Nat} {Φ : Nat → Act → World → Prop} {a aF : Act} {w : World} (hΦ : Φ 0 aF w) (hd : a.defers = aF.defers) (hz : a.tmps.size = aF.tmps.size) (hsame : ∀ t, (∃ (i : Nat) (o : Oper), ops[i]? = some o ∧ o.dst = some t) ∨ a.tmps[t]? = aF.tmps[t]?) : PhI ops ws Φ (Array.replicate ops.size false) a w := by
  have hf : ∀ i, (Array.replicate ops.size false).getD i false = false := fun i => by
    rw [Array.getD_eq_getD_getElem?, Array.getElem?_replicate]; split <;> rfl
  refine ⟨⟨0, aF, hΦ, ⟨hd, hz, fun t => ?_⟩, fun j x _ => by rw [hf]; simp⟩, (fun i o _ h => by rw [hf] at h; cases h), by simp⟩
  rcases hsame t with ⟨i, o, h1, h2⟩ | h
  · left
    refine ⟨i, o, h1, h2, ?_⟩
    rw [Array.getD_eq_getD_getElem?, Array.getElem?_replicate, if_pos (Array.getElem?_eq_some_iff.1 h1).1]
    rfl
  · exact .inr h
theorem phase_end {ops : Array Oper} {ws : List Nat} {Φ : Nat → Act → World → Prop} {Q : Exit → Act → World → Prop} (hws : ∀ x ∈ ws, x < ops.size) (hfin : ∀ k aF W, ws.length ≤ k → Φ k aF W → Q .normal aF W) {L : Array Bool} {a : Act} {w : World} (hJ : PhI ops ws Φ L a w) (hall : ∀ i, L.getD i true = true) : Q .normal a w := by
  obtain ⟨⟨k, aF, h1, h2, h3⟩, _, hsz⟩ := hJ
  have he := h2.all hall
  subst he
  refine hfin k a w ?_ h1
  by_cases h : ws.length ≤ k
  · exact h
  · have hkl : k < ws.length := by omega
    have hx := List.getElem?_eq_getElem hkl
    have hlt := hws ws[k] (List.getElem_mem hkl)
    have h4 : L.getD ws[k] false = true := by
      have := hall ws[k]
      rw [Array.getD_eq_getD_getElem?, Array.getElem?_eq_getElem (by omega)] at this ⊢
      exact this
    have := (h3 k _ hx).1 h4
    omega
/-- A region that draws its order, within a round of a range over a function. -/
theorem wpIn_region_phase {l n : Nat} {P : Program} {ops : Array Oper} {Q : Exit → Act → World → Prop} {id : Nat} {a aF : Act} {w : World} (hm : P.follows .mixedOrders = true) (ws : List Nat) (Φ : Nat → Act → World → Prop) (hs : shapeB ops = true) (hch : chainAll ops ws = true) (hws : ∀ x ∈ ws, x < ops.size)
    (hΦ : Φ 0 aF w.drew) (hd : a.defers = aF.defers) (hz : a.tmps.size = aF.tmps.size) (hsame : ∀ t, (∃ (i : Nat) (o : Oper), ops[i]? = some o ∧ o.dst = some t) ∨ a.tmps[t]? = aF.tmps[t]?)
    (hpure : ∀ k aF W i o, Φ k aF W → ops[i]? = some o → i ∉ ws → (∀ j x, ws[j]? = some x → ancB ops ops.size x i = true → k ≤ j) →
      if Region.wanted o (yielded ops aF.tmps) = true then ∃ t v, o.dst = some t ∧ aF.tmps[t]? = some v ∧ PureOk P o aF W v else ∀ t, o.dst = some t → aF.tmps[t]? = some undef)
    (hwrite : ∀ k aF W i o, Φ k aF W → ws[k]? = some i → ops[i]? = some o → Region.wanted o (yielded ops aF.tmps) = true ∧ StepOk P o aF W (Φ (k + 1)))
    (hfin : ∀ k aF W, ws.length ≤ k → Φ k aF W → Q .normal aF W) : (Code.region id ops true).wpIn (Fence.wide.inRound l) n P Q a w := by
  refine wpIn_region_inv hm (PhI ops ws Φ) (by simp only [shapeB, Bool.and_eq_true] at hs; exact hs.2.2.2) (phase_start hΦ hd hz hsame) (fun L a w i o hJ ho hi hdep => ?_) (fun L a w hJ hall => phase_end hws hfin hJ hall)
  obtain ⟨h1, h2⟩ := phase_step (Q := Q) ws Φ hs hch hpure hwrite hJ ho hi hdep
  unfold wpOpIn
  rw [ho]
  simp only
  split
  · rename_i hw
    rw [if_pos hw] at h2
    exact wpIn_of_wp h1 h2
  · rename_i hw
    rw [if_neg hw] at h2
    exact ⟨fun _ _ => trivial, h2⟩
/-- .. in a function's own body -/
theorem wp_region_phase {P : Program} {ops : Array Oper} {Q : Exit → Act → World → Prop} {id : Nat} {a aF : Act} {w : World} (hm : P.follows .mixedOrders = true) (ws : List Nat) (Φ : Nat → Act → World → Prop) (hs : shapeB ops = true) (hch : chainAll ops ws = true) (hws : ∀ x ∈ ws, x < ops.size)
    (hΦ : Φ 0 aF w.drew) (hd : a.defers = aF.defers) (hz : a.tmps.size = aF.tmps.size) (hsame : ∀ t, (∃ (i : Nat) (o : Oper), ops[i]? = some o ∧ o.dst = some t) ∨ a.tmps[t]? = aF.tmps[t]?)
    (hpure : ∀ k aF W i o, Φ k aF W → ops[i]? = some o → i ∉ ws → (∀ j x, ws[j]? = some x → ancB ops ops.size x i = true → k ≤ j) →
      if Region.wanted o (yielded ops aF.tmps) = true then ∃ t v, o.dst = some t ∧ aF.tmps[t]? = some v ∧ PureOk P o aF W v else ∀ t, o.dst = some t → aF.tmps[t]? = some undef)
    (hwrite : ∀ k aF W i o, Φ k aF W → ws[k]? = some i → ops[i]? = some o → Region.wanted o (yielded ops aF.tmps) = true ∧ StepOk P o aF W (Φ (k + 1)))
    (hfin : ∀ k aF W, ws.length ≤ k → Φ k aF W → Q .normal aF W) : (Code.region id ops true).wp P Q a w := by
  refine wp_region_inv hm (PhI ops ws Φ) (by simp only [shapeB, Bool.and_eq_true] at hs; exact hs.2.2.2) (phase_start hΦ hd hz hsame) (fun L a w i o hJ ho hi hdep => ?_) (fun L a w hJ hall => phase_end hws hfin hJ hall)
  obtain ⟨h1, h2⟩ := phase_step (Q := Q) ws Φ hs hch hpure hwrite hJ ho hi hdep
  unfold wpOp
  rw [ho]
  simp only
  split
  · rename_i hw
    rw [if_pos hw] at h2
    exact .inl h2
  · rename_i hw
    rw [if_neg hw] at h2
    exact h2
end Go.Proofs.YtefokfbgpfcbkaaGreat
