/- Lemmas of this claim (a part of its texts, kept as far as the claim reaches them). -/
import Derived.Test.YtefokfbgpfcbkaaGreatGAZ
import Derived.Orders
import Derived.RegionTactic
import Derived.OrdersIn
import Derived.RangeFuncCalls
import Derived.BigQuiet
import Derived.Test.YtefokfbgpfcbkaaGreatElZ
import Derived.Test.YtefokfbgpfcbkaaGreatPlain28Z
import Derived.Lib.OthersKept
namespace Go.Proofs.YtefokfbgpfcbkaaGreat
set_option linter.unusedVariables false
set_option linter.unusedSimpArgs false
def dagB (ops : Array Oper) : Bool := (List.range ops.size).all fun i => match ops[i]? with
  | some o => o.after.all fun e => decide (e.on < i)
  | none => true
theorem dag_of {ops : Array Oper} (h : dagB ops = true) {i : Nat} {o : Oper} (ho : ops[i]? = some o) : ∀ e ∈ o.after, e.on < i := by
  intro e he
  have hi := (Array.getElem?_eq_some_iff.1 ho).1
  have := List.all_eq_true.1 h i (List.mem_range.2 hi)
  rw [ho] at this
  simp only [Array.all_eq_true'] at this
  simpa using this e he
theorem getD_of {L : Array Bool} {i : Nat} (h : L.getD i true = false) : i < L.size ∧ L.getD i false = false := by
  have hl : i < L.size := by
    by_cases hl : i < L.size
    · exact hl
    · simp [Array.getD, hl] at h
  refine ⟨hl, ?_⟩
  simp only [Array.getD, hl, dif_pos] at h ⊢
  exact h
theorem ready_ex {md : Region.Mode} {ops : Array Oper} (hd : dagB ops = true) {L : Array Bool} (hs : L.size = ops.size) : ∀ (n i : Nat), i ≤ n → L.getD i true = false → ∃ j, j ∈ Region.ready md ops L := by
  intro n
  induction n with
  | zero =>
    intro i hi h
    obtain rfl : i = 0 := by omega
    have hl := (getD_of h).1
    refine ⟨0, mem_ready.2 ⟨h, ops[0]'(by omega), Array.getElem?_eq_getElem _, fun e he _ => ?_⟩⟩
    have := dag_of hd (Array.getElem?_eq_getElem (by omega : 0 < ops.size)) e he
    omega
  | succ n ih =>
    intro i hi h
    have hl := (getD_of h).1
    by_cases hr : ∃ e ∈ (ops[i]'(by omega)).after, L.getD e.on false = false
    · obtain ⟨e, he, hf⟩ := hr
      have h1 := dag_of hd (Array.getElem?_eq_getElem (by omega : i < ops.size)) e he
      refine ih e.on (by omega) ?_
      have hle : e.on < L.size := by omega
      simp only [Array.getD, hle, dif_pos] at hf ⊢
      exact hf
    · exact ⟨i, mem_ready.2 ⟨h, ops[i]'(by omega), Array.getElem?_eq_getElem _, fun e he _ => by
        by_cases hx : L.getD e.on false = true
        · exact hx
        · exact absurd ⟨e, he, by simpa using hx⟩ hr⟩⟩
def unl (L : Array Bool) : Nat := L.toList.count false
theorem unl_set {L : Array Bool} {i : Nat} (h : L.getD i true = false) : unl (L.setIfInBounds i true) + 1 = unl L := by
  obtain ⟨hl, _⟩ := getD_of h
  have hf : L.toList[i]'(by simpa using hl) = false := by
    simp only [Array.getD, hl, dif_pos] at h
    simpa using h
  unfold unl
  rw [Array.toList_setIfInBounds]
  have h1 := List.count_set (l := L.toList) (i := i) (a := true) (b := false) (by simpa using hl)
  rw [hf] at h1
  have h2 : 0 < L.toList.count false := List.count_pos_iff.2 (by rw [← hf]; exact List.getElem_mem _)
  simp only [BEq.rfl, if_true, show (true == false) = false from rfl, Bool.false_eq_true, if_false] at h1
  omega
theorem wpAny_inv {P : Program} {md : Region.Mode} {ops : Array Oper} {Q : Exit → Act → World → Prop} (J : Array Bool → Act → World → Prop) (hd : dagB ops = true)
    (hstep : ∀ L a w i o, J L a w → ops[i]? = some o → L.getD i true = false → (∀ e ∈ o.after, Region.binds md e = true → L.getD e.on false = true) → wpOp P ops Q i (J (L.setIfInBounds i true)) a w)
    (hfin : ∀ L a w, J L a w → (∀ i, L.getD i true = true) → Q .normal a w) :
    ∀ (fuel : Nat) (L : Array Bool) (a : Act) (w : World), L.size = ops.size → unl L ≤ fuel → J L a w → wpAny P md ops Q fuel L a w := by
  have hend : ∀ (L : Array Bool), L.size = ops.size → Region.ready md ops L = [] → ∀ i, L.getD i true = true := fun L hs hr i => by
    by_cases h : L.getD i true = false
    · obtain ⟨j, hj⟩ := ready_ex (md := md) hd hs i i (Nat.le_refl _) h
      rw [hr] at hj
      exact absurd hj (by simp)
    · simpa using h
  intro fuel
  induction fuel with
  | zero =>
    intro L a w hs hu hJ
    have hall : ∀ i, L.getD i true = true := fun i => by
      by_cases h : L.getD i true = false
      · have := unl_set h; omega
      · simpa using h
    have hr : Region.ready md ops L = [] := by
      cases hq : Region.ready md ops L with
      | nil => rfl
      | cons j r =>
        have hm : j ∈ Region.ready md ops L := by rw [hq]; exact List.mem_cons_self
        have := (mem_ready.1 hm).1
        rw [hall j] at this
        cases this
    exact ⟨hr, hfin L a w hJ hall⟩
  | succ fuel ih =>
    intro L a w hs hu hJ
    refine ⟨fun hr => hfin L a w hJ (hend L hs hr), fun i hi => ?_⟩
    obtain ⟨h0, o, ho, hall⟩ := mem_ready.1 hi
    have h1 := unl_set h0
    exact wpOp_mono (fun a' w' hJ' => ih _ a' w' (by simpa using hs) (by omega) hJ') (hstep L a w i o hJ ho h0 hall)
theorem wp_region_inv {P : Program} {ops : Array Oper} {Q : Exit → Act → World → Prop} {id : Nat} {a : Act} {w : World} (hm : P.follows .mixedOrders = true) (J : Array Bool → Act → World → Prop) (hd : dagB ops = true)
    (h0 : J (Array.replicate ops.size false) a w.drew)
    (hstep : ∀ L a w i o, J L a w → ops[i]? = some o → L.getD i true = false → (∀ e ∈ o.after, Region.binds .any e = true → L.getD e.on false = true) → wpOp P ops Q i (J (L.setIfInBounds i true)) a w)
    (hfin : ∀ L a w, J L a w → (∀ i, L.getD i true = true) → Q .normal a w) : (Code.region id ops true).wp P Q a w :=
  wp_region_any hm (wpAny_inv J hd hstep hfin ops.size _ a _ (by simp) (by simp [unl, List.count_replicate]) h0)
theorem wpOp_of {P : Program} {ops : Array Oper} {Q : Exit → Act → World → Prop} {i : Nat} {o : Oper} {K : Act → World → Prop} {a : Act} {w : World} (ho : ops[i]? = some o) (hg : o.guard = none) (h : Oper.wp P o a w K Q) : wpOp P ops Q i K a w := by
  unfold wpOp
  rw [ho]
  simp only [Region.wanted, hg, if_true]
  exact .inl h
end Go.Proofs.YtefokfbgpfcbkaaGreat
namespace Go.Proofs.YtefokfbgpfcbkaaGreat
set_option linter.unusedVariables false
set_option linter.unusedSimpArgs false
theorem wpAnyIn_inv {F : Fence} {n : Nat} {P : Program} {md : Region.Mode} {ops : Array Oper} {Q : Exit → Act → World → Prop} (J : Array Bool → Act → World → Prop) (hd : dagB ops = true)
    (hstep : ∀ L a w i o, J L a w → ops[i]? = some o → L.getD i true = false → (∀ e ∈ o.after, Region.binds md e = true → L.getD e.on false = true) → wpOpIn F n P ops Q i (J (L.setIfInBounds i true)) a w)
    (hfin : ∀ L a w, J L a w → (∀ i, L.getD i true = true) → Q .normal a w) :
    ∀ (fuel : Nat) (L : Array Bool) (a : Act) (w : World), L.size = ops.size → unl L ≤ fuel → J L a w → wpAnyIn F n P md ops Q fuel L a w := by
  have hend : ∀ (L : Array Bool), L.size = ops.size → Region.ready md ops L = [] → ∀ i, L.getD i true = true := fun L hs hr i => by
    by_cases h : L.getD i true = false
    · obtain ⟨j, hj⟩ := ready_ex (md := md) hd hs i i (Nat.le_refl _) h
      rw [hr] at hj
      exact absurd hj (by simp)
    · simpa using h
  intro fuel
  induction fuel with
  | zero =>
    intro L a w hs hu hJ
    have hall : ∀ i, L.getD i true = true := fun i => by
      by_cases h : L.getD i true = false
      · have := unl_set h; omega
      · simpa using h
    have hr : Region.ready md ops L = [] := by
      cases hq : Region.ready md ops L with
      | nil => rfl
      | cons j r =>
        have hm : j ∈ Region.ready md ops L := by rw [hq]; exact List.mem_cons_self
        have := (mem_ready.1 hm).1
        rw [hall j] at this
        cases this
    exact ⟨hr, hfin L a w hJ hall⟩
  | succ fuel ih =>
    intro L a w hs hu hJ
    refine ⟨fun hr => hfin L a w hJ (hend L hs hr), fun i hi => ?_⟩
    obtain ⟨h0, o, ho, hall⟩ := mem_ready.1 hi
    have h1 := unl_set h0
    exact wpOpIn_mono (fun a' w' hJ' => ih _ a' w' (by simpa using hs) (by omega) hJ') (hstep L a w i o hJ ho h0 hall)
theorem wpIn_region_inv {F : Fence} {n : Nat} {P : Program} {ops : Array Oper} {Q : Exit → Act → World → Prop} {id : Nat} {a : Act} {w : World} (hm : P.follows .mixedOrders = true) (J : Array Bool → Act → World → Prop) (hd : dagB ops = true)
    (h0 : J (Array.replicate ops.size false) a w.drew)
    (hstep : ∀ L a w i o, J L a w → ops[i]? = some o → L.getD i true = false → (∀ e ∈ o.after, Region.binds .any e = true → L.getD e.on false = true) → wpOpIn F n P ops Q i (J (L.setIfInBounds i true)) a w)
    (hfin : ∀ L a w, J L a w → (∀ i, L.getD i true = true) → Q .normal a w) : (Code.region id ops true).wpIn F n P Q a w :=
  wpIn_region_any hm (wpAnyIn_inv J hd hstep hfin ops.size _ a _ (by simp) (by simp [unl, List.count_replicate]) h0)
theorem rowsIn_wide {n : Nat} {P : Program} {row : String} {args : Array Value} {w : World} {R : Value → World → Prop} (h : Rows P row args w R) (l : Nat) : RowsIn (Fence.wide.inRound l) n P row args w R := by
  intro c cs _
  obtain ⟨v, w', r, s⟩ := h c cs
  exact ⟨v, w', r, stepsIn_wide.2 s⟩
theorem wpIn_of_wp {l n : Nat} {P : Program} {o : Oper} {a : Act} {w : World} {K : Act → World → Prop} {Q : Exit → Act → World → Prop} (hd : ∀ c, o.op ≠ .defer c) (h : o.wp P a w K Q) : o.wpIn (Fence.wide.inRound l) n P a w K Q := by
  refine ⟨fun _ _ => trivial, ?_⟩
  rw [Oper.semAt_eq _ _ _ hd]
  unfold Oper.wp at h
  generalize (execOp a.eval o).run P w = r at *
  cases r with
  | ok x w' =>
    cases x with
    | value v => exact h
    | skip => exact h
    | defer d => exact h
    | enter f args => exact ⟨fun q => by simp [Fence.wide] at q, CallsIn.inRound l (callsIn_wide.2 h)⟩
    | row r args => exact ⟨fun q => by simp [Fence.wide] at q, rowsIn_wide h l⟩
    | _ => exact h.elim
  | halt x w' => cases x <;> first | exact h | exact h.elim
end Go.Proofs.YtefokfbgpfcbkaaGreat
namespace Go.Proofs.YtefokfbgpfcbkaaGreat
set_option linter.unusedVariables false
set_option linter.unusedSimpArgs false
def closedB (ops : Array Oper) : Bool := (List.range ops.size).all fun i => match ops[i]? with
  | none => true
  | some o => (o.looksAt ops).all fun x => (List.range ops.size).all fun j => match ops[j]? with
    | none => true
    | some o' => !(o'.dst == some x) || o.after.any (fun e => e.on == j && Region.binds .any e)
def uniqB (ops : Array Oper) : Bool := (List.range ops.size).all fun i => match ops[i]? with
  | none => true
  | some o => (List.range ops.size).all fun j => match ops[j]? with
    | none => true
    | some o' => i == j || o.dst == none || !(o.dst == o'.dst)
def kindB (ops : Array Oper) : Bool := ops.all fun o => match o.op with
  | .select .. => false
  | .defer .. => false
  | _ => true
def ancB (ops : Array Oper) : Nat → Nat → Nat → Bool
  | 0, _, _ => false
  | n + 1, x, y => match ops[x]? with
    | none => false
    | some o => o.after.any fun e => Region.binds .any e && (e.on == y || ancB ops n e.on y)
structure Agree (ops : Array Oper) (L : Array Bool) (a aF : Act) : Prop where
  defers : a.defers = aF.defers
  size : a.tmps.size = aF.tmps.size
  same : ∀ t, (∃ (i : Nat) (o : Oper), ops[i]? = some o ∧ o.dst = some t ∧ L.getD i true = false) ∨ a.tmps[t]? = aF.tmps[t]?
theorem closed_of {ops : Array Oper} (h : closedB ops = true) {i j : Nat} {o o' : Oper} {x : Tmp} (ho : ops[i]? = some o) (hx : x ∈ o.looksAt ops) (hj : ops[j]? = some o') (hd : o'.dst = some x) : ∃ e ∈ o.after, e.on = j ∧ Region.binds .any e = true := by
  have h1 := List.all_eq_true.1 h i (List.mem_range.2 (Array.getElem?_eq_some_iff.1 ho).1)
  rw [ho] at h1
  have h2 := List.all_eq_true.1 (List.all_eq_true.1 h1 x hx) j (List.mem_range.2 (Array.getElem?_eq_some_iff.1 hj).1)
  rw [hj] at h2
  simp only [hd, BEq.rfl, Bool.not_true, Bool.false_or] at h2
  obtain ⟨e, he, h3⟩ := Array.any_eq_true'.1 h2
  simp only [Bool.and_eq_true, beq_iff_eq] at h3
  exact ⟨e, he, h3⟩
theorem kind_of {ops : Array Oper} (h : kindB ops = true) {i : Nat} {o : Oper} (ho : ops[i]? = some o) : (∀ cs b, o.op ≠ .select cs b) ∧ ∀ c, o.op ≠ .defer c := by
  obtain ⟨hl, he⟩ := Array.getElem?_eq_some_iff.1 ho
  have h1 := (Array.all_eq_true.1 h) i hl
  rw [he] at h1
  refine ⟨fun cs b e => ?_, fun c e => ?_⟩ <;> (rw [e] at h1; cases h1)
theorem getD_listed {L : Array Bool} {j : Nat} (h1 : L.getD j true = false) (h2 : L.getD j false = true) : False := by
  have := (getD_of h1).2
  rw [h2] at this
  cases this
theorem Agree.looks {ops : Array Oper} {L : Array Bool} {a aF : Act} (hA : Agree ops L a aF) (hc : closedB ops = true) {i : Nat} {o : Oper} (ho : ops[i]? = some o) (hdep : ∀ e ∈ o.after, Region.binds .any e = true → L.getD e.on false = true) : ∀ x ∈ o.looksAt ops, a.tmps[x]? = aF.tmps[x]? := by
  intro x hx
  rcases hA.same x with ⟨j, o', h1, h2, h3⟩ | h
  · obtain ⟨e, he, rfl, hb⟩ := closed_of hc ho hx h1 h2
    exact (getD_listed h3 (hdep e he hb)).elim
  · exact h
theorem eval_of_looks {ops : Array Oper} {a aF : Act} {o : Oper} (h : ∀ x ∈ o.looksAt ops, a.tmps[x]? = aF.tmps[x]?) : ∀ x ∈ o.op.operands, a.eval x = aF.eval x := by
  intro x hx
  cases x with
  | tmp t =>
    have := h t (List.mem_append_left _ (List.mem_filterMap.2 ⟨.tmp t, by simpa using hx, rfl⟩))
    show a.tmps.getD t undef = aF.tmps.getD t undef
    rw [Array.getD_eq_getD_getElem?, Array.getD_eq_getD_getElem?, this]
  | _ => rfl
theorem wanted_of_looks {ops : Array Oper} {a aF : Act} {o : Oper} (h : ∀ x ∈ o.looksAt ops, a.tmps[x]? = aF.tmps[x]?) : Region.wanted o (yielded ops a.tmps) = Region.wanted o (yielded ops aF.tmps) := by
  unfold Region.wanted
  cases hg : o.guard with
  | none => rfl
  | some gb =>
    obtain ⟨g, b⟩ := gb
    have : yielded ops a.tmps g = yielded ops aF.tmps g := by
      unfold yielded
      cases hd : (ops[g]?).bind (·.dst) with
      | none => rfl
      | some t =>
        simp only [Option.bind_some]
        rw [h t (List.mem_append_right _ (by rw [hg]; simp [hd]))]
    simp only [this]
theorem getElem?_put {a : Act} {d : Option Tmp} {v : Value} (t : Tmp) : (a.put d v).tmps[t]? = if d = some t ∧ t < a.tmps.size then some v else a.tmps[t]? := by
  cases d with
  | none => simp [Act.put]
  | some d =>
    show (a.tmps.setIfInBounds d v)[t]? = _
    rw [Array.getElem?_setIfInBounds]
    by_cases h : d = t
    · subst h
      by_cases h2 : d < a.tmps.size
      · simp [h2]
      · simp [h2]
    · have : ¬ (some d = some t) := fun e => h (by simpa using e)
      simp [h]
theorem put_defers (a : Act) (d : Option Tmp) (v : Value) : (a.put d v).defers = a.defers := by cases d <;> rfl
theorem put_size (a : Act) (d : Option Tmp) (v : Value) : (a.put d v).tmps.size = a.tmps.size := by cases d <;> simp [Act.put]
theorem getD_list (L : Array Bool) (i j : Nat) : (L.setIfInBounds i true).getD j true = if i = j then true else L.getD j true := by
  rw [Array.getD_eq_getD_getElem?, Array.getElem?_setIfInBounds, Array.getD_eq_getD_getElem?]
  by_cases h : i = j
  · subst h
    by_cases h2 : i < L.size <;> simp [h2]
  · simp [h]
theorem Agree.step {ops : Array Oper} {L : Array Bool} {a aF : Act} (hA : Agree ops L a aF) (hu : uniqB ops = true) {i : Nat} {o : Oper} (ho : ops[i]? = some o) {v : Value} (hv : ∀ t, o.dst = some t → aF.tmps[t]? = some v) : Agree ops (L.setIfInBounds i true) (a.put o.dst v) aF := by
  refine ⟨(put_defers _ _ _).trans hA.defers, (put_size _ _ _).trans hA.size, fun t => ?_⟩
  rw [getElem?_put]
  by_cases hd : o.dst = some t
  · right
    have h1 := hv t hd
    have h2 := (Array.getElem?_eq_some_iff.1 h1).1
    rw [if_pos ⟨hd, by rw [hA.size]; exact h2⟩, h1]
  · rw [if_neg (fun h => hd h.1)]
    rcases hA.same t with ⟨j, o', h1, h2, h3⟩ | h
    · left
      refine ⟨j, o', h1, h2, ?_⟩
      have : i ≠ j := by
        rintro rfl
        rw [ho] at h1
        cases h1
        exact hd h2
      rw [getD_list, if_neg this]
      exact h3
    · exact .inr h
theorem Agree.write {ops : Array Oper} {L : Array Bool} {a aF : Act} (hA : Agree ops L a aF) {i : Nat} {o : Oper} (ho : ops[i]? = some o) (v : Value) : Agree ops (L.setIfInBounds i true) (a.put o.dst v) (aF.put o.dst v) := by
  refine ⟨by rw [put_defers, put_defers]; exact hA.defers, by rw [put_size, put_size]; exact hA.size, fun t => ?_⟩
  rw [getElem?_put, getElem?_put, hA.size]
  by_cases hd : o.dst = some t ∧ t < aF.tmps.size
  · right
    rw [if_pos hd, if_pos hd]
  · rw [if_neg hd, if_neg hd]
    rcases hA.same t with ⟨j, o', h1, h2, h3⟩ | h
    · by_cases hij : i = j
      · subst hij
        rw [ho] at h1
        cases h1
        right
        have h4 : aF.tmps.size ≤ t := Nat.le_of_not_lt fun h => hd ⟨h2, h⟩
        rw [Array.getElem?_eq_none (by rw [hA.size]; exact h4), Array.getElem?_eq_none h4]
      · left
        refine ⟨j, o', h1, h2, ?_⟩
        rw [getD_list, if_neg hij]
        exact h3
    · exact .inr h
theorem Agree.all {ops : Array Oper} {L : Array Bool} {a aF : Act} (hA : Agree ops L a aF) (h : ∀ i, L.getD i true = true) : a = aF := by
  obtain ⟨t1, d1⟩ := a
  obtain ⟨t2, d2⟩ := aF
  obtain ⟨h1, h2, h3⟩ := hA
  simp only at h1 h2 h3
  subst h1
  congr 1
  apply Array.ext_getElem?
  intro t
  rcases h3 t with ⟨i, o, _, _, h4⟩ | h4
  · rw [h i] at h4; cases h4
  · exact h4
def PureOk (P : Program) (o : Oper) (aF : Act) (W : World) (v : Value) : Prop :=
  (execOp aF.eval o).run P W = .ok (.value v) W ∨ ∃ f args, (execOp aF.eval o).run P W = .ok (.enter f args) W ∧ Calls P f args W fun e w' => e = .returned v ∧ w' = W
def StepOk (P : Program) (o : Oper) (aF : Act) (W : World) (Φ : Act → World → Prop) : Prop :=
  (∃ v W', (execOp aF.eval o).run P W = .ok (.value v) W' ∧ Φ (aF.put o.dst v) W') ∨ (∃ W', (execOp aF.eval o).run P W = .ok .skip W' ∧ Φ (aF.put o.dst undef) W') ∨
  ∃ f args W', (execOp aF.eval o).run P W = .ok (.enter f args) W' ∧ Calls P f args W' fun e w' => ∃ v, e = .returned v ∧ Φ (aF.put o.dst v) w'
structure PhI (ops : Array Oper) (ws : List Nat) (Φ : Nat → Act → World → Prop) (L : Array Bool) (a : Act) (w : World) : Prop where
  ex : ∃ k aF, Φ k aF w ∧ Agree ops L a aF ∧ ∀ j x, ws[j]? = some x → (L.getD x false = true ↔ j < k)
  closed : ∀ i o, ops[i]? = some o → L.getD i false = true → ∀ e ∈ o.after, Region.binds .any e = true → L.getD e.on false = true
  size : L.size = ops.size
theorem getD_listF (L : Array Bool) (i j : Nat) (hi : i < L.size) : (L.setIfInBounds i true).getD j false = if i = j then true else L.getD j false := by
  rw [Array.getD_eq_getD_getElem?, Array.getElem?_setIfInBounds, Array.getD_eq_getD_getElem?]
  by_cases h : i = j
  · subst h; simp [hi]
  · simp [h]
theorem anc_listed {ops : Array Oper} {L : Array Bool} (hcl : ∀ i o, ops[i]? = some o → L.getD i false = true → ∀ e ∈ o.after, Region.binds .any e = true → L.getD e.on false = true) : ∀ (n x y : Nat), (∀ o, ops[x]? = some o → ∀ e ∈ o.after, Region.binds .any e = true → L.getD e.on false = true) → ancB ops n x y = true → L.getD y false = true
  | 0, x, y, hx, h => by simp [ancB] at h
  | n + 1, x, y, hx, h => by
    unfold ancB at h
    cases ho : ops[x]? with
    | none => rw [ho] at h; cases h
    | some o =>
      rw [ho] at h
      obtain ⟨e, he, h1⟩ := Array.any_eq_true'.1 h
      simp only [Bool.and_eq_true, Bool.or_eq_true, beq_iff_eq] at h1
      have h2 := hx o ho e he h1.1
      rcases h1.2 with rfl | h3
      · exact h2
      · exact anc_listed hcl n e.on y (fun o' ho' => hcl e.on o' ho' h2) h3
def shapeB (ops : Array Oper) : Bool := closedB ops && (uniqB ops && (kindB ops && dagB ops))
def chainAll (ops : Array Oper) (ws : List Nat) : Bool := (List.range ws.length).all fun k => (List.range ws.length).all fun j => !decide (k < j) || match ws[j]?, ws[k]? with
  | some y, some x => ancB ops ops.size y x
  | _, _ => true
theorem chain_of {ops : Array Oper} {ws : List Nat} (h : chainAll ops ws = true) {k j x y : Nat} (hk : ws[k]? = some x) (hj : ws[j]? = some y) (hkj : k < j) : ancB ops ops.size y x = true := by
  have h1 := List.all_eq_true.1 (List.all_eq_true.1 h k (List.mem_range.2 (List.getElem?_eq_some_iff.1 hk).1)) j (List.mem_range.2 (List.getElem?_eq_some_iff.1 hj).1)
  rw [hj, hk] at h1
  simpa [hkj] using h1
theorem phase_step {P : Program} {ops : Array Oper} {Q : Exit → Act → World → Prop} (ws : List Nat) (Φ : Nat → Act → World → Prop) (hs : shapeB ops = true) (hch : chainAll ops ws = true)
    (hpure : ∀ k aF W i o, Φ k aF W → ops[i]? = some o → i ∉ ws → (∀ j x, ws[j]? = some x → ancB ops ops.size x i = true → k ≤ j) →
      if Region.wanted o (yielded ops aF.tmps) = true then ∃ t v, o.dst = some t ∧ aF.tmps[t]? = some v ∧ PureOk P o aF W v else ∀ t, o.dst = some t → aF.tmps[t]? = some undef)
    (hwrite : ∀ k aF W i o, Φ k aF W → ws[k]? = some i → ops[i]? = some o → Region.wanted o (yielded ops aF.tmps) = true ∧ StepOk P o aF W (Φ (k + 1)))
    {L : Array Bool} {a : Act} {w : World} {i : Nat} {o : Oper} (hJ : PhI ops ws Φ L a w) (ho : ops[i]? = some o) (hi : L.getD i true = false) (hdep : ∀ e ∈ o.after, Region.binds .any e = true → L.getD e.on false = true) :
    (∀ c, o.op ≠ .defer c) ∧ if Region.wanted o (yielded ops a.tmps) = true then Oper.wp P o a w (PhI ops ws Φ (L.setIfInBounds i true)) Q else PhI ops ws Φ (L.setIfInBounds i true) (a.put o.dst undef) w := by
  simp only [shapeB, Bool.and_eq_true] at hs
  obtain ⟨hc, hu, hk, hd⟩ := hs
  obtain ⟨⟨k, aF, h1, h2, h3⟩, hcl, hsz⟩ := hJ
  obtain ⟨hks, hkd⟩ := kind_of hk ho
  have hlk := h2.looks hc ho hdep
  have hex : execOp a.eval o = execOp aF.eval o := execOp_congr o hks (eval_of_looks hlk)
  have hwn := wanted_of_looks hlk
  have hil := (getD_of hi).1
  have hcl' : ∀ i' o', ops[i']? = some o' → (L.setIfInBounds i true).getD i' false = true → ∀ e ∈ o'.after, Region.binds .any e = true → (L.setIfInBounds i true).getD e.on false = true := by
    intro i' o' ho' hl e he hb
    rw [getD_listF _ _ _ hil]
    split
    · rfl
    · rw [getD_listF _ _ _ hil] at hl
      by_cases hii : i = i'
      · subst hii
        rw [ho] at ho'
        cases ho'
        exact hdep e he hb
      · rw [if_neg hii] at hl
        exact hcl i' o' ho' hl e he hb
  have hsz' : (L.setIfInBounds i true).size = ops.size := by simpa using hsz
  have hanc := fun y (h : ancB ops ops.size i y = true) => anc_listed hcl ops.size i y (fun o' ho' => by rw [ho] at ho'; cases ho'; exact hdep) h
  refine ⟨hkd, ?_⟩
  by_cases hw : i ∈ ws
  · -- a writer: it is the next one
    obtain ⟨j, hj⟩ := List.getElem?_of_mem hw
    have hjk : ¬ j < k := fun h => getD_listed hi ((h3 j i hj).2 h)
    have hkj : j = k := by
      by_cases h : k < j
      · have hkl : k < ws.length := by have := (List.getElem?_eq_some_iff.1 hj).1; omega
        have h4 := hanc ws[k] (chain_of hch (List.getElem?_eq_getElem hkl) hj h)
        have := (h3 k ws[k] (List.getElem?_eq_getElem hkl)).1 h4
        omega
      · omega
    subst hkj
    obtain ⟨hww, hst⟩ := hwrite j aF w i o h1 hj ho
    have hmk : ∀ v W', Φ (j + 1) (aF.put o.dst v) W' → PhI ops ws Φ (L.setIfInBounds i true) (a.put o.dst v) W' := fun v W' hΦ => by
      refine ⟨⟨j + 1, _, hΦ, h2.write ho v, fun j' x hx => ?_⟩, hcl', hsz'⟩
      rw [getD_listF _ _ _ hil]
      by_cases hix : i = x
      · subst hix
        simp only [if_true, true_iff]
        -- the same place
        have h5 : ¬ j' < j := fun h => getD_listed hi ((h3 j' i hx).2 h)
        by_cases h6 : j < j'
        · have h7 := hanc i (chain_of hch hj hx h6)
          exact (getD_listed hi h7).elim
        · omega
      · rw [if_neg hix, h3 j' x hx]
        constructor
        · intro h; omega
        · intro h
          by_cases h8 : j' = j
          · subst h8; rw [hj] at hx; cases hx; exact absurd rfl hix
          · omega
    rw [hwn, if_pos hww]
    unfold Oper.wp
    rw [hex]
    rcases hst with ⟨v, W', hr, hΦ⟩ | ⟨W', hr, hΦ⟩ | ⟨f, args, W', hr, hcall⟩
    · rw [hr]; exact hmk v W' hΦ
    · rw [hr]; exact hmk undef W' hΦ
    · rw [hr]
      refine hcall.mono ?_
      rintro e w' ⟨v, rfl, hΦ⟩
      exact hmk v w' hΦ
  · have hmk : ∀ v, (∀ t, o.dst = some t → aF.tmps[t]? = some v) → PhI ops ws Φ (L.setIfInBounds i true) (a.put o.dst v) w := fun v hv => by
      refine ⟨⟨k, aF, h1, h2.step hu ho hv, fun j x hx => ?_⟩, hcl', hsz'⟩
      rw [getD_listF _ _ _ hil, if_neg (by rintro rfl; exact hw (List.mem_of_getElem? hx))]
      exact h3 j x hx
    have hp := hpure k aF w i o h1 ho hw (fun j x hx hax => by
      by_cases h : k ≤ j
      · exact h
      · have hl := (h3 j x hx).2 (by omega)
        have := anc_listed hcl ops.size x i (fun o' ho' => hcl x o' ho' hl) hax
        exact (getD_listed hi this).elim)
    rw [hwn]
    by_cases hww : Region.wanted o (yielded ops aF.tmps) = true
    · rw [if_pos hww] at hp ⊢
      obtain ⟨t, v, ht, hv, hok⟩ := hp
      have hvv : ∀ t', o.dst = some t' → aF.tmps[t']? = some v := fun t' h => by rw [ht] at h; cases h; exact hv
      unfold Oper.wp
      rw [hex]
      rcases hok with hr | ⟨f, args, hr, hcall⟩
      · rw [hr]; exact hmk v hvv
      · rw [hr]
        refine hcall.mono ?_
        rintro e w' ⟨rfl, rfl⟩
        exact hmk v hvv
    · rw [if_neg hww] at hp ⊢
      exact hmk undef hp
theorem phase_start {ops : Array Oper} {ws : List Nat} {Φ : Nat → Act → World → Prop} {a aF : Act} {w : World} (hΦ : Φ 0 aF w) (hd : a.defers = aF.defers) (hz : a.tmps.size = aF.tmps.size) (hsame : ∀ t, (∃ (i : Nat) (o : Oper), ops[i]? = some o ∧ o.dst = some t) ∨ a.tmps[t]? = aF.tmps[t]?) : PhI ops ws Φ (Array.replicate ops.size false) a w := by
  have hf : ∀ i, (Array.replicate ops.size false).getD i false = false := fun i => by
    rw [Array.getD_eq_getD_getElem?, Array.getElem?_replicate]; split <;> rfl
  refine ⟨⟨0, aF, hΦ, ⟨hd, hz, fun t => ?_⟩, fun j x _ => by rw [hf]; simp⟩, (fun i o _ h => by rw [hf] at h; cases h), by simp⟩
  rcases hsame t with ⟨i, o, h1, h2⟩ | h
  · left
    refine ⟨i, o, h1, h2, ?_⟩
    rw [Array.getD_eq_getD_getElem?, Array.getElem?_replicate, if_pos (Array.getElem?_eq_some_iff.1 h1).1]
    rfl
  · exact .inr h
theorem phase_end {ops : Array Oper} {ws : List Nat} {Φ : Nat → Act → World → Prop} {Q : Exit → Act → World → Prop} (hws : ∀ x ∈ ws, x < ops.size) (hfin : ∀ k aF W, ws.length ≤ k → Φ k aF W → Q .normal aF W) {L : Array Bool} {a : Act} {w : World} (hJ : PhI ops ws Φ L a w) (hall : ∀ i, L.getD i true = true) : Q .normal a w := by
  obtain ⟨⟨k, aF, h1, h2, h3⟩, _, hsz⟩ := hJ
  have he := h2.all hall
  subst he
  refine hfin k a w ?_ h1
  by_cases h : ws.length ≤ k
  · exact h
  · have hkl : k < ws.length := by omega
    have hx := List.getElem?_eq_getElem hkl
    have hlt := hws ws[k] (List.getElem_mem hkl)
    have h4 : L.getD ws[k] false = true := by
      have := hall ws[k]
      rw [Array.getD_eq_getD_getElem?, Array.getElem?_eq_getElem (by omega)] at this ⊢
      exact this
    have := (h3 k _ hx).1 h4
    omega
theorem wpIn_region_phase {l n : Nat} {P : Program} {ops : Array Oper} {Q : Exit → Act → World → Prop} {id : Nat} {a aF : Act} {w : World} (hm : P.follows .mixedOrders = true) (ws : List Nat) (Φ : Nat → Act → World → Prop) (hs : shapeB ops = true) (hch : chainAll ops ws = true) (hws : ∀ x ∈ ws, x < ops.size)
    (hΦ : Φ 0 aF w.drew) (hd : a.defers = aF.defers) (hz : a.tmps.size = aF.tmps.size) (hsame : ∀ t, (∃ (i : Nat) (o : Oper), ops[i]? = some o ∧ o.dst = some t) ∨ a.tmps[t]? = aF.tmps[t]?)
    (hpure : ∀ k aF W i o, Φ k aF W → ops[i]? = some o → i ∉ ws → (∀ j x, ws[j]? = some x → ancB ops ops.size x i = true → k ≤ j) →
      if Region.wanted o (yielded ops aF.tmps) = true then ∃ t v, o.dst = some t ∧ aF.tmps[t]? = some v ∧ PureOk P o aF W v else ∀ t, o.dst = some t → aF.tmps[t]? = some undef)
    (hwrite : ∀ k aF W i o, Φ k aF W → ws[k]? = some i → ops[i]? = some o → Region.wanted o (yielded ops aF.tmps) = true ∧ StepOk P o aF W (Φ (k + 1)))
    (hfin : ∀ k aF W, ws.length ≤ k → Φ k aF W → Q .normal aF W) : (Code.region id ops true).wpIn (Fence.wide.inRound l) n P Q a w := by
  refine wpIn_region_inv hm (PhI ops ws Φ) (by simp only [shapeB, Bool.and_eq_true] at hs; exact hs.2.2.2) (phase_start hΦ hd hz hsame) (fun L a w i o hJ ho hi hdep => ?_) (fun L a w hJ hall => phase_end hws hfin hJ hall)
  obtain ⟨h1, h2⟩ := phase_step (Q := Q) ws Φ hs hch hpure hwrite hJ ho hi hdep
  unfold wpOpIn
  rw [ho]
  simp only
  split
  · rename_i hw
    rw [if_pos hw] at h2
    exact wpIn_of_wp h1 h2
  · rename_i hw
    rw [if_neg hw] at h2
    exact ⟨fun _ _ => trivial, h2⟩
theorem wp_region_phase {P : Program} {ops : Array Oper} {Q : Exit → Act → World → Prop} {id : Nat} {a aF : Act} {w : World} (hm : P.follows .mixedOrders = true) (ws : List Nat) (Φ : Nat → Act → World → Prop) (hs : shapeB ops = true) (hch : chainAll ops ws = true) (hws : ∀ x ∈ ws, x < ops.size)
    (hΦ : Φ 0 aF w.drew) (hd : a.defers = aF.defers) (hz : a.tmps.size = aF.tmps.size) (hsame : ∀ t, (∃ (i : Nat) (o : Oper), ops[i]? = some o ∧ o.dst = some t) ∨ a.tmps[t]? = aF.tmps[t]?)
    (hpure : ∀ k aF W i o, Φ k aF W → ops[i]? = some o → i ∉ ws → (∀ j x, ws[j]? = some x → ancB ops ops.size x i = true → k ≤ j) →
      if Region.wanted o (yielded ops aF.tmps) = true then ∃ t v, o.dst = some t ∧ aF.tmps[t]? = some v ∧ PureOk P o aF W v else ∀ t, o.dst = some t → aF.tmps[t]? = some undef)
    (hwrite : ∀ k aF W i o, Φ k aF W → ws[k]? = some i → ops[i]? = some o → Region.wanted o (yielded ops aF.tmps) = true ∧ StepOk P o aF W (Φ (k + 1)))
    (hfin : ∀ k aF W, ws.length ≤ k → Φ k aF W → Q .normal aF W) : (Code.region id ops true).wp P Q a w := by
  refine wp_region_inv hm (PhI ops ws Φ) (by simp only [shapeB, Bool.and_eq_true] at hs; exact hs.2.2.2) (phase_start hΦ hd hz hsame) (fun L a w i o hJ ho hi hdep => ?_) (fun L a w hJ hall => phase_end hws hfin hJ hall)
  obtain ⟨h1, h2⟩ := phase_step (Q := Q) ws Φ hs hch hpure hwrite hJ ho hi hdep
  unfold wpOp
  rw [ho]
  simp only
  split
  · rename_i hw
    rw [if_pos hw] at h2
    exact .inl h2
  · rename_i hw
    rw [if_neg hw] at h2
    exact h2
end Go.Proofs.YtefokfbgpfcbkaaGreat
namespace Go.Proofs.YtefokfbgpfcbkaaGreat
set_option linter.unusedVariables false
set_option linter.unusedSimpArgs false
def kindD (ops : Array Oper) : Bool := ops.all fun o => match o.op with
  | .defer .. => false
  | _ => true
theorem kindD_of {ops : Array Oper} (h : kindD ops = true) {i : Nat} {o : Oper} (ho : ops[i]? = some o) : ∀ c, o.op ≠ .defer c := by
  obtain ⟨hl, he⟩ := Array.getElem?_eq_some_iff.1 ho
  have h1 := (Array.all_eq_true.1 h) i hl
  rw [he] at h1
  intro c e
  rw [e] at h1
  cases h1
theorem wpOpIn_of_qOp {l n : Nat} {P : Program} {ops : Array Oper} {C : World → Prop} {i : Nat} {a : Act} {K : Act → Prop} {K' : Act → World → Prop} {Q' : Exit → Act → World → Prop} {w : World} (hk : kindD ops = true) (hC : C w) (h : ∀ a w', C w' → K a → K' a w') (hh : qOp P ops C i K a) : wpOpIn (Fence.wide.inRound l) n P ops Q' i K' a w := by
  unfold qOp at hh
  unfold wpOpIn
  split
  · rename_i ho; simp only [ho] at hh; exact h _ _ hC hh
  · rename_i o ho
    simp only [ho] at hh
    split
    · rename_i hw
      simp only [hw, if_true] at hh
      exact wpIn_of_wp (kindD_of hk ho) (Oper.wp_of_quiet hC h hh)
    · rename_i hw; simp only [hw] at hh; exact ⟨fun _ _ => trivial, h _ _ hC hh⟩
theorem wpAnyIn_of_quiet {l n : Nat} {P : Program} {md : Region.Mode} {ops : Array Oper} {C : World → Prop} {Q : Act → Prop} {Q' : Exit → Act → World → Prop} (hk : kindD ops = true) (hQ : ∀ a w, C w → Q a → Q' .normal a w) : ∀ (fuel : Nat) (listed : Array Bool) (a : Act) (w : World), C w →
    wpAnyQ P md ops C Q fuel listed a → wpAnyIn (Fence.wide.inRound l) n P md ops Q' fuel listed a w
  | 0, _, _, _, hw, h => ⟨h.1, hQ _ _ hw h.2⟩
  | fuel + 1, _, _, _, hw, h => ⟨fun h0 => hQ _ _ hw (h.1 h0), fun i hi => wpOpIn_of_qOp hk hw (fun a' w' hw' => wpAnyIn_of_quiet hk hQ fuel _ a' w' hw') (h.2 i hi)⟩
theorem wpIn_region_quiet_lit {lv n : Nat} {P : Program} {id : Nat} {Q : Exit → Act → World → Prop} {a : Act} {w : World} {l : List Oper} (hm : P.follows .mixedOrders = true) (hB : Region.lexB .any l.toArray = true) (hk : kindD l.toArray = true)
    (h : wpQuiet P l.toArray (fun w' => ∃ n, w' = w.drewN n) (fun a' => ∀ w', (∃ n, w' = w.drewN n) → Q .normal a' w') l a) : (Code.region id l.toArray true).wpIn (Fence.wide.inRound lv) n P Q a w := by
  simp only [Region.lexB, Bool.and_eq_true] at hB
  refine wpIn_region_any hm (wpAnyIn_of_quiet (C := fun w' => ∃ n, w' = w.drewN n) hk (Q := fun a' => ∀ w', (∃ n, w' = w.drewN n) → Q .normal a' w') (fun _ w' hw' h => h w' hw') _ _ _ _ ⟨1, rfl⟩ ?_)
  have := wpAnyQ_lex (C := fun w' => ∃ n, w' = w.drewN n) (md := .any) hB.1 l 0 (Array.replicate l.toArray.size false) a (by simp) (by simpa using hB.2) h
  simpa using this
end Go.Proofs.YtefokfbgpfcbkaaGreat
namespace Go.Proofs.YtefokfbgpfcbkaaGreat
set_option linter.unusedVariables false
set_option linter.unusedSimpArgs false
def blank (o : Oper) : Oper := { o with dst := none, op := .move (.const undef), guard := none }
def blanked (l : List Oper) (p : Nat) : List Oper := l.take p ++ (l.drop p).map blank
def tailB (ops : Array Oper) (p : Nat) : Bool := (List.range ops.size).all fun i => decide (i < p) || (List.range i).all fun j => ancB ops ops.size i j
def guardsB (l : List Oper) (p : Nat) : Bool := (l.take p).all fun o => match o.guard with
  | some (g, _) => decide (g < p)
  | none => true
theorem tail_of {ops : Array Oper} {p i j : Nat} (h : tailB ops p = true) (hi : i < ops.size) (hp : p ≤ i) (hj : j < i) : ancB ops ops.size i j = true := by
  have h1 := List.all_eq_true.1 h i (List.mem_range.2 hi)
  have h2 : decide (i < p) = false := decide_eq_false (by omega)
  rw [h2, Bool.false_or] at h1
  exact List.all_eq_true.1 h1 j (List.mem_range.2 hj)
theorem blanked_len (l : List Oper) (p : Nat) : (blanked l p).length = l.length := by simp [blanked]; omega
theorem blanked_pre {l : List Oper} {p i : Nat} (h : i < p) : (blanked l p)[i]? = l[i]? := by
  unfold blanked
  by_cases hl : i < l.length
  · rw [List.getElem?_append_left (by simp; omega), List.getElem?_take_of_lt h]
  · rw [List.getElem?_eq_none (by simp [blanked]; omega), List.getElem?_eq_none (by omega)]
theorem blanked_tail {l : List Oper} {p i : Nat} (h : p ≤ i) : (blanked l p)[i]? = (l[i]?).map blank := by
  unfold blanked
  by_cases hl : p ≤ l.length
  · rw [List.getElem?_append_right (by simp; omega), List.getElem?_map, List.getElem?_drop, List.length_take, Nat.min_eq_left hl, show p + (i - p) = i by omega]
  · rw [List.getElem?_eq_none (by simp; omega), List.getElem?_eq_none (by omega)]; rfl
theorem blanked_ready (l : List Oper) (p : Nat) (L : Array Bool) : Region.ready .any (blanked l p).toArray L = Region.ready .any l.toArray L := by
  unfold Region.ready
  rw [show (blanked l p).toArray.size = l.toArray.size by simp [blanked_len]]
  congr 1
  funext i
  congr 1
  have e : ((blanked l p).toArray[i]?).map (fun o => o.after) = (l.toArray[i]?).map (fun o => o.after) := by
    rw [List.getElem?_toArray, List.getElem?_toArray]
    by_cases h : i < p
    · rw [blanked_pre h]
    · rw [blanked_tail (by omega)]
      cases l[i]? <;> rfl
  have e2 : ∀ (x : Option Oper), (x.map (·.after.all fun e => !Region.binds .any e || L.getD e.on false)).getD false = ((x.map (fun o => o.after)).map (·.all fun e => !Region.binds .any e || L.getD e.on false)).getD false := fun x => by cases x <;> rfl
  rw [e2, e2, e]
theorem blanked_wanted {l : List Oper} {p i : Nat} {o : Oper} (hg : guardsB l p = true) (ho : l[i]? = some o) (hi : i < p) (t : Array Value) : Region.wanted o (yielded (blanked l p).toArray t) = Region.wanted o (yielded l.toArray t) := by
  have hm : o ∈ l.take p := List.mem_of_getElem? (i := i) (by rw [List.getElem?_take_of_lt hi]; exact ho)
  have h1 := List.all_eq_true.1 hg o hm
  unfold Region.wanted
  cases hq : o.guard with
  | none => rfl
  | some gb =>
    obtain ⟨g, b⟩ := gb
    rw [hq] at h1
    have hgp : g < p := of_decide_eq_true h1
    have : yielded (blanked l p).toArray t g = yielded l.toArray t g := by
      unfold yielded
      rw [List.getElem?_toArray, List.getElem?_toArray, blanked_pre hgp]
    simp only [this]
theorem quiet_blanks {P : Program} {ops : Array Oper} {C : World → Prop} {Q : Act → Prop} : ∀ (l : List Oper) (a : Act), Q a → wpQuiet P ops C Q (l.map blank) a
  | [], a, h => h
  | o :: l, a, h => by
    show (if Region.wanted (blank o) (yielded ops a.tmps) then (blank o).quiet P a C (wpQuiet P ops C Q (l.map blank)) else wpQuiet P ops C Q (l.map blank) (a.put none undef))
    rw [if_pos (show Region.wanted (blank o) (yielded ops a.tmps) = true from rfl)]
    exact ⟨undef, fun w hw => ⟨rfl, rfl⟩, quiet_blanks l a h⟩
theorem quiet_app {P : Program} {l : List Oper} {p : Nat} {C : World → Prop} {Q : Act → Prop} (hg : guardsB l p = true) : ∀ (m : List Oper) (k : Nat) (a : Act), (∀ i, k ≤ i → i < p → m[i - k]? = l[i]?) → m.length ≤ p - k → wpQuiet P l.toArray C Q m a → wpQuiet P (blanked l p).toArray C Q (m ++ (l.drop p).map blank) a
  | [], k, a, _, _, h => quiet_blanks _ a h
  | o :: m, k, a, hm, hk, h => by
    simp only [List.length_cons] at hk
    have ho : l[k]? = some o := by have := hm k (Nat.le_refl _) (by omega); simpa using this.symm
    have ih : ∀ a, wpQuiet P l.toArray C Q m a → wpQuiet P (blanked l p).toArray C Q (m ++ (l.drop p).map blank) a := fun a => quiet_app hg m (k + 1) a (fun i h1 h2 => by
      have := hm i (by omega) h2
      rw [show i - k = (i - (k + 1)) + 1 by omega] at this
      simpa using this) (by omega)
    have h' : if Region.wanted o (yielded l.toArray a.tmps) then o.quiet P a C (wpQuiet P l.toArray C Q m) else wpQuiet P l.toArray C Q m (a.put o.dst undef) := h
    show if Region.wanted o (yielded (blanked l p).toArray a.tmps) then o.quiet P a C (wpQuiet P (blanked l p).toArray C Q (m ++ (l.drop p).map blank)) else wpQuiet P (blanked l p).toArray C Q (m ++ (l.drop p).map blank) (a.put o.dst undef)
    rw [blanked_wanted hg ho (by omega)]
    split
    · rename_i hw
      rw [if_pos hw] at h'
      exact Oper.quiet_mono ih h'
    · rename_i hw
      rw [if_neg hw] at h'
      exact ih _ h'
theorem blanks_done {P : Program} {l : List Oper} {p : Nat} {C : World → Prop} {Q : Act → Prop} : ∀ (fuel : Nat) (L : Array Bool) (a : Act), (∀ i, i < p → L.getD i true = true) → wpAnyQ P .any (blanked l p).toArray C Q fuel L a → Q a
  | 0, L, a, _, h => h.2
  | fuel + 1, L, a, hL, h => by
    cases hr : Region.ready .any (blanked l p).toArray L with
    | nil => exact h.1 hr
    | cons i r =>
      have hi : i ∈ Region.ready .any (blanked l p).toArray L := by rw [hr]; exact List.mem_cons_self
      obtain ⟨h0, o, ho, _⟩ := mem_ready.1 hi
      have hip : p ≤ i := by
        by_cases h1 : i < p
        · rw [hL i h1] at h0; cases h0
        · omega
      have h2 := h.2 i hi
      rw [List.getElem?_toArray, blanked_tail hip] at ho
      unfold qOp at h2
      rw [List.getElem?_toArray, blanked_tail hip] at h2
      cases hq : l[i]? with
      | none => rw [hq] at ho; cases ho
      | some o' =>
        rw [hq] at h2
        simp only [Option.map_some] at h2
        rw [if_pos (show Region.wanted (blank o') (yielded (blanked l p).toArray a.tmps) = true from rfl)] at h2
        obtain ⟨v, _, h3⟩ := h2
        exact blanks_done fuel _ a (fun j hj => by rw [getD_list]; split <;> first | rfl | exact hL j hj) h3
theorem ready_deps {ops : Array Oper} {L : Array Bool} {i : Nat} {o : Oper} (hi : i ∈ Region.ready .any ops L) (ho : ops[i]? = some o) : ∀ e ∈ o.after, Region.binds .any e = true → L.getD e.on false = true := by
  obtain ⟨_, o', ho', h⟩ := mem_ready.1 hi
  rw [ho] at ho'
  cases ho'
  exact h
theorem tail_ready {ops : Array Oper} {p k i : Nat} {L : Array Bool} (hd : dagB ops = true) (ht : tailB ops p = true) (hpk : p ≤ k) (h1 : ∀ j, j < k → L.getD j true = true) (h2 : ∀ j, k ≤ j → L.getD j false = false) (hs : L.size = ops.size) (hi : i ∈ Region.ready .any ops L) : i = k ∧ k < ops.size := by
  obtain ⟨h0, o, ho, _⟩ := mem_ready.1 hi
  have hil := (Array.getElem?_eq_some_iff.1 ho).1
  have hki : k ≤ i := by
    by_cases h : i < k
    · rw [h1 i h] at h0; cases h0
    · omega
  refine ⟨?_, by omega⟩
  by_cases h : k < i
  · have h3 := anc_listed (L := L) (fun x o' ho' hx e he hb => by
      have hxk : x < k := by
        by_cases hx2 : x < k
        · exact hx2
        · rw [h2 x (by omega)] at hx; cases hx
      have h4 := dag_of hd ho' e he
      have h5 := h1 e.on (by omega)
      have h6 : e.on < L.size := by have := (Array.getElem?_eq_some_iff.1 ho').1; omega
      simpa [Array.getD, h6] using h5) ops.size i k (fun o' ho' => ready_deps hi ho') (tail_of ht hil (by omega) h)
    rw [h2 k (Nat.le_refl _)] at h3
    cases h3
  · omega
theorem wpAny_list {P : Program} {ops : Array Oper} {Q : Exit → Act → World → Prop} {p : Nat} (hd : dagB ops = true) (ht : tailB ops p = true) : ∀ (t : List Oper) (k fuel : Nat) (L : Array Bool) (a : Act) (w : World), ops.toList.drop k = t → p ≤ k → (∀ j, j < k → L.getD j true = true) → (∀ j, k ≤ j → L.getD j false = false) → L.size = ops.size → t.length ≤ fuel → wpList P ops Q t a w → wpAny P .any ops Q fuel L a w
  | [], k, fuel, L, a, w, hk, hpk, h1, h2, hs, hf, h => by
    have hno : Region.ready .any ops L = [] := by
      cases hr : Region.ready .any ops L with
      | nil => rfl
      | cons i r =>
        have := tail_ready hd ht hpk h1 h2 hs (by rw [hr]; exact List.mem_cons_self)
        have h3 := congrArg List.length hk
        simp at h3
        omega
    cases fuel with
    | zero => exact ⟨hno, h⟩
    | succ fuel => exact ⟨fun _ => h, fun i hi => by rw [hno] at hi; cases hi⟩
  | o :: t, k, fuel, L, a, w, hk, hpk, h1, h2, hs, hf, h => by
    have ho : ops[k]? = some o := by
      have := congrArg (fun l : List Oper => l[0]?) hk
      simpa using this
    have hkl := (Array.getElem?_eq_some_iff.1 ho).1
    obtain ⟨fuel, rfl⟩ : ∃ f, fuel = f + 1 := ⟨fuel - 1, by simp at hf; omega⟩
    refine ⟨fun hr => ?_, fun i hi => ?_⟩
    · have h3 : L.getD k true = false := by
        have h4 := h2 k (Nat.le_refl _)
        have h5 : k < L.size := by omega
        simpa [Array.getD, h5] using h4
      obtain ⟨j, hj⟩ := ready_ex (md := .any) hd hs k k (Nat.le_refl _) h3
      rw [hr] at hj
      cases hj
    · obtain ⟨rfl, _⟩ := tail_ready hd ht hpk h1 h2 hs hi
      have hK : ∀ a' w', wpList P ops Q t a' w' → wpAny P .any ops Q fuel (L.setIfInBounds i true) a' w' := fun a' w' h' =>
        wpAny_list hd ht t (i + 1) fuel _ a' w' (by
          have := congrArg List.tail hk
          simpa using this) (by omega) (fun j hj => by rw [getD_list]; split <;> first | rfl | exact h1 j (by omega)) (fun j hj => by rw [getD_listF _ _ _ (by omega), if_neg (by omega)]; exact h2 j (by omega)) (by simpa using hs) (by simp at hf; omega) h'
      have h' : if Region.wanted o (yielded ops a.tmps) then o.wp P a w (wpList P ops Q t) Q ∨ (o.asks P a w ∧ LetsOut Q) else wpList P ops Q t (a.put o.dst undef) w := h
      unfold wpOp
      rw [ho]
      simp only
      split
      · rename_i hw
        rw [if_pos hw] at h'
        exact h'.imp (Oper.wp_mono hK) id
      · rename_i hw
        rw [if_neg hw] at h'
        exact hK _ _ h'
theorem wpAny_tail {P : Program} {l : List Oper} {Q : Exit → Act → World → Prop} {p : Nat} {C : World → Prop} (hd : dagB l.toArray = true) (ht : tailB l.toArray p = true) (hg : guardsB l p = true) : ∀ (fuel : Nat) (L : Array Bool) (a : Act) (w : World), C w → L.size = l.length → unl L ≤ fuel →
    (∀ j, p ≤ j → L.getD j false = false) → (∀ i o, l.toArray[i]? = some o → L.getD i false = true → ∀ e ∈ o.after, Region.binds .any e = true → L.getD e.on false = true) →
    wpAnyQ P .any (blanked l p).toArray C (fun a' => ∀ w', C w' → wpList P l.toArray Q (l.drop p) a' w') fuel L a → wpAny P .any l.toArray Q fuel L a w := by
  intro fuel
  induction fuel with
  | zero =>
    intro L a w hC hs hu h2 hcl h
    have hall : ∀ i, L.getD i true = true := fun i => by
      by_cases h' : L.getD i true = false
      · have := unl_set h'; omega
      · simpa using h'
    have h3 := blanks_done 0 L a (fun i _ => hall i) h w hC
    refine wpAny_list hd ht (l.drop p) p 0 L a w (by simp) (Nat.le_refl _) (fun j _ => hall j) h2 (by simpa using hs) ?_ h3
    by_cases hp : p < l.length
    · have h4 := h2 p (Nat.le_refl _)
      have h5 := hall p
      have h6 : p < L.size := by omega
      simp [Array.getD, h6] at h4 h5
      rw [h4] at h5; cases h5
    · simp; omega
  | succ fuel ih =>
    intro L a w hC hs hu h2 hcl h
    by_cases hall : ∀ i, i < p → L.getD i true = true
    · have h3 := blanks_done (fuel + 1) L a hall h w hC
      refine wpAny_list hd ht (l.drop p) p (fuel + 1) L a w (by simp) (Nat.le_refl _) hall h2 (by simpa using hs) ?_ h3
      -- as many are unlisted as the tail is long
      have h7 : ∀ (m : Nat) (M : Array Bool), M.size = l.length → (∀ j, l.length - m ≤ j → M.getD j false = false) → m ≤ l.length → m ≤ unl M := by
        intro m
        induction m with
        | zero => intro M _ _ _; omega
        | succ m ihm =>
          intro M hM hj hml
          have hlt : l.length - (m + 1) < M.size := by omega
          have h8 : M.getD (l.length - (m + 1)) true = false := by
            have := hj (l.length - (m + 1)) (Nat.le_refl _)
            simpa [Array.getD, hlt] using this
          have h9 := ihm (M.setIfInBounds (l.length - (m + 1)) true) (by simpa using hM) (fun j hj' => by
            rw [getD_listF _ _ _ hlt, if_neg (by omega)]
            exact hj j (by omega)) (by omega)
          have := unl_set h8
          omega
      by_cases hpl : p ≤ l.length
      · have := h7 (l.length - p) L hs (fun j hj => h2 j (by omega)) (by omega)
        simp
        omega
      · simp
        omega
    · -- one ahead of the tail is still open
      obtain ⟨q, hq⟩ := Classical.not_forall.1 hall
      obtain ⟨hqp, hq0⟩ := Classical.not_imp.1 hq
      have hqf : L.getD q true = false := by simpa using hq0
      refine ⟨fun hr => ?_, fun i hi => ?_⟩
      · obtain ⟨j, hj⟩ := ready_ex (md := .any) hd (by simpa using hs) q q (Nat.le_refl _) hqf
        rw [hr] at hj
        cases hj
      · obtain ⟨h0, o, ho, hdep⟩ := mem_ready.1 hi
        have hil := (Array.getElem?_eq_some_iff.1 ho).1
        have hip : i < p := by
          by_cases h' : i < p
          · exact h'
          · have h3 := anc_listed hcl l.toArray.size i q (fun o' ho' => by rw [ho] at ho'; cases ho'; exact hdep) (tail_of ht hil (by omega) (by omega))
            exact (getD_listed hqf h3).elim
        have hiL := (getD_of h0).1
        have h3 := h.2 i (by rw [blanked_ready]; exact hi)
        have hlo : l[i]? = some o := by simpa using ho
        unfold qOp at h3
        rw [List.getElem?_toArray, blanked_pre hip, hlo] at h3
        simp only at h3
        rw [blanked_wanted hg hlo hip] at h3
        have hK : ∀ a' w', C w' → wpAnyQ P .any (blanked l p).toArray C (fun a' => ∀ w', C w' → wpList P l.toArray Q (l.drop p) a' w') fuel (L.setIfInBounds i true) a' → wpAny P .any l.toArray Q fuel (L.setIfInBounds i true) a' w' := fun a' w' hC' h' => by
          refine ih _ a' w' hC' (by simpa using hs) (by have := unl_set h0; omega) (fun j hj => by rw [getD_listF _ _ _ hiL, if_neg (by omega)]; exact h2 j hj) (fun i' o' ho' hl e he hb => ?_) h'
          rw [getD_listF _ _ _ hiL]
          split
          · rfl
          · rw [getD_listF _ _ _ hiL] at hl
            by_cases hii : i = i'
            · subst hii
              rw [ho] at ho'
              cases ho'
              exact hdep e he hb
            · rw [if_neg hii] at hl
              exact hcl i' o' ho' hl e he hb
        unfold wpOp
        rw [ho]
        simp only
        split
        · rename_i hw
          rw [if_pos hw] at h3
          exact .inl (Oper.wp_of_quiet hC hK h3)
        · rename_i hw
          rw [if_neg hw] at h3
          exact hK _ _ hC h3
theorem unl_rep (n : Nat) : unl (Array.replicate n false) ≤ n := by simp [unl, List.count_replicate]
theorem wp_region_tail {P : Program} {id : Nat} {Q : Exit → Act → World → Prop} {a : Act} {w : World} {l : List Oper} (p : Nat) (hm : P.follows .mixedOrders = true) (hB : Region.lexB .any (blanked l p).toArray = true) (hd : dagB l.toArray = true) (ht : tailB l.toArray p = true) (hg : guardsB l p = true)
    (h : wpQuiet P l.toArray (fun w' => ∃ n, w' = w.drewN n) (fun a' => ∀ w', (∃ n, w' = w.drewN n) → wpList P l.toArray Q (l.drop p) a' w') (l.take p) a) : (Code.region id l.toArray true).wp P Q a w := by
  simp only [Region.lexB, Bool.and_eq_true] at hB
  have hf : ∀ i, (Array.replicate l.length false).getD i false = false := fun i => by
    rw [Array.getD_eq_getD_getElem?, Array.getElem?_replicate]; split <;> rfl
  have h1 := quiet_app hg (l.take p) 0 a (fun i _ hi => by rw [Nat.sub_zero, List.getElem?_take_of_lt hi]) (by simp; omega) h
  have h2 := wpAnyQ_lex (C := fun w' => ∃ n, w' = w.drewN n) (md := .any) hB.1 (blanked l p) 0 (Array.replicate l.length false) a (by simp) (by have := hB.2; simp only [List.size_toArray, blanked_len] at this ⊢; exact this) h1
  rw [blanked_len] at h2
  refine wp_region_any hm ?_
  simp only [List.size_toArray]
  exact wpAny_tail hd ht hg l.length _ a _ ⟨1, rfl⟩ (by simp) (unl_rep _) (fun j _ => hf j) (fun i o _ h => by rw [hf] at h; cases h) h2
/-! within a round -/
theorem wpAnyIn_list {lv n : Nat} {P : Program} {ops : Array Oper} {Q : Exit → Act → World → Prop} {p : Nat} (hd : dagB ops = true) (ht : tailB ops p = true) : ∀ (t : List Oper) (k fuel : Nat) (L : Array Bool) (a : Act) (w : World), ops.toList.drop k = t → p ≤ k → (∀ j, j < k → L.getD j true = true) → (∀ j, k ≤ j → L.getD j false = false) → L.size = ops.size → t.length ≤ fuel → wpListIn (Fence.wide.inRound lv) n P ops Q t a w → wpAnyIn (Fence.wide.inRound lv) n P .any ops Q fuel L a w
  | [], k, fuel, L, a, w, hk, hpk, h1, h2, hs, hf, h => by
    have hno : Region.ready .any ops L = [] := by
      cases hr : Region.ready .any ops L with
      | nil => rfl
      | cons i r =>
        have := tail_ready hd ht hpk h1 h2 hs (by rw [hr]; exact List.mem_cons_self)
        have h3 := congrArg List.length hk
        simp at h3
        omega
    cases fuel with
    | zero => exact ⟨hno, h⟩
    | succ fuel => exact ⟨fun _ => h, fun i hi => by rw [hno] at hi; cases hi⟩
  | o :: t, k, fuel, L, a, w, hk, hpk, h1, h2, hs, hf, h => by
    have ho : ops[k]? = some o := by
      have := congrArg (fun l : List Oper => l[0]?) hk
      simpa using this
    have hkl := (Array.getElem?_eq_some_iff.1 ho).1
    obtain ⟨fuel, rfl⟩ : ∃ f, fuel = f + 1 := ⟨fuel - 1, by simp at hf; omega⟩
    refine ⟨fun hr => ?_, fun i hi => ?_⟩
    · have h3 : L.getD k true = false := by
        have h4 := h2 k (Nat.le_refl _)
        have h5 : k < L.size := by omega
        simpa [Array.getD, h5] using h4
      obtain ⟨j, hj⟩ := ready_ex (md := .any) hd hs k k (Nat.le_refl _) h3
      rw [hr] at hj
      cases hj
    · obtain ⟨rfl, _⟩ := tail_ready hd ht hpk h1 h2 hs hi
      have hK : ∀ a' w', wpListIn (Fence.wide.inRound lv) n P ops Q t a' w' → wpAnyIn (Fence.wide.inRound lv) n P .any ops Q fuel (L.setIfInBounds i true) a' w' := fun a' w' h' =>
        wpAnyIn_list hd ht t (i + 1) fuel _ a' w' (by
          have := congrArg List.tail hk
          simpa using this) (by omega) (fun j hj => by rw [getD_list]; split <;> first | rfl | exact h1 j (by omega)) (fun j hj => by rw [getD_listF _ _ _ (by omega), if_neg (by omega)]; exact h2 j (by omega)) (by simpa using hs) (by simp at hf; omega) h'
      have h' : if Region.wanted o (yielded ops a.tmps) then o.wpIn (Fence.wide.inRound lv) n P a w (wpListIn (Fence.wide.inRound lv) n P ops Q t) Q else (∀ f, o.about P w a.eval = some f → (Fence.wide.inRound lv).fn f) ∧ wpListIn (Fence.wide.inRound lv) n P ops Q t (a.put o.dst undef) w := h
      unfold wpOpIn
      rw [ho]
      simp only
      split
      · rename_i hw
        rw [if_pos hw] at h'
        exact Oper.wpIn_mono hK h'
      · rename_i hw
        rw [if_neg hw] at h'
        exact ⟨h'.1, hK _ _ h'.2⟩
theorem wpAnyIn_tail {lv n : Nat} {P : Program} {l : List Oper} {Q : Exit → Act → World → Prop} {p : Nat} {C : World → Prop} (hd : dagB l.toArray = true) (ht : tailB l.toArray p = true) (hg : guardsB l p = true) (hk : kindD l.toArray = true) : ∀ (fuel : Nat) (L : Array Bool) (a : Act) (w : World), C w → L.size = l.length → unl L ≤ fuel →
    (∀ j, p ≤ j → L.getD j false = false) → (∀ i o, l.toArray[i]? = some o → L.getD i false = true → ∀ e ∈ o.after, Region.binds .any e = true → L.getD e.on false = true) →
    wpAnyQ P .any (blanked l p).toArray C (fun a' => ∀ w', C w' → wpListIn (Fence.wide.inRound lv) n P l.toArray Q (l.drop p) a' w') fuel L a → wpAnyIn (Fence.wide.inRound lv) n P .any l.toArray Q fuel L a w := by
  intro fuel
  induction fuel with
  | zero =>
    intro L a w hC hs hu h2 hcl h
    have hall : ∀ i, L.getD i true = true := fun i => by
      by_cases h' : L.getD i true = false
      · have := unl_set h'; omega
      · simpa using h'
    have h3 := blanks_done 0 L a (fun i _ => hall i) h w hC
    refine wpAnyIn_list hd ht (l.drop p) p 0 L a w (by simp) (Nat.le_refl _) (fun j _ => hall j) h2 (by simpa using hs) ?_ h3
    by_cases hp : p < l.length
    · have h4 := h2 p (Nat.le_refl _)
      have h5 := hall p
      have h6 : p < L.size := by omega
      simp [Array.getD, h6] at h4 h5
      rw [h4] at h5; cases h5
    · simp; omega
  | succ fuel ih =>
    intro L a w hC hs hu h2 hcl h
    by_cases hall : ∀ i, i < p → L.getD i true = true
    · have h3 := blanks_done (fuel + 1) L a hall h w hC
      refine wpAnyIn_list hd ht (l.drop p) p (fuel + 1) L a w (by simp) (Nat.le_refl _) hall h2 (by simpa using hs) ?_ h3
      -- as many are unlisted as the tail is long
      have h7 : ∀ (m : Nat) (M : Array Bool), M.size = l.length → (∀ j, l.length - m ≤ j → M.getD j false = false) → m ≤ l.length → m ≤ unl M := by
        intro m
        induction m with
        | zero => intro M _ _ _; omega
        | succ m ihm =>
          intro M hM hj hml
          have hlt : l.length - (m + 1) < M.size := by omega
          have h8 : M.getD (l.length - (m + 1)) true = false := by
            have := hj (l.length - (m + 1)) (Nat.le_refl _)
            simpa [Array.getD, hlt] using this
          have h9 := ihm (M.setIfInBounds (l.length - (m + 1)) true) (by simpa using hM) (fun j hj' => by
            rw [getD_listF _ _ _ hlt, if_neg (by omega)]
            exact hj j (by omega)) (by omega)
          have := unl_set h8
          omega
      by_cases hpl : p ≤ l.length
      · have := h7 (l.length - p) L hs (fun j hj => h2 j (by omega)) (by omega)
        simp
        omega
      · simp
        omega
    · -- one ahead of the tail is still open
      obtain ⟨q, hq⟩ := Classical.not_forall.1 hall
      obtain ⟨hqp, hq0⟩ := Classical.not_imp.1 hq
      have hqf : L.getD q true = false := by simpa using hq0
      refine ⟨fun hr => ?_, fun i hi => ?_⟩
      · obtain ⟨j, hj⟩ := ready_ex (md := .any) hd (by simpa using hs) q q (Nat.le_refl _) hqf
        rw [hr] at hj
        cases hj
      · obtain ⟨h0, o, ho, hdep⟩ := mem_ready.1 hi
        have hil := (Array.getElem?_eq_some_iff.1 ho).1
        have hip : i < p := by
          by_cases h' : i < p
          · exact h'
          · have h3 := anc_listed hcl l.toArray.size i q (fun o' ho' => by rw [ho] at ho'; cases ho'; exact hdep) (tail_of ht hil (by omega) (by omega))
            exact (getD_listed hqf h3).elim
        have hiL := (getD_of h0).1
        have h3 := h.2 i (by rw [blanked_ready]; exact hi)
        have hlo : l[i]? = some o := by simpa using ho
        unfold qOp at h3
        rw [List.getElem?_toArray, blanked_pre hip, hlo] at h3
        simp only at h3
        rw [blanked_wanted hg hlo hip] at h3
        have hK : ∀ a' w', C w' → wpAnyQ P .any (blanked l p).toArray C (fun a' => ∀ w', C w' → wpListIn (Fence.wide.inRound lv) n P l.toArray Q (l.drop p) a' w') fuel (L.setIfInBounds i true) a' → wpAnyIn (Fence.wide.inRound lv) n P .any l.toArray Q fuel (L.setIfInBounds i true) a' w' := fun a' w' hC' h' => by
          refine ih _ a' w' hC' (by simpa using hs) (by have := unl_set h0; omega) (fun j hj => by rw [getD_listF _ _ _ hiL, if_neg (by omega)]; exact h2 j hj) (fun i' o' ho' hl e he hb => ?_) h'
          rw [getD_listF _ _ _ hiL]
          split
          · rfl
          · rw [getD_listF _ _ _ hiL] at hl
            by_cases hii : i = i'
            · subst hii
              rw [ho] at ho'
              cases ho'
              exact hdep e he hb
            · rw [if_neg hii] at hl
              exact hcl i' o' ho' hl e he hb
        unfold wpOpIn
        rw [ho]
        simp only
        split
        · rename_i hw
          rw [if_pos hw] at h3
          exact wpIn_of_wp (kindD_of hk ho) (Oper.wp_of_quiet hC hK h3)
        · rename_i hw
          rw [if_neg hw] at h3
          exact ⟨fun _ _ => trivial, hK _ _ hC h3⟩
theorem wpIn_region_tail {lv n : Nat} {P : Program} {id : Nat} {Q : Exit → Act → World → Prop} {a : Act} {w : World} {l : List Oper} (p : Nat) (hm : P.follows .mixedOrders = true) (hB : Region.lexB .any (blanked l p).toArray = true) (hd : dagB l.toArray = true) (ht : tailB l.toArray p = true) (hg : guardsB l p = true) (hk : kindD l.toArray = true)
    (h : wpQuiet P l.toArray (fun w' => ∃ n, w' = w.drewN n) (fun a' => ∀ w', (∃ n, w' = w.drewN n) → wpListIn (Fence.wide.inRound lv) n P l.toArray Q (l.drop p) a' w') (l.take p) a) : (Code.region id l.toArray true).wpIn (Fence.wide.inRound lv) n P Q a w := by
  simp only [Region.lexB, Bool.and_eq_true] at hB
  have hf : ∀ i, (Array.replicate l.length false).getD i false = false := fun i => by
    rw [Array.getD_eq_getD_getElem?, Array.getElem?_replicate]; split <;> rfl
  have h1 := quiet_app hg (l.take p) 0 a (fun i _ hi => by rw [Nat.sub_zero, List.getElem?_take_of_lt hi]) (by simp; omega) h
  have h2 := wpAnyQ_lex (C := fun w' => ∃ n, w' = w.drewN n) (md := .any) hB.1 (blanked l p) 0 (Array.replicate l.length false) a (by simp) (by have := hB.2; simp only [List.size_toArray, blanked_len] at this ⊢; exact this) h1
  rw [blanked_len] at h2
  refine wpIn_region_any hm ?_
  simp only [List.size_toArray]
  exact wpAnyIn_tail hd ht hg hk l.length _ a _ ⟨1, rfl⟩ (by simp) (unl_rep _) (fun j _ => hf j) (fun i o _ h => by rw [hf] at h; cases h) h2
end Go.Proofs.YtefokfbgpfcbkaaGreat
namespace Go.Proofs.YtefokfbgpfcbkaaGreat
set_option linter.unusedVariables false
set_option linter.unusedSimpArgs false
open Go.RowKit
def noteV (n : P28.Note) : List Value := [.int .i64 n.1, .int .i64 n.2.1, .string ⟨n.2.2.toArray⟩]
def nCells (ns : List P28.Note) : List Value := ns.flatMap noteV
theorem nCells_snoc (ns : List P28.Note) (n : P28.Note) : nCells (ns ++ [n]) = nCells ns ++ noteV n := by unfold nCells; rw [List.flatMap_append]; simp
theorem nCells_len (ns : List P28.Note) : (nCells ns).length = ns.length * 3 := by
  induction ns with
  | nil => rfl
  | cons p ns ih => unfold nCells at *; rw [List.flatMap_cons, List.length_append, ih]; simp [noteV]; omega
def OwnT (W : World) (B : Nat) (v : Value) (ns : List P28.Note) : Prop := W.ownsRow B 183 3 v ns.length (nCells ns)
theorem diagInfo : (Tryz.prog.info? 183).map (fun i => (i.zero, i.size, i.bytes)) = some (some (.agg #[.int .i64 0, .int .i64 0, .string ⟨#[]⟩]), 3, 32) := by kernel_rfl
theorem OwnT.nil (W : World) (B : Nat) : OwnT W B (.slice none 0 0) [] := World.ownsRow_nil W B 183 3
theorem OwnT.keep {W W' : World} {B : Nat} {v : Value} {ns : List P28.Note} (h : OwnT W B v ns) (hk : ∀ g, v.ownBlock = some g → W'.heap[g]? = W.heap[g]?) : OwnT W' B v ns := own_keep h hk
theorem OwnT.lt {W : World} {B : Nat} {v : Value} {ns : List P28.Note} (h : OwnT W B v ns) {g : Nat} (hg : v.ownBlock = some g) : B ≤ g ∧ g < W.heap.size := own_block_lt h g hg
theorem OwnT.form {W : World} {B : Nat} {v : Value} {ns : List P28.Note} (h : OwnT W B v ns) : ∃ a c, v = .slice a ns.length c := by
  rcases h.2 with ⟨rfl, h0⟩ | ⟨g, cap, cur, rfl, _⟩
  · exact ⟨none, 0, by rw [h0]⟩
  · exact ⟨_, cap, rfl⟩
theorem wpList_appNote {w : World} {B : Nat} {v : Value} {ns : List P28.Note} {p : P28.Note} {ops : Array Oper} {rest : List Oper} {o : Oper} {a : Act} {Q : Exit → Act → World → Prop} (hgd : o.guard = none) (s x : Operand)
    (ho : o.op = .call { callee := .builtin .append, args := #[s, x], argTypes := #[124, 124] })
    (hs : a.eval s = v) (hown : OwnT w B v ns) (g cap : Nat) (hx : a.eval x = .slice (some ⟨g, 0, none⟩) 1 cap) (hnew : w.heap[g]? = some (.cells #[.int .i64 p.1, .int .i64 p.2.1, .string ⟨p.2.2.toArray⟩] 183))
    (m : Nat) (hm : ns.length = m) (hlen : m + 1 ≤ 1000000000000) (hB : B ≤ w.heap.size)
    (h : ∀ g' cap' w', OwnT w' B (.slice (some ⟨g', 0, none⟩) (m + 1) cap') (ns ++ [p]) → w.grownBy w' v.ownBlock → (v.ownBlock = some g' ∨ g' = w.heap.size) → g' < w'.heap.size → wpList Tryz.prog ops Q rest (a.put o.dst (.slice (some ⟨g', 0, none⟩) (m + 1) cap')) w') :
    wpList Tryz.prog ops Q (o :: rest) a w := by
  subst hm
  obtain ⟨i, hi, hz, hsz, hby⟩ := info_parts diagInfo
  refine wpList_append_lies (P := Tryz.prog) w hgd s x 124 ho B 183 i (.agg #[.int .i64 0, .int .i64 0, .string ⟨#[]⟩]) 3 32 Tryz.underlying124 hi hz hsz hby rfl (by decide) v ns.length (nCells ns) hs hown
    ⟨g, 0, none⟩ 1 cap (noteV p) hx rfl (World.news_of_block (fr := (0, 0)) hnew) (by intro u hu; simp [noteV] at hu; rcases hu with rfl | rfl | rfl <;> rfl) (by decide) (by unfold maxLen; omega) (by omega) hB _ rfl ?_
  intro g' cap' w' h2 h3 hat hlt
  refine h g' cap' w' ?_ h3 hat hlt
  unfold OwnT
  rw [List.length_append, nCells_snoc]
  exact h2
structure Gr (W W' : World) (b : Nat) (own : Option Nat) : Prop where
  os : W'.os = W.os
  tape : W'.tape = W.tape
  output : W'.output = W.output
  size : W.heap.size ≤ W'.heap.size
  block : ∀ k, k < W.heap.size → k ≠ b → some k ≠ own → W'.heap[k]? = W.heap[k]?
theorem Gr.refl (W : World) (b : Nat) (own : Option Nat) : Gr W W b own := ⟨rfl, rfl, rfl, Nat.le_refl _, fun _ _ _ _ => rfl⟩
theorem Gr.below {B : Nat} {w W W' : World} {b : Nat} {own : Option Nat} (h : Gr W W' b own) (hb : Below B w W) (h1 : B ≤ W.heap.size) (h2 : B ≤ b) (h3 : ∀ g, own = some g → B ≤ g) : Below B w W' :=
  ⟨h.os.trans hb.os, h.tape.trans hb.tape, h.output.trans hb.output, Nat.le_trans hb.size h.size, fun k hk => (h.block k (by omega) (by omega) (fun e => by have := h3 k e.symm; omega)).trans (hb.block k hk)⟩
structure NB (W : World) (B b : Nat) (ns : List P28.Note) (v : Value) : Prop where
  box : W.heap[b]? = some (.cells #[v] 124)
  own : OwnT W B v ns
  low : b < B
theorem NB.ne {W : World} {B b : Nat} {ns : List P28.Note} {v : Value} (h : NB W B b ns v) : v.ownBlock ≠ some b := fun e => by have := (h.own.lt e).1; have := h.low; omega
theorem NB.keep {W W' : World} {B b : Nat} {ns : List P28.Note} {v : Value} (h : NB W B b ns v) (hb : W'.heap[b]? = W.heap[b]?) (ho : ∀ g, v.ownBlock = some g → W'.heap[g]? = W.heap[g]?) : NB W' B b ns v := ⟨hb.trans h.box, h.own.keep ho, h.low⟩
theorem NB.below {W W' : World} {B b : Nat} {ns : List P28.Note} {v : Value} (h : NB W B b ns v) (hb : Below W.heap.size W W') : NB W' B b ns v :=
  h.keep (hb.block b (Array.getElem?_eq_some_iff.1 h.box).1) (fun g hg => hb.block g (h.own.lt hg).2)
theorem box_set {W : World} {b : Nat} {u v : Value} {t : TypeId} (h : W.heap[b]? = some (.cells #[u] t)) : (W.setCell ⟨b, 0, none⟩ v).heap[b]? = some (.cells #[v] t) := one_setCell h
def NotesTo (f b : Nat) : Prop := ∀ (c : Bool) (i e : Int) (t : List UInt8) (W : World) (B : Nat) (ns : List P28.Note) (v : Value), NB W B b ns v → B ≤ W.heap.size → ns.length ≤ 100000000000 * 9 →
  Calls Tryz.prog f #[.bool c, .int .i64 i, .int .i64 e, .string ⟨t.toArray⟩, .pointer (some ⟨b, 0, none⟩)] W fun x W' => x = .returned (.tuple #[]) ∧ ∃ v', NB W' B b (ns ++ P28.nt c i e t) v' ∧ Gr W W' b v.ownBlock ∧ (v'.ownBlock = v.ownBlock ∨ ∃ g, v'.ownBlock = some g ∧ W.heap.size ≤ g)
set_option maxHeartbeats 1600000 in
theorem note_names (b : Nat) : NotesTo 163 b := by
  intro c i e t W B ns v h hB hl
  obtain ⟨va, vc, rfl⟩ := h.own.form
  have hcell := cell1 h.box
  cases c with
  | false =>
    go_enter Tryz.func163, Tryz.ntmps163
    go_wp2
    go_end0
    exact ⟨rfl, _, by simpa [P28.nt] using h, Gr.refl _ _ _, .inl rfl⟩
  | true =>
    obtain ⟨W1, hW1⟩ : ∃ W1, W.alloc (.cells #[.int .i64 i, .int .i64 e, .string ⟨t.toArray⟩] 183) = W1 := ⟨_, rfl⟩
    have hbW : Below W.heap.size W W1 := by rw [← hW1]; exact (Below.refl _ _).alloc (Nat.le_refl _) _
    have hs1 : W1.heap.size = W.heap.size + 1 := by rw [← hW1]; simp
    have hnw : W1.heap[W.heap.size]? = some (.cells #[.int .i64 i, .int .i64 e, .string ⟨t.toArray⟩] 183) := by rw [← hW1]; exact World.alloc_heap_new _ _
    have h1 := h.below hbW
    obtain ⟨c1, f1⟩ := cell1 h1.box
    have HW1 := hide hW1
    have HH := hide h
    have HH1 := hide h1
    have HB := hide hbW
    have HN := hide hnw
    clear hW1 h h1 hbW hnw
    go_enter Tryz.func163, Tryz.ntmps163
    go_wp2_with (rw [unhide HW1]; refine wpList_appNote (p := (i, e, t)) (by rfl) _ _ (by rfl) (by rfl) (unhide HH1).own W.heap.size 1 (by rfl) (unhide HN) ns.length rfl (by omega) (by omega) ?_; intro g2 cap2 w2 hown2 hgrow hat hlt; have hbx := (World.cell?_of_block (a := ⟨b, 0, none⟩) (hgrow.block b (Array.getElem?_eq_some_iff.1 (unhide HH1).box).1 (fun q => (unhide HH1).ne q.symm))).trans c1; have hfx := (World.frozen?_of_block (a := ⟨b, 0, none⟩) (hgrow.block b (Array.getElem?_eq_some_iff.1 (unhide HH1).box).1 (fun q => (unhide HH1).ne q.symm))).trans f1; have HG := hide hgrow; have HO := hide hown2; clear hgrow hown2)
    go_end0
    have hne := (unhide HH1).ne
    have hgr := unhide HG
    have hb1 := unhide HB
    have hown := unhide HO
    have hbs : g2 ≠ b := fun q => by
      rcases hat with h | h
      · exact hne (by rw [h, q])
      · have := (Array.getElem?_eq_some_iff.1 (unhide HH1).box).1; omega
    have hB9 := (unhide HH).low
    refine ⟨rfl, .slice (some ⟨g2, 0, none⟩) (ns.length + 1) cap2, ⟨?_, ?_, hB9⟩, ⟨hgr.os.trans hb1.os, hgr.tape.trans hb1.tape, hgr.output.trans hb1.output, ?_, fun k hk h1 h2 => ?_⟩, ?_⟩
    · have h5 := (hgr.block b (Array.getElem?_eq_some_iff.1 (unhide HH1).box).1 (fun q => hne q.symm)).trans (unhide HH1).box
      exact box_set h5
    · refine OwnT.keep (W := w2) (by simpa [P28.nt] using hown) (fun g hg => Below.heap_setCell _ _ _ _ (fun q => hbs (by cases hg; exact q)))
    · have := hgr.size
      simp
      omega
    · exact (Below.heap_setCell _ _ _ _ h1).trans ((hgr.block k (by omega) h2).trans (hb1.block k hk))
    · rcases hat with h | h
      · exact .inl h.symm
      · exact .inr ⟨g2, rfl, by omega⟩
set_option maxHeartbeats 1600000 in
theorem note_bounds (b : Nat) : NotesTo 164 b := by
  intro c i e t W B ns v h hB hl
  obtain ⟨va, vc, rfl⟩ := h.own.form
  have hcell := cell1 h.box
  cases c with
  | false =>
    go_enter Tryz.func164, Tryz.ntmps164
    go_wp2
    go_end0
    exact ⟨rfl, _, by simpa [P28.nt] using h, Gr.refl _ _ _, .inl rfl⟩
  | true =>
    obtain ⟨W1, hW1⟩ : ∃ W1, W.alloc (.cells #[.int .i64 i, .int .i64 e, .string ⟨t.toArray⟩] 183) = W1 := ⟨_, rfl⟩
    have hbW : Below W.heap.size W W1 := by rw [← hW1]; exact (Below.refl _ _).alloc (Nat.le_refl _) _
    have hs1 : W1.heap.size = W.heap.size + 1 := by rw [← hW1]; simp
    have hnw : W1.heap[W.heap.size]? = some (.cells #[.int .i64 i, .int .i64 e, .string ⟨t.toArray⟩] 183) := by rw [← hW1]; exact World.alloc_heap_new _ _
    have h1 := h.below hbW
    obtain ⟨c1, f1⟩ := cell1 h1.box
    have HW1 := hide hW1
    have HH := hide h
    have HH1 := hide h1
    have HB := hide hbW
    have HN := hide hnw
    clear hW1 h h1 hbW hnw
    go_enter Tryz.func164, Tryz.ntmps164
    go_wp2_with (rw [unhide HW1]; refine wpList_appNote (p := (i, e, t)) (by rfl) _ _ (by rfl) (by rfl) (unhide HH1).own W.heap.size 1 (by rfl) (unhide HN) ns.length rfl (by omega) (by omega) ?_; intro g2 cap2 w2 hown2 hgrow hat hlt; have hbx := (World.cell?_of_block (a := ⟨b, 0, none⟩) (hgrow.block b (Array.getElem?_eq_some_iff.1 (unhide HH1).box).1 (fun q => (unhide HH1).ne q.symm))).trans c1; have hfx := (World.frozen?_of_block (a := ⟨b, 0, none⟩) (hgrow.block b (Array.getElem?_eq_some_iff.1 (unhide HH1).box).1 (fun q => (unhide HH1).ne q.symm))).trans f1; have HG := hide hgrow; have HO := hide hown2; clear hgrow hown2)
    go_end0
    have hne := (unhide HH1).ne
    have hgr := unhide HG
    have hb1 := unhide HB
    have hown := unhide HO
    have hbs : g2 ≠ b := fun q => by
      rcases hat with h | h
      · exact hne (by rw [h, q])
      · have := (Array.getElem?_eq_some_iff.1 (unhide HH1).box).1; omega
    have hB9 := (unhide HH).low
    refine ⟨rfl, .slice (some ⟨g2, 0, none⟩) (ns.length + 1) cap2, ⟨?_, ?_, hB9⟩, ⟨hgr.os.trans hb1.os, hgr.tape.trans hb1.tape, hgr.output.trans hb1.output, ?_, fun k hk h1 h2 => ?_⟩, ?_⟩
    · have h5 := (hgr.block b (Array.getElem?_eq_some_iff.1 (unhide HH1).box).1 (fun q => hne q.symm)).trans (unhide HH1).box
      exact box_set h5
    · refine OwnT.keep (W := w2) (by simpa [P28.nt] using hown) (fun g hg => Below.heap_setCell _ _ _ _ (fun q => hbs (by cases hg; exact q)))
    · have := hgr.size
      simp
      omega
    · exact (Below.heap_setCell _ _ _ _ h1).trans ((hgr.block k (by omega) h2).trans (hb1.block k hk))
    · rcases hat with h | h
      · exact .inl h.symm
      · exact .inr ⟨g2, rfl, by omega⟩
end Go.Proofs.YtefokfbgpfcbkaaGreat
