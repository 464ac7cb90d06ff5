/- A region whose order is drawn, by what holds of the operations that are done (no program in it). -/
import Derived.Test.YtefokfbgpfcbkaaGreatGA
import Derived.Orders
import Derived.RegionTactic
namespace Go.Proofs.YtefokfbgpfcbkaaGreat
set_option linter.unusedVariables false
set_option linter.unusedSimpArgs false
/-- each operation hangs on earlier ones alone -/
def dagB (ops : Array Oper) : Bool := (List.range ops.size).all fun i => match ops[i]? with
  | some o => o.after.all fun e => decide (e.on < i)
  | none => true
theorem dag_of {ops : Array Oper} (h : dagB ops = true) {i : Nat} {o : Oper} (ho : ops[i]? = some o) : ∀ e ∈ o.after, e.on < i := by
  intro e he
  have hi := (Array.getElem?_eq_some_iff.1 ho).1
  have := List.all_eq_true.1 h i (List.mem_range.2 hi)
  rw [ho] at this
  simp only [Array.all_eq_true'] at this
  simpa using this e he
theorem getD_of {L : Array Bool} {i : Nat} (h : L.getD i true = false) : i < L.size ∧ L.getD i false = false := by
  have hl : i < L.size := by
    by_cases hl : i < L.size
    · exact hl
    · simp [Array.getD, hl] at h
  refine ⟨hl, ?_⟩
  simp only [Array.getD, hl, dif_pos] at h ⊢
  exact h
/-- an unlisted operation: one of them may come up -/
theorem ready_ex {md : Region.Mode} {ops : Array Oper} (hd : dagB ops = true) {L : Array Bool} (hs : L.size = ops.size) : ∀ (n i : Nat), i ≤ n → L.getD i true = false → ∃ j, j ∈ Region.ready md ops L := by
  intro n
  induction n with
  | zero =>
    intro i hi h
    obtain rfl : i = 0 := by omega
    have hl := (getD_of h).1
    refine ⟨0, mem_ready.2 ⟨h, ops[0]'(by omega), Array.getElem?_eq_getElem _, fun e he _ => ?_⟩⟩
    have := dag_of hd (Array.getElem?_eq_getElem (by omega : 0 < ops.size)) e he
    omega
  | succ n ih =>
    intro i hi h
    have hl := (getD_of h).1
    by_cases hr : ∃ e ∈ (ops[i]'(by omega)).after, L.getD e.on false = false
    · obtain ⟨e, he, hf⟩ := hr
      have h1 := dag_of hd (Array.getElem?_eq_getElem (by omega : i < ops.size)) e he
      refine ih e.on (by omega) ?_
      have hle : e.on < L.size := by omega
      simp only [Array.getD, hle, dif_pos] at hf ⊢
      exact hf
    · exact ⟨i, mem_ready.2 ⟨h, ops[i]'(by omega), Array.getElem?_eq_getElem _, fun e he _ => by
        by_cases hx : L.getD e.on false = true
        · exact hx
        · exact absurd ⟨e, he, by simpa using hx⟩ hr⟩⟩
def unl (L : Array Bool) : Nat := L.toList.count false
theorem unl_set {L : Array Bool} {i : Nat} (h : L.getD i true = false) : unl (L.setIfInBounds i true) + 1 = unl L := by
  obtain ⟨hl, _⟩ := getD_of h
  have hf : L.toList[i]'(by simpa using hl) = false := by
    simp only [Array.getD, hl, dif_pos] at h
    simpa using h
  unfold unl
  rw [Array.toList_setIfInBounds]
  have h1 := List.count_set (l := L.toList) (i := i) (a := true) (b := false) (by simpa using hl)
  rw [hf] at h1
  have h2 : 0 < L.toList.count false := List.count_pos_iff.2 (by rw [← hf]; exact List.getElem_mem _)
  simp only [BEq.rfl, if_true, show (true == false) = false from rfl, Bool.false_eq_true, if_false] at h1
  omega
/-- A region that draws its order: what holds of the operations that are done, step by step. -/
theorem wpAny_inv {P : Program} {md : Region.Mode} {ops : Array Oper} {Q : Exit → Act → World → Prop} (J : Array Bool → Act → World → Prop) (hd : dagB ops = true)
    (hstep : ∀ L a w i o, J L a w → ops[i]? = some o → L.getD i true = false → (∀ e ∈ o.after, Region.binds md e = true → L.getD e.on false = true) → wpOp P ops Q i (J (L.setIfInBounds i true)) a w)
    (hfin : ∀ L a w, J L a w → (∀ i, L.getD i true = true) → Q .normal a w) :
    ∀ (fuel : Nat) (L : Array Bool) (a : Act) (w : World), L.size = ops.size → unl L ≤ fuel → J L a w → wpAny P md ops Q fuel L a w := by
  have hend : ∀ (L : Array Bool), L.size = ops.size → Region.ready md ops L = [] → ∀ i, L.getD i true = true := fun L hs hr i => by
    by_cases h : L.getD i true = false
    · obtain ⟨j, hj⟩ := ready_ex (md := md) hd hs i i (Nat.le_refl _) h
      rw [hr] at hj
      exact absurd hj (by simp)
    · simpa using h
  intro fuel
  induction fuel with
  | zero =>
    intro L a w hs hu hJ
    have hall : ∀ i, L.getD i true = true := fun i => by
      by_cases h : L.getD i true = false
      · have := unl_set h; omega
      · simpa using h
    have hr : Region.ready md ops L = [] := by
      cases hq : Region.ready md ops L with
      | nil => rfl
      | cons j r =>
        have hm : j ∈ Region.ready md ops L := by rw [hq]; exact List.mem_cons_self
        have := (mem_ready.1 hm).1
        rw [hall j] at this
        cases this
    exact ⟨hr, hfin L a w hJ hall⟩
  | succ fuel ih =>
    intro L a w hs hu hJ
    refine ⟨fun hr => hfin L a w hJ (hend L hs hr), fun i hi => ?_⟩
    obtain ⟨h0, o, ho, hall⟩ := mem_ready.1 hi
    have h1 := unl_set h0
    exact wpOp_mono (fun a' w' hJ' => ih _ a' w' (by simpa using hs) (by omega) hJ') (hstep L a w i o hJ ho h0 hall)
/-- .. as the walk stands at it -/
theorem wp_region_inv {P : Program} {ops : Array Oper} {Q : Exit → Act → World → Prop} {id : Nat} {a : Act} {w : World} (hm : P.follows .mixedOrders = true) (J : Array Bool → Act → World → Prop) (hd : dagB ops = true)
    (h0 : J (Array.replicate ops.size false) a w.drew)
    (hstep : ∀ L a w i o, J L a w → ops[i]? = some o → L.getD i true = false → (∀ e ∈ o.after, Region.binds .any e = true → L.getD e.on false = true) → wpOp P ops Q i (J (L.setIfInBounds i true)) a w)
    (hfin : ∀ L a w, J L a w → (∀ i, L.getD i true = true) → Q .normal a w) : (Code.region id ops true).wp P Q a w :=
  wp_region_any hm (wpAny_inv J hd hstep hfin ops.size _ a _ (by simp) (by simp [unl, List.count_replicate]) h0)
/-- one operation, without a guard -/
theorem wpOp_of {P : Program} {ops : Array Oper} {Q : Exit → Act → World → Prop} {i : Nat} {o : Oper} {K : Act → World → Prop} {a : Act} {w : World} (ho : ops[i]? = some o) (hg : o.guard = none) (h : Oper.wp P o a w K Q) : wpOp P ops Q i K a w := by
  unfold wpOp
  rw [ho]
  simp only [Region.wanted, hg, if_true]
  exact .inl h
end Go.Proofs.YtefokfbgpfcbkaaGreat
