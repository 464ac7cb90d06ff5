/- A region whose order is drawn, within a fence: by what holds of the operations that are done (no program in it). -/
import Derived.Test.YtefokfbgpfcbkaaGreatInv
import Derived.OrdersIn
import Derived.RangeFuncCalls
namespace Go.Proofs.YtefokfbgpfcbkaaGreat
set_option linter.unusedVariables false
set_option linter.unusedSimpArgs false
theorem wpAnyIn_inv {F : Fence} {n : Nat} {P : Program} {md : Region.Mode} {ops : Array Oper} {Q : Exit → Act → World → Prop} (J : Array Bool → Act → World → Prop) (hd : dagB ops = true)
    (hstep : ∀ L a w i o, J L a w → ops[i]? = some o → L.getD i true = false → (∀ e ∈ o.after, Region.binds md e = true → L.getD e.on false = true) → wpOpIn F n P ops Q i (J (L.setIfInBounds i true)) a w)
    (hfin : ∀ L a w, J L a w → (∀ i, L.getD i true = true) → Q .normal a w) :
    ∀ (fuel : Nat) (L : Array Bool) (a : Act) (w : World), L.size = ops.size → unl L ≤ fuel → J L a w → wpAnyIn F n P md ops Q fuel L a w := by
  have hend : ∀ (L : Array Bool), L.size = ops.size → Region.ready md ops L = [] → ∀ i, L.getD i true = true := fun L hs hr i => by
    by_cases h : L.getD i true = false
    · obtain ⟨j, hj⟩ := ready_ex (md := md) hd hs i i (Nat.le_refl _) h
      rw [hr] at hj
      exact absurd hj (by simp)
    · simpa using h
  intro fuel
  induction fuel with
  | zero =>
    intro L a w hs hu hJ
    have hall : ∀ i, L.getD i true = true := fun i => by
      by_cases h : L.getD i true = false
      · have := unl_set h; omega
      · simpa using h
    have hr : Region.ready md ops L = [] := by
      cases hq : Region.ready md ops L with
      | nil => rfl
      | cons j r =>
        have hm : j ∈ Region.ready md ops L := by rw [hq]; exact List.mem_cons_self
        have := (mem_ready.1 hm).1
        rw [hall j] at this
        cases this
    exact ⟨hr, hfin L a w hJ hall⟩
  | succ fuel ih =>
    intro L a w hs hu hJ
    refine ⟨fun hr => hfin L a w hJ (hend L hs hr), fun i hi => ?_⟩
    obtain ⟨h0, o, ho, hall⟩ := mem_ready.1 hi
    have h1 := unl_set h0
    exact wpOpIn_mono (fun a' w' hJ' => ih _ a' w' (by simpa using hs) (by omega) hJ') (hstep L a w i o hJ ho h0 hall)
theorem wpIn_region_inv {F : Fence} {n : Nat} {P : Program} {ops : Array Oper} {Q : Exit → Act → World → Prop} {id : Nat} {a : Act} {w : World} (hm : P.follows .mixedOrders = true) (J : Array Bool → Act → World → Prop) (hd : dagB ops = true)
    (h0 : J (Array.replicate ops.size false) a w.drew)
    (hstep : ∀ L a w i o, J L a w → ops[i]? = some o → L.getD i true = false → (∀ e ∈ o.after, Region.binds .any e = true → L.getD e.on false = true) → wpOpIn F n P ops Q i (J (L.setIfInBounds i true)) a w)
    (hfin : ∀ L a w, J L a w → (∀ i, L.getD i true = true) → Q .normal a w) : (Code.region id ops true).wpIn F n P Q a w :=
  wpIn_region_any hm (wpAnyIn_inv J hd hstep hfin ops.size _ a _ (by simp) (by simp [unl, List.count_replicate]) h0)
theorem rowsIn_wide {n : Nat} {P : Program} {row : String} {args : Array Value} {w : World} {R : Value → World → Prop} (h : Rows P row args w R) (l : Nat) : RowsIn (Fence.wide.inRound l) n P row args w R := by
  intro c cs _
  obtain ⟨v, w', r, s⟩ := h c cs
  exact ⟨v, w', r, stepsIn_wide.2 s⟩
/-- one operation, without a fence's word, within a round of a range over a function -/
theorem wpIn_of_wp {l n : Nat} {P : Program} {o : Oper} {a : Act} {w : World} {K : Act → World → Prop} {Q : Exit → Act → World → Prop} (hd : ∀ c, o.op ≠ .defer c) (h : o.wp P a w K Q) : o.wpIn (Fence.wide.inRound l) n P a w K Q := by
  refine ⟨fun _ _ => trivial, ?_⟩
  rw [Oper.semAt_eq _ _ _ hd]
  unfold Oper.wp at h
  generalize (execOp a.eval o).run P w = r at *
  cases r with
  | ok x w' =>
    cases x with
    | value v => exact h
    | skip => exact h
    | defer d => exact h
    | enter f args => exact ⟨fun q => by simp [Fence.wide] at q, CallsIn.inRound l (callsIn_wide.2 h)⟩
    | row r args => exact ⟨fun q => by simp [Fence.wide] at q, rowsIn_wide h l⟩
    | _ => exact h.elim
  | halt x w' => cases x <;> first | exact h | exact h.elim
theorem wpOpIn_of {l n : Nat} {P : Program} {ops : Array Oper} {Q : Exit → Act → World → Prop} {i : Nat} {o : Oper} {K : Act → World → Prop} {a : Act} {w : World} (ho : ops[i]? = some o) (hg : o.guard = none) (hd : ∀ c, o.op ≠ .defer c) (h : Oper.wp P o a w K Q) : wpOpIn (Fence.wide.inRound l) n P ops Q i K a w := by
  unfold wpOpIn
  rw [ho]
  simp only [Region.wanted, hg, if_true]
  exact wpIn_of_wp hd h
end Go.Proofs.YtefokfbgpfcbkaaGreat
