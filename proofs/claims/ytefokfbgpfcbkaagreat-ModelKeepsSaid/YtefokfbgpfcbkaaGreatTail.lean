/- A region that draws its order: operations that only read, in whatever order, and behind them all a tail of operations in the order of the text (no program in it). -/
import Derived.Test.YtefokfbgpfcbkaaGreatPhase
import Derived.Test.YtefokfbgpfcbkaaGreatQuietIn
namespace Go.Proofs.YtefokfbgpfcbkaaGreat
set_option linter.unusedVariables false
set_option linter.unusedSimpArgs false
def blank (o : Oper) : Oper := { o with dst := none, op := .move (.const undef), guard := none }
/-- the operations, the ones from place p on blank -/
def blanked (l : List Oper) (p : Nat) : List Oper := l.take p ++ (l.drop p).map blank
/-- from place p on each operation hangs on all ahead of it -/
def tailB (ops : Array Oper) (p : Nat) : Bool := (List.range ops.size).all fun i => decide (i < p) || (List.range i).all fun j => ancB ops ops.size i j
def guardsB (l : List Oper) (p : Nat) : Bool := (l.take p).all fun o => match o.guard with
  | some (g, _) => decide (g < p)
  | none => true
theorem tail_of {ops : Array Oper} {p i j : Nat} (h : tailB ops p = true) (hi : i < ops.size) (hp : p ≤ i) (hj : j < i) : ancB ops ops.size i j = true := by
  have h1 := List.all_eq_true.1 h i (List.mem_range.2 hi)
  have h2 : decide (i < p) = false := decide_eq_false (by omega)
  rw [h2, Bool.false_or] at h1
  exact List.all_eq_true.1 h1 j (List.mem_range.2 hj)
theorem blanked_len (l : List Oper) (p : Nat) : (blanked l p).length = l.length := by simp [blanked]; omega
theorem blanked_pre {l : List Oper} {p i : Nat} (h : i < p) : (blanked l p)[i]? = l[i]? := by
  unfold blanked
  by_cases hl : i < l.length
  · rw [List.getElem?_append_left (by simp; omega), List.getElem?_take_of_lt h]
  · rw [List.getElem?_eq_none (by simp [blanked]; omega), List.getElem?_eq_none (by omega)]
theorem blanked_tail {l : List Oper} {p i : Nat} (h : p ≤ i) : (blanked l p)[i]? = (l[i]?).map blank := by
  unfold blanked
  by_cases hl : p ≤ l.length
  · rw [List.getElem?_append_right (by simp; omega), List.getElem?_map, List.getElem?_drop, List.length_take, Nat.min_eq_left hl, show p + (i - p) = i by omega]
  · rw [List.getElem?_eq_none (by simp; omega), List.getElem?_eq_none (by omega)]; rfl
theorem blanked_ready (l : List Oper) (p : Nat) (L : Array Bool) : Region.ready .any (blanked l p).toArray L = Region.ready .any l.toArray L := by
  unfold Region.ready
  rw [show (blanked l p).toArray.size = l.toArray.size by simp [blanked_len]]
  congr 1
  funext i
  congr 1
  have e : ((blanked l p).toArray[i]?).map (fun o => o.after) = (l.toArray[i]?).map (fun o => o.after) := by
    rw [List.getElem?_toArray, List.getElem?_toArray]
    by_cases h : i < p
    · rw [blanked_pre h]
    · rw [blanked_tail (by omega)]
      cases l[i]? <;> rfl
  have e2 : ∀ (x : Option Oper), (x.map (·.after.all fun e => !Region.binds .any e || L.getD e.on false)).getD false = ((x.map (fun o => o.after)).map (·.all fun e => !Region.binds .any e || L.getD e.on false)).getD false := fun x => by cases x <;> rfl
  rw [e2, e2, e]
theorem blanked_wanted {l : List Oper} {p i : Nat} {o : Oper} (hg : guardsB l p = true) (ho : l[i]? = some o) (hi : i < p) (t : Array Value) : Region.wanted o (yielded (blanked l p).toArray t) = Region.wanted o (yielded l.toArray t) := by
  have hm : o ∈ l.take p := List.mem_of_getElem? (i := i) (by rw [List.getElem?_take_of_lt hi]; exact ho)
  have h1 := List.all_eq_true.1 hg o hm
  unfold Region.wanted
  cases hq : o.guard with
  | none => rfl
  | some gb =>
    obtain ⟨g, b⟩ := gb
    rw [hq] at h1
    have hgp : g < p := of_decide_eq_true h1
    have : yielded (blanked l p).toArray t g = yielded l.toArray t g := by
      unfold yielded
      rw [List.getElem?_toArray, List.getElem?_toArray, blanked_pre hgp]
    simp only [this]
/-- the walk of the blank ones -/
theorem quiet_blanks {P : Program} {ops : Array Oper} {C : World → Prop} {Q : Act → Prop} : ∀ (l : List Oper) (a : Act), Q a → wpQuiet P ops C Q (l.map blank) a
  | [], a, h => h
  | o :: l, a, h => by
    show (if Region.wanted (blank o) (yielded ops a.tmps) then (blank o).quiet P a C (wpQuiet P ops C Q (l.map blank)) else wpQuiet P ops C Q (l.map blank) (a.put none undef))
    rw [if_pos (show Region.wanted (blank o) (yielded ops a.tmps) = true from rfl)]
    exact ⟨undef, fun w hw => ⟨rfl, rfl⟩, quiet_blanks l a h⟩
theorem quiet_app {P : Program} {l : List Oper} {p : Nat} {C : World → Prop} {Q : Act → Prop} (hg : guardsB l p = true) : ∀ (m : List Oper) (k : Nat) (a : Act), (∀ i, k ≤ i → i < p → m[i - k]? = l[i]?) → m.length ≤ p - k → wpQuiet P l.toArray C Q m a → wpQuiet P (blanked l p).toArray C Q (m ++ (l.drop p).map blank) a
  | [], k, a, _, _, h => quiet_blanks _ a h
  | o :: m, k, a, hm, hk, h => by
    simp only [List.length_cons] at hk
    have ho : l[k]? = some o := by have := hm k (Nat.le_refl _) (by omega); simpa using this.symm
    have ih : ∀ a, wpQuiet P l.toArray C Q m a → wpQuiet P (blanked l p).toArray C Q (m ++ (l.drop p).map blank) a := fun a => quiet_app hg m (k + 1) a (fun i h1 h2 => by
      have := hm i (by omega) h2
      rw [show i - k = (i - (k + 1)) + 1 by omega] at this
      simpa using this) (by omega)
    have h' : if Region.wanted o (yielded l.toArray a.tmps) then o.quiet P a C (wpQuiet P l.toArray C Q m) else wpQuiet P l.toArray C Q m (a.put o.dst undef) := h
    show if Region.wanted o (yielded (blanked l p).toArray a.tmps) then o.quiet P a C (wpQuiet P (blanked l p).toArray C Q (m ++ (l.drop p).map blank)) else wpQuiet P (blanked l p).toArray C Q (m ++ (l.drop p).map blank) (a.put o.dst undef)
    rw [blanked_wanted hg ho (by omega)]
    split
    · rename_i hw
      rw [if_pos hw] at h'
      exact Oper.quiet_mono ih h'
    · rename_i hw
      rw [if_neg hw] at h'
      exact ih _ h'
/-- all that is not blank is done: so the end holds -/
theorem blanks_done {P : Program} {l : List Oper} {p : Nat} {C : World → Prop} {Q : Act → Prop} : ∀ (fuel : Nat) (L : Array Bool) (a : Act), (∀ i, i < p → L.getD i true = true) → wpAnyQ P .any (blanked l p).toArray C Q fuel L a → Q a
  | 0, L, a, _, h => h.2
  | fuel + 1, L, a, hL, h => by
    cases hr : Region.ready .any (blanked l p).toArray L with
    | nil => exact h.1 hr
    | cons i r =>
      have hi : i ∈ Region.ready .any (blanked l p).toArray L := by rw [hr]; exact List.mem_cons_self
      obtain ⟨h0, o, ho, _⟩ := mem_ready.1 hi
      have hip : p ≤ i := by
        by_cases h1 : i < p
        · rw [hL i h1] at h0; cases h0
        · omega
      have h2 := h.2 i hi
      rw [List.getElem?_toArray, blanked_tail hip] at ho
      unfold qOp at h2
      rw [List.getElem?_toArray, blanked_tail hip] at h2
      cases hq : l[i]? with
      | none => rw [hq] at ho; cases ho
      | some o' =>
        rw [hq] at h2
        simp only [Option.map_some] at h2
        rw [if_pos (show Region.wanted (blank o') (yielded (blanked l p).toArray a.tmps) = true from rfl)] at h2
        obtain ⟨v, _, h3⟩ := h2
        exact blanks_done fuel _ a (fun j hj => by rw [getD_list]; split <;> first | rfl | exact hL j hj) h3
theorem ready_deps {ops : Array Oper} {L : Array Bool} {i : Nat} {o : Oper} (hi : i ∈ Region.ready .any ops L) (ho : ops[i]? = some o) : ∀ e ∈ o.after, Region.binds .any e = true → L.getD e.on false = true := by
  obtain ⟨_, o', ho', h⟩ := mem_ready.1 hi
  rw [ho] at ho'
  cases ho'
  exact h
/-- which operation comes up in the tail -/
theorem tail_ready {ops : Array Oper} {p k i : Nat} {L : Array Bool} (hd : dagB ops = true) (ht : tailB ops p = true) (hpk : p ≤ k) (h1 : ∀ j, j < k → L.getD j true = true) (h2 : ∀ j, k ≤ j → L.getD j false = false) (hs : L.size = ops.size) (hi : i ∈ Region.ready .any ops L) : i = k ∧ k < ops.size := by
  obtain ⟨h0, o, ho, _⟩ := mem_ready.1 hi
  have hil := (Array.getElem?_eq_some_iff.1 ho).1
  have hki : k ≤ i := by
    by_cases h : i < k
    · rw [h1 i h] at h0; cases h0
    · omega
  refine ⟨?_, by omega⟩
  by_cases h : k < i
  · have h3 := anc_listed (L := L) (fun x o' ho' hx e he hb => by
      have hxk : x < k := by
        by_cases hx2 : x < k
        · exact hx2
        · rw [h2 x (by omega)] at hx; cases hx
      have h4 := dag_of hd ho' e he
      have h5 := h1 e.on (by omega)
      have h6 : e.on < L.size := by have := (Array.getElem?_eq_some_iff.1 ho').1; omega
      simpa [Array.getD, h6] using h5) ops.size i k (fun o' ho' => ready_deps hi ho') (tail_of ht hil (by omega) h)
    rw [h2 k (Nat.le_refl _)] at h3
    cases h3
  · omega
theorem wpAny_list {P : Program} {ops : Array Oper} {Q : Exit → Act → World → Prop} {p : Nat} (hd : dagB ops = true) (ht : tailB ops p = true) : ∀ (t : List Oper) (k fuel : Nat) (L : Array Bool) (a : Act) (w : World), ops.toList.drop k = t → p ≤ k → (∀ j, j < k → L.getD j true = true) → (∀ j, k ≤ j → L.getD j false = false) → L.size = ops.size → t.length ≤ fuel → wpList P ops Q t a w → wpAny P .any ops Q fuel L a w
  | [], k, fuel, L, a, w, hk, hpk, h1, h2, hs, hf, h => by
    have hno : Region.ready .any ops L = [] := by
      cases hr : Region.ready .any ops L with
      | nil => rfl
      | cons i r =>
        have := tail_ready hd ht hpk h1 h2 hs (by rw [hr]; exact List.mem_cons_self)
        have h3 := congrArg List.length hk
        simp at h3
        omega
    cases fuel with
    | zero => exact ⟨hno, h⟩
    | succ fuel => exact ⟨fun _ => h, fun i hi => by rw [hno] at hi; cases hi⟩
  | o :: t, k, fuel, L, a, w, hk, hpk, h1, h2, hs, hf, h => by
    have ho : ops[k]? = some o := by
      have := congrArg (fun l : List Oper => l[0]?) hk
      simpa using this
    have hkl := (Array.getElem?_eq_some_iff.1 ho).1
    obtain ⟨fuel, rfl⟩ : ∃ f, fuel = f + 1 := ⟨fuel - 1, by simp at hf; omega⟩
    refine ⟨fun hr => ?_, fun i hi => ?_⟩
    · have h3 : L.getD k true = false := by
        have h4 := h2 k (Nat.le_refl _)
        have h5 : k < L.size := by omega
        simpa [Array.getD, h5] using h4
      obtain ⟨j, hj⟩ := ready_ex (md := .any) hd hs k k (Nat.le_refl _) h3
      rw [hr] at hj
      cases hj
    · obtain ⟨rfl, _⟩ := tail_ready hd ht hpk h1 h2 hs hi
      have hK : ∀ a' w', wpList P ops Q t a' w' → wpAny P .any ops Q fuel (L.setIfInBounds i true) a' w' := fun a' w' h' =>
        wpAny_list hd ht t (i + 1) fuel _ a' w' (by
          have := congrArg List.tail hk
          simpa using this) (by omega) (fun j hj => by rw [getD_list]; split <;> first | rfl | exact h1 j (by omega)) (fun j hj => by rw [getD_listF _ _ _ (by omega), if_neg (by omega)]; exact h2 j (by omega)) (by simpa using hs) (by simp at hf; omega) h'
      have h' : if Region.wanted o (yielded ops a.tmps) then o.wp P a w (wpList P ops Q t) Q ∨ (o.asks P a w ∧ LetsOut Q) else wpList P ops Q t (a.put o.dst undef) w := h
      unfold wpOp
      rw [ho]
      simp only
      split
      · rename_i hw
        rw [if_pos hw] at h'
        exact h'.imp (Oper.wp_mono hK) id
      · rename_i hw
        rw [if_neg hw] at h'
        exact hK _ _ h'
/-- .. from the start on -/
theorem wpAny_tail {P : Program} {l : List Oper} {Q : Exit → Act → World → Prop} {p : Nat} {C : World → Prop} (hd : dagB l.toArray = true) (ht : tailB l.toArray p = true) (hg : guardsB l p = true) : ∀ (fuel : Nat) (L : Array Bool) (a : Act) (w : World), C w → L.size = l.length → unl L ≤ fuel →
    (∀ j, p ≤ j → L.getD j false = false) → (∀ i o, l.toArray[i]? = some o → L.getD i false = true → ∀ e ∈ o.after, Region.binds .any e = true → L.getD e.on false = true) →
    wpAnyQ P .any (blanked l p).toArray C (fun a' => ∀ w', C w' → wpList P l.toArray Q (l.drop p) a' w') fuel L a → wpAny P .any l.toArray Q fuel L a w := by
  intro fuel
  induction fuel with
  | zero =>
    intro L a w hC hs hu h2 hcl h
    have hall : ∀ i, L.getD i true = true := fun i => by
      by_cases h' : L.getD i true = false
      · have := unl_set h'; omega
      · simpa using h'
    have h3 := blanks_done 0 L a (fun i _ => hall i) h w hC
    refine wpAny_list hd ht (l.drop p) p 0 L a w (by simp) (Nat.le_refl _) (fun j _ => hall j) h2 (by simpa using hs) ?_ h3
    by_cases hp : p < l.length
    · have h4 := h2 p (Nat.le_refl _)
      have h5 := hall p
      have h6 : p < L.size := by omega
      simp [Array.getD, h6] at h4 h5
      rw [h4] at h5; cases h5
    · simp; omega
  | succ fuel ih =>
    intro L a w hC hs hu h2 hcl h
    by_cases hall : ∀ i, i < p → L.getD i true = true
    · have h3 := blanks_done (fuel + 1) L a hall h w hC
      refine wpAny_list hd ht (l.drop p) p (fuel + 1) L a w (by simp) (Nat.le_refl _) hall h2 (by simpa using hs) ?_ h3
      -- as many are unlisted as the tail is long
      have h7 : ∀ (m : Nat) (M : Array Bool), M.size = l.length → (∀ j, l.length - m ≤ j → M.getD j false = false) → m ≤ l.length → m ≤ unl M := by
        intro m
        induction m with
        | zero => intro M _ _ _; omega
        | succ m ihm =>
          intro M hM hj hml
          have hlt : l.length - (m + 1) < M.size := by omega
          have h8 : M.getD (l.length - (m + 1)) true = false := by
            have := hj (l.length - (m + 1)) (Nat.le_refl _)
            simpa [Array.getD, hlt] using this
          have h9 := ihm (M.setIfInBounds (l.length - (m + 1)) true) (by simpa using hM) (fun j hj' => by
            rw [getD_listF _ _ _ hlt, if_neg (by omega)]
            exact hj j (by omega)) (by omega)
          have := unl_set h8
          omega
      by_cases hpl : p ≤ l.length
      · have := h7 (l.length - p) L hs (fun j hj => h2 j (by omega)) (by omega)
        simp
        omega
      · simp
        omega
    · -- one ahead of the tail is still open
      obtain ⟨q, hq⟩ := Classical.not_forall.1 hall
      obtain ⟨hqp, hq0⟩ := Classical.not_imp.1 hq
      have hqf : L.getD q true = false := by simpa using hq0
      refine ⟨fun hr => ?_, fun i hi => ?_⟩
      · obtain ⟨j, hj⟩ := ready_ex (md := .any) hd (by simpa using hs) q q (Nat.le_refl _) hqf
        rw [hr] at hj
        cases hj
      · obtain ⟨h0, o, ho, hdep⟩ := mem_ready.1 hi
        have hil := (Array.getElem?_eq_some_iff.1 ho).1
        have hip : i < p := by
          by_cases h' : i < p
          · exact h'
          · have h3 := anc_listed hcl l.toArray.size i q (fun o' ho' => by rw [ho] at ho'; cases ho'; exact hdep) (tail_of ht hil (by omega) (by omega))
            exact (getD_listed hqf h3).elim
        have hiL := (getD_of h0).1
        have h3 := h.2 i (by rw [blanked_ready]; exact hi)
        have hlo : l[i]? = some o := by simpa using ho
        unfold qOp at h3
        rw [List.getElem?_toArray, blanked_pre hip, hlo] at h3
        simp only at h3
        rw [blanked_wanted hg hlo hip] at h3
        have hK : ∀ a' w', C w' → wpAnyQ P .any (blanked l p).toArray C (fun a' => ∀ w', C w' → wpList P l.toArray Q (l.drop p) a' w') fuel (L.setIfInBounds i true) a' → wpAny P .any l.toArray Q fuel (L.setIfInBounds i true) a' w' := fun a' w' hC' h' => by
          refine ih _ a' w' hC' (by simpa using hs) (by have := unl_set h0; omega) (fun j hj => by rw [getD_listF _ _ _ hiL, if_neg (by omega)]; exact h2 j hj) (fun i' o' ho' hl e he hb => ?_) h'
          rw [getD_listF _ _ _ hiL]
          split
          · rfl
          · rw [getD_listF _ _ _ hiL] at hl
            by_cases hii : i = i'
            · subst hii
              rw [ho] at ho'
              cases ho'
              exact hdep e he hb
            · rw [if_neg hii] at hl
              exact hcl i' o' ho' hl e he hb
        unfold wpOp
        rw [ho]
        simp only
        split
        · rename_i hw
          rw [if_pos hw] at h3
          exact .inl (Oper.wp_of_quiet hC hK h3)
        · rename_i hw
          rw [if_neg hw] at h3
          exact hK _ _ hC h3
theorem unl_rep (n : Nat) : unl (Array.replicate n false) ≤ n := by simp [unl, List.count_replicate]
theorem wp_region_tail {P : Program} {id : Nat} {Q : Exit → Act → World → Prop} {a : Act} {w : World} {l : List Oper} (p : Nat) (hm : P.follows .mixedOrders = true) (hB : Region.lexB .any (blanked l p).toArray = true) (hd : dagB l.toArray = true) (ht : tailB l.toArray p = true) (hg : guardsB l p = true)
    (h : wpQuiet P l.toArray (fun w' => ∃ n, w' = w.drewN n) (fun a' => ∀ w', (∃ n, w' = w.drewN n) → wpList P l.toArray Q (l.drop p) a' w') (l.take p) a) : (Code.region id l.toArray true).wp P Q a w := by
  simp only [Region.lexB, Bool.and_eq_true] at hB
  have hf : ∀ i, (Array.replicate l.length false).getD i false = false := fun i => by
    rw [Array.getD_eq_getD_getElem?, Array.getElem?_replicate]; split <;> rfl
  have h1 := quiet_app hg (l.take p) 0 a (fun i _ hi => by rw [Nat.sub_zero, List.getElem?_take_of_lt hi]) (by simp; omega) h
  have h2 := wpAnyQ_lex (C := fun w' => ∃ n, w' = w.drewN n) (md := .any) hB.1 (blanked l p) 0 (Array.replicate l.length false) a (by simp) (by have := hB.2; simp only [List.size_toArray, blanked_len] at this ⊢; exact this) h1
  rw [blanked_len] at h2
  refine wp_region_any hm ?_
  simp only [List.size_toArray]
  exact wpAny_tail hd ht hg l.length _ a _ ⟨1, rfl⟩ (by simp) (unl_rep _) (fun j _ => hf j) (fun i o _ h => by rw [hf] at h; cases h) h2
/-! within a round -/
theorem wpAnyIn_list {lv n : Nat} {P : Program} {ops : Array Oper} {Q : Exit → Act → World → Prop} {p : Nat} (hd : dagB ops = true) (ht : tailB ops p = true) : ∀ (t : List Oper) (k fuel : Nat) (L : Array Bool) (a : Act) (w : World), ops.toList.drop k = t → p ≤ k → (∀ j, j < k → L.getD j true = true) → (∀ j, k ≤ j → L.getD j false = false) → L.size = ops.size → t.length ≤ fuel → wpListIn (Fence.wide.inRound lv) n P ops Q t a w → wpAnyIn (Fence.wide.inRound lv) n P .any ops Q fuel L a w
  | [], k, fuel, L, a, w, hk, hpk, h1, h2, hs, hf, h => by
    have hno : Region.ready .any ops L = [] := by
      cases hr : Region.ready .any ops L with
      | nil => rfl
      | cons i r =>
        have := tail_ready hd ht hpk h1 h2 hs (by rw [hr]; exact List.mem_cons_self)
        have h3 := congrArg List.length hk
        simp at h3
        omega
    cases fuel with
    | zero => exact ⟨hno, h⟩
    | succ fuel => exact ⟨fun _ => h, fun i hi => by rw [hno] at hi; cases hi⟩
  | o :: t, k, fuel, L, a, w, hk, hpk, h1, h2, hs, hf, h => by
    have ho : ops[k]? = some o := by
      have := congrArg (fun l : List Oper => l[0]?) hk
      simpa using this
    have hkl := (Array.getElem?_eq_some_iff.1 ho).1
    obtain ⟨fuel, rfl⟩ : ∃ f, fuel = f + 1 := ⟨fuel - 1, by simp at hf; omega⟩
    refine ⟨fun hr => ?_, fun i hi => ?_⟩
    · have h3 : L.getD k true = false := by
        have h4 := h2 k (Nat.le_refl _)
        have h5 : k < L.size := by omega
        simpa [Array.getD, h5] using h4
      obtain ⟨j, hj⟩ := ready_ex (md := .any) hd hs k k (Nat.le_refl _) h3
      rw [hr] at hj
      cases hj
    · obtain ⟨rfl, _⟩ := tail_ready hd ht hpk h1 h2 hs hi
      have hK : ∀ a' w', wpListIn (Fence.wide.inRound lv) n P ops Q t a' w' → wpAnyIn (Fence.wide.inRound lv) n P .any ops Q fuel (L.setIfInBounds i true) a' w' := fun a' w' h' =>
        wpAnyIn_list hd ht t (i + 1) fuel _ a' w' (by
          have := congrArg List.tail hk
          simpa using this) (by omega) (fun j hj => by rw [getD_list]; split <;> first | rfl | exact h1 j (by omega)) (fun j hj => by rw [getD_listF _ _ _ (by omega), if_neg (by omega)]; exact h2 j (by omega)) (by simpa using hs) (by simp at hf; omega) h'
      have h' : if Region.wanted o (yielded ops a.tmps) then o.wpIn (Fence.wide.inRound lv) n P a w (wpListIn (Fence.wide.inRound lv) n P ops Q t) Q else (∀ f, o.about P w a.eval = some f → (Fence.wide.inRound lv).fn f) ∧ wpListIn (Fence.wide.inRound lv) n P ops Q t (a.put o.dst undef) w := h
      unfold wpOpIn
      rw [ho]
      simp only
      split
      · rename_i hw
        rw [if_pos hw] at h'
        exact Oper.wpIn_mono hK h'
      · rename_i hw
        rw [if_neg hw] at h'
        exact ⟨h'.1, hK _ _ h'.2⟩
/-- .. from the start on -/
theorem wpAnyIn_tail {lv n : Nat} {P : Program} {l : List Oper} {Q : Exit → Act → World → Prop} {p : Nat} {C : World → Prop} (hd : dagB l.toArray = true) (ht : tailB l.toArray p = true) (hg : guardsB l p = true) (hk : kindD l.toArray = true) : ∀ (fuel : Nat) (L : Array Bool) (a : Act) (w : World), C w → L.size = l.length → unl L ≤ fuel →
    (∀ j, p ≤ j → L.getD j false = false) → (∀ i o, l.toArray[i]? = some o → L.getD i false = true → ∀ e ∈ o.after, Region.binds .any e = true → L.getD e.on false = true) →
    wpAnyQ P .any (blanked l p).toArray C (fun a' => ∀ w', C w' → wpListIn (Fence.wide.inRound lv) n P l.toArray Q (l.drop p) a' w') fuel L a → wpAnyIn (Fence.wide.inRound lv) n P .any l.toArray Q fuel L a w := by
  intro fuel
  induction fuel with
  | zero =>
    intro L a w hC hs hu h2 hcl h
    have hall : ∀ i, L.getD i true = true := fun i => by
      by_cases h' : L.getD i true = false
      · have := unl_set h'; omega
      · simpa using h'
    have h3 := blanks_done 0 L a (fun i _ => hall i) h w hC
    refine wpAnyIn_list hd ht (l.drop p) p 0 L a w (by simp) (Nat.le_refl _) (fun j _ => hall j) h2 (by simpa using hs) ?_ h3
    by_cases hp : p < l.length
    · have h4 := h2 p (Nat.le_refl _)
      have h5 := hall p
      have h6 : p < L.size := by omega
      simp [Array.getD, h6] at h4 h5
      rw [h4] at h5; cases h5
    · simp; omega
  | succ fuel ih =>
    intro L a w hC hs hu h2 hcl h
    by_cases hall : ∀ i, i < p → L.getD i true = true
    · have h3 := blanks_done (fuel + 1) L a hall h w hC
      refine wpAnyIn_list hd ht (l.drop p) p (fuel + 1) L a w (by simp) (Nat.le_refl _) hall h2 (by simpa using hs) ?_ h3
      -- as many are unlisted as the tail is long
      have h7 : ∀ (m : Nat) (M : Array Bool), M.size = l.length → (∀ j, l.length - m ≤ j → M.getD j false = false) → m ≤ l.length → m ≤ unl M := by
        intro m
        induction m with
        | zero => intro M _ _ _; omega
        | succ m ihm =>
          intro M hM hj hml
          have hlt : l.length - (m + 1) < M.size := by omega
          have h8 : M.getD (l.length - (m + 1)) true = false := by
            have := hj (l.length - (m + 1)) (Nat.le_refl _)
            simpa [Array.getD, hlt] using this
          have h9 := ihm (M.setIfInBounds (l.length - (m + 1)) true) (by simpa using hM) (fun j hj' => by
            rw [getD_listF _ _ _ hlt, if_neg (by omega)]
            exact hj j (by omega)) (by omega)
          have := unl_set h8
          omega
      by_cases hpl : p ≤ l.length
      · have := h7 (l.length - p) L hs (fun j hj => h2 j (by omega)) (by omega)
        simp
        omega
      · simp
        omega
    · -- one ahead of the tail is still open
      obtain ⟨q, hq⟩ := Classical.not_forall.1 hall
      obtain ⟨hqp, hq0⟩ := Classical.not_imp.1 hq
      have hqf : L.getD q true = false := by simpa using hq0
      refine ⟨fun hr => ?_, fun i hi => ?_⟩
      · obtain ⟨j, hj⟩ := ready_ex (md := .any) hd (by simpa using hs) q q (Nat.le_refl _) hqf
        rw [hr] at hj
        cases hj
      · obtain ⟨h0, o, ho, hdep⟩ := mem_ready.1 hi
        have hil := (Array.getElem?_eq_some_iff.1 ho).1
        have hip : i < p := by
          by_cases h' : i < p
          · exact h'
          · have h3 := anc_listed hcl l.toArray.size i q (fun o' ho' => by rw [ho] at ho'; cases ho'; exact hdep) (tail_of ht hil (by omega) (by omega))
            exact (getD_listed hqf h3).elim
        have hiL := (getD_of h0).1
        have h3 := h.2 i (by rw [blanked_ready]; exact hi)
        have hlo : l[i]? = some o := by simpa using ho
        unfold qOp at h3
        rw [List.getElem?_toArray, blanked_pre hip, hlo] at h3
        simp only at h3
        rw [blanked_wanted hg hlo hip] at h3
        have hK : ∀ a' w', C w' → wpAnyQ P .any (blanked l p).toArray C (fun a' => ∀ w', C w' → wpListIn (Fence.wide.inRound lv) n P l.toArray Q (l.drop p) a' w') fuel (L.setIfInBounds i true) a' → wpAnyIn (Fence.wide.inRound lv) n P .any l.toArray Q fuel (L.setIfInBounds i true) a' w' := fun a' w' hC' h' => by
          refine ih _ a' w' hC' (by simpa using hs) (by have := unl_set h0; omega) (fun j hj => by rw [getD_listF _ _ _ hiL, if_neg (by omega)]; exact h2 j hj) (fun i' o' ho' hl e he hb => ?_) h'
          rw [getD_listF _ _ _ hiL]
          split
          · rfl
          · rw [getD_listF _ _ _ hiL] at hl
            by_cases hii : i = i'
            · subst hii
              rw [ho] at ho'
              cases ho'
              exact hdep e he hb
            · rw [if_neg hii] at hl
              exact hcl i' o' ho' hl e he hb
        unfold wpOpIn
        rw [ho]
        simp only
        split
        · rename_i hw
          rw [if_pos hw] at h3
          exact wpIn_of_wp (kindD_of hk ho) (Oper.wp_of_quiet hC hK h3)
        · rename_i hw
          rw [if_neg hw] at h3
          exact ⟨fun _ _ => trivial, hK _ _ hC h3⟩
theorem wpIn_region_tail {lv n : Nat} {P : Program} {id : Nat} {Q : Exit → Act → World → Prop} {a : Act} {w : World} {l : List Oper} (p : Nat) (hm : P.follows .mixedOrders = true) (hB : Region.lexB .any (blanked l p).toArray = true) (hd : dagB l.toArray = true) (ht : tailB l.toArray p = true) (hg : guardsB l p = true) (hk : kindD l.toArray = true)
    (h : wpQuiet P l.toArray (fun w' => ∃ n, w' = w.drewN n) (fun a' => ∀ w', (∃ n, w' = w.drewN n) → wpListIn (Fence.wide.inRound lv) n P l.toArray Q (l.drop p) a' w') (l.take p) a) : (Code.region id l.toArray true).wpIn (Fence.wide.inRound lv) n P Q a w := by
  simp only [Region.lexB, Bool.and_eq_true] at hB
  have hf : ∀ i, (Array.replicate l.length false).getD i false = false := fun i => by
    rw [Array.getD_eq_getD_getElem?, Array.getElem?_replicate]; split <;> rfl
  have h1 := quiet_app hg (l.take p) 0 a (fun i _ hi => by rw [Nat.sub_zero, List.getElem?_take_of_lt hi]) (by simp; omega) h
  have h2 := wpAnyQ_lex (C := fun w' => ∃ n, w' = w.drewN n) (md := .any) hB.1 (blanked l p) 0 (Array.replicate l.length false) a (by simp) (by have := hB.2; simp only [List.size_toArray, blanked_len] at this ⊢; exact this) h1
  rw [blanked_len] at h2
  refine wpIn_region_any hm ?_
  simp only [List.size_toArray]
  exact wpAnyIn_tail hd ht hg hk l.length _ a _ ⟨1, rfl⟩ (by simp) (unl_rep _) (fun j _ => hf j) (fun i o _ h => by rw [hf] at h; cases h) h2
end Go.Proofs.YtefokfbgpfcbkaaGreat
