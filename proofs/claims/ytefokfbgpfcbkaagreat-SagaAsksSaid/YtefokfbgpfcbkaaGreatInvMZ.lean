/- Lemmas of this claim (a part of its texts, kept as far as the claim reaches them). -/
import Derived.Test.YtefokfbgpfcbkaaGreatInvZ
namespace Go.Proofs.YtefokfbgpfcbkaaGreat
set_option linter.unusedVariables false
set_option linter.unusedSimpArgs false
def dagM (md : Region.Mode) (ops : Array Oper) : Bool := (List.range ops.size).all fun i => match ops[i]? with
  | some o => o.after.all fun e => !Region.binds md e || decide (e.on < i)
  | none => true
theorem dagM_of {md : Region.Mode} {ops : Array Oper} (h : dagM md ops = true) {i : Nat} {o : Oper} (ho : ops[i]? = some o) : ∀ e ∈ o.after, Region.binds md e = true → e.on < i := by
  intro e he hbd
  have hi := (Array.getElem?_eq_some_iff.1 ho).1
  have := List.all_eq_true.1 h i (List.mem_range.2 hi)
  rw [ho] at this
  simp only [Array.all_eq_true'] at this
  have := this e he
  simpa [hbd] using this
theorem ready_exM {md : Region.Mode} {ops : Array Oper} (hd : dagM md ops = true) {L : Array Bool} (hs : L.size = ops.size) : ∀ (n i : Nat), i ≤ n → L.getD i true = false → ∃ j, j ∈ Region.ready md ops L := by
  intro n
  induction n with
  | zero =>
    intro i hi h
    obtain rfl : i = 0 := by omega
    have hl := (getD_of h).1
    refine ⟨0, mem_ready.2 ⟨h, ops[0]'(by omega), Array.getElem?_eq_getElem _, fun e he hbd => ?_⟩⟩
    have := dagM_of hd (Array.getElem?_eq_getElem (by omega : 0 < ops.size)) e he hbd
    omega
  | succ n ih =>
    intro i hi h
    have hl := (getD_of h).1
    by_cases hr : ∃ e ∈ (ops[i]'(by omega)).after, Region.binds md e = true ∧ L.getD e.on false = false
    · obtain ⟨e, he, hbd, hf⟩ := hr
      have h1 := dagM_of hd (Array.getElem?_eq_getElem (by omega : i < ops.size)) e he hbd
      refine ih e.on (by omega) ?_
      have hle : e.on < L.size := by omega
      simp only [Array.getD, hle, dif_pos] at hf ⊢
      exact hf
    · exact ⟨i, mem_ready.2 ⟨h, ops[i]'(by omega), Array.getElem?_eq_getElem _, fun e he hbd => by
        by_cases hx : L.getD e.on false = true
        · exact hx
        · exact absurd ⟨e, he, hbd, by simpa using hx⟩ hr⟩⟩
theorem wpAny_invM {P : Program} {md : Region.Mode} {ops : Array Oper} {Q : Exit → Act → World → Prop} (J : Array Bool → Act → World → Prop) (hd : dagM md ops = true)
    (hstep : ∀ L a w i o, J L a w → ops[i]? = some o → L.getD i true = false → (∀ e ∈ o.after, Region.binds md e = true → L.getD e.on false = true) → wpOp P ops Q i (J (L.setIfInBounds i true)) a w)
    (hfin : ∀ L a w, J L a w → (∀ i, L.getD i true = true) → Q .normal a w) :
    ∀ (fuel : Nat) (L : Array Bool) (a : Act) (w : World), L.size = ops.size → unl L ≤ fuel → J L a w → wpAny P md ops Q fuel L a w := by
  have hend : ∀ (L : Array Bool), L.size = ops.size → Region.ready md ops L = [] → ∀ i, L.getD i true = true := fun L hs hr i => by
    by_cases h : L.getD i true = false
    · obtain ⟨j, hj⟩ := ready_exM (md := md) hd hs i i (Nat.le_refl _) h
      rw [hr] at hj
      exact absurd hj (by simp)
    · simpa using h
  intro fuel
  induction fuel with
  | zero =>
    intro L a w hs hu hJ
    have hall : ∀ i, L.getD i true = true := fun i => by
      by_cases h : L.getD i true = false
      · have := unl_set h; omega
      · simpa using h
    have hr : Region.ready md ops L = [] := by
      cases hq : Region.ready md ops L with
      | nil => rfl
      | cons j r =>
        have hm : j ∈ Region.ready md ops L := by rw [hq]; exact List.mem_cons_self
        have := (mem_ready.1 hm).1
        rw [hall j] at this
        cases this
    exact ⟨hr, hfin L a w hJ hall⟩
  | succ fuel ih =>
    intro L a w hs hu hJ
    refine ⟨fun hr => hfin L a w hJ (hend L hs hr), fun i hi => ?_⟩
    obtain ⟨h0, o, ho, hall⟩ := mem_ready.1 hi
    have h1 := unl_set h0
    exact wpOp_mono (fun a' w' hJ' => ih _ a' w' (by simpa using hs) (by omega) hJ') (hstep L a w i o hJ ho h0 hall)
theorem wp_region_invM {P : Program} {ops : Array Oper} {Q : Exit → Act → World → Prop} {id : Nat} {a : Act} {w : World} (hm : P.follows .mixedOrders = true) (J : Array Bool → Act → World → Prop) (hd : dagM .any ops = true)
    (h0 : J (Array.replicate ops.size false) a w.drew)
    (hstep : ∀ L a w i o, J L a w → ops[i]? = some o → L.getD i true = false → (∀ e ∈ o.after, Region.binds .any e = true → L.getD e.on false = true) → wpOp P ops Q i (J (L.setIfInBounds i true)) a w)
    (hfin : ∀ L a w, J L a w → (∀ i, L.getD i true = true) → Q .normal a w) : (Code.region id ops true).wp P Q a w :=
  wp_region_any hm (wpAny_invM J hd hstep hfin ops.size _ a _ (by simp) (by simp [unl, List.count_replicate]) h0)
end Go.Proofs.YtefokfbgpfcbkaaGreat
namespace Go.Proofs.YtefokfbgpfcbkaaGreat
set_option linter.unusedVariables false
set_option linter.unusedSimpArgs false
theorem wpAnyIn_invM {F : Fence} {n : Nat} {P : Program} {md : Region.Mode} {ops : Array Oper} {Q : Exit → Act → World → Prop} (J : Array Bool → Act → World → Prop) (hd : dagM md ops = true)
    (hstep : ∀ L a w i o, J L a w → ops[i]? = some o → L.getD i true = false → (∀ e ∈ o.after, Region.binds md e = true → L.getD e.on false = true) → wpOpIn F n P ops Q i (J (L.setIfInBounds i true)) a w)
    (hfin : ∀ L a w, J L a w → (∀ i, L.getD i true = true) → Q .normal a w) :
    ∀ (fuel : Nat) (L : Array Bool) (a : Act) (w : World), L.size = ops.size → unl L ≤ fuel → J L a w → wpAnyIn F n P md ops Q fuel L a w := by
  have hend : ∀ (L : Array Bool), L.size = ops.size → Region.ready md ops L = [] → ∀ i, L.getD i true = true := fun L hs hr i => by
    by_cases h : L.getD i true = false
    · obtain ⟨j, hj⟩ := ready_exM (md := md) hd hs i i (Nat.le_refl _) h
      rw [hr] at hj
      exact absurd hj (by simp)
    · simpa using h
  intro fuel
  induction fuel with
  | zero =>
    intro L a w hs hu hJ
    have hall : ∀ i, L.getD i true = true := fun i => by
      by_cases h : L.getD i true = false
      · have := unl_set h; omega
      · simpa using h
    have hr : Region.ready md ops L = [] := by
      cases hq : Region.ready md ops L with
      | nil => rfl
      | cons j r =>
        have hm : j ∈ Region.ready md ops L := by rw [hq]; exact List.mem_cons_self
        have := (mem_ready.1 hm).1
        rw [hall j] at this
        cases this
    exact ⟨hr, hfin L a w hJ hall⟩
  | succ fuel ih =>
    intro L a w hs hu hJ
    refine ⟨fun hr => hfin L a w hJ (hend L hs hr), fun i hi => ?_⟩
    obtain ⟨h0, o, ho, hall⟩ := mem_ready.1 hi
    have h1 := unl_set h0
    exact wpOpIn_mono (fun a' w' hJ' => ih _ a' w' (by simpa using hs) (by omega) hJ') (hstep L a w i o hJ ho h0 hall)
theorem wpIn_region_invM {F : Fence} {n : Nat} {P : Program} {ops : Array Oper} {Q : Exit → Act → World → Prop} {id : Nat} {a : Act} {w : World} (hm : P.follows .mixedOrders = true) (J : Array Bool → Act → World → Prop) (hd : dagM .any ops = true)
    (h0 : J (Array.replicate ops.size false) a w.drew)
    (hstep : ∀ L a w i o, J L a w → ops[i]? = some o → L.getD i true = false → (∀ e ∈ o.after, Region.binds .any e = true → L.getD e.on false = true) → wpOpIn F n P ops Q i (J (L.setIfInBounds i true)) a w)
    (hfin : ∀ L a w, J L a w → (∀ i, L.getD i true = true) → Q .normal a w) : (Code.region id ops true).wpIn F n P Q a w :=
  wpIn_region_any hm (wpAnyIn_invM J hd hstep hfin ops.size _ a _ (by simp) (by simp [unl, List.count_replicate]) h0)
def shapeM (ops : Array Oper) : Bool := closedB ops && (uniqB ops && (kindB ops && dagM .any ops))
structure PhF (ops : Array Oper) (ws : List Nat) (fx : Nat) (Φ : Nat → Bool → Act → World → Prop) (L : Array Bool) (a : Act) (w : World) : Prop where
  ex : ∃ k f aF, Φ k f aF w ∧ Agree ops L a aF ∧ (∀ j x, ws[j]? = some x → (L.getD x false = true ↔ j < k)) ∧ (L.getD fx false = true ↔ f = true)
  closed : ∀ i o, ops[i]? = some o → L.getD i false = true → ∀ e ∈ o.after, Region.binds .any e = true → L.getD e.on false = true
  size : L.size = ops.size
def PureF (P : Program) (ops : Array Oper) (ws : List Nat) (fx : Nat) (Φ : Nat → Bool → Act → World → Prop) : Prop :=
  ∀ k f aF W i o, Φ k f aF W → ops[i]? = some o → i ∉ ws → i ≠ fx → (∀ j x, ws[j]? = some x → ancB ops ops.size x i = true → k ≤ j) → (∀ j x, ws[j]? = some x → ancB ops ops.size i x = true → j < k) → (ancB ops ops.size i fx = true → f = true) →
    if Region.wanted o (yielded ops aF.tmps) = true then ∃ t v, o.dst = some t ∧ aF.tmps[t]? = some v ∧ PureOk P o aF W v else ∀ t, o.dst = some t → aF.tmps[t]? = some undef
def WriteF (P : Program) (ops : Array Oper) (ws : List Nat) (fx : Nat) (Φ : Nat → Bool → Act → World → Prop) : Prop :=
  ∀ k f aF W i o, Φ k f aF W → ws[k]? = some i → ops[i]? = some o → (ancB ops ops.size i fx = true → f = true) → Region.wanted o (yielded ops aF.tmps) = true ∧ StepOk P o aF W (Φ (k + 1) f)
def FreeF (P : Program) (ops : Array Oper) (ws : List Nat) (fx : Nat) (Φ : Nat → Bool → Act → World → Prop) : Prop :=
  ∀ k aF W o, Φ k false aF W → ops[fx]? = some o → (∀ j x, ws[j]? = some x → ancB ops ops.size x fx = true → k ≤ j) → Region.wanted o (yielded ops aF.tmps) = true ∧ StepOk P o aF W (Φ k true)
theorem phaseF_step {P : Program} {ops : Array Oper} {Q : Exit → Act → World → Prop} (ws : List Nat) (fx : Nat) (Φ : Nat → Bool → Act → World → Prop) (hs : shapeM ops = true) (hch : chainAll ops ws = true) (hfw : fx ∉ ws)
    (hpure : PureF P ops ws fx Φ) (hwrite : WriteF P ops ws fx Φ) (hfree : FreeF P ops ws fx Φ)
    {L : Array Bool} {a : Act} {w : World} {i : Nat} {o : Oper} (hJ : PhF ops ws fx Φ L a w) (ho : ops[i]? = some o) (hi : L.getD i true = false) (hdep : ∀ e ∈ o.after, Region.binds .any e = true → L.getD e.on false = true) :
    (∀ c, o.op ≠ .defer c) ∧ if Region.wanted o (yielded ops a.tmps) = true then Oper.wp P o a w (PhF ops ws fx Φ (L.setIfInBounds i true)) Q else PhF ops ws fx Φ (L.setIfInBounds i true) (a.put o.dst undef) w := by
  simp only [shapeM, Bool.and_eq_true] at hs
  obtain ⟨hc, hu, hk, hd⟩ := hs
  obtain ⟨⟨k, f, aF, h1, h2, h3, h3f⟩, hcl, hsz⟩ := hJ
  obtain ⟨hks, hkd⟩ := kind_of hk ho
  have hlk := h2.looks hc ho hdep
  have hex : execOp a.eval o = execOp aF.eval o := execOp_congr o hks (eval_of_looks hlk)
  have hwn := wanted_of_looks hlk
  have hil := (getD_of hi).1
  have hcl' : ∀ i' o', ops[i']? = some o' → (L.setIfInBounds i true).getD i' false = true → ∀ e ∈ o'.after, Region.binds .any e = true → (L.setIfInBounds i true).getD e.on false = true := by
    intro i' o' ho' hl e he hb
    rw [getD_listF _ _ _ hil]
    split
    · rfl
    · rw [getD_listF _ _ _ hil] at hl
      by_cases hii : i = i'
      · subst hii
        rw [ho] at ho'
        cases ho'
        exact hdep e he hb
      · rw [if_neg hii] at hl
        exact hcl i' o' ho' hl e he hb
  have hsz' : (L.setIfInBounds i true).size = ops.size := by simpa using hsz
  have hanc := fun y (h : ancB ops ops.size i y = true) => anc_listed hcl ops.size i y (fun o' ho' => by rw [ho] at ho'; cases ho'; exact hdep) h
  have hbe : ∀ j x, ws[j]? = some x → ancB ops ops.size x i = true → k ≤ j := fun j x hx hax => by
    by_cases h : k ≤ j
    · exact h
    · have hl := (h3 j x hx).2 (by omega)
      have := anc_listed hcl ops.size x i (fun o' ho' => hcl x o' ho' hl) hax
      exact (getD_listed hi this).elim
  have hbf : ancB ops ops.size i fx = true → f = true := fun h => h3f.1 (hanc fx h)
  refine ⟨hkd, ?_⟩
  have run : ∀ {Ψ : Act → World → Prop}, StepOk P o aF w Ψ → (∀ v W', Ψ (aF.put o.dst v) W' → PhF ops ws fx Φ (L.setIfInBounds i true) (a.put o.dst v) W') → Oper.wp P o a w (PhF ops ws fx Φ (L.setIfInBounds i true)) Q := by
    intro Ψ hst hmk
    unfold Oper.wp
    rw [hex]
    rcases hst with ⟨v, W', hr, hΦ⟩ | ⟨W', hr, hΦ⟩ | ⟨g, args, W', hr, hcall⟩
    · rw [hr]; exact hmk v W' hΦ
    · rw [hr]; exact hmk undef W' hΦ
    · rw [hr]
      refine hcall.mono ?_
      rintro e w' ⟨v, rfl, hΦ⟩
      exact hmk v w' hΦ
  by_cases hw : i ∈ ws
  · obtain ⟨j, hj⟩ := List.getElem?_of_mem hw
    have hjk : ¬ j < k := fun h => getD_listed hi ((h3 j i hj).2 h)
    have hkj : j = k := by
      by_cases h : k < j
      · have hkl : k < ws.length := by have := (List.getElem?_eq_some_iff.1 hj).1; omega
        have h4 := hanc ws[k] (chain_of hch (List.getElem?_eq_getElem hkl) hj h)
        have := (h3 k ws[k] (List.getElem?_eq_getElem hkl)).1 h4
        omega
      · omega
    subst hkj
    obtain ⟨hww, hst⟩ := hwrite j f aF w i o h1 hj ho hbf
    rw [hwn, if_pos hww]
    refine run hst (fun v W' hΦ => ⟨⟨j + 1, f, _, hΦ, h2.write ho v, fun j' x hx => ?_, ?_⟩, hcl', hsz'⟩)
    · rw [getD_listF _ _ _ hil]
      by_cases hix : i = x
      · subst hix
        simp only [if_true, true_iff]
        have h5 : ¬ j' < j := fun h => getD_listed hi ((h3 j' i hx).2 h)
        by_cases h6 : j < j'
        · exact (getD_listed hi (hanc i (chain_of hch hj hx h6))).elim
        · omega
      · rw [if_neg hix, h3 j' x hx]
        constructor
        · intro h; omega
        · intro h
          by_cases h8 : j' = j
          · subst h8; rw [hj] at hx; cases hx; exact absurd rfl hix
          · omega
    · rw [getD_listF _ _ _ hil, if_neg (by rintro rfl; exact hfw hw)]
      exact h3f
  · by_cases hfi : i = fx
    · subst hfi
      have hf : f = false := by
        cases hq : f with
        | false => rfl
        | true => exact (getD_listed hi (h3f.2 hq)).elim
      subst hf
      obtain ⟨hww, hst⟩ := hfree k aF w o h1 ho hbe
      rw [hwn, if_pos hww]
      refine run hst (fun v W' hΦ => ⟨⟨k, true, _, hΦ, h2.write ho v, fun j x hx => ?_, ?_⟩, hcl', hsz'⟩)
      · rw [getD_listF _ _ _ hil, if_neg (by rintro rfl; exact hw (List.mem_of_getElem? hx))]
        exact h3 j x hx
      · rw [getD_listF _ _ _ hil, if_pos rfl]
    · have hmk : ∀ v, (∀ t, o.dst = some t → aF.tmps[t]? = some v) → PhF ops ws fx Φ (L.setIfInBounds i true) (a.put o.dst v) w := fun v hv => by
        refine ⟨⟨k, f, aF, h1, h2.step hu ho hv, fun j x hx => ?_, ?_⟩, hcl', hsz'⟩
        · rw [getD_listF _ _ _ hil, if_neg (by rintro rfl; exact hw (List.mem_of_getElem? hx))]
          exact h3 j x hx
        · rw [getD_listF _ _ _ hil, if_neg hfi]
          exact h3f
      have hp := hpure k f aF w i o h1 ho hw hfi hbe (fun j x hx hax => (h3 j x hx).1 (hanc x hax)) hbf
      rw [hwn]
      by_cases hww : Region.wanted o (yielded ops aF.tmps) = true
      · rw [if_pos hww] at hp ⊢
        obtain ⟨t, v, ht, hv, hok⟩ := hp
        have hvv : ∀ t', o.dst = some t' → aF.tmps[t']? = some v := fun t' h => by rw [ht] at h; cases h; exact hv
        unfold Oper.wp
        rw [hex]
        rcases hok with hr | ⟨g, args, hr, hcall⟩
        · rw [hr]; exact hmk v hvv
        · rw [hr]
          refine hcall.mono ?_
          rintro e w' ⟨rfl, rfl⟩
          exact hmk v hvv
      · rw [if_neg hww] at hp ⊢
        exact hmk undef hp
theorem phaseF_start {ops : Array Oper} {ws : List Nat} {fx : Nat} {Φ : Nat → Bool → Act → World → Prop} {a aF : Act} {w : World} (hΦ : Φ 0 false aF w) (hd : a.defers = aF.defers) (hz : a.tmps.size = aF.tmps.size) (hsame : ∀ t, (∃ (i : Nat) (o : Oper), ops[i]? = some o ∧ o.dst = some t) ∨ a.tmps[t]? = aF.tmps[t]?) : PhF ops ws fx Φ (Array.replicate ops.size false) a w := by
  have hf : ∀ i, (Array.replicate ops.size false).getD i false = false := fun i => by
    rw [Array.getD_eq_getD_getElem?, Array.getElem?_replicate]; split <;> rfl
  refine ⟨⟨0, false, aF, hΦ, ⟨hd, hz, fun t => ?_⟩, fun j x _ => by rw [hf]; simp, by rw [hf]⟩, (fun i o _ h => by rw [hf] at h; cases h), by simp⟩
  rcases hsame t with ⟨i, o, h1, h2⟩ | h
  · left
    refine ⟨i, o, h1, h2, ?_⟩
    rw [Array.getD_eq_getD_getElem?, Array.getElem?_replicate, if_pos (Array.getElem?_eq_some_iff.1 h1).1]
    rfl
  · exact .inr h
theorem phaseF_end {ops : Array Oper} {ws : List Nat} {fx : Nat} {Φ : Nat → Bool → Act → World → Prop} {Q : Exit → Act → World → Prop} (hws : ∀ x ∈ ws, x < ops.size) (hfx : fx < ops.size) (hfin : ∀ k aF W, ws.length ≤ k → Φ k true aF W → Q .normal aF W) {L : Array Bool} {a : Act} {w : World} (hJ : PhF ops ws fx Φ L a w) (hall : ∀ i, L.getD i true = true) : Q .normal a w := by
  obtain ⟨⟨k, f, aF, h1, h2, h3, h3f⟩, _, hsz⟩ := hJ
  have he := h2.all hall
  subst he
  have hin : ∀ x, x < ops.size → L.getD x false = true := fun x hlt => by
    have := hall x
    rw [Array.getD_eq_getD_getElem?, Array.getElem?_eq_getElem (by omega)] at this ⊢
    exact this
  obtain rfl := h3f.1 (hin fx hfx)
  refine hfin k a w ?_ h1
  by_cases h : ws.length ≤ k
  · exact h
  · have hkl : k < ws.length := by omega
    have := (h3 k _ (List.getElem?_eq_getElem hkl)).1 (hin ws[k] (hws ws[k] (List.getElem_mem hkl)))
    omega
theorem wp_region_phaseF {P : Program} {ops : Array Oper} {Q : Exit → Act → World → Prop} {id : Nat} {a aF : Act} {w : World} (hm : P.follows .mixedOrders = true) (ws : List Nat) (fx : Nat) (Φ : Nat → Bool → Act → World → Prop) (hs : shapeM ops = true) (hch : chainAll ops ws = true) (hws : ∀ x ∈ ws, x < ops.size) (hfw : fx ∉ ws) (hfx : fx < ops.size)
    (hΦ : Φ 0 false aF w.drew) (hd : a.defers = aF.defers) (hz : a.tmps.size = aF.tmps.size) (hsame : ∀ t, (∃ (i : Nat) (o : Oper), ops[i]? = some o ∧ o.dst = some t) ∨ a.tmps[t]? = aF.tmps[t]?)
    (hpure : PureF P ops ws fx Φ) (hwrite : WriteF P ops ws fx Φ) (hfree : FreeF P ops ws fx Φ) (hfin : ∀ k aF W, ws.length ≤ k → Φ k true aF W → Q .normal aF W) : (Code.region id ops true).wp P Q a w := by
  refine wp_region_invM hm (PhF ops ws fx Φ) (by simp only [shapeM, Bool.and_eq_true] at hs; exact hs.2.2.2) (phaseF_start hΦ hd hz hsame) (fun L a w i o hJ ho hi hdep => ?_) (fun L a w hJ hall => phaseF_end hws hfx hfin hJ hall)
  obtain ⟨h1, h2⟩ := phaseF_step (Q := Q) ws fx Φ hs hch hfw hpure hwrite hfree hJ ho hi hdep
  unfold wpOp
  rw [ho]
  simp only
  split
  · rename_i hw
    rw [if_pos hw] at h2
    exact .inl h2
  · rename_i hw
    rw [if_neg hw] at h2
    exact h2
theorem wpIn_region_phaseF {l n : Nat} {P : Program} {ops : Array Oper} {Q : Exit → Act → World → Prop} {id : Nat} {a aF : Act} {w : World} (hm : P.follows .mixedOrders = true) (ws : List Nat) (fx : Nat) (Φ : Nat → Bool → Act → World → Prop) (hs : shapeM ops = true) (hch : chainAll ops ws = true) (hws : ∀ x ∈ ws, x < ops.size) (hfw : fx ∉ ws) (hfx : fx < ops.size)
    (hΦ : Φ 0 false aF w.drew) (hd : a.defers = aF.defers) (hz : a.tmps.size = aF.tmps.size) (hsame : ∀ t, (∃ (i : Nat) (o : Oper), ops[i]? = some o ∧ o.dst = some t) ∨ a.tmps[t]? = aF.tmps[t]?)
    (hpure : PureF P ops ws fx Φ) (hwrite : WriteF P ops ws fx Φ) (hfree : FreeF P ops ws fx Φ) (hfin : ∀ k aF W, ws.length ≤ k → Φ k true aF W → Q .normal aF W) : (Code.region id ops true).wpIn (Fence.wide.inRound l) n P Q a w := by
  refine wpIn_region_invM hm (PhF ops ws fx Φ) (by simp only [shapeM, Bool.and_eq_true] at hs; exact hs.2.2.2) (phaseF_start hΦ hd hz hsame) (fun L a w i o hJ ho hi hdep => ?_) (fun L a w hJ hall => phaseF_end hws hfx hfin hJ hall)
  obtain ⟨h1, h2⟩ := phaseF_step (Q := Q) ws fx Φ hs hch hfw hpure hwrite hfree hJ ho hi hdep
  unfold wpOpIn
  rw [ho]
  simp only
  split
  · rename_i hw
    rw [if_pos hw] at h2
    exact wpIn_of_wp h1 h2
  · rename_i hw
    rw [if_neg hw] at h2
    exact ⟨fun _ _ => trivial, h2⟩
theorem same_two {ops : Array Oper} {xs ys : List Value} (n m n2 m2 : Nat) (hd : ((List.range' n m).all fun t => ops.any fun o => o.dst == some t) = true) (hd2 : ((List.range' n2 m2).all fun t => ops.any fun o => o.dst == some t) = true) (hnm : n + m ≤ n2) (h1 : xs.take n = ys.take n) (h2 : (xs.drop (n + m)).take (n2 - (n + m)) = (ys.drop (n + m)).take (n2 - (n + m))) (h3 : xs.drop (n2 + m2) = ys.drop (n2 + m2)) (t : Nat) : (∃ (i : Nat) (o : Oper), ops[i]? = some o ∧ o.dst = some t) ∨ xs.toArray[t]? = ys.toArray[t]? := by
  have mid : ∀ n m, ((List.range' n m).all fun t => ops.any fun o => o.dst == some t) = true → n ≤ t → t < n + m → ∃ (i : Nat) (o : Oper), ops[i]? = some o ∧ o.dst = some t := fun n m hd ha hb => by
    have h3 := List.all_eq_true.1 hd t (List.mem_range'_1.2 ⟨ha, hb⟩)
    obtain ⟨o, ho, h4⟩ := Array.any_eq_true'.1 h3
    obtain ⟨i, hi, rfl⟩ := Array.mem_iff_getElem.1 ho
    exact ⟨i, _, Array.getElem?_eq_getElem hi, beq_iff_eq.1 h4⟩
  by_cases ha : t < n
  · right
    have := congrArg (fun l : List Value => l[t]?) h1
    simpa [List.getElem?_take, ha] using this
  · by_cases hb : t < n + m
    · exact .inl (mid n m hd (by omega) hb)
    · by_cases hc : t < n2
      · right
        have := congrArg (fun l : List Value => l[t - (n + m)]?) h2
        simp only [List.getElem?_take, List.getElem?_drop, show n + m + (t - (n + m)) = t by omega] at this
        rw [if_pos (by omega), if_pos (by omega)] at this
        simpa using this
      · by_cases he : t < n2 + m2
        · exact .inl (mid n2 m2 hd2 (by omega) he)
        · right
          have := congrArg (fun l : List Value => l[t - (n2 + m2)]?) h3
          simp only [List.getElem?_drop, show n2 + m2 + (t - (n2 + m2)) = t by omega] at this
          simpa using this
end Go.Proofs.YtefokfbgpfcbkaaGreat
