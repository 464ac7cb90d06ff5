/- The plain functions of layer 30 (ticks): who waits for which tick; the reference's row, and what is due. -/
import Derived.Test.YtbnheebblicgkaaPlainSt
namespace Go.Proofs.Ytbnheebblicgkaa
set_option linter.unusedVariables false
set_option linter.unusedSimpArgs false
namespace P30
/-- who waits, and for which tick -/
abbrev En := Int × Int
def less (a b : En) : Prop := a.2 < b.2 ∨ (a.2 = b.2 ∧ a.1 < b.1)
instance (a b : En) : Decidable (less a b) := by unfold less; exact inferInstance
/-- for which tick somebody waits -/
def look (L : List En) (k : Int) : Option Int := (L.find? (fun p => p.1 == k)).map (·.2)
def unset (L : List En) (k : Int) : List En := L.filter (fun p => p.1 != k)
/-- one more, in order -/
def ins (x : En) : List En → List En
  | [] => [x]
  | y :: r => if less x y then x :: y :: r else y :: ins x r
def full (L : List En) (k : Int) : Bool := decide ((look L k).isNone = true ∧ 4096 ≤ L.length)
def set (L : List En) (k a : Int) : List En := if full L k then L else ins (k, a) (unset L k)
def due (L : List En) (now : Int) : List En := L.takeWhile (fun p => decide (p.2 ≤ now))
def rest (L : List En) (now : Int) : List En := L.dropWhile (fun p => decide (p.2 ≤ now))
/-- what the row is: in order, nobody twice -/
structure Ok (L : List En) : Prop where
  sort : L.Pairwise less
  nodup : (L.map (·.1)).Nodup
theorem ok_nil : Ok [] := ⟨List.Pairwise.nil, by simp⟩
theorem less_trans {a b c : En} (h1 : less a b) (h2 : less b c) : less a c := by unfold less at *; omega
theorem less_asym {a b : En} (h1 : less a b) (h2 : less b a) : False := by unfold less at *; omega
theorem less_total {a b : En} (h : ¬ less a b) (hne : a.1 ≠ b.1) : less b a := by unfold less at *; omega
theorem look_mem {L : List En} (h : (L.map (·.1)).Nodup) {k a : Int} : look L k = some a ↔ (k, a) ∈ L := by
  induction L with
  | nil => simp [look]
  | cons y r ih =>
    rw [List.map_cons, List.nodup_cons] at h
    obtain ⟨k0, a0⟩ := y
    unfold look at ih ⊢
    rw [List.find?_cons]
    by_cases hk : k0 = k
    · subst hk
      simp only [beq_self_eq_true, Option.map_some, Option.some.injEq, List.mem_cons, Prod.mk.injEq, true_and]
      constructor
      · intro e; exact .inl e.symm
      · rintro (e | e)
        · exact e.symm
        · exact absurd (List.mem_map.2 ⟨_, e, rfl⟩) h.1
    · have hk2 : (k0 == k) = false := by simpa using hk
      simp only [hk2, ih h.2, List.mem_cons, Prod.mk.injEq]
      constructor
      · intro e; exact .inr e
      · rintro (e | e)
        · exact absurd e.1.symm hk
        · exact e
theorem look_none {L : List En} {k : Int} : look L k = none ↔ k ∉ L.map (·.1) := by
  unfold look
  rw [Option.map_eq_none_iff, List.find?_eq_none]
  simp only [List.mem_map, not_exists, not_and]
  constructor
  · intro h p hp e; have := h p hp; simp [e] at this
  · intro h p hp e; exact h p hp (by simpa using e)
theorem mem_ins (x : En) : ∀ (L : List En) (z : En), z ∈ ins x L ↔ z = x ∨ z ∈ L
  | [], z => by simp [ins]
  | y :: r, z => by
    unfold ins
    split
    · simp
    · rw [List.mem_cons, mem_ins x r z]; simp only [List.mem_cons]; constructor
      · rintro (h | h | h) <;> simp [h]
      · rintro (h | h | h) <;> simp [h]
theorem ins_perm (x : En) : ∀ L : List En, (ins x L).Perm (x :: L)
  | [] => List.Perm.refl _
  | y :: r => by
    unfold ins
    split
    · exact List.Perm.refl _
    · exact ((ins_perm x r).cons y).trans (List.Perm.swap x y r)
theorem ins_sort {x : En} : ∀ {L : List En}, L.Pairwise less → (∀ y ∈ L, y.1 ≠ x.1) → (ins x L).Pairwise less
  | [], _, _ => by simp [ins]
  | y :: r, h, hn => by
    have h' := List.pairwise_cons.1 h
    unfold ins
    split
    · rename_i hl
      refine List.pairwise_cons.2 ⟨fun z hz => ?_, h⟩
      rcases List.mem_cons.1 hz with rfl | hz
      · exact hl
      · exact less_trans hl (h'.1 z hz)
    · rename_i hl
      refine List.pairwise_cons.2 ⟨fun z hz => ?_, ins_sort h'.2 (fun z hz => hn z (by simp [hz]))⟩
      rcases (mem_ins x r z).1 hz with rfl | hz
      · exact less_total hl (fun e => hn y (by simp) e.symm)
      · exact h'.1 z hz
theorem unset_ok {L : List En} (h : Ok L) (k : Int) : Ok (unset L k) :=
  ⟨List.Pairwise.sublist List.filter_sublist h.sort, List.Pairwise.sublist (List.Sublist.map _ List.filter_sublist) h.nodup⟩
theorem unset_key (L : List En) (k : Int) : ∀ y ∈ unset L k, y.1 ≠ k := by
  intro y hy
  have := (List.mem_filter.1 hy).2
  simpa using this
theorem set_ok {L : List En} (h : Ok L) (k a : Int) : Ok (set L k a) := by
  unfold set
  split
  · exact h
  · refine ⟨ins_sort (unset_ok h k).sort (unset_key L k), ?_⟩
    have hp := (ins_perm (k, a) (unset L k)).map (·.1)
    rw [hp.nodup_iff, List.map_cons, List.nodup_cons]
    refine ⟨?_, (unset_ok h k).nodup⟩
    intro hm
    obtain ⟨y, hy, hk⟩ := List.mem_map.1 hm
    exact unset_key L k y hy hk
theorem unset_none {L : List En} {k : Int} (h : look L k = none) : unset L k = L := by
  unfold unset
  rw [List.filter_eq_self]
  intro p hp
  have h1 := look_none.1 h
  simp only [bne_iff_ne, ne_eq]
  exact fun e => h1 (List.mem_map.2 ⟨p, hp, e⟩)
theorem unset_len {L : List En} (h : (L.map (·.1)).Nodup) (k : Int) : (unset L k).length + (if (look L k).isSome then 1 else 0) = L.length := by
  induction L with
  | nil => simp [unset, look]
  | cons y r ih =>
    rw [List.map_cons, List.nodup_cons] at h
    have i2 := ih h.2
    obtain ⟨k0, a0⟩ := y
    by_cases hk : k0 = k
    · subst hk
      have h1 : look r k0 = none := look_none.2 h.1
      have h2 := unset_none h1
      unfold unset look at *
      rw [List.filter_cons, List.find?_cons]
      simp [h2]
    · have hk2 : (k0 == k) = false := by simpa using hk
      have hk3 : (k0 != k) = true := by simpa using hk
      unfold unset look at *
      rw [List.filter_cons, List.find?_cons]
      simp only [hk2, hk3, if_true, List.length_cons]
      omega
theorem ins_len (x : En) (L : List En) : (ins x L).length = L.length + 1 := by rw [(ins_perm x L).length_eq]; rfl
theorem takeWhile_filter {L : List En} (h : L.Pairwise less) (now : Int) : due L now = L.filter (fun p => decide (p.2 ≤ now)) := by
  unfold due
  induction L with
  | nil => rfl
  | cons y r ih =>
    have h' := List.pairwise_cons.1 h
    by_cases hy : y.2 ≤ now
    · rw [List.takeWhile_cons_of_pos (by simpa using hy), List.filter_cons_of_pos (by simpa using hy), ih h'.2]
    · rw [List.takeWhile_cons_of_neg (by simpa using hy), List.filter_cons_of_neg (by simpa using hy)]
      symm
      rw [List.filter_eq_nil_iff]
      intro z hz
      have := h'.1 z hz
      unfold less at this
      simp
      omega
theorem dropWhile_filter {L : List En} (h : L.Pairwise less) (now : Int) : rest L now = L.filter (fun p => !decide (p.2 ≤ now)) := by
  unfold rest
  induction L with
  | nil => rfl
  | cons y r ih =>
    have h' := List.pairwise_cons.1 h
    by_cases hy : y.2 ≤ now
    · rw [List.dropWhile_cons_of_pos (by simpa using hy), List.filter_cons_of_neg (by simpa using hy), ih h'.2]
    · rw [List.dropWhile_cons_of_neg (by simpa using hy)]
      symm
      rw [List.filter_eq_self]
      intro z hz
      rcases List.mem_cons.1 hz with rfl | hz
      · simpa using hy
      · have := h'.1 z hz
        unfold less at this
        simp
        omega
theorem rest_ok {L : List En} (h : Ok L) (now : Int) : Ok (rest L now) := by
  rw [dropWhile_filter h.sort]
  exact ⟨List.Pairwise.sublist List.filter_sublist h.sort, List.Pairwise.sublist (List.Sublist.map _ List.filter_sublist) h.nodup⟩
/-- for which tick, or 0 -/
def atOf (L : List En) (k : Int) : Int := (look L k).getD 0
theorem atOf_mem {L : List En} (h : (L.map (·.1)).Nodup) {p : En} (hp : p ∈ L) : atOf L p.1 = p.2 := by
  unfold atOf
  rw [(look_mem h).2 hp]
  rfl
end P30
namespace St
variable {α : Type} {lt : α → α → Bool}
/-- where one more comes to stand -/
theorem merge_single (hw : Wo lt) (x : α) : ∀ acc : List α, Sorted lt acc → ∃ u v, acc = u ++ v ∧ merge lt acc [x] = u ++ x :: v ∧ (∀ z ∈ u, lt x z = false) ∧ (∀ z ∈ v, lt x z = true)
  | [], _ => ⟨[], [], rfl, by rw [merge_nil]; rfl, by simp, by simp⟩
  | y :: ys, h => by
    have h' := List.pairwise_cons.1 h
    cases hc : lt x y with
    | true =>
      refine ⟨[], y :: ys, rfl, by rw [merge_lt _ _ hc, merge_nil_right]; rfl, by simp, ?_⟩
      intro z hz
      rcases List.mem_cons.1 hz with rfl | hz
      · exact hc
      · cases hb : lt x z with
        | true => rfl
        | false => rw [hw.ntr x z y hb (h'.1 z hz)] at hc; cases hc
    | false =>
      obtain ⟨u, v, h1, h2, h3, h4⟩ := merge_single hw x ys h'.2
      refine ⟨y :: u, v, by rw [h1]; rfl, by rw [merge_ge _ _ hc, h2]; rfl, ?_, h4⟩
      intro z hz
      rcases List.mem_cons.1 hz with rfl | hz
      · exact hc
      · exact h3 z hz
/-- like ones keep their order -/
def Stab (lt : α → α → Bool) (S : α → α → Prop) (x y : α) : Prop := lt x y = true ∨ (lt y x = false ∧ S x y)
theorem isort_stable (hw : Wo lt) {S : α → α → Prop} (l : List α) (h : l.Pairwise S) : (isort lt l).Pairwise (Stab lt S) := by
  have key : ∀ (l acc : List α), l.Pairwise S → (∀ z ∈ acc, ∀ x ∈ l, S z x) → Sorted lt acc → acc.Pairwise (Stab lt S) → (l.foldl (fun acc x => merge lt acc [x]) acc).Pairwise (Stab lt S) := by
    intro l
    induction l with
    | nil => intro acc _ _ _ ha; exact ha
    | cons x l ih =>
      intro acc hl hz hs ha
      have hl' := List.pairwise_cons.1 hl
      rw [List.foldl_cons]
      obtain ⟨u, v, h1, h2, h3, h4⟩ := merge_single hw x acc hs
      refine ih _ hl'.2 ?_ (merge_sorted hw _ acc [x] (Nat.le_refl _) hs (by simp [Sorted])) ?_
      · intro z hz2 y hy
        rcases (mem_merge _ acc [x] (Nat.le_refl _) z).1 hz2 with h5 | h5
        · exact hz z h5 y (by simp [hy])
        · rw [List.mem_singleton] at h5; subst h5; exact hl'.1 y hy
      · rw [h2]
        rw [h1] at ha hz
        have ha' := List.pairwise_append.1 ha
        refine List.pairwise_append.2 ⟨ha'.1, List.pairwise_cons.2 ⟨fun z hz2 => .inl (h4 z hz2), ha'.2.1⟩, ?_⟩
        intro z hz2 y hy
        rcases List.mem_cons.1 hy with rfl | hy
        · exact .inr ⟨h3 z hz2, hz z (by simp [hz2]) y (by simp)⟩
        · exact ha'.2.2 z hz2 y hy
  exact key l [] h (by simp) (by simp [Sorted]) List.Pairwise.nil
/-- one order, one row -/
theorem eq_of_perm {R : α → α → Prop} (hR : ∀ x y, R x y → R y x → False) : ∀ (a b : List α), a.Perm b → a.Pairwise R → b.Pairwise R → a = b
  | [], b, h, _, _ => (List.perm_nil.1 h.symm).symm ▸ rfl
  | x :: a, [], h, _, _ => absurd (List.perm_nil.1 h) (by simp)
  | x :: a, y :: b, h, ha, hb => by
    have ha' := List.pairwise_cons.1 ha
    have hb' := List.pairwise_cons.1 hb
    have hxy : x = y := by
      have h1 : x ∈ y :: b := h.subset (by simp)
      have h2 : y ∈ x :: a := h.symm.subset (by simp)
      rcases List.mem_cons.1 h1 with e | h1
      · exact e
      · rcases List.mem_cons.1 h2 with e | h2
        · exact e.symm
        · exact (hR x y (ha'.1 y h2) (hb'.1 x h1)).elim
    subst hxy
    rw [eq_of_perm hR a b ((List.perm_cons x).1 h) ha'.2 hb'.2]
end St
namespace P30
/-- less, by their ticks -/
def ltAt (L : List En) (x y : Int) : Bool := decide (atOf L x < atOf L y)
theorem wo_at (L : List En) : St.Wo (ltAt L) where
  asym x y h := by unfold ltAt at *; simp at *; omega
  ntr x y z h1 h2 := by unfold ltAt at *; simp at *; omega
/-- who is due, by the clock's own way: all keys in order, those that are due, sorted by their ticks -/
theorem due_sorted {L : List En} (h : Ok L) (now : Int) (ks : List Int) (hk : ks.Perm (L.map (·.1))) (hs : ks.Pairwise (· < ·)) :
    St.isort (ltAt L) (ks.filter (fun k => decide (atOf L k ≤ now))) = (due L now).map (·.1) := by
  refine St.eq_of_perm (R := St.Stab (ltAt L) (· < ·)) ?_ _ _ ?_ (St.isort_stable (wo_at L) _ (List.Pairwise.sublist List.filter_sublist hs)) ?_
  · intro x y h1 h2
    unfold St.Stab ltAt at *
    simp at *
    omega
  · refine (St.isort_perm _).trans ?_
    refine (hk.filter _).trans ?_
    rw [takeWhile_filter h.sort]
    have : ∀ M : List En, (∀ p ∈ M, p ∈ L) → (M.map (·.1)).filter (fun k => decide (atOf L k ≤ now)) = (M.filter (fun p => decide (p.2 ≤ now))).map (·.1) := by
      intro M
      induction M with
      | nil => intro _; rfl
      | cons p M ih =>
        intro hM
        have e := atOf_mem h.nodup (hM p (by simp))
        rw [List.map_cons, List.filter_cons, List.filter_cons, e, ih (fun q hq => hM q (by simp [hq]))]
        split <;> rfl
    rw [this L (fun p hp => hp)]
  · have hd : (due L now).Pairwise less := List.Pairwise.sublist (List.takeWhile_sublist _) h.sort
    rw [List.pairwise_map]
    refine List.Pairwise.imp_of_mem ?_ hd
    intro a b ha hb hab
    have ea := atOf_mem h.nodup ((List.takeWhile_sublist _).subset ha)
    have eb := atOf_mem h.nodup ((List.takeWhile_sublist _).subset hb)
    unfold St.Stab ltAt
    rw [ea, eb]
    unfold less at hab
    simp
    omega
end P30
end Go.Proofs.Ytbnheebblicgkaa
