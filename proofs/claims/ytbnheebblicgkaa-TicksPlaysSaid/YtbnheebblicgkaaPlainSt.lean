/- The plain theory of a stable sort: merging, inserting, and what two runs become. -/
import Derived.Test.YtbnheebblicgkaaLib
import Derived.Sort.Defs
import Derived.Sort.WalkA
namespace Go.Proofs.Ytbnheebblicgkaa
set_option linter.unusedVariables false
set_option linter.unusedSimpArgs false
namespace St
variable {α : Type}
/-- two runs as one: the first one's elements stand ahead of the second one's that are not less -/
def merge (lt : α → α → Bool) : List α → List α → List α
  | [], ys => ys
  | x :: xs, [] => x :: xs
  | x :: xs, y :: ys => if lt y x then y :: merge lt (x :: xs) ys else x :: merge lt xs (y :: ys)
termination_by xs ys => xs.length + ys.length
/-- a weak order -/
structure Wo (lt : α → α → Bool) : Prop where
  asym : ∀ x y, lt x y = true → lt y x = false
  ntr : ∀ x y z, lt x y = false → lt y z = false → lt x z = false
def Sorted (lt : α → α → Bool) (l : List α) : Prop := l.Pairwise (fun x y => lt y x = false)
variable {lt : α → α → Bool}
theorem merge_nil (ys : List α) : merge lt [] ys = ys := by unfold merge; rfl
theorem merge_nil_right (xs : List α) : merge lt xs [] = xs := by cases xs <;> unfold merge <;> rfl
theorem merge_lt {x y : α} (xs ys : List α) (h : lt y x = true) : merge lt (x :: xs) (y :: ys) = y :: merge lt (x :: xs) ys := by
  rw [merge, if_pos h]
theorem merge_ge {x y : α} (xs ys : List α) (h : lt y x = false) : merge lt (x :: xs) (y :: ys) = x :: merge lt xs (y :: ys) := by
  rw [merge, if_neg (by simp [h])]
theorem merge_split : ∀ (n : Nat) (u1 u2 v1 v2 : List α), u1.length + v1.length + u2.length + v2.length ≤ n → (∀ x ∈ u1, ∀ y ∈ v2, lt y x = false) → (∀ x ∈ u2, ∀ y ∈ v1, lt y x = true) →
    merge lt (u1 ++ u2) (v1 ++ v2) = merge lt u1 v1 ++ merge lt u2 v2
  | n, [], u2, [], v2, _, _, _ => by rw [merge_nil]; rfl
  | n, [], [], y :: v1, v2, _, _, _ => by rw [List.append_nil, merge_nil, merge_nil, merge_nil]
  | 0, [], x :: u2, y :: v1, v2, h, _, _ => by simp at h
  | n + 1, [], x :: u2, y :: v1, v2, h, h1, h2 => by
    have ih := merge_split n [] (x :: u2) v1 v2 (by simp at h ⊢; omega) (fun z hz => by simp at hz) (fun z hz w hw => h2 z hz w (by simp [hw]))
    rw [List.nil_append] at ih
    rw [List.nil_append, List.cons_append, merge_lt _ _ (h2 x (by simp) y (by simp)), ih, merge_nil, merge_nil]
    rfl
  | n, x :: u1, u2, [], [], _, _, _ => by rw [List.append_nil, merge_nil_right, merge_nil_right, merge_nil_right]
  | 0, x :: u1, u2, [], y :: v2, h, _, _ => by simp at h
  | n + 1, x :: u1, u2, [], y :: v2, h, h1, h2 => by
    have ih := merge_split n u1 u2 [] (y :: v2) (by simp at h ⊢; omega) (fun z hz w hw => h1 z (by simp [hz]) w hw) (fun z hz w hw => by simp at hw)
    rw [List.nil_append] at ih
    rw [List.nil_append, List.cons_append, merge_ge _ _ (h1 x (by simp) y (by simp)), ih, merge_nil_right, merge_nil_right]
    rfl
  | 0, x :: u1, u2, y :: v1, v2, h, _, _ => by simp at h
  | n + 1, x :: u1, u2, y :: v1, v2, h, h1, h2 => by
    cases hc : lt y x with
    | true =>
      have ih := merge_split n (x :: u1) u2 v1 v2 (by simp at h ⊢; omega) h1 (fun z hz w hw => h2 z hz w (by simp [hw]))
      rw [List.cons_append] at ih
      rw [List.cons_append, List.cons_append, merge_lt _ _ hc, merge_lt _ _ hc, ih]
      rfl
    | false =>
      have ih := merge_split n u1 u2 (y :: v1) v2 (by simp at h ⊢; omega) (fun z hz => h1 z (by simp [hz])) h2
      rw [List.cons_append] at ih
      rw [List.cons_append, List.cons_append, merge_ge _ _ hc, merge_ge _ _ hc, ih]
      rfl
theorem merge_cut {u1 u2 v1 v2 : List α} (h1 : ∀ x ∈ u1, ∀ y ∈ v2, lt y x = false) (h2 : ∀ x ∈ u2, ∀ y ∈ v1, lt y x = true) : merge lt (u1 ++ u2) (v1 ++ v2) = merge lt u1 v1 ++ merge lt u2 v2 :=
  merge_split _ u1 u2 v1 v2 (Nat.le_refl _) h1 h2
theorem merge_after {u v : List α} (h : ∀ x ∈ u, ∀ y ∈ v, lt y x = false) : merge lt u v = u ++ v := by
  have := merge_cut (lt := lt) (u1 := u) (u2 := []) (v1 := []) (v2 := v) h (by simp)
  rw [List.append_nil, List.nil_append, merge_nil_right, merge_nil] at this
  exact this
theorem merge_ahead {u v : List α} (h : ∀ x ∈ u, ∀ y ∈ v, lt y x = true) : merge lt u v = v ++ u := by
  have := merge_cut (lt := lt) (u1 := []) (u2 := u) (v1 := v) (v2 := []) (by simp) h
  rw [List.append_nil, List.nil_append, merge_nil_right, merge_nil] at this
  exact this
theorem merge_assoc (hw : Wo lt) : ∀ (n : Nat) (a b c : List α), a.length + b.length + c.length ≤ n → merge lt (merge lt a b) c = merge lt a (merge lt b c)
  | n, [], b, c, _ => by rw [merge_nil, merge_nil]
  | n, x :: a, [], c, _ => by rw [merge_nil_right, merge_nil]
  | n, x :: a, y :: b, [], _ => by rw [merge_nil_right, merge_nil_right]
  | 0, x :: a, y :: b, z :: c, h => by simp at h
  | n + 1, x :: a, y :: b, z :: c, h => by
    have i1 := merge_assoc hw n (x :: a) (y :: b) c (by simp at h ⊢; omega)
    have i2 := merge_assoc hw n (x :: a) b (z :: c) (by simp at h ⊢; omega)
    have i3 := merge_assoc hw n a (y :: b) (z :: c) (by simp at h ⊢; omega)
    cases h1 : lt y x with
    | true =>
      rw [merge_lt _ _ h1] at i1 ⊢
      cases h2 : lt z y with
      | true =>
        have h3 : lt z x = true := by
          cases h3 : lt z x with
          | true => rfl
          | false => have := hw.ntr z x y h3 (hw.asym _ _ h1); rw [this] at h2; cases h2
        rw [merge_lt _ _ h2, merge_lt _ _ h2, merge_lt _ _ h3, i1]
      | false => rw [merge_ge _ _ h2, merge_ge _ _ h2, merge_lt _ _ h1, i2]
    | false =>
      rw [merge_ge _ _ h1] at i1 ⊢
      cases h2 : lt z y with
      | true =>
        cases h3 : lt z x with
        | true => rw [merge_lt _ _ h3, merge_lt _ _ h2, merge_lt _ _ h3, i1]
        | false => rw [merge_ge _ _ h3, i3, merge_lt _ _ h2, merge_ge _ _ h3]
      | false =>
        have h3 : lt z x = false := hw.ntr z y x h2 h1
        rw [merge_ge _ _ h3, i3, merge_ge _ _ h2, merge_ge _ _ h1]
theorem mem_merge : ∀ (n : Nat) (a b : List α), a.length + b.length ≤ n → ∀ z, z ∈ merge lt a b ↔ z ∈ a ∨ z ∈ b
  | n, [], b, _, z => by rw [merge_nil]; simp
  | n, x :: a, [], _, z => by rw [merge_nil_right]; simp
  | 0, x :: a, y :: b, h, z => by simp at h
  | n + 1, x :: a, y :: b, h, z => by
    cases h1 : lt y x with
    | true =>
      have ih := mem_merge n (x :: a) b (by simp at h ⊢; omega) z
      rw [merge_lt _ _ h1, List.mem_cons, ih]
      simp only [List.mem_cons]
      constructor
      · rintro (h | (h | h) | h) <;> simp [h]
      · rintro ((h | h) | h | h) <;> simp [h]
    | false =>
      have ih := mem_merge n a (y :: b) (by simp at h ⊢; omega) z
      rw [merge_ge _ _ h1, List.mem_cons, ih]
      simp only [List.mem_cons]
      constructor
      · rintro (h | h | h | h) <;> simp [h]
      · rintro ((h | h) | h | h) <;> simp [h]
theorem merge_len : ∀ (n : Nat) (a b : List α), a.length + b.length ≤ n → (merge lt a b).length = a.length + b.length
  | n, [], b, _ => by rw [merge_nil]; simp
  | n, x :: a, [], _ => by rw [merge_nil_right]; simp
  | 0, x :: a, y :: b, h => by simp at h
  | n + 1, x :: a, y :: b, h => by
    cases h1 : lt y x with
    | true => rw [merge_lt _ _ h1, List.length_cons, merge_len n (x :: a) b (by simp at h ⊢; omega)]; simp; omega
    | false => rw [merge_ge _ _ h1, List.length_cons, merge_len n a (y :: b) (by simp at h ⊢; omega)]; simp; omega
theorem merge_length (a b : List α) : (merge lt a b).length = a.length + b.length := merge_len _ a b (Nat.le_refl _)
theorem merge_perm : ∀ (n : Nat) (a b : List α), a.length + b.length ≤ n → (merge lt a b).Perm (a ++ b)
  | n, [], b, _ => by rw [merge_nil]; simp
  | n, x :: a, [], _ => by rw [merge_nil_right]; simp
  | 0, x :: a, y :: b, h => by simp at h
  | n + 1, x :: a, y :: b, h => by
    cases h1 : lt y x with
    | true =>
      rw [merge_lt _ _ h1]
      exact ((merge_perm n (x :: a) b (by simp at h ⊢; omega)).cons y).trans List.perm_middle.symm
    | false =>
      rw [merge_ge _ _ h1]
      exact (merge_perm n a (y :: b) (by simp at h ⊢; omega)).cons x
theorem merge_sorted (hw : Wo lt) : ∀ (n : Nat) (a b : List α), a.length + b.length ≤ n → Sorted lt a → Sorted lt b → Sorted lt (merge lt a b)
  | n, [], b, _, _, hb => by rw [merge_nil]; exact hb
  | n, x :: a, [], _, ha, _ => by rw [merge_nil_right]; exact ha
  | 0, x :: a, y :: b, h, _, _ => by simp at h
  | n + 1, x :: a, y :: b, h, ha, hb => by
    have ha' := List.pairwise_cons.1 ha
    have hb' := List.pairwise_cons.1 hb
    cases h1 : lt y x with
    | true =>
      rw [merge_lt _ _ h1]
      refine List.pairwise_cons.2 ⟨fun z hz => ?_, merge_sorted hw n (x :: a) b (by simp at h ⊢; omega) ha hb'.2⟩
      rcases (mem_merge _ (x :: a) b (Nat.le_refl _) z).1 hz with hz | hz
      · rcases List.mem_cons.1 hz with rfl | hz
        · exact hw.asym _ _ h1
        · exact hw.ntr z x y (ha'.1 z hz) (hw.asym _ _ h1)
      · exact hb'.1 z hz
    | false =>
      rw [merge_ge _ _ h1]
      refine List.pairwise_cons.2 ⟨fun z hz => ?_, merge_sorted hw n a (y :: b) (by simp at h ⊢; omega) ha'.2 hb⟩
      rcases (mem_merge _ a (y :: b) (Nat.le_refl _) z).1 hz with hz | hz
      · exact ha'.1 z hz
      · rcases List.mem_cons.1 hz with rfl | hz
        · exact h1
        · exact hw.ntr z y x (hb'.1 z hz) h1
/-- the stable sort -/
def isort (lt : α → α → Bool) (l : List α) : List α := l.foldl (fun acc x => merge lt acc [x]) []
theorem isort_foldl (hw : Wo lt) : ∀ (l acc : List α), l.foldl (fun acc x => merge lt acc [x]) acc = merge lt acc (isort lt l)
  | [], acc => by rw [List.foldl_nil]; show acc = merge lt acc []; rw [merge_nil_right]
  | x :: l, acc => by
    rw [List.foldl_cons, isort_foldl hw l, merge_assoc hw _ acc [x] (isort lt l) (Nat.le_refl _)]
    congr 1
    unfold isort
    rw [List.foldl_cons, merge_nil]
    exact (isort_foldl hw l [x]).symm
theorem isort_append (hw : Wo lt) (a b : List α) : isort lt (a ++ b) = merge lt (isort lt a) (isort lt b) := by
  conv => lhs; unfold isort
  rw [List.foldl_append]
  exact isort_foldl hw b _
theorem isort_snoc (l : List α) (x : α) : isort lt (l ++ [x]) = merge lt (isort lt l) [x] := by
  unfold isort
  rw [List.foldl_append]
  rfl
theorem isort_nil : isort lt ([] : List α) = [] := rfl
theorem isort_length (l : List α) : (isort lt l).length = l.length := by
  have : ∀ (l acc : List α), (l.foldl (fun acc x => merge lt acc [x]) acc).length = acc.length + l.length := by
    intro l
    induction l with
    | nil => intro acc; simp
    | cons x l ih => intro acc; rw [List.foldl_cons, ih, merge_length]; simp; omega
  unfold isort
  rw [this]
  simp
theorem isort_perm (l : List α) : (isort lt l).Perm l := by
  have : ∀ (l acc : List α), (l.foldl (fun acc x => merge lt acc [x]) acc).Perm (acc ++ l) := by
    intro l
    induction l with
    | nil => intro acc; simp
    | cons x l ih =>
      intro acc
      rw [List.foldl_cons]
      refine (ih _).trans ?_
      have h1 := (merge_perm (lt := lt) _ acc [x] (Nat.le_refl _)).append_right l
      simpa using h1
  have h := this l []
  simpa [isort] using h
theorem isort_sorted (hw : Wo lt) (l : List α) : Sorted lt (isort lt l) := by
  have : ∀ (l acc : List α), Sorted lt acc → Sorted lt (l.foldl (fun acc x => merge lt acc [x]) acc) := by
    intro l
    induction l with
    | nil => intro acc h; exact h
    | cons x l ih =>
      intro acc h
      rw [List.foldl_cons]
      exact ih _ (merge_sorted hw _ acc [x] (Nat.le_refl _) h (by simp [Sorted]))
  exact this l [] (by simp [Sorted])
/-- in a sorted run: what stands ahead of one that is not less -/
theorem sorted_get {l : List α} (h : Sorted lt l) {i j : Nat} {x y : α} (hij : i < j) (hx : l[i]? = some x) (hy : l[j]? = some y) : lt y x = false := by
  obtain ⟨hi, rfl⟩ := List.getElem?_eq_some_iff.1 hx
  obtain ⟨hj, rfl⟩ := List.getElem?_eq_some_iff.1 hy
  exact List.pairwise_iff_getElem.1 h i j hi hj hij
theorem sorted_take {l : List α} (h : Sorted lt l) (k : Nat) : Sorted lt (l.take k) := List.Pairwise.sublist (List.take_sublist _ _) h
theorem sorted_drop {l : List α} (h : Sorted lt l) (k : Nat) : Sorted lt (l.drop k) := List.Pairwise.sublist (List.drop_sublist _ _) h
/-- in a sorted run all up to one that is less than x are less than x -/
theorem less_take (hw : Wo lt) {l : List α} (h : Sorted lt l) {k : Nat} {x : α} (hk : k = 0 ∨ ∃ z, l[k - 1]? = some z ∧ lt z x = true) : ∀ y ∈ l.take k, lt y x = true := by
  intro y hy
  obtain ⟨i, hi, rfl⟩ := List.mem_iff_getElem.1 hy
  rw [List.length_take] at hi
  rcases hk with rfl | ⟨z, hz, hzx⟩
  · omega
  · rw [List.getElem_take]
    rcases Nat.lt_or_ge i (k - 1) with hlt | hge
    · have h1 := sorted_get h hlt (List.getElem?_eq_getElem (by omega)) hz
      cases h2 : lt l[i] x with
      | true => rfl
      | false => rw [hw.ntr z l[i] x h1 h2] at hzx; cases hzx
    · obtain rfl : i = k - 1 := by omega
      rw [List.getElem?_eq_getElem (by omega)] at hz
      cases hz
      exact hzx
theorem ge_drop (hw : Wo lt) {l : List α} (h : Sorted lt l) {k : Nat} {x : α} (hk : l.length ≤ k ∨ ∃ z, l[k]? = some z ∧ lt z x = false) : ∀ y ∈ l.drop k, lt y x = false := by
  intro y hy
  obtain ⟨i, hi, rfl⟩ := List.mem_iff_getElem.1 hy
  rw [List.length_drop] at hi
  rcases hk with hk | ⟨z, hz, hzx⟩
  · omega
  · rw [List.getElem_drop]
    rcases Nat.eq_zero_or_pos i with rfl | hp
    · have hz2 : l[k + 0] = z := by
        rw [List.getElem?_eq_getElem (by omega)] at hz
        exact Option.some.inj hz
      rw [hz2]; exact hzx
    · have h1 := sorted_get h (i := k) (j := k + i) (by omega) hz (List.getElem?_eq_getElem (by omega))
      exact hw.ntr _ z x h1 hzx
/-- up to one that x is not less than, x is less than none -/
theorem nless_take (hw : Wo lt) {l : List α} (h : Sorted lt l) {k : Nat} {x : α} (hk : k = 0 ∨ ∃ z, l[k - 1]? = some z ∧ lt x z = false) : ∀ y ∈ l.take k, lt x y = false := by
  intro y hy
  obtain ⟨i, hi, rfl⟩ := List.mem_iff_getElem.1 hy
  rw [List.length_take] at hi
  rcases hk with rfl | ⟨z, hz, hzx⟩
  · omega
  · rw [List.getElem_take]
    rcases Nat.lt_or_ge i (k - 1) with hlt | hge
    · exact hw.ntr x z l[i] hzx (sorted_get h hlt (List.getElem?_eq_getElem (by omega)) hz)
    · obtain rfl : i = k - 1 := by omega
      rw [List.getElem?_eq_getElem (by omega)] at hz
      cases hz
      exact hzx
theorem gt_drop (hw : Wo lt) {l : List α} (h : Sorted lt l) {k : Nat} {x : α} (hk : l.length ≤ k ∨ ∃ z, l[k]? = some z ∧ lt x z = true) : ∀ y ∈ l.drop k, lt x y = true := by
  intro y hy
  obtain ⟨i, hi, rfl⟩ := List.mem_iff_getElem.1 hy
  rw [List.length_drop] at hi
  rcases hk with hk | ⟨z, hz, hzx⟩
  · omega
  · rw [List.getElem_drop]
    rcases Nat.eq_zero_or_pos i with rfl | hp
    · have hz2 : l[k + 0] = z := by
        rw [List.getElem?_eq_getElem (by omega)] at hz
        exact Option.some.inj hz
      rw [hz2]; exact hzx
    · have h1 := sorted_get h (i := k) (j := k + i) (by omega) hz (List.getElem?_eq_getElem (by omega))
      cases h2 : lt x l[k + i] with
      | true => rfl
      | false => rw [hw.ntr x _ z h2 h1] at hzx; cases hzx
/-- one element ahead of a sorted run -/
theorem merge_one_left (hw : Wo lt) {l : List α} (h : Sorted lt l) {k : Nat} {x : α} (h1 : k = 0 ∨ ∃ z, l[k - 1]? = some z ∧ lt z x = true) (h2 : l.length ≤ k ∨ ∃ z, l[k]? = some z ∧ lt z x = false) :
    merge lt [x] l = l.take k ++ x :: l.drop k := by
  have a := less_take hw h h1
  have b := ge_drop hw h h2
  conv => lhs; rw [← List.take_append_drop k l]
  have e := merge_cut (lt := lt) (u1 := []) (u2 := [x]) (v1 := l.take k) (v2 := l.drop k) (by simp) (by simpa using a)
  rw [List.nil_append, merge_nil] at e
  rw [e, merge_after (u := [x]) (v := l.drop k) (by simpa using b)]
  rfl
/-- one element behind a sorted run -/
theorem merge_one_right (hw : Wo lt) {l : List α} (h : Sorted lt l) {k : Nat} {y : α} (h1 : k = 0 ∨ ∃ z, l[k - 1]? = some z ∧ lt y z = false) (h2 : l.length ≤ k ∨ ∃ z, l[k]? = some z ∧ lt y z = true) :
    merge lt l [y] = l.take k ++ y :: l.drop k := by
  have a := nless_take hw h h1
  have b := gt_drop hw h h2
  conv => lhs; rw [← List.take_append_drop k l]
  have e := merge_cut (lt := lt) (u1 := l.take k) (u2 := l.drop k) (v1 := [y]) (v2 := []) (by simp) (by simpa using b)
  rw [List.append_nil] at e
  rw [e, merge_after (u := l.take k) (v := [y]) (by simpa using a), merge_nil_right]
  simp
/-- two sorted runs, cut where the second one's are not less than the first one's -/
theorem merge_at (hw : Wo lt) {l1 l2 : List α} (h1 : Sorted lt l1) (h2 : Sorted lt l2) (s1 s2 : Nat) (hs1 : s1 ≤ l1.length) (hs2 : s2 ≤ l2.length)
    (H1 : s1 = 0 ∨ l2.length ≤ s2 ∨ ∃ x y, l1[s1 - 1]? = some x ∧ l2[s2]? = some y ∧ lt y x = false) (H2 : l1.length ≤ s1 ∨ s2 = 0 ∨ ∃ x y, l1[s1]? = some x ∧ l2[s2 - 1]? = some y ∧ lt y x = true) :
    merge lt l1 l2 = merge lt (l1.take s1) (l2.take s2) ++ merge lt (l1.drop s1) (l2.drop s2) := by
  conv => lhs; rw [← List.take_append_drop s1 l1, ← List.take_append_drop s2 l2]
  refine merge_cut ?_ ?_
  · intro a ha c hc
    rcases H1 with H1 | H1 | ⟨x, y, hx, hy, hyx⟩
    · subst H1; simp at ha
    · rw [List.drop_eq_nil_of_le H1] at hc; simp at hc
    · obtain ⟨i, hi, rfl⟩ := List.mem_iff_getElem.1 ha
      obtain ⟨j, hj, rfl⟩ := List.mem_iff_getElem.1 hc
      rw [List.length_take] at hi
      rw [List.length_drop] at hj
      rw [List.getElem_take, List.getElem_drop]
      have e1 : lt x l1[i] = false := by
        rcases Nat.lt_or_ge i (s1 - 1) with h | h
        · exact sorted_get h1 h (List.getElem?_eq_getElem (by omega)) hx
        · obtain rfl : i = s1 - 1 := by omega
          rw [List.getElem?_eq_getElem (by omega)] at hx
          cases hx
          cases hb : lt l1[s1 - 1] l1[s1 - 1] with
          | false => rfl
          | true => have := hw.asym _ _ hb; rw [hb] at this; cases this
      have e2 : lt l2[s2 + j] y = false := by
        rcases Nat.eq_zero_or_pos j with h | h
        · subst h
          rw [List.getElem?_eq_getElem (by omega)] at hy
          cases hy
          cases hb : lt l2[s2] l2[s2] with
          | false => simp [hb]
          | true => have := hw.asym _ _ hb; rw [hb] at this; cases this
        · exact sorted_get h2 (i := s2) (j := s2 + j) (by omega) hy (List.getElem?_eq_getElem (by omega))
      exact hw.ntr _ x _ (hw.ntr _ y _ e2 hyx) e1
  · intro a ha c hc
    rcases H2 with H2 | H2 | ⟨x, y, hx, hy, hyx⟩
    · rw [List.drop_eq_nil_of_le H2] at ha; simp at ha
    · subst H2; simp at hc
    · obtain ⟨i, hi, rfl⟩ := List.mem_iff_getElem.1 ha
      obtain ⟨j, hj, rfl⟩ := List.mem_iff_getElem.1 hc
      rw [List.length_drop] at hi
      rw [List.length_take] at hj
      rw [List.getElem_drop, List.getElem_take]
      have e1 : lt l1[s1 + i] x = false := by
        rcases Nat.eq_zero_or_pos i with h | h
        · subst h
          rw [List.getElem?_eq_getElem (by omega)] at hx
          cases hx
          cases hb : lt l1[s1] l1[s1] with
          | false => simp [hb]
          | true => have := hw.asym _ _ hb; rw [hb] at this; cases this
        · exact sorted_get h1 (i := s1) (j := s1 + i) (by omega) hx (List.getElem?_eq_getElem (by omega))
      have e2 : lt y l2[j] = false := by
        rcases Nat.lt_or_ge j (s2 - 1) with h | h
        · exact sorted_get h2 h (List.getElem?_eq_getElem (by omega)) hy
        · obtain rfl : j = s2 - 1 := by omega
          rw [List.getElem?_eq_getElem (by omega)] at hy
          cases hy
          cases hb : lt l2[s2 - 1] l2[s2 - 1] with
          | false => rfl
          | true => have := hw.asym _ _ hb; rw [hb] at this; cases this
      cases hb : lt l2[j] l1[s1 + i] with
      | true => rfl
      | false => rw [hw.ntr y l2[j] x e2 (hw.ntr _ _ _ hb e1)] at hyx; cases hyx
end St
end Go.Proofs.Ytbnheebblicgkaa
