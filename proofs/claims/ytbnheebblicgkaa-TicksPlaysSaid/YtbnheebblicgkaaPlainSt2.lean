/- The plain theory of a stable sort: rows, and exchanges in them. -/
import Derived.Test.YtbnheebblicgkaaPlainSt
namespace Go.Proofs.Ytbnheebblicgkaa
set_option linter.unusedVariables false
set_option linter.unusedSimpArgs false
namespace St
open Go.Sort
variable {α : Type} [Inhabited α]
theorem get_list (d : Array α) (k : Nat) (x : α) (h : d.toList[k]? = some x) : d[k]! = x := by
  rw [Array.getElem?_toList] at h
  rw [getElem!_def, h]
theorem swp_toList (d : Array α) (i j : Nat) : (swp d i j).toList = (d.toList.set i d[j]!).set j d[i]! := by
  simp [swp, Array.toList_setIfInBounds]
theorem set_at {α : Type} (u : List α) (c e : α) (r : List α) : (u ++ c :: r).set u.length e = u ++ e :: r := by
  induction u with
  | nil => rfl
  | cons a u ih => simp only [List.cons_append, List.length_cons, List.set_cons_succ, ih]
theorem get_at {α : Type} (u : List α) (c : α) (r : List α) : (u ++ c :: r)[u.length]? = some c := by
  rw [List.getElem?_append_right (Nat.le_refl _), Nat.sub_self]; rfl
theorem swp_list (d : Array α) (u v z : List α) (c e : α) (i j : Nat) (hd : d.toList = u ++ c :: (v ++ e :: z)) (hi : i = u.length) (hj : j = u.length + 1 + v.length) :
    (swp d i j).toList = u ++ e :: (v ++ c :: z) := by
  subst hi
  have hd2 : d.toList = (u ++ c :: v) ++ e :: z := by rw [hd]; simp
  have hj2 : j = (u ++ c :: v).length := by rw [hj]; simp; omega
  have h1 : d[u.length]! = c := get_list d _ _ (by rw [hd]; exact get_at _ _ _)
  have h2 : d[j]! = e := get_list d _ _ (by rw [hd2, hj2]; exact get_at _ _ _)
  rw [swp_toList, h1, h2, hd, set_at]
  have e1 : u ++ e :: (v ++ e :: z) = (u ++ e :: v) ++ e :: z := by simp
  have e2 : j = (u ++ e :: v).length := by rw [hj]; simp; omega
  rw [e1, e2, set_at]
  simp
theorem swp_list' (d : Array α) (u v z : List α) (c e : α) (i j : Nat) (hd : d.toList = u ++ c :: (v ++ e :: z)) (hi : i = u.length) (hj : j = u.length + 1 + v.length) :
    (swp d j i).toList = u ++ e :: (v ++ c :: z) := by
  subst hi
  have hd2 : d.toList = (u ++ c :: v) ++ e :: z := by rw [hd]; simp
  have hj2 : j = (u ++ c :: v).length := by rw [hj]; simp; omega
  have h1 : d[u.length]! = c := get_list d _ _ (by rw [hd]; exact get_at _ _ _)
  have h2 : d[j]! = e := get_list d _ _ (by rw [hd2, hj2]; exact get_at _ _ _)
  rw [swp_toList, h1, h2, hd2, hj2, set_at]
  have e1 : (u ++ c :: v) ++ c :: z = u ++ c :: (v ++ c :: z) := by simp
  rw [e1, set_at]
variable {lt : α → α → Bool}
theorem insInner_list (hw : Wo lt) (p : List α) (x : α) : ∀ (n : Nat) (acc r : List α) (d : Array α), acc.length = n → d.toList = p ++ acc ++ x :: r → Sorted lt acc →
    (insInner lt p.length (p.length + n) d).toList = p ++ merge lt acc [x] ++ r
  | 0, acc, r, d, hn, hd, hs => by
    have h0 := List.eq_nil_of_length_eq_zero hn
    subst h0
    rw [merge_nil]
    have h1 : insInner lt p.length (p.length + 0) d = d := by
      rw [Nat.add_zero]
      cases hp : p.length with
      | zero => rw [insInner]
      | succ k => rw [insInner, if_neg (by simp)]
    rw [h1, hd]
    simp
  | n + 1, acc, r, d, hn, hd, hs => by
    obtain ⟨acc', y, rfl⟩ : ∃ a y, acc = a ++ [y] := ⟨acc.dropLast, acc.getLast (by intro e; simp [e] at hn), (List.dropLast_concat_getLast _).symm⟩
    rw [List.length_append, List.length_singleton] at hn
    have hn' : acc'.length = n := by omega
    have hd2 : d.toList = (p ++ acc') ++ y :: ([] ++ x :: r) := by rw [hd]; simp
    have hl : (p ++ acc').length = p.length + n := by rw [List.length_append, hn']
    have g1 : d[p.length + n]! = y := get_list d _ _ (by rw [hd2, ← hl]; exact get_at _ _ _)
    have g2 : d[p.length + n + 1]! = x := get_list d _ _ (by
      rw [hd, show p.length + n + 1 = (p ++ (acc' ++ [y])).length from by simp; omega]; exact get_at _ _ _)
    rw [show p.length + (n + 1) = p.length + n + 1 from by omega, insInner, g1, g2]
    have hs' : Sorted lt acc' := List.Pairwise.sublist (List.sublist_append_left _ _) hs
    cases hc : lt x y with
    | true =>
      rw [if_pos (by simp; omega)]
      have h3 := swp_list' d (p ++ acc') [] r y x (p.length + n) (p.length + n + 1) hd2 hl.symm (by rw [hl]; rfl)
      have ih := insInner_list hw p x n acc' (y :: r) (swp d (p.length + n + 1) (p.length + n)) hn' (by rw [h3]; simp) hs'
      rw [ih]
      have e := merge_cut (lt := lt) (u1 := acc') (u2 := [y]) (v1 := [x]) (v2 := []) (by simp) (by simpa using hc)
      rw [List.append_nil, merge_nil_right] at e
      rw [e]
      simp
    | false =>
      rw [if_neg (by simp), hd]
      rw [merge_after (u := acc' ++ [y]) (v := [x])]
      · simp
      · intro z hz w hw2
        rw [List.mem_singleton] at hw2
        subst hw2
        rcases List.mem_append.1 hz with hz | hz
        · have h5 : lt y z = false := by
            have := List.pairwise_append.1 hs
            exact this.2.2 z hz y (by simp)
          exact hw.ntr w y z hc h5
        · rw [List.mem_singleton] at hz; subst hz; exact hc
theorem insOuter_list (hw : Wo lt) (p q : List α) : ∀ (n : Nat) (done todo : List α) (d : Array α), todo.length = n → d.toList = p ++ isort lt done ++ todo ++ q →
    (insOuter lt p.length (p.length + done.length + n) (p.length + done.length) d).toList = p ++ isort lt (done ++ todo) ++ q
  | 0, done, todo, d, hn, hd => by
    have h0 := List.eq_nil_of_length_eq_zero hn
    subst h0
    rw [insOuter, if_neg (by omega), hd]
    simp
  | n + 1, done, todo, d, hn, hd => by
    cases todo with
    | nil => simp at hn
    | cons x todo =>
      have h1 := insInner_list hw p x done.length (isort lt done) (todo ++ q) d (isort_length _) (by rw [hd]; simp) (isort_sorted hw _)
      have ih := insOuter_list hw p q n (done ++ [x]) todo (insInner lt p.length (p.length + done.length) d) (by simpa using hn) (by rw [h1, isort_snoc]; simp)
      rw [insOuter, if_pos (by omega)]
      rw [List.length_append, List.length_singleton] at ih
      rw [show p.length + done.length + (n + 1) = p.length + (done.length + 1) + n from by omega, show p.length + done.length + 1 = p.length + (done.length + 1) from by omega, ih]
      simp
theorem insertion_list (hw : Wo lt) (d : Array α) (p l q : List α) (a b : Nat) (hd : d.toList = p ++ l ++ q) (ha : a = p.length) (hb : b = p.length + l.length) : (insertionSort lt d a b).toList = p ++ isort lt l ++ q := by
  subst ha
  subst hb
  unfold insertionSort
  cases l with
  | nil =>
    rw [insOuter, if_neg (by simp), hd]
    simp [isort]
  | cons x l =>
    have h := insOuter_list hw p q l.length [x] l d rfl (by rw [hd]; simp [isort, merge_nil])
    simp only [List.length_singleton, List.length_cons, List.singleton_append] at h ⊢
    rw [show p.length + (l.length + 1) = p.length + 1 + l.length from by omega]
    exact h
end St
end Go.Proofs.Ytbnheebblicgkaa
