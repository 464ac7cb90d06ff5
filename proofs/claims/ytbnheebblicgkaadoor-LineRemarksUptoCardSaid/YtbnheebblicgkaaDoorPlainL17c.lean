/- Plain laws of layer 17: lines without anything, and remarks, change nothing but numbers. -/
import Derived.Test.YtbnheebblicgkaaDoorPlainL17b
namespace Go.Proofs.YtbnheebblicgkaaDoor
set_option linter.unusedVariables false
set_option linter.unusedSimpArgs false
open Go.RowKit
/-- a text's lines, something put behind one of them -/
def moreK (at' : Nat) (X : List UInt8) : Nat → List (List UInt8) → List UInt8
  | _, [] => []
  | i, l :: r => l ++ (if i = at' then X else []) ++ 10 :: moreK at' X (i + 1) r
def linesX (at' : Nat) (R : List UInt8) : Nat → List (List UInt8) → List (List UInt8)
  | _, [] => []
  | i, l :: r => if i = at' then (l ++ R) :: [32, 32, 32] :: linesX at' R (i + 1) r else l :: linesX at' R (i + 1) r
/-- what is put behind a line: a remark, and a line of blanks -/
def insX (remark : List UInt8) : List UInt8 := 32 :: 35 :: remark ++ [10, 32, 32, 32]
theorem moreK_none : ∀ (ls : List (List UInt8)) (at' i : Nat), (∀ l ∈ ls, (10 : UInt8) ∉ l) → lines17 (moreK at' [] i ls) = ls
  | [], at', i, _ => rfl
  | l :: r, at', i, h => by
    have e : (if i = at' then ([] : List UInt8) else []) = [] := by split <;> rfl
    rw [moreK, e, List.append_nil, lines17_cons _ _ (h l List.mem_cons_self), moreK_none r at' (i + 1) (fun x hx => h x (List.mem_cons_of_mem _ hx))]
theorem moreK_lines (remark : List UInt8) (hr : (10 : UInt8) ∉ remark) : ∀ (ls : List (List UInt8)) (at' i : Nat), (∀ l ∈ ls, (10 : UInt8) ∉ l) → lines17 (moreK at' (insX remark) i ls) = linesX at' (32 :: 35 :: remark) i ls
  | [], at', i, _ => rfl
  | l :: r, at', i, h => by
    have ih := moreK_lines remark hr r at' (i + 1) (fun x hx => h x (List.mem_cons_of_mem _ hx))
    have hl := h l List.mem_cons_self
    unfold moreK linesX
    split
    · have e : l ++ insX remark ++ 10 :: moreK at' (insX remark) (i + 1) r = (l ++ 32 :: 35 :: remark) ++ 10 :: ([32, 32, 32] ++ 10 :: moreK at' (insX remark) (i + 1) r) := by simp [insX]
      rw [e, lines17_cons _ _ (by simp [hl, hr]), lines17_cons _ _ (by simp), ih]
    · rw [List.append_nil, lines17_cons _ _ hl, ih]
theorem moreK_len (at' : Nat) (X : List UInt8) : ∀ (ls : List (List UInt8)) (i : Nat), (moreK at' X i ls).length ≤ (ls.map (fun l => l.length + 1)).sum + (if i ≤ at' then X.length else 0)
  | [], i => by simp [moreK]
  | l :: r, i => by
    have ih := moreK_len at' X r (i + 1)
    unfold moreK
    rw [List.map_cons, List.sum_cons, List.length_append, List.length_append, List.length_cons]
    by_cases h : i = at'
    · subst h
      rw [if_pos rfl, if_pos (Nat.le_refl _)]
      rw [if_neg (by omega)] at ih
      omega
    · rw [if_neg h, List.length_nil]
      by_cases h2 : i ≤ at'
      · rw [if_pos h2]
        rw [if_pos (by omega)] at ih
        omega
      · rw [if_neg h2]
        rw [if_neg (by omega)] at ih
        omega
theorem linesX_all {p : List UInt8 → Prop} (at' : Nat) (R : List UInt8) (hR : ∀ l, p (l ++ R) ↔ p l) (hb : p [32, 32, 32]) : ∀ (ls : List (List UInt8)) (i : Nat), (∀ l ∈ linesX at' R i ls, p l) ↔ ∀ l ∈ ls, p l
  | [], i => by simp [linesX]
  | l :: r, i => by
    have ih := linesX_all at' R hR hb r (i + 1)
    unfold linesX
    split
    · simp only [List.forall_mem_cons, ih, hR]
      exact ⟨fun ⟨a, _, c⟩ => ⟨a, c⟩, fun ⟨a, c⟩ => ⟨a, hb, c⟩⟩
    · simp only [List.forall_mem_cons, ih]
/-- rows alike but for numbers -/
def alikeR : List (Nat × Nat × List UInt8) → List (Nat × Nat × List UInt8) → Prop
  | [], [] => True
  | a :: x, b :: y => (a.2.1 = b.2.1 ∧ a.2.2 = b.2.2 ∧ a.1 ≤ b.1 ∧ b.1 ≤ a.1 + 1) ∧ alikeR x y
  | _, _ => False
theorem alikeR_refl : ∀ x, alikeR x x
  | [] => trivial
  | a :: x => ⟨⟨rfl, rfl, Nat.le_refl _, Nat.le_succ _⟩, alikeR_refl x⟩
theorem alikeR_len : ∀ {x y}, alikeR x y → x.length = y.length
  | [], [], _ => rfl
  | a :: x, b :: y, h => by simp [alikeR_len h.2]
  | [], b :: y, h => h.elim
  | a :: x, [], h => h.elim
theorem alikeR_get : ∀ {x y} (i : Nat) {a b}, alikeR x y → x[i]? = some a → y[i]? = some b → a.2.1 = b.2.1 ∧ a.2.2 = b.2.2 ∧ a.1 ≤ b.1 ∧ b.1 ≤ a.1 + 1
  | [], [], i, a, b, _, h, _ => by simp at h
  | a :: x, b :: y, 0, _, _, h, h1, h2 => by
    simp at h1 h2
    subst h1
    subst h2
    exact h.1
  | a :: x, b :: y, i + 1, _, _, h, h1, h2 => alikeR_get i h.2 (by simpa using h1) (by simpa using h2)
  | [], b :: y, i, _, _, h, _, _ => h.elim
  | a :: x, [], i, _, _, h, _, _ => h.elim
theorem rowOf_shift (k : Nat) (l l' : List UInt8) (h : strip17 l' = strip17 l) : (rowOf k l = none ∧ ∀ j, rowOf j l' = none) ∨ ∃ c t, rowOf k l = some (k + 1, c, t) ∧ ∀ j, rowOf j l' = some (j + 1, c, t) := by
  unfold rowOf
  rw [h]
  by_cases h1 : trimL (strip17 l) = []
  · left
    rw [if_pos h1]
    exact ⟨rfl, fun j => if_pos h1⟩
  · right
    refine ⟨_, _, if_neg h1, fun j => if_neg h1⟩
theorem rowsFrom_shift : ∀ (ls : List (List UInt8)) (k : Nat), alikeR (rowsFrom k ls) (rowsFrom (k + 1) ls)
  | [], k => trivial
  | l :: r, k => by
    have ih := rowsFrom_shift r (k + 1)
    unfold rowsFrom
    rcases rowOf_shift k l l rfl with ⟨h1, h2⟩ | ⟨c, t, h1, h2⟩
    · rw [h1, h2 (k + 1)]; exact ih
    · rw [h1, h2 (k + 1)]; exact ⟨⟨rfl, rfl, Nat.le_succ _, Nat.le_refl _⟩, ih⟩
theorem linesX_past (at' : Nat) (R : List UInt8) : ∀ (ls : List (List UInt8)) (i : Nat), at' < i → linesX at' R i ls = ls
  | [], i, _ => rfl
  | l :: r, i, h => by
    rw [linesX, if_neg (by omega), linesX_past at' R r (i + 1) (by omega)]
theorem rows_alike (at' : Nat) (R : List UInt8) : ∀ (ls : List (List UInt8)) (i k : Nat), (∀ l, ls[at' - i]? = some l → i ≤ at' → strip17 (l ++ R) = strip17 l) → alikeR (rowsFrom k ls) (rowsFrom k (linesX at' R i ls))
  | [], i, k, _ => trivial
  | l :: r, i, k, h => by
    unfold linesX
    split
    · rename_i hi
      subst hi
      have hs := h l (by simp) (Nat.le_refl _)
      rw [linesX_past i R r (i + 1) (by omega)]
      have hb : rowOf (k + 1) [32, 32, 32] = none := by
        have : trimL (strip17 [32, 32, 32]) = [] := by decide +kernel
        rw [rowOf, if_pos this]
      have e2 : rowsFrom (k + 1) ([32, 32, 32] :: r) = rowsFrom (k + 1 + 1) r := by rw [rowsFrom, hb]
      rw [rowsFrom, rowsFrom]
      rcases rowOf_shift k l (l ++ R) hs with ⟨h1, h2⟩ | ⟨c, t, h1, h2⟩
      · rw [h1, h2 k]
        show alikeR (rowsFrom (k + 1) r) (rowsFrom (k + 1) ([32, 32, 32] :: r))
        rw [e2]
        exact rowsFrom_shift r (k + 1)
      · rw [h1, h2 k]
        show alikeR ((k + 1, c, t) :: rowsFrom (k + 1) r) ((k + 1, c, t) :: rowsFrom (k + 1) ([32, 32, 32] :: r))
        rw [e2]
        exact ⟨⟨rfl, rfl, Nat.le_refl _, Nat.le_succ _⟩, rowsFrom_shift r (k + 1)⟩
    · rename_i hi
      have ih := rows_alike at' R r (i + 1) (k + 1) (fun x hx hle => h x (by rw [show at' - i = (at' - (i + 1)) + 1 from by omega, List.getElem?_cons_succ]; exact hx) (by omega))
      rw [rowsFrom, rowsFrom]
      cases rowOf k l with
      | none => exact ih
      | some x => exact ⟨⟨rfl, rfl, Nat.le_refl _, Nat.le_succ _⟩, ih⟩
theorem remark_behind (R : List UInt8) : ∀ (l : List UInt8) (bl : Bool) (k : Nat), (34 : UInt8) ∉ l →
    (remarkAt bl false false k l < k + l.length ∧ remarkAt bl false false k (l ++ 32 :: 35 :: R) = remarkAt bl false false k l) ∨
    (remarkAt bl false false k l = k + l.length ∧ remarkAt bl false false k (l ++ 32 :: 35 :: R) = k + l.length + 1)
  | [], bl, k, _ => by
    right
    refine ⟨rfl, ?_⟩
    simp [remarkAt]
  | c :: r, bl, k, h => by
    have hc : c ≠ 34 := fun e => h (by rw [e]; exact List.mem_cons_self)
    have hr : (34 : UInt8) ∉ r := fun e => h (List.mem_cons_of_mem _ e)
    have ih := remark_behind R r (c == 32) (k + 1) hr
    have hc2 : (c == 34) = false := by simpa using hc
    rw [List.cons_append]
    unfold remarkAt
    simp only [Bool.false_and, Bool.false_or, hc2, Bool.false_eq_true, if_false]
    by_cases h35 : (c != 35) = true
    · rw [if_pos h35, if_pos h35]
      rw [List.length_cons]
      rcases ih with ⟨h1, h2⟩ | ⟨h1, h2⟩
      · left; exact ⟨by omega, h2⟩
      · right; exact ⟨by omega, by omega⟩
    · rw [if_neg h35, if_neg h35]
      cases bl
      · simp only [Bool.false_eq_true, if_false, List.length_cons]
        rcases ih with ⟨h1, h2⟩ | ⟨h1, h2⟩
        · left; exact ⟨by omega, h2⟩
        · right; exact ⟨by omega, by omega⟩
      · left
        simp
theorem strip_remark (l R : List UInt8) (h : (34 : UInt8) ∉ l) : strip17 (l ++ 32 :: 35 :: R) = strip17 l := by
  unfold strip17
  rcases remark_behind R l true 0 h with ⟨h1, h2⟩ | ⟨h1, h2⟩
  · rw [h2, List.take_append_of_le_length (by omega)]
  · rw [h2, h1, Nat.zero_add, List.take_length]
    have e : (l ++ 32 :: 35 :: R).take (l.length + 1) = l ++ [32] := by
      rw [List.take_length_add_append]; rfl
    rw [e, trimR_blank]
/-- what layer 17 says of remarks -/
theorem remarks_law (s remark : List UInt8) (at' : Nat) (X : List UInt8) (hs : s.length ≤ 1000) (hrl : remark.length ≤ 100) (h0 : (check17 (35 :: remark)).1 = 0) (hr : (10 : UInt8) ∉ remark)
    (hX : (X = [] ∨ X = insX remark ∧ ∀ l, (lines17 s)[at']? = some l → (34 : UInt8) ∉ l)) :
    (check17 (moreK at' X 0 (lines17 s))).1 = (check17 s).1 ∧ alikeR (rows17 s) (rows17 (moreK at' X 0 (lines17 s))) ∧ (moreK at' X 0 (lines17 s)).length ≤ 3000 := by
  have hno := lines_no s
  have hlen : (moreK at' X 0 (lines17 s)).length ≤ 3000 := by
    have h1 := moreK_len at' X (lines17 s) 0
    have h2 := lines_sum s
    have h3 : X.length ≤ 106 := by
      rcases hX with rfl | ⟨rfl, _⟩
      · simp
      · simp [insX]; omega
    rw [if_pos (Nat.zero_le _)] at h1
    omega
  have key : ∀ ls2, lines17 (moreK at' X 0 (lines17 s)) = ls2 → ((∀ l ∈ ls2, Vd l) ↔ ∀ l ∈ lines17 s, Vd l) → ((∀ l ∈ ls2, l.any oddB = false) ↔ ∀ l ∈ lines17 s, l.any oddB = false) → (check17 (moreK at' X 0 (lines17 s))).1 = (check17 s).1 := by
    intro ls2 h1 h2 h3
    by_cases hv : Vd s
    · have hv2 : Vd (moreK at' X 0 (lines17 s)) := by rw [vd_lines, h1, h2, ← vd_lines]; exact hv
      by_cases ho : ∀ l ∈ lines17 s, l.any oddB = false
      · rw [check_of (by omega) hv2 (by rw [h1]; exact h3.2 ho), check_of (by omega) hv ho]
      · have ex : ∀ ls : List (List UInt8), ¬ (∀ l ∈ ls, l.any oddB = false) → ∃ l ∈ ls, l.any oddB = true := by
          intro ls hn
          simp only [Classical.not_forall] at hn
          obtain ⟨l, hl, hq⟩ := hn
          exact ⟨l, hl, by simpa using hq⟩
        rw [check_odd (by omega) hv2 (by rw [h1]; exact ex ls2 (fun h => ho (h3.1 h))), check_odd (by omega) hv (ex _ ho)]
    · have hv2 : ¬ Vd (moreK at' X 0 (lines17 s)) := by rw [vd_lines, h1, h2, ← vd_lines]; exact hv
      rw [check_utf (by omega) hv2, check_utf (by omega) hv]
  rcases hX with rfl | ⟨rfl, hq⟩
  · have hL := moreK_none (lines17 s) at' 0 hno
    refine ⟨key _ hL Iff.rfl Iff.rfl, ?_, hlen⟩
    rw [rows17, rows17, hL]
    exact alikeR_refl _
  · have hL := moreK_lines remark hr (lines17 s) at' 0 hno
    obtain ⟨_, hvr, hor⟩ := check_parts h0
    have hone : lines17 (35 :: remark) = [35 :: remark] := by
      have h1 := lines17_cons (35 :: remark) [] (by simp [hr])
      have h3 : feedAt (35 :: remark) = none := by
        unfold feedAt
        rw [List.findIdx?_eq_none_iff]
        intro x hx
        have : x ≠ 10 := fun e => by subst e; simp [hr] at hx
        simpa using this
      rw [lines17, rawL_none _ (by simp) h3, List.map_singleton, chop_not _ (by simp [hr])]
    rw [hone] at hor
    have hor2 := hor _ List.mem_cons_self
    refine ⟨key _ hL ?_ ?_, ?_, hlen⟩
    · refine linesX_all at' _ (fun l => ?_) ?_ _ _
      · rw [vd_at (by decide)]
        exact ⟨fun h => h.1, fun h => ⟨h, hvr⟩⟩
      · exact (vd_cons 32 (by decide) _).2 ((vd_cons 32 (by decide) _).2 ((vd_cons 32 (by decide) _).2 vd_nil))
    · refine linesX_all at' _ (fun l => ?_) (by decide) _ _
      have e : (32 :: 35 :: remark : List UInt8).any oddB = false := by
        rw [List.any_cons, hor2]; rfl
      rw [List.any_append, e, Bool.or_false]
    · rw [rows17, rows17, hL]
      exact rows_alike at' _ _ 0 0 (fun l hl _ => strip_remark l _ (hq l (by simpa using hl)))
end Go.Proofs.YtbnheebblicgkaaDoor
