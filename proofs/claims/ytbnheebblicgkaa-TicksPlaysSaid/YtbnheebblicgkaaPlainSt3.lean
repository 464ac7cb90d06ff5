/- The plain theory of a stable sort: blocks of a size, each sorted. -/
import Derived.Test.YtbnheebblicgkaaPlainSt2
namespace Go.Proofs.Ytbnheebblicgkaa
set_option linter.unusedVariables false
set_option linter.unusedSimpArgs false
namespace St
variable {α : Type}
/-- l is o, its blocks of B sorted each by itself; the last one may be shorter -/
inductive Blk (lt : α → α → Bool) (B : Nat) : List α → List α → Prop
  | last (o : List α) (h : o.length ≤ B) : Blk lt B o (isort lt o)
  | cons (o1 o2 l2 : List α) (h : o1.length = B) (h2 : Blk lt B o2 l2) : Blk lt B (o1 ++ o2) (isort lt o1 ++ l2)
variable {lt : α → α → Bool}
theorem Blk.len {B : Nat} {o l : List α} (h : Blk lt B o l) : l.length = o.length := by
  induction h with
  | last o h => exact isort_length o
  | cons o1 o2 l2 h h2 ih => rw [List.length_append, List.length_append, isort_length, ih]
theorem Blk.nil {B : Nat} {l : List α} (h : Blk lt B [] l) : l = [] := List.eq_nil_of_length_eq_zero (by rw [h.len]; rfl)
theorem Blk.small {B : Nat} {o l : List α} (h : Blk lt B o l) (hl : o.length ≤ B) : l = isort lt o := by
  cases h with
  | last h => rfl
  | cons o1 o2 l2 h h2 =>
    rw [List.length_append] at hl
    have h0 : o2 = [] := List.eq_nil_of_length_eq_zero (by omega)
    subst h0
    rw [h2.nil, List.append_nil, List.append_nil]
theorem Blk.two {B : Nat} {o l : List α} (h : Blk lt B o l) (hB : 0 < B) (hl : 2 * B ≤ o.length) : ∃ o1 o2 o3 l3, o = o1 ++ o2 ++ o3 ∧ o1.length = B ∧ o2.length = B ∧ l = isort lt o1 ++ (isort lt o2 ++ l3) ∧ Blk lt B o3 l3 := by
  cases h with
  | last h => omega
  | cons o1 o2 l2 h h2 =>
    rw [List.length_append] at hl
    cases h2 with
    | last h3 => exact ⟨o1, o2, [], [], by simp, h, by omega, by simp, Blk.last [] (by simp)⟩
    | cons o2 o3 l3 h3 h4 => exact ⟨o1, o2, o3, l3, by simp, h, h3, rfl, h4⟩
theorem Blk.more {B : Nat} {o l : List α} (h : Blk lt B o l) (hl : B < o.length) (h2 : o.length ≤ 2 * B) : ∃ o1 o2, o = o1 ++ o2 ∧ o1.length = B ∧ 0 < o2.length ∧ l = isort lt o1 ++ isort lt o2 := by
  cases h with
  | last h => omega
  | cons o1 o2 l2 h h3 =>
    rw [List.length_append] at hl h2
    exact ⟨o1, o2, rfl, h, by omega, by rw [h3.small (by omega)]⟩
/-- what is done: whatever blocks stand behind it -/
def Done (lt : α → α → Bool) (B : Nat) (od done : List α) : Prop := ∀ o l, Blk lt B o l → Blk lt B (od ++ o) (done ++ l)
theorem Done.nil (B : Nat) : Done lt B [] [] := fun o l h => h
theorem Done.step {B : Nat} {od done o1 : List α} (h : Done lt B od done) (h1 : o1.length = B) : Done lt B (od ++ o1) (done ++ isort lt o1) := fun o l hb => by
  rw [List.append_assoc, List.append_assoc]
  exact h _ _ (Blk.cons o1 o l h1 hb)
end St
end Go.Proofs.Ytbnheebblicgkaa
