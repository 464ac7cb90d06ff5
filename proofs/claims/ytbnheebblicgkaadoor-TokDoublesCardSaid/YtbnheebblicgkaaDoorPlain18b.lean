/- More plain functions of layer 18: what stands within quotes, reading, numbers. -/
import Derived.Test.YtbnheebblicgkaaDoorPlain18
namespace Go.Proofs.YtbnheebblicgkaaDoor
set_option linter.unusedVariables false
set_option linter.unusedSimpArgs false
namespace P18
theorem hexThree_bd (a b c : UInt8) : 0 ≤ (hexThree a b c).1 ∧ (hexThree a b c).1 < 256 ∧ 0 ≤ (hexThree a b c).2 ∧ (hexThree a b c).2 ≤ 3 := by
  unfold hexThree
  have := idx_bd b
  have := idx_bd c
  repeat' split
  all_goals simp
  all_goals omega
theorem behind_bd (l : List UInt8) : 0 ≤ (behind l).1 ∧ (behind l).1 < 256 ∧ 0 ≤ (behind l).2 ∧ (behind l).2 ≤ 3 := by
  unfold behind
  split
  · rename_i c hc
    have h1 := List.mem_of_find?_eq_some hc
    have h2 := word_len (UInt8.ofNat c)
    simp at h1
    simp only
    omega
  · unfold hexTail
    split
    · simp
    · exact hexThree_bd _ _ _
theorem behind_nat (l : List UInt8) : ∃ (c : UInt8) (n : Nat), behind l = ((c.toNat : Int), (n : Int)) ∧ n ≤ 3 := by
  obtain ⟨h1, h2, h3, h4⟩ := behind_bd l
  refine ⟨UInt8.ofNat (behind l).1.toNat, (behind l).2.toNat, ?_, by omega⟩
  apply Prod.ext
  · simp; omega
  · simp; omega
/-- what stands within quotes stands for -/
def within (l : List UInt8) : Option (List UInt8) :=
  match l with
  | [] => some []
  | c :: r => if (c.toNat : Int) < 32 ∨ ((c.toNat : Int) == 127) = true then none
    else if ((c.toNat : Int) == 92) = true then (if ((behind r).2 == 0) = true then none else (within (r.drop (behind r).2.toNat)).map (UInt8.ofNat (behind r).1.toNat :: ·))
    else (within r).map (c :: ·)
termination_by l.length
decreasing_by
  all_goals simp
  all_goals omega
theorem within_nil : within [] = some [] := by unfold within; simp only
theorem within_cons (c : UInt8) (r : List UInt8) : within (c :: r) = if (c.toNat : Int) < 32 ∨ ((c.toNat : Int) == 127) = true then none
    else if ((c.toNat : Int) == 92) = true then (if ((behind r).2 == 0) = true then none else (within (r.drop (behind r).2.toNat)).map (UInt8.ofNat (behind r).1.toNat :: ·))
    else (within r).map (c :: ·) := by conv => lhs; unfold within
theorem within_drop {l : List UInt8} {k : Nat} (h : k < l.length) : within (l.drop k) = within (l[k] :: l.drop (k + 1)) := by rw [List.drop_eq_getElem_cons h]
end P18
end Go.Proofs.YtbnheebblicgkaaDoor
