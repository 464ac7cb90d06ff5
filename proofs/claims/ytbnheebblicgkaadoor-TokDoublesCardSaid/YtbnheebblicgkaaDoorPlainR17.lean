/- Plain words of rescriptref17.Strip against strip17. -/
import Derived.Test.YtbnheebblicgkaaDoorW17e
namespace Go.Proofs.YtbnheebblicgkaaDoor
set_option linter.unusedVariables false
set_option linter.unusedSimpArgs false
open Go.RowKit
/-- where the reference's loop stands: at k, within quotes or not -/
def refAt (s : ByteArray) (q : Bool) (k : Nat) : Nat := remarkAt (blAt s.data.toList k) q false (min k s.size) (s.data.toList.drop k)
theorem refAt_start (s : ByteArray) : remarkAt true false false 0 s.data.toList = refAt s false 0 := by
  unfold refAt; rw [Nat.zero_min]; rfl
theorem refAt_end (s : ByteArray) (q : Bool) (k : Nat) (h : s.size ≤ k) : refAt s q k = s.size := by
  unfold refAt
  rw [List.drop_eq_nil_of_le (by rw [← Lib.size_eq]; exact h), remarkAt, Nat.min_eq_right h]
theorem refAt_step (s : ByteArray) (q : Bool) (k : Nat) (h : k < s.size) : refAt s q k =
    if q && s[k] == 92 then refAt s q (k + 2)
    else if s[k] == 34 then refAt s (!q) (k + 1)
    else if q || s[k] != 35 then refAt s q (k + 1)
    else if blAt s.data.toList k then k
    else refAt s q (k + 1) := by
  have h1 : refAt s q k = remarkAt (blAt s.data.toList k) q false k (s.data.toList.drop k) := by unfold refAt; rw [Nat.min_eq_left (Nat.le_of_lt h)]
  have h2 : ∀ q', remarkAt (blAt s.data.toList (k + 1)) q' false (k + 1) (s.data.toList.drop (k + 1)) = refAt s q' (k + 1) := fun q' => by unfold refAt; rw [Nat.min_eq_left h]
  rw [h1, remark_step s k q false h, if_neg (by simp), h2, h2]
  by_cases h3 : (q && s[k] == 92) = true
  · rw [if_pos h3, if_pos h3]
    by_cases h4 : k + 1 < s.size
    · rw [remark_step s (k + 1) q true h4, if_pos rfl]
      unfold refAt
      rw [Nat.min_eq_left h4]
    · rw [refAt_end s q (k + 2) (by omega), remark_end s (k + 1) _ _ _ (by omega)]
      omega
  · rw [if_neg h3, if_neg h3]
theorem trimR_nil : trimR [] = [] := rfl
theorem trimR_blank (l : List UInt8) : trimR (l ++ [32]) = trimR l := by simp [trimR]
theorem trimR_stop (l : List UInt8) (c : UInt8) (h : c ≠ 32) : trimR (l ++ [c]) = l ++ [c] := by
  unfold trimR
  rw [List.reverse_append, List.reverse_singleton, List.singleton_append, List.dropWhile_cons_of_neg (by simpa using h), List.reverse_cons, List.reverse_reverse]
theorem take_step (s : ByteArray) (k : Nat) (h : k < s.size) : s.data.toList.take (k + 1) = s.data.toList.take k ++ [s[k]] := by
  rw [List.take_add_one, Lib.data_getElem? s k h]
  rfl
end Go.Proofs.YtbnheebblicgkaaDoor
