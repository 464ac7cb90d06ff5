/- Plain words of rescriptref17.All: how many lines stand ahead of a place. -/
import Derived.Test.YtbnheebblicgkaaDoorPlain17
import Derived.Lib.Bytealg
namespace Go.Proofs.YtbnheebblicgkaaDoor
set_option linter.unusedVariables false
set_option linter.unusedSimpArgs false
open Go.RowKit
theorem rawL_x (c : UInt8) (hc : c ≠ 10) : ∀ (l : List UInt8), (rawL (l ++ [c])).length = l.count 10 + 1
  | [] => by simp [rawL, hc]
  | a :: r => by
    have ih := rawL_x c hc r
    show (rawL (a :: (r ++ [c]))).length = _
    unfold rawL
    by_cases ha : a = 10
    · subst ha
      rw [if_pos rfl, List.length_cons, ih, List.count_cons_self]
    · rw [if_neg ha, List.count_cons_of_ne (by simpa using ha)]
      cases hr : rawL (r ++ [c]) with
      | nil => rw [hr] at ih; simp at ih
      | cons x xs => rw [hr] at ih; simpa using ih
theorem lines17_x (c : UInt8) (hc : c ≠ 10) (l : List UInt8) : (lines17 (l ++ [c])).length = Lib.countByte l 10 + 1 := by
  unfold lines17
  rw [List.length_map, rawL_x c hc, Lib.countByte]
end Go.Proofs.YtbnheebblicgkaaDoor
