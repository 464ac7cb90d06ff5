/- More plain functions of layer 18: numbers. -/
import Derived.Test.YtbnheebblicgkaaDoorLib
import Derived.Lib.Strings
import Derived.Lib.IndexBytes
namespace Go.Proofs.YtbnheebblicgkaaDoor
set_option linter.unusedVariables false
set_option linter.unusedSimpArgs false
theorem ne_of_size {s : ByteArray} (h : 0 < s.size) : s.toList.isEmpty = false := by
  rw [Lib.toList_data]
  have := Lib.size_eq s
  cases hl : s.data.toList with
  | nil => rw [hl] at this; rw [this] at h; exact absurd h (by simp)
  | cons _ _ => rfl
namespace P18
def numLoop : Nat → List UInt8 → Int × Int
  | n, [] => ((n : Int), 0)
  | n, c :: r => if (c.toNat : Int) < 48 ∨ 57 < (c.toNat : Int) then (0, 3) else numLoop (n * 10 + (c.toNat - 48)) r
theorem numLoop_drop {n : Nat} {l : List UInt8} {k : Nat} (h : k < l.length) :
    numLoop n (l.drop k) = if (l[k].toNat : Int) < 48 ∨ 57 < (l[k].toNat : Int) then (0, 3) else numLoop (n * 10 + (l[k].toNat - 48)) (l.drop (k + 1)) := by
  rw [List.drop_eq_getElem_cons h]; rfl
/-- a text's number; 3: ErrForm -/
def number (l : List UInt8) : Int × Int :=
  if l.length = 0 ∨ 9 < l.length ∨ (1 < l.length ∧ (l.getD 0 0).toNat = 48) then (0, 3) else numLoop 0 l
theorem pow_le {k : Nat} (h : k ≤ 8) : 10 ^ k ≤ 100000000 := Nat.pow_le_pow_right (by omega) h
/-- the digits of n behind the lowest one -/
def moreDigs : Nat → Nat → List UInt8
  | 0, _ => []
  | f + 1, n => if n < 10 then [] else UInt8.ofNat (48 + n / 10 % 10) :: moreDigs f (n / 10)
theorem moreDigs_step (f n : Nat) : moreDigs (f + 1) n = if n < 10 then [] else UInt8.ofNat (48 + n / 10 % 10) :: moreDigs f (n / 10) := rfl
def digs (n : Nat) : List UInt8 := UInt8.ofNat (48 + n % 10) :: moreDigs 9 n
def digits (n : Int) : List UInt8 := if n < 0 ∨ 999999999 < n then [] else (digs n.toNat).reverse
end P18
end Go.Proofs.YtbnheebblicgkaaDoor
