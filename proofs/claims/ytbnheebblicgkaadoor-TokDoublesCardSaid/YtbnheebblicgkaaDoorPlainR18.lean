/- The plain functions of rescriptref18, and that they are the program's. -/
import Derived.Test.YtbnheebblicgkaaDoorPlain18c
import Derived.Test.YtbnheebblicgkaaDoorPlain18d
namespace Go.Proofs.YtbnheebblicgkaaDoor
set_option linter.unusedVariables false
set_option linter.unusedSimpArgs false
namespace R18
open P18
theorem plain_key0 : ∀ n, n < 256 → ∀ first : Bool, P18.stands (UInt8.ofNat n) (!first) =
    ((decide (97 ≤ ((UInt8.ofNat n).toNat : Int)) && decide (((UInt8.ofNat n).toNat : Int) ≤ 122)) || (decide (65 ≤ ((UInt8.ofNat n).toNat : Int)) && decide (((UInt8.ofNat n).toNat : Int) ≤ 90)) || (decide (48 ≤ ((UInt8.ofNat n).toNat : Int)) && decide (((UInt8.ofNat n).toNat : Int) ≤ 57)) ||
      decide (((UInt8.ofNat n).toNat : Int) = 46) || decide (((UInt8.ofNat n).toNat : Int) = 95) || decide (((UInt8.ofNat n).toNat : Int) = 47) || decide (((UInt8.ofNat n).toNat : Int) = 43) || decide (((UInt8.ofNat n).toNat : Int) = 64) || (decide (((UInt8.ofNat n).toNat : Int) = 45) && !first)) := by decide +kernel
theorem plain_key (c : UInt8) (first : Bool) : P18.stands c (!first) =
    ((decide (97 ≤ (c.toNat : Int)) && decide ((c.toNat : Int) ≤ 122)) || (decide (65 ≤ (c.toNat : Int)) && decide ((c.toNat : Int) ≤ 90)) || (decide (48 ≤ (c.toNat : Int)) && decide ((c.toNat : Int) ≤ 57)) ||
      decide ((c.toNat : Int) = 46) || decide ((c.toNat : Int) = 95) || decide ((c.toNat : Int) = 47) || decide ((c.toNat : Int) = 43) || decide ((c.toNat : Int) = 64) || (decide ((c.toNat : Int) = 45) && !first)) := by
  have h := plain_key0 c.toNat c.toNat_lt first
  simpa only [UInt8.ofNat_toNat] using h
/-- a digit to the base 16, or -1 -/
def hex (c : UInt8) : Int := if 48 ≤ (c.toNat : Int) ∧ (c.toNat : Int) ≤ 57 then (c.toNat : Int) - 48 else if 97 ≤ (c.toNat : Int) ∧ (c.toNat : Int) ≤ 102 then (c.toNat : Int) - 97 + 10 else -1
theorem hex_idx0 : ∀ n, n < 256 → hex (UInt8.ofNat n) = Lib.indexByte [48, 49, 50, 51, 52, 53, 54, 55, 56, 57, 97, 98, 99, 100, 101, 102] (UInt8.ofNat n) := by decide +kernel
theorem hex_idx (c : UInt8) : hex c = Lib.indexByte [48, 49, 50, 51, 52, 53, 54, 55, 56, 57, 97, 98, 99, 100, 101, 102] c := all_bytes (p := fun c => hex c = Lib.indexByte [48, 49, 50, 51, 52, 53, 54, 55, 56, 57, 97, 98, 99, 100, 101, 102] c) hex_idx0 c
theorem hex_bd (c : UInt8) : -1 ≤ hex c ∧ hex c < 16 := by have := idx_bd c; rw [← hex_idx] at this; exact this
/-- is all of a text plain: from place i on -/
def allPlain : Bool → List UInt8 → Bool
  | _, [] => true
  | pos, c :: r => if stands c pos = true then allPlain true r else false
theorem allPlain_drop {pos : Bool} {l : List UInt8} {k : Nat} (h : k < l.length) : allPlain pos (l.drop k) = if stands l[k] pos = true then allPlain true (l.drop (k + 1)) else false := by
  rw [List.drop_eq_getElem_cons h]; rfl
theorem allPlain_len (l : List UInt8) : ∀ pos, allPlain pos l = ((plainLen pos l : Int) == (l.length : Int)) := by
  induction l with
  | nil => intro pos; rfl
  | cons c r ih =>
    intro pos
    simp only [allPlain, plainLen, List.length_cons]
    by_cases h : stands c pos = true
    · rw [if_pos h, if_pos h, ih true]
      rw [Bool.eq_iff_iff]; simp only [beq_iff_eq]; omega
    · rw [if_neg h, if_neg h]
      symm; rw [beq_eq_false_iff_ne]; omega
theorem plain_eq (l : List UInt8) : P18.plain l = (allPlain false l && decide (0 < (l.length : Int))) := by
  rw [allPlain_len, P18.plain]
  cases l with
  | nil => rfl
  | cons c r => simp
end R18
end Go.Proofs.YtbnheebblicgkaaDoor
