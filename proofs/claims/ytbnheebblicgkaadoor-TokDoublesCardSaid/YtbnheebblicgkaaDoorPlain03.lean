/- The plain functions of layer 3 (utf): where a text's bytes are no rune's. -/
import Derived.Test.YtbnheebblicgkaaDoorLib
import Derived.Lib.Strings
import Derived.Lib.IndexBytes
import Derived.Lib.DecodeN
import Derived.Laws.RangeAny
namespace Go.Proofs.YtbnheebblicgkaaDoor
set_option linter.unusedVariables false
set_option linter.unusedSimpArgs false
namespace P03
def rune (n : Int) : Bool := decide (0 ≤ n) && (decide (n ≤ 1114111) && (decide (n < 55296) || decide (57343 < n)))
/-- r bytes more of a rune, n so far -/
def contLoop : Nat → Int → List UInt8 → Option Int
  | 0, n, _ => some n
  | r + 1, n, l => if ((l.getD 0 0).toNat : Int) < 128 ∨ 192 ≤ ((l.getD 0 0).toNat : Int) then none else contLoop r (n * 64 + ((l.getD 0 0).toNat : Int) - 128) (l.drop 1)
def tailOf (k : Nat) (n least : Int) (l : List UInt8) : Int × Int :=
  if (l.length : Int) ≤ (k : Int) then (0, 0) else match contLoop k n (l.drop 1) with
  | none => (0, 0)
  | some m => if m < least then (0, 0) else if rune m = false then (0, 0) else ((k : Int) + 1, m)
/-- how many bytes the rune at the head has, and it; 0: there is none -/
def one (l : List UInt8) : Int × Int :=
  if ((l.getD 0 0).toNat : Int) < 128 then (1, ((l.getD 0 0).toNat : Int))
  else if 192 ≤ ((l.getD 0 0).toNat : Int) ∧ ((l.getD 0 0).toNat : Int) < 224 then tailOf 1 (((l.getD 0 0).toNat : Int) - 192) 128 l
  else if 224 ≤ ((l.getD 0 0).toNat : Int) ∧ ((l.getD 0 0).toNat : Int) < 240 then tailOf 2 (((l.getD 0 0).toNat : Int) - 224) 2048 l
  else if 240 ≤ ((l.getD 0 0).toNat : Int) ∧ ((l.getD 0 0).toNat : Int) < 248 then tailOf 3 (((l.getD 0 0).toNat : Int) - 240) 65536 l
  else (0, 0)
theorem getD_drop (s : ByteArray) (k : Nat) (h : k < s.size) : (s.data.toList.drop k).getD 0 0 = s[k] := by
  rw [List.getD_eq_getElem?_getD, List.getElem?_drop, Nat.add_zero, Lib.data_getElem? s k h]; rfl
theorem drop_len (s : ByteArray) (k : Nat) : (s.data.toList.drop k).length = s.size - k := by rw [List.length_drop, Lib.size_eq]
/-- where bytes begin that are no rune's -/
def firstBad : Nat → Nat → List UInt8 → Int
  | 0, _, _ => -1
  | f + 1, p, l => if l.length = 0 then -1 else if ((one l).1 == 0) = true then (p : Int) else firstBad f (p + (one l).1.toNat) (l.drop (one l).1.toNat)
def first (l : List UInt8) : Int := firstBad (l.length + 1) 0 l
def taken (l : List UInt8) (r : Int) : Int := if (r != 65533) = true then ((Utf8.encode r).size : Int) else if Lib.hasPrefix l [239, 191, 189] = true then 3 else 0
/-- 2: ErrLong, 9: ErrUtf -/
def check (l : List UInt8) (most : Int) : Int := if most < (l.length : Int) then 2 else if 0 ≤ first l then 9 else 0
theorem tailOf_bd (k : Nat) (n least : Int) (l : List UInt8) : 0 ≤ (tailOf k n least l).1 ∧ (tailOf k n least l).1 ≤ k + 1 ∧ ((tailOf k n least l).1 ≤ l.length) := by
  unfold tailOf
  repeat' split
  all_goals simp
  all_goals omega
theorem one_bd (l : List UInt8) (h : 0 < l.length) : 0 ≤ (one l).1 ∧ (one l).1 ≤ 4 ∧ (one l).1 ≤ l.length := by
  unfold one
  have h1 := tailOf_bd 1 (((l.getD 0 0).toNat : Int) - 192) 128 l
  have h2 := tailOf_bd 2 (((l.getD 0 0).toNat : Int) - 224) 2048 l
  have h3 := tailOf_bd 3 (((l.getD 0 0).toNat : Int) - 240) 65536 l
  generalize ((l.getD 0 0).toNat : Int) = c at *
  repeat' split
  all_goals omega
theorem one_1 {l : List UInt8} {b : UInt8} (h : l.getD 0 0 = b) (h1 : b.toNat < 128) : one l = (1, (b.toNat : Int)) := by
  unfold one; rw [h, if_pos (by omega)]
theorem one_2 {l : List UInt8} {b : UInt8} (h : l.getD 0 0 = b) (h1 : 192 ≤ b.toNat) (h2 : b.toNat < 224) : one l = tailOf 1 ((b.toNat : Int) - 192) 128 l := by
  unfold one; rw [h, if_neg (by omega), if_pos (by omega)]
theorem one_3 {l : List UInt8} {b : UInt8} (h : l.getD 0 0 = b) (h1 : 224 ≤ b.toNat) (h2 : b.toNat < 240) : one l = tailOf 2 ((b.toNat : Int) - 224) 2048 l := by
  unfold one; rw [h, if_neg (by omega), if_neg (by omega), if_pos (by omega)]
theorem one_4 {l : List UInt8} {b : UInt8} (h : l.getD 0 0 = b) (h1 : 240 ≤ b.toNat) (h2 : b.toNat < 248) : one l = tailOf 3 ((b.toNat : Int) - 240) 65536 l := by
  unfold one; rw [h, if_neg (by omega), if_neg (by omega), if_neg (by omega), if_pos (by omega)]
theorem one_0 {l : List UInt8} {b : UInt8} (h : l.getD 0 0 = b) (h1 : 128 ≤ b.toNat) (h2 : b.toNat < 192 ∨ 248 ≤ b.toNat) : one l = (0, 0) := by
  unfold one; rw [h, if_neg (by omega), if_neg (by omega), if_neg (by omega), if_neg (by omega)]
theorem tailOf_short {k : Nat} {n least : Int} {l : List UInt8} (h : (l.length : Int) ≤ (k : Int)) : tailOf k n least l = (0, 0) := by
  unfold tailOf; rw [if_pos h]
theorem tailOf_none {k : Nat} {n least : Int} {l : List UInt8} (h : ¬ (l.length : Int) ≤ (k : Int)) (hc : contLoop k n (l.drop 1) = none) : tailOf k n least l = (0, 0) := by
  unfold tailOf; rw [if_neg h, hc]
theorem tailOf_some {k : Nat} {n least m : Int} {l : List UInt8} (h : ¬ (l.length : Int) ≤ (k : Int)) (hc : contLoop k n (l.drop 1) = some m) :
    tailOf k n least l = if m < least then (0, 0) else if rune m = false then (0, 0) else ((k : Int) + 1, m) := by
  unfold tailOf; rw [if_neg h, hc]
theorem cont_succ (r : Nat) (n : Int) (l : List UInt8) : contLoop (r + 1) n l = if ((l.getD 0 0).toNat : Int) < 128 ∨ 192 ≤ ((l.getD 0 0).toNat : Int) then none else contLoop r (n * 64 + ((l.getD 0 0).toNat : Int) - 128) (l.drop 1) := rfl
theorem cont_0 (n : Int) (l : List UInt8) : contLoop 0 n l = some n := rfl
theorem cont_no {r : Nat} {n : Int} {l : List UInt8} {b : UInt8} (h : l.getD 0 0 = b) (h1 : (b.toNat : Int) < 128 ∨ 192 ≤ (b.toNat : Int)) : contLoop (r + 1) n l = none := by
  rw [cont_succ, h, if_pos h1]
theorem cont_yes {r : Nat} {n : Int} {l : List UInt8} {b : UInt8} (h : l.getD 0 0 = b) (h1 : ¬ ((b.toNat : Int) < 128 ∨ 192 ≤ (b.toNat : Int))) : contLoop (r + 1) n l = contLoop r (n * 64 + (b.toNat : Int) - 128) (l.drop 1) := by
  rw [cont_succ, h, if_neg h1]
end P03
end Go.Proofs.YtbnheebblicgkaaDoor
