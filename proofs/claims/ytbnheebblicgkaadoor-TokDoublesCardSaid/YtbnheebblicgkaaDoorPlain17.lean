/- Plain words of layer 17: the lines of a text, a line without its remark. -/
import Derived.Test.YtbnheebblicgkaaDoorLib
namespace Go.Proofs.YtbnheebblicgkaaDoor
set_option linter.unusedVariables false
set_option linter.unusedSimpArgs false
open Go.RowKit
/-- the lines of a text, each with its end -/
def rawL : List UInt8 → List (List UInt8)
  | [] => []
  | c :: r => if c = 10 then [c] :: rawL r else match rawL r with
    | [] => [[c]]
    | l :: ls => (c :: l) :: ls
/-- a line without its end -/
def chop (l : List UInt8) : List UInt8 := if l.getLast? = some 10 then l.dropLast else l
/-- the lines of a text -/
def lines17 (s : List UInt8) : List (List UInt8) := (rawL s).map chop
/-- the place of the first end of a line -/
def feedAt (s : List UInt8) : Option Nat := s.findIdx? (· == 10)
theorem rawL_some : ∀ (s : List UInt8) (i : Nat), feedAt s = some i → rawL s = s.take (i + 1) :: rawL (s.drop (i + 1))
  | [], i, h => by simp [feedAt] at h
  | c :: r, i, h => by
    unfold feedAt at h
    rw [List.findIdx?_cons] at h
    by_cases hc : c = 10
    · subst hc
      simp at h
      subst h
      simp [rawL]
    · simp [hc] at h
      obtain ⟨j, hj, rfl⟩ := h
      have := rawL_some r j hj
      rw [rawL, if_neg hc, this]
      simp
theorem rawL_none : ∀ (s : List UInt8), s ≠ [] → feedAt s = none → rawL s = [s]
  | [], h, _ => absurd rfl h
  | [c], _, h => by
    unfold feedAt at h
    simp at h
    simp [rawL, h]
  | c :: d :: r, _, h => by
    unfold feedAt at h
    rw [List.findIdx?_cons] at h
    by_cases hc : c = 10
    · simp [hc] at h
    · have h2 : feedAt (d :: r) = none := by
        unfold feedAt
        simp [hc] at h
        simp [h.1]
        exact h.2
      have := rawL_none (d :: r) (by simp) h2
      rw [rawL, if_neg hc, this]
theorem rawL_nil_iff (s : List UInt8) : rawL s = [] ↔ s = [] := by
  constructor
  · intro h
    cases s with
    | nil => rfl
    | cons c r =>
      unfold rawL at h
      split at h
      · cases h
      · split at h <;> cases h
  · rintro rfl; rfl
/-- the lines as the document's answer gathers them: 'now' is what the line has so far -/
def splitA : List UInt8 → List UInt8 → List (List UInt8)
  | now, [] => if now = [] then [] else [now]
  | now, c :: r => if c = 10 then now :: splitA [] r else splitA (now ++ [c]) r
theorem chop_end (l : List UInt8) : chop (l ++ [10]) = l := by simp [chop]
theorem chop_not (l : List UInt8) (h : (10 : UInt8) ∉ l) : chop l = l := by
  unfold chop
  rw [if_neg]
  intro h2
  exact h (List.mem_of_getLast? h2)
theorem splitA_eq : ∀ (s now : List UInt8), (10 : UInt8) ∉ now → splitA now s = lines17 (now ++ s)
  | [], now, h => by
    unfold splitA
    split
    · rename_i h2; subst h2; rfl
    · rename_i h2
      have h3 : feedAt now = none := by
        unfold feedAt
        rw [List.findIdx?_eq_none_iff]
        intro x hx
        have : x ≠ 10 := fun e => h (e ▸ hx)
        simpa using this
      rw [List.append_nil, lines17, rawL_none now h2 h3]
      simp [chop_not now h]
  | c :: r, now, h => by
    unfold splitA
    split
    · rename_i hc; subst hc
      have h3 : feedAt (now ++ 10 :: r) = some now.length := by
        unfold feedAt
        rw [List.findIdx?_append]
        have : now.findIdx? (· == 10) = none := by
          rw [List.findIdx?_eq_none_iff]
          intro x hx
          have : x ≠ 10 := fun e => h (e ▸ hx)
          simpa using this
        rw [this, List.findIdx?_cons]
        simp
      rw [lines17, rawL_some _ _ h3]
      have e1 : (now ++ 10 :: r).take (now.length + 1) = now ++ [10] := by
        rw [List.take_length_add_append]; rfl
      have e2 : (now ++ 10 :: r).drop (now.length + 1) = r := by
        rw [List.drop_length_add_append]; rfl
      rw [e1, e2, List.map_cons, chop_end, splitA_eq r [] (by simp)]
      rfl
    · rename_i hc
      rw [splitA_eq r (now ++ [c]) (by simp [h]; exact fun e => hc e.symm)]
      simp
theorem splitA_nil (s : List UInt8) : splitA [] s = lines17 s := by rw [splitA_eq s [] (by simp)]; rfl
/-- trailing blanks away -/
def trimR (l : List UInt8) : List UInt8 := (l.reverse.dropWhile (· == 32)).reverse
/-- leading blanks away -/
def trimL (l : List UInt8) : List UInt8 := l.dropWhile (· == 32)
/-- where a line's remark begins: 'prev' the byte ahead (none: none), state: within quotes, behind a back stroke; k how many bytes have gone by -/
def remarkAt : Bool → Bool → Bool → Nat → List UInt8 → Nat
  | _, _, _, k, [] => k
  | bl, within, taken, k, c :: r =>
    if taken then remarkAt (c == 32) within false (k + 1) r
    else if within && c == 92 then remarkAt (c == 32) within true (k + 1) r
    else if c == 34 then remarkAt (c == 32) (!within) false (k + 1) r
    else if within || c != 35 then remarkAt (c == 32) within false (k + 1) r
    else if bl then k
    else remarkAt (c == 32) within false (k + 1) r
def strip17 (l : List UInt8) : List UInt8 := trimR (l.take (remarkAt true false false 0 l))
/-- a byte that may not be there -/
def oddB (c : UInt8) : Bool := c < 32 || c == 127
end Go.Proofs.YtbnheebblicgkaaDoor
