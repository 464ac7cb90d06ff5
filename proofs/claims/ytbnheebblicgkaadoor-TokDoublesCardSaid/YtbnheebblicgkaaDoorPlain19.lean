/- The plain functions of layer 19 (tok): the tokens of a line. -/
import Derived.Test.YtbnheebblicgkaaDoorPlain18c
import Derived.Test.YtbnheebblicgkaaDoorPlain17
namespace Go.Proofs.YtbnheebblicgkaaDoor
set_option linter.unusedVariables false
set_option linter.unusedSimpArgs false
/-- a token: kind, text, line, place -/
abbrev Tk := Nat × List UInt8 × Int × Int
namespace P19
/-- how many blanks a text begins with -/
def skip (l : List UInt8) : Nat := (l.takeWhile (· == 32)).length
theorem skip_drop : ∀ l : List UInt8, l.drop (skip l) = trimL l
  | [] => rfl
  | c :: r => by
    unfold skip trimL
    by_cases h : c = 32
    · subst h
      have ih := skip_drop r
      unfold skip trimL at ih
      rw [List.takeWhile_cons_of_pos (by rfl), List.dropWhile_cons_of_pos (by rfl), List.length_cons, List.drop_succ_cons]
      exact ih
    · rw [List.takeWhile_cons_of_neg (by simpa using h), List.dropWhile_cons_of_neg (by simpa using h)]
      rfl
theorem skip_le (l : List UInt8) : skip l ≤ l.length := by
  unfold skip
  exact (List.takeWhile_prefix _).length_le
/-- does a sign stand at the beginning, and a blank or nothing behind it -/
def signB (c : UInt8) (l : List UInt8) : Bool := match l with
  | [] => false
  | a :: r => a == c && (match r with | [] => true | b :: _ => b == 32)
/-- what may stand behind a key, or alone -/
def value (n col : Int) (s : List UInt8) : Tk × Int :=
  if s = [91, 93] then ((6, [], n, col), 0)
  else if s = [123, 125] then ((7, [], n, col), 0)
  else if (P18.cut s).2 ≠ 0 ∨ (P18.cut s).1 ≠ s.length then ((0, [], 0, 0), 3)
  else ((5, (P18.read s).1, n, col), (P18.read s).2)
/-- a line's tokens, or what is wrong; f: at most so many dashes and one more -/
def line : Nat → Int → Int → List UInt8 → List Tk × Int
  | 0, _, _, _ => ([], 0)
  | f + 1, n, col, s =>
    if signB 45 s then
      if 1 + skip (s.drop 1) = s.length then ([(3, [], n, col)], 0)
      else if (line f n (col + (1 + skip (s.drop 1) : Nat)) (s.drop (1 + skip (s.drop 1)))).2 ≠ 0 then ([], (line f n (col + (1 + skip (s.drop 1) : Nat)) (s.drop (1 + skip (s.drop 1)))).2)
      else ((3, [], n, col) :: (line f n (col + (1 + skip (s.drop 1) : Nat)) (s.drop (1 + skip (s.drop 1)))).1, 0)
    else if s = [91, 93] then ([(6, [], n, col)], 0)
    else if s = [123, 125] then ([(7, [], n, col)], 0)
    else if (P18.cut s).2 ≠ 0 then ([], 3)
    else if (P18.cut s).1 < s.length ∧ signB 58 (s.drop (P18.cut s).1) = false then ([], 3)
    else if (P18.read (s.take (P18.cut s).1)).2 ≠ 0 then ([], (P18.read (s.take (P18.cut s).1)).2)
    else if (P18.cut s).1 = s.length then ([(5, (P18.read (s.take (P18.cut s).1)).1, n, col)], 0)
    else if (P18.cut s).1 + 1 + skip (s.drop ((P18.cut s).1 + 1)) = s.length then ([(4, (P18.read (s.take (P18.cut s).1)).1, n, col)], 0)
    else if (value n (col + ((P18.cut s).1 + 1 + skip (s.drop ((P18.cut s).1 + 1)) : Nat)) (s.drop ((P18.cut s).1 + 1 + skip (s.drop ((P18.cut s).1 + 1))))).2 ≠ 0 then
      ([], (value n (col + ((P18.cut s).1 + 1 + skip (s.drop ((P18.cut s).1 + 1)) : Nat)) (s.drop ((P18.cut s).1 + 1 + skip (s.drop ((P18.cut s).1 + 1))))).2)
    else ([(4, (P18.read (s.take (P18.cut s).1)).1, n, col), (value n (col + ((P18.cut s).1 + 1 + skip (s.drop ((P18.cut s).1 + 1)) : Nat)) (s.drop ((P18.cut s).1 + 1 + skip (s.drop ((P18.cut s).1 + 1))))).1], 0)
/-- a line's tokens -/
def toks (n col : Int) (s : List UInt8) : List Tk × Int := line (s.length + 1) n col s
/-- how far a line with a dash goes on -/
theorem dash_shorter (s : List UInt8) (h : signB 45 s = true) : (s.drop (1 + skip (s.drop 1))).length < s.length := by
  cases s with
  | nil => cases h
  | cons a r => simp; omega
theorem line_fuel : ∀ (f g : Nat) (n col : Int) (s : List UInt8), s.length < f → s.length < g → line f n col s = line g n col s
  | 0, g, n, col, s, h, _ => absurd h (Nat.not_lt_zero _)
  | f + 1, 0, n, col, s, _, h => absurd h (Nat.not_lt_zero _)
  | f + 1, g + 1, n, col, s, h1, h2 => by
    unfold line
    by_cases hs : signB 45 s = true
    · have hd := dash_shorter s hs
      rw [if_pos hs, if_pos hs, line_fuel f g n _ _ (by omega) (by omega)]
    · rw [if_neg hs, if_neg hs]
/-- what is left of a line, and where -/
abbrev Pt := Int × Int × List UInt8
/-- the token with which a part begins, and what is left -/
def next (value : Bool) (n col : Int) (s : List UInt8) : Tk × Pt × Int :=
  if (signB 45 s && !value) = true then ((3, [], n, col), (n, col + (1 + skip (s.drop 1) : Nat), s.drop (1 + skip (s.drop 1))), 0)
  else if s = [91, 93] then ((6, [], n, col), (0, 0, []), 0)
  else if s = [123, 125] then ((7, [], n, col), (0, 0, []), 0)
  else if (P18.cut s).2 ≠ 0 then ((0, [], 0, 0), (n, col, s), (P18.cut s).2)
  else if s.drop (P18.cut s).1 ≠ [] ∧ (signB 58 (s.drop (P18.cut s).1) && !value) = false then ((0, [], 0, 0), (n, col, s), 3)
  else if (P18.read (s.take (P18.cut s).1)).2 ≠ 0 then ((0, [], 0, 0), (n, col, s), (P18.read (s.take (P18.cut s).1)).2)
  else if (signB 58 (s.drop (P18.cut s).1) && !value) = true then ((4, (P18.read (s.take (P18.cut s).1)).1, n, col), (n, col + ((P18.cut s).1 + 1 + skip (s.drop ((P18.cut s).1 + 1)) : Nat), s.drop ((P18.cut s).1 + 1 + skip (s.drop ((P18.cut s).1 + 1)))), 0)
  else ((5, (P18.read (s.take (P18.cut s).1)).1, n, col), (0, 0, []), 0)
end P19
end Go.Proofs.YtbnheebblicgkaaDoor
