/- walk of part.next; Plain laws of layer 19: what is yielded, part by part, are a line's tokens.; Plain laws of layer 19: a text's tokens: what is opened and closed.; A range over a function whose iterator makes memory of its own in every round: what the caller may write is said (M, from round to round), what nobody may write is said (R); the iterator writes neither, the caller's round writes only what is in M or new. -/
import Derived.Test.YtefokfbgpfcbkaaGreatGA
import Derived.Test.YtefokfbgpfcbkaaGreatGT19
import Derived.Test.YtefokfbgpfcbkaaGreatGW18
import Derived.Test.YtefokfbgpfcbkaaGreatGR17
import Derived.Deep.CutRange
import Derived.Deep.CutBlock
import Derived.Deep.RegionWith
import Derived.Shelf.RegionOpenPlain
import Derived.Test.YtefokfbgpfcbkaaGreatGP
import Derived.Test.YtefokfbgpfcbkaaGreatGV17
import Derived.RangeFuncNested
import Derived.RangeFuncBound
import Derived.RangeFuncCalls
import Derived.RangeFuncLeaves
import Derived.Shelf.Abstract
import Derived.Shelf.RegionOpen
import Derived.WalkKit
import Derived.OwnWalkIn
import Derived.TacticsInMore
import Derived.LoopNIn
import Derived.LoopIn
namespace Go.Proofs.YtefokfbgpfcbkaaGreat
set_option linter.unusedVariables false
set_option linter.unusedSimpArgs false
open Go.RowKit Go.Shelf
def ptV (p : P19.Pt) : Value := .agg #[.int .i64 p.1, .int .i64 p.2.1, bsOf p.2.2]
theorem three_set {W : World} {g : Nat} {t : TypeId} {a b c : Value} (h : W.heap[g]? = some (.cells #[a, b, c] t)) (v0 v1 v2 : Value) :
    (((W.setCell ⟨g, 0, none⟩ v0).setCell ⟨g, 1, none⟩ v1).setCell ⟨g, 2, none⟩ v2).heap[g]? = some (.cells #[v0, v1, v2] t) := by
  simp [World.setCell, Array.getElem?_modify, h]
theorem three_cell {W : World} {g : Nat} {t : TypeId} {a b c : Value} (h : W.heap[g]? = some (.cells #[a, b, c] t)) :
    (W.cell? ⟨g, 0, none⟩ = some a ∧ W.frozen? ⟨g, 0, none⟩ = false) ∧ (W.cell? ⟨g, 1, none⟩ = some b ∧ W.frozen? ⟨g, 1, none⟩ = false) ∧ (W.cell? ⟨g, 2, none⟩ = some c ∧ W.frozen? ⟨g, 2, none⟩ = false) := by
  simp [World.cell?, World.frozen?, h]
theorem three_other {W : World} {g g' : Nat} (h : g' ≠ g) (v0 v1 v2 : Value) : (((W.setCell ⟨g, 0, none⟩ v0).setCell ⟨g, 1, none⟩ v1).setCell ⟨g, 2, none⟩ v2).heap[g']? = W.heap[g']? := by
  rw [Below.heap_setCell _ _ _ _ h, Below.heap_setCell _ _ _ _ h, Below.heap_setCell _ _ _ _ h]
theorem four_other {W : World} {g g' : Nat} (h : g' ≠ g) (v0 v1 v2 v3 : Value) : ((((W.setCell ⟨g, 0, none⟩ v0).setCell ⟨g, 1, none⟩ v1).setCell ⟨g, 2, none⟩ v2).setCell ⟨g, 3, none⟩ v3).heap[g']? = W.heap[g']? := by
  rw [Below.heap_setCell _ _ _ _ h, Below.heap_setCell _ _ _ _ h, Below.heap_setCell _ _ _ _ h, Below.heap_setCell _ _ _ _ h]
theorem below_three {w W : World} {g : Nat} (h : Below w.heap.size w W) (hg : w.heap.size ≤ g) (v0 v1 v2 : Value) : Below w.heap.size w (((W.setCell ⟨g, 0, none⟩ v0).setCell ⟨g, 1, none⟩ v1).setCell ⟨g, 2, none⟩ v2) :=
  below_set (below_set (below_set h 0 _ hg) 1 _ hg) 2 _ hg
theorem drewH {X : World} {g : Nat} {o : Option Obj} (h : X.heap[g]? = o) : X.drew.heap[g]? = o := h
theorem results_cct {fn : Func} {p q u : Tmp} {tp tq : TypeId} (h : fn.results = #[.cell p tp, .cell q tq, .tmp u]) (tmps : Array Value) (P : Program) (w : World) (g1 g2 : Nat) (v1 v2 : Value)
    (hp : tmps.getD p undef = .pointer (some ⟨g1, 0, none⟩)) (hl : (loadVar tp ⟨g1, 0, none⟩).run P w = .ok v1 w)
    (hq : tmps.getD q undef = .pointer (some ⟨g2, 0, none⟩)) (hm : (loadVar tq ⟨g2, 0, none⟩).run P w = .ok v2 w) :
    (results fn tmps).run P w = .ok (.tuple #[v1, v2, tmps.getD u undef]) w := by
  have hp' : tmps[p]?.getD undef = .pointer (some ⟨g1, 0, none⟩) := by simpa using hp
  have hq' : tmps[q]?.getD undef = .pointer (some ⟨g2, 0, none⟩) := by simpa using hq
  simp [results, h, hp', hq', asAddr, Sem.run_bind, Result.andThen, hl, hm]
theorem cut_le' (l : List UInt8) : (P18.cut l).1 ≤ l.length := by
  unfold P18.cut
  split
  · split
    · rename_i n h
      have := P18.cutQ_bd l 0 false n h
      simpa using this.2
    · simp
  · split
    · simp
    · exact P18.plainLen_le l false
end Go.Proofs.YtefokfbgpfcbkaaGreat
namespace Go.Proofs.YtefokfbgpfcbkaaGreat
set_option linter.unusedVariables false
set_option linter.unusedSimpArgs false
namespace P19
/-- what a line's iterator hands over -/
def steps : Nat → Bool → Int → Int → List UInt8 → List (Tk × Int)
  | 0, _, _, _, _ => []
  | f + 1, v, n, col, s => ((next v n col s).1, (next v n col s).2.2) ::
    if (next v n col s).2.2 ≠ 0 ∨ (next v n col s).2.1.2.2 = [] then [] else steps f ((next v n col s).1.1 == 4) (next v n col s).2.1.1 (next v n col s).2.1.2.1 (next v n col s).2.1.2.2
/-- all of it, or the first error -/
def gather : List (Tk × Int) → List Tk × Int
  | [] => ([], 0)
  | (t, e) :: r => if e ≠ 0 then ([], e) else if (gather r).2 ≠ 0 then ([], (gather r).2) else (t :: (gather r).1, 0)
theorem cut_err (s : List UInt8) (h : (P18.cut s).2 ≠ 0) : (P18.cut s).2 = 3 := by
  unfold P18.cut at h ⊢
  repeat' split at h
  all_goals first | (exact absurd rfl h) | skip
  all_goals (repeat' split)
  all_goals first | rfl | simp_all
theorem cut_len (l : List UInt8) : (P18.cut l).1 ≤ l.length := by
  unfold P18.cut
  split
  · split
    · rename_i n h
      have := P18.cutQ_bd l 0 false n h
      simpa using this.2
    · simp
  · split
    · simp
    · exact P18.plainLen_le l false
theorem next_true (n col : Int) (s : List UInt8) : (next true n col s).2.2 = (value n col s).2 ∧ ((value n col s).2 = 0 → (next true n col s).1 = (value n col s).1 ∧ (next true n col s).2.1.2.2 = []) := by
  have hs : ¬ (signB 45 s && !true) = true := by simp
  have hk : ∀ x, (signB 58 x && !true) = false := by simp
  have hk2 : ∀ x, ¬ (signB 58 x && !true) = true := by simp
  by_cases h1 : s = [91, 93]
  · rw [next, value, if_neg hs, if_pos h1, if_pos h1]; exact ⟨rfl, fun _ => ⟨rfl, rfl⟩⟩
  by_cases h2 : s = [123, 125]
  · rw [next, value, if_neg hs, if_neg h1, if_neg h1, if_pos h2, if_pos h2]; exact ⟨rfl, fun _ => ⟨rfl, rfl⟩⟩
  by_cases h3 : (P18.cut s).2 ≠ 0
  · rw [next, value, if_neg hs, if_neg h1, if_neg h1, if_neg h2, if_neg h2, if_pos h3, if_pos (.inl h3), cut_err s h3]
    exact ⟨rfl, fun h => by simp at h⟩
  by_cases h4 : (P18.cut s).1 = s.length
  · have hd : ¬ (s.drop (P18.cut s).1 ≠ [] ∧ (signB 58 (s.drop (P18.cut s).1) && !true) = false) := by
      rintro ⟨h, _⟩
      exact h (List.drop_eq_nil_of_le (by omega))
    have hv : ¬ ((P18.cut s).2 ≠ 0 ∨ (P18.cut s).1 ≠ s.length) := by
      rintro (h | h)
      · exact h3 h
      · exact h h4
    have ht : s.take (P18.cut s).1 = s := List.take_of_length_le (by omega)
    by_cases h5 : (P18.read s).2 ≠ 0
    · have e1 : next true n col s = ((0, [], 0, 0), (n, col, s), (P18.read s).2) := by
        rw [next, if_neg hs, if_neg h1, if_neg h2, if_neg h3, if_neg hd, ht, if_pos h5]
      have e2 : value n col s = ((5, (P18.read s).1, n, col), (P18.read s).2) := by
        rw [value, if_neg h1, if_neg h2, if_neg hv]
      rw [e1, e2]
      exact ⟨rfl, fun h => absurd h h5⟩
    · have e1 : next true n col s = ((5, (P18.read s).1, n, col), (0, 0, []), 0) := by
        rw [next, if_neg hs, if_neg h1, if_neg h2, if_neg h3, if_neg hd, ht, if_neg h5, if_neg (hk2 _)]
      have e2 : value n col s = ((5, (P18.read s).1, n, col), (P18.read s).2) := by
        rw [value, if_neg h1, if_neg h2, if_neg hv]
      have h6 : (P18.read s).2 = 0 := by simpa using h5
      rw [e1, e2, h6]
      exact ⟨rfl, fun _ => ⟨rfl, rfl⟩⟩
  · have hd : s.drop (P18.cut s).1 ≠ [] := by
      have := cut_len s
      rw [ne_eq, List.drop_eq_nil_iff]
      omega
    rw [next, value, if_neg hs, if_neg h1, if_neg h1, if_neg h2, if_neg h2, if_neg h3, if_pos ⟨hd, hk _⟩, if_pos (.inr h4)]
    exact ⟨rfl, fun h => by simp at h⟩
theorem steps_true (f : Nat) (n col : Int) (s : List UInt8) : gather (steps (f + 1) true n col s) = if (value n col s).2 ≠ 0 then ([], (value n col s).2) else ([(value n col s).1], 0) := by
  obtain ⟨h1, h2⟩ := next_true n col s
  unfold steps gather
  rw [h1]
  by_cases he : (value n col s).2 ≠ 0
  · rw [if_pos he, if_pos he]
  · have he0 : (value n col s).2 = 0 := by simpa using he
    obtain ⟨h3, h4⟩ := h2 he0
    rw [if_neg he, if_neg he, if_pos (show (value n col s).2 ≠ 0 ∨ (next true n col s).2.1.2.2 = [] from .inr h4), h3]
    rfl
theorem steps_line : ∀ (f : Nat) (n col : Int) (s : List UInt8), s.length < f → gather (steps f false n col s) = line f n col s
  | 0, n, col, s, h => absurd h (Nat.not_lt_zero _)
  | f + 1, n, col, s, h => by
    have ih := steps_line f n
    by_cases hs : signB 45 s = true
    · have hn : next false n col s = ((3, [], n, col), (n, col + (1 + skip (s.drop 1) : Nat), s.drop (1 + skip (s.drop 1))), 0) := by
        rw [next, if_pos (by rw [hs]; rfl)]
      have hd := dash_shorter s hs
      rw [steps, gather, line, if_pos hs, hn]
      simp only
      rw [if_neg (by simp)]
      by_cases hk : 1 + skip (s.drop 1) = s.length
      · have he : s.drop (1 + skip (s.drop 1)) = [] := List.drop_eq_nil_of_le (by omega)
        rw [if_pos hk, if_pos (show (0 : Int) ≠ 0 ∨ s.drop (1 + skip (s.drop 1)) = [] from .inr he)]
        rfl
      · have he : s.drop (1 + skip (s.drop 1)) ≠ [] := by
          have h1 := skip_le (s.drop 1)
          rw [List.length_drop] at h1
          rw [ne_eq, List.drop_eq_nil_iff]
          have h2 : 1 ≤ s.length := by
            cases s with
            | nil => cases hs
            | cons a r => simp
          omega
        rw [if_neg hk, if_neg (show ¬ ((0 : Int) ≠ 0 ∨ s.drop (1 + skip (s.drop 1)) = []) by rw [not_or]; exact ⟨by simp, he⟩)]
        rw [show ((3 : Nat) == 4) = false from rfl, ih _ _ (by omega)]
    · have hs2 : ¬ (signB 45 s && !false) = true := by simpa using hs
      rw [line, if_neg hs]
      by_cases h1 : s = [91, 93]
      · have hn : next false n col s = ((6, [], n, col), (0, 0, []), 0) := by rw [next, if_neg hs2, if_pos h1]
        rw [steps, gather, hn, if_pos h1]
        rfl
      by_cases h2 : s = [123, 125]
      · have hn : next false n col s = ((7, [], n, col), (0, 0, []), 0) := by rw [next, if_neg hs2, if_neg h1, if_pos h2]
        rw [steps, gather, hn, if_neg h1, if_pos h2]
        rfl
      rw [if_neg h1, if_neg h2]
      by_cases h3 : (P18.cut s).2 ≠ 0
      · have hn : next false n col s = ((0, [], 0, 0), (n, col, s), 3) := by rw [next, if_neg hs2, if_neg h1, if_neg h2, if_pos h3, cut_err s h3]; rfl
        rw [steps, gather, hn, if_pos h3]
        rfl
      rw [if_neg h3]
      have hcl := cut_len s
      have hkey : (signB 58 (s.drop (P18.cut s).1) && !false) = signB 58 (s.drop (P18.cut s).1) := by simp
      have hdk : s.drop (P18.cut s).1 ≠ [] ↔ (P18.cut s).1 < s.length := by
        rw [ne_eq, List.drop_eq_nil_iff]
        omega
      by_cases h4 : (P18.cut s).1 < s.length ∧ signB 58 (s.drop (P18.cut s).1) = false
      · have hn : next false n col s = ((0, [], 0, 0), (n, col, s), 3) := by rw [next, if_neg hs2, if_neg h1, if_neg h2, if_neg h3, if_pos ⟨hdk.2 h4.1, by rw [hkey]; exact h4.2⟩]
        rw [steps, gather, hn, if_pos h4]
        rfl
      rw [if_neg h4]
      have h4' : ¬ (s.drop (P18.cut s).1 ≠ [] ∧ (signB 58 (s.drop (P18.cut s).1) && !false) = false) := by
        rw [hkey]
        exact fun x => h4 ⟨hdk.1 x.1, x.2⟩
      by_cases h5 : (P18.read (s.take (P18.cut s).1)).2 ≠ 0
      · have hn : next false n col s = ((0, [], 0, 0), (n, col, s), (P18.read (s.take (P18.cut s).1)).2) := by rw [next, if_neg hs2, if_neg h1, if_neg h2, if_neg h3, if_neg h4', if_pos h5]
        rw [steps, gather, hn, if_pos h5]
        simp only
        rw [if_pos h5]
      rw [if_neg h5]
      by_cases h6 : (P18.cut s).1 = s.length
      · have hsg : signB 58 (s.drop (P18.cut s).1) = false := by
          rw [List.drop_eq_nil_of_le (by omega)]
          rfl
        have hn : next false n col s = ((5, (P18.read (s.take (P18.cut s).1)).1, n, col), (0, 0, []), 0) := by rw [next, if_neg hs2, if_neg h1, if_neg h2, if_neg h3, if_neg h4', if_neg h5, if_neg (by rw [hkey, hsg]; simp)]
        rw [steps, gather, hn, if_pos h6]
        rfl
      · have hsg : signB 58 (s.drop (P18.cut s).1) = true := by
          cases hx : signB 58 (s.drop (P18.cut s).1) with
          | true => rfl
          | false => exact absurd ⟨by omega, hx⟩ h4
        have hn : next false n col s = ((4, (P18.read (s.take (P18.cut s).1)).1, n, col), (n, col + ((P18.cut s).1 + 1 + skip (s.drop ((P18.cut s).1 + 1)) : Nat), s.drop ((P18.cut s).1 + 1 + skip (s.drop ((P18.cut s).1 + 1)))), 0) := by
          rw [next, if_neg hs2, if_neg h1, if_neg h2, if_neg h3, if_neg h4', if_neg h5, if_pos (by rw [hkey, hsg])]
        rw [steps, gather, hn, if_neg h6]
        simp only
        rw [if_neg (by simp)]
        have hsk := skip_le (s.drop ((P18.cut s).1 + 1))
        rw [List.length_drop] at hsk
        by_cases h7 : (P18.cut s).1 + 1 + skip (s.drop ((P18.cut s).1 + 1)) = s.length
        · have he : s.drop ((P18.cut s).1 + 1 + skip (s.drop ((P18.cut s).1 + 1))) = [] := List.drop_eq_nil_of_le (by omega)
          rw [if_pos h7, if_pos (show (0 : Int) ≠ 0 ∨ s.drop ((P18.cut s).1 + 1 + skip (s.drop ((P18.cut s).1 + 1))) = [] from .inr he)]
          rfl
        · have he : s.drop ((P18.cut s).1 + 1 + skip (s.drop ((P18.cut s).1 + 1))) ≠ [] := by
            rw [ne_eq, List.drop_eq_nil_iff]
            omega
          rw [if_neg h7, if_neg (show ¬ ((0 : Int) ≠ 0 ∨ s.drop ((P18.cut s).1 + 1 + skip (s.drop ((P18.cut s).1 + 1))) = []) by rw [not_or]; exact ⟨by simp, he⟩)]
          obtain ⟨f', rfl⟩ : ∃ f', f = f' + 1 := ⟨f - 1, by omega⟩
          rw [show ((4 : Nat) == 4) = true from rfl, steps_true]
          by_cases h8 : (value n (col + ((P18.cut s).1 + 1 + skip (s.drop ((P18.cut s).1 + 1)) : Nat)) (s.drop ((P18.cut s).1 + 1 + skip (s.drop ((P18.cut s).1 + 1))))).2 ≠ 0
          · rw [if_pos h8, if_pos h8]
            simp only
            rw [if_pos h8]
          · rw [if_neg h8, if_neg h8]
            rfl
end P19
end Go.Proofs.YtefokfbgpfcbkaaGreat
namespace Go.Proofs.YtefokfbgpfcbkaaGreat
set_option linter.unusedVariables false
set_option linter.unusedSimpArgs false
namespace P19
/-- as many as are above a place: their tokens, and the row of places (the last one first) -/
def close (n col tc : Int) : List Int → List Tk × List Int
  | [] => ([], [])
  | x :: st => if col < x then ((2, [], n, tc) :: (close n col tc st).1, (close n col tc st).2) else ([], x :: st)
/-- the last place -/
def top (st : List Int) : Int := st.headD 0
/-- one token more -/
def turn (b : Bool) (k : Nat) (n : Int) (t : Tk) (out : List Tk) (st : List Int) : Int × List Tk × List Int :=
  if b = true ∧ t.2.2.2 < top st then
    if top (close n t.2.2.2 t.2.2.2 st).2 ≠ t.2.2.2 then (3, [], []) else (0, out ++ (close n t.2.2.2 t.2.2.2 st).1 ++ [t], (close n t.2.2.2 t.2.2.2 st).2)
  else if (b = true ∧ top st < t.2.2.2) ∨ (b = false ∧ k = 3) then
    if 16 ≤ st.length then (11, [], []) else (0, out ++ [(1, [], n, t.2.2.2)] ++ [t], t.2.2.2 :: st)
  else (0, out ++ [t], st)
/-- a line's tokens more -/
def adds (n : Int) : Bool → Nat → List Tk → List Tk → List Int → Int × List Tk × List Int
  | _, _, [], out, st => (0, out, st)
  | b, k, t :: r, out, st => if (turn b k n t out st).1 ≠ 0 then ((turn b k n t out st).1, [], []) else adds n false t.1 r (turn b k n t out st).2.1 (turn b k n t out st).2.2
/-- a row's tokens -/
abbrev rowT (r : Nat × Nat × List UInt8) : List Tk × Int := toks r.1 r.2.1 r.2.2
/-- all lines' tokens -/
def allR : Bool → List (Nat × Nat × List UInt8) → List Tk → List Int → Int → List Tk × Int × Int
  | _, [], out, st, last => (out ++ (close last 0 0 st).1, 0, 0)
  | b, r :: rs, out, st, last =>
    if (rowT r).2 ≠ 0 then ([], (rowT r).2, r.1)
    else if b = true ∧ 0 < r.2.1 then ([], 3, r.1)
    else if (adds r.1 true 0 (rowT r).1 out st).1 ≠ 0 then ([], (adds r.1 true 0 (rowT r).1 out st).1, r.1)
    else allR false rs (adds r.1 true 0 (rowT r).1 out st).2.1 (adds r.1 true 0 (rowT r).1 out st).2.2 r.1
/-- a text's tokens -/
def all (s : List UInt8) : List Tk × Int × Int :=
  if (check17 s).1 ≠ 0 then ([], (check17 s).1, (check17 s).2) else allR true (rows17 s) [] [0] 0
/-- a row of places: 0 is the first, all others are above it -/
def Row (st : List Int) : Prop := ∃ l, st = l ++ [0] ∧ ∀ x ∈ l, 0 < x
theorem row_zero : Row [0] := ⟨[], rfl, by simp⟩
theorem row_ne {st : List Int} (h : Row st) : st ≠ [] := by
  obtain ⟨l, rfl, _⟩ := h
  simp
theorem row_push {st : List Int} {x : Int} (h : Row st) (hx : 0 < x) : Row (x :: st) := by
  obtain ⟨l, rfl, hl⟩ := h
  exact ⟨x :: l, rfl, by simpa [hx] using hl⟩
theorem row_top {st : List Int} (h : Row st) : 0 ≤ top st := by
  obtain ⟨l, rfl, hl⟩ := h
  cases l with
  | nil => exact Int.le_refl _
  | cons a r => exact Int.le_of_lt (hl a (by simp))
theorem row_pop {x : Int} {st : List Int} (h : Row (x :: st)) (hx : 0 < x) : Row st := by
  obtain ⟨l, hl, h2⟩ := h
  cases l with
  | nil => simp at hl; omega
  | cons a r =>
    simp at hl
    exact ⟨r, hl.2, fun y hy => h2 y (by simp [hy])⟩
theorem close_row {n col tc : Int} (hc : 0 ≤ col) : ∀ {st : List Int}, Row st → Row (close n col tc st).2
  | [], h => absurd rfl (row_ne h)
  | x :: st, h => by
    unfold close
    by_cases hx : col < x
    · rw [if_pos hx]
      exact close_row hc (row_pop h (by omega))
    · rw [if_neg hx]
      exact h
theorem close_len (n col tc : Int) : ∀ st : List Int, (close n col tc st).1.length + (close n col tc st).2.length = st.length
  | [] => rfl
  | x :: st => by
    have ih := close_len n col tc st
    unfold close
    by_cases hx : col < x
    · rw [if_pos hx]
      simp only [List.length_cons]
      omega
    · rw [if_neg hx]
      simp
/-- at the end all but the first are closed -/
theorem close_all (n : Int) : ∀ {st : List Int}, Row st → close n 0 0 st = (List.replicate (st.length - 1) (2, [], n, 0), [0])
  | [], h => absurd rfl (row_ne h)
  | x :: st, h => by
    obtain ⟨l, hl, h2⟩ := h
    cases l with
    | nil =>
      simp at hl
      obtain ⟨rfl, rfl⟩ := hl
      rfl
    | cons a r =>
      simp only [List.cons_append, List.cons.injEq] at hl
      obtain ⟨rfl, rfl⟩ := hl
      have ih := close_all n (st := r ++ [0]) ⟨r, rfl, fun y hy => h2 y (by simp [hy])⟩
      have hx := h2 x (by simp)
      unfold close
      rw [if_pos hx, ih]
      simp only [List.length_append, List.length_cons, List.length_nil, Nat.zero_add, Nat.add_sub_cancel]
      rw [List.replicate_succ]
/-- where a line's tokens stand -/
def LineOk (n col : Int) (k : Nat) (p : List Tk × Int) : Prop := (∀ t ∈ p.1, t.2.2.1 = n ∧ col ≤ t.2.2.2 ∧ t.2.2.2 ≤ col + k ∧ t.1 < 8) ∧ (∀ t ∈ p.1.head?, t.2.2.2 = col) ∧ (∀ t ∈ p.1.tail, col < t.2.2.2)
theorem line_at : ∀ (f : Nat) (n col : Int) (s : List UInt8), LineOk n col s.length (line f n col s)
  | 0, n, col, s => by simp [line, LineOk]
  | f + 1, n, col, s => by
    have hv : ∀ (c : Int) (x : List UInt8), (value n c x).2 = 0 → (value n c x).1.2.2.1 = n ∧ (value n c x).1.2.2.2 = c ∧ (value n c x).1.1 < 8 := by
      intro c x h
      unfold value at h ⊢
      split
      · exact ⟨rfl, rfl, by simp⟩
      · rename_i h1
        rw [if_neg h1] at h
        split
        · exact ⟨rfl, rfl, by simp⟩
        · rename_i h2
          rw [if_neg h2] at h
          split
          · rename_i h3
            rw [if_pos h3] at h
            simp at h
          · exact ⟨rfl, rfl, by simp⟩
    unfold line
    by_cases hs : signB 45 s = true
    · rw [if_pos hs]
      have ih := line_at f n (col + (1 + skip (s.drop 1) : Nat)) (s.drop (1 + skip (s.drop 1)))
      have hsk := skip_le (s.drop 1)
      have hlen : 1 ≤ s.length := by
        cases s with
        | nil => cases hs
        | cons a r => simp
      rw [List.length_drop] at hsk
      split
      · simp [LineOk]; omega
      · split
        · simp [LineOk]
        · refine ⟨?_, ?_, ?_⟩
          · intro t ht
            rcases List.mem_cons.1 ht with rfl | ht
            · exact ⟨rfl, Int.le_refl _, by simp; omega, by simp⟩
            · have h1 := ih.1 t ht
              rw [List.length_drop] at h1
              refine ⟨h1.1, by omega, by omega, h1.2.2.2⟩
          · simp
          · intro t ht
            have h1 := ih.1 t (by simpa using ht)
            omega
    · rw [if_neg hs]
      repeat' split
      all_goals try (simp [LineOk]; done)
      all_goals try (simp [LineOk]; omega)
      rename_i h8
      have hk := skip_le (s.drop ((P18.cut s).1 + 1))
      rw [List.length_drop] at hk
      have hcl := cut_len s
      have hv2 := hv _ _ (Decidable.not_not.1 h8)
      refine ⟨?_, by simp, ?_⟩
      · intro t ht
        simp only [List.mem_cons, List.not_mem_nil, or_false] at ht
        rcases ht with rfl | rfl
        · exact ⟨rfl, Int.le_refl _, by simp; omega, by simp⟩
        · rw [hv2.1, hv2.2.1]
          refine ⟨rfl, by omega, by omega, hv2.2.2⟩
      · intro t ht
        simp only [List.tail_cons, List.mem_cons, List.not_mem_nil, or_false] at ht
        subst ht
        rw [hv2.2.1]
        omega
theorem toks_len (n col : Int) (s : List UInt8) : (toks n col s).1.length ≤ s.length + 1 := by
  have key : ∀ (f : Nat) (n col : Int) (s : List UInt8), 1 ≤ s.length ∨ (line f n col s).1.length ≤ 1 → (line f n col s).1.length ≤ s.length + 1 := by
    intro f
    induction f with
    | zero => intro n col s _; simp [line]
    | succ f ih =>
      intro n col s h0
      rcases h0 with h0 | h0
      · unfold line
        by_cases hs : signB 45 s = true
        · have h2 := dash_shorter s hs
          have hsk := skip_le (s.drop 1)
          rw [List.length_drop] at hsk
          rw [if_pos hs]
          split
          · simp
          · rename_i hk
            split
            · simp
            · have h1 := ih n (col + (1 + skip (s.drop 1) : Nat)) (s.drop (1 + skip (s.drop 1))) (.inl (by rw [List.length_drop]; omega))
              rw [List.length_cons]
              omega
        · rw [if_neg hs]
          repeat' split
          all_goals simp
          all_goals omega
      · omega
  unfold toks
  refine key _ _ _ _ ?_
  rcases Nat.eq_zero_or_pos s.length with h | h
  · right
    obtain rfl := List.eq_nil_of_length_eq_zero h
    unfold line
    rw [if_neg (by decide), if_neg (by decide), if_neg (by decide)]
    repeat' split
    all_goals try simp
    rename_i h1 h2 h3 h4 h5 h6
    have := cut_len []
    exact absurd (by simpa using this) h4
  · exact .inl h
theorem turn_row {b : Bool} {k : Nat} {n : Int} {t : Tk} {out : List Tk} {st : List Int} (h : Row st) (hc : 0 ≤ t.2.2.2) (hk : b = false → 0 < t.2.2.2) (h0 : (turn b k n t out st).1 = 0) (hl : st.length ≤ 16) :
    Row (turn b k n t out st).2.2 ∧ (turn b k n t out st).2.2.length ≤ 16 ∧ (turn b k n t out st).2.1.length ≤ out.length + (if b = true then 17 else 2) := by
  have h3 := close_len n t.2.2.2 t.2.2.2 st
  unfold turn at h0 ⊢
  split
  · rename_i h1
    rw [if_pos h1] at h0
    split
    · rename_i h2
      rw [if_pos h2] at h0
      simp at h0
    · have h4 : (close n t.2.2.2 t.2.2.2 st).2 ≠ [] := row_ne (close_row hc h)
      have h5 : 0 < (close n t.2.2.2 t.2.2.2 st).2.length := List.length_pos_iff.2 h4
      refine ⟨close_row hc h, by simp only; omega, ?_⟩
      simp only [List.length_append, List.length_cons, List.length_nil]
      rw [if_pos h1.1]
      omega
  · rename_i h1
    rw [if_neg h1] at h0
    split
    · rename_i h2
      rw [if_pos h2] at h0
      split
      · rename_i h3
        rw [if_pos h3] at h0
        simp at h0
      · have ht := row_top h
        refine ⟨row_push h ?_, by simp; omega, ?_⟩
        · rcases h2 with h2 | h2
          · omega
          · exact hk h2.1
        · simp only [List.length_append, List.length_cons, List.length_nil]
          split <;> omega
    · refine ⟨h, hl, ?_⟩
      simp only [List.length_append, List.length_cons, List.length_nil]
      split <;> omega
theorem adds_row {n : Int} : ∀ (ts : List Tk) (b : Bool) (k : Nat) (out : List Tk) (st : List Int), Row st → st.length ≤ 16 → (∀ t ∈ ts, 0 ≤ t.2.2.2) → (b = false → ∀ t ∈ ts, 0 < t.2.2.2) → (∀ t ∈ ts.tail, 0 < t.2.2.2) → (adds n b k ts out st).1 = 0 →
    Row (adds n b k ts out st).2.2 ∧ (adds n b k ts out st).2.2.length ≤ 16 ∧ (adds n b k ts out st).2.1.length ≤ out.length + 2 * ts.length + (if b = true then 15 else 0)
  | [], b, k, out, st, h, hl, _, _, _, _ => by
    refine ⟨h, hl, ?_⟩
    show out.length ≤ _
    omega
  | t :: r, b, k, out, st, h, hl, hc, hb, ht, h0 => by
    unfold adds at h0 ⊢
    by_cases h1 : (turn b k n t out st).1 ≠ 0
    · rw [if_pos h1] at h0
      exact absurd h0 h1
    · rw [if_neg h1] at h0 ⊢
      have h2 := turn_row h (hc t (by simp)) (fun e => hb e t (by simp)) (by simpa using h1) hl
      have ih := adds_row r false t.1 _ _ h2.1 h2.2.1 (fun x hx => hc x (by simp [hx])) (fun _ x hx => ht x (by simpa using hx)) (fun x hx => ht x (List.mem_of_mem_tail hx)) h0
      refine ⟨ih.1, ih.2.1, ?_⟩
      have h3 := h2.2.2
      have h4 := ih.2.2
      simp only [List.length_cons]
      revert h3 h4
      cases b <;> simp <;> omega
/-- how much rows have -/
def weight (rs : List (Nat × Nat × List UInt8)) : Nat := (rs.map (fun r => r.2.2.length + 1)).sum
theorem weight_rows : ∀ (k : Nat) (ls : List (List UInt8)), weight (rowsFrom k ls) ≤ (ls.map (fun l => l.length + 1)).sum
  | k, [] => Nat.le_refl _
  | k, l :: ls => by
    have ih := weight_rows (k + 1) ls
    unfold rowsFrom
    unfold weight at ih ⊢
    cases hr : rowOf k l with
    | none =>
      simp only [List.map_cons, List.sum_cons]
      omega
    | some r =>
      have h1 : r.2.2.length ≤ l.length := by
        unfold rowOf at hr
        split at hr
        · cases hr
        · injection hr with hr
          subst hr
          exact Nat.le_trans (trimL_len _) (strip_len _)
      simp only [List.map_cons, List.sum_cons]
      omega
theorem rawL_sum : ∀ s : List UInt8, ((rawL s).map List.length).sum = s.length
  | [] => rfl
  | c :: r => by
    have ih := rawL_sum r
    unfold rawL
    split
    · simp [ih]; omega
    · split
      · rename_i h
        rw [h] at ih
        simp at ih
        simp [List.eq_nil_of_length_eq_zero ih.symm]
      · rename_i l ls h
        rw [h] at ih
        simp at ih ⊢
        omega
theorem weight_le (s : List UInt8) : weight (rows17 s) ≤ 2 * s.length := by
  have h1 := weight_rows 0 (lines17 s)
  have h2 : ∀ ls : List (List UInt8), ((ls.map chop).map (fun l => l.length + 1)).sum ≤ (ls.map List.length).sum + ls.length := by
    intro ls
    induction ls with
    | nil => exact Nat.le_refl _
    | cons a r ih =>
      have hc : (chop a).length ≤ a.length := by
        unfold chop
        split
        · simp
        · exact Nat.le_refl _
      simp only [List.map_cons, List.sum_cons, List.length_cons] at ih ⊢
      omega
  have h3 := h2 (rawL s)
  have h4 := rawL_le s
  rw [rawL_sum] at h3
  unfold rows17
  unfold lines17 at h1 ⊢
  omega
end P19
end Go.Proofs.YtefokfbgpfcbkaaGreat
