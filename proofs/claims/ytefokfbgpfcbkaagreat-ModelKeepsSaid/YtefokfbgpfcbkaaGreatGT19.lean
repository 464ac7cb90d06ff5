/- Slices of tokens that a call owns.; walks of rescriptref19: tok, skip, value; walks of tok.sign, part.tok, part.behind, part.none -/
import Derived.Test.YtefokfbgpfcbkaaGreatGP
import Derived.Test.YtefokfbgpfcbkaaGreatGR17
import Derived.Test.YtefokfbgpfcbkaaGreatWR18d
import Derived.Test.YtefokfbgpfcbkaaGreatShelf
import Derived.Test.YtefokfbgpfcbkaaGreatGV17
namespace Go.Proofs.YtefokfbgpfcbkaaGreat
set_option linter.unusedVariables false
set_option linter.unusedSimpArgs false
open Go.RowKit
/-- a token as a value -/
def tkV (t : Tk) : Value := .agg #[.int .u8 t.1, bsOf t.2.1, .int .i64 t.2.2.1, .int .i64 t.2.2.2]
def tkCells (t : Tk) : List Value := [.int .u8 t.1, bsOf t.2.1, .int .i64 t.2.2.1, .int .i64 t.2.2.2]
theorem four_set {W : World} {g : Nat} {t : TypeId} {a b c d : Value} (h : W.heap[g]? = some (.cells #[a, b, c, d] t)) (v0 v1 v2 v3 : Value) :
    ((((W.setCell ⟨g, 0, none⟩ v0).setCell ⟨g, 1, none⟩ v1).setCell ⟨g, 2, none⟩ v2).setCell ⟨g, 3, none⟩ v3).heap[g]? = some (.cells #[v0, v1, v2, v3] t) := by
  simp [World.setCell, Array.getElem?_modify, h]
theorem four_cell {W : World} {g : Nat} {t : TypeId} {a b c d : Value} (h : W.heap[g]? = some (.cells #[a, b, c, d] t)) :
    (W.cell? ⟨g, 0, none⟩ = some a ∧ W.frozen? ⟨g, 0, none⟩ = false) ∧ (W.cell? ⟨g, 1, none⟩ = some b ∧ W.frozen? ⟨g, 1, none⟩ = false) ∧ (W.cell? ⟨g, 2, none⟩ = some c ∧ W.frozen? ⟨g, 2, none⟩ = false) ∧ (W.cell? ⟨g, 3, none⟩ = some d ∧ W.frozen? ⟨g, 3, none⟩ = false) := by
  simp [World.cell?, World.frozen?, h]
def tksCells (ts : List Tk) : List Value := ts.flatMap tkCells
theorem tksCells_append (a b : List Tk) : tksCells (a ++ b) = tksCells a ++ tksCells b := by simp [tksCells]
theorem tksCells_len : ∀ ts : List Tk, (tksCells ts).length = ts.length * 4
  | [] => rfl
  | t :: ts => by
    have ih := tksCells_len ts
    have e : tksCells (t :: ts) = tkCells t ++ tksCells ts := rfl
    rw [e, List.length_append, ih, List.length_cons]
    show 4 + _ = _
    omega
theorem tk_one : ∀ (ts : List Tk), ∀ u ∈ tksCells ts, u.oneCell' = true := by
  intro ts u hu
  simp only [tksCells, List.mem_flatMap] at hu
  obtain ⟨t, _, ht⟩ := hu
  simp only [tkCells, List.mem_cons, List.not_mem_nil, or_false] at ht
  rcases ht with rfl | rfl | rfl | rfl <;> rfl
end Go.Proofs.YtefokfbgpfcbkaaGreat
namespace Go.Proofs.YtefokfbgpfcbkaaGreat
set_option linter.unusedVariables false
set_option linter.unusedSimpArgs false
open Go.RowKit
theorem skip_at (s : ByteArray) (k : Nat) (h : k < s.size) : P19.skip (s.data.toList.drop k) = if s[k] = 32 then P19.skip (s.data.toList.drop (k + 1)) + 1 else 0 := by
  have hl : k < s.data.toList.length := by rw [← Lib.size_eq]; exact h
  rw [drop_byte s k h]
  unfold P19.skip
  by_cases h32 : s[k] = 32
  · rw [if_pos h32, h32, List.takeWhile_cons_of_pos (by rfl), List.length_cons]
  · rw [if_neg h32, List.takeWhile_cons_of_neg (by simpa using h32)]
    rfl
theorem str_eq_iff (s : ByteArray) (l : List UInt8) : (s.toList == l) = decide (s.data.toList = l) := by
  rw [Lib.toList_data]
  by_cases h : s.data.toList = l
  · rw [h]; simp
  · rw [decide_eq_false h]; simpa using h
theorem str_of {s : ByteArray} {l : List UInt8} (h : s.data.toList = l) : s = ⟨l.toArray⟩ := P18.bytes_ext h
theorem str_ne {s : ByteArray} {l : List UInt8} (h : s.data.toList ≠ l) : (s.toList == l) = false := by rw [str_eq_iff, decide_eq_false h]
theorem ne_list {s : ByteArray} {l : List UInt8} (h : s.data.toList ≠ l) : (s.toList == (⟨l.toArray⟩ : ByteArray).toList) = false := by
  rw [Lib.toList_data, Lib.toList_data, beq_eq_false_iff_ne]
  simpa using h
theorem results_cell_tmp {fn : Func} {p u : Tmp} {ty : TypeId} (h : fn.results = #[.cell p ty, .tmp u]) (tmps : Array Value) (P : Program) (w : World) (g : Nat) (v : Value)
    (hp : tmps.getD p undef = .pointer (some ⟨g, 0, none⟩)) (hl : (loadVar ty ⟨g, 0, none⟩).run P w = .ok v w) :
    (results fn tmps).run P w = .ok (.tuple #[v, tmps.getD u undef]) w := by
  have hp' : tmps[p]?.getD undef = .pointer (some ⟨g, 0, none⟩) := by simpa using hp
  simp [results, h, hp', asAddr, Sem.run_bind, Result.andThen, hl]
theorem below_four {w W : World} {g : Nat} (h : Below w.heap.size w W) (hg : w.heap.size ≤ g) (v0 v1 v2 v3 : Value) : Below w.heap.size w ((((W.setCell ⟨g, 0, none⟩ v0).setCell ⟨g, 1, none⟩ v1).setCell ⟨g, 2, none⟩ v2).setCell ⟨g, 3, none⟩ v3) :=
  below_set (below_set (below_set (below_set h 0 _ hg) 1 _ hg) 2 _ hg) 3 _ hg
end Go.Proofs.YtefokfbgpfcbkaaGreat
namespace Go.Proofs.YtefokfbgpfcbkaaGreat
set_option linter.unusedVariables false
set_option linter.unusedSimpArgs false
open Go.RowKit Go.Shelf
theorem extract_drop' (s : ByteArray) (k : Nat) : (s.extract k s.size).data.toList = s.data.toList.drop k := by
  rw [Lib.extract_data, List.take_of_length_le (by rw [List.length_drop, ← Lib.size_eq]; exact Nat.le_refl _)]
theorem alloc2_new (w : World) (o1 o2 : Obj) : ((w.alloc o1).alloc o2).heap[w.heap.size + 1]? = some o2 := by
  have h := World.alloc_heap_new (w.alloc o1) o2
  rw [World.size_alloc] at h
  exact h
theorem hasPrefix_nil (c : UInt8) : Lib.hasPrefix [] [c] = false := rfl
theorem hasPrefix_one (a c : UInt8) (r : List UInt8) : Lib.hasPrefix (a :: r) [c] = (a == c) := by
  show (List.isPrefixOf [c] (a :: r)) = _
  simp only [List.isPrefixOf, Bool.and_true]
  by_cases h : a = c
  · subst h; simp
  · rw [beq_eq_false_iff_ne.2 h, beq_eq_false_iff_ne.2 (fun e => h e.symm)]
theorem trimPrefix_yes (c : UInt8) (r : List UInt8) : Lib.trimPrefix (c :: r) [c] = r := by
  unfold Lib.trimPrefix
  rw [hasPrefix_one]
  simp
theorem trimPrefix_no {l : List UInt8} {c : UInt8} (h : Lib.hasPrefix l [c] = false) : Lib.trimPrefix l [c] = l := by
  unfold Lib.trimPrefix
  rw [h]
  simp
theorem trimL_skip (s : ByteArray) (k : Nat) : trimL (s.data.toList.drop k) = s.data.toList.drop (k + P19.skip (s.data.toList.drop k)) := by
  rw [← P19.skip_drop, List.drop_drop]
end Go.Proofs.YtefokfbgpfcbkaaGreat
