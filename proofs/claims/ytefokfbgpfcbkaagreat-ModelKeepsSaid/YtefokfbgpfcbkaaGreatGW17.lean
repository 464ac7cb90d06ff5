/- walks of layer 17: the iterator of strings.Lines.; walks of layer 17: the iterator over a text's lines.; walks of layer 17: line.Count. -/
import Derived.Test.YtefokfbgpfcbkaaGreatGA
import Derived.Test.YtefokfbgpfcbkaaGreatGP
import Derived.Test.YtefokfbgpfcbkaaGreatShelf
namespace Go.Proofs.YtefokfbgpfcbkaaGreat
set_option linter.unusedVariables false
set_option linter.unusedSimpArgs false
open Go.RowKit Go.Shelf
attribute [local go_sem] Oper.semAt_some
def cellLen (b : Nat) (w : World) : Nat := match w.cell? ⟨b, 0, none⟩ with
  | some (.string x) => x.size
  | _ => 0
theorem cellLen_of {b : Nat} {w : World} {x : ByteArray} (h : w.cell? ⟨b, 0, none⟩ = some (.string x)) : cellLen b w = x.size := by unfold cellLen; rw [h]
def bsOf (l : List UInt8) : Value := .string ⟨l.toArray⟩
theorem bsOf_take (x : ByteArray) (q : Nat) : bsOf (x.data.toList.take q) = .string (x.extract 0 q) := by
  unfold bsOf; rw [Lib.extract_eq, List.drop_zero, Nat.sub_zero]
theorem bsOf_all (x : ByteArray) : bsOf x.data.toList = .string x := rfl
theorem index_some {l : List UInt8} {q : Nat} (h : feedAt l = some q) : Lib.indexByte l 10 = (q : Int) ∧ q < l.length := by
  induction l generalizing q with
  | nil => simp [feedAt] at h
  | cons c r ih =>
    unfold feedAt at h
    rw [List.findIdx?_cons] at h
    by_cases hc : c = 10
    · subst hc
      simp at h
      subst h
      exact ⟨rfl, by simp⟩
    · simp [hc] at h
      obtain ⟨j, hj, rfl⟩ := h
      obtain ⟨h1, h2⟩ := ih hj
      refine ⟨?_, Nat.succ_lt_succ h2⟩
      unfold Lib.indexByte
      rw [if_neg (by simpa using hc), h1, if_neg (by simp)]
      omega
theorem index_none {l : List UInt8} (h : feedAt l = none) : Lib.indexByte l 10 = -1 := by
  induction l with
  | nil => rfl
  | cons c r ih =>
    unfold feedAt at h
    rw [List.findIdx?_cons] at h
    by_cases hc : c = 10
    · simp [hc] at h
    · simp [hc] at h
      have h2 : feedAt r = none := by unfold feedAt; simp; exact h
      unfold Lib.indexByte
      rw [if_neg (by simpa using hc), ih h2]
      rfl
theorem setCell_drew_grown (w : World) (b : Nat) (v : Value) : w.grownBy (w.setCell ⟨b, 0, none⟩ v).drew (some b) :=
  ⟨(grownBy_setCell' w b v).os, (grownBy_setCell' w b v).tape, (grownBy_setCell' w b v).output, (grownBy_setCell' w b v).size, (grownBy_setCell' w b v).block⟩
theorem cell_lt {w : World} {b : Nat} {v : Value} (h : w.cell? ⟨b, 0, none⟩ = some v) : b < w.heap.size := by
  obtain ⟨o, ho, _⟩ := cells_of_cell h
  exact (Array.getElem?_eq_some_iff.1 ho).1
end Go.Proofs.YtefokfbgpfcbkaaGreat
namespace Go.Proofs.YtefokfbgpfcbkaaGreat
set_option linter.unusedVariables false
set_option linter.unusedSimpArgs false
open Go.RowKit Go.Shelf
attribute [local go_sem] Oper.semAt_some
/-- the lines of a text with their numbers -/
def numbered (s : List UInt8) : List (Nat × List UInt8) := (rawL s).zipIdx.map (fun x => (x.2 + 1, chop x.1))
def encL (x : Nat × List UInt8) : Array Value := #[.int .i64 x.1, bsOf x.2]
theorem numbered_len (s : List UInt8) : (numbered s).length = (rawL s).length := by simp [numbered]
theorem numbered_get {s : List UInt8} {i : Nat} {l : List UInt8} (h : (rawL s)[i]? = some l) : (numbered s)[i]? = some (i + 1, chop l) := by
  unfold numbered
  rw [List.getElem?_map, List.getElem?_zipIdx, h]
  simp
theorem yield_wide {m : Nat} (m' l₂ : Nat) {P : Program} {l : Nat} {args : Array Value} {W : World} {R : Ending → World → Prop} (h : YieldAt Fence.wide m P l args W R) : YieldAt (Fence.wide.inRound l₂) m' P l args W R := by
  obtain ⟨fn, tmps, assign, body, hy, hR⟩ := h
  exact ⟨fn, tmps, assign, body, hy, ⟨hR.1, fun c cs _ => hR.2 c cs (room_wide _)⟩⟩
theorem rawL_le : ∀ (s : List UInt8), (rawL s).length ≤ s.length
  | [] => Nat.le_refl _
  | c :: r => by
    have := rawL_le r
    unfold rawL
    split
    · simp; omega
    · split
      · simp
      · rename_i h; rw [h] at this; simp at this ⊢; omega
theorem trimSuffix_chop (l : List UInt8) : Lib.trimSuffix l [10] = chop l := by
  unfold Lib.trimSuffix chop Lib.hasSuffix
  by_cases h : l.getLast? = some 10
  · obtain ⟨ys, rfl⟩ := List.getLast?_eq_some_iff.1 h
    rw [if_pos (by simp), if_pos h]
    simp
  · rw [if_neg h, if_neg]
    intro h2
    obtain ⟨ys, hy⟩ := List.isSuffixOf_iff_suffix.1 h2
    exact h (by rw [← hy]; simp)
theorem rawL_mem : ∀ (s l : List UInt8), l ∈ rawL s → l.length ≤ s.length
  | [], l, h => by cases h
  | c :: r, l, h => by
    have ih := rawL_mem r
    unfold rawL at h
    split at h
    · rcases List.mem_cons.1 h with rfl | h
      · simp
      · have := ih l h; simp; omega
    · split at h
      · simp at h; subst h; simp
      · rename_i l1 ls he
        rcases List.mem_cons.1 h with rfl | h
        · have := ih l1 (by rw [he]; simp); simp; omega
        · have := ih l (by rw [he]; simp [h]); simp; omega
end Go.Proofs.YtefokfbgpfcbkaaGreat
namespace Go.Proofs.YtefokfbgpfcbkaaGreat
set_option linter.unusedVariables false
set_option linter.unusedSimpArgs false
open Go.RowKit Go.Shelf
attribute [local go_sem] Oper.semAt_some
theorem below_putObj {w V : World} (h : Below w.heap.size w V) (o : Obj) {D : Nat} (hD : w.heap.size ≤ D) : Below w.heap.size w (V.putObj D o) :=
  h.grown (grownBy_putObj' V D o) h.size (fun k e => by cases e; exact hD)
theorem below_cell {w V : World} (h : Below w.heap.size w V) (v : Value) {D : Nat} (hD : w.heap.size ≤ D) : Below w.heap.size w (V.setCell ⟨D, 0, none⟩ v) :=
  h.grown (grownBy_setCell' V D v) h.size (fun k e => by cases e; exact hD)
end Go.Proofs.YtefokfbgpfcbkaaGreat
