/- walk of rescriptref19.Line -/
import Derived.Test.YtefokfbgpfcbkaaGreatGT19
import Derived.Test.YtefokfbgpfcbkaaGreatGR17
import Derived.Deep.CutRange
import Derived.Deep.CutBlock
import Derived.Deep.RegionWith
import Derived.Shelf.RegionOpenPlain
namespace Go.Proofs.YtefokfbgpfcbkaaGreat
set_option linter.unusedVariables false
set_option linter.unusedSimpArgs false
open Go.RowKit
theorem line_len : ∀ (f : Nat) (n col : Int) (s : List UInt8), (P19.line f n col s).1.length ≤ s.length + 2
  | 0, n, col, s => by simp [P19.line]
  | f + 1, n, col, s => by
    unfold P19.line
    by_cases hs : P19.signB 45 s = true
    · have h1 := line_len f n (col + (1 + P19.skip (s.drop 1) : Nat)) (s.drop (1 + P19.skip (s.drop 1)))
      have h2 := P19.dash_shorter s hs
      rw [if_pos hs]
      split
      · simp
      · split
        · simp
        · rw [List.length_cons]
          omega
    · rw [if_neg hs]
      repeat' split
      all_goals simp
theorem cut_le (l : List UInt8) : (P18.cut l).1 ≤ l.length := by
  unfold P18.cut
  split
  · split
    · rename_i n h
      have := P18.cutQ_bd l 0 false n h
      simpa using this.2
    · simp
  · split
    · simp
    · exact P18.plainLen_le l false
theorem sign_at (c : UInt8) (s : ByteArray) (k : Nat) (h : k < s.size) :
    (((s[k].toNat : Int) == (c.toNat : Int)) = false ∧ P19.signB c (s.data.toList.drop k) = false) ∨
    (((s[k].toNat : Int) == (c.toNat : Int)) = true ∧ (s.size : Int) ≤ (k : Int) + 1 ∧ P19.signB c (s.data.toList.drop k) = true) ∨
    (∃ h1 : k + 1 < s.size, ((s[k].toNat : Int) == (c.toNat : Int)) = true ∧ (k : Int) + 1 < (s.size : Int) ∧ ((s[k + 1].toNat : Int) == 32) = true ∧ P19.signB c (s.data.toList.drop k) = true) ∨
    (∃ h1 : k + 1 < s.size, ((s[k].toNat : Int) == (c.toNat : Int)) = true ∧ (k : Int) + 1 < (s.size : Int) ∧ ((s[k + 1].toNat : Int) == 32) = false ∧ P19.signB c (s.data.toList.drop k) = false) := by
  have key : ∀ a : UInt8, ((a.toNat : Int) == (c.toNat : Int)) = (a == c) := by
    intro a
    by_cases h : a = c
    · rw [h]; simp
    · have h2 : a.toNat ≠ c.toNat := fun e => h (UInt8.toNat_inj.1 e)
      have h3 : (a == c) = false := by simpa using h
      rw [h3]
      simp
      omega
  have hd := drop_byte s k h
  by_cases h0 : s[k] = c
  · right
    have hj : ((s[k].toNat : Int) == (c.toNat : Int)) = true := by rw [key, h0]; simp
    rcases Nat.lt_or_ge (k + 1) s.size with h1 | h1
    · right
      have hd1 := drop_byte s (k + 1) h1
      have hsg : P19.signB c (s.data.toList.drop k) = (s[k + 1] == 32) := by
        rw [hd, hd1, h0]
        simp [P19.signB]
      by_cases h2 : s[k + 1] = 32
      · left
        exact ⟨h1, hj, by omega, by rw [i32, h2]; rfl, by rw [hsg, h2]; rfl⟩
      · right
        have h3 : (s[k + 1] == 32) = false := by simpa using h2
        exact ⟨h1, hj, by omega, by rw [i32, h3], by rw [hsg, h3]⟩
    · left
      have hd1 : s.data.toList.drop (k + 1) = [] := List.drop_eq_nil_of_le (by rw [← Lib.size_eq]; omega)
      exact ⟨hj, by omega, by rw [hd, hd1, h0]; simp [P19.signB]⟩
  · left
    have hj : ((s[k].toNat : Int) == (c.toNat : Int)) = false := by rw [key]; simpa using h0
    have h3 : (s[k] == c) = false := by simpa using h0
    exact ⟨hj, by rw [hd]; simp [P19.signB, h3]⟩
theorem line_ne (f : Nat) (n col : Int) (s : List UInt8) (h : (P19.line (f + 1) n col s).2 = 0) : (P19.line (f + 1) n col s).1 ≠ [] := by
  unfold P19.line at h ⊢
  repeat' split at h
  all_goals first | (simp at h; done) | skip
  all_goals (repeat' split)
  all_goals first | (simp; done) | (simp_all; done) | skip
theorem sign_cases (c : UInt8) (s : ByteArray) :
    (((s.size : Int) ≤ 0) ∧ P19.signB c s.data.toList = false) ∨
    (∃ h : 0 < s.size, ((s[0].toNat : Int) == (c.toNat : Int)) = false ∧ P19.signB c s.data.toList = false) ∨
    (∃ h : 0 < s.size, (0 : Int) < (s.size : Int) ∧ ((s[0].toNat : Int) == (c.toNat : Int)) = true ∧ ((s.size : Int) == 1) = true ∧ P19.signB c s.data.toList = true) ∨
    (∃ h : 1 < s.size, (1 : Int) < (s.size : Int) ∧ ((s[0].toNat : Int) == (c.toNat : Int)) = true ∧ ((s.size : Int) == 1) = false ∧ ((s[1].toNat : Int) == 32) = true ∧ P19.signB c s.data.toList = true) ∨
    (∃ h : 1 < s.size, (1 : Int) < (s.size : Int) ∧ ((s[0].toNat : Int) == (c.toNat : Int)) = true ∧ ((s.size : Int) == 1) = false ∧ ((s[1].toNat : Int) == 32) = false ∧ P19.signB c s.data.toList = false) := by
  have key : ∀ a : UInt8, ((a.toNat : Int) == (c.toNat : Int)) = (a == c) := by
    intro a
    by_cases h : a = c
    · rw [h]; simp
    · have h2 : a.toNat ≠ c.toNat := fun e => h (UInt8.toNat_inj.1 e)
      have h3 : (a == c) = false := by simpa using h
      rw [h3]
      simp
      omega
  rcases Nat.eq_zero_or_pos s.size with h | h
  · left
    have hn : s.data.toList = [] := List.eq_nil_of_length_eq_zero (by rw [← Lib.size_eq]; exact h)
    exact ⟨by omega, by rw [hn]; rfl⟩
  right
  have hd := drop_byte s 0 h
  rw [List.drop_zero] at hd
  by_cases h0 : s[0] = c
  · right
    have hj : ((s[0].toNat : Int) == (c.toNat : Int)) = true := by rw [key, h0]; simp
    rcases Nat.lt_or_ge 1 s.size with h1 | h1
    · right
      have hd1 := drop_byte s 1 h1
      have hsg : P19.signB c s.data.toList = (s[1] == 32) := by
        rw [hd, hd1, h0]
        simp [P19.signB]
      by_cases h2 : s[1] = 32
      · left
        exact ⟨h1, by omega, hj, by simp; omega, by rw [i32, h2]; rfl, by rw [hsg, h2]; rfl⟩
      · right
        have h3 : (s[1] == 32) = false := by simpa using h2
        exact ⟨h1, by omega, hj, by simp; omega, by rw [i32, h3], by rw [hsg, h3]⟩
    · left
      have hd1 : s.data.toList.drop 1 = [] := List.drop_eq_nil_of_le (by rw [← Lib.size_eq]; omega)
      exact ⟨h, by omega, hj, by simp; omega, by rw [hd, hd1, h0]; simp [P19.signB]⟩
  · left
    have hj : ((s[0].toNat : Int) == (c.toNat : Int)) = false := by rw [key]; simpa using h0
    have h3 : (s[0] == c) = false := by simpa using h0
    exact ⟨h, hj, by rw [hd]; simp [P19.signB, h3]⟩
theorem extract_drop (s : ByteArray) (k : Nat) : (s.extract k s.size).data.toList = s.data.toList.drop k := by
  rw [Lib.extract_data, List.take_of_length_le (by rw [List.length_drop, ← Lib.size_eq]; exact Nat.le_refl _)]
theorem extract_len (s : ByteArray) (k : Nat) : (s.extract k s.size).size = s.size - k := by
  rw [ByteArray.size_extract, Nat.min_eq_left (Nat.le_refl _)]
theorem four_step {W : World} {g : Nat} {T : TypeId} {a b c d : Value} (h : W.heap[g]? = some (.cells #[a, b, c, d] T)) (v0 v1 v2 : Value) :
    ((W.setCell ⟨g, 0, none⟩ v0).cell? ⟨g, 1, none⟩ = some b ∧ (W.setCell ⟨g, 0, none⟩ v0).frozen? ⟨g, 1, none⟩ = false) ∧
    (((W.setCell ⟨g, 0, none⟩ v0).setCell ⟨g, 1, none⟩ v1).cell? ⟨g, 2, none⟩ = some c ∧ ((W.setCell ⟨g, 0, none⟩ v0).setCell ⟨g, 1, none⟩ v1).frozen? ⟨g, 2, none⟩ = false) ∧
    ((((W.setCell ⟨g, 0, none⟩ v0).setCell ⟨g, 1, none⟩ v1).setCell ⟨g, 2, none⟩ v2).cell? ⟨g, 3, none⟩ = some d ∧ (((W.setCell ⟨g, 0, none⟩ v0).setCell ⟨g, 1, none⟩ v1).setCell ⟨g, 2, none⟩ v2).frozen? ⟨g, 3, none⟩ = false) := by
  simp [World.cell?, World.frozen?, World.setCell, Array.getElem?_modify, h]
def set4 (W : World) (b : Nat) (v0 v1 v2 v3 : Value) : World := (((W.setCell ⟨b, 0, none⟩ v0).setCell ⟨b, 1, none⟩ v1).setCell ⟨b, 2, none⟩ v2).setCell ⟨b, 3, none⟩ v3
end Go.Proofs.YtefokfbgpfcbkaaGreat
