/- Plain words of layer 17: the runes of a text and its bytes: which may not be there. -/
import Derived.Test.YtbnheebblicgkaaDoorPlain17
import Derived.Test.YtbnheebblicgkaaDoorPlain03b
namespace Go.Proofs.YtbnheebblicgkaaDoor
set_option linter.unusedVariables false
set_option linter.unusedSimpArgs false
open Go.RowKit
set_option maxRecDepth 100000 in
theorem decN_high (n b0 b1 b2 b3 : Nat) (hn : 1 ≤ n) (h0 : 128 ≤ b0) :
    128 ≤ (Lib.decodeN n b0 b1 b2 b3).1 ∧ 1 ≤ (Lib.decodeN n b0 b1 b2 b3).2 ∧ (Lib.decodeN n b0 b1 b2 b3).2 ≤ 4 ∧ (Lib.decodeN n b0 b1 b2 b3).2 ≤ n ∧
    (1 < (Lib.decodeN n b0 b1 b2 b3).2 → 128 ≤ b1) ∧ (2 < (Lib.decodeN n b0 b1 b2 b3).2 → 128 ≤ b2) ∧ (3 < (Lib.decodeN n b0 b1 b2 b3).2 → 128 ≤ b3) := by
  have key : ∀ y : Nat × Nat, Lib.decodeN n b0 b1 b2 b3 = y → 128 ≤ y.1 ∧ 1 ≤ y.2 ∧ y.2 ≤ 4 ∧ y.2 ≤ n ∧ (1 < y.2 → 128 ≤ b1) ∧ (2 < y.2 → 128 ≤ b2) ∧ (3 < y.2 → 128 ≤ b3) := by
    intro y hy
    unfold Lib.decodeN at hy
    repeat' split at hy
    all_goals subst hy
    all_goals refine ⟨?_, ?_, ?_, ?_, ?_, ?_, ?_⟩
    all_goals simp only
    all_goals omega
  exact key _ rfl
theorem decN_low (n b0 b1 b2 b3 : Nat) (h0 : b0 < 128) : Lib.decodeN n b0 b1 b2 b3 = (b0, 1) := by
  unfold Lib.decodeN; rw [if_pos h0]
/-- a rune that may not be there -/
def oddN (r : Nat) : Bool := decide (r < 32) || r == 127
theorem oddB_N (c : UInt8) : oddB c = oddN c.toNat := by
  revert c
  apply all_bytes
  decide +kernel
theorem oddB_high (c : UInt8) (h : 128 ≤ c.toNat) : oddB c = false := by
  rw [oddB_N]; unfold oddN; simp; omega
theorem get_drop2 (s : ByteArray) (p j : Nat) : s.get! (p + j) = (s.data.toList.drop p).getD j 0 := P03.get_drop s p j
theorem decode_odd (s : ByteArray) (k : Nat) (h : k < s.size) :
    1 ≤ (Utf8.decode s k).2 ∧ k + (Utf8.decode s k).2 ≤ s.size ∧ ((s.data.toList.drop k).take (Utf8.decode s k).2).any oddB = oddN (Utf8.decode s k).1 := by
  have hd := Lib.decode_at s k
  have e0 := get_drop2 s k 0
  rw [Nat.add_zero] at e0
  rw [e0, get_drop2, get_drop2, get_drop2] at hd
  have hl : (s.data.toList.drop k).length = s.size - k := P03.drop_len s k
  generalize s.data.toList.drop k = l at *
  match l, hl with
  | a :: r, hl =>
    by_cases ha : a.toNat < 128
    · rw [show (a :: r).getD 0 0 = a from rfl, decN_low _ _ _ _ _ ha] at hd
      rw [hd]
      refine ⟨Nat.le_refl _, by simp; omega, ?_⟩
      simp [oddB_N]
    · have hh := decN_high (s.size - k) a.toNat ((a :: r).getD 1 0).toNat ((a :: r).getD 2 0).toNat ((a :: r).getD 3 0).toNat (by omega) (by omega)
      rw [show ((a :: r).getD 0 0) = a from rfl] at hd
      rw [← hd] at hh
      obtain ⟨h1, h2, h3, h4, h5, h6, h7⟩ := hh
      refine ⟨h2, by omega, ?_⟩
      have : oddN (Utf8.decode s k).1 = false := by unfold oddN; simp; omega
      rw [this, List.any_eq_false]
      intro x hx
      rw [Bool.not_eq_true]
      apply oddB_high
      obtain ⟨i, hi, rfl⟩ := List.mem_iff_getElem.1 hx
      rw [List.getElem_take]
      rw [List.length_take] at hi
      have hi2 : i < (a :: r).length := by omega
      have e : ∀ j (hj : j < (a :: r).length), (a :: r).getD j 0 = (a :: r)[j] := fun j hj => by rw [List.getD_eq_getElem?_getD, List.getElem?_eq_getElem hj]; rfl
      match i, hi, hi2 with
      | 0, _, _ => exact Nat.le_of_not_lt ha
      | 1, _, h8 => rw [← e 1 h8]; exact h5 (by omega)
      | 2, _, h8 => rw [← e 2 h8]; exact h6 (by omega)
      | 3, _, h8 => rw [← e 3 h8]; exact h7 (by omega)
      | i + 4, h9, _ => omega
  | [], hl => simp at hl; omega
end Go.Proofs.YtbnheebblicgkaaDoor
