/- More plain functions of layer 18: reading and putting. -/
import Derived.Test.YtbnheebblicgkaaDoorPlain18b
import Derived.Test.YtbnheebblicgkaaDoorPlain03
namespace Go.Proofs.YtbnheebblicgkaaDoor
set_option linter.unusedVariables false
set_option linter.unusedSimpArgs false
theorem list_data (l : List UInt8) : (⟨l.toArray⟩ : ByteArray).data.toList = l := by simp
namespace P18
theorem cutQ_bd (l : List UInt8) : ∀ (i : Nat) (t : Bool) (n : Nat), cutQ i t l = some n → 2 ≤ n ∧ n ≤ i + l.length := by
  induction l with
  | nil => intro i t n h; simp [cutQ] at h
  | cons c r ih =>
    intro i t n h
    simp only [cutQ] at h
    split at h
    · have := ih _ _ _ h; simp; omega
    · split at h
      · have := ih _ _ _ h; simp; omega
      · split at h
        · have := ih _ _ _ h; simp; omega
        · split at h
          · rename_i h0 _ _ _
            simp at h h0
            simp; omega
          · have := ih _ _ _ h; simp; omega
theorem cut_ok (l : List UInt8) (h : (cut l).2 = 0) (hq : Lib.hasPrefix l [34] = true) : 2 ≤ (cut l).1 ∧ (cut l).1 ≤ l.length := by
  unfold cut at h ⊢
  rw [if_pos hq] at h ⊢
  cases hc : cutQ 0 false l with
  | none => rw [hc] at h; simp at h
  | some n => have := cutQ_bd l 0 false n hc; simpa using this
/-- a text of at most 4096 bytes, or what is wrong -/
def chk (t : List UInt8) : List UInt8 × Int := if (P03.check t 4096 != 0) = true then ([], P03.check t 4096) else (t, 0)
/-- the text that stands so -/
def readF (n c : Nat) (l : List UInt8) : List UInt8 × Int :=
  if ((c : Int) != 0) = true ∨ ((n : Int) != (l.length : Int)) = true then ([], 3)
  else if ((((l.getD 0 0).toNat : Int)) == 34) = true then (match within ((l.drop 1).take (n - 2)) with | none => ([], 3) | some b => chk b)
  else chk l
def read (l : List UInt8) : List UInt8 × Int := readF (cut l).1 (cut l).2 l
theorem readF_bad {n c : Nat} {l : List UInt8} (h : c ≠ 0 ∨ n ≠ l.length) : readF n c l = ([], 3) := by
  unfold readF; rw [if_pos]; simp; omega
theorem readF_plain {l : List UInt8} (h : (l.getD 0 0).toNat ≠ 34) : readF l.length 0 l = chk l := by
  unfold readF; rw [if_neg (by simp), if_neg (by simp only [beq_iff_eq]; omega)]
theorem readF_none {l : List UInt8} (h : (l.getD 0 0).toNat = 34) (hw : within ((l.drop 1).take (l.length - 2)) = none) : readF l.length 0 l = ([], 3) := by
  unfold readF; rw [if_neg (by simp), if_pos (by simp only [beq_iff_eq]; omega), hw]
theorem readF_some {l b : List UInt8} (h : (l.getD 0 0).toNat = 34) (hw : within ((l.drop 1).take (l.length - 2)) = some b) : readF l.length 0 l = chk b := by
  unfold readF; rw [if_neg (by simp), if_pos (by simp only [beq_iff_eq]; omega), hw]
theorem cut_pos (l : List UInt8) (h : (cut l).2 = 0) : 0 < l.length := by
  cases l with
  | nil => simp [cut, Lib.hasPrefix, plainLen] at h
  | cons _ _ => simp
def put (l : List UInt8) : List UInt8 := if plain l = true then l else quote l
theorem within_len {l : List UInt8} : ∀ {b : List UInt8}, within l = some b → b.length ≤ l.length := by
  induction hn : l.length using Nat.strongRecOn generalizing l with
  | _ n ih =>
    intro b h
    cases l with
    | nil => rw [within_nil] at h; simp at h; subst h; simp
    | cons c r =>
      rw [within_cons] at h
      simp only [List.length_cons] at hn
      split at h
      · simp at h
      · split at h
        · split at h
          · simp at h
          · simp only [Option.map_eq_some_iff] at h
            obtain ⟨a, h1, rfl⟩ := h
            have := ih _ (by rw [← hn]; simp; omega) rfl h1
            simp at this ⊢; omega
        · simp only [Option.map_eq_some_iff] at h
          obtain ⟨a, h1, rfl⟩ := h
          have := ih _ (by omega) rfl h1
          simp; omega
theorem prefix_iff (l : List UInt8) : Lib.hasPrefix l [34] = true ↔ 0 < l.length ∧ (l.getD 0 0).toNat = 34 := by
  match l with
  | [] => simp [Lib.hasPrefix]
  | a :: r => simp [Lib.hasPrefix, ← UInt8.toNat_inj]; omega
end P18
end Go.Proofs.YtbnheebblicgkaaDoor
