/- Reading, as the reference does it. -/
import Derived.Test.YtbnheebblicgkaaDoorPlainR18c
namespace Go.Proofs.YtbnheebblicgkaaDoor
set_option linter.unusedVariables false
set_option linter.unusedSimpArgs false
namespace R18
open P18
theorem cutQ_past {k : Nat} {t : Bool} {l : List UInt8} (h : l.length ≤ k) : cutQ k t (l.drop k) = none := by
  rw [List.drop_of_length_le h]; rfl
theorem cutQ_esc {k : Nat} {l : List UInt8} (h : k < l.length) (h0 : 0 < k) (h92 : l[k].toNat = 92) : cutQ k false (l.drop k) = cutQ (k + 2) false (l.drop (k + 2)) := by
  rw [cutQ_drop h, if_neg (by simp; omega), if_neg (by simp), if_pos (by simp; omega)]
  by_cases h1 : k + 1 < l.length
  · rw [cutQ_drop h1, if_neg (by simp; omega), if_pos rfl]
  · rw [cutQ_past (by omega), cutQ_past (by omega)]
theorem cutQ_quote {k : Nat} {l : List UInt8} (h : k < l.length) (h0 : 0 < k) (h34 : l[k].toNat = 34) : cutQ k false (l.drop k) = some (k + 1) := by
  rw [cutQ_drop h, if_neg (by simp; omega), if_neg (by simp), if_neg (by simp; omega), if_pos (by simp; omega)]
theorem cutQ_else {k : Nat} {l : List UInt8} (h : k < l.length) (h0 : 0 < k) (h34 : l[k].toNat ≠ 34) (h92 : l[k].toNat ≠ 92) : cutQ k false (l.drop k) = cutQ (k + 1) false (l.drop (k + 1)) := by
  rw [cutQ_drop h, if_neg (by simp; omega), if_neg (by simp), if_neg (by simp; omega), if_neg (by simp; omega)]
theorem cutQ_0 {l : List UInt8} (h : 0 < l.length) : cutQ 0 false l = cutQ 1 false (l.drop 1) := by
  have := cutQ_drop (i := 0) (t := false) (l := l) h
  rw [List.drop_zero] at this
  rw [this, if_pos (by simp)]
theorem cut_quoted {l : List UInt8} (h : Lib.hasPrefix l [34] = true) : cut l = match cutQ 0 false l with | some n => (n, 0) | none => (0, 3) := by
  rw [cut, if_pos h]
  cases cutQ 0 false l <;> rfl
/-- what stands between the quotes, from place j on -/
def body (l : List UInt8) : List UInt8 := (l.drop 1).take (l.length - 2)
theorem body_drop {s : ByteArray} {k : Nat} (h1 : 1 ≤ k) (h : k + 1 < s.size) : (body s.data.toList).drop (k - 1) = s[k] :: (body s.data.toList).drop k := by
  have hl : k < s.data.toList.length := by rw [← Lib.size_eq]; omega
  unfold body
  rw [List.drop_take, List.drop_drop, List.drop_take, List.drop_drop]
  rw [show 1 + (k - 1) = k from by omega, List.drop_eq_getElem_cons hl, show s.data.toList.length - 2 - (k - 1) = (s.data.toList.length - 2 - k) + 1 from by rw [← Lib.size_eq]; omega, List.take_succ_cons, show 1 + k = k + 1 from by omega]
  rfl
theorem body_len (s : ByteArray) (k : Nat) : ((body s.data.toList).drop k).length = s.size - 2 - k := by
  unfold body
  rw [List.length_drop, List.length_take, List.length_drop, ← Lib.size_eq]; omega
theorem body_end (s : ByteArray) : (body s.data.toList).drop (s.size - 1 - 1) = [] := by
  apply List.eq_nil_of_length_eq_zero; rw [body_len]; omega
theorem within_ctrl {c : UInt8} {r : List UInt8} (h : (c.toNat : Int) < 32 ∨ ((c.toNat : Int) == 127) = true) : within (c :: r) = none := by rw [within_cons, if_pos h]
theorem within_self {c : UInt8} {r : List UInt8} (h : ¬ ((c.toNat : Int) < 32 ∨ ((c.toNat : Int) == 127) = true)) (h92 : c.toNat ≠ 92) : within (c :: r) = (within r).map (c :: ·) := by
  rw [within_cons, if_neg h, if_neg (by simp; omega)]
theorem within_esc0 {c : UInt8} {r : List UInt8} (h : c.toNat = 92) (hb : behind r = (0, 0)) : within (c :: r) = none := by
  rw [within_cons, if_neg (by simp; omega), if_pos (by simp; omega), hb]; rfl
theorem within_esc {c : UInt8} {r : List UInt8} {v n : Nat} (h : c.toNat = 92) (hb : behind r = ((v : Int), (n : Int))) (hn : 0 < n) : within (c :: r) = (within (r.drop n)).map (UInt8.ofNat v :: ·) := by
  rw [within_cons, if_neg (by simp; omega), if_pos (by simp; omega), hb, if_neg (by simp; omega)]; simp
theorem map_map (o : Option (List UInt8)) (out : List UInt8) (c : UInt8) : (o.map (c :: ·)).map (out ++ ·) = o.map ((out ++ [c]) ++ ·) := by
  cases o <;> simp
theorem stands_34 (b : Bool) : stands 34 b = false := by cases b <;> decide
theorem plain_head {l : List UInt8} (h : P18.plain l = true) : Lib.hasPrefix l [34] = false ∧ cut l = (l.length, 0) := by
  unfold P18.plain at h
  simp only [Bool.and_eq_true, beq_iff_eq] at h
  have hp : Lib.hasPrefix l [34] = false := by
    cases l with
    | nil => rfl
    | cons c r =>
      rw [← Bool.not_eq_true, prefix_iff]
      rintro ⟨_, h34⟩
      have hc : c = 34 := UInt8.toNat_inj.1 (by simpa using h34)
      subst hc
      have := h.2
      simp only [plainLen, stands_34] at this
      simp at this
      omega
  refine ⟨hp, ?_⟩
  unfold cut
  rw [if_neg (by rw [hp]; simp)]
  cases l with
  | nil => simp at h
  | cons c r => rw [if_neg (by simp only [beq_iff_eq]; have := h.2; simp at this ⊢; omega)]; congr 1; omega
theorem read_plain {l : List UInt8} (h : P18.plain l = true) : P18.read l = if 4096 < (l.length : Int) then ([], 2) else (l, 0) := by
  obtain ⟨h1, h2⟩ := plain_head h
  have hq : (l.getD 0 0).toNat ≠ 34 := by
    intro h34
    have hl := cut_pos l (by rw [h2])
    have := (prefix_iff l).2 ⟨hl, h34⟩
    rw [h1] at this; cases this
  unfold P18.read
  rw [h2, readF_plain hq]
  unfold chk
  rw [check_plain h]
  split <;> simp
theorem read_unquoted {l : List UInt8} (h : P18.plain l = false) (hc : (cut l).2 = 0) (hn : (cut l).1 = l.length) : Lib.hasPrefix l [34] = true := by
  rw [← Bool.not_eq_false]
  intro hp
  unfold cut at hc hn
  rw [if_neg (by rw [hp]; simp)] at hc hn
  split at hn
  · rename_i h0
    rw [if_pos h0] at hc; simp at hc
  · rename_i h0
    unfold P18.plain at h
    simp only [beq_iff_eq] at h0
    simp only at hn
    rw [hn] at h
    simp at h
    subst h; simp [plainLen] at h0
theorem hex_not0 : ∀ n, n < 256 → hex (UInt8.ofNat n) < 0 ∨ ((UInt8.ofNat n).toNat ≠ 34 ∧ (UInt8.ofNat n).toNat ≠ 92) := by decide +kernel
theorem hex_not (c : UInt8) : hex c < 0 ∨ (c.toNat ≠ 34 ∧ c.toNat ≠ 92) := all_bytes (p := fun c => hex c < 0 ∨ (c.toNat ≠ 34 ∧ c.toNat ≠ 92)) hex_not0 c
end R18
end Go.Proofs.YtbnheebblicgkaaDoor
