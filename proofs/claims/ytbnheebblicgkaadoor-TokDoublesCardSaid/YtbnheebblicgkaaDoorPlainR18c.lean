/- What stands behind a backslash, case by case; a plain text has no byte that is no rune's. -/
import Derived.Test.YtbnheebblicgkaaDoorPlainR18
namespace Go.Proofs.YtbnheebblicgkaaDoor
set_option linter.unusedVariables false
set_option linter.unusedSimpArgs false
namespace R18
open P18
theorem find_unique {α : Type} {p : α → Bool} {l : List α} {a : α} (ha : a ∈ l) (hp : p a = true) (hu : ∀ x ∈ l, p x = true → x = a) : l.find? p = some a := by
  cases h : l.find? p with
  | none => exact absurd hp (by have := List.find?_eq_none.1 h a ha; exact this)
  | some b => rw [hu b (List.mem_of_find?_eq_some h) (List.find?_some h)]
def wordForm (c : Nat) : Bool :=
  (word (UInt8.ofNat c)).isEmpty || (word (UInt8.ofNat c) == [34] && c == 34) || (word (UInt8.ofNat c) == [92] && c == 92) || (word (UInt8.ofNat c) == [110] && c == 10) || (word (UInt8.ofNat c) == [116] && c == 9) ||
  (word (UInt8.ofNat c) == [120, P18.hexDigit (c / 16), P18.hexDigit (c % 16)] && hex (P18.hexDigit (c / 16)) == ((c / 16 : Nat) : Int) && hex (P18.hexDigit (c % 16)) == ((c % 16 : Nat) : Int))
theorem wordForm_all : ∀ c, c < 128 → wordForm c = true := by decide +kernel
theorem word_cases {c : Nat} (h : c < 128) : word (UInt8.ofNat c) = [] ∨ (word (UInt8.ofNat c) = [34] ∧ c = 34) ∨ (word (UInt8.ofNat c) = [92] ∧ c = 92) ∨ (word (UInt8.ofNat c) = [110] ∧ c = 10) ∨ (word (UInt8.ofNat c) = [116] ∧ c = 9) ∨
    (word (UInt8.ofNat c) = [120, P18.hexDigit (c / 16), P18.hexDigit (c % 16)] ∧ hex (P18.hexDigit (c / 16)) = ((c / 16 : Nat) : Int) ∧ hex (P18.hexDigit (c % 16)) = ((c % 16 : Nat) : Int)) := by
  have := wordForm_all c h
  unfold wordForm at this
  simp only [Bool.or_eq_true, Bool.and_eq_true, beq_iff_eq, List.isEmpty_iff] at this
  rcases this with ((((h | h) | h) | h) | h) | h
  · exact .inl h
  · exact .inr (.inl h)
  · exact .inr (.inr (.inl h))
  · exact .inr (.inr (.inr (.inl h)))
  · exact .inr (.inr (.inr (.inr (.inl h))))
  · exact .inr (.inr (.inr (.inr (.inr ⟨h.1.1, h.1.2, h.2⟩))))
theorem starts_iff (l : List UInt8) (c : Nat) : startsWord l c = true ↔ word (UInt8.ofNat c) ≠ [] ∧ word (UInt8.ofNat c) <+: l := by
  unfold startsWord Lib.hasPrefix
  simp [List.isPrefixOf_iff_prefix]
/-- which byte a one-letter word tells -/
theorem behind_short {d : UInt8} {r : List UInt8} {v : Nat} (hv : v < 128) (hw : word (UInt8.ofNat v) = [d]) (hd : d ≠ 120) : behind (d :: r) = ((v : Int), 1) := by
  unfold behind
  rw [find_unique (a := v) (by simpa using hv) ((starts_iff _ _).2 ⟨by rw [hw]; simp, by rw [hw]; simp⟩) ?_]
  · simp only [hw]; rfl
  · intro x hx hs
    simp at hx
    obtain ⟨h1, h2⟩ := (starts_iff _ _).1 hs
    rcases word_cases hx with h | ⟨h, e⟩ | ⟨h, e⟩ | ⟨h, e⟩ | ⟨h, e⟩ | ⟨h, e⟩
    · exact absurd h h1
    all_goals rw [h] at h2
    all_goals rw [List.cons_prefix_cons] at h2
    all_goals obtain ⟨hd2, _⟩ := h2
    · subst hd2
      rcases word_cases hv with h' | ⟨h', e'⟩ | ⟨h', e'⟩ | ⟨h', e'⟩ | ⟨h', e'⟩ | ⟨h', e'⟩
      all_goals rw [hw] at h'
      all_goals simp at h'
      omega
    · subst hd2
      rcases word_cases hv with h' | ⟨h', e'⟩ | ⟨h', e'⟩ | ⟨h', e'⟩ | ⟨h', e'⟩ | ⟨h', e'⟩
      all_goals rw [hw] at h'
      all_goals simp at h'
      omega
    · subst hd2
      rcases word_cases hv with h' | ⟨h', e'⟩ | ⟨h', e'⟩ | ⟨h', e'⟩ | ⟨h', e'⟩ | ⟨h', e'⟩
      all_goals rw [hw] at h'
      all_goals simp at h'
      omega
    · subst hd2
      rcases word_cases hv with h' | ⟨h', e'⟩ | ⟨h', e'⟩ | ⟨h', e'⟩ | ⟨h', e'⟩ | ⟨h', e'⟩
      all_goals rw [hw] at h'
      all_goals simp at h'
      omega
    · exact absurd hd2.symm hd
theorem behind_34 (r : List UInt8) : behind (34 :: r) = (34, 1) := behind_short (v := 34) (by omega) (by decide) (by decide)
theorem behind_92 (r : List UInt8) : behind (92 :: r) = (92, 1) := behind_short (v := 92) (by omega) (by decide) (by decide)
theorem behind_110 (r : List UInt8) : behind (110 :: r) = (10, 1) := behind_short (v := 10) (by omega) (by decide) (by decide)
theorem behind_116 (r : List UInt8) : behind (116 :: r) = (9, 1) := behind_short (v := 9) (by omega) (by decide) (by decide)
theorem behind_none {l : List UInt8} (h : ∀ x < 128, startsWord l x = false) : behind l = hexTail l := by
  unfold behind
  rw [List.find?_eq_none.2 (fun x hx => by simp at hx; rw [h x hx]; simp)]
theorem behind_nil : behind [] = (0, 0) := by
  rw [behind_none (fun x _ => ?_)]
  · rfl
  · rw [← Bool.not_eq_true, starts_iff]; rintro ⟨h1, h2⟩; simp at h2; exact h1 h2
theorem behind_other {d : UInt8} {r : List UInt8} (h1 : d ≠ 34) (h2 : d ≠ 92) (h3 : d ≠ 110) (h4 : d ≠ 116) (h5 : d ≠ 120) : behind (d :: r) = (0, 0) := by
  rw [behind_none (fun x hx => ?_)]
  · unfold hexTail
    split
    · rfl
    · unfold hexThree; rw [if_pos]; simpa using h5
  · rw [← Bool.not_eq_true, starts_iff]
    rintro ⟨k1, k2⟩
    rcases word_cases hx with h | ⟨h, e⟩ | ⟨h, e⟩ | ⟨h, e⟩ | ⟨h, e⟩ | ⟨h, e⟩
    · exact k1 h
    all_goals rw [h] at k2
    all_goals rw [List.cons_prefix_cons] at k2
    · exact h1 k2.1.symm
    · exact h2 k2.1.symm
    · exact h3 k2.1.symm
    · exact h4 k2.1.symm
    · exact h5 k2.1.symm
theorem behind_x_short {r : List UInt8} (h : r.length < 2) : behind (120 :: r) = (0, 0) := by
  rw [behind_none (fun x hx => ?_)]
  · unfold hexTail; rw [if_pos (by simp; omega)]
  · rw [← Bool.not_eq_true, starts_iff]
    rintro ⟨k1, k2⟩
    rcases word_cases hx with h | ⟨h, e⟩ | ⟨h, e⟩ | ⟨h, e⟩ | ⟨h, e⟩ | ⟨h, e⟩
    · exact k1 h
    all_goals rw [h] at k2
    all_goals rw [List.cons_prefix_cons] at k2
    · exact absurd k2.1 (by decide)
    · exact absurd k2.1 (by decide)
    · exact absurd k2.1 (by decide)
    · exact absurd k2.1 (by decide)
    · have := k2.2.length_le; simp at this; omega
theorem hexTail_x (a b : UInt8) (r : List UInt8) : hexTail (120 :: a :: b :: r) = if hex a < 0 then (0, 0) else if hex b < 0 then (0, 0) else if 127 < hex a * 16 + hex b then (0, 0) else (hex a * 16 + hex b, 3) := by
  unfold hexTail
  rw [if_neg (by simp)]
  unfold hexThree
  rw [if_neg (by simp), hex_idx, hex_idx]
  rfl
theorem behind_x (a b : UInt8) (r : List UInt8) : behind (120 :: a :: b :: r) = if hex a < 0 ∨ 7 < hex a ∨ hex b < 0 then (0, 0) else (16 * hex a + hex b, 3) := by
  have ha := hex_bd a
  have hb := hex_bd b
  have hT : hexTail (120 :: a :: b :: r) = if hex a < 0 ∨ 7 < hex a ∨ hex b < 0 then (0, 0) else (16 * hex a + hex b, 3) := by
    rw [hexTail_x]
    by_cases h1 : hex a < 0
    · rw [if_pos h1, if_pos (.inl h1)]
    · by_cases h2 : hex b < 0
      · rw [if_neg h1, if_pos h2, if_pos (.inr (.inr h2))]
      · by_cases h3 : 7 < hex a
        · rw [if_neg h1, if_neg h2, if_pos (by omega), if_pos (.inr (.inl h3))]
        · rw [if_neg h1, if_neg h2, if_neg (by omega), if_neg (by omega)]
          congr 1; omega
  rw [← hT]
  unfold behind
  cases hf : (List.range 128).find? (startsWord (120 :: a :: b :: r)) with
  | none => rfl
  | some c =>
    simp only
    have hc := List.mem_of_find?_eq_some hf
    have hs := List.find?_some hf
    simp at hc
    obtain ⟨k1, k2⟩ := (starts_iff _ _).1 hs
    rcases word_cases hc with h | ⟨h, e⟩ | ⟨h, e⟩ | ⟨h, e⟩ | ⟨h, e⟩ | ⟨h, e1, e2⟩
    · exact absurd h k1
    all_goals rw [h] at k2
    all_goals rw [List.cons_prefix_cons] at k2
    · exact absurd k2.1 (by decide)
    · exact absurd k2.1 (by decide)
    · exact absurd k2.1 (by decide)
    · exact absurd k2.1 (by decide)
    · obtain ⟨_, k3⟩ := k2
      rw [List.cons_prefix_cons] at k3
      obtain ⟨rfl, k4⟩ := k3
      rw [List.cons_prefix_cons] at k4
      obtain ⟨rfl, _⟩ := k4
      rw [hexTail_x, e1, e2, if_neg (by omega), if_neg (by omega), if_neg (by omega), h]
      apply Prod.ext
      · simp only; omega
      · rfl
/-- a plain byte stands for itself in UTF-8 -/
theorem stands_low0 : ∀ n, n < 256 → ∀ b : Bool, stands (UInt8.ofNat n) b = true → (UInt8.ofNat n).toNat < 128 := by decide +kernel
theorem stands_low {c : UInt8} {b : Bool} (h : stands c b = true) : c.toNat < 128 :=
  all_bytes (p := fun c => ∀ b : Bool, stands c b = true → c.toNat < 128) stands_low0 c b h
theorem plainLen_all {l : List UInt8} : ∀ {b : Bool}, plainLen b l = l.length → ∀ c ∈ l, c.toNat < 128 := by
  induction l with
  | nil => intro b _ c hc; simp at hc
  | cons d r ih =>
    intro b h c hc
    simp only [plainLen] at h
    split at h
    · rename_i hs
      rcases List.mem_cons.1 hc with rfl | hc
      · exact stands_low hs
      · exact ih (by simpa using h) c hc
    · simp at h
theorem firstBad_low (f : Nat) : ∀ (p : Nat) (l : List UInt8), (∀ c ∈ l, c.toNat < 128) → P03.firstBad f p l = -1 := by
  induction f with
  | zero => intro p l _; rfl
  | succ f ih =>
    intro p l h
    unfold P03.firstBad
    split
    · rfl
    · rename_i hl
      cases l with
      | nil => simp at hl
      | cons d r =>
        rw [P03.one_1 (b := d) rfl (h d (by simp)), if_neg (by simp)]
        exact ih _ _ (fun c hc => h c (List.mem_of_mem_drop hc))
theorem check_plain {l : List UInt8} (h : P18.plain l = true) (n : Int) : P03.check l n = if n < (l.length : Int) then 2 else 0 := by
  unfold P18.plain at h
  simp only [Bool.and_eq_true, beq_iff_eq] at h
  unfold P03.check P03.first
  rw [firstBad_low _ _ _ (plainLen_all (b := false) (by omega))]
  rw [if_neg (show ¬ (0 : Int) ≤ -1 by omega)]
end R18
end Go.Proofs.YtbnheebblicgkaaDoor
