/- Layer 3: the model's decoding against the reference's: where one finds no rune the other finds none. -/
import Derived.Test.YtbnheebblicgkaaDoorPlain03
namespace Go.Proofs.YtbnheebblicgkaaDoor
set_option linter.unusedVariables false
set_option linter.unusedSimpArgs false
namespace P03
def oneN (n b0 b1 b2 b3 : Nat) : Nat :=
  if b0 < 128 then 1
  else if 192 ≤ b0 ∧ b0 < 224 then (if 1 < n ∧ (128 ≤ b1 ∧ b1 < 192) ∧ 128 ≤ (b0 - 192) * 64 + (b1 - 128) then 2 else 0)
  else if 224 ≤ b0 ∧ b0 < 240 then (if 2 < n ∧ (128 ≤ b1 ∧ b1 < 192) ∧ (128 ≤ b2 ∧ b2 < 192) ∧ 2048 ≤ (b0 - 224) * 4096 + (b1 - 128) * 64 + (b2 - 128) ∧
      ((b0 - 224) * 4096 + (b1 - 128) * 64 + (b2 - 128) < 55296 ∨ 57343 < (b0 - 224) * 4096 + (b1 - 128) * 64 + (b2 - 128)) then 3 else 0)
  else if 240 ≤ b0 ∧ b0 < 248 then (if 3 < n ∧ (128 ≤ b1 ∧ b1 < 192) ∧ (128 ≤ b2 ∧ b2 < 192) ∧ (128 ≤ b3 ∧ b3 < 192) ∧ 65536 ≤ (b0 - 240) * 262144 + (b1 - 128) * 4096 + (b2 - 128) * 64 + (b3 - 128) ∧
      (b0 - 240) * 262144 + (b1 - 128) * 4096 + (b2 - 128) * 64 + (b3 - 128) ≤ 1114111 then 4 else 0)
  else 0
set_option maxRecDepth 100000 in
set_option maxHeartbeats 4000000 in
theorem oneN_decode (n b0 b1 b2 b3 : Nat) (hn : 0 < n) (h0 : b0 < 256) :
    (oneN n b0 b1 b2 b3 = 0 ∧ Lib.decodeN n b0 b1 b2 b3 = (65533, 1) ∧ ¬ (2 < n ∧ b0 = 239 ∧ b1 = 191 ∧ b2 = 189)) ∨
    (oneN n b0 b1 b2 b3 ≠ 0 ∧ (Lib.decodeN n b0 b1 b2 b3).2 = oneN n b0 b1 b2 b3 ∧ ((Lib.decodeN n b0 b1 b2 b3).1 = 65533 → 2 < n ∧ b0 = 239 ∧ b1 = 191 ∧ b2 = 189)) := by
  have key : ∀ (x : Nat) (y : Nat × Nat), oneN n b0 b1 b2 b3 = x → Lib.decodeN n b0 b1 b2 b3 = y → ((x = 0 ∧ y = (65533, 1) ∧ ¬ (2 < n ∧ b0 = 239 ∧ b1 = 191 ∧ b2 = 189)) ∨ (x ≠ 0 ∧ y.2 = x ∧ (y.1 = 65533 → 2 < n ∧ b0 = 239 ∧ b1 = 191 ∧ b2 = 189))) := by
    intro x y hx hy
    unfold oneN at hx
    unfold Lib.decodeN at hy
    repeat' split at hx
    all_goals repeat' split at hy
    all_goals subst hx hy
    all_goals first
      | (exfalso; omega)
      | (refine .inl ⟨rfl, rfl, ?_⟩; omega)
      | (refine .inr ⟨by omega, rfl, fun h => ?_⟩; simp only at h; omega)
  exact key _ _ rfl rfl
theorem rune_iff (n : Int) : rune n = true ↔ (0 ≤ n ∧ n ≤ 1114111 ∧ (n < 55296 ∨ 57343 < n)) := by simp [rune]
theorem getD_drop1 (l : List UInt8) (j : Nat) : (l.drop j).getD 0 0 = l.getD j 0 := by simp [List.getD_eq_getElem?_getD]
theorem fin_eq (k : Nat) (m least : Int) : (if m < least then ((0 : Int), (0 : Int)) else if rune m = false then (0, 0) else ((k : Int) + 1, m)).1 = if least ≤ m ∧ rune m = true then (k : Int) + 1 else 0 := by
  cases hr : rune m <;> by_cases h : m < least
  · rw [if_pos h, if_neg (by simp)]
  · rw [if_neg h, if_pos rfl, if_neg (by simp)]
  · rw [if_pos h, if_neg (by omega)]
  · rw [if_neg h, if_neg (by simp), if_pos ⟨by omega, rfl⟩]
def ct (b : UInt8) : Prop := 128 ≤ b.toNat ∧ b.toNat < 192
instance (b : UInt8) : Decidable (ct b) := by unfold ct; exact inferInstance
theorem ct_no {b : UInt8} (h : ¬ ct b) : (b.toNat : Int) < 128 ∨ 192 ≤ (b.toNat : Int) := by unfold ct at h; omega
theorem ct_yes {b : UInt8} (h : ct b) : ¬ ((b.toNat : Int) < 128 ∨ 192 ≤ (b.toNat : Int)) := by unfold ct at h; omega
theorem tail1 (n0 least : Int) (l : List UInt8) : (tailOf 1 n0 least l).1 = if 1 < l.length ∧ ct (l.getD 1 0) ∧ least ≤ n0 * 64 + ((l.getD 1 0).toNat : Int) - 128 ∧ rune (n0 * 64 + ((l.getD 1 0).toNat : Int) - 128) = true then 2 else 0 := by
  by_cases h : l.length ≤ 1
  · rw [tailOf_short (by omega), if_neg (by omega)]
  · by_cases h1 : ct (l.getD 1 0)
    · rw [tailOf_some (by omega) ((cont_yes (getD_drop1 l 1) (ct_yes h1)).trans (cont_0 _ _)), fin_eq]
      by_cases h2 : least ≤ n0 * 64 + ((l.getD 1 0).toNat : Int) - 128 ∧ rune (n0 * 64 + ((l.getD 1 0).toNat : Int) - 128) = true
      · rw [if_pos h2, if_pos ⟨by omega, h1, h2⟩]; rfl
      · rw [if_neg h2, if_neg (fun h => h2 h.2.2)]
    · rw [tailOf_none (by omega) (cont_no (getD_drop1 l 1) (ct_no h1)), if_neg (fun h => h1 h.2.1)]
theorem tail2 (n0 least : Int) (l : List UInt8) : (tailOf 2 n0 least l).1 = if 2 < l.length ∧ ct (l.getD 1 0) ∧ ct (l.getD 2 0) ∧ least ≤ (n0 * 64 + ((l.getD 1 0).toNat : Int) - 128) * 64 + ((l.getD 2 0).toNat : Int) - 128 ∧ rune ((n0 * 64 + ((l.getD 1 0).toNat : Int) - 128) * 64 + ((l.getD 2 0).toNat : Int) - 128) = true then 3 else 0 := by
  by_cases h : l.length ≤ 2
  · rw [tailOf_short (by omega), if_neg (by omega)]
  · by_cases h1 : ct (l.getD 1 0)
    · have e1 := cont_yes (r := 1) (n := n0) (getD_drop1 l 1) (ct_yes h1)
      rw [List.drop_drop] at e1
      by_cases h2 : ct (l.getD 2 0)
      · rw [tailOf_some (by omega) (e1.trans ((cont_yes (getD_drop1 l 2) (ct_yes h2)).trans (cont_0 _ _))), fin_eq]
        by_cases h3 : least ≤ (n0 * 64 + ((l.getD 1 0).toNat : Int) - 128) * 64 + ((l.getD 2 0).toNat : Int) - 128 ∧ rune ((n0 * 64 + ((l.getD 1 0).toNat : Int) - 128) * 64 + ((l.getD 2 0).toNat : Int) - 128) = true
        · rw [if_pos h3, if_pos ⟨by omega, h1, h2, h3⟩]; rfl
        · rw [if_neg h3, if_neg (fun h => h3 h.2.2.2)]
      · rw [tailOf_none (by omega) (e1.trans (cont_no (getD_drop1 l 2) (ct_no h2))), if_neg (fun h => h2 h.2.2.1)]
    · rw [tailOf_none (by omega) (cont_no (getD_drop1 l 1) (ct_no h1)), if_neg (fun h => h1 h.2.1)]
theorem tail3 (n0 least : Int) (l : List UInt8) : (tailOf 3 n0 least l).1 = if 3 < l.length ∧ ct (l.getD 1 0) ∧ ct (l.getD 2 0) ∧ ct (l.getD 3 0) ∧ least ≤ ((n0 * 64 + ((l.getD 1 0).toNat : Int) - 128) * 64 + ((l.getD 2 0).toNat : Int) - 128) * 64 + ((l.getD 3 0).toNat : Int) - 128 ∧ rune (((n0 * 64 + ((l.getD 1 0).toNat : Int) - 128) * 64 + ((l.getD 2 0).toNat : Int) - 128) * 64 + ((l.getD 3 0).toNat : Int) - 128) = true then 4 else 0 := by
  by_cases h : l.length ≤ 3
  · rw [tailOf_short (by omega), if_neg (by omega)]
  · by_cases h1 : ct (l.getD 1 0)
    · have e1 := cont_yes (r := 2) (n := n0) (getD_drop1 l 1) (ct_yes h1)
      rw [List.drop_drop] at e1
      by_cases h2 : ct (l.getD 2 0)
      · have e2 := cont_yes (r := 1) (n := n0 * 64 + ((l.getD 1 0).toNat : Int) - 128) (getD_drop1 l 2) (ct_yes h2)
        rw [List.drop_drop] at e2
        by_cases h3 : ct (l.getD 3 0)
        · rw [tailOf_some (by omega) (e1.trans (e2.trans ((cont_yes (getD_drop1 l 3) (ct_yes h3)).trans (cont_0 _ _)))), fin_eq]
          by_cases h4 : least ≤ ((n0 * 64 + ((l.getD 1 0).toNat : Int) - 128) * 64 + ((l.getD 2 0).toNat : Int) - 128) * 64 + ((l.getD 3 0).toNat : Int) - 128 ∧ rune (((n0 * 64 + ((l.getD 1 0).toNat : Int) - 128) * 64 + ((l.getD 2 0).toNat : Int) - 128) * 64 + ((l.getD 3 0).toNat : Int) - 128) = true
          · rw [if_pos h4, if_pos ⟨by omega, h1, h2, h3, h4⟩]; rfl
          · rw [if_neg h4, if_neg (fun h => h4 h.2.2.2.2)]
        · rw [tailOf_none (by omega) (e1.trans (e2.trans (cont_no (getD_drop1 l 3) (ct_no h3)))), if_neg (fun h => h3 h.2.2.2.1)]
      · rw [tailOf_none (by omega) (e1.trans (cont_no (getD_drop1 l 2) (ct_no h2))), if_neg (fun h => h2 h.2.2.1)]
    · rw [tailOf_none (by omega) (cont_no (getD_drop1 l 1) (ct_no h1)), if_neg (fun h => h1 h.2.1)]
set_option maxHeartbeats 4000000 in
theorem one_N (l : List UInt8) : (one l).1 = (oneN l.length (l.getD 0 0).toNat (l.getD 1 0).toNat (l.getD 2 0).toNat (l.getD 3 0).toNat : Int) := by
  generalize hb : l.getD 0 0 = b
  have hb8 := b.toNat_lt
  unfold oneN
  by_cases c1 : b.toNat < 128
  · rw [one_1 hb c1, if_pos c1]; rfl
  · by_cases c2 : b.toNat < 192
    · rw [one_0 hb (by omega) (by omega), if_neg c1, if_neg (by omega), if_neg (by omega), if_neg (by omega)]; rfl
    · by_cases c3 : b.toNat < 224
      · rw [one_2 hb (by omega) c3, if_neg c1, if_pos (by omega), tail1]
        simp only [ct, rune_iff]
        split <;> split <;> first | rfl | (exfalso; omega)
      · by_cases c4 : b.toNat < 240
        · rw [one_3 hb (by omega) c4, if_neg c1, if_neg (by omega), if_pos (by omega), tail2]
          simp only [ct, rune_iff]
          split <;> split <;> first | rfl | (exfalso; omega)
        · by_cases c5 : b.toNat < 248
          · rw [one_4 hb (by omega) c5, if_neg c1, if_neg (by omega), if_neg (by omega), if_pos (by omega), tail3]
            simp only [ct, rune_iff]
            split <;> split <;> first | rfl | (exfalso; omega)
          · rw [one_0 hb (by omega) (by omega), if_neg c1, if_neg (by omega), if_neg (by omega), if_neg (by omega)]; rfl
theorem get_drop (s : ByteArray) (p j : Nat) : s.get! (p + j) = (s.data.toList.drop p).getD j 0 := by
  rw [List.getD_eq_getElem?_getD, List.getElem?_drop]
  by_cases h : p + j < s.size
  · rw [Lib.data_getElem? s _ h]
    show s.get! (p + j) = _
    simp [ByteArray.get!, getElem!_pos, h]
    rfl
  · rw [List.getElem?_eq_none (by rw [← Lib.size_eq]; omega)]
    show s.data[p + j]! = _
    rw [getElem!_neg _ _ (by simpa using h)]
    rfl
theorem encode_ne (r : Int) : (((Utf8.encode r).size : Int) == 0) = false := by
  unfold Utf8.encode
  simp only
  repeat' split
  all_goals rfl
/-- the model's iteration and the reference's: the same places without a rune, the same widths -/
theorem meets (s : ByteArray) (p : Nat) (h : p < s.size) :
    (((one (s.data.toList.drop p)).1 == 0) = true ∧ (taken (s.data.toList.drop p) ((Utf8.decode s p).1 : Int) == 0) = true) ∨
    (((one (s.data.toList.drop p)).1 == 0) = false ∧ (taken (s.data.toList.drop p) ((Utf8.decode s p).1 : Int) == 0) = false ∧ (one (s.data.toList.drop p)).1 = ((Utf8.decode s p).2 : Int)) := by
  have hd := Lib.decode_at s p
  have e0 := get_drop s p 0
  rw [Nat.add_zero] at e0
  rw [e0, get_drop, get_drop, get_drop] at hd
  have hl := drop_len s p
  have ho := one_N (s.data.toList.drop p)
  rw [hl] at ho
  have hk := oneN_decode (s.size - p) ((s.data.toList.drop p).getD 0 0).toNat ((s.data.toList.drop p).getD 1 0).toNat ((s.data.toList.drop p).getD 2 0).toNat ((s.data.toList.drop p).getD 3 0).toNat (by omega) (UInt8.toNat_lt _)
  rw [← hd] at hk
  have hpre : Lib.hasPrefix (s.data.toList.drop p) [239, 191, 189] = true ↔ (2 < s.size - p ∧ ((s.data.toList.drop p).getD 0 0).toNat = 239 ∧ ((s.data.toList.drop p).getD 1 0).toNat = 191 ∧ ((s.data.toList.drop p).getD 2 0).toNat = 189) := by
    rw [← hl]
    generalize s.data.toList.drop p = l
    match l with
    | [] => simp [Lib.hasPrefix]
    | [a] => simp [Lib.hasPrefix]
    | [a, b] => simp [Lib.hasPrefix]
    | a :: b :: c :: r =>
      simp [Lib.hasPrefix, ← UInt8.toNat_inj]
      omega
  rcases hk with ⟨h1, h2, h3⟩ | ⟨h1, h2, h3⟩
  · refine .inl ⟨by rw [ho, h1]; rfl, ?_⟩
    rw [h2, taken, if_neg (by simp), if_neg (fun h => h3 (hpre.1 h))]; rfl
  · refine .inr ⟨by rw [ho]; exact beq_eq_false_iff_ne.2 (by omega), ?_, by rw [ho, h2]⟩
    by_cases hr : (Utf8.decode s p).1 = 65533
    · rw [hr, taken, if_neg (by simp), if_pos (hpre.2 (h3 hr))]; rfl
    · have hne : (((Utf8.decode s p).1 : Int) != 65533) = true := by simp; omega
      rw [taken, if_pos hne]; exact encode_ne _
end P03
end Go.Proofs.YtbnheebblicgkaaDoor
