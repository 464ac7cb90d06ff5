/- The plain functions of layer 3 (utf): where a text's bytes are no rune's.; Layer 3: the model's decoding against the reference's: where one finds no rune the other finds none.; Plain words of layer 17: the lines of a text, a line without its remark.; Plain words of layer 17: the runes of a text and its bytes: which may not be there.; The plain functions of layer 18 (scalar) and layer 3 (utf), as far as the claims of scalar need them: no program in sight.; More plain functions of layer 18: what stands within quotes, reading, numbers.; More plain functions of layer 18: reading and putting.; The plain functions of layer 19 (tok): the tokens of a line.; More plain functions of layer 18: numbers.; The plain functions of rescriptref18, and that they are the program's.; What stands behind a backslash, case by case; a plain text has no byte that is no rune's.; Reading, as the reference does it.; Plain words of rescriptref17.All: how many lines stand ahead of a place.; What rescriptref18.Quote lays for a byte.; The plain functions of layer 20 (block): trees, how tokens are read as one, and what is told of one.; Plain functions of layer 20: a tree's nodes in order, its levels, what is wrong with it, its lines. -/
import Derived.Test.YtefokfbgpfcbkaaGreatGA
import Derived.Lib.Strings
import Derived.Lib.IndexBytes
import Derived.Lib.DecodeN
import Derived.Laws.RangeAny
import Derived.Lib.Bytealg
namespace Go.Proofs.YtefokfbgpfcbkaaGreat
set_option linter.unusedVariables false
set_option linter.unusedSimpArgs false
namespace P03
def rune (n : Int) : Bool := decide (0 ≤ n) && (decide (n ≤ 1114111) && (decide (n < 55296) || decide (57343 < n)))
/-- r bytes more of a rune, n so far -/
def contLoop : Nat → Int → List UInt8 → Option Int
  | 0, n, _ => some n
  | r + 1, n, l => if ((l.getD 0 0).toNat : Int) < 128 ∨ 192 ≤ ((l.getD 0 0).toNat : Int) then none else contLoop r (n * 64 + ((l.getD 0 0).toNat : Int) - 128) (l.drop 1)
def tailOf (k : Nat) (n least : Int) (l : List UInt8) : Int × Int :=
  if (l.length : Int) ≤ (k : Int) then (0, 0) else match contLoop k n (l.drop 1) with
  | none => (0, 0)
  | some m => if m < least then (0, 0) else if rune m = false then (0, 0) else ((k : Int) + 1, m)
/-- how many bytes the rune at the head has, and it; 0: there is none -/
def one (l : List UInt8) : Int × Int :=
  if ((l.getD 0 0).toNat : Int) < 128 then (1, ((l.getD 0 0).toNat : Int))
  else if 192 ≤ ((l.getD 0 0).toNat : Int) ∧ ((l.getD 0 0).toNat : Int) < 224 then tailOf 1 (((l.getD 0 0).toNat : Int) - 192) 128 l
  else if 224 ≤ ((l.getD 0 0).toNat : Int) ∧ ((l.getD 0 0).toNat : Int) < 240 then tailOf 2 (((l.getD 0 0).toNat : Int) - 224) 2048 l
  else if 240 ≤ ((l.getD 0 0).toNat : Int) ∧ ((l.getD 0 0).toNat : Int) < 248 then tailOf 3 (((l.getD 0 0).toNat : Int) - 240) 65536 l
  else (0, 0)
theorem getD_drop (s : ByteArray) (k : Nat) (h : k < s.size) : (s.data.toList.drop k).getD 0 0 = s[k] := by
  rw [List.getD_eq_getElem?_getD, List.getElem?_drop, Nat.add_zero, Lib.data_getElem? s k h]; rfl
theorem drop_len (s : ByteArray) (k : Nat) : (s.data.toList.drop k).length = s.size - k := by rw [List.length_drop, Lib.size_eq]
/-- where bytes begin that are no rune's -/
def firstBad : Nat → Nat → List UInt8 → Int
  | 0, _, _ => -1
  | f + 1, p, l => if l.length = 0 then -1 else if ((one l).1 == 0) = true then (p : Int) else firstBad f (p + (one l).1.toNat) (l.drop (one l).1.toNat)
def first (l : List UInt8) : Int := firstBad (l.length + 1) 0 l
def taken (l : List UInt8) (r : Int) : Int := if (r != 65533) = true then ((Utf8.encode r).size : Int) else if Lib.hasPrefix l [239, 191, 189] = true then 3 else 0
/-- 2: ErrLong, 9: ErrUtf -/
def check (l : List UInt8) (most : Int) : Int := if most < (l.length : Int) then 2 else if 0 ≤ first l then 9 else 0
theorem tailOf_bd (k : Nat) (n least : Int) (l : List UInt8) : 0 ≤ (tailOf k n least l).1 ∧ (tailOf k n least l).1 ≤ k + 1 ∧ ((tailOf k n least l).1 ≤ l.length) := by
  unfold tailOf
  repeat' split
  all_goals simp
  all_goals omega
theorem one_bd (l : List UInt8) (h : 0 < l.length) : 0 ≤ (one l).1 ∧ (one l).1 ≤ 4 ∧ (one l).1 ≤ l.length := by
  unfold one
  have h1 := tailOf_bd 1 (((l.getD 0 0).toNat : Int) - 192) 128 l
  have h2 := tailOf_bd 2 (((l.getD 0 0).toNat : Int) - 224) 2048 l
  have h3 := tailOf_bd 3 (((l.getD 0 0).toNat : Int) - 240) 65536 l
  generalize ((l.getD 0 0).toNat : Int) = c at *
  repeat' split
  all_goals omega
theorem one_1 {l : List UInt8} {b : UInt8} (h : l.getD 0 0 = b) (h1 : b.toNat < 128) : one l = (1, (b.toNat : Int)) := by
  unfold one; rw [h, if_pos (by omega)]
theorem one_2 {l : List UInt8} {b : UInt8} (h : l.getD 0 0 = b) (h1 : 192 ≤ b.toNat) (h2 : b.toNat < 224) : one l = tailOf 1 ((b.toNat : Int) - 192) 128 l := by
  unfold one; rw [h, if_neg (by omega), if_pos (by omega)]
theorem one_3 {l : List UInt8} {b : UInt8} (h : l.getD 0 0 = b) (h1 : 224 ≤ b.toNat) (h2 : b.toNat < 240) : one l = tailOf 2 ((b.toNat : Int) - 224) 2048 l := by
  unfold one; rw [h, if_neg (by omega), if_neg (by omega), if_pos (by omega)]
theorem one_4 {l : List UInt8} {b : UInt8} (h : l.getD 0 0 = b) (h1 : 240 ≤ b.toNat) (h2 : b.toNat < 248) : one l = tailOf 3 ((b.toNat : Int) - 240) 65536 l := by
  unfold one; rw [h, if_neg (by omega), if_neg (by omega), if_neg (by omega), if_pos (by omega)]
theorem one_0 {l : List UInt8} {b : UInt8} (h : l.getD 0 0 = b) (h1 : 128 ≤ b.toNat) (h2 : b.toNat < 192 ∨ 248 ≤ b.toNat) : one l = (0, 0) := by
  unfold one; rw [h, if_neg (by omega), if_neg (by omega), if_neg (by omega), if_neg (by omega)]
theorem tailOf_short {k : Nat} {n least : Int} {l : List UInt8} (h : (l.length : Int) ≤ (k : Int)) : tailOf k n least l = (0, 0) := by
  unfold tailOf; rw [if_pos h]
theorem tailOf_none {k : Nat} {n least : Int} {l : List UInt8} (h : ¬ (l.length : Int) ≤ (k : Int)) (hc : contLoop k n (l.drop 1) = none) : tailOf k n least l = (0, 0) := by
  unfold tailOf; rw [if_neg h, hc]
theorem tailOf_some {k : Nat} {n least m : Int} {l : List UInt8} (h : ¬ (l.length : Int) ≤ (k : Int)) (hc : contLoop k n (l.drop 1) = some m) :
    tailOf k n least l = if m < least then (0, 0) else if rune m = false then (0, 0) else ((k : Int) + 1, m) := by
  unfold tailOf; rw [if_neg h, hc]
theorem cont_succ (r : Nat) (n : Int) (l : List UInt8) : contLoop (r + 1) n l = if ((l.getD 0 0).toNat : Int) < 128 ∨ 192 ≤ ((l.getD 0 0).toNat : Int) then none else contLoop r (n * 64 + ((l.getD 0 0).toNat : Int) - 128) (l.drop 1) := rfl
theorem cont_0 (n : Int) (l : List UInt8) : contLoop 0 n l = some n := rfl
theorem cont_no {r : Nat} {n : Int} {l : List UInt8} {b : UInt8} (h : l.getD 0 0 = b) (h1 : (b.toNat : Int) < 128 ∨ 192 ≤ (b.toNat : Int)) : contLoop (r + 1) n l = none := by
  rw [cont_succ, h, if_pos h1]
theorem cont_yes {r : Nat} {n : Int} {l : List UInt8} {b : UInt8} (h : l.getD 0 0 = b) (h1 : ¬ ((b.toNat : Int) < 128 ∨ 192 ≤ (b.toNat : Int))) : contLoop (r + 1) n l = contLoop r (n * 64 + (b.toNat : Int) - 128) (l.drop 1) := by
  rw [cont_succ, h, if_neg h1]
end P03
end Go.Proofs.YtefokfbgpfcbkaaGreat
namespace Go.Proofs.YtefokfbgpfcbkaaGreat
set_option linter.unusedVariables false
set_option linter.unusedSimpArgs false
namespace P03
def oneN (n b0 b1 b2 b3 : Nat) : Nat :=
  if b0 < 128 then 1
  else if 192 ≤ b0 ∧ b0 < 224 then (if 1 < n ∧ (128 ≤ b1 ∧ b1 < 192) ∧ 128 ≤ (b0 - 192) * 64 + (b1 - 128) then 2 else 0)
  else if 224 ≤ b0 ∧ b0 < 240 then (if 2 < n ∧ (128 ≤ b1 ∧ b1 < 192) ∧ (128 ≤ b2 ∧ b2 < 192) ∧ 2048 ≤ (b0 - 224) * 4096 + (b1 - 128) * 64 + (b2 - 128) ∧
      ((b0 - 224) * 4096 + (b1 - 128) * 64 + (b2 - 128) < 55296 ∨ 57343 < (b0 - 224) * 4096 + (b1 - 128) * 64 + (b2 - 128)) then 3 else 0)
  else if 240 ≤ b0 ∧ b0 < 248 then (if 3 < n ∧ (128 ≤ b1 ∧ b1 < 192) ∧ (128 ≤ b2 ∧ b2 < 192) ∧ (128 ≤ b3 ∧ b3 < 192) ∧ 65536 ≤ (b0 - 240) * 262144 + (b1 - 128) * 4096 + (b2 - 128) * 64 + (b3 - 128) ∧
      (b0 - 240) * 262144 + (b1 - 128) * 4096 + (b2 - 128) * 64 + (b3 - 128) ≤ 1114111 then 4 else 0)
  else 0
set_option maxRecDepth 100000 in
set_option maxHeartbeats 4000000 in
theorem oneN_decode (n b0 b1 b2 b3 : Nat) (hn : 0 < n) (h0 : b0 < 256) :
    (oneN n b0 b1 b2 b3 = 0 ∧ Lib.decodeN n b0 b1 b2 b3 = (65533, 1) ∧ ¬ (2 < n ∧ b0 = 239 ∧ b1 = 191 ∧ b2 = 189)) ∨
    (oneN n b0 b1 b2 b3 ≠ 0 ∧ (Lib.decodeN n b0 b1 b2 b3).2 = oneN n b0 b1 b2 b3 ∧ ((Lib.decodeN n b0 b1 b2 b3).1 = 65533 → 2 < n ∧ b0 = 239 ∧ b1 = 191 ∧ b2 = 189)) := by
  have key : ∀ (x : Nat) (y : Nat × Nat), oneN n b0 b1 b2 b3 = x → Lib.decodeN n b0 b1 b2 b3 = y → ((x = 0 ∧ y = (65533, 1) ∧ ¬ (2 < n ∧ b0 = 239 ∧ b1 = 191 ∧ b2 = 189)) ∨ (x ≠ 0 ∧ y.2 = x ∧ (y.1 = 65533 → 2 < n ∧ b0 = 239 ∧ b1 = 191 ∧ b2 = 189))) := by
    intro x y hx hy
    unfold oneN at hx
    unfold Lib.decodeN at hy
    repeat' split at hx
    all_goals repeat' split at hy
    all_goals subst hx hy
    all_goals first
      | (exfalso; omega)
      | (refine .inl ⟨rfl, rfl, ?_⟩; omega)
      | (refine .inr ⟨by omega, rfl, fun h => ?_⟩; simp only at h; omega)
  exact key _ _ rfl rfl
theorem rune_iff (n : Int) : rune n = true ↔ (0 ≤ n ∧ n ≤ 1114111 ∧ (n < 55296 ∨ 57343 < n)) := by simp [rune]
theorem getD_drop1 (l : List UInt8) (j : Nat) : (l.drop j).getD 0 0 = l.getD j 0 := by simp [List.getD_eq_getElem?_getD]
theorem fin_eq (k : Nat) (m least : Int) : (if m < least then ((0 : Int), (0 : Int)) else if rune m = false then (0, 0) else ((k : Int) + 1, m)).1 = if least ≤ m ∧ rune m = true then (k : Int) + 1 else 0 := by
  cases hr : rune m <;> by_cases h : m < least
  · rw [if_pos h, if_neg (by simp)]
  · rw [if_neg h, if_pos rfl, if_neg (by simp)]
  · rw [if_pos h, if_neg (by omega)]
  · rw [if_neg h, if_neg (by simp), if_pos ⟨by omega, rfl⟩]
def ct (b : UInt8) : Prop := 128 ≤ b.toNat ∧ b.toNat < 192
instance (b : UInt8) : Decidable (ct b) := by unfold ct; exact inferInstance
theorem ct_no {b : UInt8} (h : ¬ ct b) : (b.toNat : Int) < 128 ∨ 192 ≤ (b.toNat : Int) := by unfold ct at h; omega
theorem ct_yes {b : UInt8} (h : ct b) : ¬ ((b.toNat : Int) < 128 ∨ 192 ≤ (b.toNat : Int)) := by unfold ct at h; omega
theorem tail1 (n0 least : Int) (l : List UInt8) : (tailOf 1 n0 least l).1 = if 1 < l.length ∧ ct (l.getD 1 0) ∧ least ≤ n0 * 64 + ((l.getD 1 0).toNat : Int) - 128 ∧ rune (n0 * 64 + ((l.getD 1 0).toNat : Int) - 128) = true then 2 else 0 := by
  by_cases h : l.length ≤ 1
  · rw [tailOf_short (by omega), if_neg (by omega)]
  · by_cases h1 : ct (l.getD 1 0)
    · rw [tailOf_some (by omega) ((cont_yes (getD_drop1 l 1) (ct_yes h1)).trans (cont_0 _ _)), fin_eq]
      by_cases h2 : least ≤ n0 * 64 + ((l.getD 1 0).toNat : Int) - 128 ∧ rune (n0 * 64 + ((l.getD 1 0).toNat : Int) - 128) = true
      · rw [if_pos h2, if_pos ⟨by omega, h1, h2⟩]; rfl
      · rw [if_neg h2, if_neg (fun h => h2 h.2.2)]
    · rw [tailOf_none (by omega) (cont_no (getD_drop1 l 1) (ct_no h1)), if_neg (fun h => h1 h.2.1)]
theorem tail2 (n0 least : Int) (l : List UInt8) : (tailOf 2 n0 least l).1 = if 2 < l.length ∧ ct (l.getD 1 0) ∧ ct (l.getD 2 0) ∧ least ≤ (n0 * 64 + ((l.getD 1 0).toNat : Int) - 128) * 64 + ((l.getD 2 0).toNat : Int) - 128 ∧ rune ((n0 * 64 + ((l.getD 1 0).toNat : Int) - 128) * 64 + ((l.getD 2 0).toNat : Int) - 128) = true then 3 else 0 := by
  by_cases h : l.length ≤ 2
  · rw [tailOf_short (by omega), if_neg (by omega)]
  · by_cases h1 : ct (l.getD 1 0)
    · have e1 := cont_yes (r := 1) (n := n0) (getD_drop1 l 1) (ct_yes h1)
      rw [List.drop_drop] at e1
      by_cases h2 : ct (l.getD 2 0)
      · rw [tailOf_some (by omega) (e1.trans ((cont_yes (getD_drop1 l 2) (ct_yes h2)).trans (cont_0 _ _))), fin_eq]
        by_cases h3 : least ≤ (n0 * 64 + ((l.getD 1 0).toNat : Int) - 128) * 64 + ((l.getD 2 0).toNat : Int) - 128 ∧ rune ((n0 * 64 + ((l.getD 1 0).toNat : Int) - 128) * 64 + ((l.getD 2 0).toNat : Int) - 128) = true
        · rw [if_pos h3, if_pos ⟨by omega, h1, h2, h3⟩]; rfl
        · rw [if_neg h3, if_neg (fun h => h3 h.2.2.2)]
      · rw [tailOf_none (by omega) (e1.trans (cont_no (getD_drop1 l 2) (ct_no h2))), if_neg (fun h => h2 h.2.2.1)]
    · rw [tailOf_none (by omega) (cont_no (getD_drop1 l 1) (ct_no h1)), if_neg (fun h => h1 h.2.1)]
theorem tail3 (n0 least : Int) (l : List UInt8) : (tailOf 3 n0 least l).1 = if 3 < l.length ∧ ct (l.getD 1 0) ∧ ct (l.getD 2 0) ∧ ct (l.getD 3 0) ∧ least ≤ ((n0 * 64 + ((l.getD 1 0).toNat : Int) - 128) * 64 + ((l.getD 2 0).toNat : Int) - 128) * 64 + ((l.getD 3 0).toNat : Int) - 128 ∧ rune (((n0 * 64 + ((l.getD 1 0).toNat : Int) - 128) * 64 + ((l.getD 2 0).toNat : Int) - 128) * 64 + ((l.getD 3 0).toNat : Int) - 128) = true then 4 else 0 := by
  by_cases h : l.length ≤ 3
  · rw [tailOf_short (by omega), if_neg (by omega)]
  · by_cases h1 : ct (l.getD 1 0)
    · have e1 := cont_yes (r := 2) (n := n0) (getD_drop1 l 1) (ct_yes h1)
      rw [List.drop_drop] at e1
      by_cases h2 : ct (l.getD 2 0)
      · have e2 := cont_yes (r := 1) (n := n0 * 64 + ((l.getD 1 0).toNat : Int) - 128) (getD_drop1 l 2) (ct_yes h2)
        rw [List.drop_drop] at e2
        by_cases h3 : ct (l.getD 3 0)
        · rw [tailOf_some (by omega) (e1.trans (e2.trans ((cont_yes (getD_drop1 l 3) (ct_yes h3)).trans (cont_0 _ _)))), fin_eq]
          by_cases h4 : least ≤ ((n0 * 64 + ((l.getD 1 0).toNat : Int) - 128) * 64 + ((l.getD 2 0).toNat : Int) - 128) * 64 + ((l.getD 3 0).toNat : Int) - 128 ∧ rune (((n0 * 64 + ((l.getD 1 0).toNat : Int) - 128) * 64 + ((l.getD 2 0).toNat : Int) - 128) * 64 + ((l.getD 3 0).toNat : Int) - 128) = true
          · rw [if_pos h4, if_pos ⟨by omega, h1, h2, h3, h4⟩]; rfl
          · rw [if_neg h4, if_neg (fun h => h4 h.2.2.2.2)]
        · rw [tailOf_none (by omega) (e1.trans (e2.trans (cont_no (getD_drop1 l 3) (ct_no h3)))), if_neg (fun h => h3 h.2.2.2.1)]
      · rw [tailOf_none (by omega) (e1.trans (cont_no (getD_drop1 l 2) (ct_no h2))), if_neg (fun h => h2 h.2.2.1)]
    · rw [tailOf_none (by omega) (cont_no (getD_drop1 l 1) (ct_no h1)), if_neg (fun h => h1 h.2.1)]
set_option maxHeartbeats 4000000 in
theorem one_N (l : List UInt8) : (one l).1 = (oneN l.length (l.getD 0 0).toNat (l.getD 1 0).toNat (l.getD 2 0).toNat (l.getD 3 0).toNat : Int) := by
  generalize hb : l.getD 0 0 = b
  have hb8 := b.toNat_lt
  unfold oneN
  by_cases c1 : b.toNat < 128
  · rw [one_1 hb c1, if_pos c1]; rfl
  · by_cases c2 : b.toNat < 192
    · rw [one_0 hb (by omega) (by omega), if_neg c1, if_neg (by omega), if_neg (by omega), if_neg (by omega)]; rfl
    · by_cases c3 : b.toNat < 224
      · rw [one_2 hb (by omega) c3, if_neg c1, if_pos (by omega), tail1]
        simp only [ct, rune_iff]
        split <;> split <;> first | rfl | (exfalso; omega)
      · by_cases c4 : b.toNat < 240
        · rw [one_3 hb (by omega) c4, if_neg c1, if_neg (by omega), if_pos (by omega), tail2]
          simp only [ct, rune_iff]
          split <;> split <;> first | rfl | (exfalso; omega)
        · by_cases c5 : b.toNat < 248
          · rw [one_4 hb (by omega) c5, if_neg c1, if_neg (by omega), if_neg (by omega), if_pos (by omega), tail3]
            simp only [ct, rune_iff]
            split <;> split <;> first | rfl | (exfalso; omega)
          · rw [one_0 hb (by omega) (by omega), if_neg c1, if_neg (by omega), if_neg (by omega), if_neg (by omega)]; rfl
theorem get_drop (s : ByteArray) (p j : Nat) : s.get! (p + j) = (s.data.toList.drop p).getD j 0 := by
  rw [List.getD_eq_getElem?_getD, List.getElem?_drop]
  by_cases h : p + j < s.size
  · rw [Lib.data_getElem? s _ h]
    show s.get! (p + j) = _
    simp [ByteArray.get!, getElem!_pos, h]
    rfl
  · rw [List.getElem?_eq_none (by rw [← Lib.size_eq]; omega)]
    show s.data[p + j]! = _
    rw [getElem!_neg _ _ (by simpa using h)]
    rfl
theorem encode_ne (r : Int) : (((Utf8.encode r).size : Int) == 0) = false := by
  unfold Utf8.encode
  simp only
  repeat' split
  all_goals rfl
/-- the model's iteration and the reference's: the same places without a rune, the same widths -/
theorem meets (s : ByteArray) (p : Nat) (h : p < s.size) :
    (((one (s.data.toList.drop p)).1 == 0) = true ∧ (taken (s.data.toList.drop p) ((Utf8.decode s p).1 : Int) == 0) = true) ∨
    (((one (s.data.toList.drop p)).1 == 0) = false ∧ (taken (s.data.toList.drop p) ((Utf8.decode s p).1 : Int) == 0) = false ∧ (one (s.data.toList.drop p)).1 = ((Utf8.decode s p).2 : Int)) := by
  have hd := Lib.decode_at s p
  have e0 := get_drop s p 0
  rw [Nat.add_zero] at e0
  rw [e0, get_drop, get_drop, get_drop] at hd
  have hl := drop_len s p
  have ho := one_N (s.data.toList.drop p)
  rw [hl] at ho
  have hk := oneN_decode (s.size - p) ((s.data.toList.drop p).getD 0 0).toNat ((s.data.toList.drop p).getD 1 0).toNat ((s.data.toList.drop p).getD 2 0).toNat ((s.data.toList.drop p).getD 3 0).toNat (by omega) (UInt8.toNat_lt _)
  rw [← hd] at hk
  have hpre : Lib.hasPrefix (s.data.toList.drop p) [239, 191, 189] = true ↔ (2 < s.size - p ∧ ((s.data.toList.drop p).getD 0 0).toNat = 239 ∧ ((s.data.toList.drop p).getD 1 0).toNat = 191 ∧ ((s.data.toList.drop p).getD 2 0).toNat = 189) := by
    rw [← hl]
    generalize s.data.toList.drop p = l
    match l with
    | [] => simp [Lib.hasPrefix]
    | [a] => simp [Lib.hasPrefix]
    | [a, b] => simp [Lib.hasPrefix]
    | a :: b :: c :: r =>
      simp [Lib.hasPrefix, ← UInt8.toNat_inj]
      omega
  rcases hk with ⟨h1, h2, h3⟩ | ⟨h1, h2, h3⟩
  · refine .inl ⟨by rw [ho, h1]; rfl, ?_⟩
    rw [h2, taken, if_neg (by simp), if_neg (fun h => h3 (hpre.1 h))]; rfl
  · refine .inr ⟨by rw [ho]; exact beq_eq_false_iff_ne.2 (by omega), ?_, by rw [ho, h2]⟩
    by_cases hr : (Utf8.decode s p).1 = 65533
    · rw [hr, taken, if_neg (by simp), if_pos (hpre.2 (h3 hr))]; rfl
    · have hne : (((Utf8.decode s p).1 : Int) != 65533) = true := by simp; omega
      rw [taken, if_pos hne]; exact encode_ne _
end P03
end Go.Proofs.YtefokfbgpfcbkaaGreat
namespace Go.Proofs.YtefokfbgpfcbkaaGreat
set_option linter.unusedVariables false
set_option linter.unusedSimpArgs false
open Go.RowKit
/-- the lines of a text, each with its end -/
def rawL : List UInt8 → List (List UInt8)
  | [] => []
  | c :: r => if c = 10 then [c] :: rawL r else match rawL r with
    | [] => [[c]]
    | l :: ls => (c :: l) :: ls
/-- a line without its end -/
def chop (l : List UInt8) : List UInt8 := if l.getLast? = some 10 then l.dropLast else l
/-- the lines of a text -/
def lines17 (s : List UInt8) : List (List UInt8) := (rawL s).map chop
/-- the place of the first end of a line -/
def feedAt (s : List UInt8) : Option Nat := s.findIdx? (· == 10)
theorem rawL_some : ∀ (s : List UInt8) (i : Nat), feedAt s = some i → rawL s = s.take (i + 1) :: rawL (s.drop (i + 1))
  | [], i, h => by simp [feedAt] at h
  | c :: r, i, h => by
    unfold feedAt at h
    rw [List.findIdx?_cons] at h
    by_cases hc : c = 10
    · subst hc
      simp at h
      subst h
      simp [rawL]
    · simp [hc] at h
      obtain ⟨j, hj, rfl⟩ := h
      have := rawL_some r j hj
      rw [rawL, if_neg hc, this]
      simp
theorem rawL_none : ∀ (s : List UInt8), s ≠ [] → feedAt s = none → rawL s = [s]
  | [], h, _ => absurd rfl h
  | [c], _, h => by
    unfold feedAt at h
    simp at h
    simp [rawL, h]
  | c :: d :: r, _, h => by
    unfold feedAt at h
    rw [List.findIdx?_cons] at h
    by_cases hc : c = 10
    · simp [hc] at h
    · have h2 : feedAt (d :: r) = none := by
        unfold feedAt
        simp [hc] at h
        simp [h.1]
        exact h.2
      have := rawL_none (d :: r) (by simp) h2
      rw [rawL, if_neg hc, this]
theorem rawL_nil_iff (s : List UInt8) : rawL s = [] ↔ s = [] := by
  constructor
  · intro h
    cases s with
    | nil => rfl
    | cons c r =>
      unfold rawL at h
      split at h
      · cases h
      · split at h <;> cases h
  · rintro rfl; rfl
/-- the lines as the document's answer gathers them: 'now' is what the line has so far -/
def splitA : List UInt8 → List UInt8 → List (List UInt8)
  | now, [] => if now = [] then [] else [now]
  | now, c :: r => if c = 10 then now :: splitA [] r else splitA (now ++ [c]) r
theorem chop_end (l : List UInt8) : chop (l ++ [10]) = l := by simp [chop]
theorem chop_not (l : List UInt8) (h : (10 : UInt8) ∉ l) : chop l = l := by
  unfold chop
  rw [if_neg]
  intro h2
  exact h (List.mem_of_getLast? h2)
theorem splitA_eq : ∀ (s now : List UInt8), (10 : UInt8) ∉ now → splitA now s = lines17 (now ++ s)
  | [], now, h => by
    unfold splitA
    split
    · rename_i h2; subst h2; rfl
    · rename_i h2
      have h3 : feedAt now = none := by
        unfold feedAt
        rw [List.findIdx?_eq_none_iff]
        intro x hx
        have : x ≠ 10 := fun e => h (e ▸ hx)
        simpa using this
      rw [List.append_nil, lines17, rawL_none now h2 h3]
      simp [chop_not now h]
  | c :: r, now, h => by
    unfold splitA
    split
    · rename_i hc; subst hc
      have h3 : feedAt (now ++ 10 :: r) = some now.length := by
        unfold feedAt
        rw [List.findIdx?_append]
        have : now.findIdx? (· == 10) = none := by
          rw [List.findIdx?_eq_none_iff]
          intro x hx
          have : x ≠ 10 := fun e => h (e ▸ hx)
          simpa using this
        rw [this, List.findIdx?_cons]
        simp
      rw [lines17, rawL_some _ _ h3]
      have e1 : (now ++ 10 :: r).take (now.length + 1) = now ++ [10] := by
        rw [List.take_length_add_append]; rfl
      have e2 : (now ++ 10 :: r).drop (now.length + 1) = r := by
        rw [List.drop_length_add_append]; rfl
      rw [e1, e2, List.map_cons, chop_end, splitA_eq r [] (by simp)]
      rfl
    · rename_i hc
      rw [splitA_eq r (now ++ [c]) (by simp [h]; exact fun e => hc e.symm)]
      simp
theorem splitA_nil (s : List UInt8) : splitA [] s = lines17 s := by rw [splitA_eq s [] (by simp)]; rfl
/-- trailing blanks away -/
def trimR (l : List UInt8) : List UInt8 := (l.reverse.dropWhile (· == 32)).reverse
/-- leading blanks away -/
def trimL (l : List UInt8) : List UInt8 := l.dropWhile (· == 32)
/-- where a line's remark begins: 'prev' the byte ahead (none: none), state: within quotes, behind a back stroke; k how many bytes have gone by -/
def remarkAt : Bool → Bool → Bool → Nat → List UInt8 → Nat
  | _, _, _, k, [] => k
  | bl, within, taken, k, c :: r =>
    if taken then remarkAt (c == 32) within false (k + 1) r
    else if within && c == 92 then remarkAt (c == 32) within true (k + 1) r
    else if c == 34 then remarkAt (c == 32) (!within) false (k + 1) r
    else if within || c != 35 then remarkAt (c == 32) within false (k + 1) r
    else if bl then k
    else remarkAt (c == 32) within false (k + 1) r
def strip17 (l : List UInt8) : List UInt8 := trimR (l.take (remarkAt true false false 0 l))
/-- a byte that may not be there -/
def oddB (c : UInt8) : Bool := c < 32 || c == 127
end Go.Proofs.YtefokfbgpfcbkaaGreat
namespace Go.Proofs.YtefokfbgpfcbkaaGreat
set_option linter.unusedVariables false
set_option linter.unusedSimpArgs false
open Go.RowKit
set_option maxRecDepth 100000 in
theorem decN_high (n b0 b1 b2 b3 : Nat) (hn : 1 ≤ n) (h0 : 128 ≤ b0) :
    128 ≤ (Lib.decodeN n b0 b1 b2 b3).1 ∧ 1 ≤ (Lib.decodeN n b0 b1 b2 b3).2 ∧ (Lib.decodeN n b0 b1 b2 b3).2 ≤ 4 ∧ (Lib.decodeN n b0 b1 b2 b3).2 ≤ n ∧
    (1 < (Lib.decodeN n b0 b1 b2 b3).2 → 128 ≤ b1) ∧ (2 < (Lib.decodeN n b0 b1 b2 b3).2 → 128 ≤ b2) ∧ (3 < (Lib.decodeN n b0 b1 b2 b3).2 → 128 ≤ b3) := by
  have key : ∀ y : Nat × Nat, Lib.decodeN n b0 b1 b2 b3 = y → 128 ≤ y.1 ∧ 1 ≤ y.2 ∧ y.2 ≤ 4 ∧ y.2 ≤ n ∧ (1 < y.2 → 128 ≤ b1) ∧ (2 < y.2 → 128 ≤ b2) ∧ (3 < y.2 → 128 ≤ b3) := by
    intro y hy
    unfold Lib.decodeN at hy
    repeat' split at hy
    all_goals subst hy
    all_goals refine ⟨?_, ?_, ?_, ?_, ?_, ?_, ?_⟩
    all_goals simp only
    all_goals omega
  exact key _ rfl
theorem decN_low (n b0 b1 b2 b3 : Nat) (h0 : b0 < 128) : Lib.decodeN n b0 b1 b2 b3 = (b0, 1) := by
  unfold Lib.decodeN; rw [if_pos h0]
/-- a rune that may not be there -/
def oddN (r : Nat) : Bool := decide (r < 32) || r == 127
theorem oddB_N (c : UInt8) : oddB c = oddN c.toNat := by
  revert c
  apply all_bytes
  decide +kernel
theorem oddB_high (c : UInt8) (h : 128 ≤ c.toNat) : oddB c = false := by
  rw [oddB_N]; unfold oddN; simp; omega
theorem get_drop2 (s : ByteArray) (p j : Nat) : s.get! (p + j) = (s.data.toList.drop p).getD j 0 := P03.get_drop s p j
theorem decode_odd (s : ByteArray) (k : Nat) (h : k < s.size) :
    1 ≤ (Utf8.decode s k).2 ∧ k + (Utf8.decode s k).2 ≤ s.size ∧ ((s.data.toList.drop k).take (Utf8.decode s k).2).any oddB = oddN (Utf8.decode s k).1 := by
  have hd := Lib.decode_at s k
  have e0 := get_drop2 s k 0
  rw [Nat.add_zero] at e0
  rw [e0, get_drop2, get_drop2, get_drop2] at hd
  have hl : (s.data.toList.drop k).length = s.size - k := P03.drop_len s k
  generalize s.data.toList.drop k = l at *
  match l, hl with
  | a :: r, hl =>
    by_cases ha : a.toNat < 128
    · rw [show (a :: r).getD 0 0 = a from rfl, decN_low _ _ _ _ _ ha] at hd
      rw [hd]
      refine ⟨Nat.le_refl _, by simp; omega, ?_⟩
      simp [oddB_N]
    · have hh := decN_high (s.size - k) a.toNat ((a :: r).getD 1 0).toNat ((a :: r).getD 2 0).toNat ((a :: r).getD 3 0).toNat (by omega) (by omega)
      rw [show ((a :: r).getD 0 0) = a from rfl] at hd
      rw [← hd] at hh
      obtain ⟨h1, h2, h3, h4, h5, h6, h7⟩ := hh
      refine ⟨h2, by omega, ?_⟩
      have : oddN (Utf8.decode s k).1 = false := by unfold oddN; simp; omega
      rw [this, List.any_eq_false]
      intro x hx
      rw [Bool.not_eq_true]
      apply oddB_high
      obtain ⟨i, hi, rfl⟩ := List.mem_iff_getElem.1 hx
      rw [List.getElem_take]
      rw [List.length_take] at hi
      have hi2 : i < (a :: r).length := by omega
      have e : ∀ j (hj : j < (a :: r).length), (a :: r).getD j 0 = (a :: r)[j] := fun j hj => by rw [List.getD_eq_getElem?_getD, List.getElem?_eq_getElem hj]; rfl
      match i, hi, hi2 with
      | 0, _, _ => exact Nat.le_of_not_lt ha
      | 1, _, h8 => rw [← e 1 h8]; exact h5 (by omega)
      | 2, _, h8 => rw [← e 2 h8]; exact h6 (by omega)
      | 3, _, h8 => rw [← e 3 h8]; exact h7 (by omega)
      | i + 4, h9, _ => omega
  | [], hl => simp at hl; omega
end Go.Proofs.YtefokfbgpfcbkaaGreat
namespace Go.Proofs.YtefokfbgpfcbkaaGreat
set_option linter.unusedVariables false
set_option linter.unusedSimpArgs false
namespace P18
/-- may a byte stand in a plain text -/
def stands (c : UInt8) (pos : Bool) : Bool :=
  (97 ≤ c && c ≤ 122) || (65 ≤ c && c ≤ 90) || (48 ≤ c && c ≤ 57) || c == 46 || c == 95 || c == 47 || c == 43 || c == 64 || (c == 45 && pos)
theorem stands_key0 : ∀ n, n < 256 → ∀ pos, P18.stands (UInt8.ofNat n) pos =
    if 97 ≤ bits BinOp.or IntKind.u8 ((UInt8.ofNat n).toNat : Int) 32 ∧ bits BinOp.or IntKind.u8 ((UInt8.ofNat n).toNat : Int) 32 ≤ 122 ∧ 65 ≤ ((UInt8.ofNat n).toNat : Int) then true
    else if 48 ≤ ((UInt8.ofNat n).toNat : Int) ∧ ((UInt8.ofNat n).toNat : Int) ≤ 57 then true
    else decide (0 ≤ Lib.indexByte [46, 95, 47, 43, 64, 45] (UInt8.ofNat n)) && (decide (Lib.indexByte [46, 95, 47, 43, 64, 45] (UInt8.ofNat n) < 5) || pos) := by decide +kernel
theorem stands_key (c : UInt8) (pos : Bool) : P18.stands c pos =
    if 97 ≤ bits BinOp.or IntKind.u8 (c.toNat : Int) 32 ∧ bits BinOp.or IntKind.u8 (c.toNat : Int) 32 ≤ 122 ∧ 65 ≤ (c.toNat : Int) then true
    else if 48 ≤ (c.toNat : Int) ∧ (c.toNat : Int) ≤ 57 then true
    else decide (0 ≤ Lib.indexByte [46, 95, 47, 43, 64, 45] c) && (decide (Lib.indexByte [46, 95, 47, 43, 64, 45] c < 5) || pos) :=
  all_bytes (p := fun c => ∀ pos, P18.stands c pos =
    if 97 ≤ bits BinOp.or IntKind.u8 (c.toNat : Int) 32 ∧ bits BinOp.or IntKind.u8 (c.toNat : Int) 32 ≤ 122 ∧ 65 ≤ (c.toNat : Int) then true
    else if 48 ≤ (c.toNat : Int) ∧ (c.toNat : Int) ≤ 57 then true
    else decide (0 ≤ Lib.indexByte [46, 95, 47, 43, 64, 45] c) && (decide (Lib.indexByte [46, 95, 47, 43, 64, 45] c < 5) || pos)) stands_key0 c pos
/-- how many first bytes are plain -/
def plainLen : Bool → List UInt8 → Nat
  | _, [] => 0
  | pos, c :: r => if stands c pos then plainLen true r + 1 else 0
theorem plainLen_drop {pos : Bool} {l : List UInt8} {k : Nat} (h : k < l.length) :
    plainLen pos (l.drop k) = if stands l[k] pos then plainLen true (l.drop (k + 1)) + 1 else 0 := by
  rw [List.drop_eq_getElem_cons h]; rfl
theorem plainLen_le (l : List UInt8) (pos : Bool) : plainLen pos l ≤ l.length := by
  induction l generalizing pos with
  | nil => simp [plainLen]
  | cons c r ih => simp only [plainLen]; split <;> simp; exact ih true
/-- is a text plain -/
def plain (l : List UInt8) : Bool := !l.isEmpty && ((plainLen false l : Int) == (l.length : Int))
/-- what stands behind a backslash for a byte; nothing: it stands for itself -/
def hexDigit (n : Nat) : UInt8 := if n < 10 then UInt8.ofNat (48 + n) else UInt8.ofNat (87 + n)
def word (c : UInt8) : List UInt8 :=
  if c = 34 ∨ c = 92 then [c] else if c = 10 then [110] else if c = 9 then [116]
  else if c < 32 ∨ c = 127 then [120, hexDigit (c.toNat / 16), hexDigit (c.toNat % 16)] else []
def hexes : ByteArray := ⟨#[48, 49, 50, 51, 52, 53, 54, 55, 56, 57, 97, 98, 99, 100, 101, 102]⟩
theorem word_ends0 : ∀ n : Nat, n < 256 → (if n = 34 ∨ n = 92 then (Utf8.encode (n : Int)).data.toList else if n = 10 then [110] else if n = 9 then [116] else if n < 32 ∨ n = 127 then
    ((⟨#[120]⟩ : ByteArray) ++ hexes.extract (n / 16) (n / 16 + 1) ++ hexes.extract (n % 16) (n % 16 + 1)).data.toList else []) = P18.word (UInt8.ofNat n) := by decide +kernel
theorem bytes_ext {a : ByteArray} {l : List UInt8} (h : a.data.toList = l) : a = ⟨l.toArray⟩ := by
  cases a; subst h; rfl
theorem word_ends (c : UInt8) : (if c.toNat = 34 ∨ c.toNat = 92 then Utf8.encode (c.toNat : Int) else if c.toNat = 10 then ⟨#[110]⟩ else if c.toNat = 9 then ⟨#[116]⟩ else if c.toNat < 32 ∨ c.toNat = 127 then
    (⟨#[120]⟩ : ByteArray) ++ hexes.extract (c.toNat / 16) (c.toNat / 16 + 1) ++ hexes.extract (c.toNat % 16) (c.toNat % 16 + 1) else ⟨#[]⟩) = ⟨(P18.word c).toArray⟩ := by
  have h := word_ends0 c.toNat c.toNat_lt
  simp only [UInt8.ofNat_toNat] at h
  rw [← h]
  apply bytes_ext
  repeat' split
  all_goals rfl
/-- how many bytes a quoted text has: from place i on; 'taken': a backslash stands in front -/
def cutQ : Nat → Bool → List UInt8 → Option Nat
  | _, _, [] => none
  | i, taken, c :: r => if ((i : Int) == 0) = true then cutQ (i + 1) taken r else if taken = true then cutQ (i + 1) false r
    else if ((c.toNat : Int) == 92) = true then cutQ (i + 1) true r else if ((c.toNat : Int) == 34) = true then some (i + 1) else cutQ (i + 1) taken r
theorem cutQ_drop {i : Nat} {t : Bool} {l : List UInt8} (h : i < l.length) :
    cutQ i t (l.drop i) = if ((i : Int) == 0) = true then cutQ (i + 1) t (l.drop (i + 1)) else if t = true then cutQ (i + 1) false (l.drop (i + 1))
      else if ((l[i].toNat : Int) == 92) = true then cutQ (i + 1) true (l.drop (i + 1)) else if ((l[i].toNat : Int) == 34) = true then some (i + 1) else cutQ (i + 1) t (l.drop (i + 1)) := by
  rw [List.drop_eq_getElem_cons h]; rfl
/-- how many bytes belong together; 3: the error ErrForm -/
def cut (l : List UInt8) : Nat × Nat :=
  if Lib.hasPrefix l [34] then (match cutQ 0 false l with | some n => (n, 0) | none => (0, 3))
  else if ((plainLen false l : Int) == 0) = true then (0, 3) else (plainLen false l, 0)
/-- the byte for which what stands behind a backslash stands, and how much that is -/
theorem idx_bd0 : ∀ n, n < 256 → -1 ≤ Lib.indexByte [48, 49, 50, 51, 52, 53, 54, 55, 56, 57, 97, 98, 99, 100, 101, 102] (UInt8.ofNat n) ∧ Lib.indexByte [48, 49, 50, 51, 52, 53, 54, 55, 56, 57, 97, 98, 99, 100, 101, 102] (UInt8.ofNat n) < 16 := by decide +kernel
theorem idx_bd (c : UInt8) : -1 ≤ Lib.indexByte [48, 49, 50, 51, 52, 53, 54, 55, 56, 57, 97, 98, 99, 100, 101, 102] c ∧ Lib.indexByte [48, 49, 50, 51, 52, 53, 54, 55, 56, 57, 97, 98, 99, 100, 101, 102] c < 16 :=
  all_bytes (p := fun c => -1 ≤ Lib.indexByte [48, 49, 50, 51, 52, 53, 54, 55, 56, 57, 97, 98, 99, 100, 101, 102] c ∧ Lib.indexByte [48, 49, 50, 51, 52, 53, 54, 55, 56, 57, 97, 98, 99, 100, 101, 102] c < 16) idx_bd0 c
def hexThree (a b c : UInt8) : Int × Int :=
  if (a != 120) = true then (0, 0)
  else if Lib.indexByte [48, 49, 50, 51, 52, 53, 54, 55, 56, 57, 97, 98, 99, 100, 101, 102] b < 0 then (0, 0) else if Lib.indexByte [48, 49, 50, 51, 52, 53, 54, 55, 56, 57, 97, 98, 99, 100, 101, 102] c < 0 then (0, 0)
  else if 127 < Lib.indexByte [48, 49, 50, 51, 52, 53, 54, 55, 56, 57, 97, 98, 99, 100, 101, 102] b * 16 + Lib.indexByte [48, 49, 50, 51, 52, 53, 54, 55, 56, 57, 97, 98, 99, 100, 101, 102] c then (0, 0)
  else (Lib.indexByte [48, 49, 50, 51, 52, 53, 54, 55, 56, 57, 97, 98, 99, 100, 101, 102] b * 16 + Lib.indexByte [48, 49, 50, 51, 52, 53, 54, 55, 56, 57, 97, 98, 99, 100, 101, 102] c, 3)
def hexTail (l : List UInt8) : Int × Int :=
  if l.length < 3 then (0, 0) else hexThree (l.getD 0 0) (l.getD 1 0) (l.getD 2 0)
def startsWord (l : List UInt8) (c : Nat) : Bool := !(word (UInt8.ofNat c)).isEmpty && Lib.hasPrefix l (word (UInt8.ofNat c))
def behind (l : List UInt8) : Int × Int :=
  match (List.range 128).find? (startsWord l) with
  | some c => ((c : Int), ((word (UInt8.ofNat c)).length : Int))
  | none => hexTail l
theorem range_drop {n k : Nat} (h : k < n) : (List.range n).drop k = k :: (List.range n).drop (k + 1) := by
  rw [List.drop_eq_getElem_cons (by simpa using h)]; simp
/-- a byte within quotes -/
def quoteOne (c : UInt8) : List UInt8 := if (word c).isEmpty = true then [c] else 92 :: word c
def quote (l : List UInt8) : List UInt8 := 34 :: (l.flatMap quoteOne ++ [34])
theorem quote_drop {l : List UInt8} {k : Nat} (h : k < l.length) : (l.drop k).flatMap quoteOne = quoteOne l[k] ++ (l.drop (k + 1)).flatMap quoteOne := by
  rw [List.drop_eq_getElem_cons h]; rfl
theorem word_len (c : UInt8) : (word c).length ≤ 3 := by
  unfold word; repeat' split
  all_goals simp
theorem quoteOne_len (c : UInt8) : (quoteOne c).length ≤ 4 := by
  have := word_len c
  unfold quoteOne; split
  · simp
  · simp; omega
end P18
end Go.Proofs.YtefokfbgpfcbkaaGreat
namespace Go.Proofs.YtefokfbgpfcbkaaGreat
set_option linter.unusedVariables false
set_option linter.unusedSimpArgs false
namespace P18
theorem hexThree_bd (a b c : UInt8) : 0 ≤ (hexThree a b c).1 ∧ (hexThree a b c).1 < 256 ∧ 0 ≤ (hexThree a b c).2 ∧ (hexThree a b c).2 ≤ 3 := by
  unfold hexThree
  have := idx_bd b
  have := idx_bd c
  repeat' split
  all_goals simp
  all_goals omega
theorem behind_bd (l : List UInt8) : 0 ≤ (behind l).1 ∧ (behind l).1 < 256 ∧ 0 ≤ (behind l).2 ∧ (behind l).2 ≤ 3 := by
  unfold behind
  split
  · rename_i c hc
    have h1 := List.mem_of_find?_eq_some hc
    have h2 := word_len (UInt8.ofNat c)
    simp at h1
    simp only
    omega
  · unfold hexTail
    split
    · simp
    · exact hexThree_bd _ _ _
theorem behind_nat (l : List UInt8) : ∃ (c : UInt8) (n : Nat), behind l = ((c.toNat : Int), (n : Int)) ∧ n ≤ 3 := by
  obtain ⟨h1, h2, h3, h4⟩ := behind_bd l
  refine ⟨UInt8.ofNat (behind l).1.toNat, (behind l).2.toNat, ?_, by omega⟩
  apply Prod.ext
  · simp; omega
  · simp; omega
/-- what stands within quotes stands for -/
def within (l : List UInt8) : Option (List UInt8) :=
  match l with
  | [] => some []
  | c :: r => if (c.toNat : Int) < 32 ∨ ((c.toNat : Int) == 127) = true then none
    else if ((c.toNat : Int) == 92) = true then (if ((behind r).2 == 0) = true then none else (within (r.drop (behind r).2.toNat)).map (UInt8.ofNat (behind r).1.toNat :: ·))
    else (within r).map (c :: ·)
termination_by l.length
decreasing_by
  all_goals simp
  all_goals omega
theorem within_nil : within [] = some [] := by unfold within; simp only
theorem within_cons (c : UInt8) (r : List UInt8) : within (c :: r) = if (c.toNat : Int) < 32 ∨ ((c.toNat : Int) == 127) = true then none
    else if ((c.toNat : Int) == 92) = true then (if ((behind r).2 == 0) = true then none else (within (r.drop (behind r).2.toNat)).map (UInt8.ofNat (behind r).1.toNat :: ·))
    else (within r).map (c :: ·) := by conv => lhs; unfold within
theorem within_drop {l : List UInt8} {k : Nat} (h : k < l.length) : within (l.drop k) = within (l[k] :: l.drop (k + 1)) := by rw [List.drop_eq_getElem_cons h]
end P18
end Go.Proofs.YtefokfbgpfcbkaaGreat
namespace Go.Proofs.YtefokfbgpfcbkaaGreat
set_option linter.unusedVariables false
set_option linter.unusedSimpArgs false
theorem list_data (l : List UInt8) : (⟨l.toArray⟩ : ByteArray).data.toList = l := by simp
namespace P18
theorem cutQ_bd (l : List UInt8) : ∀ (i : Nat) (t : Bool) (n : Nat), cutQ i t l = some n → 2 ≤ n ∧ n ≤ i + l.length := by
  induction l with
  | nil => intro i t n h; simp [cutQ] at h
  | cons c r ih =>
    intro i t n h
    simp only [cutQ] at h
    split at h
    · have := ih _ _ _ h; simp; omega
    · split at h
      · have := ih _ _ _ h; simp; omega
      · split at h
        · have := ih _ _ _ h; simp; omega
        · split at h
          · rename_i h0 _ _ _
            simp at h h0
            simp; omega
          · have := ih _ _ _ h; simp; omega
theorem cut_ok (l : List UInt8) (h : (cut l).2 = 0) (hq : Lib.hasPrefix l [34] = true) : 2 ≤ (cut l).1 ∧ (cut l).1 ≤ l.length := by
  unfold cut at h ⊢
  rw [if_pos hq] at h ⊢
  cases hc : cutQ 0 false l with
  | none => rw [hc] at h; simp at h
  | some n => have := cutQ_bd l 0 false n hc; simpa using this
/-- a text of at most 4096 bytes, or what is wrong -/
def chk (t : List UInt8) : List UInt8 × Int := if (P03.check t 4096 != 0) = true then ([], P03.check t 4096) else (t, 0)
/-- the text that stands so -/
def readF (n c : Nat) (l : List UInt8) : List UInt8 × Int :=
  if ((c : Int) != 0) = true ∨ ((n : Int) != (l.length : Int)) = true then ([], 3)
  else if ((((l.getD 0 0).toNat : Int)) == 34) = true then (match within ((l.drop 1).take (n - 2)) with | none => ([], 3) | some b => chk b)
  else chk l
def read (l : List UInt8) : List UInt8 × Int := readF (cut l).1 (cut l).2 l
theorem readF_bad {n c : Nat} {l : List UInt8} (h : c ≠ 0 ∨ n ≠ l.length) : readF n c l = ([], 3) := by
  unfold readF; rw [if_pos]; simp; omega
theorem readF_plain {l : List UInt8} (h : (l.getD 0 0).toNat ≠ 34) : readF l.length 0 l = chk l := by
  unfold readF; rw [if_neg (by simp), if_neg (by simp only [beq_iff_eq]; omega)]
theorem readF_none {l : List UInt8} (h : (l.getD 0 0).toNat = 34) (hw : within ((l.drop 1).take (l.length - 2)) = none) : readF l.length 0 l = ([], 3) := by
  unfold readF; rw [if_neg (by simp), if_pos (by simp only [beq_iff_eq]; omega), hw]
theorem readF_some {l b : List UInt8} (h : (l.getD 0 0).toNat = 34) (hw : within ((l.drop 1).take (l.length - 2)) = some b) : readF l.length 0 l = chk b := by
  unfold readF; rw [if_neg (by simp), if_pos (by simp only [beq_iff_eq]; omega), hw]
theorem cut_pos (l : List UInt8) (h : (cut l).2 = 0) : 0 < l.length := by
  cases l with
  | nil => simp [cut, Lib.hasPrefix, plainLen] at h
  | cons _ _ => simp
def put (l : List UInt8) : List UInt8 := if plain l = true then l else quote l
theorem within_len {l : List UInt8} : ∀ {b : List UInt8}, within l = some b → b.length ≤ l.length := by
  induction hn : l.length using Nat.strongRecOn generalizing l with
  | _ n ih =>
    intro b h
    cases l with
    | nil => rw [within_nil] at h; simp at h; subst h; simp
    | cons c r =>
      rw [within_cons] at h
      simp only [List.length_cons] at hn
      split at h
      · simp at h
      · split at h
        · split at h
          · simp at h
          · simp only [Option.map_eq_some_iff] at h
            obtain ⟨a, h1, rfl⟩ := h
            have := ih _ (by rw [← hn]; simp; omega) rfl h1
            simp at this ⊢; omega
        · simp only [Option.map_eq_some_iff] at h
          obtain ⟨a, h1, rfl⟩ := h
          have := ih _ (by omega) rfl h1
          simp; omega
theorem prefix_iff (l : List UInt8) : Lib.hasPrefix l [34] = true ↔ 0 < l.length ∧ (l.getD 0 0).toNat = 34 := by
  match l with
  | [] => simp [Lib.hasPrefix]
  | a :: r => simp [Lib.hasPrefix, ← UInt8.toNat_inj]; omega
end P18
end Go.Proofs.YtefokfbgpfcbkaaGreat
namespace Go.Proofs.YtefokfbgpfcbkaaGreat
set_option linter.unusedVariables false
set_option linter.unusedSimpArgs false
/-- a token: kind, text, line, place -/
abbrev Tk := Nat × List UInt8 × Int × Int
namespace P19
/-- how many blanks a text begins with -/
def skip (l : List UInt8) : Nat := (l.takeWhile (· == 32)).length
theorem skip_drop : ∀ l : List UInt8, l.drop (skip l) = trimL l
  | [] => rfl
  | c :: r => by
    unfold skip trimL
    by_cases h : c = 32
    · subst h
      have ih := skip_drop r
      unfold skip trimL at ih
      rw [List.takeWhile_cons_of_pos (by rfl), List.dropWhile_cons_of_pos (by rfl), List.length_cons, List.drop_succ_cons]
      exact ih
    · rw [List.takeWhile_cons_of_neg (by simpa using h), List.dropWhile_cons_of_neg (by simpa using h)]
      rfl
theorem skip_le (l : List UInt8) : skip l ≤ l.length := by
  unfold skip
  exact (List.takeWhile_prefix _).length_le
/-- does a sign stand at the beginning, and a blank or nothing behind it -/
def signB (c : UInt8) (l : List UInt8) : Bool := match l with
  | [] => false
  | a :: r => a == c && (match r with | [] => true | b :: _ => b == 32)
/-- what may stand behind a key, or alone -/
def value (n col : Int) (s : List UInt8) : Tk × Int :=
  if s = [91, 93] then ((6, [], n, col), 0)
  else if s = [123, 125] then ((7, [], n, col), 0)
  else if (P18.cut s).2 ≠ 0 ∨ (P18.cut s).1 ≠ s.length then ((0, [], 0, 0), 3)
  else ((5, (P18.read s).1, n, col), (P18.read s).2)
/-- a line's tokens, or what is wrong; f: at most so many dashes and one more -/
def line : Nat → Int → Int → List UInt8 → List Tk × Int
  | 0, _, _, _ => ([], 0)
  | f + 1, n, col, s =>
    if signB 45 s then
      if 1 + skip (s.drop 1) = s.length then ([(3, [], n, col)], 0)
      else if (line f n (col + (1 + skip (s.drop 1) : Nat)) (s.drop (1 + skip (s.drop 1)))).2 ≠ 0 then ([], (line f n (col + (1 + skip (s.drop 1) : Nat)) (s.drop (1 + skip (s.drop 1)))).2)
      else ((3, [], n, col) :: (line f n (col + (1 + skip (s.drop 1) : Nat)) (s.drop (1 + skip (s.drop 1)))).1, 0)
    else if s = [91, 93] then ([(6, [], n, col)], 0)
    else if s = [123, 125] then ([(7, [], n, col)], 0)
    else if (P18.cut s).2 ≠ 0 then ([], 3)
    else if (P18.cut s).1 < s.length ∧ signB 58 (s.drop (P18.cut s).1) = false then ([], 3)
    else if (P18.read (s.take (P18.cut s).1)).2 ≠ 0 then ([], (P18.read (s.take (P18.cut s).1)).2)
    else if (P18.cut s).1 = s.length then ([(5, (P18.read (s.take (P18.cut s).1)).1, n, col)], 0)
    else if (P18.cut s).1 + 1 + skip (s.drop ((P18.cut s).1 + 1)) = s.length then ([(4, (P18.read (s.take (P18.cut s).1)).1, n, col)], 0)
    else if (value n (col + ((P18.cut s).1 + 1 + skip (s.drop ((P18.cut s).1 + 1)) : Nat)) (s.drop ((P18.cut s).1 + 1 + skip (s.drop ((P18.cut s).1 + 1))))).2 ≠ 0 then
      ([], (value n (col + ((P18.cut s).1 + 1 + skip (s.drop ((P18.cut s).1 + 1)) : Nat)) (s.drop ((P18.cut s).1 + 1 + skip (s.drop ((P18.cut s).1 + 1))))).2)
    else ([(4, (P18.read (s.take (P18.cut s).1)).1, n, col), (value n (col + ((P18.cut s).1 + 1 + skip (s.drop ((P18.cut s).1 + 1)) : Nat)) (s.drop ((P18.cut s).1 + 1 + skip (s.drop ((P18.cut s).1 + 1))))).1], 0)
/-- a line's tokens -/
def toks (n col : Int) (s : List UInt8) : List Tk × Int := line (s.length + 1) n col s
/-- how far a line with a dash goes on -/
theorem dash_shorter (s : List UInt8) (h : signB 45 s = true) : (s.drop (1 + skip (s.drop 1))).length < s.length := by
  cases s with
  | nil => cases h
  | cons a r => simp; omega
theorem line_fuel : ∀ (f g : Nat) (n col : Int) (s : List UInt8), s.length < f → s.length < g → line f n col s = line g n col s
  | 0, g, n, col, s, h, _ => absurd h (Nat.not_lt_zero _)
  | f + 1, 0, n, col, s, _, h => absurd h (Nat.not_lt_zero _)
  | f + 1, g + 1, n, col, s, h1, h2 => by
    unfold line
    by_cases hs : signB 45 s = true
    · have hd := dash_shorter s hs
      rw [if_pos hs, if_pos hs, line_fuel f g n _ _ (by omega) (by omega)]
    · rw [if_neg hs, if_neg hs]
/-- what is left of a line, and where -/
abbrev Pt := Int × Int × List UInt8
/-- the token with which a part begins, and what is left -/
def next (value : Bool) (n col : Int) (s : List UInt8) : Tk × Pt × Int :=
  if (signB 45 s && !value) = true then ((3, [], n, col), (n, col + (1 + skip (s.drop 1) : Nat), s.drop (1 + skip (s.drop 1))), 0)
  else if s = [91, 93] then ((6, [], n, col), (0, 0, []), 0)
  else if s = [123, 125] then ((7, [], n, col), (0, 0, []), 0)
  else if (P18.cut s).2 ≠ 0 then ((0, [], 0, 0), (n, col, s), (P18.cut s).2)
  else if s.drop (P18.cut s).1 ≠ [] ∧ (signB 58 (s.drop (P18.cut s).1) && !value) = false then ((0, [], 0, 0), (n, col, s), 3)
  else if (P18.read (s.take (P18.cut s).1)).2 ≠ 0 then ((0, [], 0, 0), (n, col, s), (P18.read (s.take (P18.cut s).1)).2)
  else if (signB 58 (s.drop (P18.cut s).1) && !value) = true then ((4, (P18.read (s.take (P18.cut s).1)).1, n, col), (n, col + ((P18.cut s).1 + 1 + skip (s.drop ((P18.cut s).1 + 1)) : Nat), s.drop ((P18.cut s).1 + 1 + skip (s.drop ((P18.cut s).1 + 1)))), 0)
  else ((5, (P18.read (s.take (P18.cut s).1)).1, n, col), (0, 0, []), 0)
end P19
end Go.Proofs.YtefokfbgpfcbkaaGreat
namespace Go.Proofs.YtefokfbgpfcbkaaGreat
set_option linter.unusedVariables false
set_option linter.unusedSimpArgs false
theorem ne_of_size {s : ByteArray} (h : 0 < s.size) : s.toList.isEmpty = false := by
  rw [Lib.toList_data]
  have := Lib.size_eq s
  cases hl : s.data.toList with
  | nil => rw [hl] at this; rw [this] at h; exact absurd h (by simp)
  | cons _ _ => rfl
namespace P18
def numLoop : Nat → List UInt8 → Int × Int
  | n, [] => ((n : Int), 0)
  | n, c :: r => if (c.toNat : Int) < 48 ∨ 57 < (c.toNat : Int) then (0, 3) else numLoop (n * 10 + (c.toNat - 48)) r
theorem numLoop_drop {n : Nat} {l : List UInt8} {k : Nat} (h : k < l.length) :
    numLoop n (l.drop k) = if (l[k].toNat : Int) < 48 ∨ 57 < (l[k].toNat : Int) then (0, 3) else numLoop (n * 10 + (l[k].toNat - 48)) (l.drop (k + 1)) := by
  rw [List.drop_eq_getElem_cons h]; rfl
/-- a text's number; 3: ErrForm -/
def number (l : List UInt8) : Int × Int :=
  if l.length = 0 ∨ 9 < l.length ∨ (1 < l.length ∧ (l.getD 0 0).toNat = 48) then (0, 3) else numLoop 0 l
theorem pow_le {k : Nat} (h : k ≤ 8) : 10 ^ k ≤ 100000000 := Nat.pow_le_pow_right (by omega) h
/-- the digits of n behind the lowest one -/
def moreDigs : Nat → Nat → List UInt8
  | 0, _ => []
  | f + 1, n => if n < 10 then [] else UInt8.ofNat (48 + n / 10 % 10) :: moreDigs f (n / 10)
theorem moreDigs_step (f n : Nat) : moreDigs (f + 1) n = if n < 10 then [] else UInt8.ofNat (48 + n / 10 % 10) :: moreDigs f (n / 10) := rfl
def digs (n : Nat) : List UInt8 := UInt8.ofNat (48 + n % 10) :: moreDigs 9 n
def digits (n : Int) : List UInt8 := if n < 0 ∨ 999999999 < n then [] else (digs n.toNat).reverse
end P18
end Go.Proofs.YtefokfbgpfcbkaaGreat
namespace Go.Proofs.YtefokfbgpfcbkaaGreat
set_option linter.unusedVariables false
set_option linter.unusedSimpArgs false
namespace R18
open P18
theorem plain_key0 : ∀ n, n < 256 → ∀ first : Bool, P18.stands (UInt8.ofNat n) (!first) =
    ((decide (97 ≤ ((UInt8.ofNat n).toNat : Int)) && decide (((UInt8.ofNat n).toNat : Int) ≤ 122)) || (decide (65 ≤ ((UInt8.ofNat n).toNat : Int)) && decide (((UInt8.ofNat n).toNat : Int) ≤ 90)) || (decide (48 ≤ ((UInt8.ofNat n).toNat : Int)) && decide (((UInt8.ofNat n).toNat : Int) ≤ 57)) ||
      decide (((UInt8.ofNat n).toNat : Int) = 46) || decide (((UInt8.ofNat n).toNat : Int) = 95) || decide (((UInt8.ofNat n).toNat : Int) = 47) || decide (((UInt8.ofNat n).toNat : Int) = 43) || decide (((UInt8.ofNat n).toNat : Int) = 64) || (decide (((UInt8.ofNat n).toNat : Int) = 45) && !first)) := by decide +kernel
theorem plain_key (c : UInt8) (first : Bool) : P18.stands c (!first) =
    ((decide (97 ≤ (c.toNat : Int)) && decide ((c.toNat : Int) ≤ 122)) || (decide (65 ≤ (c.toNat : Int)) && decide ((c.toNat : Int) ≤ 90)) || (decide (48 ≤ (c.toNat : Int)) && decide ((c.toNat : Int) ≤ 57)) ||
      decide ((c.toNat : Int) = 46) || decide ((c.toNat : Int) = 95) || decide ((c.toNat : Int) = 47) || decide ((c.toNat : Int) = 43) || decide ((c.toNat : Int) = 64) || (decide ((c.toNat : Int) = 45) && !first)) := by
  have h := plain_key0 c.toNat c.toNat_lt first
  simpa only [UInt8.ofNat_toNat] using h
/-- a digit to the base 16, or -1 -/
def hex (c : UInt8) : Int := if 48 ≤ (c.toNat : Int) ∧ (c.toNat : Int) ≤ 57 then (c.toNat : Int) - 48 else if 97 ≤ (c.toNat : Int) ∧ (c.toNat : Int) ≤ 102 then (c.toNat : Int) - 97 + 10 else -1
theorem hex_idx0 : ∀ n, n < 256 → hex (UInt8.ofNat n) = Lib.indexByte [48, 49, 50, 51, 52, 53, 54, 55, 56, 57, 97, 98, 99, 100, 101, 102] (UInt8.ofNat n) := by decide +kernel
theorem hex_idx (c : UInt8) : hex c = Lib.indexByte [48, 49, 50, 51, 52, 53, 54, 55, 56, 57, 97, 98, 99, 100, 101, 102] c := all_bytes (p := fun c => hex c = Lib.indexByte [48, 49, 50, 51, 52, 53, 54, 55, 56, 57, 97, 98, 99, 100, 101, 102] c) hex_idx0 c
theorem hex_bd (c : UInt8) : -1 ≤ hex c ∧ hex c < 16 := by have := idx_bd c; rw [← hex_idx] at this; exact this
/-- is all of a text plain: from place i on -/
def allPlain : Bool → List UInt8 → Bool
  | _, [] => true
  | pos, c :: r => if stands c pos = true then allPlain true r else false
theorem allPlain_drop {pos : Bool} {l : List UInt8} {k : Nat} (h : k < l.length) : allPlain pos (l.drop k) = if stands l[k] pos = true then allPlain true (l.drop (k + 1)) else false := by
  rw [List.drop_eq_getElem_cons h]; rfl
theorem allPlain_len (l : List UInt8) : ∀ pos, allPlain pos l = ((plainLen pos l : Int) == (l.length : Int)) := by
  induction l with
  | nil => intro pos; rfl
  | cons c r ih =>
    intro pos
    simp only [allPlain, plainLen, List.length_cons]
    by_cases h : stands c pos = true
    · rw [if_pos h, if_pos h, ih true]
      rw [Bool.eq_iff_iff]; simp only [beq_iff_eq]; omega
    · rw [if_neg h, if_neg h]
      symm; rw [beq_eq_false_iff_ne]; omega
theorem plain_eq (l : List UInt8) : P18.plain l = (allPlain false l && decide (0 < (l.length : Int))) := by
  rw [allPlain_len, P18.plain]
  cases l with
  | nil => rfl
  | cons c r => simp
end R18
end Go.Proofs.YtefokfbgpfcbkaaGreat
namespace Go.Proofs.YtefokfbgpfcbkaaGreat
set_option linter.unusedVariables false
set_option linter.unusedSimpArgs false
namespace R18
open P18
theorem find_unique {α : Type} {p : α → Bool} {l : List α} {a : α} (ha : a ∈ l) (hp : p a = true) (hu : ∀ x ∈ l, p x = true → x = a) : l.find? p = some a := by
  cases h : l.find? p with
  | none => exact absurd hp (by have := List.find?_eq_none.1 h a ha; exact this)
  | some b => rw [hu b (List.mem_of_find?_eq_some h) (List.find?_some h)]
def wordForm (c : Nat) : Bool :=
  (word (UInt8.ofNat c)).isEmpty || (word (UInt8.ofNat c) == [34] && c == 34) || (word (UInt8.ofNat c) == [92] && c == 92) || (word (UInt8.ofNat c) == [110] && c == 10) || (word (UInt8.ofNat c) == [116] && c == 9) ||
  (word (UInt8.ofNat c) == [120, P18.hexDigit (c / 16), P18.hexDigit (c % 16)] && hex (P18.hexDigit (c / 16)) == ((c / 16 : Nat) : Int) && hex (P18.hexDigit (c % 16)) == ((c % 16 : Nat) : Int))
theorem wordForm_all : ∀ c, c < 128 → wordForm c = true := by decide +kernel
theorem word_cases {c : Nat} (h : c < 128) : word (UInt8.ofNat c) = [] ∨ (word (UInt8.ofNat c) = [34] ∧ c = 34) ∨ (word (UInt8.ofNat c) = [92] ∧ c = 92) ∨ (word (UInt8.ofNat c) = [110] ∧ c = 10) ∨ (word (UInt8.ofNat c) = [116] ∧ c = 9) ∨
    (word (UInt8.ofNat c) = [120, P18.hexDigit (c / 16), P18.hexDigit (c % 16)] ∧ hex (P18.hexDigit (c / 16)) = ((c / 16 : Nat) : Int) ∧ hex (P18.hexDigit (c % 16)) = ((c % 16 : Nat) : Int)) := by
  have := wordForm_all c h
  unfold wordForm at this
  simp only [Bool.or_eq_true, Bool.and_eq_true, beq_iff_eq, List.isEmpty_iff] at this
  rcases this with ((((h | h) | h) | h) | h) | h
  · exact .inl h
  · exact .inr (.inl h)
  · exact .inr (.inr (.inl h))
  · exact .inr (.inr (.inr (.inl h)))
  · exact .inr (.inr (.inr (.inr (.inl h))))
  · exact .inr (.inr (.inr (.inr (.inr ⟨h.1.1, h.1.2, h.2⟩))))
theorem starts_iff (l : List UInt8) (c : Nat) : startsWord l c = true ↔ word (UInt8.ofNat c) ≠ [] ∧ word (UInt8.ofNat c) <+: l := by
  unfold startsWord Lib.hasPrefix
  simp [List.isPrefixOf_iff_prefix]
/-- which byte a one-letter word tells -/
theorem behind_short {d : UInt8} {r : List UInt8} {v : Nat} (hv : v < 128) (hw : word (UInt8.ofNat v) = [d]) (hd : d ≠ 120) : behind (d :: r) = ((v : Int), 1) := by
  unfold behind
  rw [find_unique (a := v) (by simpa using hv) ((starts_iff _ _).2 ⟨by rw [hw]; simp, by rw [hw]; simp⟩) ?_]
  · simp only [hw]; rfl
  · intro x hx hs
    simp at hx
    obtain ⟨h1, h2⟩ := (starts_iff _ _).1 hs
    rcases word_cases hx with h | ⟨h, e⟩ | ⟨h, e⟩ | ⟨h, e⟩ | ⟨h, e⟩ | ⟨h, e⟩
    · exact absurd h h1
    all_goals rw [h] at h2
    all_goals rw [List.cons_prefix_cons] at h2
    all_goals obtain ⟨hd2, _⟩ := h2
    · subst hd2
      rcases word_cases hv with h' | ⟨h', e'⟩ | ⟨h', e'⟩ | ⟨h', e'⟩ | ⟨h', e'⟩ | ⟨h', e'⟩
      all_goals rw [hw] at h'
      all_goals simp at h'
      omega
    · subst hd2
      rcases word_cases hv with h' | ⟨h', e'⟩ | ⟨h', e'⟩ | ⟨h', e'⟩ | ⟨h', e'⟩ | ⟨h', e'⟩
      all_goals rw [hw] at h'
      all_goals simp at h'
      omega
    · subst hd2
      rcases word_cases hv with h' | ⟨h', e'⟩ | ⟨h', e'⟩ | ⟨h', e'⟩ | ⟨h', e'⟩ | ⟨h', e'⟩
      all_goals rw [hw] at h'
      all_goals simp at h'
      omega
    · subst hd2
      rcases word_cases hv with h' | ⟨h', e'⟩ | ⟨h', e'⟩ | ⟨h', e'⟩ | ⟨h', e'⟩ | ⟨h', e'⟩
      all_goals rw [hw] at h'
      all_goals simp at h'
      omega
    · exact absurd hd2.symm hd
theorem behind_34 (r : List UInt8) : behind (34 :: r) = (34, 1) := behind_short (v := 34) (by omega) (by decide) (by decide)
theorem behind_92 (r : List UInt8) : behind (92 :: r) = (92, 1) := behind_short (v := 92) (by omega) (by decide) (by decide)
theorem behind_110 (r : List UInt8) : behind (110 :: r) = (10, 1) := behind_short (v := 10) (by omega) (by decide) (by decide)
theorem behind_116 (r : List UInt8) : behind (116 :: r) = (9, 1) := behind_short (v := 9) (by omega) (by decide) (by decide)
theorem behind_none {l : List UInt8} (h : ∀ x < 128, startsWord l x = false) : behind l = hexTail l := by
  unfold behind
  rw [List.find?_eq_none.2 (fun x hx => by simp at hx; rw [h x hx]; simp)]
theorem behind_nil : behind [] = (0, 0) := by
  rw [behind_none (fun x _ => ?_)]
  · rfl
  · rw [← Bool.not_eq_true, starts_iff]; rintro ⟨h1, h2⟩; simp at h2; exact h1 h2
theorem behind_other {d : UInt8} {r : List UInt8} (h1 : d ≠ 34) (h2 : d ≠ 92) (h3 : d ≠ 110) (h4 : d ≠ 116) (h5 : d ≠ 120) : behind (d :: r) = (0, 0) := by
  rw [behind_none (fun x hx => ?_)]
  · unfold hexTail
    split
    · rfl
    · unfold hexThree; rw [if_pos]; simpa using h5
  · rw [← Bool.not_eq_true, starts_iff]
    rintro ⟨k1, k2⟩
    rcases word_cases hx with h | ⟨h, e⟩ | ⟨h, e⟩ | ⟨h, e⟩ | ⟨h, e⟩ | ⟨h, e⟩
    · exact k1 h
    all_goals rw [h] at k2
    all_goals rw [List.cons_prefix_cons] at k2
    · exact h1 k2.1.symm
    · exact h2 k2.1.symm
    · exact h3 k2.1.symm
    · exact h4 k2.1.symm
    · exact h5 k2.1.symm
theorem behind_x_short {r : List UInt8} (h : r.length < 2) : behind (120 :: r) = (0, 0) := by
  rw [behind_none (fun x hx => ?_)]
  · unfold hexTail; rw [if_pos (by simp; omega)]
  · rw [← Bool.not_eq_true, starts_iff]
    rintro ⟨k1, k2⟩
    rcases word_cases hx with h | ⟨h, e⟩ | ⟨h, e⟩ | ⟨h, e⟩ | ⟨h, e⟩ | ⟨h, e⟩
    · exact k1 h
    all_goals rw [h] at k2
    all_goals rw [List.cons_prefix_cons] at k2
    · exact absurd k2.1 (by decide)
    · exact absurd k2.1 (by decide)
    · exact absurd k2.1 (by decide)
    · exact absurd k2.1 (by decide)
    · have := k2.2.length_le; simp at this; omega
theorem hexTail_x (a b : UInt8) (r : List UInt8) : hexTail (120 :: a :: b :: r) = if hex a < 0 then (0, 0) else if hex b < 0 then (0, 0) else if 127 < hex a * 16 + hex b then (0, 0) else (hex a * 16 + hex b, 3) := by
  unfold hexTail
  rw [if_neg (by simp)]
  unfold hexThree
  rw [if_neg (by simp), hex_idx, hex_idx]
  rfl
theorem behind_x (a b : UInt8) (r : List UInt8) : behind (120 :: a :: b :: r) = if hex a < 0 ∨ 7 < hex a ∨ hex b < 0 then (0, 0) else (16 * hex a + hex b, 3) := by
  have ha := hex_bd a
  have hb := hex_bd b
  have hT : hexTail (120 :: a :: b :: r) = if hex a < 0 ∨ 7 < hex a ∨ hex b < 0 then (0, 0) else (16 * hex a + hex b, 3) := by
    rw [hexTail_x]
    by_cases h1 : hex a < 0
    · rw [if_pos h1, if_pos (.inl h1)]
    · by_cases h2 : hex b < 0
      · rw [if_neg h1, if_pos h2, if_pos (.inr (.inr h2))]
      · by_cases h3 : 7 < hex a
        · rw [if_neg h1, if_neg h2, if_pos (by omega), if_pos (.inr (.inl h3))]
        · rw [if_neg h1, if_neg h2, if_neg (by omega), if_neg (by omega)]
          congr 1; omega
  rw [← hT]
  unfold behind
  cases hf : (List.range 128).find? (startsWord (120 :: a :: b :: r)) with
  | none => rfl
  | some c =>
    simp only
    have hc := List.mem_of_find?_eq_some hf
    have hs := List.find?_some hf
    simp at hc
    obtain ⟨k1, k2⟩ := (starts_iff _ _).1 hs
    rcases word_cases hc with h | ⟨h, e⟩ | ⟨h, e⟩ | ⟨h, e⟩ | ⟨h, e⟩ | ⟨h, e1, e2⟩
    · exact absurd h k1
    all_goals rw [h] at k2
    all_goals rw [List.cons_prefix_cons] at k2
    · exact absurd k2.1 (by decide)
    · exact absurd k2.1 (by decide)
    · exact absurd k2.1 (by decide)
    · exact absurd k2.1 (by decide)
    · obtain ⟨_, k3⟩ := k2
      rw [List.cons_prefix_cons] at k3
      obtain ⟨rfl, k4⟩ := k3
      rw [List.cons_prefix_cons] at k4
      obtain ⟨rfl, _⟩ := k4
      rw [hexTail_x, e1, e2, if_neg (by omega), if_neg (by omega), if_neg (by omega), h]
      apply Prod.ext
      · simp only; omega
      · rfl
/-- a plain byte stands for itself in UTF-8 -/
theorem stands_low0 : ∀ n, n < 256 → ∀ b : Bool, stands (UInt8.ofNat n) b = true → (UInt8.ofNat n).toNat < 128 := by decide +kernel
theorem stands_low {c : UInt8} {b : Bool} (h : stands c b = true) : c.toNat < 128 :=
  all_bytes (p := fun c => ∀ b : Bool, stands c b = true → c.toNat < 128) stands_low0 c b h
theorem plainLen_all {l : List UInt8} : ∀ {b : Bool}, plainLen b l = l.length → ∀ c ∈ l, c.toNat < 128 := by
  induction l with
  | nil => intro b _ c hc; simp at hc
  | cons d r ih =>
    intro b h c hc
    simp only [plainLen] at h
    split at h
    · rename_i hs
      rcases List.mem_cons.1 hc with rfl | hc
      · exact stands_low hs
      · exact ih (by simpa using h) c hc
    · simp at h
theorem firstBad_low (f : Nat) : ∀ (p : Nat) (l : List UInt8), (∀ c ∈ l, c.toNat < 128) → P03.firstBad f p l = -1 := by
  induction f with
  | zero => intro p l _; rfl
  | succ f ih =>
    intro p l h
    unfold P03.firstBad
    split
    · rfl
    · rename_i hl
      cases l with
      | nil => simp at hl
      | cons d r =>
        rw [P03.one_1 (b := d) rfl (h d (by simp)), if_neg (by simp)]
        exact ih _ _ (fun c hc => h c (List.mem_of_mem_drop hc))
theorem check_plain {l : List UInt8} (h : P18.plain l = true) (n : Int) : P03.check l n = if n < (l.length : Int) then 2 else 0 := by
  unfold P18.plain at h
  simp only [Bool.and_eq_true, beq_iff_eq] at h
  unfold P03.check P03.first
  rw [firstBad_low _ _ _ (plainLen_all (b := false) (by omega))]
  rw [if_neg (show ¬ (0 : Int) ≤ -1 by omega)]
end R18
end Go.Proofs.YtefokfbgpfcbkaaGreat
namespace Go.Proofs.YtefokfbgpfcbkaaGreat
set_option linter.unusedVariables false
set_option linter.unusedSimpArgs false
namespace R18
open P18
theorem cutQ_past {k : Nat} {t : Bool} {l : List UInt8} (h : l.length ≤ k) : cutQ k t (l.drop k) = none := by
  rw [List.drop_of_length_le h]; rfl
theorem cutQ_esc {k : Nat} {l : List UInt8} (h : k < l.length) (h0 : 0 < k) (h92 : l[k].toNat = 92) : cutQ k false (l.drop k) = cutQ (k + 2) false (l.drop (k + 2)) := by
  rw [cutQ_drop h, if_neg (by simp; omega), if_neg (by simp), if_pos (by simp; omega)]
  by_cases h1 : k + 1 < l.length
  · rw [cutQ_drop h1, if_neg (by simp; omega), if_pos rfl]
  · rw [cutQ_past (by omega), cutQ_past (by omega)]
theorem cutQ_quote {k : Nat} {l : List UInt8} (h : k < l.length) (h0 : 0 < k) (h34 : l[k].toNat = 34) : cutQ k false (l.drop k) = some (k + 1) := by
  rw [cutQ_drop h, if_neg (by simp; omega), if_neg (by simp), if_neg (by simp; omega), if_pos (by simp; omega)]
theorem cutQ_else {k : Nat} {l : List UInt8} (h : k < l.length) (h0 : 0 < k) (h34 : l[k].toNat ≠ 34) (h92 : l[k].toNat ≠ 92) : cutQ k false (l.drop k) = cutQ (k + 1) false (l.drop (k + 1)) := by
  rw [cutQ_drop h, if_neg (by simp; omega), if_neg (by simp), if_neg (by simp; omega), if_neg (by simp; omega)]
theorem cutQ_0 {l : List UInt8} (h : 0 < l.length) : cutQ 0 false l = cutQ 1 false (l.drop 1) := by
  have := cutQ_drop (i := 0) (t := false) (l := l) h
  rw [List.drop_zero] at this
  rw [this, if_pos (by simp)]
theorem cut_quoted {l : List UInt8} (h : Lib.hasPrefix l [34] = true) : cut l = match cutQ 0 false l with | some n => (n, 0) | none => (0, 3) := by
  rw [cut, if_pos h]
  try (cases cutQ 0 false l <;> rfl)
/-- what stands between the quotes, from place j on -/
def body (l : List UInt8) : List UInt8 := (l.drop 1).take (l.length - 2)
theorem body_drop {s : ByteArray} {k : Nat} (h1 : 1 ≤ k) (h : k + 1 < s.size) : (body s.data.toList).drop (k - 1) = s[k] :: (body s.data.toList).drop k := by
  have hl : k < s.data.toList.length := by rw [← Lib.size_eq]; omega
  unfold body
  rw [List.drop_take, List.drop_drop, List.drop_take, List.drop_drop]
  rw [show 1 + (k - 1) = k from by omega, List.drop_eq_getElem_cons hl, show s.data.toList.length - 2 - (k - 1) = (s.data.toList.length - 2 - k) + 1 from by rw [← Lib.size_eq]; omega, List.take_succ_cons, show 1 + k = k + 1 from by omega]
  rfl
theorem body_len (s : ByteArray) (k : Nat) : ((body s.data.toList).drop k).length = s.size - 2 - k := by
  unfold body
  rw [List.length_drop, List.length_take, List.length_drop, ← Lib.size_eq]; omega
theorem body_end (s : ByteArray) : (body s.data.toList).drop (s.size - 1 - 1) = [] := by
  apply List.eq_nil_of_length_eq_zero; rw [body_len]; omega
theorem within_ctrl {c : UInt8} {r : List UInt8} (h : (c.toNat : Int) < 32 ∨ ((c.toNat : Int) == 127) = true) : within (c :: r) = none := by rw [within_cons, if_pos h]
theorem within_self {c : UInt8} {r : List UInt8} (h : ¬ ((c.toNat : Int) < 32 ∨ ((c.toNat : Int) == 127) = true)) (h92 : c.toNat ≠ 92) : within (c :: r) = (within r).map (c :: ·) := by
  rw [within_cons, if_neg h, if_neg (by simp; omega)]
theorem within_esc0 {c : UInt8} {r : List UInt8} (h : c.toNat = 92) (hb : behind r = (0, 0)) : within (c :: r) = none := by
  rw [within_cons, if_neg (by simp; omega), if_pos (by simp; omega), hb]; rfl
theorem within_esc {c : UInt8} {r : List UInt8} {v n : Nat} (h : c.toNat = 92) (hb : behind r = ((v : Int), (n : Int))) (hn : 0 < n) : within (c :: r) = (within (r.drop n)).map (UInt8.ofNat v :: ·) := by
  rw [within_cons, if_neg (by simp; omega), if_pos (by simp; omega), hb, if_neg (by simp; omega)]; simp
theorem map_map (o : Option (List UInt8)) (out : List UInt8) (c : UInt8) : (o.map (c :: ·)).map (out ++ ·) = o.map ((out ++ [c]) ++ ·) := by
  cases o <;> simp
theorem stands_34 (b : Bool) : stands 34 b = false := by cases b <;> decide
theorem plain_head {l : List UInt8} (h : P18.plain l = true) : Lib.hasPrefix l [34] = false ∧ cut l = (l.length, 0) := by
  unfold P18.plain at h
  simp only [Bool.and_eq_true, beq_iff_eq] at h
  have hp : Lib.hasPrefix l [34] = false := by
    cases l with
    | nil => rfl
    | cons c r =>
      rw [← Bool.not_eq_true, prefix_iff]
      rintro ⟨_, h34⟩
      have hc : c = 34 := UInt8.toNat_inj.1 (by simpa using h34)
      subst hc
      have := h.2
      simp only [plainLen, stands_34] at this
      simp at this
      omega
  refine ⟨hp, ?_⟩
  unfold cut
  rw [if_neg (by rw [hp]; simp)]
  cases l with
  | nil => simp at h
  | cons c r => rw [if_neg (by simp only [beq_iff_eq]; have := h.2; simp at this ⊢; omega)]; congr 1; omega
theorem read_plain {l : List UInt8} (h : P18.plain l = true) : P18.read l = if 4096 < (l.length : Int) then ([], 2) else (l, 0) := by
  obtain ⟨h1, h2⟩ := plain_head h
  have hq : (l.getD 0 0).toNat ≠ 34 := by
    intro h34
    have hl := cut_pos l (by rw [h2])
    have := (prefix_iff l).2 ⟨hl, h34⟩
    rw [h1] at this; cases this
  unfold P18.read
  rw [h2, readF_plain hq]
  unfold chk
  rw [check_plain h]
  split <;> simp
theorem read_unquoted {l : List UInt8} (h : P18.plain l = false) (hc : (cut l).2 = 0) (hn : (cut l).1 = l.length) : Lib.hasPrefix l [34] = true := by
  rw [← Bool.not_eq_false]
  intro hp
  unfold cut at hc hn
  rw [if_neg (by rw [hp]; simp)] at hc hn
  split at hn
  · rename_i h0
    rw [if_pos h0] at hc; simp at hc
  · rename_i h0
    unfold P18.plain at h
    simp only [beq_iff_eq] at h0
    simp only at hn
    rw [hn] at h
    simp at h
    subst h; simp [plainLen] at h0
theorem hex_not0 : ∀ n, n < 256 → hex (UInt8.ofNat n) < 0 ∨ ((UInt8.ofNat n).toNat ≠ 34 ∧ (UInt8.ofNat n).toNat ≠ 92) := by decide +kernel
theorem hex_not (c : UInt8) : hex c < 0 ∨ (c.toNat ≠ 34 ∧ c.toNat ≠ 92) := all_bytes (p := fun c => hex c < 0 ∨ (c.toNat ≠ 34 ∧ c.toNat ≠ 92)) hex_not0 c
end R18
end Go.Proofs.YtefokfbgpfcbkaaGreat
namespace Go.Proofs.YtefokfbgpfcbkaaGreat
set_option linter.unusedVariables false
set_option linter.unusedSimpArgs false
open Go.RowKit
theorem rawL_x (c : UInt8) (hc : c ≠ 10) : ∀ (l : List UInt8), (rawL (l ++ [c])).length = l.count 10 + 1
  | [] => by simp [rawL, hc]
  | a :: r => by
    have ih := rawL_x c hc r
    show (rawL (a :: (r ++ [c]))).length = _
    unfold rawL
    by_cases ha : a = 10
    · subst ha
      rw [if_pos rfl, List.length_cons, ih, List.count_cons_self]
    · rw [if_neg ha, List.count_cons_of_ne (by simpa using ha)]
      cases hr : rawL (r ++ [c]) with
      | nil => rw [hr] at ih; simp at ih
      | cons x xs => rw [hr] at ih; simpa using ih
theorem lines17_x (c : UInt8) (hc : c ≠ 10) (l : List UInt8) : (lines17 (l ++ [c])).length = Lib.countByte l 10 + 1 := by
  unfold lines17
  rw [List.length_map, rawL_x c hc, Lib.countByte]
end Go.Proofs.YtefokfbgpfcbkaaGreat
namespace Go.Proofs.YtefokfbgpfcbkaaGreat
set_option linter.unusedVariables false
set_option linter.unusedSimpArgs false
namespace R18
open P18
theorem quoteOne_ends0 : ∀ n : Nat, n < 256 → (if n = 34 then [92, 34] else if n = 92 then [92, 92] else if n = 10 then [92, 110] else if n = 9 then [92, 116] else if n < 32 ∨ n = 127 then
    [92, 120] ++ (hexes.extract (n / 16) (n / 16 + 1)).data.toList ++ (hexes.extract (n % 16) (n % 16 + 1)).data.toList else [UInt8.ofNat n]) = quoteOne (UInt8.ofNat n) := by decide +kernel
theorem quoteOne_ends (c : UInt8) : (if c.toNat = 34 then [92, 34] else if c.toNat = 92 then [92, 92] else if c.toNat = 10 then [92, 110] else if c.toNat = 9 then [92, 116] else if c.toNat < 32 ∨ c.toNat = 127 then
    [92, 120] ++ (hexes.extract (c.toNat / 16) (c.toNat / 16 + 1)).data.toList ++ (hexes.extract (c.toNat % 16) (c.toNat % 16 + 1)).data.toList else [c]) = quoteOne c := by
  have h := quoteOne_ends0 c.toNat c.toNat_lt
  simpa only [UInt8.ofNat_toNat] using h
theorem append_data (a b : ByteArray) : (a ++ b).data.toList = a.data.toList ++ b.data.toList := by simp
theorem one_byte (s : ByteArray) (k : Nat) (h : k < s.size) : (s.extract k (k + 1)).data.toList = [s[k]] := by
  rw [Lib.extract_data]
  have : (s.data.toList.drop k) = s[k] :: s.data.toList.drop (k + 1) := by
    rw [List.drop_eq_getElem_cons (by simpa using h)]; rfl
  rw [this, show k + 1 - k = 1 from by omega]; rfl
end R18
end Go.Proofs.YtefokfbgpfcbkaaGreat
namespace Go.Proofs.YtefokfbgpfcbkaaGreat
set_option linter.unusedVariables false
set_option linter.unusedSimpArgs false
namespace P20
/-- a tree: kind, text, keys, kids, line -/
inductive T where
  | mk (kind : Nat) (text : List UInt8) (keys : List (List UInt8)) (kids : List T) (line : Int)
/-- the next token's line, or the last one's -/
def hereL (last : Int) : List Tk → Int
  | [] => last
  | t :: _ => t.2.2.1
/-- the next token's kind; 0: there is none -/
def kindOf : List Tk → Nat
  | [] => 0
  | t :: _ => t.1
/-- what comes of reading: something, and what is left; or what is wrong, and where -/
inductive Out (α : Type) where
  | ok (a : α) (ts : List Tk)
  | bad (e line : Int)
mutual
/-- a value, at a level -/
inductive Val (last : Int) : Nat → Nat → List Tk → Out T → Prop
  | deep {f lv : Nat} {ts : List Tk} (h : 16 < lv) : Val last (f + 1) lv ts (.bad 11 (hereL last ts))
  | none_ {f lv : Nat} (h : lv ≤ 16) : Val last (f + 1) lv [] (.bad 3 last)
  | word {f lv : Nat} {x : List UInt8} {n c : Int} {r : List Tk} (h : lv ≤ 16) : Val last (f + 1) lv ((5, x, n, c) :: r) (.ok (.mk 1 x [] [] n) r)
  | noseq {f lv : Nat} {x : List UInt8} {n c : Int} {r : List Tk} (h : lv ≤ 16) : Val last (f + 1) lv ((6, x, n, c) :: r) (.ok (.mk 2 [] [] [] n) r)
  | nomap {f lv : Nat} {x : List UInt8} {n c : Int} {r : List Tk} (h : lv ≤ 16) : Val last (f + 1) lv ((7, x, n, c) :: r) (.ok (.mk 3 [] [] [] n) r)
  | seq {f lv : Nat} {x : List UInt8} {n c : Int} {r r' : List Tk} {ds : List T} (h : lv ≤ 16) (hs : Sq last f (lv + 1) [] ((3, x, n, c) :: r) (.ok ds r')) : Val last (f + 1) lv ((3, x, n, c) :: r) (.ok (.mk 2 [] [] ds n) r')
  | seqbad {f lv : Nat} {x : List UInt8} {n c e l : Int} {r : List Tk} (h : lv ≤ 16) (hs : Sq last f (lv + 1) [] ((3, x, n, c) :: r) (.bad e l)) : Val last (f + 1) lv ((3, x, n, c) :: r) (.bad e l)
  | keys {f lv : Nat} {x : List UInt8} {n c : Int} {r r' : List Tk} {ks : List (List UInt8)} {ds : List T} (h : lv ≤ 16) (hs : Ky last f (lv + 1) [] [] ((4, x, n, c) :: r) (.ok (ks, ds) r')) : Val last (f + 1) lv ((4, x, n, c) :: r) (.ok (.mk 3 [] ks ds n) r')
  | keysbad {f lv : Nat} {x : List UInt8} {n c e l : Int} {r : List Tk} (h : lv ≤ 16) (hs : Ky last f (lv + 1) [] [] ((4, x, n, c) :: r) (.bad e l)) : Val last (f + 1) lv ((4, x, n, c) :: r) (.bad e l)
  | form {f lv k : Nat} {x : List UInt8} {n c : Int} {r : List Tk} (h : lv ≤ 16) (hk : k < 3 ∨ 7 < k) : Val last (f + 1) lv ((k, x, n, c) :: r) (.bad 3 n)
/-- what stands between Open and Close, behind a token in a line -/
inductive Wi (last : Int) : Nat → Nat → Int → List Tk → Out T → Prop
  | empty {f lv : Nat} {line : Int} {ts : List Tk} (h : kindOf ts ≠ 1) : Wi last (f + 1) lv line ts (.bad 17 line)
  | ok {f lv : Nat} {line n c n' c' : Int} {x x' : List UInt8} {ts r : List Tk} {d : T} (h : Val last f lv ts (.ok d ((2, x', n', c') :: r))) : Wi last (f + 1) lv line ((1, x, n, c) :: ts) (.ok d r)
  | form {f lv : Nat} {line n c : Int} {x : List UInt8} {ts r : List Tk} {d : T} (h : Val last f lv ts (.ok d r)) (hk : kindOf r ≠ 2) : Wi last (f + 1) lv line ((1, x, n, c) :: ts) (.bad 3 (hereL last r))
  | bad {f lv : Nat} {line n c e l : Int} {x : List UInt8} {ts : List Tk} (h : Val last f lv ts (.bad e l)) : Wi last (f + 1) lv line ((1, x, n, c) :: ts) (.bad e l)
/-- dashes, and what stands behind them -/
inductive Sq (last : Int) : Nat → Nat → List T → List Tk → Out (List T) → Prop
  | done {f lv : Nat} {acc : List T} {ts : List Tk} (h : kindOf ts ≠ 3) : Sq last (f + 1) lv acc ts (.ok acc ts)
  | next {f lv : Nat} {acc : List T} {x : List UInt8} {n c : Int} {r r' : List Tk} {d : T} {o : Out (List T)} (h : Wi last f lv n r (.ok d r')) (hs : Sq last f lv (acc ++ [d]) r' o) : Sq last (f + 1) lv acc ((3, x, n, c) :: r) o
  | bad {f lv : Nat} {acc : List T} {x : List UInt8} {n c e l : Int} {r : List Tk} (h : Wi last f lv n r (.bad e l)) : Sq last (f + 1) lv acc ((3, x, n, c) :: r) (.bad e l)
/-- keys, and what stands behind them -/
inductive Ky (last : Int) : Nat → Nat → List (List UInt8) → List T → List Tk → Out (List (List UInt8) × List T) → Prop
  | done {f lv : Nat} {ks : List (List UInt8)} {ds : List T} {ts : List Tk} (h : kindOf ts ≠ 4) : Ky last (f + 1) lv ks ds ts (.ok (ks, ds) ts)
  | long {f lv : Nat} {ks : List (List UInt8)} {ds : List T} {x : List UInt8} {n c : Int} {r : List Tk} (h : 64 < x.length) : Ky last (f + 1) lv ks ds ((4, x, n, c) :: r) (.bad 2 n)
  | twice {f lv : Nat} {ks : List (List UInt8)} {ds : List T} {x : List UInt8} {n c : Int} {r : List Tk} (h : x.length ≤ 64) (hx : x ∈ ks) : Ky last (f + 1) lv ks ds ((4, x, n, c) :: r) (.bad 6 n)
  | inl {f lv : Nat} {ks : List (List UInt8)} {ds : List T} {x : List UInt8} {n c : Int} {r r' : List Tk} {d : T} {o : Out (List (List UInt8) × List T)} (h : x.length ≤ 64) (hx : x ∉ ks) (hi : 5 ≤ kindOf r ∧ kindOf r ≤ 7 ∧ hereL last r = n) (hv : Val last f lv r (.ok d r')) (hs : Ky last f lv (ks ++ [x]) (ds ++ [d]) r' o) : Ky last (f + 1) lv ks ds ((4, x, n, c) :: r) o
  | inlbad {f lv : Nat} {ks : List (List UInt8)} {ds : List T} {x : List UInt8} {n c e l : Int} {r : List Tk} (h : x.length ≤ 64) (hx : x ∉ ks) (hi : 5 ≤ kindOf r ∧ kindOf r ≤ 7 ∧ hereL last r = n) (hv : Val last f lv r (.bad e l)) : Ky last (f + 1) lv ks ds ((4, x, n, c) :: r) (.bad e l)
  | wi {f lv : Nat} {ks : List (List UInt8)} {ds : List T} {x : List UInt8} {n c : Int} {r r' : List Tk} {d : T} {o : Out (List (List UInt8) × List T)} (h : x.length ≤ 64) (hx : x ∉ ks) (hi : ¬ (5 ≤ kindOf r ∧ kindOf r ≤ 7 ∧ hereL last r = n)) (hv : Wi last f lv n r (.ok d r')) (hs : Ky last f lv (ks ++ [x]) (ds ++ [d]) r' o) : Ky last (f + 1) lv ks ds ((4, x, n, c) :: r) o
  | wibad {f lv : Nat} {ks : List (List UInt8)} {ds : List T} {x : List UInt8} {n c e l : Int} {r : List Tk} (h : x.length ≤ 64) (hx : x ∉ ks) (hi : ¬ (5 ≤ kindOf r ∧ kindOf r ≤ 7 ∧ hereL last r = n)) (hv : Wi last f lv n r (.bad e l)) : Ky last (f + 1) lv ks ds ((4, x, n, c) :: r) (.bad e l)
end
theorem mono_all (last : Int) : ∀ f : Nat, (∀ lv ts o, Val last f lv ts o → Val last (f + 1) lv ts o) ∧ (∀ lv l ts o, Wi last f lv l ts o → Wi last (f + 1) lv l ts o) ∧
    (∀ lv acc ts o, Sq last f lv acc ts o → Sq last (f + 1) lv acc ts o) ∧ (∀ lv ks ds ts o, Ky last f lv ks ds ts o → Ky last (f + 1) lv ks ds ts o)
  | 0 => ⟨fun _ _ _ h => (by cases h), fun _ _ _ _ h => (by cases h), fun _ _ _ _ h => (by cases h), fun _ _ _ _ _ h => (by cases h)⟩
  | f + 1 => by
    obtain ⟨hv, hw, hs, hk⟩ := mono_all last f
    refine ⟨fun lv ts o h => ?_, fun lv l ts o h => ?_, fun lv acc ts o h => ?_, fun lv ks ds ts o h => ?_⟩
    · cases h with
      | deep h => exact .deep h
      | none_ h => exact .none_ h
      | word h => exact .word h
      | noseq h => exact .noseq h
      | nomap h => exact .nomap h
      | seq h h2 => exact .seq h (hs _ _ _ _ h2)
      | seqbad h h2 => exact .seqbad h (hs _ _ _ _ h2)
      | keys h h2 => exact .keys h (hk _ _ _ _ _ h2)
      | keysbad h h2 => exact .keysbad h (hk _ _ _ _ _ h2)
      | form h h2 => exact .form h h2
    · cases h with
      | empty h => exact .empty h
      | ok h => exact .ok (hv _ _ _ h)
      | form h h2 => exact .form (hv _ _ _ h) h2
      | bad h => exact .bad (hv _ _ _ h)
    · cases h with
      | done h => exact .done h
      | next h h2 => exact .next (hw _ _ _ _ h) (hs _ _ _ _ h2)
      | bad h => exact .bad (hw _ _ _ _ h)
    · cases h with
      | done h => exact .done h
      | long h => exact .long h
      | twice h h2 => exact .twice h h2
      | inl h h2 h3 h4 h5 => exact .inl h h2 h3 (hv _ _ _ h4) (hk _ _ _ _ _ h5)
      | inlbad h h2 h3 h4 => exact .inlbad h h2 h3 (hv _ _ _ h4)
      | wi h h2 h3 h4 h5 => exact .wi h h2 h3 (hw _ _ _ _ h4) (hk _ _ _ _ _ h5)
      | wibad h h2 h3 h4 => exact .wibad h h2 h3 (hw _ _ _ _ h4)
theorem Val.up {last : Int} {f g lv : Nat} {ts : List Tk} {o : Out T} (h : Val last f lv ts o) (hg : f ≤ g) : Val last g lv ts o := by
  obtain ⟨k, rfl⟩ : ∃ k, g = f + k := ⟨g - f, by omega⟩
  clear hg
  induction k with
  | zero => exact h
  | succ k ih => exact (mono_all last (f + k)).1 _ _ _ ih
theorem Wi.up {last l : Int} {f g lv : Nat} {ts : List Tk} {o : Out T} (h : Wi last f lv l ts o) (hg : f ≤ g) : Wi last g lv l ts o := by
  obtain ⟨k, rfl⟩ : ∃ k, g = f + k := ⟨g - f, by omega⟩
  clear hg
  induction k with
  | zero => exact h
  | succ k ih => exact (mono_all last (f + k)).2.1 _ _ _ _ ih
theorem Sq.up {last : Int} {f g lv : Nat} {acc : List T} {ts : List Tk} {o : Out (List T)} (h : Sq last f lv acc ts o) (hg : f ≤ g) : Sq last g lv acc ts o := by
  obtain ⟨k, rfl⟩ : ∃ k, g = f + k := ⟨g - f, by omega⟩
  clear hg
  induction k with
  | zero => exact h
  | succ k ih => exact (mono_all last (f + k)).2.2.1 _ _ _ _ ih
theorem Ky.up {last : Int} {f g lv : Nat} {ks : List (List UInt8)} {ds : List T} {ts : List Tk} {o : Out (List (List UInt8) × List T)} (h : Ky last f lv ks ds ts o) (hg : f ≤ g) : Ky last g lv ks ds ts o := by
  obtain ⟨k, rfl⟩ : ∃ k, g = f + k := ⟨g - f, by omega⟩
  clear hg
  induction k with
  | zero => exact h
  | succ k ih => exact (mono_all last (f + k)).2.2.2 _ _ _ _ _ ih
/-- how much is left, if all is well -/
def Out.left {α : Type} (n : Nat) : Out α → Prop
  | .ok _ ts => ts.length ≤ n
  | .bad _ _ => True
/-- Whatever stands there: something comes of it. -/
theorem total (last : Int) : ∀ n : Nat,
    (∀ lv ts, ts.length ≤ n → ∃ f o, Val last f lv ts o ∧ o.left (ts.length - 1)) ∧
    (∀ lv l ts, ts.length ≤ n → ∃ f o, Wi last f lv l ts o ∧ o.left (ts.length - 1)) ∧
    (∀ lv acc ts, ts.length ≤ n → ∃ f o, Sq last f lv acc ts o ∧ o.left (ts.length - (if kindOf ts = 3 then 1 else 0))) ∧
    (∀ lv ks ds ts, ts.length ≤ n → ∃ f o, Ky last f lv ks ds ts o ∧ o.left (ts.length - (if kindOf ts = 4 then 1 else 0))) := by
  intro n
  induction n using Nat.strongRecOn with
  | ind n ih =>
    have hW : ∀ lv l ts, ts.length ≤ n → ∃ f o, Wi last f lv l ts o ∧ o.left (ts.length - 1) := by
      intro lv l ts hn
      by_cases hk : kindOf ts = 1
      · cases ts with
        | nil => cases hk
        | cons t r =>
          obtain ⟨k, x, m, c⟩ := t
          obtain rfl : k = 1 := hk
          simp only [List.length_cons] at hn
          obtain ⟨f, o, hv, hl⟩ := (ih r.length (by omega)).1 lv r (Nat.le_refl _)
          cases o with
          | bad e l => exact ⟨f + 1, _, .bad hv, trivial⟩
          | ok d r2 =>
            simp only [Out.left] at hl
            by_cases hk2 : kindOf r2 = 2
            · cases r2 with
              | nil => cases hk2
              | cons t2 r3 =>
                obtain ⟨k2, x2, m2, c2⟩ := t2
                obtain rfl : k2 = 2 := hk2
                refine ⟨f + 1, _, .ok hv, ?_⟩
                simp only [Out.left, List.length_cons] at hl ⊢
                omega
            · exact ⟨f + 1, _, .form hv hk2, trivial⟩
      · exact ⟨1, _, .empty hk, trivial⟩
    have hS : ∀ lv acc ts, ts.length ≤ n → ∃ f o, Sq last f lv acc ts o ∧ o.left (ts.length - (if kindOf ts = 3 then 1 else 0)) := by
      intro lv acc ts hn
      by_cases hk : kindOf ts = 3
      · cases ts with
        | nil => cases hk
        | cons t r =>
          obtain ⟨k, x, m, c⟩ := t
          obtain rfl : k = 3 := hk
          simp only [List.length_cons] at hn
          obtain ⟨f, o, hv, hl⟩ := (ih r.length (by omega)).2.1 lv m r (Nat.le_refl _)
          cases o with
          | bad e l => exact ⟨f + 1, _, .bad hv, trivial⟩
          | ok d r2 =>
            simp only [Out.left] at hl
            obtain ⟨f2, o2, hs, hl2⟩ := (ih r2.length (by omega)).2.2.1 lv (acc ++ [d]) r2 (Nat.le_refl _)
            refine ⟨f + f2 + 1, o2, .next (hv.up (by omega)) (hs.up (by omega)), ?_⟩
            cases o2 with
            | bad e l => trivial
            | ok ds r3 =>
              simp only [Out.left, List.length_cons, kindOf, if_true] at hl2 ⊢
              omega
      · refine ⟨1, _, .done hk, ?_⟩
        simp only [Out.left]
        rw [if_neg hk]
        omega
    have hK : ∀ lv ks ds ts, ts.length ≤ n → ∃ f o, Ky last f lv ks ds ts o ∧ o.left (ts.length - (if kindOf ts = 4 then 1 else 0)) := by
      intro lv ks ds ts hn
      by_cases hk : kindOf ts = 4
      · cases ts with
        | nil => cases hk
        | cons t r =>
          obtain ⟨k, x, m, c⟩ := t
          obtain rfl : k = 4 := hk
          simp only [List.length_cons] at hn
          rcases Nat.lt_or_ge 64 x.length with h64 | h64
          · exact ⟨1, _, .long h64, trivial⟩
          by_cases hx : x ∈ ks
          · exact ⟨1, _, .twice h64 hx, trivial⟩
          by_cases hi : 5 ≤ kindOf r ∧ kindOf r ≤ 7 ∧ hereL last r = m
          · obtain ⟨f, o, hv, hl⟩ := (ih r.length (by omega)).1 lv r (Nat.le_refl _)
            cases o with
            | bad e l => exact ⟨f + 1, _, .inlbad h64 hx hi hv, trivial⟩
            | ok d r2 =>
              simp only [Out.left] at hl
              obtain ⟨f2, o2, hs, hl2⟩ := (ih r2.length (by omega)).2.2.2 lv (ks ++ [x]) (ds ++ [d]) r2 (Nat.le_refl _)
              refine ⟨f + f2 + 1, o2, .inl h64 hx hi (hv.up (by omega)) (hs.up (by omega)), ?_⟩
              cases o2 with
              | bad e l => trivial
              | ok p r3 =>
                simp only [Out.left, List.length_cons, kindOf, if_true] at hl2 ⊢
                omega
          · obtain ⟨f, o, hv, hl⟩ := (ih r.length (by omega)).2.1 lv m r (Nat.le_refl _)
            cases o with
            | bad e l => exact ⟨f + 1, _, .wibad h64 hx hi hv, trivial⟩
            | ok d r2 =>
              simp only [Out.left] at hl
              obtain ⟨f2, o2, hs, hl2⟩ := (ih r2.length (by omega)).2.2.2 lv (ks ++ [x]) (ds ++ [d]) r2 (Nat.le_refl _)
              refine ⟨f + f2 + 1, o2, .wi h64 hx hi (hv.up (by omega)) (hs.up (by omega)), ?_⟩
              cases o2 with
              | bad e l => trivial
              | ok p r3 =>
                simp only [Out.left, List.length_cons, kindOf, if_true] at hl2 ⊢
                omega
      · refine ⟨1, _, .done hk, ?_⟩
        simp only [Out.left]
        rw [if_neg hk]
        omega
    refine ⟨fun lv ts hn => ?_, hW, hS, hK⟩
    rcases Nat.lt_or_ge 16 lv with hlv | hlv
    · exact ⟨1, _, .deep hlv, trivial⟩
    cases ts with
    | nil => exact ⟨1, _, .none_ hlv, trivial⟩
    | cons t r =>
      obtain ⟨k, x, m, c⟩ := t
      by_cases h5 : k = 5
      · subst h5; exact ⟨1, _, .word hlv, by simp [Out.left]⟩
      by_cases h6 : k = 6
      · subst h6; exact ⟨1, _, .noseq hlv, by simp [Out.left]⟩
      by_cases h7 : k = 7
      · subst h7; exact ⟨1, _, .nomap hlv, by simp [Out.left]⟩
      by_cases h3 : k = 3
      · subst h3
        obtain ⟨f, o, hs, hl⟩ := hS (lv + 1) [] _ hn
        cases o with
        | bad e l => exact ⟨f + 1, _, .seqbad hlv hs, trivial⟩
        | ok ds r2 => exact ⟨f + 1, _, .seq hlv hs, hl⟩
      by_cases h4 : k = 4
      · subst h4
        obtain ⟨f, o, hs, hl⟩ := hK (lv + 1) [] [] _ hn
        cases o with
        | bad e l => exact ⟨f + 1, _, .keysbad hlv hs, trivial⟩
        | ok p r2 =>
          obtain ⟨ks, ds⟩ := p
          exact ⟨f + 1, _, .keys hlv hs, hl⟩
      · exact ⟨1, _, .form hlv (by omega), trivial⟩
/-- what comes of reading tokens whole -/
inductive Rd (last : Int) (f : Nat) (ts : List Tk) : Except (Int × Int) T → Prop
  | ok {d : T} (h : Val last f 1 ts (.ok d [])) : Rd last f ts (.ok d)
  | left {d : T} {t : Tk} {r : List Tk} (h : Val last f 1 ts (.ok d (t :: r))) : Rd last f ts (.error (3, t.2.2.1))
  | bad {e l : Int} (h : Val last f 1 ts (.bad e l)) : Rd last f ts (.error (e, l))
/-- a key that may be: what stands behind it -/
theorem Ky.rest {last : Int} {f lv : Nat} {ks : List (List UInt8)} {ds : List T} {x : List UInt8} {n c : Int} {r : List Tk} {o : Out (List (List UInt8) × List T)} (h : Ky last f lv ks ds ((4, x, n, c) :: r) o) (hx : x.length ≤ 64) (hm : x ∉ ks) :
    ∃ g, f = g + 1 ∧
      (((5 ≤ kindOf r ∧ kindOf r ≤ 7 ∧ hereL last r = n) ∧ ((∃ d r', Val last g lv r (.ok d r') ∧ Ky last g lv (ks ++ [x]) (ds ++ [d]) r' o) ∨ (∃ e l, Val last g lv r (.bad e l) ∧ o = .bad e l))) ∨
       (¬ (5 ≤ kindOf r ∧ kindOf r ≤ 7 ∧ hereL last r = n) ∧ ((∃ d r', Wi last g lv n r (.ok d r') ∧ Ky last g lv (ks ++ [x]) (ds ++ [d]) r' o) ∨ (∃ e l, Wi last g lv n r (.bad e l) ∧ o = .bad e l)))) := by
  cases h with
  | done h => exact absurd rfl h
  | long h => omega
  | twice h h2 => exact absurd h2 hm
  | inl h h2 h3 h4 h5 => exact ⟨_, rfl, .inl ⟨h3, .inl ⟨_, _, h4, h5⟩⟩⟩
  | inlbad h h2 h3 h4 => exact ⟨_, rfl, .inl ⟨h3, .inr ⟨_, _, h4, rfl⟩⟩⟩
  | wi h h2 h3 h4 h5 => exact ⟨_, rfl, .inr ⟨h3, .inl ⟨_, _, h4, h5⟩⟩⟩
  | wibad h h2 h3 h4 => exact ⟨_, rfl, .inr ⟨h3, .inr ⟨_, _, h4, rfl⟩⟩⟩
/-- which way a key goes -/
theorem Ky.way {last : Int} {f lv : Nat} {ks : List (List UInt8)} {ds : List T} {ts : List Tk} {o : Out (List (List UInt8) × List T)} (h : Ky last f lv ks ds ts o) :
    (kindOf ts ≠ 4 ∧ o = .ok (ks, ds) ts) ∨ ∃ x n c r, ts = (4, x, n, c) :: r ∧ ((64 < x.length ∧ o = .bad 2 n) ∨ (x.length ≤ 64 ∧ x ∈ ks ∧ o = .bad 6 n) ∨ (x.length ≤ 64 ∧ x ∉ ks)) := by
  cases h with
  | done h => exact .inl ⟨h, rfl⟩
  | long h => exact .inr ⟨_, _, _, _, rfl, .inl ⟨h, rfl⟩⟩
  | twice h h2 => exact .inr ⟨_, _, _, _, rfl, .inr (.inl ⟨h, h2, rfl⟩)⟩
  | inl h h2 h3 h4 h5 => exact .inr ⟨_, _, _, _, rfl, .inr (.inr ⟨h, h2⟩)⟩
  | inlbad h h2 h3 h4 => exact .inr ⟨_, _, _, _, rfl, .inr (.inr ⟨h, h2⟩)⟩
  | wi h h2 h3 h4 h5 => exact .inr ⟨_, _, _, _, rfl, .inr (.inr ⟨h, h2⟩)⟩
  | wibad h h2 h3 h4 => exact .inr ⟨_, _, _, _, rfl, .inr (.inr ⟨h, h2⟩)⟩
theorem Rd.total (last : Int) (ts : List Tk) : ∃ f o, Rd last f ts o := by
  obtain ⟨f, o, h, _⟩ := (P20.total last ts.length).1 1 ts (Nat.le_refl _)
  cases o with
  | bad e l => exact ⟨f, _, .bad h⟩
  | ok d r =>
    cases r with
    | nil => exact ⟨f, _, .ok h⟩
    | cons t r => exact ⟨f, _, .left h⟩
/-- what is read is less than what was there -/
theorem less (last : Int) : ∀ f : Nat, (∀ lv ts d r, Val last f lv ts (.ok d r) → r.length < ts.length) ∧ (∀ lv l ts d r, Wi last f lv l ts (.ok d r) → r.length < ts.length) ∧
    (∀ lv acc ts d r, Sq last f lv acc ts (.ok d r) → r.length ≤ ts.length ∧ (kindOf ts = 3 → r.length < ts.length)) ∧ (∀ lv ks ds ts d r, Ky last f lv ks ds ts (.ok d r) → r.length ≤ ts.length ∧ (kindOf ts = 4 → r.length < ts.length))
  | 0 => ⟨fun _ _ _ _ h => (by cases h), fun _ _ _ _ _ h => (by cases h), fun _ _ _ _ _ h => (by cases h), fun _ _ _ _ _ _ h => (by cases h)⟩
  | f + 1 => by
    obtain ⟨hv, hw, hs, hk⟩ := less last f
    refine ⟨fun lv ts d r h => ?_, fun lv l ts d r h => ?_, fun lv acc ts d r h => ?_, fun lv ks ds ts d r h => ?_⟩
    · cases h with
      | word h => simp
      | noseq h => simp
      | nomap h => simp
      | seq h h2 => exact (hs _ _ _ _ _ h2).2 rfl
      | keys h h2 => exact (hk _ _ _ _ _ _ h2).2 rfl
    · cases h with
      | ok h => have := hv _ _ _ _ h; simp at this ⊢; omega
    · cases h with
      | done h => exact ⟨Nat.le_refl _, fun e => absurd e h⟩
      | next h h2 => have h3 := hw _ _ _ _ _ h; have h4 := (hs _ _ _ _ _ h2).1; simp; omega
    · cases h with
      | done h => exact ⟨Nat.le_refl _, fun e => absurd e h⟩
      | inl h h2 h3 h4 h5 => have h6 := hv _ _ _ _ h4; have h7 := (hk _ _ _ _ _ _ h5).1; simp; omega
      | wi h h2 h3 h4 h5 => have h6 := hw _ _ _ _ _ h4; have h7 := (hk _ _ _ _ _ _ h5).1; simp; omega
/-- keys that are read are short -/
theorem keys_short (last : Int) : ∀ (f lv : Nat) (ks ks' : List (List UInt8)) (ds ds' : List T) (ts r : List Tk), Ky last f lv ks ds ts (.ok (ks', ds') r) → (∀ x ∈ ks, x.length ≤ 64) → ∀ x ∈ ks', x.length ≤ 64
  | 0, lv, ks, ks', ds, ds', ts, r, h, hk => by cases h
  | f + 1, lv, ks, ks', ds, ds', ts, r, h, hk => by
    have hm : ∀ x : List UInt8, x.length ≤ 64 → ∀ y ∈ ks ++ [x], y.length ≤ 64 := fun x hx y hy => by
      rcases List.mem_append.1 hy with hy | hy
      · exact hk y hy
      · rw [List.mem_singleton.1 hy]; exact hx
    cases h with
    | done h => exact hk
    | inl h h2 h3 h4 h5 => exact keys_short last f lv _ ks' _ ds' _ r h5 (hm _ h)
    | wi h h2 h3 h4 h5 => exact keys_short last f lv _ ks' _ ds' _ r h5 (hm _ h)
mutual
/-- are trees alike, but for lines? -/
def T.same : T → T → Bool
  | .mk k t ks ds _, .mk k' t' ks' ds' _ => k == k' && (t == t' && (ks == ks' && sameL ds ds'))
def sameL : List T → List T → Bool
  | [], [] => true
  | d :: ds, e :: es => d.same e && sameL ds es
  | [], _ :: _ => false
  | _ :: _, [] => false
end
theorem sameL_len : ∀ {ds es : List T}, sameL ds es = true → ds.length = es.length
  | [], [], _ => rfl
  | d :: ds, e :: es, h => by
    simp only [sameL, Bool.and_eq_true] at h
    simp [sameL_len h.2]
  | [], _ :: _, h => by simp [sameL] at h
  | _ :: _, [], h => by simp [sameL] at h
mutual
theorem T.same_refl : ∀ d : T, d.same d = true
  | .mk k t ks ds l => by simp [T.same, sameL_refl ds]
theorem sameL_refl : ∀ ds : List T, sameL ds ds = true
  | [] => rfl
  | d :: ds => by simp [sameL, T.same_refl d, sameL_refl ds]
end
def T.kind : T → Nat | .mk k _ _ _ _ => k
def T.text : T → List UInt8 | .mk _ t _ _ _ => t
def T.keys : T → List (List UInt8) | .mk _ _ ks _ _ => ks
def T.kids : T → List T | .mk _ _ _ ds _ => ds
def T.line : T → Int | .mk _ _ _ _ l => l
end P20
end Go.Proofs.YtefokfbgpfcbkaaGreat
namespace Go.Proofs.YtefokfbgpfcbkaaGreat
set_option linter.unusedVariables false
set_option linter.unusedSimpArgs false
namespace P20
mutual
/-- how many levels, and nodes, up to so many levels -/
def T.size : Nat → T → Nat × Nat
  | lv, .mk k t ks ds l => if lv = 0 then (0, 0) else ((sizeL (lv - 1) ds).1 + 1, (sizeL (lv - 1) ds).2 + 1)
def sizeL : Nat → List T → Nat × Nat
  | lv, [] => (0, 0)
  | lv, d :: ds => (max (d.size lv).1 (sizeL lv ds).1, (d.size lv).2 + (sizeL lv ds).2)
end
mutual
/-- the nodes, with their levels, each ahead of its kids; down to a level -/
def T.pre (most : Nat) : Nat → T → List (Nat × T)
  | lv, .mk k t ks ds l => if most < lv then [] else (lv, .mk k t ks ds l) :: preL most (lv + 1) ds
def preL (most : Nat) : Nat → List T → List (Nat × T)
  | lv, [] => []
  | lv, d :: ds => d.pre most lv ++ preL most lv ds
end
theorem foldl_max_ge (l : List Nat) : ∀ a : Nat, l.foldl max a = max a (l.foldl max 0) := by
  induction l with
  | nil => intro a; simp
  | cons x l ih => intro a; simp only [List.foldl_cons]; rw [ih (max a x), ih (max 0 x)]; omega
mutual
theorem T.pre_size (most : Nat) : ∀ (d : T) (lv : Nat), lv ≤ most + 1 → (d.pre most lv).length = (d.size (most + 1 - lv)).2 ∧ ((d.pre most lv).map (·.1)).foldl max 0 = (if lv ≤ most then (d.size (most + 1 - lv)).1 + lv - 1 else 0)
  | .mk k t ks ds l, lv, h => by
    have ih := preL_size most ds (lv + 1)
    unfold T.pre T.size
    by_cases hm : most < lv
    · rw [if_pos hm, if_pos (by omega), if_neg (by omega)]; simp
    · rw [if_neg hm, if_neg (by omega), if_pos (by omega)]
      obtain ⟨h1, h2⟩ := ih (by omega)
      have e : most + 1 - lv - 1 = most + 1 - (lv + 1) := by omega
      rw [e]
      refine ⟨by simp [h1], ?_⟩
      simp only [List.map_cons, List.foldl_cons]
      rw [foldl_max_ge, h2]
      split <;> omega
theorem preL_size (most : Nat) : ∀ (ds : List T) (lv : Nat), lv ≤ most + 1 → (preL most lv ds).length = (sizeL (most + 1 - lv) ds).2 ∧ ((preL most lv ds).map (·.1)).foldl max 0 = (if (sizeL (most + 1 - lv) ds).1 = 0 then 0 else (sizeL (most + 1 - lv) ds).1 + lv - 1)
  | [], lv, h => by simp [preL, sizeL]
  | d :: ds, lv, h => by
    obtain ⟨h1, h2⟩ := T.pre_size most d lv h
    obtain ⟨h3, h4⟩ := preL_size most ds lv h
    unfold preL sizeL
    refine ⟨by simp [h1, h3], ?_⟩
    rw [List.map_append, List.foldl_append, foldl_max_ge, h2, h4]
    have hz : ¬ lv ≤ most → (d.size (most + 1 - lv)).1 = 0 ∧ (sizeL (most + 1 - lv) ds).1 = 0 := by
      intro hn
      have e : most + 1 - lv = 0 := by omega
      rw [e]
      refine ⟨by cases d; simp [T.size], ?_⟩
      clear h1 h2 h3 h4
      induction ds with
      | nil => rfl
      | cons a b ih => unfold sizeL; simp only; rw [ih]; cases a; simp [T.size]
    have hp : lv ≤ most → 0 < (d.size (most + 1 - lv)).1 := by
      intro hp
      cases d
      unfold T.size
      rw [if_neg (by omega)]
      exact Nat.succ_pos _
    by_cases hm : lv ≤ most
    · have := hp hm
      simp only [hm, if_true]
      split <;> split <;> omega
    · obtain ⟨z1, z2⟩ := hz hm
      simp [hm, z1, z2]
end
theorem depth_size (d : T) : ((d.pre 18 1).map (·.1)).foldl max 0 = (d.size 18).1 := by
  have := (T.pre_size 18 d 1 (by omega)).2
  simpa using this
theorem count_size (d : T) : (d.pre 18 1).length = (d.size 18).2 := by
  have := (T.pre_size 18 d 1 (by omega)).1
  simpa using this
/-- what is wrong with keys, behind others -/
def keysE : List (List UInt8) → List (List UInt8) → Int
  | _, [] => 0
  | seen, k :: ks => if P03.check k 64 ≠ 0 then P03.check k 64 else if k ∈ seen then 6 else keysE (seen ++ [k]) ks
/-- has a node what its kind doesn't have? -/
def oddB (k : Nat) (t : List UInt8) (nk nd : Nat) : Bool :=
  if k = 1 then decide (0 < nk + nd) else if k = 2 then (!t.isEmpty) || decide (0 < nk) else (!t.isEmpty) || decide (nk ≠ nd)
/-- what is wrong with a node at a level, but for its kids -/
def nodeE (lv : Nat) : T → Int
  | .mk k t ks ds _ => if 16 < lv then 11 else if k < 1 ∨ 3 < k then 7 else if oddB k t ks.length ds.length = true then 3 else if P03.check t 4096 ≠ 0 then P03.check t 4096 else keysE [] ks
/-- the first that is wrong -/
def firstE : List (Nat × T) → Int
  | [] => 0
  | x :: r => if nodeE x.1 x.2 ≠ 0 then nodeE x.1 x.2 else firstE r
theorem firstE_append (a b : List (Nat × T)) : firstE (a ++ b) = if firstE a ≠ 0 then firstE a else firstE b := by
  induction a with
  | nil => simp [firstE]
  | cons x r ih =>
    simp only [List.cons_append, firstE, ih]
    by_cases h : nodeE x.1 x.2 = 0
    · simp [h]
    · simp [h]
mutual
/-- what is wrong with a tree at a level -/
def T.check : Nat → T → Int
  | lv, .mk k t ks ds l => if nodeE lv (.mk k t ks ds l) ≠ 0 then nodeE lv (.mk k t ks ds l) else checkL (lv + 1) ds
def checkL : Nat → List T → Int
  | lv, [] => 0
  | lv, d :: ds => if d.check lv ≠ 0 then d.check lv else checkL lv ds
end
mutual
theorem T.check_pre : ∀ (d : T) (lv : Nat), lv ≤ 17 → firstE (d.pre 17 lv) = d.check lv
  | .mk k t ks ds l, lv, h => by
    unfold T.pre T.check
    rw [if_neg (by omega)]
    simp only [firstE]
    by_cases hl : lv = 17
    · have h11 : nodeE lv (.mk k t ks ds l) = 11 := by simp only [nodeE]; rw [if_pos (by omega)]
      rw [h11]; rfl
    · rw [checkL_pre ds (lv + 1) (by omega)]
theorem checkL_pre : ∀ (ds : List T) (lv : Nat), lv ≤ 17 → firstE (preL 17 lv ds) = checkL lv ds
  | [], lv, h => rfl
  | d :: ds, lv, h => by
    unfold preL checkL
    rw [firstE_append, T.check_pre d lv h, checkL_pre ds lv h]
end
/-- the line of a node without kids -/
def leaf (k : Nat) (t : List UInt8) : List UInt8 := if k = 2 then [91, 93] else if k = 3 then [123, 125] else P18.put t
mutual
/-- a node's lines; first stands ahead of the first one, ahead of the others -/
def T.write : List UInt8 → List UInt8 → T → List UInt8
  | first, ahead, .mk k t ks ds l => if ds.isEmpty = true then first ++ leaf k t ++ [10] else writeL k first ahead ks ds
def writeL : Nat → List UInt8 → List UInt8 → List (List UInt8) → List T → List UInt8
  | _, _, _, _, [] => []
  | k, first, ahead, ks, d :: ds =>
    (if k = 2 then d.write (first ++ [45, 32]) (ahead ++ [32, 32])
     else if d.kids.isEmpty = true then d.write (first ++ P18.put (ks.headD []) ++ [58] ++ [32]) []
     else first ++ P18.put (ks.headD []) ++ [58] ++ [10] ++ d.write (ahead ++ [32, 32]) (ahead ++ [32, 32])) ++ writeL k ahead ahead ks.tail ds
end
mutual
/-- a tree's lines -/
def T.lines : T → List (List UInt8)
  | .mk k t ks ds l => if ds.isEmpty = true then [leaf k t] else linesL k ks ds
def linesL : Nat → List (List UInt8) → List T → List (List UInt8)
  | _, _, [] => []
  | k, ks, d :: ds =>
    (if k = 3 ∧ d.kids.isEmpty = true then [P18.put (ks.headD []) ++ [58, 32] ++ d.lines.headD []]
     else if k = 3 then (P18.put (ks.headD []) ++ [58]) :: d.lines.map (fun x => [32, 32] ++ x)
     else match d.lines with
       | [] => []
       | x :: r => ([45, 32] ++ x) :: r.map (fun x => [32, 32] ++ x)) ++ linesL k ks.tail ds
end
/-- lines with something ahead, as a text -/
def lay (first ahead : List UInt8) : List (List UInt8) → List UInt8
  | [] => []
  | x :: r => first ++ x ++ [10] ++ lay ahead ahead r
theorem lay_append (a b : List (List UInt8)) (f h : List UInt8) (hn : a ≠ []) : lay f h (a ++ b) = lay f h a ++ lay h h b := by
  induction a generalizing f with
  | nil => exact absurd rfl hn
  | cons x r ih =>
    simp only [List.cons_append, lay]
    cases r with
    | nil => simp [lay]
    | cons y s => rw [ih h (by simp)]; simp
theorem lay_same (h x : List UInt8) (ls : List (List UInt8)) : lay h h (ls.map (fun y => x ++ y)) = lay (h ++ x) (h ++ x) ls := by
  induction ls with
  | nil => rfl
  | cons y r ih => simp [lay, ih]
mutual
theorem T.lines_ne : ∀ d : T, d.lines ≠ []
  | .mk k t ks ds l => by
    unfold T.lines
    split
    · simp
    · cases ds with
      | nil => simp_all
      | cons d ds =>
        unfold linesL
        have := T.lines_ne d
        split
        · simp
        · split
          · simp
          · split
            · simp_all
            · simp
end
theorem linesL_ne (k : Nat) (ks : List (List UInt8)) (d : T) (ds : List T) : linesL k ks (d :: ds) ≠ [] := by
  unfold linesL
  have := T.lines_ne d
  split
  · simp
  · split
    · simp
    · split
      · simp_all
      · simp
mutual
theorem T.write_lines : ∀ (d : T) (lv : Nat) (f h : List UInt8), d.check lv = 0 → d.write f h = lay f h d.lines
  | .mk k t ks ds l, lv, f, h, hc => by
    unfold T.write T.lines
    by_cases he : ds.isEmpty = true
    · rw [if_pos he, if_pos he]; simp [lay]
    · rw [if_neg he, if_neg he]
      unfold T.check at hc
      by_cases hn : nodeE lv (.mk k t ks ds l) = 0
      · rw [if_neg (by simpa using hn)] at hc
        have hk : k = 2 ∨ k = 3 := by
          simp only [nodeE] at hn
          split at hn
          · exact absurd hn (by decide)
          · split at hn
            · exact absurd hn (by decide)
            · split at hn
              · exact absurd hn (by decide)
              · rename_i h1 h2 h3
                by_cases hk1 : k = 1
                · subst hk1
                  exfalso
                  apply h3
                  unfold oddB
                  cases ds with
                  | nil => simp at he
                  | cons a b => simp; omega
                · omega
        exact writeL_lines ds k ks (lv + 1) f h hk hc
      · rw [if_pos hn] at hc
        exact absurd hc hn
theorem writeL_lines : ∀ (ds : List T) (k : Nat) (ks : List (List UInt8)) (lv : Nat) (f h : List UInt8), (k = 2 ∨ k = 3) → checkL lv ds = 0 → writeL k f h ks ds = lay f h (linesL k ks ds)
  | [], k, ks, lv, f, h, hk, hc => rfl
  | d :: ds, k, ks, lv, f, h, hk, hc => by
    unfold checkL at hc
    by_cases hd : d.check lv = 0
    · rw [if_neg (by simpa using hd)] at hc
      have ih := writeL_lines ds k ks.tail lv h h hk hc
      have iw := fun a b => T.write_lines d lv a b hd
      have hne := T.lines_ne d
      unfold writeL linesL
      rw [ih, lay_append _ _ _ _ (by
        split
        · simp
        · split
          · simp
          · split
            · simp_all
            · simp)]
      congr 1
      rcases hk with rfl | rfl
      · simp only [if_true, show ¬ (2 = 3) from by omega, false_and, if_false]
        rw [iw]
        cases hl : d.lines with
        | nil => exact absurd hl hne
        | cons x r => simp only [lay]; rw [lay_same]; simp
      · simp only [show ¬ (3 = 2) from by omega, if_false, true_and, if_true]
        by_cases hq : d.kids.isEmpty = true
        · rw [if_pos hq, if_pos hq, iw]
          have hl1 : ∃ x, d.lines = [x] := by
            obtain ⟨k2, t2, ks2, ds2, l2⟩ := d
            simp only [T.kids] at hq
            unfold T.lines
            rw [if_pos hq]
            exact ⟨_, rfl⟩
          obtain ⟨x, hx⟩ := hl1
          rw [hx]
          simp [lay]
        · rw [if_neg hq, if_neg hq, iw]
          simp only [lay]
          rw [lay_same]
          simp
    · rw [if_pos hd] at hc
      exact absurd hc hd
end
end P20
end Go.Proofs.YtefokfbgpfcbkaaGreat
