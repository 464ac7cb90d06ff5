/- The plain functions of layer 18 (scalar) and layer 3 (utf), as far as the claims of scalar need them: no program in sight. -/
import Derived.Test.YtbnheebblicgkaaDoorLib
import Derived.Lib.Strings
import Derived.Lib.IndexBytes
namespace Go.Proofs.YtbnheebblicgkaaDoor
set_option linter.unusedVariables false
set_option linter.unusedSimpArgs false
namespace P18
/-- may a byte stand in a plain text -/
def stands (c : UInt8) (pos : Bool) : Bool :=
  (97 ≤ c && c ≤ 122) || (65 ≤ c && c ≤ 90) || (48 ≤ c && c ≤ 57) || c == 46 || c == 95 || c == 47 || c == 43 || c == 64 || (c == 45 && pos)
theorem stands_key0 : ∀ n, n < 256 → ∀ pos, P18.stands (UInt8.ofNat n) pos =
    if 97 ≤ bits BinOp.or IntKind.u8 ((UInt8.ofNat n).toNat : Int) 32 ∧ bits BinOp.or IntKind.u8 ((UInt8.ofNat n).toNat : Int) 32 ≤ 122 ∧ 65 ≤ ((UInt8.ofNat n).toNat : Int) then true
    else if 48 ≤ ((UInt8.ofNat n).toNat : Int) ∧ ((UInt8.ofNat n).toNat : Int) ≤ 57 then true
    else decide (0 ≤ Lib.indexByte [46, 95, 47, 43, 64, 45] (UInt8.ofNat n)) && (decide (Lib.indexByte [46, 95, 47, 43, 64, 45] (UInt8.ofNat n) < 5) || pos) := by decide +kernel
theorem stands_key (c : UInt8) (pos : Bool) : P18.stands c pos =
    if 97 ≤ bits BinOp.or IntKind.u8 (c.toNat : Int) 32 ∧ bits BinOp.or IntKind.u8 (c.toNat : Int) 32 ≤ 122 ∧ 65 ≤ (c.toNat : Int) then true
    else if 48 ≤ (c.toNat : Int) ∧ (c.toNat : Int) ≤ 57 then true
    else decide (0 ≤ Lib.indexByte [46, 95, 47, 43, 64, 45] c) && (decide (Lib.indexByte [46, 95, 47, 43, 64, 45] c < 5) || pos) :=
  all_bytes (p := fun c => ∀ pos, P18.stands c pos =
    if 97 ≤ bits BinOp.or IntKind.u8 (c.toNat : Int) 32 ∧ bits BinOp.or IntKind.u8 (c.toNat : Int) 32 ≤ 122 ∧ 65 ≤ (c.toNat : Int) then true
    else if 48 ≤ (c.toNat : Int) ∧ (c.toNat : Int) ≤ 57 then true
    else decide (0 ≤ Lib.indexByte [46, 95, 47, 43, 64, 45] c) && (decide (Lib.indexByte [46, 95, 47, 43, 64, 45] c < 5) || pos)) stands_key0 c pos
/-- how many first bytes are plain -/
def plainLen : Bool → List UInt8 → Nat
  | _, [] => 0
  | pos, c :: r => if stands c pos then plainLen true r + 1 else 0
theorem plainLen_drop {pos : Bool} {l : List UInt8} {k : Nat} (h : k < l.length) :
    plainLen pos (l.drop k) = if stands l[k] pos then plainLen true (l.drop (k + 1)) + 1 else 0 := by
  rw [List.drop_eq_getElem_cons h]; rfl
theorem plainLen_le (l : List UInt8) (pos : Bool) : plainLen pos l ≤ l.length := by
  induction l generalizing pos with
  | nil => simp [plainLen]
  | cons c r ih => simp only [plainLen]; split <;> simp; exact ih true
/-- is a text plain -/
def plain (l : List UInt8) : Bool := !l.isEmpty && ((plainLen false l : Int) == (l.length : Int))
/-- what stands behind a backslash for a byte; nothing: it stands for itself -/
def hexDigit (n : Nat) : UInt8 := if n < 10 then UInt8.ofNat (48 + n) else UInt8.ofNat (87 + n)
def word (c : UInt8) : List UInt8 :=
  if c = 34 ∨ c = 92 then [c] else if c = 10 then [110] else if c = 9 then [116]
  else if c < 32 ∨ c = 127 then [120, hexDigit (c.toNat / 16), hexDigit (c.toNat % 16)] else []
def hexes : ByteArray := ⟨#[48, 49, 50, 51, 52, 53, 54, 55, 56, 57, 97, 98, 99, 100, 101, 102]⟩
theorem word_ends0 : ∀ n : Nat, n < 256 → (if n = 34 ∨ n = 92 then (Utf8.encode (n : Int)).data.toList else if n = 10 then [110] else if n = 9 then [116] else if n < 32 ∨ n = 127 then
    ((⟨#[120]⟩ : ByteArray) ++ hexes.extract (n / 16) (n / 16 + 1) ++ hexes.extract (n % 16) (n % 16 + 1)).data.toList else []) = P18.word (UInt8.ofNat n) := by decide +kernel
theorem bytes_ext {a : ByteArray} {l : List UInt8} (h : a.data.toList = l) : a = ⟨l.toArray⟩ := by
  cases a; subst h; rfl
theorem word_ends (c : UInt8) : (if c.toNat = 34 ∨ c.toNat = 92 then Utf8.encode (c.toNat : Int) else if c.toNat = 10 then ⟨#[110]⟩ else if c.toNat = 9 then ⟨#[116]⟩ else if c.toNat < 32 ∨ c.toNat = 127 then
    (⟨#[120]⟩ : ByteArray) ++ hexes.extract (c.toNat / 16) (c.toNat / 16 + 1) ++ hexes.extract (c.toNat % 16) (c.toNat % 16 + 1) else ⟨#[]⟩) = ⟨(P18.word c).toArray⟩ := by
  have h := word_ends0 c.toNat c.toNat_lt
  simp only [UInt8.ofNat_toNat] at h
  rw [← h]
  apply bytes_ext
  repeat' split
  all_goals rfl
/-- how many bytes a quoted text has: from place i on; 'taken': a backslash stands in front -/
def cutQ : Nat → Bool → List UInt8 → Option Nat
  | _, _, [] => none
  | i, taken, c :: r => if ((i : Int) == 0) = true then cutQ (i + 1) taken r else if taken = true then cutQ (i + 1) false r
    else if ((c.toNat : Int) == 92) = true then cutQ (i + 1) true r else if ((c.toNat : Int) == 34) = true then some (i + 1) else cutQ (i + 1) taken r
theorem cutQ_drop {i : Nat} {t : Bool} {l : List UInt8} (h : i < l.length) :
    cutQ i t (l.drop i) = if ((i : Int) == 0) = true then cutQ (i + 1) t (l.drop (i + 1)) else if t = true then cutQ (i + 1) false (l.drop (i + 1))
      else if ((l[i].toNat : Int) == 92) = true then cutQ (i + 1) true (l.drop (i + 1)) else if ((l[i].toNat : Int) == 34) = true then some (i + 1) else cutQ (i + 1) t (l.drop (i + 1)) := by
  rw [List.drop_eq_getElem_cons h]; rfl
/-- how many bytes belong together; 3: the error ErrForm -/
def cut (l : List UInt8) : Nat × Nat :=
  if Lib.hasPrefix l [34] then (match cutQ 0 false l with | some n => (n, 0) | none => (0, 3))
  else if ((plainLen false l : Int) == 0) = true then (0, 3) else (plainLen false l, 0)
/-- the byte for which what stands behind a backslash stands, and how much that is -/
theorem idx_bd0 : ∀ n, n < 256 → -1 ≤ Lib.indexByte [48, 49, 50, 51, 52, 53, 54, 55, 56, 57, 97, 98, 99, 100, 101, 102] (UInt8.ofNat n) ∧ Lib.indexByte [48, 49, 50, 51, 52, 53, 54, 55, 56, 57, 97, 98, 99, 100, 101, 102] (UInt8.ofNat n) < 16 := by decide +kernel
theorem idx_bd (c : UInt8) : -1 ≤ Lib.indexByte [48, 49, 50, 51, 52, 53, 54, 55, 56, 57, 97, 98, 99, 100, 101, 102] c ∧ Lib.indexByte [48, 49, 50, 51, 52, 53, 54, 55, 56, 57, 97, 98, 99, 100, 101, 102] c < 16 :=
  all_bytes (p := fun c => -1 ≤ Lib.indexByte [48, 49, 50, 51, 52, 53, 54, 55, 56, 57, 97, 98, 99, 100, 101, 102] c ∧ Lib.indexByte [48, 49, 50, 51, 52, 53, 54, 55, 56, 57, 97, 98, 99, 100, 101, 102] c < 16) idx_bd0 c
def hexThree (a b c : UInt8) : Int × Int :=
  if (a != 120) = true then (0, 0)
  else if Lib.indexByte [48, 49, 50, 51, 52, 53, 54, 55, 56, 57, 97, 98, 99, 100, 101, 102] b < 0 then (0, 0) else if Lib.indexByte [48, 49, 50, 51, 52, 53, 54, 55, 56, 57, 97, 98, 99, 100, 101, 102] c < 0 then (0, 0)
  else if 127 < Lib.indexByte [48, 49, 50, 51, 52, 53, 54, 55, 56, 57, 97, 98, 99, 100, 101, 102] b * 16 + Lib.indexByte [48, 49, 50, 51, 52, 53, 54, 55, 56, 57, 97, 98, 99, 100, 101, 102] c then (0, 0)
  else (Lib.indexByte [48, 49, 50, 51, 52, 53, 54, 55, 56, 57, 97, 98, 99, 100, 101, 102] b * 16 + Lib.indexByte [48, 49, 50, 51, 52, 53, 54, 55, 56, 57, 97, 98, 99, 100, 101, 102] c, 3)
def hexTail (l : List UInt8) : Int × Int :=
  if l.length < 3 then (0, 0) else hexThree (l.getD 0 0) (l.getD 1 0) (l.getD 2 0)
def startsWord (l : List UInt8) (c : Nat) : Bool := !(word (UInt8.ofNat c)).isEmpty && Lib.hasPrefix l (word (UInt8.ofNat c))
def behind (l : List UInt8) : Int × Int :=
  match (List.range 128).find? (startsWord l) with
  | some c => ((c : Int), ((word (UInt8.ofNat c)).length : Int))
  | none => hexTail l
theorem range_drop {n k : Nat} (h : k < n) : (List.range n).drop k = k :: (List.range n).drop (k + 1) := by
  rw [List.drop_eq_getElem_cons (by simpa using h)]; simp
/-- a byte within quotes -/
def quoteOne (c : UInt8) : List UInt8 := if (word c).isEmpty = true then [c] else 92 :: word c
def quote (l : List UInt8) : List UInt8 := 34 :: (l.flatMap quoteOne ++ [34])
theorem quote_drop {l : List UInt8} {k : Nat} (h : k < l.length) : (l.drop k).flatMap quoteOne = quoteOne l[k] ++ (l.drop (k + 1)).flatMap quoteOne := by
  rw [List.drop_eq_getElem_cons h]; rfl
theorem word_len (c : UInt8) : (word c).length ≤ 3 := by
  unfold word; repeat' split
  all_goals simp
theorem quoteOne_len (c : UInt8) : (quoteOne c).length ≤ 4 := by
  have := word_len c
  unfold quoteOne; split
  · simp
  · simp; omega
end P18
end Go.Proofs.YtbnheebblicgkaaDoor
