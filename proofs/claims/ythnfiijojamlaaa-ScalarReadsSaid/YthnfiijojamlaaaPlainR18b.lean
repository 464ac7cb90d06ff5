/- What rescriptref18.Quote lays for a byte. -/
import Derived.Test.YthnfiijojamlaaaPlainR18
namespace Go.Proofs.Ythnfiijojamlaaa
set_option linter.unusedVariables false
set_option linter.unusedSimpArgs false
namespace R18
open P18
theorem quoteOne_ends0 : ∀ n : Nat, n < 256 → (if n = 34 then [92, 34] else if n = 92 then [92, 92] else if n = 10 then [92, 110] else if n = 9 then [92, 116] else if n < 32 ∨ n = 127 then
    [92, 120] ++ (hexes.extract (n / 16) (n / 16 + 1)).data.toList ++ (hexes.extract (n % 16) (n % 16 + 1)).data.toList else [UInt8.ofNat n]) = quoteOne (UInt8.ofNat n) := by decide +kernel
theorem quoteOne_ends (c : UInt8) : (if c.toNat = 34 then [92, 34] else if c.toNat = 92 then [92, 92] else if c.toNat = 10 then [92, 110] else if c.toNat = 9 then [92, 116] else if c.toNat < 32 ∨ c.toNat = 127 then
    [92, 120] ++ (hexes.extract (c.toNat / 16) (c.toNat / 16 + 1)).data.toList ++ (hexes.extract (c.toNat % 16) (c.toNat % 16 + 1)).data.toList else [c]) = quoteOne c := by
  have h := quoteOne_ends0 c.toNat c.toNat_lt
  simpa only [UInt8.ofNat_toNat] using h
theorem append_data (a b : ByteArray) : (a ++ b).data.toList = a.data.toList ++ b.data.toList := by simp
theorem one_byte (s : ByteArray) (k : Nat) (h : k < s.size) : (s.extract k (k + 1)).data.toList = [s[k]] := by
  rw [Lib.extract_data]
  have : (s.data.toList.drop k) = s[k] :: s.data.toList.drop (k + 1) := by
    rw [List.drop_eq_getElem_cons (by simpa using h)]; rfl
  rw [this, show k + 1 - k = 1 from by omega]; rfl
end R18
end Go.Proofs.Ythnfiijojamlaaa
