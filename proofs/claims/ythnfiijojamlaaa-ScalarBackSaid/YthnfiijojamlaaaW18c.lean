/- walks of scalar.Quote, within -/
import Derived.Test.YthnfiijojamlaaaInfo
import Derived.Test.YthnfiijojamlaaaW18b
import Derived.Test.YthnfiijojamlaaaBytes
namespace Go.Proofs.Ythnfiijojamlaaa
set_option linter.unusedVariables false
set_option linter.unusedSimpArgs false
open Go.RowKit
set_option maxRecDepth 100000 in
set_option maxHeartbeats 800000 in
theorem Quote_any (s : ByteArray) (w : World) (h : s.size ≤ 100000) :
    Calls Try.prog 14 #[.string s] w fun e w' => ∃ b : ByteArray, e = .returned (.string b) ∧ b.data.toList = P18.quote s.data.toList ∧ Below w.heap.size w w' := by
  go_enter Try.func14, Try.ntmps14
  go_wp2
  go_loopg [3, 9] s.size (fun g s3 s9 wx => ∃ (k : Nat) (out : List UInt8), k + g = s.size ∧ s9 = .int .i64 k ∧ Hid (P18.quote s.data.toList = out ++ ((s.data.toList.drop k).flatMap P18.quoteOne ++ [34])) ∧ out.length ≤ 1 + 5 * k ∧ OwnB wx w.heap.size 5 s3 out ∧ Below w.heap.size w wx)
  case atStart => exact ⟨0, [34], by omega, rfl, rfl, by simp, OwnB.lit w 5 #[.int .u8 34] [34] (Nat.le_refl _) (by simp [maxLen]) rfl, (Below.refl _ _).alloc (Nat.le_refl _) _⟩
  case round =>
    obtain ⟨k, out, hkg, rfl, HP, hol, hown, hb⟩ := hrel
    cases gk with
    | zero =>
      obtain rfl : k = s.size := by omega
      have hfin : P18.quote s.data.toList = out ++ [34] := by
        rw [unhide HP, List.drop_of_length_le (by simp)]; rfl
      have HF := hide hfin
      clear hfin
      go_wp2_with (at_builtin; refine wpList_app1 rfl (.tmp 30) (.tmp 31) 34 rfl Try.underlying34 byteInfo rfl hown 34 (by omega) (by omega) rfl (by omega) hb.size ?_; intro v1 w1 hown1 hg1 _; have hb1 := below_app1 hb hown hg1; have hcv := conv_own (P := Try.prog) 34 9 Try.underlying34 Try.underlying5 Try.underlying9 hown1)
      go_ret
      exact ⟨_, rfl, by rw [unhide HF], hb1⟩
    | succ g =>
      have hlt : k < s.size := by omega
      have hle : (k : Int) < (s.size : Int) := by omega
      have hq := P18.quote_drop (l := s.data.toList) (k := k) (by simpa using hlt)
      have e0 : s.data.toList[k]'(by simpa using hlt) = s[k] := rfl
      rw [e0] at hq
      have hql := P18.quoteOne_len s[k]
      have HQ := hide hq
      have HG := hide hkg
      clear hkg hq e0
      go_wp2_with (first
        | (go_at_call 28; refine (word_int _ _ (by omega) (by have := s[k].toNat_lt; omega)).mono ?_; rintro e w' ⟨b, rfl, hu, m, rfl⟩; simp only [Int.toNat_natCast, UInt8.ofNat_toNat] at hu; have hbs : b.size ≤ 3 := (by rw [Lib.size_eq, hu]; exact P18.word_len _); have HU := hide hu; clear hu)
        | (at_builtin; refine wpList_app1 rfl (.tmp 18) (.tmp 19) 34 rfl Try.underlying34 byteInfo rfl (hown.drewN m) 92 (by omega) (by omega) rfl (by omega) hb.size ?_; intro v1 w1 hown1 hg1 _; have hb1 := below_app1 (below_drewN hb) (hown.drewN m) hg1)
        | (at_builtin; refine wpList_appS rfl (.tmp 20) (.tmp 21) 34 9 rfl Try.underlying34 Try.underlying9 byteInfo rfl hown1 b rfl (by simp; omega) hb1.size ?_; intro v2 w2 hown2 hg2; have hb2 := below_appS hb1 hown1 hg2)
        | (at_builtin; refine wpList_app1 rfl (.tmp 23) (.tmp 27) 34 rfl Try.underlying34 byteInfo rfl (hown.drewN m) _ (by omega) (by have := s[k].toNat_lt; omega) rfl (by omega) hb.size ?_; intro v1 w1 hown1 hg1 _; have hb1 := below_app1 (below_drewN hb) (hown.drewN m) hg1))
      · have e1 : out ++ P18.quoteOne s[k] = (out ++ [UInt8.ofNat (92 : Int).toNat]) ++ b.data.toList := by
          rw [P18.quoteOne, if_neg (by rw [← unhide HU, ← Lib.toList_data]; simp_all), ← unhide HU]; simp
        go_roundg g
        case measure => omega
        case rel => exact ⟨k + 1, out ++ P18.quoteOne s[k], by have := unhide HG; omega, by go_num, by show _ = _; rw [unhide HP, unhide HQ]; simp, by simp; omega, by rw [e1]; exact hown2, hb2⟩
      · have e1 : out ++ P18.quoteOne s[k] = out ++ [UInt8.ofNat ((s[k].toNat : Int)).toNat] := by
          rw [P18.quoteOne, if_pos (by rw [← unhide HU, ← Lib.toList_data]; simp_all)]; simp
        go_roundg g
        case measure => omega
        case rel => exact ⟨k + 1, out ++ P18.quoteOne s[k], by have := unhide HG; omega, by go_num, by show _ = _; rw [unhide HP, unhide HQ]; simp, by simp; omega, by rw [e1]; exact hown1, hb1⟩
end Go.Proofs.Ythnfiijojamlaaa
