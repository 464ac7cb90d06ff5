/- Lemmas of this claim (a part of its texts, kept as far as the claim reaches them). -/
import Derived.Test.YtefokfbgpfcbkaaGreatRows
import Derived.Test.YtefokfbgpfcbkaaGreatGPZ
import Derived.Test.YtefokfbgpfcbkaaGreatShelfZ
import Derived.Test.YtefokfbgpfcbkaaGreatGAZ
import Derived.Test.YtefokfbgpfcbkaaGreatGW03Z
import Derived.Shelf.SlicesE.Kit
import Derived.Sort.WalkB12
import Derived.Lib.SlicesMore
import Derived.Lib.OwnBridge
import Derived.Lib.Walk
namespace Go.Proofs.YtefokfbgpfcbkaaGreat
set_option linter.unusedVariables false
set_option linter.unusedSimpArgs false
open Go.RowKit
set_option maxHeartbeats 400000 in
theorem stands_any (c : UInt8) (n : Int) (w : World) (h0 : 0 ≤ n) :
    Calls Tryz.prog 204 #[.int .u8 (c.toNat : Int), .int .i64 n] w fun e w' => e = .returned (.bool (P18.stands c (decide (0 < n)))) ∧ w' = w := by
  go_enter Tryz.func204, Tryz.ntmps204
  go_wp2_with (go_at_call 227; refine (Tryz.strings_IndexByte _ _ _).mono ?_; rintro e w' ⟨rfl, rfl⟩)
  all_goals go_ret
  all_goals refine ⟨ret_bool ?_, rfl⟩
  all_goals rw [P18.stands_key]
  all_goals first | rw [if_pos (by omega)] | (rw [if_neg (by omega)]; first | rw [if_pos (by omega)] | rw [if_neg (by omega)])
  all_goals simp
  all_goals omega
set_option maxHeartbeats 400000 in
theorem plain_any (s : ByteArray) (w : World) (h : s.size ≤ maxLen) :
    Calls Tryz.prog 173 #[.string s] w fun e w' => e = .returned (.int .i64 (P18.plainLen false s.data.toList)) ∧ w' = w := by
  unfold maxLen at h
  go_enter Tryz.func173, Tryz.ntmps173
  go_wp2
  go_loop [3] (fun n => ∃ k : Nat, k ≤ s.size ∧ n = .int .i64 k ∧ P18.plainLen false s.data.toList = P18.plainLen (decide (0 < k)) (s.data.toList.drop k) + k) (fun n => s.size - (intOf n).toNat)
  case atStart => exact ⟨0, Nat.zero_le _, rfl, rfl⟩
  case round =>
    obtain ⟨k, hk, rfl, hp⟩ := hrel
    have HP := hide hp
    clear hp
    by_cases hlt : k < s.size
    · have hd := P18.plainLen_drop (pos := decide (0 < k)) (l := s.data.toList) (k := k) (by simpa using hlt)
      have e0 : s.data.toList[k]'(by simpa using hlt) = s[k] := rfl
      rw [e0] at hd
      by_cases hs : P18.stands s[k] (decide (0 < k)) = true
      all_goals
        have HD := hide hd
        clear hd e0
        go_wp2_with (go_at_call 204; refine (stands_any _ _ _ (by omega)).mono ?_; rintro e w' ⟨rfl, rfl⟩)
        first
          | (go_round
             case rel => exact ⟨k + 1, by omega, by go_num, by rw [unhide HP, unhide HD, if_pos hs]; simp; omega⟩
             case measure => simp [intOf]; omega)
          | (go_ret
             exact ⟨ret_int (by rw [unhide HP, unhide HD, if_neg hs]; simp), rfl⟩)
    · go_wp2_with fail
      go_ret
      exact ⟨ret_int (by rw [unhide HP, List.drop_of_length_le (by simp; omega)]; simp [P18.plainLen]), rfl⟩
end Go.Proofs.YtefokfbgpfcbkaaGreat
namespace Go.Proofs.YtefokfbgpfcbkaaGreat
set_option linter.unusedVariables false
set_option linter.unusedSimpArgs false
open Go.RowKit
set_option maxHeartbeats 400000 in
theorem Plain_any (s : ByteArray) (w : World) (h : s.size ≤ maxLen) :
    Calls Tryz.prog 130 #[.string s] w fun e w' => e = .returned (.bool (P18.plain s.data.toList)) ∧ w' = w := by
  go_enter Tryz.func130, Tryz.ntmps130
  go_wp2_with (go_at_call 173; refine (plain_any _ _ (by assumption)).mono ?_; rintro e w' ⟨rfl, rfl⟩)
  all_goals go_ret
  all_goals refine ⟨ret_bool ?_, rfl⟩
  all_goals rw [P18.plain, ← Lib.size_eq, ← Lib.toList_data]
  all_goals simp [*]
end Go.Proofs.YtefokfbgpfcbkaaGreat
namespace Go.Proofs.YtefokfbgpfcbkaaGreat
set_option linter.unusedVariables false
set_option linter.unusedSimpArgs false
open Go.RowKit
end Go.Proofs.YtefokfbgpfcbkaaGreat
namespace Go.Proofs.YtefokfbgpfcbkaaGreat
set_option linter.unusedVariables false
set_option linter.unusedSimpArgs false
open Go.RowKit
end Go.Proofs.YtefokfbgpfcbkaaGreat
namespace Go.Proofs.YtefokfbgpfcbkaaGreat
set_option linter.unusedVariables false
set_option linter.unusedSimpArgs false
open Go.RowKit
end Go.Proofs.YtefokfbgpfcbkaaGreat
namespace Go.Proofs.YtefokfbgpfcbkaaGreat
set_option linter.unusedVariables false
set_option linter.unusedSimpArgs false
open Go.RowKit
end Go.Proofs.YtefokfbgpfcbkaaGreat
namespace Go.Proofs.YtefokfbgpfcbkaaGreat
set_option linter.unusedVariables false
set_option linter.unusedSimpArgs false
open Go.RowKit Go.Lib Go.Sort
end Go.Proofs.YtefokfbgpfcbkaaGreat
