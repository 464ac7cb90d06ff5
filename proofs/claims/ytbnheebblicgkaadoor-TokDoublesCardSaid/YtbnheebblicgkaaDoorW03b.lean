/- walks of layer 3: rescriptref03.First, Check; utf.taken, First, Check -/
import Derived.Test.YtbnheebblicgkaaDoorW03
namespace Go.Proofs.YtbnheebblicgkaaDoor
set_option linter.unusedVariables false
set_option linter.unusedSimpArgs false
open Go.RowKit
set_option maxRecDepth 100000 in
set_option maxHeartbeats 800000 in
theorem refFirst_any (s : ByteArray) (w : World) (h : s.size ≤ 1048576) :
    Calls Tryd.prog 31 #[.string s] w fun e w' => e = .returned (.int .i64 (P03.first s.data.toList)) ∧ w' = w := by
  go_enter Tryd.func31, Tryd.ntmps31
  go_wp2
  go_loopg [3] s.size (fun g s3 wx => ∃ (k : Nat), k ≤ s.size ∧ s.size ≤ k + g ∧ s3 = .int .i64 (k : Int) ∧ Hid (P03.first s.data.toList = P03.firstBad (g + 1) k (s.data.toList.drop k)) ∧ wx = w)
  case atStart => exact ⟨0, by omega, by omega, rfl, by show _ = _; rw [P03.first, ← Lib.size_eq]; rfl, rfl⟩
  case round =>
    obtain ⟨k, hk, hkg, rfl, HP, rfl⟩ := hrel
    by_cases hlt : k < s.size
    · have hle : (k : Int) < (s.size : Int) := by omega
      have hst : P03.firstBad (gk + 1) k (s.data.toList.drop k) = _ := rfl
      clear hst
      have hne : (s.data.toList.drop k).length ≠ 0 := by rw [P03.drop_len]; omega
      have hbd := P03.one_bd (s.data.toList.drop k) (by rw [P03.drop_len]; omega)
      rw [P03.drop_len] at hbd
      have hstep : P03.firstBad (gk + 1) k (s.data.toList.drop k) = if ((P03.one (s.data.toList.drop k)).1 == 0) = true then (k : Int) else P03.firstBad gk (k + (P03.one (s.data.toList.drop k)).1.toNat) ((s.data.toList.drop k).drop (P03.one (s.data.toList.drop k)).1.toNat) := by
        rw [P03.firstBad, if_neg hne]
      generalize hone : P03.one (s.data.toList.drop k) = x at hbd hstep
      obtain ⟨x1, x2⟩ := x
      simp only at hbd hstep
      obtain ⟨n, rfl⟩ := Int.eq_ofNat_of_zero_le hbd.1
      have HN := hide hone
      have HS := hide hstep
      clear hone hstep hne
      go_wp2_with (go_at_call 55; refine (One_any s k _ h hlt).mono ?_; rw [unhide HN]; rintro e w' ⟨rfl, rfl⟩)
      · go_ret
        refine ⟨ret_int ?_, rfl⟩
        rw [unhide HP, unhide HS, if_pos (by assumption)]
      · have hn1 : n ≠ 0 := by rintro rfl; simp_all
        go_roundg (gk - 1)
        case measure => omega
        case rel =>
          refine ⟨k + n, by omega, by omega, by go_num, ?_, rfl⟩
          show _ = _
          rw [unhide HP, unhide HS, if_neg (nb (by assumption)), Int.toNat_natCast, List.drop_drop, show gk - 1 + 1 = gk from by omega]
    · go_wp2
      go_ret
      refine ⟨ret_int ?_, rfl⟩
      rw [unhide HP, P03.firstBad, if_pos (by rw [P03.drop_len]; omega)]
set_option maxHeartbeats 400000 in
theorem refCheck_any (s : ByteArray) (n : Int) (w : World) (h : s.size ≤ 1000000) :
    Calls Tryd.prog 71 #[.string s, .int .i64 n] w fun e w' => e = .returned (.int .i64 (P03.check s.data.toList n)) ∧ w' = w := by
  go_enter Tryd.func71, Tryd.ntmps71
  go_wp2_with (go_at_call 31; refine (refFirst_any _ _ (Nat.le_trans h (by decide))).mono ?_; rintro e w' ⟨rfl, rfl⟩)
  all_goals go_ret
  all_goals refine ⟨ret_int ?_, rfl⟩
  all_goals rw [P03.check, ← Lib.size_eq]
  all_goals repeat (first | rw [if_pos (by omega)] | rw [if_neg (by omega)])
set_option maxHeartbeats 400000 in
theorem taken_any (s : ByteArray) (k : Nat) (r : Int) (w : World) (h : s.size ≤ 1000000) (hk : k ≤ s.size) :
    Calls Tryd.prog 72 #[.string s, .int .i64 (k : Int), .int .i32 r] w fun e w' => e = .returned (.int .i64 (P03.taken (s.data.toList.drop k) r)) ∧ w' = w := by
  have hki : (k : Int) ≤ (s.size : Int) := by omega
  go_enter Tryd.func72, Tryd.ntmps72
  go_wp2_with (go_at_call 61; refine (Tryd.strings_HasPrefix _ _ _).mono ?_; rintro e w' ⟨rfl, rfl⟩)
  all_goals go_ret
  all_goals refine ⟨ret_int ?_, rfl⟩
  all_goals rw [P03.taken]
  · rw [if_pos (by assumption)]
  all_goals rw [if_neg (nb (by assumption))]
  all_goals rename_i hp
  all_goals rw [List.take_of_length_le (by rw [P03.drop_len]; omega)] at hp
  · rw [if_pos hp]
  · rw [if_neg (nb hp)]
end Go.Proofs.YtbnheebblicgkaaDoor
