/- walks of rescriptref18: plain, hex, Plain, Cut, Number -/
import Derived.Test.YtbnheebblicgkaaDoorRows
import Derived.Test.YtbnheebblicgkaaDoorShelf
import Derived.Test.YtbnheebblicgkaaDoorPlainR18
namespace Go.Proofs.YtbnheebblicgkaaDoor
set_option linter.unusedVariables false
set_option linter.unusedSimpArgs false
open Go.RowKit
set_option maxHeartbeats 800000 in
theorem refplain_any (c : UInt8) (b : Bool) (w : World)  :
    Calls Tryd.prog 68 #[.int .u8 (c.toNat : Int), .bool b] w fun e w' => e = .returned (.bool (P18.stands c (!b))) ∧ w' = w := by
  have hc := c.toNat_lt
  go_enter Tryd.func68, Tryd.ntmps68
  go_wp2_with fail
  all_goals go_ret
  all_goals refine ⟨ret_bool ?_, rfl⟩
  all_goals rw [R18.plain_key]
  all_goals try simp only [beq_iff_eq, beq_eq_false_iff_ne] at *
  all_goals cases b
  all_goals rw [Bool.eq_iff_iff]
  all_goals simp
  all_goals omega
set_option maxHeartbeats 400000 in
theorem hex_any (c : UInt8) (w : World)  :
    Calls Tryd.prog 70 #[.int .u8 (c.toNat : Int)] w fun e w' => e = .returned (.int .i64 (R18.hex c)) ∧ w' = w := by
  have hc := c.toNat_lt
  go_enter Tryd.func70, Tryd.ntmps70
  go_wp2_with fail
  all_goals go_ret
  all_goals refine ⟨ret_int ?_, rfl⟩
  all_goals rw [R18.hex]
  all_goals repeat (first | rw [if_pos (by omega)] | rw [if_neg (by omega)])
set_option maxRecDepth 100000 in
set_option maxHeartbeats 800000 in
theorem refPlain_any (s : ByteArray) (w : World) (h : s.size ≤ maxLen) :
    Calls Tryd.prog 69 #[.string s] w fun e w' => e = .returned (.bool (P18.plain s.data.toList)) ∧ w' = w := by
  unfold maxLen at h
  rw [R18.plain_eq, ← Lib.size_eq]
  go_enter Tryd.func69, Tryd.ntmps69
  go_wp2
  go_loopg [3] s.size (fun g s3 wx => ∃ (k : Nat), k + g = s.size ∧ s3 = .int .i64 (k : Int) ∧ Hid (R18.allPlain false s.data.toList = R18.allPlain (!((k : Int) == 0)) (s.data.toList.drop k)) ∧ wx = w)
  case atStart => exact ⟨0, by omega, rfl, rfl, rfl⟩
  case round =>
    obtain ⟨k, hkg, rfl, HP, rfl⟩ := hrel
    cases gk with
    | zero =>
      obtain rfl : k = s.size := by omega
      have hfin : R18.allPlain false s.data.toList = true := by rw [unhide HP, List.drop_of_length_le (by rw [Lib.size_eq]; omega)]; rfl
      have HF := hide hfin
      clear hfin
      go_wp2
      go_ret
      exact ⟨ret_bool (by rw [unhide HF]; simp), rfl⟩
    | succ g =>
      have hlt : k < s.size := by omega
      have hle : (k : Int) < (s.size : Int) := by omega
      have HG := hide hkg
      clear hkg
      have hd := R18.allPlain_drop (pos := !((k : Int) == 0)) (l := s.data.toList) (k := k) (by simpa using hlt)
      have e0 : s.data.toList[k]'(by simpa using hlt) = s[k] := rfl
      rw [e0] at hd
      have HD := hide hd
      clear hd e0
      cases hs : P18.stands s[k] (!((k : Int) == 0))
      all_goals
        have HS := hide hs
        go_wp2_with (go_at_call 68; refine (refplain_any _ _ _).mono ?_; rw [hs]; rintro e w' ⟨rfl, rfl⟩)
        first
          | (go_ret
             exact ⟨ret_bool (by rw [unhide HP, unhide HD, unhide HS]; rfl), rfl⟩)
          | (go_roundg g
             case measure => omega
             case rel =>
              refine ⟨k + 1, by have := unhide HG; omega, by go_num, ?_, rfl⟩
              show _ = _
              rw [unhide HP, unhide HD, unhide HS, show (!(((k + 1 : Nat) : Int) == 0)) = true from by simp; omega]
              rfl)
set_option maxRecDepth 100000 in
set_option maxHeartbeats 1600000 in
theorem refCut_plain (s : ByteArray) (w : World) (h : s.size ≤ 100000) (hp : 0 < s.size) (hq : s[0].toNat ≠ 34) :
    Calls Tryd.prog 43 #[.string s] w fun e w' => e = .returned (.tuple #[.int .i64 (P18.cut s.data.toList).1, .int .i64 (P18.cut s.data.toList).2]) ∧ w' = w := by
  have hi0 : (0 : Int) < (s.size : Int) := by omega
  have hne := ne_of_size hp
  have hq' : ((s[0].toNat : Int) != 34) = true := by simp; omega
  have g0 : s.data.toList.getD 0 0 = s[0] := by rw [List.getD_eq_getElem?_getD, Lib.data_getElem? s 0 hp]; rfl
  have hcut : P18.cut s.data.toList = if ((P18.plainLen false s.data.toList : Int) == 0) = true then (0, 3) else (P18.plainLen false s.data.toList, 0) := by
    rw [P18.cut, if_neg (fun h => hq (by have := ((P18.prefix_iff _).1 h).2; rwa [g0] at this))]
  have HC := hide hcut
  clear hcut g0 hq
  go_enter Tryd.func43, Tryd.ntmps43
  go_wp2_with fail
  go_loopg [4] s.size (fun g s4 wx => ∃ (k : Nat), k ≤ s.size ∧ s.size ≤ k + g ∧ s4 = .int .i64 (k : Int) ∧ Hid (P18.plainLen false s.data.toList = P18.plainLen (!((k : Int) == 0)) (s.data.toList.drop k) + k) ∧ wx = w)
  case atStart => exact ⟨0, by omega, by omega, rfl, rfl, rfl⟩
  case round =>
    obtain ⟨k, hk, hkg, rfl, HP, rfl⟩ := hrel
    have HK := hide hk
    by_cases hlt : k < s.size
    · have hle : (k : Int) < (s.size : Int) := by omega
      have hd := P18.plainLen_drop (pos := !((k : Int) == 0)) (l := s.data.toList) (k := k) (by simpa using hlt)
      have e0 : s.data.toList[k]'(by simpa using hlt) = s[k] := rfl
      rw [e0] at hd
      have HD := hide hd
      clear hd e0
      cases hs : P18.stands s[k] (!((k : Int) == 0))
      · have hfin : P18.plainLen false s.data.toList = k := by rw [unhide HP, unhide HD, hs]; simp
        have HF := hide hfin
        have HC2 : Hid (P18.cut s.data.toList = if ((k : Int) == 0) = true then (0, 3) else (k, 0)) := by show _ = _; rw [unhide HC, hfin]
        clear hfin
        by_cases hk0 : k = 0
        · subst hk0
          have hs0 : P18.stands s[0] (!true) = false := hs
          clear hs
          go_wp2_with (go_at_call 68; refine (refplain_any _ _ _).mono ?_; rw [hs0]; rintro e w' ⟨rfl, rfl⟩)
          go_ret2
          rw [unhide HC2]
          exact ⟨rfl, rfl⟩
        · have hk1 : ((k : Int) == 0) = false := by simp; omega
          rw [hk1] at hs
          clear hk0
          go_wp2_with (go_at_call 68; refine (refplain_any _ _ _).mono ?_; rw [hs]; rintro e w' ⟨rfl, rfl⟩)
          go_ret2
          rw [unhide HC2, if_neg (nb hk1)]
          exact ⟨rfl, rfl⟩
      · have HS := hide hs
        go_wp2_with (go_at_call 68; refine (refplain_any _ _ _).mono ?_; rw [hs]; rintro e w' ⟨rfl, rfl⟩)
        go_roundg (gk - 1)
        case measure => omega
        case rel =>
          refine ⟨k + 1, by omega, by omega, by go_num, ?_, rfl⟩
          show _ = _
          rw [unhide HP, unhide HD, unhide HS, show (!(((k + 1 : Nat) : Int) == 0)) = true from by simp; omega, if_pos rfl]
          omega
    · have hk1 : ((k : Int) == 0) = false := by simp; omega
      have hfin : P18.plainLen false s.data.toList = k := by rw [unhide HP, List.drop_of_length_le (by rw [← Lib.size_eq]; omega)]; simp [P18.plainLen]
      have HC2 : Hid (P18.cut s.data.toList = (k, 0)) := by show _ = _; rw [unhide HC, hfin, if_neg (nb hk1)]
      clear hfin
      go_wp2
      go_ret2
      rw [unhide HC2]
      exact ⟨rfl, rfl⟩
end Go.Proofs.YtbnheebblicgkaaDoor
