/- walks of rescriptref18: plain, hex, Plain, Cut, Number -/
import Derived.Test.YthnfiijojamlaaaRows
import Derived.Test.YthnfiijojamlaaaShelf
import Derived.Test.YthnfiijojamlaaaPlainR18
namespace Go.Proofs.Ythnfiijojamlaaa
set_option linter.unusedVariables false
set_option linter.unusedSimpArgs false
open Go.RowKit
set_option maxHeartbeats 800000 in
theorem refplain_any (c : UInt8) (b : Bool) (w : World)  :
    Calls Try.prog 27 #[.int .u8 (c.toNat : Int), .bool b] w fun e w' => e = .returned (.bool (P18.stands c (!b))) ∧ w' = w := by
  have hc := c.toNat_lt
  go_enter Try.func27, Try.ntmps27
  go_wp2_with fail
  all_goals go_ret
  all_goals refine ⟨ret_bool ?_, rfl⟩
  all_goals rw [R18.plain_key]
  all_goals try simp only [beq_iff_eq, beq_eq_false_iff_ne] at *
  all_goals cases b
  all_goals rw [Bool.eq_iff_iff]
  all_goals simp
  all_goals omega
set_option maxHeartbeats 400000 in
theorem hex_any (c : UInt8) (w : World)  :
    Calls Try.prog 23 #[.int .u8 (c.toNat : Int)] w fun e w' => e = .returned (.int .i64 (R18.hex c)) ∧ w' = w := by
  have hc := c.toNat_lt
  go_enter Try.func23, Try.ntmps23
  go_wp2_with fail
  all_goals go_ret
  all_goals refine ⟨ret_int ?_, rfl⟩
  all_goals rw [R18.hex]
  all_goals repeat (first | rw [if_pos (by omega)] | rw [if_neg (by omega)])
set_option maxRecDepth 100000 in
set_option maxHeartbeats 800000 in
theorem refPlain_any (s : ByteArray) (w : World) (h : s.size ≤ maxLen) :
    Calls Try.prog 13 #[.string s] w fun e w' => e = .returned (.bool (P18.plain s.data.toList)) ∧ w' = w := by
  unfold maxLen at h
  rw [R18.plain_eq, ← Lib.size_eq]
  go_enter Try.func13, Try.ntmps13
  go_wp2
  go_loopg [3] s.size (fun g s3 wx => ∃ (k : Nat), k + g = s.size ∧ s3 = .int .i64 (k : Int) ∧ Hid (R18.allPlain false s.data.toList = R18.allPlain (!((k : Int) == 0)) (s.data.toList.drop k)) ∧ wx = w)
  case atStart => exact ⟨0, by omega, rfl, rfl, rfl⟩
  case round =>
    obtain ⟨k, hkg, rfl, HP, rfl⟩ := hrel
    cases gk with
    | zero =>
      obtain rfl : k = s.size := by omega
      have hfin : R18.allPlain false s.data.toList = true := by rw [unhide HP, List.drop_of_length_le (by rw [Lib.size_eq]; omega)]; rfl
      have HF := hide hfin
      clear hfin
      go_wp2
      go_ret
      exact ⟨ret_bool (by rw [unhide HF]; simp), rfl⟩
    | succ g =>
      have hlt : k < s.size := by omega
      have hle : (k : Int) < (s.size : Int) := by omega
      have HG := hide hkg
      clear hkg
      have hd := R18.allPlain_drop (pos := !((k : Int) == 0)) (l := s.data.toList) (k := k) (by simpa using hlt)
      have e0 : s.data.toList[k]'(by simpa using hlt) = s[k] := rfl
      rw [e0] at hd
      have HD := hide hd
      clear hd e0
      cases hs : P18.stands s[k] (!((k : Int) == 0))
      all_goals
        have HS := hide hs
        go_wp2_with (go_at_call 27; refine (refplain_any _ _ _).mono ?_; rw [hs]; rintro e w' ⟨rfl, rfl⟩)
        first
          | (go_ret
             exact ⟨ret_bool (by rw [unhide HP, unhide HD, unhide HS]; rfl), rfl⟩)
          | (go_roundg g
             case measure => omega
             case rel =>
              refine ⟨k + 1, by have := unhide HG; omega, by go_num, ?_, rfl⟩
              show _ = _
              rw [unhide HP, unhide HD, unhide HS, show (!(((k + 1 : Nat) : Int) == 0)) = true from by simp; omega]
              rfl)
set_option maxRecDepth 100000 in
set_option maxHeartbeats 1600000 in
theorem refCut_plain (s : ByteArray) (w : World) (h : s.size ≤ 100000) (hp : 0 < s.size) (hq : s[0].toNat ≠ 34) :
    Calls Try.prog 11 #[.string s] w fun e w' => e = .returned (.tuple #[.int .i64 (P18.cut s.data.toList).1, .int .i64 (P18.cut s.data.toList).2]) ∧ w' = w := by
  have hi0 : (0 : Int) < (s.size : Int) := by omega
  have hne := ne_of_size hp
  have hq' : ((s[0].toNat : Int) != 34) = true := by simp; omega
  have g0 : s.data.toList.getD 0 0 = s[0] := by rw [List.getD_eq_getElem?_getD, Lib.data_getElem? s 0 hp]; rfl
  have hcut : P18.cut s.data.toList = if ((P18.plainLen false s.data.toList : Int) == 0) = true then (0, 3) else (P18.plainLen false s.data.toList, 0) := by
    rw [P18.cut, if_neg (fun h => hq (by have := ((P18.prefix_iff _).1 h).2; rwa [g0] at this))]
  have HC := hide hcut
  clear hcut g0 hq
  go_enter Try.func11, Try.ntmps11
  go_wp2_with fail
  go_loopg [4] s.size (fun g s4 wx => ∃ (k : Nat), k ≤ s.size ∧ s.size ≤ k + g ∧ s4 = .int .i64 (k : Int) ∧ Hid (P18.plainLen false s.data.toList = P18.plainLen (!((k : Int) == 0)) (s.data.toList.drop k) + k) ∧ wx = w)
  case atStart => exact ⟨0, by omega, by omega, rfl, rfl, rfl⟩
  case round =>
    obtain ⟨k, hk, hkg, rfl, HP, rfl⟩ := hrel
    have HK := hide hk
    by_cases hlt : k < s.size
    · have hle : (k : Int) < (s.size : Int) := by omega
      have hd := P18.plainLen_drop (pos := !((k : Int) == 0)) (l := s.data.toList) (k := k) (by simpa using hlt)
      have e0 : s.data.toList[k]'(by simpa using hlt) = s[k] := rfl
      rw [e0] at hd
      have HD := hide hd
      clear hd e0
      cases hs : P18.stands s[k] (!((k : Int) == 0))
      · have hfin : P18.plainLen false s.data.toList = k := by rw [unhide HP, unhide HD, hs]; simp
        have HF := hide hfin
        have HC2 : Hid (P18.cut s.data.toList = if ((k : Int) == 0) = true then (0, 3) else (k, 0)) := by show _ = _; rw [unhide HC, hfin]
        clear hfin
        by_cases hk0 : k = 0
        · subst hk0
          have hs0 : P18.stands s[0] (!true) = false := hs
          clear hs
          go_wp2_with (go_at_call 27; refine (refplain_any _ _ _).mono ?_; rw [hs0]; rintro e w' ⟨rfl, rfl⟩)
          go_ret2
          rw [unhide HC2]
          exact ⟨rfl, rfl⟩
        · have hk1 : ((k : Int) == 0) = false := by simp; omega
          rw [hk1] at hs
          clear hk0
          go_wp2_with (go_at_call 27; refine (refplain_any _ _ _).mono ?_; rw [hs]; rintro e w' ⟨rfl, rfl⟩)
          go_ret2
          rw [unhide HC2, if_neg (nb hk1)]
          exact ⟨rfl, rfl⟩
      · have HS := hide hs
        go_wp2_with (go_at_call 27; refine (refplain_any _ _ _).mono ?_; rw [hs]; rintro e w' ⟨rfl, rfl⟩)
        go_roundg (gk - 1)
        case measure => omega
        case rel =>
          refine ⟨k + 1, by omega, by omega, by go_num, ?_, rfl⟩
          show _ = _
          rw [unhide HP, unhide HD, unhide HS, show (!(((k + 1 : Nat) : Int) == 0)) = true from by simp; omega, if_pos rfl]
          omega
    · have hk1 : ((k : Int) == 0) = false := by simp; omega
      have hfin : P18.plainLen false s.data.toList = k := by rw [unhide HP, List.drop_of_length_le (by rw [← Lib.size_eq]; omega)]; simp [P18.plainLen]
      have HC2 : Hid (P18.cut s.data.toList = (k, 0)) := by show _ = _; rw [unhide HC, hfin, if_neg (nb hk1)]
      clear hfin
      go_wp2
      go_ret2
      rw [unhide HC2]
      exact ⟨rfl, rfl⟩
set_option maxRecDepth 100000 in
set_option maxHeartbeats 800000 in
theorem refNumber_any (s : ByteArray) (w : World) (h : s.size ≤ 100000) :
    Calls Try.prog 21 #[.string s] w fun e w' => e = .returned (.tuple #[.int .i64 (P18.number s.data.toList).1, .int .i64 (P18.number s.data.toList).2]) ∧ w' = w := by
  have hsz := Lib.size_eq s
  by_cases hb : s.size = 0 ∨ 9 < s.size ∨ (1 < s.size ∧ (s.data.toList.getD 0 0).toNat = 48)
  · have hfin : P18.number s.data.toList = (0, 3) := by rw [P18.number, if_pos (by rw [← hsz]; exact hb)]
    rw [hfin]
    clear hfin
    by_cases h0 : (s.size : Int) < 1
    · clear hb hsz
      go_enter Try.func21, Try.ntmps21
      go_wp2
      go_ret2
      exact ⟨rfl, rfl⟩
    · have hpn : 0 < s.size := by omega
      have g0 : s.data.toList.getD 0 0 = s[0] := by rw [List.getD_eq_getElem?_getD, Lib.data_getElem? s 0 (by omega)]; rfl
      rw [g0] at hb
      have hp : (0 : Int) < s.size := by omega
      by_cases h9 : 9 < (s.size : Int)
      · clear hb hsz g0
        go_enter Try.func21, Try.ntmps21
        go_wp2
        go_ret2
        exact ⟨rfl, rfl⟩
      · have h1 : 1 < (s.size : Int) := by omega
        have h48 : ((s[0].toNat : Int) == 48) = true := by simp; omega
        clear hb hsz g0
        go_enter Try.func21, Try.ntmps21
        go_wp2
        go_ret2
        exact ⟨rfl, rfl⟩
  · have hfin : P18.number s.data.toList = P18.numLoop 0 s.data.toList := by rw [P18.number, if_neg (by rw [← hsz]; exact hb)]
    rw [hfin]
    clear hfin
    have h1 : 0 < s.size := by omega
    have h9 : s.size ≤ 9 := by omega
    have h1i : 1 ≤ (s.size : Int) := by omega
    have hi0 : 0 < (s.size : Int) := by omega
    have g0 : s.data.toList.getD 0 0 = s[0] := by rw [List.getD_eq_getElem?_getD, Lib.data_getElem? s 0 (by omega)]; rfl
    rw [g0] at hb
    have h9i : (s.size : Int) ≤ 9 := by omega
    have h48 : ¬ (1 < (s.size : Int)) ∨ ((s[0].toNat : Int) == 48) = false := by
      by_cases h1s : 1 < s.size
      · right; simp; omega
      · left; omega
    clear hb hsz g0
    rcases h48 with h48 | h48
    all_goals
      go_enter Try.func21, Try.ntmps21
      go_wp2_with fail
      all_goals
        go_loopg [4, 5] s.size (fun g s4 s5 wx => ∃ k n : Nat, k + g = s.size ∧ s5 = .int .i64 (k : Int) ∧ s4 = .int .i64 (n : Int) ∧ Hid (P18.numLoop 0 s.data.toList = P18.numLoop n (s.data.toList.drop k)) ∧ n < 10 ^ k ∧ wx = w)
        case atStart => exact ⟨0, 0, by omega, rfl, rfl, rfl, by omega, rfl⟩
        case round =>
          obtain ⟨k, n, hkg, rfl, rfl, HP, hn, rfl⟩ := hrel
          cases gk with
          | zero =>
            obtain rfl : k = s.size := by omega
            have hfin : P18.numLoop 0 s.data.toList = ((n : Int), 0) := by rw [unhide HP, List.drop_of_length_le (by rw [Lib.size_eq]; omega)]; rfl
            have HF := hide hfin
            clear hfin hn
            go_wp2
            go_ret2
            rw [unhide HF]
            exact ⟨rfl, rfl⟩
          | succ g =>
            have hlt : k < s.size := by omega
            have hle : (k : Int) < (s.size : Int) := by omega
            have hn9 : n < 100000000 := Nat.lt_of_lt_of_le hn (P18.pow_le (by omega))
            have hd := P18.numLoop_drop (n := n) (l := s.data.toList) (k := k) (by simpa using hlt)
            have e0 : s.data.toList[k]'(by simpa using hlt) = s[k] := rfl
            rw [e0] at hd
            have HD := hide hd
            have hb8 := s[k].toNat_lt
            have HG := hide hkg
            have HN := hide hn
            clear hd e0 hkg hn
            by_cases hbad : (s[k].toNat : Int) < 48 ∨ 57 < (s[k].toNat : Int)
            · have hfin : P18.numLoop 0 s.data.toList = (0, 3) := by rw [unhide HP, unhide HD, if_pos hbad]
              have HF := hide hfin
              clear hfin
              rcases hbad with hbad | hbad
              all_goals
                go_wp2
                go_ret2
                rw [unhide HF]
                exact ⟨rfl, rfl⟩
            · have h48' : ¬ (s[k].toNat : Int) < 48 := by omega
              have h57 : ¬ 57 < (s[k].toNat : Int) := by omega
              have hr := unhide HD
              rw [if_neg hbad] at hr
              have HR := hide hr
              clear hr hbad
              go_wp2
              go_roundg g
              case measure => omega
              case rel =>
                refine ⟨k + 1, n * 10 + (s[k].toNat - 48), by have := unhide HG; omega, by go_num, by go_num, ?_, ?_, rfl⟩
                · show _ = _
                  rw [unhide HP, unhide HR]
                · have := unhide HN
                  rw [Nat.pow_succ]; omega
end Go.Proofs.Ythnfiijojamlaaa
