/- walks of rescriptref18: plain, hex, Plain, Cut, Number; walks of rescriptref18: Cut; walks of rescriptref18: Quote, Put; The plain law: a text is read as it was put, and cut off whole. -/
import Derived.Test.YtnjokdbblmlhhaaGreatDoorRows
import Derived.Test.YtnjokdbblmlhhaaGreatDoorShelf
import Derived.Test.YtnjokdbblmlhhaaGreatDoorGP
import Derived.Test.YtnjokdbblmlhhaaGreatDoorGA
namespace Go.Proofs.YtnjokdbblmlhhaaGreatDoor
set_option linter.unusedVariables false
set_option linter.unusedSimpArgs false
open Go.RowKit
set_option maxHeartbeats 800000 in
theorem refplain_any (c : UInt8) (b : Bool) (w : World)  :
    Calls Tryz.prog 144 #[.int .u8 (c.toNat : Int), .bool b] w fun e w' => e = .returned (.bool (P18.stands c (!b))) ∧ w' = w := by
  have hc := c.toNat_lt
  go_enter Tryz.func144, Tryz.ntmps144
  go_wp2_with fail
  all_goals go_ret
  all_goals refine ⟨ret_bool ?_, rfl⟩
  all_goals rw [R18.plain_key]
  all_goals try simp only [beq_iff_eq, beq_eq_false_iff_ne] at *
  all_goals cases b
  all_goals rw [Bool.eq_iff_iff]
  all_goals simp
  all_goals omega
set_option maxHeartbeats 400000 in
theorem hex_any (c : UInt8) (w : World)  :
    Calls Tryz.prog 145 #[.int .u8 (c.toNat : Int)] w fun e w' => e = .returned (.int .i64 (R18.hex c)) ∧ w' = w := by
  have hc := c.toNat_lt
  go_enter Tryz.func145, Tryz.ntmps145
  go_wp2_with fail
  all_goals go_ret
  all_goals refine ⟨ret_int ?_, rfl⟩
  all_goals rw [R18.hex]
  all_goals repeat (first | rw [if_pos (by omega)] | rw [if_neg (by omega)])
set_option maxRecDepth 100000 in
set_option maxHeartbeats 800000 in
theorem refPlain_any (s : ByteArray) (w : World) (h : s.size ≤ maxLen) :
    Calls Tryz.prog 121 #[.string s] w fun e w' => e = .returned (.bool (P18.plain s.data.toList)) ∧ w' = w := by
  unfold maxLen at h
  rw [R18.plain_eq, ← Lib.size_eq]
  go_enter Tryz.func121, Tryz.ntmps121
  go_wp2
  go_loopg [3] s.size (fun g s3 wx => ∃ (k : Nat), k + g = s.size ∧ s3 = .int .i64 (k : Int) ∧ Hid (R18.allPlain false s.data.toList = R18.allPlain (!((k : Int) == 0)) (s.data.toList.drop k)) ∧ wx = w)
  case atStart => exact ⟨0, by omega, rfl, rfl, rfl⟩
  case round =>
    obtain ⟨k, hkg, rfl, HP, rfl⟩ := hrel
    cases gk with
    | zero =>
      obtain rfl : k = s.size := by omega
      have hfin : R18.allPlain false s.data.toList = true := by rw [unhide HP, List.drop_of_length_le (by rw [Lib.size_eq]; omega)]; rfl
      have HF := hide hfin
      clear hfin
      go_wp2
      go_ret
      exact ⟨ret_bool (by rw [unhide HF]; simp), rfl⟩
    | succ g =>
      have hlt : k < s.size := by omega
      have hle : (k : Int) < (s.size : Int) := by omega
      have HG := hide hkg
      clear hkg
      have hd := R18.allPlain_drop (pos := !((k : Int) == 0)) (l := s.data.toList) (k := k) (by simpa using hlt)
      have e0 : s.data.toList[k]'(by simpa using hlt) = s[k] := rfl
      rw [e0] at hd
      have HD := hide hd
      clear hd e0
      cases hs : P18.stands s[k] (!((k : Int) == 0))
      all_goals
        have HS := hide hs
        go_wp2_with (go_at_call 144; refine (refplain_any _ _ _).mono ?_; rw [hs]; rintro e w' ⟨rfl, rfl⟩)
        first
          | (go_ret
             exact ⟨ret_bool (by rw [unhide HP, unhide HD, unhide HS]; rfl), rfl⟩)
          | (go_roundg g
             case measure => omega
             case rel =>
              refine ⟨k + 1, by have := unhide HG; omega, by go_num, ?_, rfl⟩
              show _ = _
              rw [unhide HP, unhide HD, unhide HS, show (!(((k + 1 : Nat) : Int) == 0)) = true from by simp; omega]
              rfl)
set_option maxRecDepth 100000 in
set_option maxHeartbeats 1600000 in
theorem refCut_plain (s : ByteArray) (w : World) (h : s.size ≤ 100000) (hp : 0 < s.size) (hq : s[0].toNat ≠ 34) :
    Calls Tryz.prog 116 #[.string s] w fun e w' => e = .returned (.tuple #[.int .i64 (P18.cut s.data.toList).1, .int .i64 (P18.cut s.data.toList).2]) ∧ w' = w := by
  have hi0 : (0 : Int) < (s.size : Int) := by omega
  have hne := ne_of_size hp
  have hq' : ((s[0].toNat : Int) != 34) = true := by simp; omega
  have g0 : s.data.toList.getD 0 0 = s[0] := by rw [List.getD_eq_getElem?_getD, Lib.data_getElem? s 0 hp]; rfl
  have hcut : P18.cut s.data.toList = if ((P18.plainLen false s.data.toList : Int) == 0) = true then (0, 3) else (P18.plainLen false s.data.toList, 0) := by
    rw [P18.cut, if_neg (fun h => hq (by have := ((P18.prefix_iff _).1 h).2; rwa [g0] at this))]
  have HC := hide hcut
  clear hcut g0 hq
  go_enter Tryz.func116, Tryz.ntmps116
  go_wp2_with fail
  go_loopg [4] s.size (fun g s4 wx => ∃ (k : Nat), k ≤ s.size ∧ s.size ≤ k + g ∧ s4 = .int .i64 (k : Int) ∧ Hid (P18.plainLen false s.data.toList = P18.plainLen (!((k : Int) == 0)) (s.data.toList.drop k) + k) ∧ wx = w)
  case atStart => exact ⟨0, by omega, by omega, rfl, rfl, rfl⟩
  case round =>
    obtain ⟨k, hk, hkg, rfl, HP, rfl⟩ := hrel
    have HK := hide hk
    by_cases hlt : k < s.size
    · have hle : (k : Int) < (s.size : Int) := by omega
      have hd := P18.plainLen_drop (pos := !((k : Int) == 0)) (l := s.data.toList) (k := k) (by simpa using hlt)
      have e0 : s.data.toList[k]'(by simpa using hlt) = s[k] := rfl
      rw [e0] at hd
      have HD := hide hd
      clear hd e0
      cases hs : P18.stands s[k] (!((k : Int) == 0))
      · have hfin : P18.plainLen false s.data.toList = k := by rw [unhide HP, unhide HD, hs]; simp
        have HF := hide hfin
        have HC2 : Hid (P18.cut s.data.toList = if ((k : Int) == 0) = true then (0, 3) else (k, 0)) := by show _ = _; rw [unhide HC, hfin]
        clear hfin
        by_cases hk0 : k = 0
        · subst hk0
          have hs0 : P18.stands s[0] (!true) = false := hs
          clear hs
          go_wp2_with (go_at_call 144; refine (refplain_any _ _ _).mono ?_; rw [hs0]; rintro e w' ⟨rfl, rfl⟩)
          go_ret2
          rw [unhide HC2]
          exact ⟨rfl, rfl⟩
        · have hk1 : ((k : Int) == 0) = false := by simp; omega
          rw [hk1] at hs
          clear hk0
          go_wp2_with (go_at_call 144; refine (refplain_any _ _ _).mono ?_; rw [hs]; rintro e w' ⟨rfl, rfl⟩)
          go_ret2
          rw [unhide HC2, if_neg (nb hk1)]
          exact ⟨rfl, rfl⟩
      · have HS := hide hs
        go_wp2_with (go_at_call 144; refine (refplain_any _ _ _).mono ?_; rw [hs]; rintro e w' ⟨rfl, rfl⟩)
        go_roundg (gk - 1)
        case measure => omega
        case rel =>
          refine ⟨k + 1, by omega, by omega, by go_num, ?_, rfl⟩
          show _ = _
          rw [unhide HP, unhide HD, unhide HS, show (!(((k + 1 : Nat) : Int) == 0)) = true from by simp; omega, if_pos rfl]
          omega
    · have hk1 : ((k : Int) == 0) = false := by simp; omega
      have hfin : P18.plainLen false s.data.toList = k := by rw [unhide HP, List.drop_of_length_le (by rw [← Lib.size_eq]; omega)]; simp [P18.plainLen]
      have HC2 : Hid (P18.cut s.data.toList = (k, 0)) := by show _ = _; rw [unhide HC, hfin, if_neg (nb hk1)]
      clear hfin
      go_wp2
      go_ret2
      rw [unhide HC2]
      exact ⟨rfl, rfl⟩
set_option maxRecDepth 100000 in
set_option maxHeartbeats 800000 in
theorem refNumber_all (s : ByteArray) (w : World) (h : s.size ≤ 9223372036854775807) :
    Calls Tryz.prog 25 #[.string s] w fun e w' => e = .returned (.tuple #[.int .i64 (P18.number s.data.toList).1, .int .i64 (P18.number s.data.toList).2]) ∧ w' = w := by
  have hsz := Lib.size_eq s
  by_cases hb : s.size = 0 ∨ 9 < s.size ∨ (1 < s.size ∧ (s.data.toList.getD 0 0).toNat = 48)
  · have hfin : P18.number s.data.toList = (0, 3) := by rw [P18.number, if_pos (by rw [← hsz]; exact hb)]
    rw [hfin]
    clear hfin
    by_cases h0 : (s.size : Int) < 1
    · clear hb hsz
      go_enter Tryz.func25, Tryz.ntmps25
      go_wp2
      go_ret2
      exact ⟨rfl, rfl⟩
    · have hpn : 0 < s.size := by omega
      have g0 : s.data.toList.getD 0 0 = s[0] := by rw [List.getD_eq_getElem?_getD, Lib.data_getElem? s 0 (by omega)]; rfl
      rw [g0] at hb
      have hp : (0 : Int) < s.size := by omega
      by_cases h9 : 9 < (s.size : Int)
      · clear hb hsz g0
        go_enter Tryz.func25, Tryz.ntmps25
        go_wp2
        go_ret2
        exact ⟨rfl, rfl⟩
      · have h1 : 1 < (s.size : Int) := by omega
        have h48 : ((s[0].toNat : Int) == 48) = true := by simp; omega
        clear hb hsz g0
        go_enter Tryz.func25, Tryz.ntmps25
        go_wp2
        go_ret2
        exact ⟨rfl, rfl⟩
  · have hfin : P18.number s.data.toList = P18.numLoop 0 s.data.toList := by rw [P18.number, if_neg (by rw [← hsz]; exact hb)]
    rw [hfin]
    clear hfin
    have h1 : 0 < s.size := by omega
    have h9 : s.size ≤ 9 := by omega
    have h1i : 1 ≤ (s.size : Int) := by omega
    have hi0 : 0 < (s.size : Int) := by omega
    have g0 : s.data.toList.getD 0 0 = s[0] := by rw [List.getD_eq_getElem?_getD, Lib.data_getElem? s 0 (by omega)]; rfl
    rw [g0] at hb
    have h9i : (s.size : Int) ≤ 9 := by omega
    have h48 : ¬ (1 < (s.size : Int)) ∨ ((s[0].toNat : Int) == 48) = false := by
      by_cases h1s : 1 < s.size
      · right; simp; omega
      · left; omega
    clear hb hsz g0
    rcases h48 with h48 | h48
    all_goals
      go_enter Tryz.func25, Tryz.ntmps25
      go_wp2_with fail
      all_goals
        go_loopg [4, 5] s.size (fun g s4 s5 wx => ∃ k n : Nat, k + g = s.size ∧ s5 = .int .i64 (k : Int) ∧ s4 = .int .i64 (n : Int) ∧ Hid (P18.numLoop 0 s.data.toList = P18.numLoop n (s.data.toList.drop k)) ∧ n < 10 ^ k ∧ wx = w)
        case atStart => exact ⟨0, 0, by omega, rfl, rfl, rfl, by omega, rfl⟩
        case round =>
          obtain ⟨k, n, hkg, rfl, rfl, HP, hn, rfl⟩ := hrel
          cases gk with
          | zero =>
            obtain rfl : k = s.size := by omega
            have hfin : P18.numLoop 0 s.data.toList = ((n : Int), 0) := by rw [unhide HP, List.drop_of_length_le (by rw [Lib.size_eq]; omega)]; rfl
            have HF := hide hfin
            clear hfin hn
            go_wp2
            go_ret2
            rw [unhide HF]
            exact ⟨rfl, rfl⟩
          | succ g =>
            have hlt : k < s.size := by omega
            have hle : (k : Int) < (s.size : Int) := by omega
            have hn9 : n < 100000000 := Nat.lt_of_lt_of_le hn (P18.pow_le (by omega))
            have hd := P18.numLoop_drop (n := n) (l := s.data.toList) (k := k) (by simpa using hlt)
            have e0 : s.data.toList[k]'(by simpa using hlt) = s[k] := rfl
            rw [e0] at hd
            have HD := hide hd
            have hb8 := s[k].toNat_lt
            have HG := hide hkg
            have HN := hide hn
            clear hd e0 hkg hn
            by_cases hbad : (s[k].toNat : Int) < 48 ∨ 57 < (s[k].toNat : Int)
            · have hfin : P18.numLoop 0 s.data.toList = (0, 3) := by rw [unhide HP, unhide HD, if_pos hbad]
              have HF := hide hfin
              clear hfin
              rcases hbad with hbad | hbad
              all_goals
                go_wp2
                go_ret2
                rw [unhide HF]
                exact ⟨rfl, rfl⟩
            · have h48' : ¬ (s[k].toNat : Int) < 48 := by omega
              have h57 : ¬ 57 < (s[k].toNat : Int) := by omega
              have hr := unhide HD
              rw [if_neg hbad] at hr
              have HR := hide hr
              clear hr hbad
              go_wp2
              go_roundg g
              case measure => omega
              case rel =>
                refine ⟨k + 1, n * 10 + (s[k].toNat - 48), by have := unhide HG; omega, by go_num, by go_num, ?_, ?_, rfl⟩
                · show _ = _
                  rw [unhide HP, unhide HR]
                · have := unhide HN
                  rw [Nat.pow_succ]; omega
theorem refNumber_any (s : ByteArray) (w : World) (h : s.size ≤ 100000) :
    Calls Tryz.prog 25 #[.string s] w fun e w' => e = .returned (.tuple #[.int .i64 (P18.number s.data.toList).1, .int .i64 (P18.number s.data.toList).2]) ∧ w' = w := refNumber_all s w (by omega)
end Go.Proofs.YtnjokdbblmlhhaaGreatDoor
namespace Go.Proofs.YtnjokdbblmlhhaaGreatDoor
set_option linter.unusedVariables false
set_option linter.unusedSimpArgs false
open Go.RowKit
set_option maxRecDepth 100000 in
set_option maxHeartbeats 1600000 in
theorem refCut_quoted (s : ByteArray) (w : World) (h : s.size ≤ 100000) (hp : 0 < s.size) (hq : s[0].toNat = 34) :
    Calls Tryz.prog 116 #[.string s] w fun e w' => e = .returned (.tuple #[.int .i64 (P18.cut s.data.toList).1, .int .i64 (P18.cut s.data.toList).2]) ∧ w' = w := by
  have hi0 : (0 : Int) < (s.size : Int) := by omega
  have hne := ne_of_size hp
  have hq' : ((s[0].toNat : Int) != 34) = false := by simp; omega
  have g0 : s.data.toList.getD 0 0 = s[0] := by rw [List.getD_eq_getElem?_getD, Lib.data_getElem? s 0 hp]; rfl
  have hsz := Lib.size_eq s
  have hcut := R18.cut_quoted (l := s.data.toList) ((P18.prefix_iff _).2 ⟨by omega, by rw [g0]; exact hq⟩)
  rw [R18.cutQ_0 (by omega)] at hcut
  have HC := hide hcut
  have HZ := hide hsz
  clear hcut g0 hq hsz
  go_enter Tryz.func116, Tryz.ntmps116
  go_wp2_with fail
  go_loopg [5] (s.size + 1) (fun g s5 wx => ∃ (k : Nat), 1 ≤ k ∧ k ≤ s.size + 1 ∧ s.size + 1 ≤ k + g ∧ s5 = .int .i64 (k : Int) ∧ Hid (P18.cutQ 1 false (s.data.toList.drop 1) = P18.cutQ k false (s.data.toList.drop k)) ∧ wx = w)
  case atStart => exact ⟨1, by omega, by omega, by omega, rfl, rfl, rfl⟩
  case round =>
    obtain ⟨k, hk1, hk, hkg, rfl, HP, rfl⟩ := hrel
    by_cases hlt : k < s.size
    · have hle : (k : Int) < (s.size : Int) := by omega
      have hll : k < s.data.toList.length := by rw [← unhide HZ]; exact hlt
      have e0 : s.data.toList[k]'hll = s[k] := rfl
      by_cases h34 : s[k].toNat = 34
      · have hfin : P18.cut s.data.toList = (k + 1, 0) := by rw [unhide HC, unhide HP, R18.cutQ_quote hll (by omega) (by rw [e0]; exact h34)]
        have HF := hide hfin
        have h34' : ((s[k].toNat : Int) != 34) = false := by simp; omega
        clear hfin e0 h34
        go_wp2_with fail
        go_ret2
        rw [unhide HF]
        exact ⟨ret_tup2 rfl rfl, rfl⟩
      · have h34' : ((s[k].toNat : Int) != 34) = true := by simp; omega
        by_cases h92 : s[k].toNat = 92
        · have hst := R18.cutQ_esc hll (by omega) (by rw [e0]; exact h92)
          have HS := hide hst
          have h92' : ((s[k].toNat : Int) == 92) = true := by simp; omega
          clear hst e0 h34 h92
          go_wp2_with fail
          go_roundg (gk - 2)
          case measure => omega
          case rel => exact ⟨k + 2, by omega, by omega, by omega, by go_num, by show _ = _; rw [unhide HP, unhide HS], rfl⟩
        · have hst := R18.cutQ_else hll (by omega) (by rw [e0]; exact h34) (by rw [e0]; exact h92)
          have HS := hide hst
          have h92' : ((s[k].toNat : Int) == 92) = false := by simp; omega
          clear hst e0 h34 h92
          go_wp2_with fail
          go_roundg (gk - 1)
          case measure => omega
          case rel => exact ⟨k + 1, by omega, by omega, by omega, by go_num, by show _ = _; rw [unhide HP, unhide HS], rfl⟩
    · have hfin : P18.cut s.data.toList = (0, 3) := by rw [unhide HC, unhide HP, R18.cutQ_past (by rw [← unhide HZ]; omega)]
      have HF := hide hfin
      clear hfin
      go_wp2_with fail
      go_ret2
      rw [unhide HF]
      exact ⟨ret_tup2 rfl rfl, rfl⟩
set_option maxRecDepth 100000 in
set_option maxHeartbeats 400000 in
theorem refCut_any (s : ByteArray) (w : World) (h : s.size ≤ 100000) :
    Calls Tryz.prog 116 #[.string s] w fun e w' => e = .returned (.tuple #[.int .i64 (P18.cut s.data.toList).1, .int .i64 (P18.cut s.data.toList).2]) ∧ w' = w := by
  by_cases hp : 0 < s.size
  · by_cases hq : s[0].toNat = 34
    · exact refCut_quoted s w h hp hq
    · exact refCut_plain s w h hp hq
  · have hl : s.data.toList = [] := List.eq_nil_of_length_eq_zero (by rw [← Lib.size_eq]; omega)
    have hne : s.toList.isEmpty = true := by rw [Lib.toList_data, hl]; rfl
    rw [hl]
    clear hl
    go_enter Tryz.func116, Tryz.ntmps116
    go_wp2_with fail
    go_ret2
    exact ⟨rfl, rfl⟩
end Go.Proofs.YtnjokdbblmlhhaaGreatDoor
namespace Go.Proofs.YtnjokdbblmlhhaaGreatDoor
set_option linter.unusedVariables false
set_option linter.unusedSimpArgs false
open Go.RowKit
set_option maxRecDepth 100000 in
set_option maxHeartbeats 1600000 in
theorem refQuote_any (s : ByteArray) (w : World) (h : s.size ≤ 100000) :
    Calls Tryz.prog 122 #[.string s] w fun e w' => ∃ b : ByteArray, e = .returned (.string b) ∧ b.data.toList = P18.quote s.data.toList ∧ Below w.heap.size w w' := by
  go_enter Tryz.func122, Tryz.ntmps122
  go_wp2
  go_loopg [3, 4] s.size (fun g s3 s4 wx => ∃ (k n : Nat) (b : ByteArray), k + g = s.size ∧ s4 = .int .i64 (k : Int) ∧ s3 = .string b ∧ Hid (P18.quote s.data.toList = b.data.toList ++ ((s.data.toList.drop k).flatMap P18.quoteOne ++ [34])) ∧ b.size ≤ 1 + 5 * k ∧ wx = w.drewN n)
  case atStart => exact ⟨0, 0, _, by omega, rfl, rfl, by show _ = _; rfl, by decide, rfl⟩
  case round =>
    obtain ⟨k, n, b, hkg, rfl, rfl, HP, hol, hw⟩ := hrel
    have HW := hide hw
    clear hw
    cases gk with
    | zero =>
      obtain rfl : k = s.size := by omega
      go_wp2
      go_ret
      refine ⟨_, rfl, ?_, ?_⟩
      · rw [unhide HP, List.drop_of_length_le (by rw [← Lib.size_eq]; omega)]; simp
      · rw [unhide HW]; exact below_drewN (Below.refl _ _)
    | succ g =>
      have hlt : k < s.size := by omega
      have hle : (k : Int) < (s.size : Int) := by omega
      have hq := P18.quote_drop (l := s.data.toList) (k := k) (by simpa using hlt)
      have e0 : s.data.toList[k]'(by simpa using hlt) = s[k] := rfl
      rw [e0] at hq
      have hb8 := s[k].toNat_lt
      have hql := P18.quoteOne_len s[k]
      have hqe := R18.quoteOne_ends s[k]
      have HE := hide hqe
      have HL := hide hql
      have HQ := hide hq
      have HG := hide hkg
      clear hkg hq e0 hqe hql
      go_wp2_with fail
      all_goals try go_quiet (fail)
      all_goals try go_wp2_with fail
      all_goals
        simp only [beq_iff_eq, beq_eq_false_iff_ne] at *
        have he := unhide HE
        repeat (first | rw [if_pos (by omega)] at he | rw [if_neg (by omega)] at he)
        go_roundg g
        case measure => omega
        case rel =>
          refine ⟨k + 1, _, _, by have := unhide HG; omega, by go_num, rfl, ?_, ?_, by first | (rw [unhide HW, World.drewN_drewN]) | exact unhide HW⟩
          · show _ = _
            rw [unhide HP, unhide HQ, ← he]
            simp only [R18.append_data, R18.one_byte s k hlt, List.append_assoc, List.cons_append, List.nil_append, P18.hexes]
          · have hl := unhide HL
            rw [← he] at hl
            rw [Lib.size_eq] at hol ⊢
            simp only [R18.append_data, R18.one_byte s k hlt, List.length_append, List.length_cons, List.length_nil, P18.hexes] at hl ⊢
            omega
set_option maxRecDepth 100000 in
set_option maxHeartbeats 400000 in
theorem refPut_any (s : ByteArray) (w : World) (h : s.size ≤ 100000) :
    Calls Tryz.prog 79 #[.string s] w fun e w' => ∃ b : ByteArray, e = .returned (.string b) ∧ b.data.toList = P18.put s.data.toList ∧ Below w.heap.size w w' := by
  have hm : s.size ≤ maxLen := by unfold maxLen; omega
  cases hp : P18.plain s.data.toList
  · have hfin : P18.put s.data.toList = P18.quote s.data.toList := by rw [P18.put, hp]; rfl
    have HF := hide hfin
    clear hfin
    go_enter Tryz.func79, Tryz.ntmps79
    go_wp2_with (first
      | (go_at_call 121; refine (refPlain_any _ _ hm).mono ?_; rw [hp]; rintro e w' ⟨rfl, rfl⟩)
      | (go_at_call 122; refine (refQuote_any _ _ h).mono ?_; rintro e w' ⟨b, rfl, hq, hb⟩; have HQ := hide hq; clear hq))
    go_ret
    exact ⟨b, rfl, by rw [unhide HF, unhide HQ], hb⟩
  · have hfin : P18.put s.data.toList = s.data.toList := by rw [P18.put, hp]; rfl
    have HF := hide hfin
    clear hfin
    go_enter Tryz.func79, Tryz.ntmps79
    go_wp2_with (first
      | (go_at_call 121; refine (refPlain_any _ _ hm).mono ?_; rw [hp]; rintro e w' ⟨rfl, rfl⟩))
    go_ret
    exact ⟨s, rfl, by rw [unhide HF], Below.refl _ _⟩
end Go.Proofs.YtnjokdbblmlhhaaGreatDoor
namespace Go.Proofs.YtnjokdbblmlhhaaGreatDoor
set_option linter.unusedVariables false
set_option linter.unusedSimpArgs false
namespace R18
open P18
/-- the forms of a byte within quotes -/
def quoteForm (n : Nat) : Bool :=
  (quoteOne (UInt8.ofNat n) == [UInt8.ofNat n] && decide (32 ≤ n) && n != 127 && n != 92 && n != 34) ||
  (quoteOne (UInt8.ofNat n) == [92, 34] && n == 34) || (quoteOne (UInt8.ofNat n) == [92, 92] && n == 92) || (quoteOne (UInt8.ofNat n) == [92, 110] && n == 10) || (quoteOne (UInt8.ofNat n) == [92, 116] && n == 9) ||
  (quoteOne (UInt8.ofNat n) == [92, 120, P18.hexDigit (n / 16), P18.hexDigit (n % 16)] && hex (P18.hexDigit (n / 16)) == ((n / 16 : Nat) : Int) && hex (P18.hexDigit (n % 16)) == ((n % 16 : Nat) : Int) && decide (n < 128))
theorem quoteForm_all : ∀ n, n < 256 → quoteForm n = true := by decide +kernel
theorem quoteOne_cases (c : UInt8) : (quoteOne c = [c] ∧ 32 ≤ c.toNat ∧ c.toNat ≠ 127 ∧ c.toNat ≠ 92 ∧ c.toNat ≠ 34) ∨
    (quoteOne c = [92, 34] ∧ c = 34) ∨ (quoteOne c = [92, 92] ∧ c = 92) ∨ (quoteOne c = [92, 110] ∧ c = 10) ∨ (quoteOne c = [92, 116] ∧ c = 9) ∨
    (quoteOne c = [92, 120, P18.hexDigit (c.toNat / 16), P18.hexDigit (c.toNat % 16)] ∧ hex (P18.hexDigit (c.toNat / 16)) = ((c.toNat / 16 : Nat) : Int) ∧ hex (P18.hexDigit (c.toNat % 16)) = ((c.toNat % 16 : Nat) : Int) ∧ c.toNat < 128) := by
  have h := quoteForm_all c.toNat c.toNat_lt
  unfold quoteForm at h
  simp only [UInt8.ofNat_toNat, Bool.or_eq_true, Bool.and_eq_true, beq_iff_eq, bne_iff_ne, decide_eq_true_eq] at h
  rcases h with ((((h | h) | h) | h) | h) | h
  · exact .inl ⟨h.1.1.1.1, h.1.1.1.2, h.1.1.2, h.1.2, h.2⟩
  · exact .inr (.inl ⟨h.1, UInt8.toNat_inj.1 h.2⟩)
  · exact .inr (.inr (.inl ⟨h.1, UInt8.toNat_inj.1 h.2⟩))
  · exact .inr (.inr (.inr (.inl ⟨h.1, UInt8.toNat_inj.1 h.2⟩)))
  · exact .inr (.inr (.inr (.inr (.inl ⟨h.1, UInt8.toNat_inj.1 h.2⟩))))
  · exact .inr (.inr (.inr (.inr (.inr ⟨h.1.1.1, h.1.1.2, h.1.2, h.2⟩))))
theorem within_quoteOne (c : UInt8) (r : List UInt8) : within (quoteOne c ++ r) = (within r).map (c :: ·) := by
  rcases quoteOne_cases c with ⟨h, h1, h2, h3, h4⟩ | ⟨h, rfl⟩ | ⟨h, rfl⟩ | ⟨h, rfl⟩ | ⟨h, rfl⟩ | ⟨h, h1, h2, h3⟩
  · rw [h]; exact within_self (by simp; omega) h3
  · rw [h]; exact within_esc (c := 92) (r := 34 :: r) (v := 34) (n := 1) rfl (behind_34 r) (by omega)
  · rw [h]; exact within_esc (c := 92) (r := 92 :: r) (v := 92) (n := 1) rfl (behind_92 r) (by omega)
  · rw [h]; exact within_esc (c := 92) (r := 110 :: r) (v := 10) (n := 1) rfl (behind_110 r) (by omega)
  · rw [h]; exact within_esc (c := 92) (r := 116 :: r) (v := 9) (n := 1) rfl (behind_116 r) (by omega)
  · rw [h]
    have hb := behind_x (P18.hexDigit (c.toNat / 16)) (P18.hexDigit (c.toNat % 16)) r
    rw [h1, h2, if_neg (by omega)] at hb
    have hv : 16 * ((c.toNat / 16 : Nat) : Int) + ((c.toNat % 16 : Nat) : Int) = ((c.toNat : Nat) : Int) := by omega
    rw [hv] at hb
    have := within_esc (c := 92) (r := 120 :: P18.hexDigit (c.toNat / 16) :: P18.hexDigit (c.toNat % 16) :: r) (v := c.toNat) (n := 3) rfl hb (by omega)
    simpa using this
theorem within_quotes (l : List UInt8) : within (l.flatMap quoteOne) = some l := by
  induction l with
  | nil => exact within_nil
  | cons c r ih => rw [List.flatMap_cons, within_quoteOne, ih]; rfl
theorem cutQ_cons {i : Nat} {c : UInt8} {r : List UInt8} {t : Bool} (h0 : 0 < i) : cutQ i t (c :: r) = if t = true then cutQ (i + 1) false r else if c.toNat = 92 then cutQ (i + 1) true r else if c.toNat = 34 then some (i + 1) else cutQ (i + 1) t r := by
  rw [cutQ, if_neg (by simp; omega)]
  by_cases ht : t = true
  · rw [if_pos ht, if_pos ht]
  · rw [if_neg ht, if_neg ht]
    by_cases h1 : c.toNat = 92
    · rw [if_pos h1, if_pos (by simp; omega)]
    · rw [if_neg h1, if_neg (by simp; omega)]
      by_cases h2 : c.toNat = 34
      · rw [if_pos h2, if_pos (by simp; omega)]
      · rw [if_neg h2, if_neg (by simp; omega)]
theorem hexDigit_plain0 : ∀ n, n < 16 → (P18.hexDigit n).toNat ≠ 92 ∧ (P18.hexDigit n).toNat ≠ 34 := by decide +kernel
theorem cutQ_esc1 {i : Nat} {d : UInt8} {r : List UInt8} (h0 : 0 < i) : cutQ i false (92 :: d :: r) = cutQ (i + 2) false r := by
  rw [cutQ_cons h0, if_neg (by simp), if_pos (by rfl), cutQ_cons (by omega), if_pos (by rfl)]
theorem cutQ_quoteOne {i : Nat} (h0 : 0 < i) (c : UInt8) (r : List UInt8) : cutQ i false (quoteOne c ++ r) = cutQ (i + (quoteOne c).length) false r := by
  rcases quoteOne_cases c with ⟨h, h1, h2, h3, h4⟩ | ⟨h, rfl⟩ | ⟨h, rfl⟩ | ⟨h, rfl⟩ | ⟨h, rfl⟩ | ⟨h, h1, h2, h3⟩
  · rw [h]
    show cutQ i false (c :: r) = _
    rw [cutQ_cons h0, if_neg (by simp), if_neg h3, if_neg h4]; rfl
  · rw [h]; exact cutQ_esc1 h0
  · rw [h]; exact cutQ_esc1 h0
  · rw [h]; exact cutQ_esc1 h0
  · rw [h]; exact cutQ_esc1 h0
  · rw [h]
    show cutQ i false (92 :: 120 :: P18.hexDigit (c.toNat / 16) :: P18.hexDigit (c.toNat % 16) :: r) = _
    have k1 := hexDigit_plain0 (c.toNat / 16) (by omega)
    have k2 := hexDigit_plain0 (c.toNat % 16) (by omega)
    rw [cutQ_esc1 h0, cutQ_cons (by omega), if_neg (by simp), if_neg k1.1, if_neg k1.2, cutQ_cons (by omega), if_neg (by simp), if_neg k2.1, if_neg k2.2]
    rfl
theorem cutQ_quotes (l : List UInt8) (r : List UInt8) : ∀ {i : Nat}, 0 < i → cutQ i false (l.flatMap quoteOne ++ 34 :: r) = some (i + (l.flatMap quoteOne).length + 1) := by
  induction l with
  | nil =>
    intro i h0
    show cutQ i false (34 :: r) = _
    rw [cutQ_cons h0, if_neg (by simp), if_neg (by decide), if_pos (by rfl)]; rfl
  | cons c t ih =>
    intro i h0
    rw [List.flatMap_cons, List.append_assoc, cutQ_quoteOne h0, ih (by omega)]
    congr 1; simp; omega
theorem cut_quote (l r : List UInt8) : cut (quote l ++ r) = ((quote l).length, 0) := by
  have hp : Lib.hasPrefix (quote l ++ r) [34] = true := rfl
  have e : quote l ++ r = 34 :: (l.flatMap quoteOne ++ 34 :: r) := by simp [quote]
  rw [cut_quoted hp, cutQ_0 (by rw [e]; simp), e, List.drop_one, List.tail_cons, cutQ_quotes l r (by omega)]
  simp [quote]; omega
theorem body_quote (l : List UInt8) : ((quote l).drop 1).take ((quote l).length - 2) = l.flatMap quoteOne := by
  unfold quote
  rw [List.drop_one, List.tail_cons]
  rw [List.take_append_of_le_length (by simp), List.take_of_length_le (by simp)]
theorem read_quote (l : List UInt8) : P18.read (quote l) = chk l := by
  have hc := cut_quote l []
  rw [List.append_nil] at hc
  rw [P18.read, hc]
  exact readF_some (by rfl) (by rw [body_quote, within_quotes])
theorem read_put (l : List UInt8) : P18.read (P18.put l) = chk l := by
  unfold P18.put
  cases h : P18.plain l
  · rw [if_neg (by simp)]; exact read_quote l
  · rw [if_pos rfl, read_plain h]
    unfold chk
    rw [check_plain h]
    split <;> simp
theorem plainLen_append {l r : List UInt8} : ∀ {b : Bool}, plainLen b l = l.length → stands 32 true = false → plainLen b (l ++ 32 :: r) = l.length ∨ l = [] := by
  induction l with
  | nil => intro b _ _; exact .inr rfl
  | cons c t ih =>
    intro b h h32
    left
    simp only [plainLen] at h
    split at h
    · rename_i hs
      simp only [List.cons_append, plainLen, hs, if_true, List.length_cons]
      rcases ih (b := true) (by simpa using h) h32 with h' | rfl
      · rw [h']
      · simp [plainLen, h32]
    · simp at h
theorem cut_put (l r : List UInt8) : cut (P18.put l ++ 32 :: r) = ((P18.put l).length, 0) := by
  unfold P18.put
  cases h : P18.plain l
  · rw [if_neg (by simp)]; exact cut_quote l _
  · rw [if_pos rfl]
    obtain ⟨h1, h2⟩ := plain_head h
    have hne : l ≠ [] := by rintro rfl; simp [P18.plain] at h
    have hpl : plainLen false l = l.length := by
      unfold P18.plain at h
      simp only [Bool.and_eq_true, beq_iff_eq] at h
      omega
    have hp : Lib.hasPrefix (l ++ 32 :: r) [34] = false := by
      cases l with
      | nil => exact absurd rfl hne
      | cons c t => exact h1
    have hq : plainLen false (l ++ 32 :: r) = l.length := by
      rcases plainLen_append (r := r) hpl (by decide) with h' | h'
      · exact h'
      · exact absurd h' hne
    unfold cut
    rw [if_neg (by rw [hp]; simp), hq, if_neg (by simp; exact hne)]
theorem read_chk {l u : List UInt8} (h : P18.read l = (u, 0)) : chk u = (u, 0) := by
  have key : ∀ t, chk t = (u, 0) → chk u = (u, 0) := by
    intro t ht
    have h' := ht
    unfold chk at ht
    split at ht
    · rename_i hc
      simp only [Prod.mk.injEq] at ht
      rw [ht.2] at hc; simp at hc
    · simp only [Prod.mk.injEq, and_true] at ht
      rw [← ht]; rw [ht]; rw [← ht] at h' ⊢; exact h'
  unfold P18.read readF at h
  split at h
  · simp at h
  · split at h
    · split at h
      · simp at h
      · exact key _ h
    · exact key _ h
theorem read_put_read {l u : List UInt8} (h : P18.read l = (u, 0)) : P18.read (P18.put u) = (u, 0) := by rw [read_put, read_chk h]
theorem put_len (l : List UInt8) : (P18.put l).length ≤ 2 + 4 * l.length := by
  unfold P18.put
  split
  · omega
  · unfold quote
    have : ∀ t : List UInt8, (t.flatMap quoteOne).length ≤ 4 * t.length := by
      intro t
      induction t with
      | nil => simp
      | cons c t ih => rw [List.flatMap_cons, List.length_append, List.length_cons]; have := quoteOne_len c; omega
    have := this l
    rw [List.length_cons, List.length_append]
    simp only [List.length_cons, List.length_nil]
    omega
theorem chk_cases (l : List UInt8) : ((chk l).2 = P03.check l 4096) ∧ (P03.check l 4096 = 0 → (chk l).1 = l) ∧ (P03.check l 4096 ≠ 0 → (chk l).1 = []) := by
  unfold chk
  split
  · rename_i h
    exact ⟨rfl, fun h0 => by rw [h0] at h; simp at h, fun _ => rfl⟩
  · rename_i h
    have h0 : P03.check l 4096 = 0 := by simpa using h
    exact ⟨h0.symm, fun _ => rfl, fun h1 => absurd h0 h1⟩
theorem read_len {l u : List UInt8} (h : P18.read l = (u, 0)) : u.length ≤ 4096 := by
  have h1 := read_chk h
  have h2 := (chk_cases u).1
  rw [h1] at h2
  unfold P03.check at h2
  split at h2
  · simp at h2
  · omega
end R18
end Go.Proofs.YtnjokdbblmlhhaaGreatDoor
