/- walks of scalar.Plain, Cut, behind -/
import Derived.Test.YtbnheebblicgkaaDoorW18a
namespace Go.Proofs.YtbnheebblicgkaaDoor
set_option linter.unusedVariables false
set_option linter.unusedSimpArgs false
open Go.RowKit
set_option maxHeartbeats 400000 in
theorem Cut_any (s : ByteArray) (w : World) (h : s.size ≤ maxLen) :
    Calls Tryd.prog 95 #[.string s] w fun e w' => e = .returned (.tuple #[.int .i64 (P18.cut s.data.toList).1, .int .i64 (P18.cut s.data.toList).2]) ∧ w' = w := by
  unfold maxLen at h
  by_cases hq : Lib.hasPrefix s.data.toList [34] = true
  · go_enter Tryd.func95, Tryd.ntmps95
    go_wp2
    go_step3
    go_wp2_with (go_at_call 61; refine (Tryd.strings_HasPrefix _ _ _).mono ?_; rintro e w' ⟨rfl, rfl⟩)
    go_step3
    go_wp2_with (go_at_call 61; refine (Tryd.strings_HasPrefix _ _ _).mono ?_; rintro e w' ⟨rfl, rfl⟩)
    go_loop [5, 17] (fun t n => ∃ (k : Nat) (b : Bool), k ≤ s.size ∧ n = .int .i64 k ∧ t = .bool b ∧ P18.cutQ 0 false s.data.toList = P18.cutQ k b (s.data.toList.drop k)) (fun _ n => s.size - (intOf n).toNat)
    case atStart => exact ⟨0, false, Nat.zero_le _, rfl, rfl, rfl⟩
    case round =>
      obtain ⟨k, b, hk, rfl, rfl, hp⟩ := hrel
      have HP := hide hp
      clear hp
      by_cases hlt : k < s.size
      · have hd := P18.cutQ_drop (i := k) (t := b) (l := s.data.toList) (by simpa using hlt)
        have e0 : s.data.toList[k]'(by simpa using hlt) = s[k] := rfl
        rw [e0] at hd
        have HD := hide hd
        clear hd e0
        go_wp2
        all_goals first
          | exact ⟨⟨k + 1, _, by omega, by go_num, rfl, by rw [unhide HP, unhide HD]; simp [*]⟩, by simp [intOf]; omega⟩
          | (go_ret2
             refine ⟨?_, rfl⟩
             rw [P18.cut, if_pos hq, unhide HP, unhide HD]
             simp [*])
      · go_wp2
        go_ret2
        refine ⟨?_, rfl⟩
        rw [P18.cut, if_pos hq, unhide HP, List.drop_of_length_le (by simp; omega)]
        simp [P18.cutQ]
  · go_enter Tryd.func95, Tryd.ntmps95
    go_wp2
    go_step3
    go_wp2_with (first | (go_at_call 61; refine (Tryd.strings_HasPrefix _ _ _).mono ?_; rintro e w' ⟨rfl, rfl⟩) | (go_at_call 106; refine (plain_any _ _ (by assumption)).mono ?_; rintro e w' ⟨rfl, rfl⟩))
    all_goals rw [Exit.noGoto_ret]
    all_goals go_ret2
    all_goals refine ⟨?_, rfl⟩
    all_goals simp [P18.cut, *]
theorem word_int (c : Int) (w : World) (h0 : 0 ≤ c) (h1 : c < 256) :
    Calls Tryd.prog 119 #[.int .u8 c] w fun e w' => ∃ b : ByteArray, e = .returned (.string b) ∧ b.data.toList = P18.word (UInt8.ofNat c.toNat) ∧ ∃ n, w' = w.drewN n := by
  obtain ⟨n, rfl⟩ := Int.eq_ofNat_of_zero_le h0
  have e : n = (UInt8.ofNat n).toNat := by simp; omega
  have := word_any (UInt8.ofNat n) w
  rw [← e] at this
  exact this.mono fun e w' ⟨h1, h2⟩ => ⟨_, h1, by simp, h2⟩
set_option maxRecDepth 100000 in
set_option maxHeartbeats 800000 in
theorem behind_any (s : ByteArray) (w : World) (h : s.size ≤ maxLen) :
    Calls Tryd.prog 117 #[.string s] w fun e w' => e = .returned (.tuple #[.int .u8 (P18.behind s.data.toList).1, .int .i64 (P18.behind s.data.toList).2]) ∧ ∃ n, w' = w.drewN n := by
  unfold maxLen at h
  go_enter Tryd.func117, Tryd.ntmps117
  go_wp2
  go_loopg [8] 128 (fun g s8 wx => ∃ k n : Nat, k + g = 128 ∧ s8 = .int .i64 k ∧ Hid ((List.range 128).find? (P18.startsWord s.data.toList) = ((List.range 128).drop k).find? (P18.startsWord s.data.toList)) ∧ wx = w.drewN n)
  case atStart => exact ⟨0, 0, rfl, rfl, rfl, rfl⟩
  case round =>
    obtain ⟨k, n, hkg, rfl, HP, hw⟩ := hrel
    have HW := hide hw
    clear hw
    cases gk with
    | zero =>
      obtain rfl : k = 128 := by omega
      have hb : P18.behind s.data.toList = P18.hexTail s.data.toList := by
        rw [P18.behind, unhide HP, List.drop_of_length_le (by simp)]; rfl
      have HB := hide hb
      have hsz := Lib.size_eq s
      have HZ := hide hsz
      clear hb hsz
      by_cases h3 : s.size < 3
      · go_wp2_with fail
        go_ret2
        have hh : P18.behind s.data.toList = (0, 0) := by rw [unhide HB, P18.hexTail, if_pos (by rw [← unhide HZ]; omega)]
        rw [hh]
        exact ⟨ret_tup2 rfl rfl, n, unhide HW⟩
      · have e1 : 1 < s.size := by omega
        have e2 : 2 < s.size := by omega
        have i1 : (1 : Int) < (s.size : Int) := by omega
        have i2 : (2 : Int) < (s.size : Int) := by omega
        have g0 : s.data.toList.getD 0 0 = s[0] := by rw [List.getD_eq_getElem?_getD, Lib.data_getElem? s 0 (by omega)]; rfl
        have g1 : s.data.toList.getD 1 0 = s[1] := by rw [List.getD_eq_getElem?_getD, Lib.data_getElem? s 1 (by omega)]; rfl
        have g2 : s.data.toList.getD 2 0 = s[2] := by rw [List.getD_eq_getElem?_getD, Lib.data_getElem? s 2 (by omega)]; rfl
        have hT : P18.hexTail s.data.toList = P18.hexThree s[0] s[1] s[2] := by
          rw [P18.hexTail, if_neg (by rw [← unhide HZ]; omega), g0, g1, g2]
        have HT := hide hT
        clear hT g0 g1 g2
        by_cases hx : s[0].toNat = 120
        · have hx' : (((s[0].toNat : Int)) != 120) = false := by simp; omega
          have hx2 : (s[0] != 120) = false := by simp; exact UInt8.toNat_inj.1 hx
          have HX := hide hx2
          clear hx hx2
          go_wp2_with fail
          go_quiet ((go_at_call 79; exact Calls.quiet_of_same (Tryd.strings_IndexByte _ _ _)))
          have b1 := P18.idx_bd s[1]
          have b2 := P18.idx_bd s[2]
          go_wp2_with fail
          all_goals go_ret2
          all_goals rw [unhide HB, unhide HT, P18.hexThree, if_neg (by rw [unhide HX]; simp)]
          all_goals refine ⟨ret_tup2 ?_ ?_, _, by rw [unhide HW, World.drewN_drewN]⟩
          all_goals repeat (first | rw [if_pos (by omega)] | rw [if_neg (by omega)])
        · have hx' : (((s[0].toNat : Int)) != 120) = true := by simp; omega
          have hx2 : (s[0] != 120) = true := by simp; intro e; rw [e] at hx; exact hx rfl
          have HX := hide hx2
          clear hx hx2
          go_wp2_with fail
          go_ret2
          rw [unhide HB, unhide HT, P18.hexThree, if_pos (unhide HX)]
          exact ⟨ret_tup2 rfl rfl, n, unhide HW⟩
    | succ g =>
      have hlt : (k : Int) < 128 := by omega
      have hle : k < 128 := by omega
      have HG := hide hkg
      clear hkg
      have hst : P18.startsWord s.data.toList k = (!(P18.word (UInt8.ofNat k)).isEmpty && Lib.hasPrefix s.data.toList (P18.word (UInt8.ofNat k))) := rfl
      go_wp2_with fail
      refine (word_int _ _ (by omega) (by omega)).mono ?_
      rintro e w' ⟨b, rfl, hu, m, hw1⟩
      rw [Int.toNat_natCast] at hu
      rw [← hu] at hst
      have HW1 := hide hw1
      have HU := hide hu
      have HS := hide hst
      clear hw1 hu hst
      go_wp2_with (go_at_call 61; refine (Tryd.strings_HasPrefix _ _ _).mono ?_; rintro e w' ⟨rfl, rfl⟩)
      all_goals first
        | (go_roundg g
           case measure => omega
           case rel =>
             have hno : P18.startsWord s.data.toList k = false := by rw [unhide HS]; simp_all [Lib.toList_data]
             exact ⟨k + 1, n + m, by have := unhide HG; omega, by go_num, by show _ = _; rw [unhide HP, P18.range_drop hle, List.find?_cons_of_neg (by rw [hno]; simp)], by rw [unhide HW1, unhide HW, World.drewN_drewN]⟩)
        | (rw [Exit.noGoto_ret]
           have hyes : P18.startsWord s.data.toList k = true := by rw [unhide HS]; simp_all [Lib.toList_data]
           have hh : P18.behind s.data.toList = ((k : Int), ((P18.word (UInt8.ofNat k)).length : Int)) := by rw [P18.behind, unhide HP, P18.range_drop hle, List.find?_cons_of_pos hyes]
           rw [hh, ← unhide HU, ← Lib.size_eq]
           go_ret2
           exact ⟨ret_tup2 rfl rfl, n + m, by rw [unhide HW1, unhide HW, World.drewN_drewN]⟩)
        | (have hyes : P18.startsWord s.data.toList k = true := by rw [unhide HS]; simp_all [Lib.toList_data]
           have hh : P18.behind s.data.toList = ((k : Int), ((P18.word (UInt8.ofNat k)).length : Int)) := by rw [P18.behind, unhide HP, P18.range_drop hle, List.find?_cons_of_pos hyes]
           rw [hh, ← unhide HU, ← Lib.size_eq]
           go_ret2
           exact ⟨ret_tup2 rfl rfl, n + m, by rw [unhide HW1, unhide HW, World.drewN_drewN]⟩)
end Go.Proofs.YtbnheebblicgkaaDoor
