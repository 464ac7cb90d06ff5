/- walks of layer 3: utf.taken, First, Check; rescriptref03.One, Rune, First, Check -/
import Derived.Test.YtbnheebblicgkaaDoorRows
import Derived.Test.YtbnheebblicgkaaDoorShelf
import Derived.Test.YtbnheebblicgkaaDoorPlain03
namespace Go.Proofs.YtbnheebblicgkaaDoor
set_option linter.unusedVariables false
set_option linter.unusedSimpArgs false
open Go.RowKit
set_option maxHeartbeats 400000 in
theorem Rune_any (n : Int) (w : World) :
    Calls Tryd.prog 84 #[.int .i32 n] w fun e w' => e = .returned (.bool (P03.rune n)) ∧ w' = w := by
  go_enter Tryd.func84, Tryd.ntmps84
  go_wp2
  all_goals go_ret
  all_goals refine ⟨ret_bool ?_, rfl⟩
  all_goals rw [P03.rune, Bool.eq_iff_iff]
  all_goals simp
  all_goals omega
/-- the classes of two to four bytes: the loop over the bytes behind the first one -/
def OnePost (w : World) (x : Int × Int) (e : Ending) (w' : World) : Prop := e = .returned (.tuple #[.int .i64 x.1, .int .i32 x.2]) ∧ w' = w
set_option maxRecDepth 100000 in
set_option maxHeartbeats 1600000 in
theorem One_c1 (s : ByteArray) (k : Nat) (w : World) (h : s.size ≤ 1048576) (hk : k < s.size) (hlo : 192 ≤ s[k].toNat) (hhi : s[k].toNat < 224) :
    Calls Tryd.prog 55 #[.string s, .int .i64 (k : Int)] w (OnePost w (P03.tailOf 1 ((s[k].toNat : Int) - 192) 128 (s.data.toList.drop k))) := by
  have hb := s[k].toNat_lt
  have hki : (k : Int) < (s.size : Int) := by omega
  have hlen := P03.drop_len s k
  have HL := hide hlen
  clear hlen
  by_cases hsh : (s.size : Int) - (k : Int) ≤ 1
  · go_enter Tryd.func55, Tryd.ntmps55
    go_wp2
    go_ret2
    rw [P03.tailOf_short (by rw [unhide HL]; omega)]
    exact ⟨rfl, rfl⟩
  · have hls : ((1 : Nat) : Int) < (((s.data.toList.drop k).length : Nat) : Int) := by rw [unhide HL]; omega
    have HS := hide hls
    clear hls
    go_enter Tryd.func55, Tryd.ntmps55
    go_wp2
    go_loopg [8, 10] 1 (fun g s8 s10 wx => ∃ (j : Nat) (m : Int), j + g = 2 ∧ 1 ≤ j ∧ s10 = .int .i64 (j : Int) ∧ s8 = .int .i32 m ∧ Hid (P03.contLoop 1 ((s[k].toNat : Int) - 192) ((s.data.toList.drop k).drop 1) = P03.contLoop g m ((s.data.toList.drop k).drop j)) ∧ 0 ≤ m ∧ (m < 8388608 ∧ (j = 3 → m < 131072) ∧ (j = 2 → m < 2048) ∧ (j = 1 → m < 32)) ∧ wx = w)
    case atStart => exact ⟨1, _, rfl, by omega, rfl, rfl, rfl, by omega, by omega, rfl⟩
    case round =>
      obtain ⟨j, m, hjg, hj1, rfl, rfl, HP, hm0, hm, rfl⟩ := hrel
      cases gk with
      | zero =>
        obtain rfl : j = 2 := by omega
        have hfin := P03.tailOf_some (least := 128) (Int.not_le.2 (unhide HS)) ((unhide HP).trans (P03.cont_0 _ _))
        have HF := hide hfin
        clear hfin hjg
        by_cases hl : m < 128
        · go_wp2
          go_ret2
          rw [unhide HF, if_pos hl]
          exact ⟨rfl, rfl⟩
        · have hl' : 128 ≤ m := by omega
          cases hr : P03.rune m
          all_goals
            have HR := hide hr
            go_wp2_with (go_at_call 84; refine (Rune_any _ _).mono ?_; rw [hr]; rintro e w' ⟨rfl, rfl⟩)
            go_ret2
            rw [unhide HF, if_neg (by omega)]
            first
              | (rw [if_pos (unhide HR)]; exact ⟨rfl, rfl⟩)
              | (rw [if_neg (by rw [unhide HR]; simp)]; exact ⟨rfl, rfl⟩)
      | succ g =>
        have HG := hide hjg
        have hjK : j ≤ 1 := by omega
        have hjK' : (j : Int) ≤ 1 := by omega
        clear hjg
        have hkj : k + j < s.size := by omega
        have hkji : (k : Int) + (j : Int) < (s.size : Int) := by omega
        have hb2 : s[k + j].toNat < 256 := s[k + j].toNat_lt
        have g0 := P03.getD_drop s (k + j) hkj
        rw [← List.drop_drop] at g0
        have H0 := hide g0
        clear g0
        by_cases hc : (s[k + j].toNat : Int) < 128 ∨ 192 ≤ (s[k + j].toNat : Int)
        · have hfin := P03.tailOf_none (least := 128) (Int.not_le.2 (unhide HS)) ((unhide HP).trans (P03.cont_no (unhide H0) hc))
          have HF := hide hfin
          clear hfin
          rcases hc with hc | hc
          all_goals
            go_wp2
            go_ret2
            rw [unhide HF]
            exact ⟨rfl, rfl⟩
        · have hcy := P03.cont_yes (r := g) (n := m) (unhide H0) hc
          rw [List.drop_drop, List.drop_drop] at hcy
          have HC := hide hcy
          clear hcy
          have hc1 : ¬ (s[k + j].toNat : Int) < 128 := by omega
          have hc2 : ¬ 192 ≤ (s[k + j].toNat : Int) := by omega
          clear hc
          go_wp2
          go_roundg g
          case measure => omega
          case rel => exact ⟨j + 1, m * 64 + (s[k + j].toNat : Int) - 128, by have := unhide HG; omega, by omega, by go_num, rfl, by show _ = _; rw [unhide HP, List.drop_drop, unhide HC]; simp only [List.drop_drop]; rw [Nat.add_assoc], by omega, by omega, rfl⟩
set_option maxRecDepth 100000 in
set_option maxHeartbeats 1600000 in
theorem One_c2 (s : ByteArray) (k : Nat) (w : World) (h : s.size ≤ 1048576) (hk : k < s.size) (hlo : 224 ≤ s[k].toNat) (hhi : s[k].toNat < 240) :
    Calls Tryd.prog 55 #[.string s, .int .i64 (k : Int)] w (OnePost w (P03.tailOf 2 ((s[k].toNat : Int) - 224) 2048 (s.data.toList.drop k))) := by
  have hb := s[k].toNat_lt
  have hki : (k : Int) < (s.size : Int) := by omega
  have hlen := P03.drop_len s k
  have HL := hide hlen
  clear hlen
  by_cases hsh : (s.size : Int) - (k : Int) ≤ 2
  · go_enter Tryd.func55, Tryd.ntmps55
    go_wp2
    go_ret2
    rw [P03.tailOf_short (by rw [unhide HL]; omega)]
    exact ⟨rfl, rfl⟩
  · have hls : ((2 : Nat) : Int) < (((s.data.toList.drop k).length : Nat) : Int) := by rw [unhide HL]; omega
    have HS := hide hls
    clear hls
    go_enter Tryd.func55, Tryd.ntmps55
    go_wp2
    go_loopg [8, 10] 2 (fun g s8 s10 wx => ∃ (j : Nat) (m : Int), j + g = 3 ∧ 1 ≤ j ∧ s10 = .int .i64 (j : Int) ∧ s8 = .int .i32 m ∧ Hid (P03.contLoop 2 ((s[k].toNat : Int) - 224) ((s.data.toList.drop k).drop 1) = P03.contLoop g m ((s.data.toList.drop k).drop j)) ∧ 0 ≤ m ∧ (m < 8388608 ∧ (j = 3 → m < 131072) ∧ (j = 2 → m < 2048) ∧ (j = 1 → m < 32)) ∧ wx = w)
    case atStart => exact ⟨1, _, rfl, by omega, rfl, rfl, rfl, by omega, by omega, rfl⟩
    case round =>
      obtain ⟨j, m, hjg, hj1, rfl, rfl, HP, hm0, hm, rfl⟩ := hrel
      cases gk with
      | zero =>
        obtain rfl : j = 3 := by omega
        have hfin := P03.tailOf_some (least := 2048) (Int.not_le.2 (unhide HS)) ((unhide HP).trans (P03.cont_0 _ _))
        have HF := hide hfin
        clear hfin hjg
        by_cases hl : m < 2048
        · go_wp2
          go_ret2
          rw [unhide HF, if_pos hl]
          exact ⟨rfl, rfl⟩
        · have hl' : 2048 ≤ m := by omega
          cases hr : P03.rune m
          all_goals
            have HR := hide hr
            go_wp2_with (go_at_call 84; refine (Rune_any _ _).mono ?_; rw [hr]; rintro e w' ⟨rfl, rfl⟩)
            go_ret2
            rw [unhide HF, if_neg (by omega)]
            first
              | (rw [if_pos (unhide HR)]; exact ⟨rfl, rfl⟩)
              | (rw [if_neg (by rw [unhide HR]; simp)]; exact ⟨rfl, rfl⟩)
      | succ g =>
        have HG := hide hjg
        have hjK : j ≤ 2 := by omega
        have hjK' : (j : Int) ≤ 2 := by omega
        clear hjg
        have hkj : k + j < s.size := by omega
        have hkji : (k : Int) + (j : Int) < (s.size : Int) := by omega
        have hb2 : s[k + j].toNat < 256 := s[k + j].toNat_lt
        have g0 := P03.getD_drop s (k + j) hkj
        rw [← List.drop_drop] at g0
        have H0 := hide g0
        clear g0
        by_cases hc : (s[k + j].toNat : Int) < 128 ∨ 192 ≤ (s[k + j].toNat : Int)
        · have hfin := P03.tailOf_none (least := 2048) (Int.not_le.2 (unhide HS)) ((unhide HP).trans (P03.cont_no (unhide H0) hc))
          have HF := hide hfin
          clear hfin
          rcases hc with hc | hc
          all_goals
            go_wp2
            go_ret2
            rw [unhide HF]
            exact ⟨rfl, rfl⟩
        · have hcy := P03.cont_yes (r := g) (n := m) (unhide H0) hc
          rw [List.drop_drop, List.drop_drop] at hcy
          have HC := hide hcy
          clear hcy
          have hc1 : ¬ (s[k + j].toNat : Int) < 128 := by omega
          have hc2 : ¬ 192 ≤ (s[k + j].toNat : Int) := by omega
          clear hc
          go_wp2
          go_roundg g
          case measure => omega
          case rel => exact ⟨j + 1, m * 64 + (s[k + j].toNat : Int) - 128, by have := unhide HG; omega, by omega, by go_num, rfl, by show _ = _; rw [unhide HP, List.drop_drop, unhide HC]; simp only [List.drop_drop]; rw [Nat.add_assoc], by omega, by omega, rfl⟩
set_option maxRecDepth 100000 in
set_option maxHeartbeats 1600000 in
theorem One_c3 (s : ByteArray) (k : Nat) (w : World) (h : s.size ≤ 1048576) (hk : k < s.size) (hlo : 240 ≤ s[k].toNat) (hhi : s[k].toNat < 248) :
    Calls Tryd.prog 55 #[.string s, .int .i64 (k : Int)] w (OnePost w (P03.tailOf 3 ((s[k].toNat : Int) - 240) 65536 (s.data.toList.drop k))) := by
  have hb := s[k].toNat_lt
  have hki : (k : Int) < (s.size : Int) := by omega
  have hlen := P03.drop_len s k
  have HL := hide hlen
  clear hlen
  by_cases hsh : (s.size : Int) - (k : Int) ≤ 3
  · go_enter Tryd.func55, Tryd.ntmps55
    go_wp2
    go_ret2
    rw [P03.tailOf_short (by rw [unhide HL]; omega)]
    exact ⟨rfl, rfl⟩
  · have hls : ((3 : Nat) : Int) < (((s.data.toList.drop k).length : Nat) : Int) := by rw [unhide HL]; omega
    have HS := hide hls
    clear hls
    go_enter Tryd.func55, Tryd.ntmps55
    go_wp2
    go_loopg [8, 10] 3 (fun g s8 s10 wx => ∃ (j : Nat) (m : Int), j + g = 4 ∧ 1 ≤ j ∧ s10 = .int .i64 (j : Int) ∧ s8 = .int .i32 m ∧ Hid (P03.contLoop 3 ((s[k].toNat : Int) - 240) ((s.data.toList.drop k).drop 1) = P03.contLoop g m ((s.data.toList.drop k).drop j)) ∧ 0 ≤ m ∧ (m < 8388608 ∧ (j = 3 → m < 131072) ∧ (j = 2 → m < 2048) ∧ (j = 1 → m < 32)) ∧ wx = w)
    case atStart => exact ⟨1, _, rfl, by omega, rfl, rfl, rfl, by omega, by omega, rfl⟩
    case round =>
      obtain ⟨j, m, hjg, hj1, rfl, rfl, HP, hm0, hm, rfl⟩ := hrel
      cases gk with
      | zero =>
        obtain rfl : j = 4 := by omega
        have hfin := P03.tailOf_some (least := 65536) (Int.not_le.2 (unhide HS)) ((unhide HP).trans (P03.cont_0 _ _))
        have HF := hide hfin
        clear hfin hjg
        by_cases hl : m < 65536
        · go_wp2
          go_ret2
          rw [unhide HF, if_pos hl]
          exact ⟨rfl, rfl⟩
        · have hl' : 65536 ≤ m := by omega
          cases hr : P03.rune m
          all_goals
            have HR := hide hr
            go_wp2_with (go_at_call 84; refine (Rune_any _ _).mono ?_; rw [hr]; rintro e w' ⟨rfl, rfl⟩)
            go_ret2
            rw [unhide HF, if_neg (by omega)]
            first
              | (rw [if_pos (unhide HR)]; exact ⟨rfl, rfl⟩)
              | (rw [if_neg (by rw [unhide HR]; simp)]; exact ⟨rfl, rfl⟩)
      | succ g =>
        have HG := hide hjg
        have hjK : j ≤ 3 := by omega
        have hjK' : (j : Int) ≤ 3 := by omega
        clear hjg
        have hkj : k + j < s.size := by omega
        have hkji : (k : Int) + (j : Int) < (s.size : Int) := by omega
        have hb2 : s[k + j].toNat < 256 := s[k + j].toNat_lt
        have g0 := P03.getD_drop s (k + j) hkj
        rw [← List.drop_drop] at g0
        have H0 := hide g0
        clear g0
        by_cases hc : (s[k + j].toNat : Int) < 128 ∨ 192 ≤ (s[k + j].toNat : Int)
        · have hfin := P03.tailOf_none (least := 65536) (Int.not_le.2 (unhide HS)) ((unhide HP).trans (P03.cont_no (unhide H0) hc))
          have HF := hide hfin
          clear hfin
          rcases hc with hc | hc
          all_goals
            go_wp2
            go_ret2
            rw [unhide HF]
            exact ⟨rfl, rfl⟩
        · have hcy := P03.cont_yes (r := g) (n := m) (unhide H0) hc
          rw [List.drop_drop, List.drop_drop] at hcy
          have HC := hide hcy
          clear hcy
          have hc1 : ¬ (s[k + j].toNat : Int) < 128 := by omega
          have hc2 : ¬ 192 ≤ (s[k + j].toNat : Int) := by omega
          clear hc
          go_wp2
          go_roundg g
          case measure => omega
          case rel => exact ⟨j + 1, m * 64 + (s[k + j].toNat : Int) - 128, by have := unhide HG; omega, by omega, by go_num, rfl, by show _ = _; rw [unhide HP, List.drop_drop, unhide HC]; simp only [List.drop_drop]; rw [Nat.add_assoc], by omega, by omega, rfl⟩
set_option maxRecDepth 100000 in
set_option maxHeartbeats 800000 in
theorem One_any (s : ByteArray) (k : Nat) (w : World) (h : s.size ≤ 1048576) (hk : k < s.size) :
    Calls Tryd.prog 55 #[.string s, .int .i64 (k : Int)] w (OnePost w (P03.one (s.data.toList.drop k))) := by
  have hb := s[k].toNat_lt
  have g0 := P03.getD_drop s k hk
  have hki : (k : Int) < (s.size : Int) := by omega
  by_cases c1 : s[k].toNat < 128
  · have hfin := P03.one_1 g0 c1
    rw [hfin]
    clear hfin g0
    go_enter Tryd.func55, Tryd.ntmps55
    go_wp2
    go_ret2
    exact ⟨rfl, rfl⟩
  · by_cases c2 : 192 ≤ s[k].toNat ∧ s[k].toNat < 248
    · by_cases d1 : s[k].toNat < 224
      · rw [P03.one_2 g0 (by omega) d1]; exact One_c1 s k w h hk (by omega) d1
      · by_cases d2 : s[k].toNat < 240
        · rw [P03.one_3 g0 (by omega) d2]; exact One_c2 s k w h hk (by omega) d2
        · rw [P03.one_4 g0 (by omega) (by omega)]; exact One_c3 s k w h hk (by omega) (by omega)
    · have hfin := P03.one_0 g0 (by omega) (by omega)
      rw [hfin]
      clear hfin g0
      by_cases c3 : s[k].toNat < 192
      all_goals
        go_enter Tryd.func55, Tryd.ntmps55
        go_wp2
        go_ret2
        exact ⟨rfl, rfl⟩
end Go.Proofs.YtbnheebblicgkaaDoor
