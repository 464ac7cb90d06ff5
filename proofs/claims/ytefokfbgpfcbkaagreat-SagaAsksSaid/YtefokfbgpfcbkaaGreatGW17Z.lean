/- Lemmas of this claim (a part of its texts, kept as far as the claim reaches them). -/
import Derived.Test.YtefokfbgpfcbkaaGreatGAZ
import Derived.Test.YtefokfbgpfcbkaaGreatGPZ
import Derived.Test.YtefokfbgpfcbkaaGreatShelfZ
import Derived.Test.YtefokfbgpfcbkaaGreatRows
import Derived.Lib.Builder
import Derived.Lib.OthersKept
import Derived.StillTailTactics
import Derived.Shelf.SlicesE.Kit
import Derived.Sort.WalkB12
import Derived.Lib.SlicesMore
import Derived.Lib.OwnBridge
import Derived.Lib.Walk
namespace Go.Proofs.YtefokfbgpfcbkaaGreat
set_option linter.unusedVariables false
set_option linter.unusedSimpArgs false
open Go.RowKit Go.Shelf
attribute [local go_sem] Oper.semAt_some
def bsOf (l : List UInt8) : Value := .string ⟨l.toArray⟩
end Go.Proofs.YtefokfbgpfcbkaaGreat
namespace Go.Proofs.YtefokfbgpfcbkaaGreat
set_option linter.unusedVariables false
set_option linter.unusedSimpArgs false
open Go.RowKit Go.Shelf
attribute [local go_sem] Oper.semAt_some
end Go.Proofs.YtefokfbgpfcbkaaGreat
namespace Go.Proofs.YtefokfbgpfcbkaaGreat
set_option linter.unusedVariables false
set_option linter.unusedSimpArgs false
open Go.RowKit Go.Shelf
attribute [local go_sem] Oper.semAt_some
end Go.Proofs.YtefokfbgpfcbkaaGreat
namespace Go.Proofs.YtefokfbgpfcbkaaGreat
set_option linter.unusedVariables false
set_option linter.unusedSimpArgs false
open Go.RowKit
set_option maxHeartbeats 400000 in
theorem Rune_any (n : Int) (w : World) :
    Calls Tryz.prog 214 #[.int .i32 n] w fun e w' => e = .returned (.bool (P03.rune n)) ∧ w' = w := by
  go_enter Tryz.func214, Tryz.ntmps214
  go_wp2
  all_goals go_ret
  all_goals refine ⟨ret_bool ?_, rfl⟩
  all_goals rw [P03.rune, Bool.eq_iff_iff]
  all_goals simp
  all_goals omega
def OnePost (w : World) (x : Int × Int) (e : Ending) (w' : World) : Prop := e = .returned (.tuple #[.int .i64 x.1, .int .i32 x.2]) ∧ w' = w
set_option maxRecDepth 100000 in
set_option maxHeartbeats 1600000 in
theorem One_c1 (s : ByteArray) (k : Nat) (w : World) (h : s.size ≤ 2097152) (hk : k < s.size) (hlo : 192 ≤ s[k].toNat) (hhi : s[k].toNat < 224) :
    Calls Tryz.prog 190 #[.string s, .int .i64 (k : Int)] w (OnePost w (P03.tailOf 1 ((s[k].toNat : Int) - 192) 128 (s.data.toList.drop k))) := by
  have hb := s[k].toNat_lt
  have hki : (k : Int) < (s.size : Int) := by omega
  have hlen := P03.drop_len s k
  have HL := hide hlen
  clear hlen
  by_cases hsh : (s.size : Int) - (k : Int) ≤ 1
  · go_enter Tryz.func190, Tryz.ntmps190
    go_wp2
    go_ret2
    rw [P03.tailOf_short (by rw [unhide HL]; omega)]
    exact ⟨rfl, rfl⟩
  · have hls : ((1 : Nat) : Int) < (((s.data.toList.drop k).length : Nat) : Int) := by rw [unhide HL]; omega
    have HS := hide hls
    clear hls
    go_enter Tryz.func190, Tryz.ntmps190
    go_wp2
    go_loopg [8, 10] 1 (fun g s8 s10 wx => ∃ (j : Nat) (m : Int), j + g = 2 ∧ 1 ≤ j ∧ s10 = .int .i64 (j : Int) ∧ s8 = .int .i32 m ∧ Hid (P03.contLoop 1 ((s[k].toNat : Int) - 192) ((s.data.toList.drop k).drop 1) = P03.contLoop g m ((s.data.toList.drop k).drop j)) ∧ 0 ≤ m ∧ (m < 8388608 ∧ (j = 3 → m < 131072) ∧ (j = 2 → m < 2048) ∧ (j = 1 → m < 32)) ∧ wx = w)
    case atStart => exact ⟨1, _, rfl, by omega, rfl, rfl, rfl, by omega, by omega, rfl⟩
    case round =>
      obtain ⟨j, m, hjg, hj1, rfl, rfl, HP, hm0, hm, rfl⟩ := hrel
      cases gk with
      | zero =>
        obtain rfl : j = 2 := by omega
        have hfin := P03.tailOf_some (least := 128) (Int.not_le.2 (unhide HS)) ((unhide HP).trans (P03.cont_0 _ _))
        have HF := hide hfin
        clear hfin hjg
        by_cases hl : m < 128
        · go_wp2
          go_ret2
          rw [unhide HF, if_pos hl]
          exact ⟨rfl, rfl⟩
        · have hl' : 128 ≤ m := by omega
          cases hr : P03.rune m
          all_goals
            have HR := hide hr
            go_wp2_with (go_at_call 214; refine (Rune_any _ _).mono ?_; rw [hr]; rintro e w' ⟨rfl, rfl⟩)
            go_ret2
            rw [unhide HF, if_neg (by omega)]
            first
              | (rw [if_pos (unhide HR)]; exact ⟨rfl, rfl⟩)
              | (rw [if_neg (by rw [unhide HR]; simp)]; exact ⟨rfl, rfl⟩)
      | succ g =>
        have HG := hide hjg
        have hjK : j ≤ 1 := by omega
        have hjK' : (j : Int) ≤ 1 := by omega
        clear hjg
        have hkj : k + j < s.size := by omega
        have hkji : (k : Int) + (j : Int) < (s.size : Int) := by omega
        have hb2 : s[k + j].toNat < 256 := s[k + j].toNat_lt
        have g0 := P03.getD_drop s (k + j) hkj
        rw [← List.drop_drop] at g0
        have H0 := hide g0
        clear g0
        by_cases hc : (s[k + j].toNat : Int) < 128 ∨ 192 ≤ (s[k + j].toNat : Int)
        · have hfin := P03.tailOf_none (least := 128) (Int.not_le.2 (unhide HS)) ((unhide HP).trans (P03.cont_no (unhide H0) hc))
          have HF := hide hfin
          clear hfin
          rcases hc with hc | hc
          all_goals
            go_wp2
            go_ret2
            rw [unhide HF]
            exact ⟨rfl, rfl⟩
        · have hcy := P03.cont_yes (r := g) (n := m) (unhide H0) hc
          rw [List.drop_drop, List.drop_drop] at hcy
          have HC := hide hcy
          clear hcy
          have hc1 : ¬ (s[k + j].toNat : Int) < 128 := by omega
          have hc2 : ¬ 192 ≤ (s[k + j].toNat : Int) := by omega
          clear hc
          go_wp2
          go_roundg g
          case measure => omega
          case rel => exact ⟨j + 1, m * 64 + (s[k + j].toNat : Int) - 128, by have := unhide HG; omega, by omega, by go_num, rfl, by show _ = _; rw [unhide HP, List.drop_drop, unhide HC]; simp only [List.drop_drop]; rw [Nat.add_assoc], by omega, by omega, rfl⟩
set_option maxRecDepth 100000 in
set_option maxHeartbeats 1600000 in
theorem One_c2 (s : ByteArray) (k : Nat) (w : World) (h : s.size ≤ 2097152) (hk : k < s.size) (hlo : 224 ≤ s[k].toNat) (hhi : s[k].toNat < 240) :
    Calls Tryz.prog 190 #[.string s, .int .i64 (k : Int)] w (OnePost w (P03.tailOf 2 ((s[k].toNat : Int) - 224) 2048 (s.data.toList.drop k))) := by
  have hb := s[k].toNat_lt
  have hki : (k : Int) < (s.size : Int) := by omega
  have hlen := P03.drop_len s k
  have HL := hide hlen
  clear hlen
  by_cases hsh : (s.size : Int) - (k : Int) ≤ 2
  · go_enter Tryz.func190, Tryz.ntmps190
    go_wp2
    go_ret2
    rw [P03.tailOf_short (by rw [unhide HL]; omega)]
    exact ⟨rfl, rfl⟩
  · have hls : ((2 : Nat) : Int) < (((s.data.toList.drop k).length : Nat) : Int) := by rw [unhide HL]; omega
    have HS := hide hls
    clear hls
    go_enter Tryz.func190, Tryz.ntmps190
    go_wp2
    go_loopg [8, 10] 2 (fun g s8 s10 wx => ∃ (j : Nat) (m : Int), j + g = 3 ∧ 1 ≤ j ∧ s10 = .int .i64 (j : Int) ∧ s8 = .int .i32 m ∧ Hid (P03.contLoop 2 ((s[k].toNat : Int) - 224) ((s.data.toList.drop k).drop 1) = P03.contLoop g m ((s.data.toList.drop k).drop j)) ∧ 0 ≤ m ∧ (m < 8388608 ∧ (j = 3 → m < 131072) ∧ (j = 2 → m < 2048) ∧ (j = 1 → m < 32)) ∧ wx = w)
    case atStart => exact ⟨1, _, rfl, by omega, rfl, rfl, rfl, by omega, by omega, rfl⟩
    case round =>
      obtain ⟨j, m, hjg, hj1, rfl, rfl, HP, hm0, hm, rfl⟩ := hrel
      cases gk with
      | zero =>
        obtain rfl : j = 3 := by omega
        have hfin := P03.tailOf_some (least := 2048) (Int.not_le.2 (unhide HS)) ((unhide HP).trans (P03.cont_0 _ _))
        have HF := hide hfin
        clear hfin hjg
        by_cases hl : m < 2048
        · go_wp2
          go_ret2
          rw [unhide HF, if_pos hl]
          exact ⟨rfl, rfl⟩
        · have hl' : 2048 ≤ m := by omega
          cases hr : P03.rune m
          all_goals
            have HR := hide hr
            go_wp2_with (go_at_call 214; refine (Rune_any _ _).mono ?_; rw [hr]; rintro e w' ⟨rfl, rfl⟩)
            go_ret2
            rw [unhide HF, if_neg (by omega)]
            first
              | (rw [if_pos (unhide HR)]; exact ⟨rfl, rfl⟩)
              | (rw [if_neg (by rw [unhide HR]; simp)]; exact ⟨rfl, rfl⟩)
      | succ g =>
        have HG := hide hjg
        have hjK : j ≤ 2 := by omega
        have hjK' : (j : Int) ≤ 2 := by omega
        clear hjg
        have hkj : k + j < s.size := by omega
        have hkji : (k : Int) + (j : Int) < (s.size : Int) := by omega
        have hb2 : s[k + j].toNat < 256 := s[k + j].toNat_lt
        have g0 := P03.getD_drop s (k + j) hkj
        rw [← List.drop_drop] at g0
        have H0 := hide g0
        clear g0
        by_cases hc : (s[k + j].toNat : Int) < 128 ∨ 192 ≤ (s[k + j].toNat : Int)
        · have hfin := P03.tailOf_none (least := 2048) (Int.not_le.2 (unhide HS)) ((unhide HP).trans (P03.cont_no (unhide H0) hc))
          have HF := hide hfin
          clear hfin
          rcases hc with hc | hc
          all_goals
            go_wp2
            go_ret2
            rw [unhide HF]
            exact ⟨rfl, rfl⟩
        · have hcy := P03.cont_yes (r := g) (n := m) (unhide H0) hc
          rw [List.drop_drop, List.drop_drop] at hcy
          have HC := hide hcy
          clear hcy
          have hc1 : ¬ (s[k + j].toNat : Int) < 128 := by omega
          have hc2 : ¬ 192 ≤ (s[k + j].toNat : Int) := by omega
          clear hc
          go_wp2
          go_roundg g
          case measure => omega
          case rel => exact ⟨j + 1, m * 64 + (s[k + j].toNat : Int) - 128, by have := unhide HG; omega, by omega, by go_num, rfl, by show _ = _; rw [unhide HP, List.drop_drop, unhide HC]; simp only [List.drop_drop]; rw [Nat.add_assoc], by omega, by omega, rfl⟩
set_option maxRecDepth 100000 in
set_option maxHeartbeats 1600000 in
theorem One_c3 (s : ByteArray) (k : Nat) (w : World) (h : s.size ≤ 2097152) (hk : k < s.size) (hlo : 240 ≤ s[k].toNat) (hhi : s[k].toNat < 248) :
    Calls Tryz.prog 190 #[.string s, .int .i64 (k : Int)] w (OnePost w (P03.tailOf 3 ((s[k].toNat : Int) - 240) 65536 (s.data.toList.drop k))) := by
  have hb := s[k].toNat_lt
  have hki : (k : Int) < (s.size : Int) := by omega
  have hlen := P03.drop_len s k
  have HL := hide hlen
  clear hlen
  by_cases hsh : (s.size : Int) - (k : Int) ≤ 3
  · go_enter Tryz.func190, Tryz.ntmps190
    go_wp2
    go_ret2
    rw [P03.tailOf_short (by rw [unhide HL]; omega)]
    exact ⟨rfl, rfl⟩
  · have hls : ((3 : Nat) : Int) < (((s.data.toList.drop k).length : Nat) : Int) := by rw [unhide HL]; omega
    have HS := hide hls
    clear hls
    go_enter Tryz.func190, Tryz.ntmps190
    go_wp2
    go_loopg [8, 10] 3 (fun g s8 s10 wx => ∃ (j : Nat) (m : Int), j + g = 4 ∧ 1 ≤ j ∧ s10 = .int .i64 (j : Int) ∧ s8 = .int .i32 m ∧ Hid (P03.contLoop 3 ((s[k].toNat : Int) - 240) ((s.data.toList.drop k).drop 1) = P03.contLoop g m ((s.data.toList.drop k).drop j)) ∧ 0 ≤ m ∧ (m < 8388608 ∧ (j = 3 → m < 131072) ∧ (j = 2 → m < 2048) ∧ (j = 1 → m < 32)) ∧ wx = w)
    case atStart => exact ⟨1, _, rfl, by omega, rfl, rfl, rfl, by omega, by omega, rfl⟩
    case round =>
      obtain ⟨j, m, hjg, hj1, rfl, rfl, HP, hm0, hm, rfl⟩ := hrel
      cases gk with
      | zero =>
        obtain rfl : j = 4 := by omega
        have hfin := P03.tailOf_some (least := 65536) (Int.not_le.2 (unhide HS)) ((unhide HP).trans (P03.cont_0 _ _))
        have HF := hide hfin
        clear hfin hjg
        by_cases hl : m < 65536
        · go_wp2
          go_ret2
          rw [unhide HF, if_pos hl]
          exact ⟨rfl, rfl⟩
        · have hl' : 65536 ≤ m := by omega
          cases hr : P03.rune m
          all_goals
            have HR := hide hr
            go_wp2_with (go_at_call 214; refine (Rune_any _ _).mono ?_; rw [hr]; rintro e w' ⟨rfl, rfl⟩)
            go_ret2
            rw [unhide HF, if_neg (by omega)]
            first
              | (rw [if_pos (unhide HR)]; exact ⟨rfl, rfl⟩)
              | (rw [if_neg (by rw [unhide HR]; simp)]; exact ⟨rfl, rfl⟩)
      | succ g =>
        have HG := hide hjg
        have hjK : j ≤ 3 := by omega
        have hjK' : (j : Int) ≤ 3 := by omega
        clear hjg
        have hkj : k + j < s.size := by omega
        have hkji : (k : Int) + (j : Int) < (s.size : Int) := by omega
        have hb2 : s[k + j].toNat < 256 := s[k + j].toNat_lt
        have g0 := P03.getD_drop s (k + j) hkj
        rw [← List.drop_drop] at g0
        have H0 := hide g0
        clear g0
        by_cases hc : (s[k + j].toNat : Int) < 128 ∨ 192 ≤ (s[k + j].toNat : Int)
        · have hfin := P03.tailOf_none (least := 65536) (Int.not_le.2 (unhide HS)) ((unhide HP).trans (P03.cont_no (unhide H0) hc))
          have HF := hide hfin
          clear hfin
          rcases hc with hc | hc
          all_goals
            go_wp2
            go_ret2
            rw [unhide HF]
            exact ⟨rfl, rfl⟩
        · have hcy := P03.cont_yes (r := g) (n := m) (unhide H0) hc
          rw [List.drop_drop, List.drop_drop] at hcy
          have HC := hide hcy
          clear hcy
          have hc1 : ¬ (s[k + j].toNat : Int) < 128 := by omega
          have hc2 : ¬ 192 ≤ (s[k + j].toNat : Int) := by omega
          clear hc
          go_wp2
          go_roundg g
          case measure => omega
          case rel => exact ⟨j + 1, m * 64 + (s[k + j].toNat : Int) - 128, by have := unhide HG; omega, by omega, by go_num, rfl, by show _ = _; rw [unhide HP, List.drop_drop, unhide HC]; simp only [List.drop_drop]; rw [Nat.add_assoc], by omega, by omega, rfl⟩
set_option maxRecDepth 100000 in
set_option maxHeartbeats 800000 in
theorem One_any (s : ByteArray) (k : Nat) (w : World) (h : s.size ≤ 2097152) (hk : k < s.size) :
    Calls Tryz.prog 190 #[.string s, .int .i64 (k : Int)] w (OnePost w (P03.one (s.data.toList.drop k))) := by
  have hb := s[k].toNat_lt
  have g0 := P03.getD_drop s k hk
  have hki : (k : Int) < (s.size : Int) := by omega
  by_cases c1 : s[k].toNat < 128
  · have hfin := P03.one_1 g0 c1
    rw [hfin]
    clear hfin g0
    go_enter Tryz.func190, Tryz.ntmps190
    go_wp2
    go_ret2
    exact ⟨rfl, rfl⟩
  · by_cases c2 : 192 ≤ s[k].toNat ∧ s[k].toNat < 248
    · by_cases d1 : s[k].toNat < 224
      · rw [P03.one_2 g0 (by omega) d1]; exact One_c1 s k w h hk (by omega) d1
      · by_cases d2 : s[k].toNat < 240
        · rw [P03.one_3 g0 (by omega) d2]; exact One_c2 s k w h hk (by omega) d2
        · rw [P03.one_4 g0 (by omega) (by omega)]; exact One_c3 s k w h hk (by omega) (by omega)
    · have hfin := P03.one_0 g0 (by omega) (by omega)
      rw [hfin]
      clear hfin g0
      by_cases c3 : s[k].toNat < 192
      all_goals
        go_enter Tryz.func190, Tryz.ntmps190
        go_wp2
        go_ret2
        exact ⟨rfl, rfl⟩
end Go.Proofs.YtefokfbgpfcbkaaGreat
namespace Go.Proofs.YtefokfbgpfcbkaaGreat
set_option linter.unusedVariables false
set_option linter.unusedSimpArgs false
open Go.RowKit
set_option maxRecDepth 100000 in
set_option maxHeartbeats 800000 in
theorem refFirst_any (s : ByteArray) (w : World) (h : s.size ≤ 2097152) :
    Calls Tryz.prog 157 #[.string s] w fun e w' => e = .returned (.int .i64 (P03.first s.data.toList)) ∧ w' = w := by
  go_enter Tryz.func157, Tryz.ntmps157
  go_wp2
  go_loopg [3] s.size (fun g s3 wx => ∃ (k : Nat), k ≤ s.size ∧ s.size ≤ k + g ∧ s3 = .int .i64 (k : Int) ∧ Hid (P03.first s.data.toList = P03.firstBad (g + 1) k (s.data.toList.drop k)) ∧ wx = w)
  case atStart => exact ⟨0, by omega, by omega, rfl, by show _ = _; rw [P03.first, ← Lib.size_eq]; rfl, rfl⟩
  case round =>
    obtain ⟨k, hk, hkg, rfl, HP, rfl⟩ := hrel
    by_cases hlt : k < s.size
    · have hle : (k : Int) < (s.size : Int) := by omega
      have hst : P03.firstBad (gk + 1) k (s.data.toList.drop k) = _ := rfl
      clear hst
      have hne : (s.data.toList.drop k).length ≠ 0 := by rw [P03.drop_len]; omega
      have hbd := P03.one_bd (s.data.toList.drop k) (by rw [P03.drop_len]; omega)
      rw [P03.drop_len] at hbd
      have hstep : P03.firstBad (gk + 1) k (s.data.toList.drop k) = if ((P03.one (s.data.toList.drop k)).1 == 0) = true then (k : Int) else P03.firstBad gk (k + (P03.one (s.data.toList.drop k)).1.toNat) ((s.data.toList.drop k).drop (P03.one (s.data.toList.drop k)).1.toNat) := by
        rw [P03.firstBad, if_neg hne]
      generalize hone : P03.one (s.data.toList.drop k) = x at hbd hstep
      obtain ⟨x1, x2⟩ := x
      simp only at hbd hstep
      obtain ⟨n, rfl⟩ := Int.eq_ofNat_of_zero_le hbd.1
      have HN := hide hone
      have HS := hide hstep
      clear hone hstep hne
      go_wp2_with (go_at_call 190; refine (One_any s k _ h hlt).mono ?_; rw [unhide HN]; rintro e w' ⟨rfl, rfl⟩)
      · go_ret
        refine ⟨ret_int ?_, rfl⟩
        rw [unhide HP, unhide HS, if_pos (by assumption)]
      · have hn1 : n ≠ 0 := by rintro rfl; simp_all
        go_roundg (gk - 1)
        case measure => omega
        case rel =>
          refine ⟨k + n, by omega, by omega, by go_num, ?_, rfl⟩
          show _ = _
          rw [unhide HP, unhide HS, if_neg (nb (by assumption)), Int.toNat_natCast, List.drop_drop, show gk - 1 + 1 = gk from by omega]
    · go_wp2
      go_ret
      refine ⟨ret_int ?_, rfl⟩
      rw [unhide HP, P03.firstBad, if_pos (by rw [P03.drop_len]; omega)]
set_option maxHeartbeats 400000 in
theorem refCheck_any (s : ByteArray) (n : Int) (w : World) (h : s.size ≤ 1100000) :
    Calls Tryz.prog 116 #[.string s, .int .i64 n] w fun e w' => e = .returned (.int .i64 (P03.check s.data.toList n)) ∧ w' = w := by
  go_enter Tryz.func116, Tryz.ntmps116
  go_wp2_with (go_at_call 157; refine (refFirst_any _ _ (Nat.le_trans h (by decide))).mono ?_; rintro e w' ⟨rfl, rfl⟩)
  all_goals go_ret
  all_goals refine ⟨ret_int ?_, rfl⟩
  all_goals rw [P03.check, ← Lib.size_eq]
  all_goals repeat (first | rw [if_pos (by omega)] | rw [if_neg (by omega)])
set_option maxHeartbeats 400000 in
theorem taken_any (s : ByteArray) (k : Nat) (r : Int) (w : World) (h : s.size ≤ 1100000) (hk : k ≤ s.size) :
    Calls Tryz.prog 197 #[.string s, .int .i64 (k : Int), .int .i32 r] w fun e w' => e = .returned (.int .i64 (P03.taken (s.data.toList.drop k) r)) ∧ w' = w := by
  have hki : (k : Int) ≤ (s.size : Int) := by omega
  go_enter Tryz.func197, Tryz.ntmps197
  go_wp2_with (go_at_call 221; refine (Tryz.strings_HasPrefix _ _ _).mono ?_; rintro e w' ⟨rfl, rfl⟩)
  all_goals go_ret
  all_goals refine ⟨ret_int ?_, rfl⟩
  all_goals rw [P03.taken]
  · rw [if_pos (by assumption)]
  all_goals rw [if_neg (nb (by assumption))]
  all_goals rename_i hp
  all_goals rw [List.take_of_length_le (by rw [P03.drop_len]; omega)] at hp
  · rw [if_pos hp]
  · rw [if_neg (nb hp)]
end Go.Proofs.YtefokfbgpfcbkaaGreat
namespace Go.Proofs.YtefokfbgpfcbkaaGreat
set_option linter.unusedVariables false
set_option linter.unusedSimpArgs false
open Go.RowKit
theorem iter_below (w : World) (s : ByteArray) (p : Nat) : Below w.heap.size w (w.iter s p) := (Below.refl _ _).alloc (Nat.le_refl _) _
set_option maxRecDepth 100000 in
set_option maxHeartbeats 800000 in
theorem First_any (s : ByteArray) (w : World) (h : s.size ≤ 1100000) :
    Calls Tryz.prog 168 #[.string s] w fun e w' => e = .returned (.int .i64 (P03.first s.data.toList)) ∧ Below w.heap.size w w' := by
  go_enter Tryz.func168, Tryz.ntmps168
  go_wp2
  go_loopg [] s.size (fun g wx => ∃ (k : Nat), k ≤ s.size ∧ s.size ≤ k + g ∧ Hid (P03.first s.data.toList = P03.firstBad (g + 1) k (s.data.toList.drop k)) ∧ wx = w.iter s k)
  case atStart => exact ⟨0, by omega, by omega, by show _ = _; rw [P03.first, ← Lib.size_eq]; rfl, rfl⟩
  case round =>
    obtain ⟨k, hk, hkg, HP, rfl⟩ := hrel
    by_cases hlt : k < s.size
    · have hnx := fun ty => run_next_any (P := Tryz.prog) w s k ty hlt
      have hne : (s.data.toList.drop k).length ≠ 0 := by rw [P03.drop_len]; omega
      have hbd := P03.one_bd (s.data.toList.drop k) (by rw [P03.drop_len]; omega)
      rw [P03.drop_len] at hbd
      have hstep : P03.firstBad (gk + 1) k (s.data.toList.drop k) = if ((P03.one (s.data.toList.drop k)).1 == 0) = true then (k : Int) else P03.firstBad gk (k + (P03.one (s.data.toList.drop k)).1.toNat) ((s.data.toList.drop k).drop (P03.one (s.data.toList.drop k)).1.toNat) := by
        rw [P03.firstBad, if_neg hne]
      have HS := hide hstep
      have HB := hide hbd
      clear hstep hne hbd
      rcases P03.meets s k hlt with ⟨h1, h2⟩ | ⟨h1, h2, h3⟩
      · have H1 := hide h1
        clear h1
        go_wp2_with (go_at_call 197; refine (taken_any s k _ _ h hk).mono ?_; rintro e w' ⟨rfl, rfl⟩)
        go_ret
        refine ⟨ret_int ?_, iter_below w s _⟩
        rw [unhide HP, unhide HS, if_pos (unhide H1)]
      · have H1 := hide h1
        have H3 := hide h3
        clear h1 h3
        go_wp2_with (go_at_call 197; refine (taken_any s k _ _ h hk).mono ?_; rintro e w' ⟨rfl, rfl⟩)
        have hk1 : 1 ≤ (Utf8.decode s k).2 := by
          have e1 := unhide H1
          rw [unhide H3] at e1
          have := beq_eq_false_iff_ne.1 e1
          omega
        have hk2 : k + (Utf8.decode s k).2 ≤ s.size := by
          have := (unhide HB).2.2
          rw [unhide H3] at this
          omega
        go_roundg (gk - 1)
        case measure => omega
        case rel =>
          refine ⟨k + (Utf8.decode s k).2, hk2, by omega, ?_, rfl⟩
          show _ = _
          rw [unhide HP, unhide HS, if_neg (nb (unhide H1)), unhide H3, Int.toNat_natCast, List.drop_drop, show gk - 1 + 1 = gk from by omega]
    · have hnx := fun ty => run_next_end (P := Tryz.prog) w s k ty hlt
      go_wp2
      go_ret
      refine ⟨ret_int ?_, iter_below w s _⟩
      rw [unhide HP, P03.firstBad, if_pos (by rw [P03.drop_len]; omega)]
set_option maxHeartbeats 400000 in
theorem Check_any (s : ByteArray) (n : Int) (w : World) (h : s.size ≤ 1100000) :
    Calls Tryz.prog 128 #[.string s, .int .i64 n] w fun e w' => e = .returned (.int .i64 (P03.check s.data.toList n)) ∧ Below w.heap.size w w' := by
  go_enter Tryz.func128, Tryz.ntmps128
  go_wp2_with (go_at_call 168; refine (First_any _ _ (by assumption)).mono ?_; rintro e w' ⟨rfl, hb⟩)
  all_goals go_ret
  all_goals refine ⟨ret_int ?_, by first | exact Below.refl _ _ | assumption⟩
  all_goals rw [P03.check, ← Lib.size_eq]
  all_goals repeat (first | rw [if_pos (by omega)] | rw [if_neg (by omega)])
end Go.Proofs.YtefokfbgpfcbkaaGreat
namespace Go.Proofs.YtefokfbgpfcbkaaGreat
set_option linter.unusedVariables false
set_option linter.unusedSimpArgs false
open Go.RowKit
end Go.Proofs.YtefokfbgpfcbkaaGreat
namespace Go.Proofs.YtefokfbgpfcbkaaGreat
set_option linter.unusedVariables false
set_option linter.unusedSimpArgs false
open Go.RowKit
end Go.Proofs.YtefokfbgpfcbkaaGreat
namespace Go.Proofs.YtefokfbgpfcbkaaGreat
set_option linter.unusedVariables false
set_option linter.unusedSimpArgs false
open Go.RowKit Go.Shelf
attribute [local go_sem] Oper.semAt_some
theorem setCell_grown (W : World) (g i : Nat) (v : Value) : W.grownBy (W.setCell ⟨g, i, none⟩ v) (some g) :=
  ⟨rfl, rfl, rfl, (KeepsWalks.setCell W _ v).size, fun k _ hk => Below.heap_setCell _ _ _ k (fun e => hk (by rw [e]))⟩
end Go.Proofs.YtefokfbgpfcbkaaGreat
namespace Go.Proofs.YtefokfbgpfcbkaaGreat
set_option linter.unusedVariables false
set_option linter.unusedSimpArgs false
open Go.RowKit Go.Shelf
attribute [local go_sem] Oper.semAt_some
end Go.Proofs.YtefokfbgpfcbkaaGreat
namespace Go.Proofs.YtefokfbgpfcbkaaGreat
set_option linter.unusedVariables false
set_option linter.unusedSimpArgs false
open Go.RowKit Go.Shelf
end Go.Proofs.YtefokfbgpfcbkaaGreat
namespace Go.Proofs.YtefokfbgpfcbkaaGreat
set_option linter.unusedVariables false
set_option linter.unusedSimpArgs false
open Go.RowKit
end Go.Proofs.YtefokfbgpfcbkaaGreat
namespace Go.Proofs.YtefokfbgpfcbkaaGreat
set_option linter.unusedVariables false
set_option linter.unusedSimpArgs false
open Go.RowKit
end Go.Proofs.YtefokfbgpfcbkaaGreat
namespace Go.Proofs.YtefokfbgpfcbkaaGreat
set_option linter.unusedVariables false
set_option linter.unusedSimpArgs false
open Go.RowKit Go.Shelf
theorem alloc2_new (w : World) (o1 o2 : Obj) : ((w.alloc o1).alloc o2).heap[w.heap.size + 1]? = some o2 := by
  have h := World.alloc_heap_new (w.alloc o1) o2
  rw [World.size_alloc] at h
  exact h
end Go.Proofs.YtefokfbgpfcbkaaGreat
namespace Go.Proofs.YtefokfbgpfcbkaaGreat
set_option linter.unusedVariables false
set_option linter.unusedSimpArgs false
open Go.RowKit
set_option maxHeartbeats 400000 in
theorem stands_any (c : UInt8) (n : Int) (w : World) (h0 : 0 ≤ n) :
    Calls Tryz.prog 204 #[.int .u8 (c.toNat : Int), .int .i64 n] w fun e w' => e = .returned (.bool (P18.stands c (decide (0 < n)))) ∧ w' = w := by
  go_enter Tryz.func204, Tryz.ntmps204
  go_wp2_with (go_at_call 227; refine (Tryz.strings_IndexByte _ _ _).mono ?_; rintro e w' ⟨rfl, rfl⟩)
  all_goals go_ret
  all_goals refine ⟨ret_bool ?_, rfl⟩
  all_goals rw [P18.stands_key]
  all_goals first | rw [if_pos (by omega)] | (rw [if_neg (by omega)]; first | rw [if_pos (by omega)] | rw [if_neg (by omega)])
  all_goals simp
  all_goals omega
set_option maxHeartbeats 400000 in
theorem plain_any (s : ByteArray) (w : World) (h : s.size ≤ maxLen) :
    Calls Tryz.prog 173 #[.string s] w fun e w' => e = .returned (.int .i64 (P18.plainLen false s.data.toList)) ∧ w' = w := by
  unfold maxLen at h
  go_enter Tryz.func173, Tryz.ntmps173
  go_wp2
  go_loop [3] (fun n => ∃ k : Nat, k ≤ s.size ∧ n = .int .i64 k ∧ P18.plainLen false s.data.toList = P18.plainLen (decide (0 < k)) (s.data.toList.drop k) + k) (fun n => s.size - (intOf n).toNat)
  case atStart => exact ⟨0, Nat.zero_le _, rfl, rfl⟩
  case round =>
    obtain ⟨k, hk, rfl, hp⟩ := hrel
    have HP := hide hp
    clear hp
    by_cases hlt : k < s.size
    · have hd := P18.plainLen_drop (pos := decide (0 < k)) (l := s.data.toList) (k := k) (by simpa using hlt)
      have e0 : s.data.toList[k]'(by simpa using hlt) = s[k] := rfl
      rw [e0] at hd
      by_cases hs : P18.stands s[k] (decide (0 < k)) = true
      all_goals
        have HD := hide hd
        clear hd e0
        go_wp2_with (go_at_call 204; refine (stands_any _ _ _ (by omega)).mono ?_; rintro e w' ⟨rfl, rfl⟩)
        first
          | (go_round
             case rel => exact ⟨k + 1, by omega, by go_num, by rw [unhide HP, unhide HD, if_pos hs]; simp; omega⟩
             case measure => simp [intOf]; omega)
          | (go_ret
             exact ⟨ret_int (by rw [unhide HP, unhide HD, if_neg hs]; simp), rfl⟩)
    · go_wp2_with fail
      go_ret
      exact ⟨ret_int (by rw [unhide HP, List.drop_of_length_le (by simp; omega)]; simp [P18.plainLen]), rfl⟩
end Go.Proofs.YtefokfbgpfcbkaaGreat
namespace Go.Proofs.YtefokfbgpfcbkaaGreat
set_option linter.unusedVariables false
set_option linter.unusedSimpArgs false
open Go.RowKit
set_option maxHeartbeats 400000 in
theorem Plain_any (s : ByteArray) (w : World) (h : s.size ≤ maxLen) :
    Calls Tryz.prog 130 #[.string s] w fun e w' => e = .returned (.bool (P18.plain s.data.toList)) ∧ w' = w := by
  go_enter Tryz.func130, Tryz.ntmps130
  go_wp2_with (go_at_call 173; refine (plain_any _ _ (by assumption)).mono ?_; rintro e w' ⟨rfl, rfl⟩)
  all_goals go_ret
  all_goals refine ⟨ret_bool ?_, rfl⟩
  all_goals rw [P18.plain, ← Lib.size_eq, ← Lib.toList_data]
  all_goals simp [*]
end Go.Proofs.YtefokfbgpfcbkaaGreat
namespace Go.Proofs.YtefokfbgpfcbkaaGreat
set_option linter.unusedVariables false
set_option linter.unusedSimpArgs false
open Go.RowKit
end Go.Proofs.YtefokfbgpfcbkaaGreat
namespace Go.Proofs.YtefokfbgpfcbkaaGreat
set_option linter.unusedVariables false
set_option linter.unusedSimpArgs false
open Go.RowKit
end Go.Proofs.YtefokfbgpfcbkaaGreat
namespace Go.Proofs.YtefokfbgpfcbkaaGreat
set_option linter.unusedVariables false
set_option linter.unusedSimpArgs false
open Go.RowKit
end Go.Proofs.YtefokfbgpfcbkaaGreat
namespace Go.Proofs.YtefokfbgpfcbkaaGreat
set_option linter.unusedVariables false
set_option linter.unusedSimpArgs false
open Go.RowKit
end Go.Proofs.YtefokfbgpfcbkaaGreat
namespace Go.Proofs.YtefokfbgpfcbkaaGreat
set_option linter.unusedVariables false
set_option linter.unusedSimpArgs false
open Go.RowKit Go.Lib Go.Sort
end Go.Proofs.YtefokfbgpfcbkaaGreat
