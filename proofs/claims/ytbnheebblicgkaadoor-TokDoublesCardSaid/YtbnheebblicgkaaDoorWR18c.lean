/- walks of rescriptref18: Cut -/
import Derived.Test.YtbnheebblicgkaaDoorWR18a
import Derived.Test.YtbnheebblicgkaaDoorPlainR18d
namespace Go.Proofs.YtbnheebblicgkaaDoor
set_option linter.unusedVariables false
set_option linter.unusedSimpArgs false
open Go.RowKit
set_option maxRecDepth 100000 in
set_option maxHeartbeats 1600000 in
theorem refCut_quoted (s : ByteArray) (w : World) (h : s.size ≤ 100000) (hp : 0 < s.size) (hq : s[0].toNat = 34) :
    Calls Tryd.prog 43 #[.string s] w fun e w' => e = .returned (.tuple #[.int .i64 (P18.cut s.data.toList).1, .int .i64 (P18.cut s.data.toList).2]) ∧ w' = w := by
  have hi0 : (0 : Int) < (s.size : Int) := by omega
  have hne := ne_of_size hp
  have hq' : ((s[0].toNat : Int) != 34) = false := by simp; omega
  have g0 : s.data.toList.getD 0 0 = s[0] := by rw [List.getD_eq_getElem?_getD, Lib.data_getElem? s 0 hp]; rfl
  have hsz := Lib.size_eq s
  have hcut := R18.cut_quoted (l := s.data.toList) ((P18.prefix_iff _).2 ⟨by omega, by rw [g0]; exact hq⟩)
  rw [R18.cutQ_0 (by omega)] at hcut
  have HC := hide hcut
  have HZ := hide hsz
  clear hcut g0 hq hsz
  go_enter Tryd.func43, Tryd.ntmps43
  go_wp2_with fail
  go_loopg [5] (s.size + 1) (fun g s5 wx => ∃ (k : Nat), 1 ≤ k ∧ k ≤ s.size + 1 ∧ s.size + 1 ≤ k + g ∧ s5 = .int .i64 (k : Int) ∧ Hid (P18.cutQ 1 false (s.data.toList.drop 1) = P18.cutQ k false (s.data.toList.drop k)) ∧ wx = w)
  case atStart => exact ⟨1, by omega, by omega, by omega, rfl, rfl, rfl⟩
  case round =>
    obtain ⟨k, hk1, hk, hkg, rfl, HP, rfl⟩ := hrel
    by_cases hlt : k < s.size
    · have hle : (k : Int) < (s.size : Int) := by omega
      have hll : k < s.data.toList.length := by rw [← unhide HZ]; exact hlt
      have e0 : s.data.toList[k]'hll = s[k] := rfl
      by_cases h34 : s[k].toNat = 34
      · have hfin : P18.cut s.data.toList = (k + 1, 0) := by rw [unhide HC, unhide HP, R18.cutQ_quote hll (by omega) (by rw [e0]; exact h34)]
        have HF := hide hfin
        have h34' : ((s[k].toNat : Int) != 34) = false := by simp; omega
        clear hfin e0 h34
        go_wp2_with fail
        go_ret2
        rw [unhide HF]
        exact ⟨ret_tup2 rfl rfl, rfl⟩
      · have h34' : ((s[k].toNat : Int) != 34) = true := by simp; omega
        by_cases h92 : s[k].toNat = 92
        · have hst := R18.cutQ_esc hll (by omega) (by rw [e0]; exact h92)
          have HS := hide hst
          have h92' : ((s[k].toNat : Int) == 92) = true := by simp; omega
          clear hst e0 h34 h92
          go_wp2_with fail
          go_roundg (gk - 2)
          case measure => omega
          case rel => exact ⟨k + 2, by omega, by omega, by omega, by go_num, by show _ = _; rw [unhide HP, unhide HS], rfl⟩
        · have hst := R18.cutQ_else hll (by omega) (by rw [e0]; exact h34) (by rw [e0]; exact h92)
          have HS := hide hst
          have h92' : ((s[k].toNat : Int) == 92) = false := by simp; omega
          clear hst e0 h34 h92
          go_wp2_with fail
          go_roundg (gk - 1)
          case measure => omega
          case rel => exact ⟨k + 1, by omega, by omega, by omega, by go_num, by show _ = _; rw [unhide HP, unhide HS], rfl⟩
    · have hfin : P18.cut s.data.toList = (0, 3) := by rw [unhide HC, unhide HP, R18.cutQ_past (by rw [← unhide HZ]; omega)]
      have HF := hide hfin
      clear hfin
      go_wp2_with fail
      go_ret2
      rw [unhide HF]
      exact ⟨ret_tup2 rfl rfl, rfl⟩
set_option maxRecDepth 100000 in
set_option maxHeartbeats 400000 in
theorem refCut_any (s : ByteArray) (w : World) (h : s.size ≤ 100000) :
    Calls Tryd.prog 43 #[.string s] w fun e w' => e = .returned (.tuple #[.int .i64 (P18.cut s.data.toList).1, .int .i64 (P18.cut s.data.toList).2]) ∧ w' = w := by
  by_cases hp : 0 < s.size
  · by_cases hq : s[0].toNat = 34
    · exact refCut_quoted s w h hp hq
    · exact refCut_plain s w h hp hq
  · have hl : s.data.toList = [] := List.eq_nil_of_length_eq_zero (by rw [← Lib.size_eq]; omega)
    have hne : s.toList.isEmpty = true := by rw [Lib.toList_data, hl]; rfl
    rw [hl]
    clear hl
    go_enter Tryd.func43, Tryd.ntmps43
    go_wp2_with fail
    go_ret2
    exact ⟨rfl, rfl⟩
end Go.Proofs.YtbnheebblicgkaaDoor
