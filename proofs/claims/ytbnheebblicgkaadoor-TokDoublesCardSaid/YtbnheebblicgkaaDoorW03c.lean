/- walks of layer 3: utf.First, Check -/
import Derived.Test.YtbnheebblicgkaaDoorW03b
import Derived.Test.YtbnheebblicgkaaDoorPlain03b
namespace Go.Proofs.YtbnheebblicgkaaDoor
set_option linter.unusedVariables false
set_option linter.unusedSimpArgs false
open Go.RowKit
theorem iter_below (w : World) (s : ByteArray) (p : Nat) : Below w.heap.size w (w.iter s p) := (Below.refl _ _).alloc (Nat.le_refl _) _
set_option maxRecDepth 100000 in
set_option maxHeartbeats 800000 in
theorem First_any (s : ByteArray) (w : World) (h : s.size ≤ 1000000) :
    Calls Tryd.prog 45 #[.string s] w fun e w' => e = .returned (.int .i64 (P03.first s.data.toList)) ∧ Below w.heap.size w w' := by
  go_enter Tryd.func45, Tryd.ntmps45
  go_wp2
  go_loopg [] s.size (fun g wx => ∃ (k : Nat), k ≤ s.size ∧ s.size ≤ k + g ∧ Hid (P03.first s.data.toList = P03.firstBad (g + 1) k (s.data.toList.drop k)) ∧ wx = w.iter s k)
  case atStart => exact ⟨0, by omega, by omega, by show _ = _; rw [P03.first, ← Lib.size_eq]; rfl, rfl⟩
  case round =>
    obtain ⟨k, hk, hkg, HP, rfl⟩ := hrel
    by_cases hlt : k < s.size
    · have hnx := fun ty => run_next_any (P := Tryd.prog) w s k ty hlt
      have hne : (s.data.toList.drop k).length ≠ 0 := by rw [P03.drop_len]; omega
      have hbd := P03.one_bd (s.data.toList.drop k) (by rw [P03.drop_len]; omega)
      rw [P03.drop_len] at hbd
      have hstep : P03.firstBad (gk + 1) k (s.data.toList.drop k) = if ((P03.one (s.data.toList.drop k)).1 == 0) = true then (k : Int) else P03.firstBad gk (k + (P03.one (s.data.toList.drop k)).1.toNat) ((s.data.toList.drop k).drop (P03.one (s.data.toList.drop k)).1.toNat) := by
        rw [P03.firstBad, if_neg hne]
      have HS := hide hstep
      have HB := hide hbd
      clear hstep hne hbd
      rcases P03.meets s k hlt with ⟨h1, h2⟩ | ⟨h1, h2, h3⟩
      · have H1 := hide h1
        clear h1
        go_wp2_with (go_at_call 72; refine (taken_any s k _ _ h hk).mono ?_; rintro e w' ⟨rfl, rfl⟩)
        go_ret
        refine ⟨ret_int ?_, iter_below w s _⟩
        rw [unhide HP, unhide HS, if_pos (unhide H1)]
      · have H1 := hide h1
        have H3 := hide h3
        clear h1 h3
        go_wp2_with (go_at_call 72; refine (taken_any s k _ _ h hk).mono ?_; rintro e w' ⟨rfl, rfl⟩)
        have hk1 : 1 ≤ (Utf8.decode s k).2 := by
          have e1 := unhide H1
          rw [unhide H3] at e1
          have := beq_eq_false_iff_ne.1 e1
          omega
        have hk2 : k + (Utf8.decode s k).2 ≤ s.size := by
          have := (unhide HB).2.2
          rw [unhide H3] at this
          omega
        go_roundg (gk - 1)
        case measure => omega
        case rel =>
          refine ⟨k + (Utf8.decode s k).2, hk2, by omega, ?_, rfl⟩
          show _ = _
          rw [unhide HP, unhide HS, if_neg (nb (unhide H1)), unhide H3, Int.toNat_natCast, List.drop_drop, show gk - 1 + 1 = gk from by omega]
    · have hnx := fun ty => run_next_end (P := Tryd.prog) w s k ty hlt
      go_wp2
      go_ret
      refine ⟨ret_int ?_, iter_below w s _⟩
      rw [unhide HP, P03.firstBad, if_pos (by rw [P03.drop_len]; omega)]
set_option maxHeartbeats 400000 in
theorem Check_any (s : ByteArray) (n : Int) (w : World) (h : s.size ≤ 1000000) :
    Calls Tryd.prog 108 #[.string s, .int .i64 n] w fun e w' => e = .returned (.int .i64 (P03.check s.data.toList n)) ∧ Below w.heap.size w w' := by
  go_enter Tryd.func108, Tryd.ntmps108
  go_wp2_with (go_at_call 45; refine (First_any _ _ (by assumption)).mono ?_; rintro e w' ⟨rfl, hb⟩)
  all_goals go_ret
  all_goals refine ⟨ret_int ?_, by first | exact Below.refl _ _ | assumption⟩
  all_goals rw [P03.check, ← Lib.size_eq]
  all_goals repeat (first | rw [if_pos (by omega)] | rw [if_neg (by omega)])
end Go.Proofs.YtbnheebblicgkaaDoor
