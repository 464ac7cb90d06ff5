/- walks of layer 17: line.odd. -/
import Derived.Test.YtbnheebblicgkaaDoorW03c
import Derived.Test.YtbnheebblicgkaaDoorPlain17b
namespace Go.Proofs.YtbnheebblicgkaaDoor
set_option linter.unusedVariables false
set_option linter.unusedSimpArgs false
open Go.RowKit
theorem odd1_any (r : Nat) (w : World) :
    Calls Tryd.prog 77 #[.int .i32 r] w fun e w' => e = .returned (.bool (oddN r)) ∧ w' = w := by
  by_cases h1 : r < 32
  · have h2 : (r : Int) < 32 := by omega
    have h3 : oddN r = true := by simp [oddN, h1]
    rw [h3]
    clear h1 h3
    go_enter Tryd.func77, Tryd.ntmps77
    go_wp2
    go_ret
    exact ⟨rfl, rfl⟩
  · by_cases h2 : r = 127
    · subst h2
      rw [show oddN 127 = true from rfl]
      go_enter Tryd.func77, Tryd.ntmps77
      go_wp2
      go_ret
      exact ⟨rfl, rfl⟩
    · have h3 : oddN r = false := by unfold oddN; simp; omega
      rw [h3]
      have h4 : (32 : Int) ≤ (r : Int) := by omega
      have h5 : ((r : Int) == 127) = false := by simp; omega
      clear h1 h2 h3
      go_enter Tryd.func77, Tryd.ntmps77
      go_wp2
      go_ret
      exact ⟨ret_bool (decide_eq_false (by omega)), rfl⟩
set_option maxRecDepth 100000 in
set_option maxHeartbeats 800000 in
theorem oddIndex_any (s : ByteArray) (w : World) (h : s.size ≤ 1099511627776) :
    Calls Tryd.prog 112 #[.string s, .func (.func 77) #[] #[], .bool true] w fun e w' =>
      ∃ k : Int, e = .returned (.int .i64 k) ∧ (decide (0 ≤ k) = s.data.toList.any oddB) ∧ Below w.heap.size w w' := by
  go_enter Tryd.func112, Tryd.ntmps112
  go_wp2
  go_loopg [] s.size (fun g wx => ∃ (k : Nat), k ≤ s.size ∧ s.size ≤ k + g ∧ Hid (s.data.toList.any oddB = (s.data.toList.drop k).any oddB) ∧ wx = w.iter s k)
  case atStart => exact ⟨0, by omega, by omega, hide rfl, rfl⟩
  case round =>
    obtain ⟨k, hk, hkg, HP, rfl⟩ := hrel
    by_cases hlt : k < s.size
    · have hnx := fun ty => run_next_any (P := Tryd.prog) w s k ty hlt
      obtain ⟨d1, d2, d3⟩ := decode_odd s k hlt
      have hsp : (s.data.toList.drop k).any oddB = (oddN (Utf8.decode s k).1 || (s.data.toList.drop (k + (Utf8.decode s k).2)).any oddB) := by
        rw [← d3, ← List.drop_drop, ← List.any_append, List.take_append_drop]
      have HS := hide hsp
      clear hsp d3
      cases ho : oddN (Utf8.decode s k).1 with
      | true =>
        have HO := hide ho
        clear ho
        go_wp2_with (go_at_call 77; refine (odd1_any _ _).mono ?_; rintro e w' ⟨rfl, rfl⟩; rw [unhide HO])
        go_ret
        refine ⟨_, rfl, ?_, iter_below w s _⟩
        rw [unhide HP, unhide HS, unhide HO]
        simp
      | false =>
        have HO := hide ho
        clear ho
        go_wp2_with (go_at_call 77; refine (odd1_any _ _).mono ?_; rintro e w' ⟨rfl, rfl⟩; rw [unhide HO])
        go_roundg (gk - 1)
        case measure => omega
        case rel =>
          refine ⟨k + (Utf8.decode s k).2, d2, by omega, hide ?_, rfl⟩
          rw [unhide HP, unhide HS, unhide HO, Bool.false_or]
    · have hnx := fun ty => run_next_end (P := Tryd.prog) w s k ty hlt
      go_wp2
      go_ret
      refine ⟨_, rfl, ?_, iter_below w s _⟩
      rw [unhide HP, List.drop_eq_nil_of_le (by rw [← Lib.size_eq]; omega)]
      rfl
set_option maxHeartbeats 400000 in
theorem odd_any (s : ByteArray) (w : World) (h : s.size ≤ 1099511627776) :
    Calls Tryd.prog 47 #[.string s] w fun e w' => e = .returned (.bool (s.data.toList.any oddB)) ∧ Below w.heap.size w w' := by
  obtain ⟨B, hB⟩ : ∃ B, s.data.toList.any oddB = B := ⟨_, rfl⟩
  rw [hB]
  have hI : ∀ w, Calls Tryd.prog 98 #[.string s, .func (.func 77) #[] #[]] w fun e w' =>
      ∃ k : Int, e = .returned (.int .i64 k) ∧ (decide (0 ≤ k) = B) ∧ Below w.heap.size w w' := by
    intro w
    go_enter Tryd.func98, Tryd.ntmps98
    go_wp2_with (go_at_call 112; refine (oddIndex_any s _ h).mono ?_; rintro e w' ⟨k, rfl, hk, hb⟩)
    go_ret
    exact ⟨k, rfl, hk.trans hB, hb⟩
  have hC : ∀ w, Calls Tryd.prog 76 #[.string s, .func (.func 77) #[] #[]] w fun e w' =>
      e = .returned (.bool (B)) ∧ Below w.heap.size w w' := by
    intro w
    go_enter Tryd.func76, Tryd.ntmps76
    go_wp2_with (go_at_call 98; refine (hI _).mono ?_; rintro e w' ⟨k, rfl, hk, hb⟩; have HK := hide hk; clear hk)
    all_goals go_ret
    all_goals exact ⟨ret_bool (unhide HK), hb⟩
  go_enter Tryd.func47, Tryd.ntmps47
  go_wp2_with (go_at_call 76; refine (hC _).mono ?_; rintro e w' ⟨rfl, hb⟩)
  all_goals go_ret
  all_goals exact ⟨rfl, hb⟩
end Go.Proofs.YtbnheebblicgkaaDoor
