/- walks of rescriptref18: Quote, Put -/
import Derived.Test.YthnfiijojamlaaaWR18a
import Derived.Test.YthnfiijojamlaaaPlainR18b
import Derived.Test.YthnfiijojamlaaaBytes
namespace Go.Proofs.Ythnfiijojamlaaa
set_option linter.unusedVariables false
set_option linter.unusedSimpArgs false
open Go.RowKit
set_option maxRecDepth 100000 in
set_option maxHeartbeats 1600000 in
theorem refQuote_any (s : ByteArray) (w : World) (h : s.size ≤ 100000) :
    Calls Try.prog 15 #[.string s] w fun e w' => ∃ b : ByteArray, e = .returned (.string b) ∧ b.data.toList = P18.quote s.data.toList ∧ Below w.heap.size w w' := by
  go_enter Try.func15, Try.ntmps15
  go_wp2
  go_loopg [3, 4] s.size (fun g s3 s4 wx => ∃ (k n : Nat) (b : ByteArray), k + g = s.size ∧ s4 = .int .i64 (k : Int) ∧ s3 = .string b ∧ Hid (P18.quote s.data.toList = b.data.toList ++ ((s.data.toList.drop k).flatMap P18.quoteOne ++ [34])) ∧ b.size ≤ 1 + 5 * k ∧ wx = w.drewN n)
  case atStart => exact ⟨0, 0, _, by omega, rfl, rfl, by show _ = _; rfl, by decide, rfl⟩
  case round =>
    obtain ⟨k, n, b, hkg, rfl, rfl, HP, hol, hw⟩ := hrel
    have HW := hide hw
    clear hw
    cases gk with
    | zero =>
      obtain rfl : k = s.size := by omega
      go_wp2
      go_ret
      refine ⟨_, rfl, ?_, ?_⟩
      · rw [unhide HP, List.drop_of_length_le (by rw [← Lib.size_eq]; omega)]; simp
      · rw [unhide HW]; exact below_drewN (Below.refl _ _)
    | succ g =>
      have hlt : k < s.size := by omega
      have hle : (k : Int) < (s.size : Int) := by omega
      have hq := P18.quote_drop (l := s.data.toList) (k := k) (by simpa using hlt)
      have e0 : s.data.toList[k]'(by simpa using hlt) = s[k] := rfl
      rw [e0] at hq
      have hb8 := s[k].toNat_lt
      have hql := P18.quoteOne_len s[k]
      have hqe := R18.quoteOne_ends s[k]
      have HE := hide hqe
      have HL := hide hql
      have HQ := hide hq
      have HG := hide hkg
      clear hkg hq e0 hqe hql
      go_wp2_with fail
      all_goals try go_quiet (fail)
      all_goals try go_wp2_with fail
      all_goals
        simp only [beq_iff_eq, beq_eq_false_iff_ne] at *
        have he := unhide HE
        repeat (first | rw [if_pos (by omega)] at he | rw [if_neg (by omega)] at he)
        go_roundg g
        case measure => omega
        case rel =>
          refine ⟨k + 1, _, _, by have := unhide HG; omega, by go_num, rfl, ?_, ?_, by first | (rw [unhide HW, World.drewN_drewN]) | exact unhide HW⟩
          · show _ = _
            rw [unhide HP, unhide HQ, ← he]
            simp only [R18.append_data, R18.one_byte s k hlt, List.append_assoc, List.cons_append, List.nil_append, P18.hexes]
          · have hl := unhide HL
            rw [← he] at hl
            rw [Lib.size_eq] at hol ⊢
            simp only [R18.append_data, R18.one_byte s k hlt, List.length_append, List.length_cons, List.length_nil, P18.hexes] at hl ⊢
            omega
set_option maxRecDepth 100000 in
set_option maxHeartbeats 400000 in
theorem refPut_any (s : ByteArray) (w : World) (h : s.size ≤ 100000) :
    Calls Try.prog 17 #[.string s] w fun e w' => ∃ b : ByteArray, e = .returned (.string b) ∧ b.data.toList = P18.put s.data.toList ∧ Below w.heap.size w w' := by
  have hm : s.size ≤ maxLen := by unfold maxLen; omega
  cases hp : P18.plain s.data.toList
  · have hfin : P18.put s.data.toList = P18.quote s.data.toList := by rw [P18.put, hp]; rfl
    have HF := hide hfin
    clear hfin
    go_enter Try.func17, Try.ntmps17
    go_wp2_with (first
      | (go_at_call 13; refine (refPlain_any _ _ hm).mono ?_; rw [hp]; rintro e w' ⟨rfl, rfl⟩)
      | (go_at_call 15; refine (refQuote_any _ _ h).mono ?_; rintro e w' ⟨b, rfl, hq, hb⟩; have HQ := hide hq; clear hq))
    go_ret
    exact ⟨b, rfl, by rw [unhide HF, unhide HQ], hb⟩
  · have hfin : P18.put s.data.toList = s.data.toList := by rw [P18.put, hp]; rfl
    have HF := hide hfin
    clear hfin
    go_enter Try.func17, Try.ntmps17
    go_wp2_with (first
      | (go_at_call 13; refine (refPlain_any _ _ hm).mono ?_; rw [hp]; rintro e w' ⟨rfl, rfl⟩))
    go_ret
    exact ⟨s, rfl, by rw [unhide HF], Below.refl _ _⟩
end Go.Proofs.Ythnfiijojamlaaa
