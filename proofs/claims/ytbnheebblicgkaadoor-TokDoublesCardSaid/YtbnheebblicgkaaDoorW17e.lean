/- walks of layer 17: line.Strip. -/
import Derived.Test.YtbnheebblicgkaaDoorPlain17
import Derived.Test.YtbnheebblicgkaaDoorShelf
namespace Go.Proofs.YtbnheebblicgkaaDoor
set_option linter.unusedVariables false
set_option linter.unusedSimpArgs false
open Go.RowKit
def blAt (l : List UInt8) (k : Nat) : Bool := k == 0 || l[k - 1]? == some 32
theorem i34 (c : UInt8) : ((c.toNat : Int) == 34) = (c == 34) := by revert c; apply all_bytes; decide +kernel
theorem i35 (c : UInt8) : ((c.toNat : Int) == 35) = (c == 35) := by revert c; apply all_bytes; decide +kernel
theorem i92 (c : UInt8) : ((c.toNat : Int) == 92) = (c == 92) := by revert c; apply all_bytes; decide +kernel
theorem i32 (c : UInt8) : ((c.toNat : Int) == 32) = (c == 32) := by revert c; apply all_bytes; decide +kernel
theorem blAt_succ (s : ByteArray) (k : Nat) (h : k < s.size) : blAt s.data.toList (k + 1) = (s[k] == 32) := by
  unfold blAt
  rw [Nat.add_sub_cancel, Lib.data_getElem? s k h]
  have : (k + 1 == 0) = false := by simp
  rw [this, Bool.false_or]
  cases hc : (s[k] == 32)
  · simp at hc ⊢; exact hc
  · simp at hc ⊢; exact hc
theorem remark_step (s : ByteArray) (k : Nat) (w t : Bool) (h : k < s.size) :
    remarkAt (blAt s.data.toList k) w t k (s.data.toList.drop k) =
      if t then remarkAt (blAt s.data.toList (k + 1)) w false (k + 1) (s.data.toList.drop (k + 1))
      else if w && s[k] == 92 then remarkAt (blAt s.data.toList (k + 1)) w true (k + 1) (s.data.toList.drop (k + 1))
      else if s[k] == 34 then remarkAt (blAt s.data.toList (k + 1)) (!w) false (k + 1) (s.data.toList.drop (k + 1))
      else if w || s[k] != 35 then remarkAt (blAt s.data.toList (k + 1)) w false (k + 1) (s.data.toList.drop (k + 1))
      else if blAt s.data.toList k then k
      else remarkAt (blAt s.data.toList (k + 1)) w false (k + 1) (s.data.toList.drop (k + 1)) := by
  have hl : k < s.data.toList.length := by rw [← Lib.size_eq]; exact h
  rw [List.drop_eq_getElem_cons hl, remarkAt, blAt_succ s k h]
  rfl
theorem remark_end (s : ByteArray) (k : Nat) (b w t : Bool) (h : s.size ≤ k) : remarkAt b w t k (s.data.toList.drop k) = k := by
  rw [List.drop_eq_nil_of_le (by rw [← Lib.size_eq]; exact h), remarkAt]
theorem TrimR_any (s : ByteArray) (w : World) (hs : s.size ≤ 1099511627776) :
    Calls Tryd.prog 32 #[.string s, .string ⟨#[32]⟩] w fun e w' => e = .returned (.string ⟨(trimR s.data.toList).toArray⟩) ∧ w' = w :=
  Tryd.strings_TrimRight_one s 32 (by decide) w (by omega)
theorem TrimL_any (s : ByteArray) (w : World) :
    Calls Tryd.prog 30 #[.string s, .string ⟨#[32]⟩] w fun e w' => e = .returned (.string ⟨(trimL s.data.toList).toArray⟩) ∧ w' = w :=
  Tryd.strings_TrimLeft_one s 32 (by decide) w
theorem strip_at {s : ByteArray} {k : Nat} (h : remarkAt true false false 0 s.data.toList = k) : strip17 s.data.toList = trimR (s.extract 0 k).data.toList := by
  rw [strip17, h, Lib.extract_data, List.drop_zero, Nat.sub_zero]
theorem extract_full (s : ByteArray) : s.extract 0 s.size = s := by
  rw [Lib.extract_eq, List.drop_zero, Nat.sub_zero, List.take_of_length_le (by rw [← Lib.size_eq]; exact Nat.le_refl _)]
set_option maxRecDepth 100000 in
set_option maxHeartbeats 1600000 in
theorem Strip_any (s : ByteArray) (w : World) (h : s.size ≤ 1099511627776) :
    Calls Tryd.prog 16 #[.string s] w fun e w' => e = .returned (.string ⟨(strip17 s.data.toList).toArray⟩) ∧ ∃ n, w' = w.drewN n := by
  go_enter Tryd.func16, Tryd.ntmps16
  go_wp2
  go_step3
  go_wp2
  go_step3
  go_wp2
  go_loopg [3, 4, 5, 11] s.size (fun g s3 s4 s5 s11 wx => ∃ (k n : Nat) (wi ta : Bool), k + g = s.size ∧ s3 = .int .i64 s.size ∧ s4 = .bool wi ∧ s5 = .bool ta ∧ s11 = .int .i64 k ∧
    Hid (remarkAt true false false 0 s.data.toList = remarkAt (blAt s.data.toList k) wi ta k (s.data.toList.drop k)) ∧ wx = w.drewN n)
  case atStart => exact ⟨0, 0, false, false, by omega, rfl, rfl, rfl, rfl, hide rfl, rfl⟩
  case round =>
    obtain ⟨k, n, wi, ta, hkg, rfl, rfl, rfl, rfl, HP, hw⟩ := hrel
    have HW := hide hw
    clear hw
    cases gk with
    | zero =>
      have e1 : (s.size : Int) = (k : Int) := by omega
      have hks : s.size ≤ k := by omega
      have HE := hide (remark_end s k (blAt s.data.toList k) wi ta hks)
      have HF := hide (strip_at ((unhide HP).trans (unhide HE)))
      have hkk : k = s.size := by omega
      subst hkk
      clear HE e1 hks
      go_wp2_with (go_at_call 32; refine (TrimR_any _ _ (by first | assumption | (rw [ByteArray.size_extract]; omega))).mono ?_; rintro e w' ⟨rfl, rfl⟩)
      all_goals (try rw [Exit.noGoto_ret])
      all_goals go_ret
      all_goals refine ⟨ret_str ?_, n, unhide HW⟩
      all_goals rw [unhide HF]
      all_goals first | rfl | rw [extract_full]
    | succ g' =>
      have hlt : k < s.size := by omega
      have hlt' : (k : Int) < (s.size : Int) := by omega
      have HS := hide ((unhide HP).trans (remark_step s k wi ta hlt))
      have hki : IntKind.i64.wrap ((k : Int) + 1) = (k : Int) + 1 := IntWalk.i64_in _ (by omega)
      clear HP
      cases ta with
      | true =>
        rw [if_pos rfl] at HS
        go_wp2
        go_roundg g'
        case measure => omega
        case rel => exact ⟨k + 1, n, wi, false, by omega, rfl, rfl, rfl, by go_num, HS, unhide HW⟩
      | false =>
        rw [if_neg (by simp)] at HS
        cases wi with
        | true =>
          by_cases c92 : (s[k] == 92) = true
          · have j92 : ((s[k].toNat : Int) == 92) = true := by rw [i92]; exact c92
            rw [if_pos (by rw [c92]; rfl)] at HS
            clear c92
            go_wp2
            go_roundg g'
            case measure => omega
            case rel => exact ⟨k + 1, n, true, true, by omega, rfl, rfl, rfl, by go_num, HS, unhide HW⟩

          · have c92' : (s[k] == 92) = false := by simpa using c92
            have j92 : ((s[k].toNat : Int) == 92) = false := by rw [i92]; exact c92'
            rw [if_neg (by rw [c92']; simp)] at HS
            clear c92 c92'
            by_cases c34 : (s[k] == 34) = true
            · have j34 : ((s[k].toNat : Int) == 34) = true := by rw [i34]; exact c34
              rw [if_pos c34] at HS
              clear c34
              go_wp2
              go_roundg g'
              case measure => omega
              case rel => exact ⟨k + 1, n, false, false, by omega, rfl, rfl, rfl, by go_num, HS, unhide HW⟩

            · have c34' : (s[k] == 34) = false := by simpa using c34
              have j34 : ((s[k].toNat : Int) == 34) = false := by rw [i34]; exact c34'
              rw [if_neg c34, if_pos (by simp)] at HS
              clear c34 c34'
              go_wp2
              go_roundg g'
              case measure => omega
              case rel => exact ⟨k + 1, n, true, false, by omega, rfl, rfl, rfl, by go_num, HS, unhide HW⟩

        | false =>
          rw [if_neg (by simp)] at HS
          by_cases c34 : (s[k] == 34) = true
          · have j34 : ((s[k].toNat : Int) == 34) = true := by rw [i34]; exact c34
            rw [if_pos c34] at HS
            clear c34
            go_wp2
            go_roundg g'
            case measure => omega
            case rel => exact ⟨k + 1, n, true, false, by omega, rfl, rfl, rfl, by go_num, HS, unhide HW⟩

          · have c34' : (s[k] == 34) = false := by simpa using c34
            have j34 : ((s[k].toNat : Int) == 34) = false := by rw [i34]; exact c34'
            rw [if_neg c34] at HS
            clear c34 c34'
            by_cases c35 : (s[k] == 35) = true
            · have j35 : ((s[k].toNat : Int) != 35) = false := by rw [bne, i35, c35]; rfl
              rw [if_neg (by rw [bne, c35]; simp)] at HS
              clear c35
              cases k with
              | zero =>
                rw [if_pos (show blAt s.data.toList 0 = true from rfl)] at HS
                have HF := hide (strip_at (unhide HS))
                clear HS
                go_wp2
                go_quiet (fail)
                go_wp2_with (go_at_call 32; refine (TrimR_any ByteArray.empty _ (by decide)).mono ?_; rintro e w' ⟨rfl, rfl⟩)
                all_goals (try rw [Exit.noGoto_ret])
                all_goals go_ret
                all_goals refine ⟨ret_str ?_, _, by rw [unhide HW, World.drewN_drewN]⟩
                all_goals rw [unhide HF]
                all_goals first | rfl | (rw [show s.extract 0 0 = ByteArray.empty from by rw [Lib.extract_eq]; rfl]; rfl) | (simp; rfl)
              | succ k' =>
                have hlt2 : k' < s.size := by omega
                have hlt3 : (k' : Int) < (s.size : Int) := by omega
                have hkm : IntKind.i64.wrap (k' : Int) = (k' : Int) := IntWalk.i64_in _ (by omega)
                have hkz : ((k' : Int) + 1 == 0) = false := by simp; omega
                have hbl := blAt_succ s k' hlt2
                rw [hbl] at HS
                by_cases c32 : (s[k'] == 32) = true
                · have j32 : ((s[k'].toNat : Int) == (((⟨#[32]⟩ : ByteArray)[0]'(by decide)).toNat : Int)) = true := by show ((s[k'].toNat : Int) == 32) = true; rw [i32]; exact c32
                  have hex : (s.extract 0 (k' + 1)).size ≤ 1099511627776 := by rw [ByteArray.size_extract]; omega
                  rw [if_pos c32] at HS
                  have HF := hide (strip_at (unhide HS))
                  clear c32 HS hbl
                  go_wp2
                  go_quiet (fail)
                  go_wp2_with (go_at_call 32; refine (TrimR_any (s.extract 0 (k' + 1)) _ hex).mono ?_; rintro e w' ⟨rfl, rfl⟩)
                  all_goals (try rw [Exit.noGoto_ret])
                  all_goals go_ret
                  all_goals refine ⟨ret_str ?_, _, by rw [unhide HW, World.drewN_drewN]⟩
                  all_goals rw [unhide HF]
                  all_goals (rw [Lib.extract_data]; try simp)
                · have c32' : (s[k'] == 32) = false := by simpa using c32
                  have j32 : ((s[k'].toNat : Int) == (((⟨#[32]⟩ : ByteArray)[0]'(by decide)).toNat : Int)) = false := by show ((s[k'].toNat : Int) == 32) = false; rw [i32]; exact c32'
                  rw [if_neg c32] at HS
                  clear c32 c32' hbl
                  go_wp2
                  go_quiet (fail)
                  go_wp2_with fail
                  go_roundg g'
                  case measure => omega
                  case rel => exact ⟨k' + 1 + 1, _, false, false, by omega, rfl, rfl, rfl, by go_num, HS, by rw [unhide HW, World.drewN_drewN]⟩
            · have c35' : (s[k] == 35) = false := by simpa using c35
              have j35 : ((s[k].toNat : Int) != 35) = true := by rw [bne, i35, c35']; rfl
              rw [if_pos (by rw [bne, c35']; rfl)] at HS
              clear c35 c35'
              go_wp2
              go_roundg g'
              case measure => omega
              case rel => exact ⟨k + 1, n, false, false, by omega, rfl, rfl, rfl, by go_num, HS, unhide HW⟩

end Go.Proofs.YtbnheebblicgkaaDoor
