/- walks of rescriptref17.Strip -/
import Derived.Test.YtbnheebblicgkaaDoorPlainR17
namespace Go.Proofs.YtbnheebblicgkaaDoor
set_option linter.unusedVariables false
set_option linter.unusedSimpArgs false
open Go.RowKit
set_option maxRecDepth 100000 in
set_option maxHeartbeats 1600000 in
theorem refStrip_any (s : ByteArray) (w : World) (h : s.size ≤ 4000000) :
    Calls Tryd.prog 17 #[.string s] w fun e w' => e = .returned (.string ⟨(strip17 s.data.toList).toArray⟩) ∧ w' = w := by
  have hst : ∀ k, remarkAt true false false 0 s.data.toList = k → strip17 s.data.toList = trimR (s.data.toList.take k) := fun k hk => by rw [strip17, hk]
  have HST := hide hst
  clear hst
  go_enter Tryd.func17, Tryd.ntmps17
  go_wp2
  go_loopg [3, 4, 5] (s.size + 1) (fun g s3 s4 s5 wx => ∃ (k : Nat) (q : Bool), k ≤ s.size + 1 ∧ s.size + 1 ≤ k + g ∧ s3 = .bool q ∧ s4 = .int .i64 s.size ∧ s5 = .int .i64 k ∧
    Hid (remarkAt true false false 0 s.data.toList = refAt s q k) ∧ Hid (wx = w))
  case atStart => exact ⟨0, false, by omega, by omega, rfl, rfl, rfl, hide (refAt_start s), hide rfl⟩
  case round =>
    obtain ⟨k, q, hk1, hkg, rfl, rfl, rfl, HP, HW⟩ := hrel
    by_cases hlt : k < s.size
    · have hlt' : (k : Int) < (s.size : Int) := by omega
      have hki : IntKind.i64.wrap ((k : Int) + 1) = (k : Int) + 1 := IntWalk.i64_in _ (by omega)
      have hki2 : IntKind.i64.wrap ((k : Int) + 1 + 1) = (k : Int) + 1 + 1 := IntWalk.i64_in _ (by omega)
      have hki3 : IntKind.i64.wrap ((k : Int) + 2) = (k : Int) + 2 := IntWalk.i64_in _ (by omega)
      have HS := hide ((unhide HP).trans (refAt_step s q k hlt))
      clear HP
      cases q with
      | true =>
        by_cases c92 : (s[k] == 92) = true
        · have j92 : ((s[k].toNat : Int) == 92) = true := by rw [i92]; exact c92
          rw [if_pos (by rw [c92]; rfl)] at HS
          clear c92
          go_wp2
          go_roundg (gk - 1)
          case measure => omega
          case rel => exact ⟨k + 2, true, by omega, by omega, rfl, rfl, by go_num, HS, HW⟩

        · have c92' : (s[k] == 92) = false := by simpa using c92
          have j92 : ((s[k].toNat : Int) == 92) = false := by rw [i92]; exact c92'
          rw [if_neg (by rw [c92']; simp)] at HS
          clear c92 c92'
          by_cases c34 : (s[k] == 34) = true
          · have j34 : ((s[k].toNat : Int) == 34) = true := by rw [i34]; exact c34
            rw [if_pos c34] at HS
            clear c34
            go_wp2
            go_roundg (gk - 1)
            case measure => omega
            case rel => exact ⟨k + 1, false, by omega, by omega, rfl, rfl, by go_num, HS, HW⟩

          · have c34' : (s[k] == 34) = false := by simpa using c34
            have j34 : ((s[k].toNat : Int) == 34) = false := by rw [i34]; exact c34'
            rw [if_neg c34, if_pos (by simp)] at HS
            clear c34 c34'
            cases c35 : (s[k] == 35)
            · have j35 : ((s[k].toNat : Int) == 35) = false := by rw [i35]; exact c35
              clear c35
              go_wp2
              go_roundg (gk - 1)
              case measure => omega
              case rel => exact ⟨k + 1, true, by omega, by omega, rfl, rfl, by go_num, HS, HW⟩

            · have j35 : ((s[k].toNat : Int) == 35) = true := by rw [i35]; exact c35
              clear c35
              go_wp2
              go_roundg (gk - 1)
              case measure => omega
              case rel => exact ⟨k + 1, true, by omega, by omega, rfl, rfl, by go_num, HS, HW⟩

      | false =>
        rw [if_neg (by simp)] at HS
        by_cases c34 : (s[k] == 34) = true
        · have j34 : ((s[k].toNat : Int) == 34) = true := by rw [i34]; exact c34
          rw [if_pos c34] at HS
          clear c34
          go_wp2
          go_roundg (gk - 1)
          case measure => omega
          case rel => exact ⟨k + 1, true, by omega, by omega, rfl, rfl, by go_num, HS, HW⟩

        · have c34' : (s[k] == 34) = false := by simpa using c34
          have j34 : ((s[k].toNat : Int) == 34) = false := by rw [i34]; exact c34'
          rw [if_neg c34] at HS
          clear c34 c34'
          by_cases c35 : (s[k] == 35) = true
          · have j35 : ((s[k].toNat : Int) == 35) = true := by rw [i35]; exact c35
            rw [if_neg (by rw [bne, c35]; simp)] at HS
            clear c35
            cases k with
            | zero =>
              rw [if_pos (show blAt s.data.toList 0 = true from rfl)] at HS
              have HF := hide (unhide HST _ (unhide HS))
              clear HS
              go_wp2
              go_loopg [4] 0 (fun g s4 wx => ∃ k2 : Nat, k2 = g ∧ k2 ≤ s.size ∧ s4 = .int .i64 k2 ∧ Hid (strip17 s.data.toList = trimR (s.data.toList.take k2)) ∧ Hid (wx = w))
              case atStart => exact ⟨0, rfl, by omega, by go_num, HF, HW⟩
              case round =>
                obtain ⟨k2, hk2, hks2, rfl, HQ, HW2⟩ := hrel
                cases gk with
                | zero =>
                  subst hk2
                  go_wp2
                  go_ret
                  refine ⟨ret_str ?_, unhide HW2⟩
                  rw [unhide HQ]
                  rfl
                | succ g2 =>
                  subst hk2
                  have hlt2 : g2 < s.size := by omega
                  have hlt3 : (g2 : Int) < (s.size : Int) := by omega
                  have hgz : (0 : Int) < (g2 : Int) + 1 := by omega
                  have hgm : IntKind.i64.wrap (g2 : Int) = (g2 : Int) := IntWalk.i64_in _ (by omega)
                  rw [take_step s g2 hlt2] at HQ
                  by_cases c32 : (s[g2] == 32) = true
                  · have j32 : ((s[g2].toNat : Int) == 32) = true := by rw [i32]; exact c32
                    rw [show s[g2] = 32 from by simpa using c32, trimR_blank] at HQ
                    clear c32
                    go_wp2
                    go_roundg g2
                    case measure => omega
                    case rel => exact ⟨g2, rfl, by omega, by go_num, HQ, HW2⟩
                  · have j32 : ((s[g2].toNat : Int) == 32) = false := by rw [i32]; simpa using c32
                    rw [trimR_stop _ _ (by simpa using c32), ← take_step s g2 hlt2] at HQ
                    clear c32
                    go_wp2
                    go_ret
                    refine ⟨ret_str ?_, unhide HW2⟩
                    rw [unhide HQ, Lib.extract_eq, List.drop_zero, Nat.sub_zero]

            | succ k' =>
              have hlt2 : k' < s.size := by omega
              have hlt3 : (k' : Int) < (s.size : Int) := by omega
              have hkm : IntKind.i64.wrap (k' : Int) = (k' : Int) := IntWalk.i64_in _ (by omega)
              have hkz : ((k' : Int) + 1 == 0) = false := by simp; omega
              have hbl := blAt_succ s k' hlt2
              rw [hbl] at HS
              by_cases c32 : (s[k'] == 32) = true
              · have j32 : ((s[k'].toNat : Int) == 32) = true := by rw [i32]; exact c32
                rw [if_pos c32] at HS
                have HF := hide (unhide HST _ (unhide HS))
                clear c32 HS hbl
                go_wp2
                go_loopg [4] (k' + 1) (fun g s4 wx => ∃ k2 : Nat, k2 = g ∧ k2 ≤ s.size ∧ s4 = .int .i64 k2 ∧ Hid (strip17 s.data.toList = trimR (s.data.toList.take k2)) ∧ Hid (wx = w))
                case atStart => exact ⟨(k' + 1), rfl, by omega, by go_num, HF, HW⟩
                case round =>
                  obtain ⟨k2, hk2, hks2, rfl, HQ, HW2⟩ := hrel
                  cases gk with
                  | zero =>
                    subst hk2
                    go_wp2
                    go_ret
                    refine ⟨ret_str ?_, unhide HW2⟩
                    rw [unhide HQ]
                    rfl
                  | succ g2 =>
                    subst hk2
                    have hlt2 : g2 < s.size := by omega
                    have hlt3 : (g2 : Int) < (s.size : Int) := by omega
                    have hgz : (0 : Int) < (g2 : Int) + 1 := by omega
                    have hgm : IntKind.i64.wrap (g2 : Int) = (g2 : Int) := IntWalk.i64_in _ (by omega)
                    rw [take_step s g2 hlt2] at HQ
                    by_cases c32 : (s[g2] == 32) = true
                    · have j32 : ((s[g2].toNat : Int) == 32) = true := by rw [i32]; exact c32
                      rw [show s[g2] = 32 from by simpa using c32, trimR_blank] at HQ
                      clear c32
                      go_wp2
                      go_roundg g2
                      case measure => omega
                      case rel => exact ⟨g2, rfl, by omega, by go_num, HQ, HW2⟩
                    · have j32 : ((s[g2].toNat : Int) == 32) = false := by rw [i32]; simpa using c32
                      rw [trimR_stop _ _ (by simpa using c32), ← take_step s g2 hlt2] at HQ
                      clear c32
                      go_wp2
                      go_ret
                      refine ⟨ret_str ?_, unhide HW2⟩
                      rw [unhide HQ, Lib.extract_eq, List.drop_zero, Nat.sub_zero]

              · have j32 : ((s[k'].toNat : Int) == 32) = false := by rw [i32]; simpa using c32
                rw [if_neg c32] at HS
                clear c32 hbl
                go_wp2
                go_roundg (gk - 1)
                case measure => omega
                case rel => exact ⟨k' + 1 + 1, false, by omega, by omega, rfl, rfl, by go_num, HS, HW⟩

          · have c35' : (s[k] == 35) = false := by simpa using c35
            have j35 : ((s[k].toNat : Int) == 35) = false := by rw [i35]; exact c35'
            rw [if_pos (by rw [bne, c35']; rfl)] at HS
            clear c35 c35'
            go_wp2
            go_roundg (gk - 1)
            case measure => omega
            case rel => exact ⟨k + 1, false, by omega, by omega, rfl, rfl, by go_num, HS, HW⟩

    · have hge : s.size ≤ k := by omega
      have hge' : (s.size : Int) ≤ (k : Int) := by omega
      have HF := hide (unhide HST _ ((unhide HP).trans (refAt_end s q k hge)))
      clear HP
      go_wp2
      go_loopg [4] s.size (fun g s4 wx => ∃ k2 : Nat, k2 = g ∧ k2 ≤ s.size ∧ s4 = .int .i64 k2 ∧ Hid (strip17 s.data.toList = trimR (s.data.toList.take k2)) ∧ Hid (wx = w))
      case atStart => exact ⟨s.size, rfl, by omega, by go_num, HF, HW⟩
      case round =>
        obtain ⟨k2, hk2, hks2, rfl, HQ, HW2⟩ := hrel
        cases gk with
        | zero =>
          subst hk2
          go_wp2
          go_ret
          refine ⟨ret_str ?_, unhide HW2⟩
          rw [unhide HQ]
          rfl
        | succ g2 =>
          subst hk2
          have hlt2 : g2 < s.size := by omega
          have hlt3 : (g2 : Int) < (s.size : Int) := by omega
          have hgz : (0 : Int) < (g2 : Int) + 1 := by omega
          have hgm : IntKind.i64.wrap (g2 : Int) = (g2 : Int) := IntWalk.i64_in _ (by omega)
          rw [take_step s g2 hlt2] at HQ
          by_cases c32 : (s[g2] == 32) = true
          · have j32 : ((s[g2].toNat : Int) == 32) = true := by rw [i32]; exact c32
            rw [show s[g2] = 32 from by simpa using c32, trimR_blank] at HQ
            clear c32
            go_wp2
            go_roundg g2
            case measure => omega
            case rel => exact ⟨g2, rfl, by omega, by go_num, HQ, HW2⟩
          · have j32 : ((s[g2].toNat : Int) == 32) = false := by rw [i32]; simpa using c32
            rw [trimR_stop _ _ (by simpa using c32), ← take_step s g2 hlt2] at HQ
            clear c32
            go_wp2
            go_ret
            refine ⟨ret_str ?_, unhide HW2⟩
            rw [unhide HQ, Lib.extract_eq, List.drop_zero, Nat.sub_zero]

end Go.Proofs.YtbnheebblicgkaaDoor
