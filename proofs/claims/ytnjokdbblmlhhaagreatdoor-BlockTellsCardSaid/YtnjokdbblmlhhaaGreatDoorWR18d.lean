/- walks of rescriptref18: Read -/
import Derived.Test.YtnjokdbblmlhhaaGreatDoorGA
import Derived.Test.YtnjokdbblmlhhaaGreatDoorGR18
import Derived.Test.YtnjokdbblmlhhaaGreatDoorGW03
import Derived.StillTailTactics
namespace Go.Proofs.YtnjokdbblmlhhaaGreatDoor
set_option linter.unusedVariables false
set_option linter.unusedSimpArgs false
open Go.RowKit
def TextErrR (w : World) (x : List UInt8 × Int) (e : Ending) (w' : World) : Prop := ∃ b : ByteArray, e = .returned (.tuple #[.string b, .int .i64 x.2]) ∧ b.data.toList = x.1 ∧ Below w.heap.size w w'
theorem still_drew {P : Program} {ops : Array Oper} {Q : Exit → Act → World → Prop} {rest : List Oper} {a : Act} {w w0 : World} {e : TypeId} {v : Value} {l : List UInt8} (hown : OwnB w w0.heap.size e v l) (hb : Below w0.heap.size w0 w)
    (h : ∀ W, OwnB W w0.heap.size e v l → Below w0.heap.size w0 W → wpList P ops Q rest a W) : wpList P ops Q rest a w.drew := h _ hown.drew hb.drew
set_option maxRecDepth 100000 in
set_option maxHeartbeats 4000000 in
theorem refRead_quoted (s : ByteArray) (w : World) (h : s.size ≤ 100000) (hs2 : 2 ≤ s.size) (hq : s[0].toNat = 34) (hnp : P18.plain s.data.toList = false) (hcut : P18.cut s.data.toList = (s.size, 0)) :
    Calls Tryz.prog 117 #[.string s] w (TextErrR w (P18.read s.data.toList)) := by
  have hm : s.size ≤ maxLen := by unfold maxLen; omega
  have hi0 : (0 : Int) < (s.size : Int) := by omega
  have hq' : ((s[0].toNat : Int) != 34) = false := by simp; omega
  have hsz := Lib.size_eq s
  have g0 : s.data.toList.getD 0 0 = s[0] := by rw [List.getD_eq_getElem?_getD, Lib.data_getElem? s 0 (by omega)]; rfl
  have hpre : Lib.hasPrefix s.data.toList [34] = true := (P18.prefix_iff _).2 ⟨by omega, by rw [g0]; exact hq⟩
  have hcq : P18.cutQ 1 false (s.data.toList.drop 1) = some s.size := by
    have h1 := R18.cut_quoted hpre
    rw [hcut, R18.cutQ_0 (by omega)] at h1
    cases hc : P18.cutQ 1 false (s.data.toList.drop 1) with
    | none => rw [hc] at h1; simp at h1
    | some n => rw [hc] at h1; simp at h1; rw [h1]
  have hread : P18.read s.data.toList = match P18.within (R18.body s.data.toList) with | none => ([], 3) | some b => P18.chk b := by
    rw [P18.read, hcut, hsz]
    cases hw : P18.within (R18.body s.data.toList) with
    | none => exact P18.readF_none (by rw [g0]; exact hq) hw
    | some b => exact P18.readF_some (by rw [g0]; exact hq) hw
  have hpl := refPlain_any s w hm
  rw [hnp] at hpl
  have hct := refCut_any s w h
  rw [hcut] at hct
  have HPL := hide hpl
  have HCT := hide hct
  have HR := hide hread
  have HQ := hide hcq
  have HZ := hide hsz
  clear hread hcq hpl hct hpre g0 hq hcut hnp hsz
  go_enter Tryz.func117, Tryz.ntmps117
  go_wp2_with (first
    | (go_at_call 121; refine (unhide HPL).mono ?_; rintro e w' ⟨rfl, rfl⟩)
    | (go_at_call 116; refine (unhide HCT).mono ?_; rintro e w' ⟨rfl, rfl⟩))
  go_loopg [6, 7] s.size (fun g s6 s7 wx => ∃ (k : Nat) (out : List UInt8), 1 ≤ k ∧ k + 1 ≤ s.size ∧ s.size ≤ k + g ∧ s7 = .int .i64 (k : Int) ∧ Hid (P18.within (R18.body s.data.toList) = (P18.within ((R18.body s.data.toList).drop (k - 1))).map (out ++ ·)) ∧ Hid (P18.cutQ k false (s.data.toList.drop k) = some s.size) ∧ out.length ≤ k ∧ OwnB wx w'.heap.size 5 s6 out ∧ Below w'.heap.size w' wx)
  case atStart => exact ⟨1, [], by omega, by omega, by omega, rfl, by show _ = _; simp, HQ, by simp, OwnB.nil _ _ _, Below.refl _ _⟩
  case round =>
    obtain ⟨k, out, hk1, hk, hkg, rfl, HP, HK, hol, hown, hb⟩ := hrel
    by_cases hlt : k + 1 < s.size
    · have hle : (k : Int) < (s.size : Int) - 1 := by omega
      have hle2 : (k : Int) < (s.size : Int) := by omega
      have hks : k < s.size := by omega
      have hll : k < s.data.toList.length := by rw [← unhide HZ]; omega
      have e0 : s.data.toList[k]'hll = s[k] := rfl
      have hbd := R18.body_drop hk1 hlt
      have HB := hide hbd
      have hb8 := s[k].toNat_lt
      clear hbd
      by_cases hctl : (s[k].toNat : Int) < 32 ∨ ((s[k].toNat : Int) == 127) = true
      · have hfin : P18.read s.data.toList = ([], 3) := by rw [unhide HR, unhide HP, unhide HB, R18.within_ctrl hctl]; rfl
        have HF := hide hfin
        clear hfin e0
        rcases hctl with hctl | hctl
        all_goals go_wp2_with fail
        all_goals go_ret2
        all_goals rw [unhide HF]
        all_goals exact ⟨_, rfl, rfl, hb⟩
      · have h32 : 32 ≤ (s[k].toNat : Int) := by omega
        have h127 : ((s[k].toNat : Int) == 127) = false := by
          rw [← Bool.not_eq_true]; exact fun h => hctl (.inr h)
        have HCTL := hide hctl
        clear hctl
        by_cases h92 : s[k].toNat = 92
        · have h92' : ((s[k].toNat : Int) != 92) = false := by simp; omega
          have hK2 := (R18.cutQ_esc hll (by omega) (by rw [e0]; exact h92)).symm.trans (unhide HK)
          have hk3 : k + 2 < s.size := by
            rcases Nat.lt_or_ge (k + 2) s.size with h1 | h1
            · exact h1
            · rw [R18.cutQ_past (by rw [← unhide HZ]; omega)] at hK2; cases hK2
          have hk3i : (k : Int) + 1 < (s.size : Int) := by omega
          have hk4 : k + 1 < s.size := by omega
          have hbd2 := R18.body_drop (s := s) (k := k + 1) (by omega) (by omega)
          rw [Nat.add_sub_cancel] at hbd2
          have HB2 := hide hbd2
          have HK2 := hide hK2
          have H92 := hide h92
          have hd8 := s[k + 1].toNat_lt
          clear hbd2 hK2 h92 e0
          by_cases c34 : s[k + 1].toNat = 34
          · have hbe := show P18.behind (s[k + 1] :: (R18.body s.data.toList).drop (k + 1)) = (((s[k + 1].toNat : Nat) : Int), ((1 : Nat) : Int)) from by rw [show s[k + 1] = 34 from UInt8.toNat_inj.1 c34]; exact R18.behind_34 _
            have hst := R18.within_esc (c := s[k]) (unhide H92) hbe (by omega)
            rw [List.drop_one, List.tail_cons] at hst
            have HS := hide hst
            have f34 : ((s[k + 1].toNat : Int) == 34) = true := by simp; omega
            clear hbe hst c34
            go_wp2_with (first | (at_builtin; refine wpList_app1 rfl (.tmp 63) (.tmp 67) 67 rfl Tryz.underlying67 byteInfo rfl hown _ (by omega) (by omega) rfl (by omega) hb.size ?_; intro v1 w1 hown1 hg1 _; have hb1 := below_app1 hb hown hg1))
            go_roundg (gk - 2)
            case measure => omega
            case rel =>
              refine ⟨k + 2, out ++ [UInt8.ofNat ((s[k + 1].toNat : Int) : Int).toNat], by omega, by omega, by omega, by go_num, ?_, HK2, by simp; omega, hown1, hb1⟩
              show _ = _
              rw [unhide HP, unhide HB, unhide HB2, unhide HS, R18.map_map, show k + 2 - 1 = k + 1 from by omega]; simp
          · by_cases c92 : s[k + 1].toNat = 92
            · have hbe := show P18.behind (s[k + 1] :: (R18.body s.data.toList).drop (k + 1)) = (((s[k + 1].toNat : Nat) : Int), ((1 : Nat) : Int)) from by rw [show s[k + 1] = 92 from UInt8.toNat_inj.1 c92]; exact R18.behind_92 _
              have hst := R18.within_esc (c := s[k]) (unhide H92) hbe (by omega)
              rw [List.drop_one, List.tail_cons] at hst
              have HS := hide hst
              have f34 : ((s[k + 1].toNat : Int) == 34) = false := by simp; omega
              have f92 : ((s[k + 1].toNat : Int) == 92) = true := by simp; omega
              clear hbe hst c34 c92
              go_wp2_with (first | (at_builtin; refine wpList_app1 rfl (.tmp 63) (.tmp 67) 67 rfl Tryz.underlying67 byteInfo rfl hown _ (by omega) (by omega) rfl (by omega) hb.size ?_; intro v1 w1 hown1 hg1 _; have hb1 := below_app1 hb hown hg1))
              go_roundg (gk - 2)
              case measure => omega
              case rel =>
                refine ⟨k + 2, out ++ [UInt8.ofNat ((s[k + 1].toNat : Int) : Int).toNat], by omega, by omega, by omega, by go_num, ?_, HK2, by simp; omega, hown1, hb1⟩
                show _ = _
                rw [unhide HP, unhide HB, unhide HB2, unhide HS, R18.map_map, show k + 2 - 1 = k + 1 from by omega]; simp
            · by_cases c110 : s[k + 1].toNat = 110
              · have hbe := show P18.behind (s[k + 1] :: (R18.body s.data.toList).drop (k + 1)) = (((10 : Nat) : Int), ((1 : Nat) : Int)) from by rw [show s[k + 1] = 110 from UInt8.toNat_inj.1 c110]; exact R18.behind_110 _
                have hst := R18.within_esc (c := s[k]) (unhide H92) hbe (by omega)
                rw [List.drop_one, List.tail_cons] at hst
                have HS := hide hst
                have f34 : ((s[k + 1].toNat : Int) == 34) = false := by simp; omega
                have f92 : ((s[k + 1].toNat : Int) == 92) = false := by simp; omega
                have f110 : ((s[k + 1].toNat : Int) == 110) = true := by simp; omega
                clear hbe hst c34 c92 c110
                go_wp2_with (first | (at_builtin; refine wpList_app1 rfl (.tmp 71) (.tmp 72) 67 rfl Tryz.underlying67 byteInfo rfl hown 10 (by omega) (by omega) rfl (by omega) hb.size ?_; intro v1 w1 hown1 hg1 _; have hb1 := below_app1 hb hown hg1))
                go_roundg (gk - 2)
                case measure => omega
                case rel =>
                  refine ⟨k + 2, out ++ [UInt8.ofNat (10 : Int).toNat], by omega, by omega, by omega, by go_num, ?_, HK2, by simp; omega, hown1, hb1⟩
                  show _ = _
                  rw [unhide HP, unhide HB, unhide HB2, unhide HS, R18.map_map, show k + 2 - 1 = k + 1 from by omega]; rfl
              · by_cases c116 : s[k + 1].toNat = 116
                · have hbe := show P18.behind (s[k + 1] :: (R18.body s.data.toList).drop (k + 1)) = (((9 : Nat) : Int), ((1 : Nat) : Int)) from by rw [show s[k + 1] = 116 from UInt8.toNat_inj.1 c116]; exact R18.behind_116 _
                  have hst := R18.within_esc (c := s[k]) (unhide H92) hbe (by omega)
                  rw [List.drop_one, List.tail_cons] at hst
                  have HS := hide hst
                  have f34 : ((s[k + 1].toNat : Int) == 34) = false := by simp; omega
                  have f92 : ((s[k + 1].toNat : Int) == 92) = false := by simp; omega
                  have f110 : ((s[k + 1].toNat : Int) == 110) = false := by simp; omega
                  have f116 : ((s[k + 1].toNat : Int) == 116) = true := by simp; omega
                  clear hbe hst c34 c92 c110 c116
                  go_wp2_with (first | (at_builtin; refine wpList_app1 rfl (.tmp 76) (.tmp 77) 67 rfl Tryz.underlying67 byteInfo rfl hown 9 (by omega) (by omega) rfl (by omega) hb.size ?_; intro v1 w1 hown1 hg1 _; have hb1 := below_app1 hb hown hg1))
                  go_roundg (gk - 2)
                  case measure => omega
                  case rel =>
                    refine ⟨k + 2, out ++ [UInt8.ofNat (9 : Int).toNat], by omega, by omega, by omega, by go_num, ?_, HK2, by simp; omega, hown1, hb1⟩
                    show _ = _
                    rw [unhide HP, unhide HB, unhide HB2, unhide HS, R18.map_map, show k + 2 - 1 = k + 1 from by omega]; rfl
                · by_cases c120 : s[k + 1].toNat = 120
                  · have ed : s[k + 1] = 120 := UInt8.toNat_inj.1 c120
                    have f34 : ((s[k + 1].toNat : Int) == 34) = false := by simp; omega
                    have f92 : ((s[k + 1].toNat : Int) == 92) = false := by simp; omega
                    have f110 : ((s[k + 1].toNat : Int) == 110) = false := by simp; omega
                    have f116 : ((s[k + 1].toNat : Int) == 116) = false := by simp; omega
                    have f120 : ((s[k + 1].toNat : Int) == 120) = true := by simp; omega
                    clear c34 c92 c110 c116 c120
                    by_cases hshort : s.size ≤ k + 4
                    · have hbe : P18.behind (s[k + 1] :: (R18.body s.data.toList).drop (k + 1)) = (0, 0) := by rw [ed]; exact R18.behind_x_short (by rw [R18.body_len]; omega)
                      have hfin : P18.read s.data.toList = ([], 3) := by rw [unhide HR, unhide HP, unhide HB, unhide HB2, R18.within_esc0 (unhide H92) hbe]; rfl
                      have HF := hide hfin
                      have hsi : (s.size : Int) - 1 ≤ (k : Int) + 1 + 2 := by omega
                      clear hbe hfin ed
                      go_wp2_with (first | (go_at_call 145; refine (hex_any _ _).mono ?_; rintro e w' ⟨rfl, rfl⟩))
                      all_goals go_ret2
                      all_goals rw [unhide HF]
                      all_goals exact ⟨_, rfl, rfl, hb⟩
                    · have hk22 : k + 2 < s.size := by omega
                      have hk23 : k + 3 < s.size := by omega
                      have hk22i : (k : Int) + 2 < (s.size : Int) := by omega
                      have hk23i : (k : Int) + 3 < (s.size : Int) := by omega
                      have hlong : ¬ ((s.size : Int) - 1 ≤ (k : Int) + 1 + 2) := by omega
                      have i11 : k + 1 + 1 < s.size := hk22
                      have i12 : k + 1 + 2 < s.size := hk23
                      have hbd3 : (R18.body s.data.toList).drop (k + 1) = s[k + 1 + 1] :: (R18.body s.data.toList).drop (k + 2) := R18.body_drop (s := s) (k := k + 2) (by omega) (by omega)
                      have hbd4 : (R18.body s.data.toList).drop (k + 2) = s[k + 1 + 2] :: (R18.body s.data.toList).drop (k + 3) := R18.body_drop (s := s) (k := k + 3) (by omega) (by omega)
                      have hx : P18.behind (s[k + 1] :: (R18.body s.data.toList).drop (k + 1)) = if R18.hex s[k + 1 + 1] < 0 ∨ 7 < R18.hex s[k + 1 + 1] ∨ R18.hex s[k + 1 + 2] < 0 then (0, 0) else (16 * R18.hex s[k + 1 + 1] + R18.hex s[k + 1 + 2], 3) := by
                        rw [ed, hbd3, hbd4]; exact R18.behind_x _ _ _
                      have ha := R18.hex_bd s[k + 1 + 1]
                      have hbx := R18.hex_bd s[k + 1 + 2]
                      have H34 : R18.hex s[k + 1 + 1] < 0 ∨ (s[k + 1 + 1].toNat ≠ 34 ∧ s[k + 1 + 1].toNat ≠ 92) := R18.hex_not _
                      have H34b : R18.hex s[k + 1 + 2] < 0 ∨ (s[k + 1 + 2].toNat ≠ 34 ∧ s[k + 1 + 2].toNat ≠ 92) := R18.hex_not _
                      have HXX := hide hx
                      have HB3 := hide hbd3
                      have HB4 := hide hbd4
                      have HED := hide ed
                      have HH1 := hide H34
                      have HH2 := hide H34b
                      clear hx hbd3 hbd4 ed H34 H34b
                      by_cases hhx : R18.hex s[k + 1 + 1] < 0 ∨ 7 < R18.hex s[k + 1 + 1] ∨ R18.hex s[k + 1 + 2] < 0
                      · have hbe : P18.behind (s[k + 1] :: (R18.body s.data.toList).drop (k + 1)) = (0, 0) := by rw [unhide HXX, if_pos hhx]
                        have hfin : P18.read s.data.toList = ([], 3) := by rw [unhide HR, unhide HP, unhide HB, unhide HB2, R18.within_esc0 (unhide H92) hbe]; rfl
                        have HF := hide hfin
                        clear hbe hfin
                        rcases hhx with hhx | hhx | hhx
                        all_goals go_wp2_with (first | (go_at_call 145; refine (hex_any _ _).mono ?_; rintro e w' ⟨rfl, rfl⟩))
                        all_goals go_ret2
                        all_goals rw [unhide HF]
                        all_goals exact ⟨_, rfl, rfl, hb⟩
                      · have x1 : ¬ R18.hex s[k + 1 + 1] < 0 := by omega
                        have x2 : ¬ 7 < R18.hex s[k + 1 + 1] := by omega
                        have x3 : ¬ R18.hex s[k + 1 + 2] < 0 := by omega
                        have ht : 0 ≤ 16 * R18.hex s[k + 1 + 1] + R18.hex s[k + 1 + 2] ∧ 16 * R18.hex s[k + 1 + 1] + R18.hex s[k + 1 + 2] < 256 := by omega
                        have hbe : P18.behind (s[k + 1] :: (R18.body s.data.toList).drop (k + 1)) = (((16 * R18.hex s[k + 1 + 1] + R18.hex s[k + 1 + 2]).toNat : Int), ((3 : Nat) : Int)) := by
                          rw [unhide HXX, if_neg hhx]; apply Prod.ext
                          · simp only; omega
                          · rfl
                        have hst := R18.within_esc (c := s[k]) (unhide H92) hbe (by omega)
                        have hdr : (s[k + 1] :: (R18.body s.data.toList).drop (k + 1)).drop 3 = (R18.body s.data.toList).drop (k + 3) := by
                          rw [List.drop_succ_cons, List.drop_drop]
                        rw [hdr] at hst
                        have l2 : k + 2 < s.data.toList.length := by rw [← unhide HZ]; omega
                        have l3 : k + 3 < s.data.toList.length := by rw [← unhide HZ]; omega
                        have n2 : s[k + 1 + 1].toNat ≠ 34 ∧ s[k + 1 + 1].toNat ≠ 92 := (unhide HH1).resolve_left x1
                        have n3 : s[k + 1 + 2].toNat ≠ 34 ∧ s[k + 1 + 2].toNat ≠ 92 := (unhide HH2).resolve_left x3
                        have hK4 : P18.cutQ (k + 4) false (s.data.toList.drop (k + 4)) = some s.size := by
                          rw [← R18.cutQ_else (k := k + 3) l3 (by omega) n3.1 n3.2, ← R18.cutQ_else (k := k + 2) l2 (by omega) n2.1 n2.2]
                          exact unhide HK2
                        have HK4 := hide hK4
                        have HS := hide hst
                        clear hbe hst hdr hK4 n2 n3 l2 l3 hhx
                        go_wp2_with (first | (go_at_call 145; refine (hex_any _ _).mono ?_; rintro e w' ⟨rfl, rfl⟩))

                        have a1 : IntKind.i64.wrap ((k : Int) + 1 + 1) = (k : Int) + 1 + 1 := IntWalk.i64_in _ (by omega)
                        have a2 : IntKind.i64.wrap ((k : Int) + 1 + 2) = (k : Int) + 1 + 2 := IntWalk.i64_in _ (by omega)
                        have a3 : 0 ≤ (k : Int) + 1 + 1 := by omega
                        have a4 : 0 ≤ (k : Int) + 1 + 2 := by omega
                        have a5 : ((k : Int) + 1 + 1).toNat = k + 1 + 1 := by omega
                        have a6 : ((k : Int) + 1 + 2).toNat = k + 1 + 2 := by omega
                        have a7 : (k : Int) + 1 + 1 < (s.size : Int) := by omega
                        have a8 : (k : Int) + 1 + 2 < (s.size : Int) := by omega
                        have a9 : IntKind.i64.wrap (16 * R18.hex s[k + 1 + 1]) = 16 * R18.hex s[k + 1 + 1] := IntWalk.i64_in _ (by omega)
                        have a10 : IntKind.i64.wrap (16 * R18.hex s[k + 1 + 1] + R18.hex s[k + 1 + 2]) = 16 * R18.hex s[k + 1 + 1] + R18.hex s[k + 1 + 2] := IntWalk.i64_in _ (by omega)
                        have a11 : IntKind.u8.wrap (16 * R18.hex s[k + 1 + 1] + R18.hex s[k + 1 + 2]) = 16 * R18.hex s[k + 1 + 1] + R18.hex s[k + 1 + 2] := by rw [IntKind.wrap_u8]; omega
                        go_region_held3 (fun _ => True) (trivial) (first
                          | (go_at_call 145; refine (hex_any _ _).mono ?_; rintro e w' ⟨rfl, rfl⟩)
                          | (refine step_app1 (by rfl) _ _ _ (by rfl) Tryz.underlying67 byteInfo (by rfl) ((hown.alloc _).drew) _ (by omega) (by omega) _ (by rfl) (cell_one_new _ _ _) (by omega) (by have := hb.size; simp; omega) ?_; intro v1 w1 hown1 hg1))
                        all_goals
                          have hb1 := ((hb.alloc hb.size _).drew).grown hg1 (by have := hb.size; simp; omega) (fun k hk => (hown.lt k hk).1)
                          clear a1 a2 a9 a10 a11
                          go_wp2
                          go_roundg (gk - 4)
                          case measure => omega
                          case rel =>
                            refine ⟨k + 4, out ++ [UInt8.ofNat (16 * R18.hex s[k + 1 + 1] + R18.hex s[k + 1 + 2]).toNat], by omega, by omega, by omega, by go_num, ?_, HK4, by simp; omega, hown1, hb1⟩
                            show _ = _
                            rw [unhide HP, unhide HB, unhide HB2, unhide HS, R18.map_map, show k + 4 - 1 = k + 3 from by omega]
                  · have hbe : P18.behind (s[k + 1] :: (R18.body s.data.toList).drop (k + 1)) = (0, 0) := R18.behind_other (fun e => c34 (by rw [e]; rfl)) (fun e => c92 (by rw [e]; rfl)) (fun e => c110 (by rw [e]; rfl)) (fun e => c116 (by rw [e]; rfl)) (fun e => c120 (by rw [e]; rfl))
                    have hfin : P18.read s.data.toList = ([], 3) := by rw [unhide HR, unhide HP, unhide HB, unhide HB2, R18.within_esc0 (unhide H92) hbe]; rfl
                    have HF := hide hfin
                    have f34 : ((s[k + 1].toNat : Int) == 34) = false := by simp; omega
                    have f92 : ((s[k + 1].toNat : Int) == 92) = false := by simp; omega
                    have f110 : ((s[k + 1].toNat : Int) == 110) = false := by simp; omega
                    have f116 : ((s[k + 1].toNat : Int) == 116) = false := by simp; omega
                    have f120 : ((s[k + 1].toNat : Int) == 120) = false := by simp; omega
                    clear hbe hfin c34 c92 c110 c116 c120
                    go_wp2_with (first | (go_at_call 145; refine (hex_any _ _).mono ?_; rintro e w' ⟨rfl, rfl⟩))
                    all_goals go_ret2
                    all_goals rw [unhide HF]
                    all_goals exact ⟨_, rfl, rfl, hb⟩
        · have h92' : ((s[k].toNat : Int) != 92) = true := by simp; omega
          have h34 : s[k].toNat ≠ 34 := by
            intro h34
            have h1 := R18.cutQ_quote hll (by omega) (by rw [e0]; exact h34)
            rw [unhide HK] at h1
            simp at h1; omega
          have hK2 := (R18.cutQ_else hll (by omega) (by rw [e0]; exact h34) (by rw [e0]; exact h92)).symm.trans (unhide HK)
          have hst := R18.within_self (r := (R18.body s.data.toList).drop k) (unhide HCTL) h92
          have HS := hide hst
          have HK2 := hide hK2
          clear hK2 h34 h92 e0 hst
          go_wp2_with (first
            | (at_builtin; refine wpList_app1 rfl (.tmp 51) (.tmp 53) 67 rfl Tryz.underlying67 byteInfo rfl hown _ (by omega) (by omega) rfl (by omega) hb.size ?_; intro v1 w1 hown1 hg1 _; have hb1 := below_app1 hb hown hg1))
          go_roundg (gk - 1)
          case measure => omega
          case rel =>
            refine ⟨k + 1, out ++ [UInt8.ofNat ((s[k].toNat : Int)).toNat], by omega, by omega, by omega, by go_num, ?_, HK2, by simp; omega, hown1, hb1⟩
            show _ = _
            rw [unhide HP, unhide HB, unhide HS, R18.map_map, Nat.add_sub_cancel]; simp
    · obtain rfl : k = s.size - 1 := by omega
      have hwi : P18.within (R18.body s.data.toList) = some out := by rw [unhide HP, R18.body_end, P18.within_nil]; simp
      have hrd : P18.read s.data.toList = P18.chk out := by rw [unhide HR, hwi]
      have HRD := hide hrd
      have hts : (⟨out.toArray⟩ : ByteArray).size ≤ 1100000 := by rw [Lib.size_eq]; simp; omega
      have hck := fun W => refCheck_any ⟨out.toArray⟩ 4096 W hts
      simp only [list_data] at hck
      have hcv := conv_own (P := Tryz.prog) 67 9 Tryz.underlying67 Tryz.underlying5 Tryz.underlying9 hown
      clear hwi hrd
      cases hbad : (P03.check out 4096 != 0)
      · have hc0 : P03.check out 4096 = 0 := by simpa using hbad
        have hfin : P18.chk out = (out, 0) := by rw [P18.chk, hbad]; rfl
        have HF := hide hfin
        rw [hc0] at hck
        have HKK := hide hck
        clear hck hbad hc0 hfin
        go_wp2_with (first
          | (go_at_call 84; refine (unhide HKK _).mono ?_; rintro e w2 ⟨rfl, rfl⟩))
        go_ret2
        rw [unhide HRD, unhide HF]
        exact ⟨_, rfl, by simp, hb⟩
      · have hfin : P18.chk out = ([], P03.check out 4096) := by rw [P18.chk, hbad]; rfl
        have HF := hide hfin
        have HKK := hide hck
        clear hck hfin
        go_wp2_with (first
          | (go_at_call 84; refine (unhide HKK _).mono ?_; rintro e w2 ⟨rfl, rfl⟩))
        go_ret2
        rw [unhide HRD, unhide HF]
        exact ⟨_, rfl, rfl, hb⟩
set_option maxRecDepth 100000 in
set_option maxHeartbeats 800000 in
theorem refRead_any (s : ByteArray) (w : World) (h : s.size ≤ 100000) : Calls Tryz.prog 117 #[.string s] w (TextErrR w (P18.read s.data.toList)) := by
  have hm : s.size ≤ maxLen := by unfold maxLen; omega
  have hsz := Lib.size_eq s
  have hpl := refPlain_any s w hm
  cases hp : P18.plain s.data.toList
  · obtain ⟨n, c, hnc⟩ : ∃ n c : Nat, P18.cut s.data.toList = (n, c) := ⟨_, _, rfl⟩
    have hct := refCut_any s w h
    by_cases hbad : c ≠ 0 ∨ n ≠ s.size
    · have hrd : P18.read s.data.toList = ([], 3) := by rw [P18.read, hnc]; exact P18.readF_bad (by rw [← hsz]; exact hbad)
      rw [hrd]
      rw [hp] at hpl
      rw [hnc] at hct
      have HPL := hide hpl
      have HCT := hide hct
      clear hrd hpl hct hnc hsz hp
      by_cases hc0 : c = 0
      · subst hc0
        have hn0 : ((n : Int) != (s.size : Int)) = true := by simp; omega
        clear hbad
        go_enter Tryz.func117, Tryz.ntmps117
        go_wp2_with (first
          | (go_at_call 121; refine (unhide HPL).mono ?_; rintro e w' ⟨rfl, rfl⟩)
          | (go_at_call 116; refine (unhide HCT).mono ?_; rintro e w' ⟨rfl, rfl⟩))
        go_ret2
        exact ⟨_, rfl, rfl, Below.refl _ _⟩
      · have hc1 : ((c : Int) != 0) = true := by simp; omega
        clear hbad hc0
        go_enter Tryz.func117, Tryz.ntmps117
        go_wp2_with (first
          | (go_at_call 121; refine (unhide HPL).mono ?_; rintro e w' ⟨rfl, rfl⟩)
          | (go_at_call 116; refine (unhide HCT).mono ?_; rintro e w' ⟨rfl, rfl⟩))
        go_ret2
        exact ⟨_, rfl, rfl, Below.refl _ _⟩
    · obtain ⟨rfl, rfl⟩ : c = 0 ∧ n = s.size := by omega
      have hq := R18.read_unquoted hp (by rw [hnc]) (by rw [hnc]; exact hsz)
      have h2 := (P18.cut_ok _ (by rw [hnc]) hq).1
      rw [hnc] at h2
      have h2' : 2 ≤ s.size := h2
      have h0 := ((P18.prefix_iff _).1 hq).2
      have g0 : s.data.toList.getD 0 0 = s[0] := by rw [List.getD_eq_getElem?_getD, Lib.data_getElem? s 0 (by omega)]; rfl
      rw [g0] at h0
      exact refRead_quoted s w h h2' h0 hp hnc
  · have hrd := R18.read_plain hp
    rw [← hsz] at hrd
    rw [hp] at hpl
    have HPL := hide hpl
    have HRD := hide hrd
    clear hpl hrd hp hsz
    by_cases hbig : 4096 < (s.size : Int)
    · go_enter Tryz.func117, Tryz.ntmps117
      go_wp2_with (first
        | (go_at_call 121; refine (unhide HPL).mono ?_; rintro e w' ⟨rfl, rfl⟩))
      go_ret2
      rw [unhide HRD, if_pos hbig]
      exact ⟨_, rfl, rfl, Below.refl _ _⟩
    · go_enter Tryz.func117, Tryz.ntmps117
      go_wp2_with (first
        | (go_at_call 121; refine (unhide HPL).mono ?_; rintro e w' ⟨rfl, rfl⟩))
      go_ret2
      rw [unhide HRD, if_neg (by omega)]
      exact ⟨_, rfl, rfl, Below.refl _ _⟩
end Go.Proofs.YtnjokdbblmlhhaaGreatDoor
