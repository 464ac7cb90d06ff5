/- walks of scalar.within, Read, Put -/
import Derived.Test.YtbnheebblicgkaaDoorW18c
import Derived.Test.YtbnheebblicgkaaDoorPlain18b
namespace Go.Proofs.YtbnheebblicgkaaDoor
set_option linter.unusedVariables false
set_option linter.unusedSimpArgs false
open Go.RowKit
theorem behind_nat (s : ByteArray) (w : World) (h : s.size ≤ maxLen) :
    Calls Tryd.prog 117 #[.string s] w fun e w' => ∃ (c : UInt8) (n : Nat), e = .returned (.tuple #[.int .u8 (c.toNat : Int), .int .i64 (n : Int)]) ∧ P18.behind s.data.toList = ((c.toNat : Int), (n : Int)) ∧ n ≤ 3 ∧ ∃ m, w' = w.drewN m := by
  obtain ⟨c, n, hb, hn⟩ := P18.behind_nat s.data.toList
  refine (behind_any s w h).mono fun e w' ⟨h1, h2⟩ => ⟨c, n, ?_, hb, hn, h2⟩
  rw [h1, hb]
def WithinPost (w : World) (o : Option (List UInt8)) (e : Ending) (w' : World) : Prop :=
  ∃ (v : Value) (ok : Bool), e = .returned (.tuple #[v, .bool ok]) ∧ ok = o.isSome ∧ OwnB w' w.heap.size 5 v (o.getD []) ∧ Below w.heap.size w w'
set_option maxRecDepth 100000 in
set_option maxHeartbeats 1600000 in
theorem within_any (s : ByteArray) (w : World) (h : s.size ≤ 100000) :
    Calls Tryd.prog 107 #[.string s] w (WithinPost w (P18.within s.data.toList)) := by
  go_enter Tryd.func107, Tryd.ntmps107
  go_wp2
  go_loopg [4, 5] (s.size + 4) (fun g s4 s5 wx => ∃ (k : Nat) (out : List UInt8), k + g = s.size + 4 ∧ 0 < g ∧ s5 = .int .i64 k ∧ Hid (P18.within s.data.toList = (P18.within (s.data.toList.drop k)).map (out ++ ·)) ∧ out.length ≤ k ∧ OwnB wx w.heap.size 5 s4 out ∧ Below w.heap.size w wx)
  case atStart => exact ⟨0, [], by omega, by omega, rfl, by show _ = _; simp, by simp, OwnB.nil _ _ _, Below.refl _ _⟩
  case round =>
    obtain ⟨k, out, hkg, hg0, rfl, HP, hol, hown, hb⟩ := hrel
    have HG := hide hkg
    have hk4 : k ≤ s.size + 3 := by omega
    clear hkg
    by_cases hlt : k < s.size
    · have hle : (k : Int) < (s.size : Int) := by omega
      have hd := P18.within_drop (l := s.data.toList) (k := k) (by simpa using hlt)
      have e0 : s.data.toList[k]'(by simpa using hlt) = s[k] := rfl
      rw [e0, P18.within_cons] at hd
      have HD := hide hd
      clear hd e0
      go_wp2_with (first
        | (go_at_call 117; refine (behind_nat _ _ (by unfold maxLen; simp; omega)).mono ?_; rintro e w' ⟨c, n, rfl, hbe, hn3, m, rfl⟩; rw [Lib.extract_to_end] at hbe; have HB := hide hbe; clear hbe)
        | (at_builtin; refine wpList_app1 rfl (.tmp 42) (.tmp 44) 63 rfl Tryd.underlying63 byteInfo rfl (hown.drewN m) _ (by omega) (by have := c.toNat_lt; omega) rfl (by omega) hb.size ?_; intro v1 w1 hown1 hg1 _; have hb1 := below_app1 (below_drewN hb) (hown.drewN m) hg1)
        | (at_builtin; refine wpList_app1 rfl (.tmp 42) (.tmp 44) 63 rfl Tryd.underlying63 byteInfo rfl hown _ (by omega) (by have := s[k].toNat_lt; omega) rfl (by omega) hb.size ?_; intro v1 w1 hown1 hg1 _; have hb1 := below_app1 hb hown hg1))
      · have hc : (s[k].toNat : Int) < 32 ∨ ((s[k].toNat : Int) == 127) = true := by first | assumption | exact .inl (by omega)
        have hn : P18.within s.data.toList = none := by rw [unhide HP, unhide HD, if_pos hc]; rfl
        go_ret2
        rw [hn]
        exact ⟨_, _, rfl, rfl, OwnB.nil _ _ _, hb⟩
      · obtain ⟨h32, h127⟩ : 32 ≤ (s[k].toNat : Int) ∧ ((s[k].toNat : Int) == 127) = false := by assumption
        have hc : ¬ ((s[k].toNat : Int) < 32 ∨ ((s[k].toNat : Int) == 127) = true) := by rw [h127]; simp; omega
        have h92 : ((s[k].toNat : Int) == 92) = true := by assumption
        have hn0 : ((n : Int) == 0) = true := by assumption
        have hn : P18.within s.data.toList = none := by rw [unhide HP, unhide HD, unhide HB, if_neg hc, if_pos h92, if_pos hn0]; rfl
        go_ret2
        rw [hn]
        exact ⟨_, _, rfl, rfl, OwnB.nil _ _ _, below_drewN hb⟩
      · obtain ⟨h32, h127⟩ : 32 ≤ (s[k].toNat : Int) ∧ ((s[k].toNat : Int) == 127) = false := by assumption
        have hc : ¬ ((s[k].toNat : Int) < 32 ∨ ((s[k].toNat : Int) == 127) = true) := by rw [h127]; simp; omega
        have h92 : ((s[k].toNat : Int) == 92) = true := by assumption
        have hn0 : ¬ (((n : Int) == 0) = true) := nb (by assumption)
        have hr := unhide HD
        rw [if_neg hc, if_pos h92, unhide HB, if_neg hn0] at hr
        go_roundg (gk - (n + 1))
        case measure => omega
        case rel =>
          refine ⟨k + n + 1, out ++ [UInt8.ofNat ((c.toNat : Int)).toNat], by have := unhide HG; omega, by have := unhide HG; omega, by go_num, ?_, by simp; omega, hown1, hb1⟩
          show _ = _
          rw [unhide HP, hr]
          simp only [Option.map_map, Int.toNat_natCast, List.drop_drop]
          rw [show k + 1 + n = k + n + 1 from by omega]
          congr 1
          funext x; simp
      · obtain ⟨h32, h127⟩ : 32 ≤ (s[k].toNat : Int) ∧ ((s[k].toNat : Int) == 127) = false := by assumption
        have hc : ¬ ((s[k].toNat : Int) < 32 ∨ ((s[k].toNat : Int) == 127) = true) := by rw [h127]; simp; omega
        have h92 : ¬ ((s[k].toNat : Int) == 92) = true := nb (by assumption)
        have hr := unhide HD
        rw [if_neg hc, if_neg h92] at hr
        go_roundg (gk - 1)
        case measure => omega
        case rel =>
          refine ⟨k + 1, out ++ [UInt8.ofNat ((s[k].toNat : Int)).toNat], by have := unhide HG; omega, by have := unhide HG; omega, by go_num, ?_, by simp; omega, hown1, hb1⟩
          show _ = _
          rw [unhide HP, hr]
          simp only [Option.map_map, Int.toNat_natCast]
          congr 1
          funext x; simp
      · have hc : (s[k].toNat : Int) < 32 ∨ ((s[k].toNat : Int) == 127) = true := by first | assumption | exact .inl (by omega)
        have hn : P18.within s.data.toList = none := by rw [unhide HP, unhide HD, if_pos hc]; rfl
        go_ret2
        rw [hn]
        exact ⟨_, _, rfl, rfl, OwnB.nil _ _ _, hb⟩
    · go_wp2
      have hn : P18.within s.data.toList = some out := by rw [unhide HP, List.drop_of_length_le (by rw [← Lib.size_eq]; omega), P18.within_nil]; simp
      go_ret2
      rw [hn]
      exact ⟨_, _, rfl, rfl, hown, hb⟩
end Go.Proofs.YtbnheebblicgkaaDoor
