/- walks of scalar.Read, Put -/
import Derived.Test.YtbnheebblicgkaaDoorW18d
import Derived.Test.YtbnheebblicgkaaDoorW03c
import Derived.Test.YtbnheebblicgkaaDoorPlain18c
namespace Go.Proofs.YtbnheebblicgkaaDoor
set_option linter.unusedVariables false
set_option linter.unusedSimpArgs false
open Go.RowKit
def TextPost (w : World) (x : List UInt8) (e : Ending) (w' : World) : Prop := ∃ b : ByteArray, e = .returned (.string b) ∧ b.data.toList = x ∧ Below w.heap.size w w'
def TextErr (w : World) (x : List UInt8 × Int) (e : Ending) (w' : World) : Prop := ∃ b : ByteArray, e = .returned (.tuple #[.string b, .int .i64 x.2]) ∧ b.data.toList = x.1 ∧ Below w.heap.size w w'
set_option maxRecDepth 100000 in
set_option maxHeartbeats 800000 in
theorem Read_any (s : ByteArray) (w : World) (h : s.size ≤ 100000) :
    Calls Tryd.prog 96 #[.string s] w (TextErr w (P18.read s.data.toList)) := by
  have hm : s.size ≤ maxLen := by unfold maxLen; omega
  have hsz := Lib.size_eq s
  obtain ⟨n, c, hnc⟩ : ∃ n c : Nat, P18.cut s.data.toList = (n, c) := ⟨_, _, rfl⟩
  have hcut := Cut_any s w hm
  have hrd : P18.read s.data.toList = P18.readF n c s.data.toList := by rw [P18.read, hnc]
  have hpos := P18.cut_pos s.data.toList
  have hok := P18.cut_ok s.data.toList
  rw [hnc] at hcut hpos hok
  have HC := hide hcut
  clear hcut hnc
  by_cases hbad : c ≠ 0 ∨ n ≠ s.data.toList.length
  · rw [P18.readF_bad hbad] at hrd
    rw [hrd]
    rw [← hsz] at hbad
    clear hrd hsz hpos hok
    go_enter Tryd.func96, Tryd.ntmps96
    by_cases hc0 : c = 0
    · have hn0 : ((n : Int) != (s.size : Int)) = true := by simp; omega
      subst hc0
      clear hbad
      go_wp2_with (first
        | (go_at_call 95; refine (unhide HC).mono ?_; rintro e w' ⟨rfl, rfl⟩))
      go_ret2
      exact ⟨_, rfl, rfl, Below.refl _ _⟩
    · have hc1 : ((c : Int) != 0) = true := by simp; omega
      clear hbad hc0
      go_wp2_with (first
        | (go_at_call 95; refine (unhide HC).mono ?_; rintro e w' ⟨rfl, rfl⟩))
      go_ret2
      exact ⟨_, rfl, rfl, Below.refl _ _⟩
  · obtain ⟨rfl, hn⟩ : c = 0 ∧ n = s.data.toList.length := by omega
    have hp0 := hpos rfl
    rw [← hsz] at hp0
    have hi0 : (0 : Int) < (s.size : Int) := by omega
    have g0 : s.data.toList.getD 0 0 = s[0] := by rw [List.getD_eq_getElem?_getD, Lib.data_getElem? s 0 hp0]; rfl
    by_cases hq : s[0].toNat = 34
    · have hq' : ((s[0].toNat : Int) == 34) = true := by simp; omega
      have h2 := (hok rfl ((P18.prefix_iff _).2 ⟨by omega, by rw [g0]; exact hq⟩)).1
      simp only at h2
      subst hn
      have h2' : 2 ≤ s.size := by omega
      have H2 := hide g0
      have HS := hide hsz
      have HRD := hide hrd
      rw [← hsz] at HC
      have HQ := hide hq
      clear h2 hpos hok hbad g0 hsz hrd hq
      have hex : (s.extract 1 (s.size - 1)).data.toList = (s.data.toList.drop 1).take (s.data.toList.length - 2) := by rw [Lib.extract_data, ← unhide HS]; rfl
      have hwi := within_any (s.extract 1 (s.size - 1)) w (by simp; omega)
      rw [hex] at hwi
      have h34 : (s.data.toList.getD 0 0).toNat = 34 := by
        rw [unhide H2]
        have := unhide HQ
        omega
      cases hw : P18.within ((s.data.toList.drop 1).take (s.data.toList.length - 2)) with
      | none =>
        rw [hw] at hwi
        have hfin := (unhide HRD).trans (P18.readF_none h34 hw)
        rw [hfin]
        have HW := hide hwi
        clear hwi hw h34 hfin hex
        go_enter Tryd.func96, Tryd.ntmps96
        go_wp2_with (first
          | (go_at_call 95; refine (unhide HC).mono ?_; rintro e w' ⟨rfl, rfl⟩)
          | (go_at_call 107; refine (unhide HW).mono ?_; rintro e w' ⟨v, ok, rfl, rfl, hown, hb⟩))
        go_ret2
        exact ⟨_, rfl, rfl, hb⟩
      | some t =>
        rw [hw] at hwi
        have hfin := (unhide HRD).trans (P18.readF_some h34 hw)
        rw [hfin]
        have hl := P18.within_len hw
        have hl2 : t.length ≤ 100000 := by
          have h5 := unhide HS
          simp only [List.length_take, List.length_drop] at hl
          omega
        have HW := hide hwi
        clear hwi hw h34 hfin hex hl
        have hts : (⟨t.toArray⟩ : ByteArray).size ≤ 1000000 := by rw [Lib.size_eq]; simp; omega
        have hck := fun W => Check_any ⟨t.toArray⟩ 4096 W hts
        simp only [list_data] at hck
        cases hbad : (P03.check t 4096 != 0)
        · have hc0 : P03.check t 4096 = 0 := by simpa using hbad
          have hfin : P18.chk t = (t, 0) := by rw [P18.chk, hbad]; rfl
          rw [hfin]
          rw [hc0] at hck
          have HK := hide hck
          clear hck hbad hc0 hfin
          go_enter Tryd.func96, Tryd.ntmps96
          go_wp2_with (first
            | (go_at_call 95; refine (unhide HC).mono ?_; rintro e w' ⟨rfl, rfl⟩)
            | (go_at_call 107; refine (unhide HW).mono ?_; rintro e w1 ⟨v, ok, rfl, rfl, hown, hb⟩; have hcv := conv_own (P := Tryd.prog) 63 9 Tryd.underlying63 Tryd.underlying5 Tryd.underlying9 hown)
            | (go_at_call 108; refine (unhide HK _).mono ?_; rintro e w2 ⟨rfl, hb2⟩))
          go_ret2
          exact ⟨_, rfl, by simp, hb.trans (hb2.mono hb.size)⟩
        · have hfin : P18.chk t = ([], P03.check t 4096) := by rw [P18.chk, hbad]; rfl
          rw [hfin]
          have HK := hide hck
          clear hck hfin
          go_enter Tryd.func96, Tryd.ntmps96
          go_wp2_with (first
            | (go_at_call 95; refine (unhide HC).mono ?_; rintro e w' ⟨rfl, rfl⟩)
            | (go_at_call 107; refine (unhide HW).mono ?_; rintro e w1 ⟨v, ok, rfl, rfl, hown, hb⟩; have hcv := conv_own (P := Tryd.prog) 63 9 Tryd.underlying63 Tryd.underlying5 Tryd.underlying9 hown)
            | (go_at_call 108; refine (unhide HK _).mono ?_; rintro e w2 ⟨rfl, hb2⟩))
          go_ret2
          exact ⟨_, rfl, rfl, hb.trans (hb2.mono hb.size)⟩
    · have hq' : ((s[0].toNat : Int) == 34) = false := by simp; omega
      have hfin : P18.read s.data.toList = P18.chk s.data.toList := by
        rw [hrd, hn]
        exact P18.readF_plain (by rw [g0]; exact hq)
      rw [hfin]
      subst hn
      have hck := fun W => Check_any s 4096 W (by omega)
      rw [← hsz] at HC
      clear hpos hok hbad g0 hsz hrd hq hfin
      cases hbad : (P03.check s.data.toList 4096 != 0)
      · have hc0 : P03.check s.data.toList 4096 = 0 := by simpa using hbad
        have hfin : P18.chk s.data.toList = (s.data.toList, 0) := by rw [P18.chk, hbad]; rfl
        rw [hfin]
        rw [hc0] at hck
        have HK := hide hck
        clear hck hbad hc0 hfin
        go_enter Tryd.func96, Tryd.ntmps96
        go_wp2_with (first
          | (go_at_call 95; refine (unhide HC).mono ?_; rintro e w' ⟨rfl, rfl⟩)
          | (go_at_call 108; refine (unhide HK _).mono ?_; rintro e w2 ⟨rfl, hb2⟩))
        go_ret2
        exact ⟨_, rfl, rfl, hb2⟩
      · have hfin : P18.chk s.data.toList = ([], P03.check s.data.toList 4096) := by rw [P18.chk, hbad]; rfl
        rw [hfin]
        have HK := hide hck
        clear hck hfin
        go_enter Tryd.func96, Tryd.ntmps96
        go_wp2_with (first
          | (go_at_call 95; refine (unhide HC).mono ?_; rintro e w' ⟨rfl, rfl⟩)
          | (go_at_call 108; refine (unhide HK _).mono ?_; rintro e w2 ⟨rfl, hb2⟩))
        go_ret2
        exact ⟨_, rfl, rfl, hb2⟩
end Go.Proofs.YtbnheebblicgkaaDoor
