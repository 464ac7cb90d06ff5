/- The walk of rescriptlaw18.ScalarBack. -/
import Derived.Test.YthnfiijojamlaaaW18L
import Derived.Test.YthnfiijojamlaaaLaw18b
import Derived.Test.YthnfiijojamlaaaPlainR18b
namespace Go.Proofs.Ythnfiijojamlaaa
set_option linter.unusedVariables false
set_option linter.unusedSimpArgs false
open Go.RowKit
set_option maxRecDepth 100000 in
set_option maxHeartbeats 1600000 in
theorem back_law (s b r : ByteArray) (w : World) :
    Calls Try.prog 5 #[.string s, .string b, .string r] w fun e w' => e = .returned (.bool true) ∧ Below w.heap.size w w' := by
  by_cases hbig : 5000 < (s.size : Int) ∨ 100 < (b.size : Int) ∨ 5000 < (r.size : Int)
  · rcases hbig with hbig | hbig | hbig
    all_goals go_enter Try.func5, Try.ntmps5
    all_goals go_wp2_with (go_at_call 7; refine (live_any _).mono ?_; rintro e w1 ⟨rfl, hb1⟩)
    all_goals go_ret
    all_goals exact ⟨rfl, hb1⟩
  · have hs1 : ¬ 5000 < (s.size : Int) := by omega
    have hs2 : ¬ 100 < (b.size : Int) := by omega
    have hs3 : ¬ 5000 < (r.size : Int) := by omega
    clear hbig
    go_enter Try.func5, Try.ntmps5
    go_wp2_with (go_at_call 7; refine (live_any _).mono ?_; rintro e w1 ⟨rfl, hb1⟩)
    refine (Put_any s _ (by omega)).mono ?_
    rintro e w2 ⟨p, rfl, hp, hb2⟩
    have hpl := R18.put_len s.data.toList
    rw [← hp, ← Lib.size_eq, ← Lib.size_eq] at hpl
    go_wp2_with fail
    have hps : p.size ≤ 100000 := by omega
    have hr := fun W => (Read_any p W hps).mono fun _ _ h => h.lit
    rw [hp, R18.read_put] at hr
    obtain ⟨k1, k2, k3⟩ := R18.chk_cases s.data.toList
    rw [k1] at hr
    have hck := fun W => Check_any s 4096 W (by omega)
    have hcut := fun W => Cut_any (p ++ ⟨#[32]⟩ ++ b) W (by rw [Lib.size_eq]; simp only [R18.append_data, List.length_append]; rw [← Lib.size_eq, ← Lib.size_eq]; unfold maxLen; simp; omega)
    have hcl : (p ++ ⟨#[32]⟩ ++ b).data.toList = P18.put s.data.toList ++ 32 :: b.data.toList := by simp only [R18.append_data, hp]; simp
    rw [hcl, R18.cut_put, ← hp, ← Lib.size_eq] at hcut
    obtain ⟨u, g, hug⟩ : ∃ (u : ByteArray) (g : Int), P18.read r.data.toList = (u.data.toList, g) := ⟨⟨(P18.read r.data.toList).1.toArray⟩, (P18.read r.data.toList).2, by simp⟩
    have hru := fun W => (Read_any r W (by omega)).mono fun _ _ h => h.lit
    rw [hug] at hru
    simp only [Lib.mk_data] at hru
    have HCUT := hide hcut
    have HRU := hide hru
    have HUG := hide hug
    clear hcut hru hug hcl hp hpl
    obtain ⟨t, hrt, ht⟩ : ∃ t : ByteArray, (∀ W, Calls Try.prog 8 #[.string p] W fun e w' => e = .returned (.tuple #[.string t, .int .i64 (P03.check s.data.toList 4096)]) ∧ Below W.heap.size W w') ∧
        ((P03.check s.data.toList 4096 = 0 ∧ t = s) ∨ (P03.check s.data.toList 4096 ≠ 0 ∧ t = ⟨#[]⟩)) := by
      refine ⟨_, hr, ?_⟩
      by_cases hc : P03.check s.data.toList 4096 = 0
      · exact .inl ⟨hc, by rw [k2 hc, Lib.mk_data]⟩
      · exact .inr ⟨hc, by rw [k3 hc]⟩
    have HRT := hide hrt
    clear hr hrt k1 k2 k3
    generalize hcc : P03.check s.data.toList 4096 = c at *
    have HCC := hide hcc
    have HCK := hide hck
    clear hcc hck
    have hulen : g = 0 → u.size ≤ 4096 := by
      intro h0
      have := R18.read_len (unhide HUG |>.trans (by rw [h0]))
      rw [← Lib.size_eq] at this; exact this
    rcases ht with ⟨rfl, rfl⟩ | ⟨hc, rfl⟩
    · go_wp2_with fail
      refine (unhide HRT _).mono ?_
      rintro e w3 ⟨rfl, hb3⟩
      go_wp2_with fail
      refine (unhide HCK _).mono ?_
      rintro e w4 ⟨rfl, hb4⟩
      go_wp2_with fail
      refine (unhide HCUT _).mono ?_
      rintro e w5 ⟨rfl, rfl⟩
      go_wp2_with fail
      refine (unhide HRU _).mono ?_
      rintro e w6 ⟨rfl, hb6⟩
      have hb : Below w.heap.size w w6 := by
        have s1 := hb1.size; have s2 := hb2.size; have s3 := hb3.size; have s4 := hb4.size
        exact hb1.trans ((hb2.mono (by omega)).trans ((hb3.mono (by omega)).trans ((hb4.mono (by omega)).trans (hb6.mono (by omega)))))
      clear hb1 hb2 hb3 hb4 hb6
      by_cases hg : g = 0
      · subst hg
        have hul := hulen rfl
        have hback := R18.read_put_read (unhide HUG)
        have HB := hide hback
        clear hback hulen
        go_wp2_with fail
        refine (Put_any u _ (by omega)).mono ?_
        rintro e w7 ⟨q, rfl, hq, hb7⟩
        have hqs : q.size ≤ 100000 := by
          have := R18.put_len u.data.toList
          rw [← hq, ← Lib.size_eq, ← Lib.size_eq] at this; omega
        have hrq := fun W => (Read_any q W hqs).mono fun _ _ h => h.lit
        rw [hq, unhide HB] at hrq
        simp only [Lib.mk_data] at hrq
        clear hq
        go_wp2_with fail
        refine (hrq _).mono ?_
        rintro e w8 ⟨rfl, hb8⟩
        go_wp2_with fail
        go_ret
        refine ⟨by first | rfl | simp, ?_⟩
        have s1 := hb.size; have s2 := hb7.size
        exact hb.trans ((hb7.mono (by omega)).trans (hb8.mono (by omega)))
      · have hg' : (g == 0) = false := by simpa using hg
        clear hg
        go_wp2_with fail
        go_ret
        exact ⟨rfl, hb⟩
    · have hc1 : (c == 0) = false := by simpa using hc
      have hc2 : (c != 0) = true := by simpa using hc
      clear hc
      go_wp2_with fail
      refine (unhide HRT _).mono ?_
      rintro e w3 ⟨rfl, hb3⟩
      go_wp2_with fail
      refine (unhide HCK _).mono ?_
      rintro e w4 ⟨rfl, hb4⟩
      go_wp2_with fail
      refine (unhide HCUT _).mono ?_
      rintro e w5 ⟨rfl, rfl⟩
      go_wp2_with fail
      refine (unhide HRU _).mono ?_
      rintro e w6 ⟨rfl, hb6⟩
      have hb : Below w.heap.size w w6 := by
        have s1 := hb1.size; have s2 := hb2.size; have s3 := hb3.size; have s4 := hb4.size
        exact hb1.trans ((hb2.mono (by omega)).trans ((hb3.mono (by omega)).trans ((hb4.mono (by omega)).trans (hb6.mono (by omega)))))
      clear hb1 hb2 hb3 hb4 hb6
      by_cases hg : g = 0
      · subst hg
        have hul := hulen rfl
        have hback := R18.read_put_read (unhide HUG)
        have HB := hide hback
        clear hback hulen
        go_wp2_with fail
        refine (Put_any u _ (by omega)).mono ?_
        rintro e w7 ⟨q, rfl, hq, hb7⟩
        have hqs : q.size ≤ 100000 := by
          have := R18.put_len u.data.toList
          rw [← hq, ← Lib.size_eq, ← Lib.size_eq] at this; omega
        have hrq := fun W => (Read_any q W hqs).mono fun _ _ h => h.lit
        rw [hq, unhide HB] at hrq
        simp only [Lib.mk_data] at hrq
        clear hq
        go_wp2_with fail
        refine (hrq _).mono ?_
        rintro e w8 ⟨rfl, hb8⟩
        go_wp2_with fail
        go_ret
        refine ⟨by first | rfl | simp, ?_⟩
        have s1 := hb.size; have s2 := hb7.size
        exact hb.trans ((hb7.mono (by omega)).trans (hb8.mono (by omega)))
      · have hg' : (g == 0) = false := by simpa using hg
        clear hg
        go_wp2_with fail
        go_ret
        exact ⟨rfl, hb⟩
end Go.Proofs.Ythnfiijojamlaaa
