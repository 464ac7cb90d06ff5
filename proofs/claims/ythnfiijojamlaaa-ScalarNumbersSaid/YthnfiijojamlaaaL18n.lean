/- The walk of rescriptlaw18.ScalarNumbers. -/
import Derived.Test.YthnfiijojamlaaaW18L
import Derived.Test.YthnfiijojamlaaaWR18a
import Derived.Test.YthnfiijojamlaaaLaw18n
namespace Go.Proofs.Ythnfiijojamlaaa
set_option linter.unusedVariables false
set_option linter.unusedSimpArgs false
open Go.RowKit
set_option maxRecDepth 100000 in
set_option maxHeartbeats 1600000 in
theorem numbers_law (n : Int) (s : ByteArray) (w : World) :
    Calls Try.prog 6 #[.int .i64 n, .string s] w fun e w' => e = .returned (.bool true) ∧ Below w.heap.size w w' := by
  by_cases hbig : 100 < (s.size : Int)
  · go_enter Try.func6, Try.ntmps6
    go_wp2_with (go_at_call 7; refine (live_any _).mono ?_; rintro e w1 ⟨rfl, hb1⟩)
    go_ret
    exact ⟨rfl, hb1⟩
  · have hs : s.size ≤ 100000 := by omega
    obtain ⟨m, c, hmc⟩ : ∃ m c : Int, P18.number s.data.toList = (m, c) := ⟨_, _, rfl⟩
    have hnum := fun W => Number_any s W hs
    have href := fun W => refNumber_any s W hs
    rw [hmc] at hnum href
    simp only at hnum href
    by_cases hc : c = 0
    · subst hc
      have HDM := hide (P18.digits_number hmc)
      clear hmc
      by_cases hn : n < 0 ∨ 999999999 < n
      · have hdn : P18.digits n = [] := by rw [P18.digits, if_pos hn]
        have HDN := hide hdn
        clear hdn
        rcases hn with hn | hn
        all_goals
          go_enter Try.func6, Try.ntmps6
          go_wp2_with (go_at_call 7; refine (live_any _).mono ?_; rintro e w1 ⟨rfl, hb1⟩)
          refine (Digits_any n _).mono ?_
          rintro e w2 ⟨d, rfl, hd, hb2⟩
          rw [unhide HDN] at hd
          have hem : d.toList.isEmpty = true := by rw [Lib.toList_data, hd]; rfl
          clear hd
          go_wp2_with fail
          refine (hnum _).mono ?_
          rintro e w4 ⟨rfl, hb4⟩
          go_wp2_with fail
          refine (href _).mono ?_
          rintro e w5 ⟨rfl, rfl⟩
          go_wp2_with fail
          refine (Digits_any m _).mono ?_
          rintro e w6 ⟨d2, rfl, hd2, hb6⟩
          rw [unhide HDM] at hd2
          obtain rfl : d2 = s := by
            cases d2; cases s; simpa using hd2
          go_wp2_with fail
          go_ret
          exact ⟨rfl, hb1.trans ((hb2.mono hb1.size).trans ((hb4.mono (by have := hb1.size; have := hb2.size; omega)).trans (hb6.mono (by have := hb1.size; have := hb2.size; have := hb4.size; omega))))⟩
      · have h0 : 0 ≤ n := by omega
        have h9 : n ≤ 999999999 := by omega
        have HDN := hide (P18.number_digits h0 h9)
        have hdl : (P18.digits n).length ≤ 100 := P18.digits_len n
        clear hn
        go_enter Try.func6, Try.ntmps6
        go_wp2_with (go_at_call 7; refine (live_any _).mono ?_; rintro e w1 ⟨rfl, hb1⟩)
        refine (Digits_any n _).mono ?_
        rintro e w2 ⟨d, rfl, hd, hb2⟩
        have hds : d.size ≤ 100000 := by rw [Lib.size_eq, hd]; omega
        have hdnum := fun W => Number_any d W hds
        rw [hd, unhide HDN] at hdnum
        clear hd
        go_wp2_with fail
        refine (hdnum _).mono ?_
        rintro e w3 ⟨rfl, hb3⟩
        go_wp2_with fail
        refine (hnum _).mono ?_
        rintro e w4 ⟨rfl, hb4⟩
        go_wp2_with fail
        refine (href _).mono ?_
        rintro e w5 ⟨rfl, rfl⟩
        go_wp2_with fail
        refine (Digits_any m _).mono ?_
        rintro e w6 ⟨d2, rfl, hd2, hb6⟩
        rw [unhide HDM] at hd2
        obtain rfl : d2 = s := by
          cases d2; cases s; simpa using hd2
        go_wp2_with fail
        go_ret
        exact ⟨rfl, hb1.trans ((hb2.mono hb1.size).trans ((hb3.mono (by have := hb1.size; have := hb2.size; omega)).trans ((hb4.mono (by have := hb1.size; have := hb2.size; have := hb3.size; omega)).trans (hb6.mono (by have := hb1.size; have := hb2.size; have := hb3.size; have := hb4.size; omega)))))⟩
    · have hc' : (c != 0) = true := by simpa using hc
      clear hmc hc
      by_cases hn : n < 0 ∨ 999999999 < n
      · have hdn : P18.digits n = [] := by rw [P18.digits, if_pos hn]
        have HDN := hide hdn
        clear hdn
        rcases hn with hn | hn
        all_goals
          go_enter Try.func6, Try.ntmps6
          go_wp2_with (go_at_call 7; refine (live_any _).mono ?_; rintro e w1 ⟨rfl, hb1⟩)
          refine (Digits_any n _).mono ?_
          rintro e w2 ⟨d, rfl, hd, hb2⟩
          rw [unhide HDN] at hd
          have hem : d.toList.isEmpty = true := by rw [Lib.toList_data, hd]; rfl
          clear hd
          go_wp2_with fail
          refine (hnum _).mono ?_
          rintro e w4 ⟨rfl, hb4⟩
          go_wp2_with fail
          refine (href _).mono ?_
          rintro e w5 ⟨rfl, rfl⟩
          go_wp2_with fail
          go_ret
          exact ⟨rfl, hb1.trans ((hb2.mono hb1.size).trans (hb4.mono (by have := hb1.size; have := hb2.size; omega)))⟩
      · have h0 : 0 ≤ n := by omega
        have h9 : n ≤ 999999999 := by omega
        have HDN := hide (P18.number_digits h0 h9)
        have hdl : (P18.digits n).length ≤ 100 := P18.digits_len n
        clear hn
        go_enter Try.func6, Try.ntmps6
        go_wp2_with (go_at_call 7; refine (live_any _).mono ?_; rintro e w1 ⟨rfl, hb1⟩)
        refine (Digits_any n _).mono ?_
        rintro e w2 ⟨d, rfl, hd, hb2⟩
        have hds : d.size ≤ 100000 := by rw [Lib.size_eq, hd]; omega
        have hdnum := fun W => Number_any d W hds
        rw [hd, unhide HDN] at hdnum
        clear hd
        go_wp2_with fail
        refine (hdnum _).mono ?_
        rintro e w3 ⟨rfl, hb3⟩
        go_wp2_with fail
        refine (hnum _).mono ?_
        rintro e w4 ⟨rfl, hb4⟩
        go_wp2_with fail
        refine (href _).mono ?_
        rintro e w5 ⟨rfl, rfl⟩
        go_wp2_with fail
        go_ret
        exact ⟨rfl, hb1.trans ((hb2.mono hb1.size).trans ((hb3.mono (by have := hb1.size; have := hb2.size; omega)).trans (hb4.mono (by have := hb1.size; have := hb2.size; have := hb3.size; omega))))⟩
end Go.Proofs.Ythnfiijojamlaaa
