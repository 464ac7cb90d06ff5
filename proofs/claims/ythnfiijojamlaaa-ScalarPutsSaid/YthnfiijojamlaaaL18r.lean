/- The walks of rescriptlaw18.ScalarReads and ScalarPuts. -/
import Derived.Test.YthnfiijojamlaaaW18L
import Derived.Test.YthnfiijojamlaaaWR18b
import Derived.Test.YthnfiijojamlaaaWR18d
namespace Go.Proofs.Ythnfiijojamlaaa
set_option linter.unusedVariables false
set_option linter.unusedSimpArgs false
open Go.RowKit
theorem TextErrR.lit {w : World} {x : List UInt8 × Int} {e : Ending} {w' : World} (h : TextErrR w x e w') : e = .returned (.tuple #[.string ⟨x.1.toArray⟩, .int .i64 x.2]) ∧ Below w.heap.size w w' := by
  obtain ⟨b, rfl, hb, hw⟩ := h
  exact ⟨by rw [← hb, Lib.mk_data], hw⟩
set_option maxRecDepth 100000 in
set_option maxHeartbeats 1600000 in
theorem reads_law (s : ByteArray) (w : World) :
    Calls Try.prog 3 #[.string s] w fun e w' => e = .returned (.bool true) ∧ Below w.heap.size w w' := by
  by_cases hbig : 5000 < (s.size : Int)
  · go_enter Try.func3, Try.ntmps3
    go_wp2_with (go_at_call 7; refine (live_any _).mono ?_; rintro e w1 ⟨rfl, hb1⟩)
    go_ret
    exact ⟨rfl, hb1⟩
  · have hs : s.size ≤ 100000 := by omega
    have hm : s.size ≤ maxLen := by unfold maxLen; omega
    obtain ⟨t, c, htc⟩ : ∃ (t : ByteArray) (c : Int), P18.read s.data.toList = (t.data.toList, c) := ⟨⟨(P18.read s.data.toList).1.toArray⟩, (P18.read s.data.toList).2, by simp⟩
    have h1 := fun W => (Read_any s W hs).mono fun _ _ h => h.lit
    have h2 := fun W => (refRead_any s W hs).mono fun _ _ h => h.lit
    rw [htc] at h1 h2
    simp only [Lib.mk_data] at h1 h2
    have h3 := fun W => Cut_any s W hm
    have h4 := fun W => refCut_any s W hs
    have H1 := hide h1
    have H2 := hide h2
    have H3 := hide h3
    have H4 := hide h4
    clear h1 h2 h3 h4 htc
    go_enter Try.func3, Try.ntmps3
    go_wp2_with (go_at_call 7; refine (live_any _).mono ?_; rintro e w1 ⟨rfl, hb1⟩)
    refine (unhide H1 _).mono ?_
    rintro e w2 ⟨rfl, hb2⟩
    go_wp2_with fail
    refine (unhide H2 _).mono ?_
    rintro e w3 ⟨rfl, hb3⟩
    go_wp2_with fail
    refine (unhide H3 _).mono ?_
    rintro e w4 ⟨rfl, rfl⟩
    go_wp2_with fail
    refine (unhide H4 _).mono ?_
    rintro e w5 ⟨rfl, rfl⟩
    go_wp2_with fail
    go_ret
    exact ⟨by first | rfl | simp, hb1.trans ((hb2.mono hb1.size).trans (hb3.mono (by have := hb1.size; have := hb2.size; omega)))⟩
set_option maxRecDepth 100000 in
set_option maxHeartbeats 1600000 in
theorem puts_law (s : ByteArray) (w : World) :
    Calls Try.prog 4 #[.string s] w fun e w' => e = .returned (.bool true) ∧ Below w.heap.size w w' := by
  by_cases hbig : 5000 < (s.size : Int)
  · go_enter Try.func4, Try.ntmps4
    go_wp2_with (go_at_call 7; refine (live_any _).mono ?_; rintro e w1 ⟨rfl, hb1⟩)
    go_ret
    exact ⟨rfl, hb1⟩
  · have hs : s.size ≤ 100000 := by omega
    have hm : s.size ≤ maxLen := by unfold maxLen; omega
    obtain ⟨q, hq⟩ : ∃ q : ByteArray, q.data.toList = P18.quote s.data.toList := ⟨⟨(P18.quote s.data.toList).toArray⟩, by simp⟩
    obtain ⟨p, hp⟩ : ∃ p : ByteArray, p.data.toList = P18.put s.data.toList := ⟨⟨(P18.put s.data.toList).toArray⟩, by simp⟩
    have h1 := fun W => Plain_any s W hm
    have h2 := fun W => refPlain_any s W hm
    have h3 : ∀ W, Calls Try.prog 14 #[.string s] W fun e w' => e = .returned (.string q) ∧ Below W.heap.size W w' := fun W => (Quote_any s W hs).mono fun _ _ h => by
      have := TextPost.lit h
      rw [← hq, Lib.mk_data] at this; exact this
    have h4 : ∀ W, Calls Try.prog 15 #[.string s] W fun e w' => e = .returned (.string q) ∧ Below W.heap.size W w' := fun W => (refQuote_any s W hs).mono fun _ _ h => by
      have := TextPost.lit h
      rw [← hq, Lib.mk_data] at this; exact this
    have h5 : ∀ W, Calls Try.prog 16 #[.string s] W fun e w' => e = .returned (.string p) ∧ Below W.heap.size W w' := fun W => (Put_any s W hs).mono fun _ _ h => by
      have := TextPost.lit h
      rw [← hp, Lib.mk_data] at this; exact this
    have h6 : ∀ W, Calls Try.prog 17 #[.string s] W fun e w' => e = .returned (.string p) ∧ Below W.heap.size W w' := fun W => (refPut_any s W hs).mono fun _ _ h => by
      have := TextPost.lit h
      rw [← hp, Lib.mk_data] at this; exact this
    have H1 := hide h1
    have H2 := hide h2
    have H3 := hide h3
    have H4 := hide h4
    have H5 := hide h5
    have H6 := hide h6
    clear h1 h2 h3 h4 h5 h6 hq hp
    go_enter Try.func4, Try.ntmps4
    go_wp2_with (go_at_call 7; refine (live_any _).mono ?_; rintro e w1 ⟨rfl, hb1⟩)
    refine (unhide H1 _).mono ?_
    rintro e w2 ⟨rfl, rfl⟩
    go_wp2_with fail
    refine (unhide H2 _).mono ?_
    rintro e w3 ⟨rfl, rfl⟩
    go_wp2_with fail
    refine (unhide H3 _).mono ?_
    rintro e w4 ⟨rfl, hb4⟩
    go_wp2_with fail
    refine (unhide H4 _).mono ?_
    rintro e w5 ⟨rfl, hb5⟩
    go_wp2_with fail
    refine (unhide H5 _).mono ?_
    rintro e w6 ⟨rfl, hb6⟩
    go_wp2_with fail
    refine (unhide H6 _).mono ?_
    rintro e w7 ⟨rfl, hb7⟩
    go_wp2_with fail
    go_ret
    refine ⟨by first | rfl | simp, ?_⟩
    have s1 := hb1.size; have s4 := hb4.size; have s5 := hb5.size; have s6 := hb6.size
    exact hb1.trans ((hb4.mono (by omega)).trans ((hb5.mono (by omega)).trans ((hb6.mono (by omega)).trans (hb7.mono (by omega)))))
end Go.Proofs.Ythnfiijojamlaaa
