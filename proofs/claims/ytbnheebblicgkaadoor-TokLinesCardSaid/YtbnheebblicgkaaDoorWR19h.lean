/- walks of rescriptlaw19.TokLines, TokReads -/
import Derived.Test.YtbnheebblicgkaaDoorWR19f
import Derived.Test.YtbnheebblicgkaaDoorG19c
namespace Go.Proofs.YtbnheebblicgkaaDoor
set_option linter.unusedVariables false
set_option linter.unusedSimpArgs false
open Go.RowKit
theorem refTokAll_any (s : ByteArray) (w : World) (hs : s.size ≤ 100000) :
    Calls Tryd.prog 21 #[.string s] w fun e w' => ∃ v, e = .returned (.tuple #[v, faultV (P19.all s.data.toList).2]) ∧ OwnT w' w.heap.size v (P19.all s.data.toList).1 ∧ Below w.heap.size w w' := by
  unfold P19.all
  by_cases hf : (check17 s.data.toList).1 = 0
  · rw [if_neg (by simpa using hf)]
    exact refTokAll_good s w hs hf
  · rw [if_pos hf]
    exact (refTokAll_bad s w hs hf).mono fun e w' ⟨h1, h2⟩ => ⟨_, h1, World.ownsRow_nil _ _ _ _, h2⟩
theorem allR_len : ∀ (rs : List (Nat × Nat × List UInt8)) (b : Bool) (out : List Tk) (st : List Int) (last : Int), P19.Row st → st.length ≤ 16 → (P19.allR b rs out st last).1.length ≤ out.length + 40 * P19.weight rs + 16
  | [], b, out, st, last, hr, hl => by
    have h1 := P19.close_len last 0 0 st
    unfold P19.allR
    rw [List.length_append]
    omega
  | r :: rs, b, out, st, last, hr, hl => by
    have hla := P19.toks_at r.1 r.2.1 r.2.2
    have htl := P19.toks_len r.1 r.2.1 r.2.2
    have hw : P19.weight (r :: rs) = r.2.2.length + 1 + P19.weight rs := by unfold P19.weight; rw [List.map_cons, List.sum_cons]
    unfold P19.allR
    split
    · simp
    · split
      · simp
      · split
        · simp
        · rename_i h3
          have h4 := P19.adds_row (n := (r.1 : Int)) (P19.rowT r).1 true 0 out st hr hl (fun t ht => by have := (hla.1 t ht).2.1; omega) (fun h => by cases h) (fun t ht => by have := hla.2.2 t ht; omega) (by simpa using h3)
          have h5 := allR_len rs false (P19.adds r.1 true 0 (P19.rowT r).1 out st).2.1 (P19.adds r.1 true 0 (P19.rowT r).1 out st).2.2 r.1 h4.1 h4.2.1
          have h6 := h4.2.2
          rw [if_pos rfl] at h6
          have h7 : (P19.rowT r).1.length ≤ r.2.2.length + 1 := htl
          omega
theorem all_len (s : List UInt8) : (P19.all s).1.length ≤ 80 * s.length + 16 := by
  unfold P19.all
  split
  · simp
  · have h1 := allR_len (rows17 s) true [] [0] 0 P19.row_zero (by decide)
    have h2 := P19.weight_le s
    simp only [List.length_nil] at h1
    omega
set_option maxRecDepth 100000 in
set_option maxHeartbeats 4000000 in
theorem TokLines_any (N C : Int) (s : ByteArray) (w : World) :
    Calls Tryd.prog 7 #[.agg #[.int .i64 N, .int .i64 C, .string s]] w fun e w' => e = .returned (.bool true) ∧ Below w.heap.size w w' := by
  obtain ⟨h, hh⟩ : ∃ h, w.heap.size = h := ⟨_, rfl⟩
  go_enter Tryd.func7, Tryd.ntmps7
  go_upto_region 3 with (go_at_call 19; refine (tokLive_any _).mono ?_; rintro e W1 ⟨rfl, hb1⟩)
  have hb0 : Below w.heap.size w W1 := ((Below.refl _ w).alloc (Nat.le_refl _) _).trans (hb1.mono (by simp))
  have f1 : W1.heap[w.heap.size]? = some (.cells #[.int .i64 N, .int .i64 C, .string s] 39) := (hb1.block _ (by simp)).trans (World.alloc_heap_new w _)
  rw [hh] at hb0 f1
  try rw [hh]
  have hl1 : h < W1.heap.size := (Array.getElem?_eq_some_iff.1 f1).1
  clear hb1
  obtain ⟨⟨x0, _⟩, ⟨x1, _⟩, ⟨x2, _⟩⟩ := three_cell f1
  by_cases c1 : 500 < (s.size : Int)
  · go_wp2
    go_ret
    exact ⟨rfl, by (try rw [hh]); exact hb0⟩
  have c1' : (s.size : Int) ≤ 500 := by omega
  by_cases c2 : C < 0
  · go_wp2
    go_ret
    exact ⟨rfl, by (try rw [hh]); exact hb0⟩
  have c2' : 0 ≤ C := by omega
  by_cases c3 : 1000 < C
  · go_wp2
    go_ret
    exact ⟨rfl, by (try rw [hh]); exact hb0⟩
  have c3' : C ≤ 1000 := by omega
  have hA := fun W => tokLine_any N C s W (by omega) (by omega) (by omega)
  have hB := fun W => refLine_any (s.data.toList.length + 1) s N C W (by rw [Lib.size_eq]; omega) (by omega) (by omega) (by omega)
  have htl := P19.toks_len N C s.data.toList
  rw [← Lib.size_eq] at htl
  have htke : P19.line (s.data.toList.length + 1) N C s.data.toList = P19.toks N C s.data.toList := rfl
  obtain ⟨⟨ts, E⟩, hT⟩ : ∃ x, P19.toks N C s.data.toList = x := ⟨_, rfl⟩
  simp only [htke, hT] at hA hB htl
  have hcl : (ts.map castT).length ≤ 100000000 := by rw [List.length_map]; omega
  have HA := hide hA
  have HB := hide hB
  clear hA hB htke hT htl c1 c2 c3
  go_upto_region 6 with (go_at_call 23; refine (unhide HA _).mono ?_; rintro e W2 ⟨v2, rfl, ho2, hb2⟩)
  have f2 := (hb2.block h hl1).trans f1
  have b2 : Below h w W2 := hb0.trans (hb2.mono (by omega))
  have hl2 := hb2.size
  clear x0 x1 x2 f1
  obtain ⟨⟨x0, _⟩, ⟨x1, _⟩, ⟨x2, _⟩⟩ := three_cell f2
  go_upto_region 7 with (go_at_call 24; refine (unhide HB _).mono ?_; rintro e W3 ⟨v3, rfl, ho3, hb3⟩)
  have r2 := (rdt_of_own ho2).below hb3 hb3.size
  have r3 := rdt_of_own ho3
  have b3 : Below h w W3 := b2.trans (hb3.mono (by omega))
  go_wp2_with (go_at_call 22; refine (Same_any _ _ _ _ r2 r3 hcl).mono ?_; rintro e W4 ⟨rfl, n4, hW4⟩)
  go_ret
  try rw [hW4]
  exact ⟨rfl, by (try rw [hh]); exact below_any b3 _⟩
set_option maxRecDepth 100000 in
set_option maxHeartbeats 4000000 in
theorem TokReads_any (s : ByteArray) (w : World) :
    Calls Tryd.prog 6 #[.string s] w fun e w' => e = .returned (.bool true) ∧ Below w.heap.size w w' := by
  go_enter Tryd.func6, Tryd.ntmps6
  go_upto_region 3 with (go_at_call 19; refine (tokLive_any _).mono ?_; rintro e W1 ⟨rfl, hb0⟩)
  by_cases c1 : 3000 < (s.size : Int)
  · go_wp2
    go_ret
    exact ⟨rfl, hb0⟩
  have c1' : (s.size : Int) ≤ 3000 := by omega
  have hA := fun W => tokAll_any s W (by omega)
  have hB := fun W => refTokAll_any s W (by omega)
  have hln := all_len s.data.toList
  rw [← Lib.size_eq] at hln
  obtain ⟨⟨ts, E, F⟩, hT⟩ : ∃ x, P19.all s.data.toList = x := ⟨_, rfl⟩
  simp only [hT] at hA hB hln
  unfold faultV at hA hB
  have hcl : (ts.map castT).length ≤ 100000000 := by rw [List.length_map]; omega
  have HA := hide hA
  have HB := hide hB
  clear hA hB hT hln c1
  go_upto_region 6 with (go_at_call 20; refine (unhide HA _).mono ?_; rintro e W2 ⟨v2, rfl, ho2, hb2⟩)
  have b2 : Below w.heap.size w W2 := hb0.trans (hb2.mono hb0.size)
  obtain ⟨n2, hn2⟩ : ∃ n, W2.heap.size = n := ⟨_, rfl⟩
  have f2 := World.alloc_heap_new W2 (.cells #[.int .i64 E, .int .i64 F] 26)
  have r2 := (rdt_of_own ho2).below ((Below.refl _ W2).alloc (Nat.le_refl _) (.cells #[.int .i64 E, .int .i64 F] 26)) (Nat.le_refl _)
  have k2 : Below w.heap.size w (W2.alloc (.cells #[.int .i64 E, .int .i64 F] 26)) := below_alloc' b2 b2.size _
  have z2 : (W2.alloc (.cells #[.int .i64 E, .int .i64 F] 26)).heap.size = n2 + 1 := by rw [World.size_alloc, hn2]
  rw [hn2] at f2 r2 ⊢
  generalize W2.alloc (.cells #[.int .i64 E, .int .i64 F] 26) = X2 at f2 r2 k2 z2 ⊢
  clear ho2 hb2 b2 hn2
  go_upto_region 7 with (go_at_call 21; refine (unhide HB _).mono ?_; rintro e W3 ⟨v3, rfl, ho3, hb3⟩)
  have b3 : Below w.heap.size w W3 := k2.trans (hb3.mono k2.size)
  have f3 := (hb3.block n2 (by omega)).trans f2
  have s3 := hb3.size
  have r3 := r2.below (hb3.mono (by omega)) (show n2 ≤ W3.heap.size by omega)
  have f4 := World.alloc_heap_new W3 (.cells #[.int .i64 E, .int .i64 F] 26)
  have k3 : Below W3.heap.size W3 (W3.alloc (.cells #[.int .i64 E, .int .i64 F] 26)) := (Below.refl _ W3).alloc (Nat.le_refl _) _
  have f5 := (k3.block n2 (by omega)).trans f3
  have r4 := r3.below k3 k3.size
  have r5 := (rdt_of_own ho3).below k3 k3.size
  have b4 : Below w.heap.size w (W3.alloc (.cells #[.int .i64 E, .int .i64 F] 26)) := below_alloc' b3 b3.size _
  have x0 := (two_cell0 f5).1
  have x1 := (two_cell1 f5).1
  have y0 := (two_cell0 f4).1
  have y1 := (two_cell1 f4).1
  generalize W3.alloc (.cells #[.int .i64 E, .int .i64 F] 26) = X3 at r4 r5 b4 x0 x1 y0 y1 ⊢
  generalize W3.heap.size = n3 at y0 y1 ⊢
  go_wp2_with (go_at_call 22; refine (Same_any _ _ _ _ r4 r5 hcl).mono ?_; rintro e W4 ⟨rfl, n4, hW4⟩)
  go_ret
  try rw [hW4]
  exact ⟨rfl, below_any b4 _⟩
end Go.Proofs.YtbnheebblicgkaaDoor
