/- walk of layer 17's laws: live -/
import Derived.Test.YtbnheebblicgkaaDoorWR17d
namespace Go.Proofs.YtbnheebblicgkaaDoor
set_option linter.unusedVariables false
set_option linter.unusedSimpArgs false
open Go.RowKit Go.Shelf
/-- a row as it is read -/
def castR (r : Nat × Nat × List UInt8) : Int × Int × ByteArray := (r.1, r.2.1, ⟨r.2.2.toArray⟩)
theorem rowsCells_get : ∀ (rs : List (Nat × Nat × List UInt8)) (i : Nat) (r : Nat × Nat × List UInt8), rs[i]? = some r → (rowsCells rs)[i * 3]? = some (.int .i64 r.1) ∧ (rowsCells rs)[i * 3 + 1]? = some (.int .i64 r.2.1) ∧ (rowsCells rs)[i * 3 + 2]? = some (bsOf r.2.2)
  | [], i, r, h => by simp at h
  | a :: rs, 0, r, h => by
    simp at h
    subst h
    exact ⟨rfl, rfl, rfl⟩
  | a :: rs, i + 1, r, h => by
    have ih := rowsCells_get rs i r (by simpa using h)
    have e : rowsCells (a :: rs) = rowCells a ++ rowsCells rs := rfl
    have l3 : (rowCells a).length = 3 := rfl
    rw [e, List.getElem?_append_right (by omega), List.getElem?_append_right (by omega), List.getElem?_append_right (by omega), l3]
    rw [show (i + 1) * 3 - 3 = i * 3 from by omega, show (i + 1) * 3 + 1 - 3 = i * 3 + 1 from by omega, show (i + 1) * 3 + 2 - 3 = i * 3 + 2 from by omega]
    exact ih
theorem rdl_of_own {w : World} {B : Nat} {e : TypeId} {v : Value} {rs : List (Nat × Nat × List UInt8)} (h : OwnL w B e v rs) : RdL w w.heap.size v (rs.map castR) := by
  unfold OwnL at h
  rcases Nat.eq_zero_or_pos rs.length with h0 | h0
  · have hnil := List.eq_nil_of_length_eq_zero h0
    subst hnil
    obtain ⟨ao, m, cap, hv⟩ := own_slice h
    rcases h.2 with ⟨hv, _⟩ | ⟨g, cap, cur, hv, _⟩
    · exact ⟨_, _, hv, fun i r hr => by simp at hr⟩
    · exact ⟨_, _, hv, fun i r hr => by simp at hr⟩
  · obtain ⟨g, cap, hv, hb, hlt⟩ := h.form h0
    subst hv
    refine ⟨_, _, by rw [List.length_map], fun i r hr => ⟨g, 0, rfl, hlt, ?_⟩⟩
    rw [List.getElem?_map, Option.map_eq_some_iff] at hr
    obtain ⟨a, ha, rfl⟩ := hr
    obtain ⟨c0, c1, c2⟩ := rowsCells_get rs i a ha
    have hi : i < rs.length := (List.getElem?_eq_some_iff.1 ha).1
    rw [Nat.zero_add, h.cellAt _ (by omega), h.cellAt _ (by omega), h.cellAt _ (by omega)]
    exact ⟨c0, c1, c2⟩
theorem RdL.below {w w' : World} {B : Nat} {v : Value} {rs : List (Int × Int × ByteArray)} (h : RdL w B v rs) (hb : Below B w w') {B' : Nat} (hB : B ≤ B') : RdL w' B' v rs := by
  obtain ⟨ao, cap, hv, hc⟩ := h
  refine ⟨ao, cap, hv, fun i r hr => ?_⟩
  obtain ⟨g, o, h1, h2, h3, h4, h5⟩ := hc i r hr
  exact ⟨g, o, h1, by omega, (cell_below hb h2 _).trans h3, (cell_below hb h2 _).trans h4, (cell_below hb h2 _).trans h5⟩
theorem live1 : check17 [97, 10, 32, 32, 10, 35, 32, 120, 10, 32, 32, 98, 32, 35, 32, 99] = (0, 0) ∧ rows17 [97, 10, 32, 32, 10, 35, 32, 120, 10, 32, 32, 98, 32, 35, 32, 99] = [(1, 0, [97]), (4, 2, [98])] := by decide +kernel
theorem live2 : check17 [97, 10, 9, 98] = (3, 2) := by decide +kernel
theorem live3 : check17 [97, 10, 255] = (9, 2) := by decide +kernel
theorem live4 : strip17 [97, 32, 34, 98, 32, 35, 32, 99, 34, 32, 35, 32, 100] = [97, 32, 34, 98, 32, 35, 32, 99, 34] := by decide +kernel
theorem liveA (w : World) : Calls Tryd.prog 11 #[.string ⟨#[97, 10, 32, 32, 10, 35, 32, 120, 10, 32, 32, 98, 32, 35, 32, 99]⟩] w fun e w' => ∃ g cap, e = .returned (.tuple #[.slice (some ⟨g, 0, none⟩) 2 cap, .agg #[.int .i64 0, .int .i64 0]]) ∧ g < w'.heap.size ∧
    w'.cell? ⟨g, 3, none⟩ = some (.int .i64 4) ∧ w'.cell? ⟨g, 4, none⟩ = some (.int .i64 2) ∧ w'.cell? ⟨g, 5, none⟩ = some (.string ⟨#[98]⟩) ∧ Hid (RdL w' w'.heap.size (.slice (some ⟨g, 0, none⟩) 2 cap) [(1, 0, ⟨#[97]⟩), (4, 2, ⟨#[98]⟩)]) ∧ Below w.heap.size w w' := by
  refine (lineAll_any _ w (by decide)).mono ?_
  rintro e w' ⟨v, rfl, ho, hb⟩
  rw [live1.1, live1.2, if_pos rfl] at ho
  rw [live1.1]
  have hr := rdl_of_own ho
  obtain ⟨ao, cap, hv, hc⟩ := hr
  obtain ⟨g, o, h1, h2, h3, h4, h5⟩ := hc 1 (4, 2, ⟨#[98]⟩) rfl
  subst hv
  subst h1
  have ho2 : o = 0 := by
    obtain ⟨g', cap', hv', _, _⟩ := World.ownsRow.form ho (by decide)
    simp at hv'
    exact hv'.1.2
  subst ho2
  exact ⟨g, cap, rfl, h2, h3, h4, h5, ⟨_, _, rfl, hc⟩, hb⟩
theorem liveB (w : World) : Calls Tryd.prog 11 #[.string ⟨#[97, 10, 9, 98]⟩] w fun e w' => ∃ v, e = .returned (.tuple #[v, .agg #[.int .i64 3, .int .i64 2]]) ∧ Below w.heap.size w w' := by
  refine (lineAll_any _ w (by decide)).mono ?_
  rintro e w' ⟨v, rfl, ho, hb⟩
  rw [live2]
  exact ⟨v, rfl, hb⟩
theorem liveC (w : World) : Calls Tryd.prog 11 #[.string ⟨#[97, 10, 255]⟩] w fun e w' => ∃ v, e = .returned (.tuple #[v, .agg #[.int .i64 9, .int .i64 2]]) ∧ Below w.heap.size w w' := by
  refine (lineAll_any _ w (by decide)).mono ?_
  rintro e w' ⟨v, rfl, ho, hb⟩
  rw [live3]
  exact ⟨v, rfl, hb⟩
theorem liveS (w : World) : Calls Tryd.prog 16 #[.string ⟨#[97, 32, 34, 98, 32, 35, 32, 99, 34, 32, 35, 32, 100]⟩] w fun e w' => e = .returned (.string ⟨#[97, 32, 34, 98, 32, 35, 32, 99, 34]⟩) ∧ ∃ n, w' = w.drewN n := by
  refine (Strip_any _ w (by decide)).mono ?_
  rintro e w' ⟨rfl, hb⟩
  rw [show (⟨#[97, 32, 34, 98, 32, 35, 32, 99, 34, 32, 35, 32, 100]⟩ : ByteArray).data.toList = [97, 32, 34, 98, 32, 35, 32, 99, 34, 32, 35, 32, 100] from rfl, live4]
  exact ⟨rfl, hb⟩
theorem liveJ (v : Value) (w : World) (h : RdL w w.heap.size v [(1, 0, ⟨#[97]⟩), (4, 2, ⟨#[98]⟩)]) : Calls Tryd.prog 18 #[v] w fun e w' => e = .returned (.string ⟨#[97, 10, 32, 32, 98, 10]⟩) ∧ Below w.heap.size w w' := by
  refine (Join_any v _ w h (by decide +kernel)).mono ?_
  rintro e w' ⟨b, rfl, HB, hb⟩
  refine ⟨ret_str ?_, hb⟩
  have h1 : b.data.toList = [97, 10, 32, 32, 98, 10] := (unhide HB).trans (by decide +kernel)
  obtain ⟨d⟩ := b
  congr 1
  exact Array.toList_inj.1 h1
theorem liveN (w : World) : Calls Tryd.prog 14 #[.string ⟨#[97, 10, 98]⟩] w fun e w' => e = .returned (.int .i64 2) ∧ Below w.heap.size w w' := Count_any _ w (by decide)
theorem liveM (w : World) : Calls Tryd.prog 14 #[.string ⟨#[]⟩] w fun e w' => e = .returned (.int .i64 0) ∧ Below w.heap.size w w' := Count_any _ w (by decide)
set_option maxRecDepth 100000 in
set_option maxHeartbeats 1600000 in
theorem live_any (w : World) :
    Calls Tryd.prog 10 #[] w fun e w' => e = .returned (.bool true) ∧ Below w.heap.size w w' := by
  go_enter Tryd.func10, Tryd.ntmps10
  go_wp2_with (first
    | (have hq := hb2; clear hq; go_at_call 11; refine (liveC _).mono ?_; rintro e W3 ⟨v3, rfl, hb3⟩)
    | (have hq := hb1; clear hq; go_at_call 11; refine (liveB _).mono ?_; rintro e W2 ⟨v2, rfl, hb2⟩)
    | (go_at_call 11; refine (liveA _).mono ?_; rintro e W1 ⟨g, cap, rfl, hg1, hc3, hc4, hc5, hR, hb1⟩))
  obtain ⟨W4, hW4⟩ : ∃ W4, W3.alloc (.cells #[.int .i64 9, .int .i64 2] 26) = W4 := ⟨_, rfl⟩
  have k1 : Below W1.heap.size W1 W2 := ((Below.refl _ W1).alloc (Nat.le_refl _) _).trans (hb2.mono (by simp))
  have k2 : Below W2.heap.size W2 W3 := ((Below.refl _ W2).alloc (Nat.le_refl _) _).trans (hb3.mono (by simp))
  have k3 : Below W3.heap.size W3 W4 := by rw [← hW4]; exact (Below.refl _ W3).alloc (Nat.le_refl _) _
  have s1 := hb1.size
  have s2 := k1.size
  have s3 := k2.size
  have s4 := k3.size
  have f1 : W2.heap[W1.heap.size]? = some (.cells #[.int .i64 0, .int .i64 0] 26) := (hb2.block _ (by simp)).trans (World.alloc_heap_new W1 _)
  have f2 : W3.heap[W2.heap.size]? = some (.cells #[.int .i64 3, .int .i64 2] 26) := (hb3.block _ (by simp)).trans (World.alloc_heap_new W2 _)
  have f3 : W4.heap[W3.heap.size]? = some (.cells #[.int .i64 9, .int .i64 2] 26) := by rw [← hW4]; exact World.alloc_heap_new W3 _
  have l1 : W1.heap.size < W2.heap.size := (Array.getElem?_eq_some_iff.1 f1).1
  have l2 : W2.heap.size < W3.heap.size := (Array.getElem?_eq_some_iff.1 f2).1
  have l3 : W3.heap.size < W4.heap.size := (Array.getElem?_eq_some_iff.1 f3).1
  have b14 : Below W1.heap.size W1 W4 := (k1.trans (k2.mono (by omega))).trans (k3.mono (by omega))
  have b24 : Below W2.heap.size W2 W4 := k2.trans (k3.mono (by omega))
  have h1 : W4.heap[W1.heap.size]? = some (.cells #[.int .i64 0, .int .i64 0] 26) := (b24.block _ l1).trans f1
  have h2 : W4.heap[W2.heap.size]? = some (.cells #[.int .i64 3, .int .i64 2] 26) := (k3.block _ l2).trans f2
  have hb4 : Below w.heap.size w W4 := hb1.trans (b14.mono hb1.size)
  have hR4 := hide ((unhide hR).below b14 (Nat.le_of_lt (by omega : W1.heap.size < W4.heap.size)))
  have c3 := (cell_below b14 hg1 3).trans hc3
  have c4 := (cell_below b14 hg1 4).trans hc4
  have c5 := (cell_below b14 hg1 5).trans hc5
  rw [hW4]
  generalize W1.heap.size = n1 at h1 ⊢
  generalize W2.heap.size = n2 at h2 ⊢
  generalize W3.heap.size = n3 at f3 ⊢
  clear hW4 k1 k2 k3 s1 s2 s3 s4 f1 f2 l1 l2 l3 b14 b24 hc3 hc4 hc5 hb1 hb2 hb3 hR hg1
  go_wp2_with (first
    | (go_at_call 16; refine (liveS _).mono ?_; rintro e W5 ⟨rfl, nd, hW5⟩; have hb5 : Below w.heap.size w W5 := (by rw [hW5]; exact below_drewN' hb4); have hR5 := hide (show RdL W5 W5.heap.size (.slice (some ⟨g, 0, none⟩) 2 cap) [(1, 0, ⟨#[97]⟩), (4, 2, ⟨#[98]⟩)] from (by rw [hW5]; exact unhide hR4)); have x1 : W5.heap[n1]? = some (.cells #[.int .i64 0, .int .i64 0] 26) := (by rw [hW5]; exact h1); have x2 : W5.heap[n2]? = some (.cells #[.int .i64 3, .int .i64 2] 26) := (by rw [hW5]; exact h2); have x3 : W5.heap[n3]? = some (.cells #[.int .i64 9, .int .i64 2] 26) := (by rw [hW5]; exact f3); have y3 : W5.cell? ⟨g, 3, none⟩ = some (.int .i64 4) := (by rw [hW5]; exact c3); have y4 : W5.cell? ⟨g, 4, none⟩ = some (.int .i64 2) := (by rw [hW5]; exact c4); have y5 : W5.cell? ⟨g, 5, none⟩ = some (.string ⟨#[98]⟩) := (by rw [hW5]; exact c5); have a0 := (two_cell0 x1).1; have a1 := (two_cell1 x1).1; have a2 := (two_cell0 x2).1; have a3 := (two_cell1 x2).1; have a4 := (two_cell0 x3).1; have a5 := (two_cell1 x3).1; clear hW5)
    | (go_at_call 18; refine (liveJ _ _ (unhide hR5)).mono ?_; rintro e W6 ⟨rfl, hb6⟩)
    | (have hq := hb7; clear hq; go_at_call 14; refine (liveM _).mono ?_; rintro e W8 ⟨rfl, hb8⟩)
    | (go_at_call 14; refine (liveN _).mono ?_; rintro e W7 ⟨rfl, hb7⟩))
  go_ret
  exact ⟨rfl, ((hb5.trans (hb6.mono hb5.size)).trans ((hb7.mono hb6.size).mono hb5.size)).trans (((hb8.mono hb7.size).mono hb6.size).mono hb5.size)⟩
theorem lines17_len (s : List UInt8) : (lines17 s).length = (rawL s).length := by unfold lines17; rw [List.length_map]
theorem rows_len (s : List UInt8) (R : Int) : (if R = 0 then rows17 s else []).length ≤ s.length := by
  split
  · refine Nat.le_trans (rowsFrom_len _ _) ?_
    rw [lines17_len]
    exact rawL_le _
  · exact Nat.zero_le _
set_option maxRecDepth 100000 in
set_option maxHeartbeats 1600000 in
theorem LineReads_any (s : ByteArray) (w : World) :
    Calls Tryd.prog 3 #[.string s] w fun e w' => e = .returned (.bool true) ∧ Below w.heap.size w w' := by
  go_enter Tryd.func3, Tryd.ntmps3
  go_wp2_with (go_at_call 10; refine (live_any _).mono ?_; rintro e W0 ⟨rfl, hb0⟩)
  · go_ret
    exact ⟨rfl, hb0⟩
  · have hs : s.size ≤ 1000000 := by omega
    obtain ⟨RS, hrs⟩ : ∃ RS, (if (check17 s.data.toList).1 = 0 then rows17 s.data.toList else []) = RS := ⟨_, rfl⟩
    obtain ⟨⟨r1, r2⟩, hR⟩ : ∃ R, check17 s.data.toList = R := ⟨_, rfl⟩
    have hl := rows_len s.data.toList (check17 s.data.toList).1
    have hA := lineAll_any s W0 hs
    have hB := fun W => refAll_any s W (by omega)
    rw [hrs] at hl hA
    rw [hR] at hA
    simp only [hrs] at hB
    simp only [hR] at hB
    rw [← Lib.size_eq] at hl
    have hl2 : (RS.map castR).length ≤ 100000000 := by rw [List.length_map]; omega
    have HA := hide hA
    have HB := hide hB
    clear hA hB hrs hR hl
    have hcnt := Count_any s
    have hstr := Strip_any s
    have hs3 : s.size ≤ 4000000 := by omega
    have hs4 : s.size ≤ 1099511627776 := by omega
    go_wp2_with (first
      | (go_at_call 11; refine (unhide HA).mono ?_; rintro e W1 ⟨v1, rfl, ho1, hb1⟩; unfold faultV)
      | (go_at_call 12; refine (unhide HB _).mono ?_; rintro e W2 ⟨v2, rfl, ho2, hb2⟩; unfold faultV; have hR1 := rdl_of_own ho1; have hR2 := rdl_of_own ho2; have k1 : Below W1.heap.size W1 W2 := ((Below.refl _ W1).alloc (Nat.le_refl _) _).trans (hb2.mono (by simp)); have f1 : W2.heap[W1.heap.size]? = some (.cells #[.int .i64 r1, .int .i64 r2] 26) := (hb2.block _ (by simp)).trans (World.alloc_heap_new W1 _); have l1 : W1.heap.size < W2.heap.size := (Array.getElem?_eq_some_iff.1 f1).1; have k2 : Below W2.heap.size W2 (W2.alloc (.cells #[.int .i64 r1, .int .i64 r2] 26)) := (Below.refl _ W2).alloc (Nat.le_refl _) _; have f3 := (k2.block _ l1).trans f1; have f4 := World.alloc_heap_new W2 (.cells #[.int .i64 r1, .int .i64 r2] 26); have x0 := (two_cell0 f3).1; have x1 := (two_cell1 f3).1; have y0 := (two_cell0 f4).1; have y1 := (two_cell1 f4).1; have S1 := (hR1.below k1 (Nat.le_of_lt l1)).below k2 k2.size; have S2 := hR2.below k2 k2.size; have hbc : Below w.heap.size w (W2.alloc (.cells #[.int .i64 r1, .int .i64 r2] 26)) := ((hb0.trans (hb1.mono hb0.size)).trans (k1.mono (Nat.le_trans hb0.size hb1.size))).trans (k2.mono (Nat.le_trans (Nat.le_trans hb0.size hb1.size) k1.size)))
      | (go_at_call 13; refine (same_any _ _ true _ _ S1 S2 hl2).mono ?_; rintro e W3 ⟨rfl, n3, hW3⟩; have hb3 : Below w.heap.size w W3 := (by rw [hW3]; exact below_drewN' hbc); clear hW3)
      | (go_at_call 14; refine (Count_any s _ hs4).mono ?_; rintro e W4 ⟨rfl, hb4⟩)
      | (go_at_call 15; refine (refSplit_any s _ hs3).mono ?_; rintro e W5 ⟨v5, rfl, hown5, hb5⟩; obtain ⟨ao, cap, hv5, _⟩ := ownS_shape hown5; rw [lines17_len] at hv5; subst hv5)
      | (go_at_call 16; refine (Strip_any s _ hs4).mono ?_; rintro e W6 ⟨rfl, n6, hW6⟩; have hb6 : Below w.heap.size w W6 := (by rw [hW6]; exact below_drewN' ((hb3.trans (hb4.mono hb3.size)).trans ((hb5.mono hb4.size).mono hb3.size))); clear hW6)
      | (go_at_call 17; refine (refStrip_any s _ hs3).mono ?_; rintro e W7 ⟨rfl, rfl⟩))
    go_ret
    exact ⟨rfl, hb6⟩
end Go.Proofs.YtbnheebblicgkaaDoor
