/- walk of LineRemarks -/
import Derived.Test.YtbnheebblicgkaaDoorPlainL17c
import Derived.Test.YtbnheebblicgkaaDoorWR17f
namespace Go.Proofs.YtbnheebblicgkaaDoor
set_option linter.unusedVariables false
set_option linter.unusedSimpArgs false
open Go.RowKit Go.Shelf
theorem rows_N : ∀ (ls : List (List UInt8)) (k : Nat) (r : Nat × Nat × List UInt8), r ∈ rowsFrom k ls → r.1 ≤ k + ls.length
  | [], k, r, h => by simp [rowsFrom] at h
  | l :: ls, k, r, h => by
    unfold rowsFrom at h
    rw [List.length_cons]
    split at h
    · have := rows_N ls (k + 1) r h; omega
    · rename_i x hx
      rcases List.mem_cons.1 h with rfl | h
      · have := (rowOf_line hx).2.1; omega
      · have := rows_N ls (k + 1) r h; omega
theorem first_line (remark : List UInt8) : ∃ l0 rest, lines17 (35 :: remark ++ [120]) = l0 :: rest ∧ ((10 : UInt8) ∉ remark → l0 = 35 :: remark ++ [120]) ∧ ((10 : UInt8) ∈ remark → l0 ≠ 35 :: remark ++ [120]) := by
  cases h : lines17 (35 :: remark ++ [120]) with
  | nil =>
    have h1 := congrArg List.length h
    rw [lines17_len] at h1
    have h2 : rawL (35 :: remark ++ [120]) = [] := List.eq_nil_of_length_eq_zero (by simpa using h1)
    rw [rawL_nil_iff] at h2
    simp at h2
  | cons l0 rest =>
    refine ⟨l0, rest, rfl, fun hn => ?_, fun hm e => ?_⟩
    · have h3 : feedAt (35 :: remark ++ [120]) = none := by
        unfold feedAt
        rw [List.findIdx?_eq_none_iff]
        intro x hx
        have : x ≠ 10 := fun e => by subst e; simp [hn] at hx
        simpa using this
      rw [lines17, rawL_none _ (by simp) h3, List.map_singleton, chop_not _ (by simp [hn])] at h
      simp at h
      simpa using h.1.symm
    · have h1 := lines_no (35 :: remark ++ [120]) l0 (by rw [h]; exact List.mem_cons_self)
      rw [e] at h1
      exact h1 (by simp [hm])
theorem moreK_drop (at' : Nat) (X : List UInt8) {ls : List (List UInt8)} {i : Nat} {l : List UInt8} (h : ls[i]? = some l) : moreK at' X i (ls.drop i) = l ++ (if i = at' then X else []) ++ 10 :: moreK at' X (i + 1) (ls.drop (i + 1)) := by
  obtain ⟨hi, hl⟩ := List.getElem?_eq_some_iff.1 h
  rw [List.drop_eq_getElem_cons hi, hl, moreK]
theorem any34 (l : List UInt8) : ((l.any (· == 34)) = false) → (34 : UInt8) ∉ l := by
  intro h hm
  rw [List.any_eq_false] at h
  exact h 34 hm rfl
theorem any_snoc34 (l : List UInt8) (k : Nat) (h : k < l.length) : (l.take (k + 1)).any (· == 34) = ((l.take k).any (· == 34) || (l[k] == 34)) := by
  rw [List.take_add_one, List.getElem?_eq_getElem h, List.any_append]
  simp
set_option maxRecDepth 100000 in
set_option maxHeartbeats 800000 in
/-- guards that answer at once -/
theorem LineRemarks_out (s remark : ByteArray) (a : Int) (w : World) (hs : s.size ≤ 4000000) (h : ¬ (s.size ≤ 1000 ∧ remark.size ≤ 100 ∧ 0 ≤ a ∧ a < (lines17 s.data.toList).length)) :
    Calls Tryd.prog 5 #[.string s, .string remark, .int .i64 a] w fun e w' => e = .returned (.bool true) ∧ Below w.heap.size w w' := by
  obtain ⟨n, hn⟩ : ∃ n, (lines17 s.data.toList).length = n := ⟨_, rfl⟩
  rw [hn] at h
  have HN := hide hn
  clear hn
  have key : ((1000 : Int) < (s.size : Int)) ∨ ((s.size : Int) ≤ 1000 ∧ (100 : Int) < (remark.size : Int)) ∨ ((s.size : Int) ≤ 1000 ∧ (remark.size : Int) ≤ 100 ∧ a < 0) ∨ ((s.size : Int) ≤ 1000 ∧ (remark.size : Int) ≤ 100 ∧ 0 ≤ a ∧ (n : Int) ≤ a) := by omega
  clear h
  rcases key with h1 | ⟨h1, h2⟩ | ⟨h1, h2, h3⟩ | ⟨h1, h2, h3, h4⟩
  all_goals
    go_enter Tryd.func5, Tryd.ntmps5
    go_wp2_with (first
      | (go_at_call 10; refine (live_any _).mono ?_; rintro e W0 ⟨rfl, hb0⟩)
      | (go_at_call 15; refine (refSplit_any s _ hs).mono ?_; rintro e W1 ⟨v1, rfl, hown1, hb1⟩; obtain ⟨ao, cap, hv, _⟩ := ownS_shape hown1; rw [unhide HN] at hv; subst hv; have hb01 : Below w.heap.size w W1 := hb0.trans (hb1.mono hb0.size)))
    go_ret
    exact ⟨rfl, hb01⟩
theorem lineAll_at (s : List UInt8) (b : ByteArray) (W : World) (RS : List (Nat × Nat × List UInt8)) (r1 : Int) (hb : b.data.toList = s) (hl : s.length ≤ 1000000) (h1 : (check17 s).1 = r1) (h2 : (if r1 = 0 then rows17 s else []) = RS) :
    Calls Tryd.prog 11 #[.string b] W fun e w' => ∃ v r2, e = .returned (.tuple #[v, .agg #[.int .i64 r1, .int .i64 r2]]) ∧ OwnL w' W.heap.size 39 v RS ∧ Below W.heap.size W w' := by
  refine (lineAll_any b W (by rw [Lib.size_eq, hb]; exact hl)).mono ?_
  rintro e w' ⟨v, rfl, ho, hbl⟩
  rw [hb, h1, h2] at ho
  rw [hb]
  refine ⟨v, (check17 s).2, ?_, ho, hbl⟩
  rw [← h1]
  rfl
theorem splitX (wb : ByteArray) (l0 : List UInt8) (rest : List (List UInt8)) (W : World) (hs : wb.size ≤ 4000000) (h : lines17 wb.data.toList = l0 :: rest) :
    Calls Tryd.prog 15 #[.string wb] W fun e w' => ∃ g n cap, e = .returned (.slice (some ⟨g, 0, none⟩) (n + 1) cap) ∧ w'.cell? ⟨g, 0, none⟩ = some (bsOf l0) ∧ Below W.heap.size W w' := by
  refine (refSplit_any wb W hs).mono ?_
  rintro e w' ⟨v, rfl, ho, hb⟩
  obtain ⟨ao, cap, rfl, hc⟩ := ownS_shape ho
  rw [h] at hc
  obtain ⟨g, rfl, _, _, hc0⟩ := hc 0 l0 rfl
  refine ⟨g, rest.length, cap, ?_, hc0, hb⟩
  rw [h]
  rfl
set_option maxRecDepth 100000 in
set_option maxHeartbeats 3200000 in
theorem LineRemarks_in (s remark : ByteArray) (a : Nat) (w : World) (hs : s.size ≤ 1000) (hrs : remark.size ≤ 100) (ha : a < (lines17 s.data.toList).length) :
    Calls Tryd.prog 5 #[.string s, .string remark, .int .i64 a] w fun e w' => e = .returned (.bool true) ∧ Below w.heap.size w w' := by
  obtain ⟨n, hn⟩ : ∃ n, (lines17 s.data.toList).length = n := ⟨_, rfl⟩
  have hnl : n ≤ 1000 := by
    have h1 := rawL_le s.data.toList
    rw [← lines17_len, ← Lib.size_eq] at h1
    omega
  rw [hn] at ha
  have HN := hide hn
  clear hn
  have i1 : (s.size : Int) ≤ 1000 := by omega
  have i2 : (remark.size : Int) ≤ 100 := by omega
  have i3 : (0 : Int) ≤ (a : Int) := by omega
  have i4 : (a : Int) < (n : Int) := by omega
  have hs3 : s.size ≤ 4000000 := by omega
  obtain ⟨hb, hhb⟩ : ∃ hb : ByteArray, (⟨#[35]⟩ ++ remark : ByteArray) = hb := ⟨_, rfl⟩
  have hhd : hb.data.toList = 35 :: remark.data.toList := by rw [← hhb, append_data]; rfl
  have hhs : hb.size ≤ 1000 := by
    rw [Lib.size_eq, hhd, List.length_cons, ← Lib.size_eq]
    omega
  obtain ⟨wb, hwb⟩ : ∃ wb : ByteArray, (hb ++ ⟨#[120]⟩ : ByteArray) = wb := ⟨_, rfl⟩
  have hwd : wb.data.toList = 35 :: remark.data.toList ++ [120] := by rw [← hwb, append_data, hhd]
  have hws : wb.size ≤ 4000000 := by
    rw [Lib.size_eq, hwd, List.length_append, List.length_cons, ← Lib.size_eq]
    show remark.size + 1 + 1 ≤ _
    omega
  have hAll := fun W => refAll_any hb W (by omega)
  rw [hhd] at hAll
  obtain ⟨⟨q1, q2⟩, hQ⟩ : ∃ Q, check17 (35 :: remark.data.toList) = Q := ⟨_, rfl⟩
  rw [hQ] at hAll
  have HAll := hide hAll
  have HQ := hide hQ
  have HWD := hide hwd
  clear hAll hQ hhd hwd
  go_enter Tryd.func5, Tryd.ntmps5
  by_cases hq0 : q1 = 0
  rotate_left
  · have hqn : (q1 != 0) = true := by simpa using hq0
    clear hq0
    go_wp2_with (first
      | (go_at_call 10; refine (live_any _).mono ?_; rintro e W0 ⟨rfl, hb0⟩)
      | (go_at_call 15; refine (refSplit_any s _ hs3).mono ?_; rintro e W1 ⟨v1, rfl, hown1, hb1⟩; obtain ⟨ao, cap, hv, _⟩ := ownS_shape hown1; rw [unhide HN] at hv; subst hv; have hb01 : Below w.heap.size w W1 := hb0.trans (hb1.mono hb0.size))
      | (go_at_call 12; refine (unhide HAll _).mono ?_; rintro e W2 ⟨v2, rfl, _, hb2⟩; unfold faultV; have hb02 : Below w.heap.size w W2 := hb01.trans (hb2.mono hb01.size); have hbx := faultBox W2 q1 q2))
    go_ret
    exact ⟨rfl, hb02.alloc hb02.size _⟩
  subst hq0
  obtain ⟨l0, rest, hfl1, hfl2, hfl3⟩ := first_line remark.data.toList
  have hspl := fun W => splitX wb l0 rest W hws (by rw [unhide HWD]; exact hfl1)
  have HSPL := hide hspl
  clear hspl
  by_cases h10 : (10 : UInt8) ∈ remark.data.toList
  · obtain ⟨lb, hlb, hlbd⟩ := bytesOf l0
    have hne : (lb.toList == wb.toList) = false := by
      rw [Lib.toList_data, Lib.toList_data, beq_eq_false_iff_ne]
      exact fun e => hfl3 h10 (by rw [← hlbd, e, unhide HWD])
    clear hfl1 hfl2 hfl3 h10
    go_wp2_with (first
      | (go_at_call 10; refine (live_any _).mono ?_; rintro e W0 ⟨rfl, hb0⟩)
      | (have hq := hb02; clear hq; go_at_call 15; refine (unhide HSPL _).mono ?_; rintro e W3 ⟨g3, n3, cap3, rfl, hc3, hb3⟩; rw [hlb] at hc3; have hb03 : Below w.heap.size w W3 := (hb02.alloc hb02.size _).trans (hb3.mono (hb02.alloc hb02.size (.cells #[.int .i64 0, .int .i64 q2] 26)).size))
      | (go_at_call 15; refine (refSplit_any s _ hs3).mono ?_; rintro e W1 ⟨v1, rfl, hown1, hb1⟩; obtain ⟨ao, cap, hv, _⟩ := ownS_shape hown1; rw [unhide HN] at hv; subst hv; have hb01 : Below w.heap.size w W1 := hb0.trans (hb1.mono hb0.size))
      | (go_at_call 12; refine (unhide HAll _).mono ?_; rintro e W2 ⟨v2, rfl, _, hb2⟩; unfold faultV; have hb02 : Below w.heap.size w W2 := hb01.trans (hb2.mono hb01.size); have hbx := faultBox W2 0 q2))
    go_ret
    exact ⟨rfl, hb03⟩
  have hlb : bsOf l0 = .string wb := by
    unfold bsOf
    congr 1
    refine bytes_ext ?_
    rw [unhide HWD, ← hfl2 h10]
  have hX10 := h10
  clear hfl1 hfl2 hfl3 h10
  have HX10 := hide hX10
  clear hX10
  go_wp2_with (first
    | (go_at_call 10; refine (live_any _).mono ?_; rintro e W0 ⟨rfl, hb0⟩)
    | (have hq := hb02; clear hq; go_at_call 15; refine (unhide HSPL _).mono ?_; rintro e W3 ⟨g3, n3, cap3, rfl, hc3, hb3⟩; rw [hlb] at hc3; have hb03 : Below w.heap.size w W3 := (hb02.alloc hb02.size _).trans (hb3.mono (hb02.alloc hb02.size (.cells #[.int .i64 0, .int .i64 q2] 26)).size); have hk3 : Below W1.heap.size W1 W3 := (hk2.alloc hk2.size _).trans (hb3.mono (hk2.alloc hk2.size (.cells #[.int .i64 0, .int .i64 q2] 26)).size))
    | (go_at_call 15; refine (refSplit_any s _ hs3).mono ?_; rintro e W1 ⟨v1, rfl, hown1, hb1⟩; obtain ⟨ao, cap, hv, hcell⟩ := ownS_shape hown1; rw [unhide HN] at hv; subst hv; have HC := hide hcell; clear hcell; have hb01 : Below w.heap.size w W1 := hb0.trans (hb1.mono hb0.size))
    | (go_at_call 12; refine (unhide HAll _).mono ?_; rintro e W2 ⟨v2, rfl, _, hb2⟩; unfold faultV; have hb02 : Below w.heap.size w W2 := hb01.trans (hb2.mono hb01.size); have hk2 : Below W1.heap.size W1 W2 := hb2; have hbx := faultBox W2 0 q2))
  have hgla : (lines17 s.data.toList)[a]? = some ((lines17 s.data.toList)[a]'(by rw [unhide HN]; exact ha)) := List.getElem?_eq_getElem _
  generalize (lines17 s.data.toList)[a]'(by rw [unhide HN]; exact ha) = la at hgla
  obtain ⟨g, rfl, hg1, hg2, hca⟩ := unhide HC a la hgla
  obtain ⟨lab, hlab1, hlab2⟩ := bytesOf la
  rw [hlab1] at hca
  have hcx := (cell_below hk3 hg2 a).trans hca
  have hlas : lab.size ≤ 1000 := by
    rw [Lib.size_eq, hlab2]
    have := lines17_le (List.mem_of_getElem? hgla)
    rw [← Lib.size_eq] at this
    omega
  have HLA := hide hlab2
  have HGA := hide hgla
  clear hlab1 hlab2 hca hgla hbx hc3 hhb hwb
  have hcell2 : ∀ i l, (lines17 s.data.toList)[i]? = some l → ∃ lb : ByteArray, W3.cell? ⟨g, i, none⟩ = some (.string lb) ∧ lb.data.toList = l := by
    intro i l hl
    obtain ⟨g', h1, _, h3, h4⟩ := unhide HC i l hl
    obtain ⟨lb, h5, h6⟩ := bytesOf l
    injection h1 with h1a
    injection h1a with h1b
    subst h1b
    rw [h5] at h4
    exact ⟨lb, (cell_below hk3 h3 i).trans h4, h6⟩
  have HC3 := hide hcell2
  clear hcell2
  go_loopg [10, 11] lab.size (fun g' s10 s11 wx => ∃ (k : Nat) (q : Bool), k + g' = lab.size ∧ s11 = .int .i64 k ∧ s10 = .bool q ∧ Hid (q = (la.take k).any (· == 34)) ∧ W3 = wx)
  case atStart => exact ⟨0, false, by omega, by go_num, rfl, hide rfl, rfl⟩
  case round =>
    obtain ⟨k, q, hkg, rfl, rfl, HQQ, rfl⟩ := hrel
    cases gk with
    | zero =>
      have e1 : (lab.size : Int) = (k : Int) := by omega
      have HQ2 := hide (show q = la.any (· == 34) by
        have := unhide HQQ
        rw [List.take_of_length_le (by rw [← unhide HLA, ← Lib.size_eq]; omega)] at this
        exact this)
      clear HQQ
      obtain ⟨X, hX⟩ : ∃ X, (if q then [] else insX remark.data.toList) = X := ⟨_, rfl⟩
      have hlaw := remarks_law s.data.toList remark.data.toList a X (by rw [← Lib.size_eq]; exact hs) (by rw [← Lib.size_eq]; exact hrs) (by rw [unhide HQ]) (unhide HX10) (by
        cases q with
        | true => left; exact hX.symm
        | false => right; exact ⟨hX.symm, fun l hl => by rw [unhide HGA] at hl; cases hl; exact any34 _ (unhide HQ2).symm⟩)
      have HLAW := hide hlaw
      have HXX := hide hX
      clear hlaw hX
      go_wp2
      go_loopg [12, 13] n (fun g' s12 s13 wx => ∃ (i : Nat) (c : ByteArray), i + g' = n ∧ s13 = .int .i64 i ∧ s12 = .string c ∧ Hid (moreK a X 0 (lines17 s.data.toList) = c.data.toList ++ moreK a X i ((lines17 s.data.toList).drop i)) ∧ W3 = wx)
      case atStart => exact ⟨0, ⟨#[]⟩, by omega, by go_num, rfl, hide rfl, rfl⟩
      case round =>
        obtain ⟨i, c, hig, rfl, rfl, HM, rfl⟩ := hrel
        cases gk with
        | zero =>
          have e2 : (n : Int) = (i : Int) := by omega
          have hmore : c.data.toList = moreK a X 0 (lines17 s.data.toList) := by
            have := unhide HM
            rw [List.drop_eq_nil_of_le (by rw [unhide HN]; omega), moreK, List.append_nil] at this
            exact this.symm
          clear HM
          obtain ⟨hl1, hl2, hl3⟩ := unhide HLAW
          obtain ⟨r1, hr1⟩ : ∃ r1, (check17 s.data.toList).1 = r1 := ⟨_, rfl⟩
          rw [hr1] at hl1
          obtain ⟨RA, hRA⟩ : ∃ RA, (if r1 = 0 then rows17 s.data.toList else []) = RA := ⟨_, rfl⟩
          obtain ⟨RB, hRB⟩ : ∃ RB, (if r1 = 0 then rows17 (moreK a X 0 (lines17 s.data.toList)) else []) = RB := ⟨_, rfl⟩
          have hal : alikeR RA RB := by
            rw [← hRA, ← hRB]
            split
            · exact hl2
            · trivial
          have hA1 := fun W => lineAll_at s.data.toList s W RA r1 rfl (by rw [← Lib.size_eq]; omega) hr1 hRA
          have hA2 := fun W => lineAll_at _ c W RB r1 hmore (by omega) hl1 hRB
          have hNN : ∀ r ∈ RA, r.1 ≤ 1000 := by
            intro r hr
            rw [← hRA] at hr
            split at hr
            · have h1 := rows_N _ 0 r hr
              have h2 := unhide HN
              omega
            · simp at hr
          obtain ⟨m, hm⟩ : ∃ m, RA.length = m := ⟨_, rfl⟩
          have hm2 : RB.length = m := by rw [← alikeR_len hal]; exact hm
          have hml : m ≤ 1000 := by
            have h1 := rows_len s.data.toList r1
            rw [hRA, hm, ← Lib.size_eq] at h1
            omega
          have HA1 := hide hA1
          have HA2 := hide hA2
          have HAL := hide hal
          have HNN := hide hNN
          have HMM := hide hm
          have HMB := hide hm2
          clear hA1 hA2 hal hNN hm hm2 hRA hRB hr1 hl1 hl2 hl3 hmore
          go_wp2_with (first
            | (have hq := hb05; clear hq; go_at_call 11; refine (unhide HA2 _).mono ?_; rintro e W6 ⟨v6, r6, rfl, ho6, hb6⟩; have hb06 : Below w.heap.size w W6 := (hb05.alloc hb05.size _).trans (hb6.mono (hb05.alloc hb05.size (.cells #[.int .i64 r1, .int .i64 r5] 26)).size); have f5 : W6.heap[W5.heap.size]? = some (.cells #[.int .i64 r1, .int .i64 r5] 26) := (hb6.block _ (by simp)).trans (World.alloc_heap_new W5 _); have l5 : W5.heap.size < W6.heap.size := (Array.getElem?_eq_some_iff.1 f5).1; have x5 := (two_cell0 ((Below.heap_alloc W6 (.cells #[.int .i64 r1, .int .i64 r6] 26) _ l5).trans f5)).1; have x6 := faultBox W6 r1 r6; have k5 : Below W5.heap.size W5 W6 := ((Below.refl _ W5).alloc (Nat.le_refl _) _).trans (hb6.mono (by simp)); have HR5 := hide ((rdl_of_own ho5).below k5 k5.size); have HR6 := hide (rdl_of_own ho6); obtain ⟨bo6, cap6, hv6, hcb6⟩ := id (unhide HR6); rw [List.length_map, unhide HMB] at hv6; subst hv6; clear hcb6 k5 f5)
            | (go_at_call 11; refine (unhide HA1 _).mono ?_; rintro e W5 ⟨v5, r5, rfl, ho5, hb5⟩; have hb05 : Below w.heap.size w W5 := hb03.trans (hb5.mono hb03.size); have HR4 := hide (rdl_of_own ho5); obtain ⟨bo5, cap5, hv5, hcb5⟩ := id (unhide HR4); rw [List.length_map, unhide HMM] at hv5; subst hv5; clear hcb5))
          obtain ⟨W7, hW7⟩ : ∃ W7, W6.alloc (.cells #[.int .i64 r1, .int .i64 r6] 26) = W7 := ⟨_, rfl⟩
          have hRa : Hid (RdL W7 W7.heap.size (.slice bo5 m cap5) (RA.map castR)) := hide (by rw [← hW7]; exact (unhide HR5).alloc _)
          have hRb : Hid (RdL W7 W7.heap.size (.slice bo6 m cap6) (RB.map castR)) := hide (by rw [← hW7]; exact (unhide HR6).alloc _)
          have hb07 : Below w.heap.size w W7 := by rw [← hW7]; exact hb06.alloc hb06.size _
          rw [hW7]
          clear x5 x6 hW7 HR5 HR6 HR4 ho5 ho6 hb5 hb6 hb05 hb06 l5
          go_loopg [18] m (fun g' s18 wx => ∃ i4 m4 : Nat, i4 + g' = m ∧ s18 = .int .i64 i4 ∧ W7.drewN m4 = wx)
          case atStart => exact ⟨0, 0, by omega, by go_num, rfl⟩
          case round =>
            obtain ⟨i4, m4, hig4, rfl, hwx⟩ := hrel
            have HWX := hide hwx
            clear hwx
            cases gk with
            | zero =>
              have e4 : (m : Int) = (i4 : Int) := by omega
              go_wp2
              go_ret
              exact ⟨rfl, by rw [← unhide HWX]; exact below_drewN' hb07⟩
            | succ g4 =>
              have hlt4 : (i4 : Int) < (m : Int) := by omega
              have hki4 : IntKind.i64.wrap ((i4 : Int) + 1) = (i4 : Int) + 1 := IntWalk.i64_in _ (by omega)
              have hil4 : i4 < RA.length := by rw [unhide HMM]; omega
              have hil5 : i4 < RB.length := by rw [unhide HMB]; omega
              have hgl4 : RA[i4]? = some RA[i4] := List.getElem?_eq_getElem hil4
              have hgl5 : RB[i4]? = some RB[i4] := List.getElem?_eq_getElem hil5
              have hN4 := unhide HNN _ (List.getElem_mem hil4)
              obtain ⟨⟨u1, u2, u3⟩, hu⟩ : ∃ r, RA[i4] = r := ⟨_, rfl⟩
              obtain ⟨⟨p1, p2, p3⟩, hp⟩ : ∃ r, RB[i4] = r := ⟨_, rfl⟩
              rw [hu] at hgl4 hN4
              rw [hp] at hgl5
              obtain ⟨ha1, ha2, ha3, ha4⟩ := alikeR_get i4 (unhide HAL) hgl4 hgl5
              simp only at ha1 ha2 ha3 ha4 hN4
              subst ha1
              subst ha2
              have hga : (RA.map castR)[i4]? = some ((u1 : Int), (u2 : Int), (⟨u3.toArray⟩ : ByteArray)) := by rw [List.getElem?_map, hgl4]; rfl
              have hgb : (RB.map castR)[i4]? = some ((p1 : Int), (u2 : Int), (⟨u3.toArray⟩ : ByteArray)) := by rw [List.getElem?_map, hgl5]; rfl
              obtain ⟨_, _, hv1, hca⟩ := unhide hRa
              obtain ⟨_, _, hv2, hcb⟩ := unhide hRb
              injection hv1 with hv1a hv1b hv1c
              injection hv2 with hv2a hv2b hv2c
              clear hv1b hv2b
              subst hv1a
              subst hv2a
              subst hv1c
              subst hv2c
              obtain ⟨ga, oa, rfl, hga2, hc0, hc1, hc2⟩ := hca i4 _ hga
              obtain ⟨gb, ob5, rfl, hgb2, hd0, hd1', hd2'⟩ := hcb i4 _ hgb
              obtain ⟨tb, htb⟩ : ∃ tb : ByteArray, (⟨u3.toArray⟩ : ByteArray) = tb := ⟨_, rfl⟩
              rw [htb] at hc2 hd2'
              obtain ⟨uz, huz⟩ : ∃ uz : Int, (u1 : Int) = uz := ⟨_, rfl⟩
              obtain ⟨pz, hpz⟩ : ∃ pz : Int, (p1 : Int) = pz := ⟨_, rfl⟩
              rw [huz] at hc0
              rw [hpz] at hd0
              have hw1 : IntKind.i64.wrap (uz + 1) = uz + 1 := IntWalk.i64_in _ (by omega)
              have hd1 : decide (pz < uz) = false := by simp; omega
              have hd2 : decide (uz + 1 < pz) = false := by simp; omega
              clear huz hpz
              clear hgl4 hgl5 hu hp hga hgb hca hcb htb ha3 ha4 hN4 hil4 hil5
              have x1 : wr.cell? _ = _ := (congrArg (fun z : World => z.cell? ⟨ga, oa + i4 * 3, none⟩) (unhide HWX).symm).trans hc0
              have x2 : wr.cell? _ = _ := (congrArg (fun z : World => z.cell? ⟨ga, oa + i4 * 3 + 1, none⟩) (unhide HWX).symm).trans hc1
              have x3 : wr.cell? _ = _ := (congrArg (fun z : World => z.cell? ⟨ga, oa + i4 * 3 + 2, none⟩) (unhide HWX).symm).trans hc2
              have y1 : wr.cell? _ = _ := (congrArg (fun z : World => z.cell? ⟨gb, ob5 + i4 * 3, none⟩) (unhide HWX).symm).trans hd0
              have y2 : wr.cell? _ = _ := (congrArg (fun z : World => z.cell? ⟨gb, ob5 + i4 * 3 + 1, none⟩) (unhide HWX).symm).trans hd1'
              have y3 : wr.cell? _ = _ := (congrArg (fun z : World => z.cell? ⟨gb, ob5 + i4 * 3 + 2, none⟩) (unhide HWX).symm).trans hd2'
              clear hc0 hc1 hc2 hd0 hd1' hd2'
              go_wp2
              go_quiet (fail)
              go_wp2
              go_roundg g4
              case measure => omega
              case rel => exact ⟨i4 + 1, m4 + nq, by omega, by go_num, by rw [← unhide HWX, World.drewN_drewN]⟩
        | succ g2 =>
          have hlt : (i : Int) < (n : Int) := by omega
          have hki : IntKind.i64.wrap ((i : Int) + 1) = (i : Int) + 1 := IntWalk.i64_in _ (by omega)
          have hil : i < (lines17 s.data.toList).length := by rw [unhide HN]; omega
          have hgl : (lines17 s.data.toList)[i]? = some (lines17 s.data.toList)[i] := List.getElem?_eq_getElem hil
          generalize (lines17 s.data.toList)[i] = l at hgl
          obtain ⟨lb2, hcl, hcd⟩ := unhide HC3 i l hgl
          have hd := moreK_drop a X hgl
          have hM2 := (unhide HM).trans (by rw [hd])
          have hcz : c.size ≤ 3000 := by
            have h1 := congrArg List.length (unhide HM)
            have h2 := (unhide HLAW).2.2
            rw [List.length_append, ← Lib.size_eq] at h1
            omega
          have hlz : lb2.size ≤ 1000 := by
            rw [Lib.size_eq, hcd]
            have := lines17_le (List.mem_of_getElem? hgl)
            rw [← Lib.size_eq] at this
            omega
          have HM2 := hide hM2
          have HCD := hide hcd
          have HGL := hide hgl
          clear hM2 hd HM hgl hil hcd
          by_cases hia : i = a
          · have hlab : lb2 = lab := by
              have h1 := unhide HGL
              rw [hia, unhide HGA] at h1
              have h2 : la = l := Option.some.inj h1
              exact bytes_ext (by rw [unhide HCD, unhide HLA, h2])
            subst hlab
            cases q with
            | true =>
              have hj : ((i : Int) == (a : Int)) = true := by rw [hia]; simp
              have hfin : moreK a X 0 (lines17 s.data.toList) = (c ++ lb2 ++ ⟨#[10]⟩ : ByteArray).data.toList ++ moreK a X (i + 1) ((lines17 s.data.toList).drop (i + 1)) := by
                rw [unhide HM2, append_data, append_data, unhide HCD, ← unhide HXX]
                simp
              have HF := hide hfin
              clear hfin
              go_wp2
              go_roundg g2
              case measure => omega
              case rel => exact ⟨i + 1, _, by omega, by go_num, rfl, HF, rfl⟩
            | false =>
              have hj : ((i : Int) == (a : Int)) = true := by rw [hia]; simp
              have hfin : moreK a X 0 (lines17 s.data.toList) = (c ++ lb2 ++ ⟨#[32, 35]⟩ ++ remark ++ ⟨#[10, 32, 32, 32]⟩ ++ ⟨#[10]⟩ : ByteArray).data.toList ++ moreK a X (i + 1) ((lines17 s.data.toList).drop (i + 1)) := by
                rw [unhide HM2, append_data, append_data, append_data, append_data, append_data, unhide HCD, ← unhide HXX, if_pos hia]
                simp [insX]
              have HF := hide hfin
              clear hfin
              go_wp2
              go_roundg g2
              case measure => omega
              case rel => exact ⟨i + 1, _, by omega, by go_num, rfl, HF, rfl⟩
          · have hj : ((i : Int) == (a : Int)) = false := by simp; omega
            have hfin : moreK a X 0 (lines17 s.data.toList) = (c ++ lb2 ++ ⟨#[10]⟩ : ByteArray).data.toList ++ moreK a X (i + 1) ((lines17 s.data.toList).drop (i + 1)) := by
              rw [unhide HM2, append_data, append_data, unhide HCD, if_neg hia]
              simp
            have HF := hide hfin
            clear hfin hia
            go_wp2
            go_roundg g2
            case measure => omega
            case rel => exact ⟨i + 1, _, by omega, by go_num, rfl, HF, rfl⟩
    | succ g' =>
      have hk : k < lab.size := by omega
      have hk2 : (k : Int) < (lab.size : Int) := by omega
      have hkw : IntKind.i64.wrap ((k : Int) + 1) = (k : Int) + 1 := IntWalk.i64_in _ (by omega)
      have hk3 : k < la.length := by rw [← unhide HLA, ← Lib.size_eq]; exact hk
      have hkl : la[k] = lab[k] := by
        have h1 : lab.data.toList[k]? = some lab[k] := Lib.data_getElem? lab k hk
        rw [unhide HLA, List.getElem?_eq_getElem hk3] at h1
        exact Option.some.inj h1
      have hst := any_snoc34 la k hk3
      rw [← unhide HQQ, hkl] at hst
      have HS := hide hst
      clear hst hkl HQQ
      cases q with
      | true =>
        have HS2 := hide (show true = (la.take (k + 1)).any (· == 34) by rw [unhide HS]; rfl)
        go_wp2
        go_roundg g'
        case measure => omega
        case rel => exact ⟨k + 1, true, by omega, by go_num, rfl, HS2, rfl⟩
      | false =>
        by_cases c34 : (lab[k] == 34) = true
        · have j34 : ((lab[k].toNat : Int) == 34) = true := by rw [i34]; exact c34
          have HS2 := hide (show true = (la.take (k + 1)).any (· == 34) by rw [unhide HS, c34]; rfl)
          clear c34
          go_wp2
          go_roundg g'
          case measure => omega
          case rel => exact ⟨k + 1, true, by omega, by go_num, rfl, HS2, rfl⟩
        · have c34' : (lab[k] == 34) = false := by simpa using c34
          have j34 : ((lab[k].toNat : Int) == 34) = false := by rw [i34]; exact c34'
          have HS2 := hide (show false = (la.take (k + 1)).any (· == 34) by rw [unhide HS, c34']; rfl)
          clear c34 c34'
          go_wp2
          go_roundg g'
          case measure => omega
          case rel => exact ⟨k + 1, false, by omega, by go_num, rfl, HS2, rfl⟩
theorem LineRemarks_any (s remark : ByteArray) (a : Int) (w : World) (hs : s.size ≤ 4000000) :
    Calls Tryd.prog 5 #[.string s, .string remark, .int .i64 a] w fun e w' => e = .returned (.bool true) ∧ Below w.heap.size w w' := by
  by_cases h : s.size ≤ 1000 ∧ remark.size ≤ 100 ∧ 0 ≤ a ∧ a < (lines17 s.data.toList).length
  · obtain ⟨h1, h2, h3, h4⟩ := h
    obtain ⟨k, rfl⟩ := Int.eq_ofNat_of_zero_le h3
    exact LineRemarks_in s remark k w h1 h2 (by omega)
  · exact LineRemarks_out s remark a w hs h
end Go.Proofs.YtbnheebblicgkaaDoor
