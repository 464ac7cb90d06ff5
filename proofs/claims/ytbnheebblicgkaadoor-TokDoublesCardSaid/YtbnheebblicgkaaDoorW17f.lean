/- walks of layer 17: line.check. -/
import Derived.Test.YtbnheebblicgkaaDoorW17c
import Derived.Test.YtbnheebblicgkaaDoorW17d
import Derived.Test.YtbnheebblicgkaaDoorW17e
namespace Go.Proofs.YtbnheebblicgkaaDoor
set_option linter.unusedVariables false
set_option linter.unusedSimpArgs false
open Go.RowKit Go.Shelf
attribute [local go_sem] Oper.semAt_some
/-- where an odd byte stands first, by lines -/
def oddLine (s : List UInt8) : Option Nat := (lines17 s).findIdx? (·.any oddB)
/-- what is wrong with a text: 2: ErrLong, 9: ErrUtf, 3: ErrForm; and in which line -/
def check17 (s : List UInt8) : Int × Int :=
  if 1048576 < s.length then (2, 0)
  else if 0 ≤ P03.first s then (9, (Lib.countByte (s.take (P03.first s).toNat) 10 : Int) + 1)
  else match oddLine s with
    | some i => (3, (i : Int) + 1)
    | none => (0, 0)
def faultV (f : Int × Int) : Value := .agg #[.int .i64 f.1, .int .i64 f.2]
theorem firstBad_bd : ∀ (f p : Nat) (l : List UInt8), P03.firstBad f p l ≤ (p : Int) + l.length
  | 0, p, l => by unfold P03.firstBad; omega
  | f + 1, p, l => by
    unfold P03.firstBad
    split
    · omega
    · split
      · omega
      · rename_i h0 h1
        have h2 := P03.one_bd l (by omega)
        have h3 := firstBad_bd f (p + (P03.one l).1.toNat) (l.drop (P03.one l).1.toNat)
        rw [List.length_drop] at h3
        omega
theorem first_bd (l : List UInt8) : P03.first l ≤ l.length := by
  have := firstBad_bd (l.length + 1) 0 l
  unfold P03.first
  omega
theorem two_set0 {W : World} {g : Nat} {t : TypeId} {a b : Value} (h : W.heap[g]? = some (.cells #[a, b] t)) (v : Value) : (W.setCell ⟨g, 0, none⟩ v).heap[g]? = some (.cells #[v, b] t) := by
  obtain ⟨hlt, hk⟩ := Array.getElem?_eq_some_iff.1 h
  show (W.heap.modify g _)[g]? = _
  rw [Array.getElem?_eq_getElem (by rw [Array.size_modify]; exact hlt), Array.getElem_modify_self, hk]
  rfl
theorem two_set1 {W : World} {g : Nat} {t : TypeId} {a b : Value} (h : W.heap[g]? = some (.cells #[a, b] t)) (v : Value) : (W.setCell ⟨g, 1, none⟩ v).heap[g]? = some (.cells #[a, v] t) := by
  obtain ⟨hlt, hk⟩ := Array.getElem?_eq_some_iff.1 h
  show (W.heap.modify g _)[g]? = _
  rw [Array.getElem?_eq_getElem (by rw [Array.size_modify]; exact hlt), Array.getElem_modify_self, hk]
  rfl
theorem two_cell0 {W : World} {g : Nat} {t : TypeId} {a b : Value} (h : W.heap[g]? = some (.cells #[a, b] t)) : W.cell? ⟨g, 0, none⟩ = some a ∧ W.frozen? ⟨g, 0, none⟩ = false := by simp [World.cell?, World.frozen?, h]
theorem two_cell1 {W : World} {g : Nat} {t : TypeId} {a b : Value} (h : W.heap[g]? = some (.cells #[a, b] t)) : W.cell? ⟨g, 1, none⟩ = some b ∧ W.frozen? ⟨g, 1, none⟩ = false := by simp [World.cell?, World.frozen?, h]
theorem setCell_grown (W : World) (g i : Nat) (v : Value) : W.grownBy (W.setCell ⟨g, i, none⟩ v) (some g) :=
  ⟨rfl, rfl, rfl, (KeepsWalks.setCell W _ v).size, fun k _ hk => Below.heap_setCell _ _ _ k (fun e => hk (by rw [e]))⟩
set_option maxRecDepth 100000 in
set_option maxHeartbeats 2000000 in
theorem check_bad (s : ByteArray) (w : World) (hs : s.size ≤ 1000000) (hf : 0 ≤ P03.first s.data.toList) :
    Calls Tryd.prog 28 #[.string s] w fun e w' => e = .returned (faultV (check17 s.data.toList)) ∧ Below w.heap.size w w' := by
  have hlen : s.data.toList.length = s.size := (Lib.size_eq s).symm
  obtain ⟨k, hk⟩ := Int.eq_ofNat_of_zero_le hf
  have hks : k ≤ s.size := by have := first_bd s.data.toList; omega
  have hks' : (k : Int) ≤ (s.size : Int) := by omega
  obtain ⟨c, hc⟩ : ∃ c : Nat, Lib.countByte (s.extract 0 k).data.toList 10 = c := ⟨_, rfl⟩
  have hcl : c ≤ 1000000 := by
    rw [← hc, Lib.countByte]
    refine Nat.le_trans (List.count_le_length) ?_
    rw [← Lib.size_eq, ByteArray.size_extract]
    omega
  have hch : check17 s.data.toList = (9, (c : Int) + 1) := by
    rw [check17, if_neg (by omega), if_pos hf, hk, Int.toNat_natCast, ← hc, Lib.extract_data, List.drop_zero, Nat.sub_zero]
  have hw1 : IntKind.i64.wrap ((c : Int) + 1) = (c : Int) + 1 := IntWalk.i64_in _ (by omega)
  rw [hch]
  have HC := hide hc
  have HK := hide hk
  clear hc hch hf hk
  refine (callsIn_wide (n := 40)).1 ?_
  refine callsIn_of_wp_marks Tryd.func28 rfl trivial ?_ rfl
  simp only [Tryd.ntmps28, List.size_toArray, List.length_cons, List.length_nil, Nat.reduceAdd, Nat.reduceSub, Array.replicate_succ, Array.replicate_zero, List.push_toArray, List.append_toArray, List.nil_append, List.cons_append]
  gi_wp2_with (first
    | (refine ⟨trivial, ?_⟩; gi_at_call 45; refine (callsIn_wide.2 (First_any s _ hs)).mono ?_; rintro e w' ⟨rfl, hb⟩; rw [unhide HK]; have hR : w'.heap[w.heap.size]? = some (.cells #[.int .i64 0, .int .i64 0] 26) := (hb.block _ (by simp)).trans (World.alloc_heap_new w _); have hc0 := (two_cell0 hR).1; have hf0 := (two_cell0 hR).2; have hc1 := (two_cell1 hR).1; have hf1 := (two_cell1 hR).2)
    | (refine ⟨trivial, ?_⟩; gi_at_call 46; refine (callsIn_wide.2 (Tryd.strings_Count_one (s.extract 0 k) 10 _)).mono ?_; rintro e w'' ⟨rfl, rfl⟩; rw [unhide HC]))
  refine ⟨_, results_cell_row rfl _ _ _ _ _ _ _ rfl (two_set1 (two_set0 hR _) _) Tryd.underlying26 rfl (by kernel_rfl), rfl, ?_⟩
  have hbw : Below w.heap.size w w'' := ((Below.refl _ w).alloc (Nat.le_refl _) _).trans (hb.mono (by simp))
  exact (hbw.grown (setCell_grown w'' w.heap.size 0 _) hbw.size (fun k e => by cases e; exact Nat.le_refl _)).grown (setCell_grown _ w.heap.size 1 _) (Nat.le_trans hbw.size (setCell_grown w'' w.heap.size 0 _).size) (fun k e => by cases e; exact Nat.le_refl _)
theorem KeepsT.of_below {T : Nat → Prop} {V V' : World} (h : Below V.heap.size V V') : KeepsT T V V' := ⟨h.size, fun r _ hl => h.block r hl⟩
theorem below_set {w V : World} (h : Below w.heap.size w V) (i : Nat) (v : Value) {D : Nat} (hD : w.heap.size ≤ D) : Below w.heap.size w (V.setCell ⟨D, i, none⟩ v) :=
  h.grown (setCell_grown V D i v) h.size (fun k e => by cases e; exact hD)
theorem numbered_inv {s : List UInt8} {i : Nat} {x : Nat × List UInt8} (h : (numbered s)[i]? = some x) : x.1 = i + 1 ∧ (lines17 s)[i]? = some x.2 := by
  unfold numbered at h
  rw [List.getElem?_map, List.getElem?_zipIdx] at h
  unfold lines17
  rw [List.getElem?_map]
  cases hr : (rawL s)[i]? with
  | none => rw [hr] at h; simp at h
  | some l => rw [hr] at h; simp at h; subst h; exact ⟨rfl, rfl⟩
theorem oddLine_some {s : List UInt8} {i : Nat} {l : List UInt8} (h0 : ∀ j l, j < i → (lines17 s)[j]? = some l → l.any oddB = false) (h : (lines17 s)[i]? = some l) (ho : l.any oddB = true) : oddLine s = some i := by
  unfold oddLine
  obtain ⟨hi, hl⟩ := List.getElem?_eq_some_iff.1 h
  rw [List.findIdx?_eq_some_iff_getElem]
  refine ⟨hi, by rw [hl]; exact ho, fun j hj => ?_⟩
  rw [h0 j _ hj (List.getElem?_eq_getElem (Nat.lt_trans hj hi))]
  simp
theorem oddLine_none {s : List UInt8} (h0 : ∀ j l, j < (lines17 s).length → (lines17 s)[j]? = some l → l.any oddB = false) : oddLine s = none := by
  unfold oddLine
  rw [List.findIdx?_eq_none_iff]
  intro l hl
  obtain ⟨j, hj, rfl⟩ := List.mem_iff_getElem.1 hl
  exact h0 j _ hj (List.getElem?_eq_getElem hj)
theorem numbered_lines (s : List UInt8) : (numbered s).length = (lines17 s).length := by rw [numbered_len]; simp [lines17]
theorem lines17_le {s l : List UInt8} (h : l ∈ lines17 s) : l.length ≤ s.length := by
  unfold lines17 at h
  obtain ⟨r, hr, rfl⟩ := List.mem_map.1 h
  have := rawL_mem s r hr
  unfold chop
  split
  · simp; omega
  · exact this
set_option maxRecDepth 100000 in
set_option maxHeartbeats 2000000 in
theorem check_good (s : ByteArray) (w : World) (hs : s.size ≤ 1000000) (hf : P03.first s.data.toList < 0) :
    Calls Tryd.prog 28 #[.string s] w fun e w' => e = .returned (faultV (check17 s.data.toList)) ∧ Below w.heap.size w w' := by
  have hlen : s.data.toList.length = s.size := (Lib.size_eq s).symm
  obtain ⟨R, hRR⟩ : ∃ R, check17 s.data.toList = R := ⟨_, rfl⟩
  have hch1 : ∀ j, oddLine s.data.toList = some j → R = (3, (j : Int) + 1) := fun j hj => by
    rw [← hRR, check17, if_neg (by omega), if_neg (by omega), hj]
  have hch0 : oddLine s.data.toList = none → R = (0, 0) := fun hj => by
    rw [← hRR, check17, if_neg (by omega), if_neg (by omega), hj]
  rw [hRR]
  have HR1 := hide hch1
  have HR0 := hide hch0
  clear hch1 hch0 hRR
  have HK := hide hf
  refine (callsIn_wide (n := 40)).1 ?_
  refine callsIn_of_wp_marks Tryd.func28 rfl trivial ?_ rfl
  simp only [Tryd.ntmps28, List.size_toArray, List.length_cons, List.length_nil, Nat.reduceAdd, Nat.reduceSub, Array.replicate_succ, Array.replicate_zero, List.push_toArray, List.append_toArray, List.nil_append, List.cons_append]
  generalize hp : P03.first s.data.toList = p at hf
  gi_wp2_with (first
    | (refine ⟨trivial, ?_⟩; gi_at_call 45; refine (callsIn_wide.2 (First_any s _ hs)).mono ?_; rintro e w' ⟨rfl, hb⟩; rw [hp]; have hR : w'.heap[w.heap.size]? = some (.cells #[.int .i64 0, .int .i64 0] 26) := (hb.block _ (by simp)).trans (World.alloc_heap_new w _); have hbw : Below w.heap.size w w' := ((Below.refl _ w).alloc (Nat.le_refl _) _).trans (hb.mono (by simp)); clear hb)
    | (refine ⟨trivial, ?_⟩; gi_at_call 29; refine (callsIn_wide.2 (lines_any s _)).mono ?_; rintro e w' ⟨rfl, rfl⟩))
  have hlt : w.heap.size < w'.heap.size := (Array.getElem?_eq_some_iff.1 hR).1
  obtain ⟨b, hb⟩ : ∃ b, w'.heap.size = b := ⟨_, rfl⟩
  have hb1 : Boxed (w'.alloc (.cells #[.string s] 9)) b 9 (.string s) := by rw [← hb]; exact Boxed.new _ _ _
  have hR2 : (w'.alloc (.cells #[.string s] 9)).heap[w.heap.size]? = some (.cells #[.int .i64 0, .int .i64 0] 26) := (Below.heap_alloc _ _ _ hlt).trans hR
  have hbw2 : Below w.heap.size w (w'.alloc (.cells #[.string s] 9)) := hbw.alloc hbw.size _
  obtain ⟨W2, hW2⟩ : ∃ W2, w'.alloc (.cells #[.string s] 9) = W2 := ⟨_, rfl⟩
  have hsz : W2.heap.size = b + 1 := by rw [← hW2, ← hb]; simp
  rw [hW2] at hb1 hR2 hbw2 ⊢
  rw [hb] at hlt ⊢
  clear hW2 hR hbw hb
  refine wpIn_rangeFunc_T rfl (by omega) (gf := 48) (lb := #[.pointer (some ⟨b, 0, none⟩)]) rfl trivial (enters_of Tryd.func48 (by kernel_rfl) rfl)
    (encs := encL) (numbered s.data.toList) (fun _ => False) 5 (fun r hr => hr.elim)
    (fun V hg hV => linesIter_seq (40 - 1) s _ _ V (hb1.kept hg (by simp)).cell (fun r h1 h2 => .inr ⟨by omega, by omega⟩) (by omega) (by omega)) (fun _ => rfl)
    (fun i V => V.heap[w.heap.size]? = some (.cells #[.int .i64 0, .int .i64 0] 26) ∧ Below w.heap.size w V ∧ Hid (∀ j l, j < i → (lines17 s.data.toList)[j]? = some l → l.any oddB = false))
    (fun c i V => c = .ret ∧ ∃ j : Nat, V.heap[w.heap.size]? = some (.cells #[.int .i64 3, .int .i64 ((j : Int) + 1)] 26) ∧ Below w.heap.size w V ∧ Hid (oddLine s.data.toList = some j))
    (fun i V V' row h hg hr => ⟨(hg.block _ (Array.getElem?_eq_some_iff.1 h.1).1 (fun e => by rcases hr _ e.symm with h3 | h3; exact h3.elim; omega)).trans h.1, h.2.1.grown hg h.2.1.size (fun k e => by rcases hr k e with h3 | h3; exact h3.elim; omega), h.2.2⟩)
    (fun c i V V' row h hg hr => by
      obtain ⟨hc, j, h1, h2, h3⟩ := h
      exact ⟨hc, j, (hg.block _ (Array.getElem?_eq_some_iff.1 h1).1 (fun e => by rcases hr _ e.symm with h3 | h3; exact h3.elim; omega)).trans h1, h2.grown hg h2.size (fun k e => by rcases hr k e with h3 | h3; exact h3.elim; omega), h3⟩)
    ⟨hR2, hbw2, hide (fun j l hj => absurd hj (Nat.not_lt_zero _))⟩
    (fun x => { tmps := #[.string s, undef, .pointer (some ⟨w.heap.size, 0, none⟩), .int .i64 p, .int .i64 x.1, bsOf x.2, .string s, .int .i64 s.size, .bool (decide ((1048576 : Int) < (s.size : Int))), undef, .string s, .int .i64 p, .int .i64 p, .bool (decide ((0 : Int) ≤ p)), undef, undef, undef, undef, undef, undef, .string s,
      .func (.func 48) #[] #[.pointer (some ⟨b, 0, none⟩)], .int .i64 x.1, bsOf x.2, undef, undef, undef, undef, undef], defers := [] }) ?assign ?body ?done ?stop
  case assign =>
    intro l2 x V K hK
    unfold encL
    gi_wp2
    exact hK
  case body =>
    rintro l2 i x V hx ⟨hc1, hc2, HO⟩ hV
    obtain ⟨hx1, hx2⟩ := numbered_inv hx
    have hxl : x.2.length ≤ 1099511627776 := Nat.le_trans (lines17_le (List.mem_of_getElem? hx2)) (by omega)
    obtain ⟨n1, l⟩ := x
    simp only at hx1 hx2 hxl
    subst hx1
    have HX := hide hx2
    clear hx hx2
    unfold bsOf
    have hn2 : 1 ≤ 40 - 1 - 1 := by omega
    cases ho : l.any oddB with
    | true =>
      have HB := hide ho
      clear ho
      gi_wp2_with (refine ⟨trivial, ?_⟩; gi_at_call 47; refine (CallsIn.inRound l2 (callsIn_wide.2 (odd_any ⟨l.toArray⟩ _ hxl))).mono ?_; rintro e w3 ⟨rfl, hb3⟩; rw [show (⟨l.toArray⟩ : ByteArray).data.toList.any oddB = true from unhide HB]; have hr3 : w3.heap[w.heap.size]? = some (.cells #[.int .i64 0, .int .i64 0] 26) := (hb3.block _ (Array.getElem?_eq_some_iff.1 hc1).1).trans hc1; have hd0 := (two_cell0 hr3).1; have hg0 := (two_cell0 hr3).2; have hd1 := (two_cell1 hr3).1; have hg1 := (two_cell1 hr3).2)
      refine ⟨((KeepsT.of_below hb3).trans (.of_grownBy (setCell_grown w3 _ 0 _) (fun r e hr => by cases e; rcases hr with hr | hr; exact hr; omega))).trans (.of_grownBy (setCell_grown _ _ 1 _) (fun r e hr => by cases e; rcases hr with hr | hr; exact hr; omega)),
        rfl, i, two_set1 (two_set0 hr3 _) _, below_set (below_set (hc2.trans (hb3.mono hc2.size)) 0 _ (Nat.le_refl _)) 1 _ (Nat.le_refl _), hide (oddLine_some (unhide HO) (unhide HX) (unhide HB))⟩
    | false =>
      have HB := hide ho
      clear ho
      gi_wp2_with (refine ⟨trivial, ?_⟩; gi_at_call 47; refine (CallsIn.inRound l2 (callsIn_wide.2 (odd_any ⟨l.toArray⟩ _ hxl))).mono ?_; rintro e w3 ⟨rfl, hb3⟩; rw [show (⟨l.toArray⟩ : ByteArray).data.toList.any oddB = false from unhide HB]; have hr3 : w3.heap[w.heap.size]? = some (.cells #[.int .i64 0, .int .i64 0] 26) := (hb3.block _ (Array.getElem?_eq_some_iff.1 hc1).1).trans hc1; have hd0 := (two_cell0 hr3).1; have hg0 := (two_cell0 hr3).2; have hd1 := (two_cell1 hr3).1; have hg1 := (two_cell1 hr3).2)
      refine ⟨KeepsT.of_below hb3, hr3, hc2.trans (hb3.mono hc2.size), hide (fun j l' hj hl' => ?_)⟩
      rcases Nat.lt_or_ge j i with h4 | h4
      · exact unhide HO j l' h4 hl'
      · obtain rfl : j = i := by omega
        rw [unhide HX] at hl'
        cases hl'
        exact unhide HB
  case done =>
    rintro D V rfl ⟨hc1, hc2, HO⟩ hK
    have hd0 := (two_cell0 hc1).1
    have hg0 := (two_cell0 hc1).2
    have hd1 := (two_cell1 hc1).1
    have hg1 := (two_cell1 hc1).2
    have HN := hide (oddLine_none (fun j l hj hl => unhide HO j l (by rw [numbered_lines]; exact hj) hl))
    gi_wp2
    have hK2 : ((V.setCell ⟨w.heap.size, 0, none⟩ (.int .i64 0)).setCell ⟨w.heap.size, 1, none⟩ (.int .i64 0)).heap[W2.heap.size]? = some (.deferred (some [])) :=
      (Below.heap_setCell _ _ _ _ (by show W2.heap.size ≠ w.heap.size; omega)).trans ((Below.heap_setCell _ _ _ _ (by show W2.heap.size ≠ w.heap.size; omega)).trans hK)
    refine ⟨by simp, .inl ⟨_, _, rfl, run_takeDeferred hK2, ?_⟩⟩
    refine ⟨_, results_cell_row rfl _ _ _ _ _ _ _ rfl ((World.putObj_heap_other (by omega)).trans (two_set1 (two_set0 hc1 _) _)) Tryd.underlying26 rfl (by kernel_rfl), ?_, below_putObj (below_set (below_set hc2 0 _ (Nat.le_refl _)) 1 _ (Nat.le_refl _)) _ (by omega)⟩
    rw [unhide HR0 (unhide HN)]
    rfl
  case stop =>
    rintro D c i V rfl hi ⟨rfl, j, hc1, hc2, HO⟩ hK
    gi_wp2
    refine ⟨by simp, .inl ⟨_, _, rfl, run_takeDeferred hK, ?_⟩⟩
    refine ⟨_, results_cell_row rfl _ _ _ _ _ _ _ rfl ((World.putObj_heap_other (by omega)).trans hc1) Tryd.underlying26 rfl (by kernel_rfl), ?_, below_putObj hc2 _ (by omega)⟩
    rw [unhide HR1 j (unhide HO)]
    rfl
theorem check_any (s : ByteArray) (w : World) (hs : s.size ≤ 1000000) :
    Calls Tryd.prog 28 #[.string s] w fun e w' => e = .returned (faultV (check17 s.data.toList)) ∧ Below w.heap.size w w' := by
  by_cases hf : 0 ≤ P03.first s.data.toList
  · exact check_bad s w hs hf
  · exact check_good s w hs (by omega)
end Go.Proofs.YtbnheebblicgkaaDoor
