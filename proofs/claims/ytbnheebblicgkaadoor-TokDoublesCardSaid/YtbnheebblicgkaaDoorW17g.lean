/- walks of layer 17: line.All. -/
import Derived.Test.YtbnheebblicgkaaDoorW17f
namespace Go.Proofs.YtbnheebblicgkaaDoor
set_option linter.unusedVariables false
set_option linter.unusedSimpArgs false
open Go.RowKit Go.Shelf
attribute [local go_sem] Oper.semAt_some
/-- what a line has: its number, how far it is moved in, its text -/
def rowOf (k : Nat) (l : List UInt8) : Option (Nat × Nat × List UInt8) :=
  if trimL (strip17 l) = [] then none else some (k + 1, (strip17 l).length - (trimL (strip17 l)).length, trimL (strip17 l))
def rowsFrom : Nat → List (List UInt8) → List (Nat × Nat × List UInt8)
  | _, [] => []
  | k, l :: r => match rowOf k l with
    | none => rowsFrom (k + 1) r
    | some x => x :: rowsFrom (k + 1) r
/-- a text's lines that have something -/
def rows17 (s : List UInt8) : List (Nat × Nat × List UInt8) := rowsFrom 0 (lines17 s)
theorem rowsFrom_snoc : ∀ (k : Nat) (ls : List (List UInt8)) (l : List UInt8), rowsFrom k (ls ++ [l]) = rowsFrom k ls ++ (rowOf (k + ls.length) l).toList
  | k, [], l => by
    show (match rowOf k l with | none => [] | some x => [x]) = (rowOf k l).toList
    cases rowOf k l <;> rfl
  | k, a :: r, l => by
    have ih := rowsFrom_snoc (k + 1) r l
    have e : k + 1 + r.length = k + (a :: r).length := by simp; omega
    rw [e] at ih
    show (match rowOf k a with | none => rowsFrom (k + 1) (r ++ [l]) | some x => x :: rowsFrom (k + 1) (r ++ [l])) = (match rowOf k a with | none => rowsFrom (k + 1) r | some x => x :: rowsFrom (k + 1) r) ++ _
    cases rowOf k a
    · exact ih
    · simp only; rw [ih]; rfl
theorem rowsFrom_len : ∀ (k : Nat) (ls : List (List UInt8)), (rowsFrom k ls).length ≤ ls.length
  | k, [] => Nat.le_refl _
  | k, a :: r => by
    have ih := rowsFrom_len (k + 1) r
    unfold rowsFrom
    split <;> simp <;> omega
def rowCells (r : Nat × Nat × List UInt8) : List Value := [.int .i64 r.1, .int .i64 r.2.1, bsOf r.2.2]
def rowsCells (rs : List (Nat × Nat × List UInt8)) : List Value := rs.flatMap rowCells
theorem rowsCells_snoc (rs : List (Nat × Nat × List UInt8)) (r : Nat × Nat × List UInt8) : rowsCells (rs ++ [r]) = rowsCells rs ++ rowCells r := by simp [rowsCells]
/-- the slice v of line.Line owns the rows rs, in blocks from base on -/
def OwnL (W : World) (base : Nat) (e : TypeId) (v : Value) (rs : List (Nat × Nat × List UInt8)) : Prop := W.ownsRow base e 3 v rs.length (rowsCells rs)
theorem ownsRow_base {W : World} {b b' : Nat} {e : TypeId} {size n : Nat} {v : Value} {xs : List Value} (h : W.ownsRow b e size v n xs) (hb : b' ≤ b) : W.ownsRow b' e size v n xs := by
  refine ⟨h.1, ?_⟩
  rcases h.2 with h1 | ⟨g, cap, cur, h1, h2, h3⟩
  · exact .inl h1
  · exact .inr ⟨g, cap, cur, h1, Nat.le_trans hb h2, h3⟩
theorem results_tmp_cell {fn : Func} {p u : Tmp} {ty : TypeId} (h : fn.results = #[.tmp u, .cell p ty]) (tmps : Array Value) (P : Program) (w : World) (g : Nat) (v : Value)
    (hp : tmps.getD p undef = .pointer (some ⟨g, 0, none⟩)) (hl : (loadVar ty ⟨g, 0, none⟩).run P w = .ok v w) :
    (results fn tmps).run P w = .ok (.tuple #[tmps.getD u undef, v]) w := by
  have hp' : tmps[p]?.getD undef = .pointer (some ⟨g, 0, none⟩) := by simpa using hp
  simp [results, h, hp', asAddr, Sem.run_bind, Result.andThen, hl]
theorem below_drew {a : World} {B : Nat} {w : World} (h : Below B a w) : Below B a w.drew := ⟨h.os, h.tape, h.output, h.size, h.block⟩
theorem below_drewN' {a : World} {B n : Nat} {w : World} (h : Below B a w) : Below B a (w.drewN n) := ⟨h.os, h.tape, h.output, h.size, h.block⟩
theorem check_zero {s : List UInt8} (h : (check17 s).1 = 0) : check17 s = (0, 0) := by
  unfold check17 at h ⊢
  split at h
  · simp at h
  · rename_i h1
    rw [if_neg h1]
    split at h
    · simp at h
    · rename_i h2
      rw [if_neg h2]
      split at h
      · simp at h
      · rfl
set_option maxRecDepth 100000 in
set_option maxHeartbeats 2000000 in
theorem All_bad (s : ByteArray) (w : World) (hs : s.size ≤ 1000000) (hf : (check17 s.data.toList).1 ≠ 0) :
    Calls Tryd.prog 11 #[.string s] w fun e w' => e = .returned (.tuple #[.slice none 0 0, faultV (check17 s.data.toList)]) ∧ Below w.heap.size w w' := by
  obtain ⟨R, hRR⟩ : ∃ R, check17 s.data.toList = R := ⟨_, rfl⟩
  rw [hRR] at hf ⊢
  obtain ⟨r1, r2⟩ := R
  have hne : (r1 != 0) = true := by simpa using hf
  have HR := hide hRR
  clear hRR hf
  refine (callsIn_wide (n := 40)).1 ?_
  refine callsIn_of_wp_marks Tryd.func11 rfl trivial ?_ rfl
  simp only [Tryd.ntmps11, List.size_toArray, List.length_cons, List.length_nil, Nat.reduceAdd, Nat.reduceSub, Array.replicate_succ, Array.replicate_zero, List.push_toArray, List.append_toArray, List.nil_append, List.cons_append]
  gi_wp2_with (refine ⟨trivial, ?_⟩; gi_at_call 28; refine (callsIn_wide.2 (check_any s _ hs)).mono ?_; rintro e w' ⟨rfl, hb⟩; rw [unhide HR]; have hR : w'.heap[w.heap.size]? = some (.cells #[.int .i64 0, .int .i64 0] 26) := (hb.block _ (by simp)).trans (World.alloc_heap_new w _); have hbw : Below w.heap.size w w' := ((Below.refl _ w).alloc (Nat.le_refl _) _).trans (hb.mono (by simp)); clear hb; unfold faultV)
  obtain ⟨W2, hW2⟩ : ∃ W2, w'.alloc (.cells #[.int .i64 r1, .int .i64 r2] 26) = W2 := ⟨_, rfl⟩
  have hR2 : W2.heap[w.heap.size]? = some (.cells #[.int .i64 0, .int .i64 0] 26) := by rw [← hW2]; exact (Below.heap_alloc _ _ _ (Array.getElem?_eq_some_iff.1 hR).1).trans hR
  have hF2 : W2.heap[w'.heap.size]? = some (.cells #[.int .i64 r1, .int .i64 r2] 26) := by rw [← hW2]; exact World.alloc_heap_new w' _
  have hb2 : Below w.heap.size w W2 := by rw [← hW2]; exact hbw.alloc hbw.size _
  rw [hW2]
  have x0 := (two_cell0 hR2).1
  have x1 := (two_cell0 hR2).2
  have x2 := (two_cell1 hR2).1
  have x3 := (two_cell1 hR2).2
  have y0 := (two_cell0 hF2).1
  have y2 := (two_cell1 hF2).1
  clear hW2 hR
  gi_region
  gi_wp2
  refine ⟨_, results_tmp_cell rfl _ _ _ _ _ rfl (run_loadVar_row _ _ _ _ _ _ _ (two_set1 (two_set0 hR2 _) _) Tryd.underlying26 rfl (by kernel_rfl)), rfl, ?_⟩
  exact below_drew (below_set (below_set hb2 0 _ (Nat.le_refl _)) 1 _ (Nat.le_refl _))
theorem StripL_any (l : List UInt8) (w : World) (h : l.length ≤ 1099511627776) :
    Calls Tryd.prog 16 #[.string ⟨l.toArray⟩] w fun e w' => ∃ b : ByteArray, e = .returned (.string b) ∧ Hid (b.data.toList = strip17 l) ∧ ∃ n, w' = w.drewN n :=
  (Strip_any ⟨l.toArray⟩ w h).mono fun e w' ⟨h1, h2⟩ => ⟨_, h1, rfl, h2⟩
theorem TrimLB_any (b : ByteArray) (w : World) :
    Calls Tryd.prog 30 #[.string b, .string ⟨#[32]⟩] w fun e w' => ∃ o : ByteArray, e = .returned (.string o) ∧ Hid (o.data.toList = trimL b.data.toList) ∧ w' = w :=
  (TrimL_any b w).mono fun e w' ⟨h1, h2⟩ => ⟨_, h1, rfl, h2⟩
theorem ownsRow_span {W V : World} {row : Option Nat} {base : Nat} {e : TypeId} {size n : Nat} {v : Value} {xs : List Value} (h : W.ownsRow base e size v n xs) (hg : W.grownBy V row) (hr : ∀ r, row = some r → r < base) : V.ownsRow base e size v n xs := by
  refine h.kept hg ?_
  cases hv : v.ownBlock with
  | none => exact .inl rfl
  | some k =>
    refine .inr fun e => ?_
    have := (h.lt k hv).1
    have := hr k e.symm
    omega
theorem lineInfo : (Tryd.prog.info? 39).map (fun i => (i.zero, i.size, i.bytes)) = some (some (.agg #[.int .i64 0, .int .i64 0, .string ⟨#[]⟩]), 3, 32) := by kernel_rfl
theorem cells3_new (W : World) (a b c : Value) (t : TypeId) : ∀ j u, [a, b, c][j]? = some u → (W.alloc (.cells #[a, b, c] t)).cell? ((⟨W.heap.size, 0, none⟩ : Addr).add j) = some u := by
  have key : ∀ (X : World) (g : Nat), X.heap[g]? = some (.cells #[a, b, c] t) → X.cell? ⟨g, 0, none⟩ = some a ∧ X.cell? ⟨g, 1, none⟩ = some b ∧ X.cell? ⟨g, 2, none⟩ = some c := by
    intro X g h
    simp [World.cell?, h]
  obtain ⟨k0, k1, k2⟩ := key _ _ (World.alloc_heap_new W (.cells #[a, b, c] t))
  intro j u h
  match j, h with
  | 0, h => simp at h; subst h; exact k0
  | 1, h => simp at h; subst h; exact k1
  | 2, h => simp at h; subst h; exact k2
theorem trimL_len (l : List UInt8) : (trimL l).length ≤ l.length := (List.dropWhile_suffix _).length_le
theorem strip_len (l : List UInt8) : (strip17 l).length ≤ l.length := by
  unfold strip17 trimR
  rw [List.length_reverse]
  refine Nat.le_trans ((List.dropWhile_suffix _).length_le) ?_
  rw [List.length_reverse, List.length_take]
  omega
theorem rows_step {s : List UInt8} {i : Nat} {l : List UInt8} (h : (lines17 s)[i]? = some l) : rowsFrom 0 ((lines17 s).take (i + 1)) = rowsFrom 0 ((lines17 s).take i) ++ (rowOf i l).toList := by
  have hi : i < (lines17 s).length := (List.getElem?_eq_some_iff.1 h).1
  rw [List.take_add_one, h, show (some l).toList = [l] from rfl, rowsFrom_snoc, List.length_take, Nat.zero_add, Nat.min_eq_left (Nat.le_of_lt hi)]
theorem row_cells {i : Nat} {l : List UInt8} {tb ob : ByteArray} (HT : tb.data.toList = strip17 l) (HO : ob.data.toList = trimL tb.data.toList) (hne : ob.data.toList ≠ []) (hl : l.length ≤ 1000000) :
    ∃ r, rowOf i l = some r ∧ rowCells r = [.int .i64 ((i : Int) + 1), .int .i64 (wrap64 ((tb.size : Int) - (ob.size : Int))), .string ob] := by
  have h1 : ob.size ≤ tb.size := by rw [Lib.size_eq, Lib.size_eq, HO]; exact trimL_len _
  have h2 : tb.size ≤ 1000000 := by rw [Lib.size_eq, HT]; exact Nat.le_trans (strip_len l) hl
  rw [HT] at HO
  refine ⟨(i + 1, tb.size - ob.size, ob.data.toList), ?_, ?_⟩
  · rw [rowOf, if_neg (by rw [← HO]; exact hne), Lib.size_eq tb, Lib.size_eq ob, HT, HO]
  · have h3 : wrap64 ((tb.size : Int) - (ob.size : Int)) = ((tb.size - ob.size : Nat) : Int) := by unfold wrap64; omega
    rw [h3]
    rfl
theorem row_none {i : Nat} {l : List UInt8} {tb ob : ByteArray} (HT : tb.data.toList = strip17 l) (HO : ob.data.toList = trimL tb.data.toList) (hne : ob.data.toList = []) : rowOf i l = none := by
  rw [HT] at HO
  rw [rowOf, if_pos (by rw [← HO]; exact hne)]
theorem box_ne {W : World} {B base : Nat} {e : TypeId} {size n : Nat} {v : Value} {xs : List Value} (h : W.ownsRow base e size v n xs) (hB : B < base) : some B ≠ v.ownBlock := fun e => by have := (h.lt B e.symm).1; omega
set_option maxRecDepth 100000 in
set_option maxHeartbeats 2000000 in
theorem All_good (s : ByteArray) (w : World) (hs : s.size ≤ 1000000) (hf : (check17 s.data.toList).1 = 0) :
    Calls Tryd.prog 11 #[.string s] w fun e w' => ∃ v, e = .returned (.tuple #[v, faultV (0, 0)]) ∧ OwnL w' w.heap.size 39 v (rows17 s.data.toList) ∧ Below w.heap.size w w' := by
  have HR := hide (check_zero hf)
  clear hf
  refine (callsIn_wide (n := 60)).1 ?_
  refine callsIn_of_wp_marks Tryd.func11 rfl trivial ?_ rfl
  simp only [Tryd.ntmps11, List.size_toArray, List.length_cons, List.length_nil, Nat.reduceAdd, Nat.reduceSub, Array.replicate_succ, Array.replicate_zero, List.push_toArray, List.append_toArray, List.nil_append, List.cons_append]
  gi_wp2_with (first
    | (refine ⟨trivial, ?_⟩; gi_at_call 28; refine (callsIn_wide.2 (check_any s _ hs)).mono ?_; rintro e w' ⟨rfl, hb⟩; rw [unhide HR]; have hR : w'.heap[w.heap.size]? = some (.cells #[.int .i64 0, .int .i64 0] 26) := (hb.block _ (by simp)).trans (World.alloc_heap_new w _); have hbw : Below w.heap.size w w' := ((Below.refl _ w).alloc (Nat.le_refl _) _).trans (hb.mono (by simp)); clear hb; unfold faultV)
    | (refine ⟨trivial, ?_⟩; gi_at_call 29; refine (callsIn_wide.2 (lines_any s _)).mono ?_; rintro e w4 ⟨rfl, rfl⟩))
  have hlt : w.heap.size < w'.heap.size := (Array.getElem?_eq_some_iff.1 hR).1
  obtain ⟨b, hb⟩ : ∃ b, w'.heap.size = b := ⟨_, rfl⟩
  obtain ⟨W2, hW2⟩ : ∃ W2, ((w'.alloc (.cells #[.int .i64 0, .int .i64 0] 26)).alloc (.cells #[.slice none 0 0] 23)).alloc (.cells #[.string s] 9) = W2 := ⟨_, rfl⟩
  have hsz : W2.heap.size = b + 3 := by rw [← hW2, ← hb]; simp
  have b1 : Boxed W2 (b + 1) 23 (.slice none 0 0) := by
    rw [← hW2, ← hb]; have := Boxed.new (w'.alloc (.cells #[.int .i64 0, .int .i64 0] 26)) 23 (.slice none 0 0); rw [World.size_alloc] at this; exact this.alloc _
  have b2 : Boxed W2 (b + 1 + 1) 9 (.string s) := by
    rw [← hW2, ← hb]; have := Boxed.new ((w'.alloc (.cells #[.int .i64 0, .int .i64 0] 26)).alloc (.cells #[.slice none 0 0] 23)) 9 (.string s); rw [World.size_alloc, World.size_alloc] at this; exact this
  have hR2 : W2.heap[w.heap.size]? = some (.cells #[.int .i64 0, .int .i64 0] 26) := by
    rw [← hW2]; exact (Below.heap_alloc _ _ _ (by simp; omega)).trans ((Below.heap_alloc _ _ _ (by simp; omega)).trans ((Below.heap_alloc _ _ _ hlt).trans hR))
  have hbw2 : Below w.heap.size w W2 := by
    rw [← hW2]; exact ((hbw.alloc hbw.size _).alloc (by simp; omega) _).alloc (by simp; omega) _
  rw [hW2]
  rw [hb] at hlt ⊢
  clear hW2 hR hbw hb
  have hlen : s.data.toList.length = s.size := (Lib.size_eq s).symm
  refine wpIn_rangeFunc_T rfl (by omega) (gf := 48) (lb := #[.pointer (some ⟨b + 1 + 1, 0, none⟩)]) rfl trivial (enters_of Tryd.func48 (by kernel_rfl) rfl)
    (encs := encL) (numbered s.data.toList) (fun _ => False) 5 (fun r hr => hr.elim)
    (fun V hg hV => linesIter_seq (60 - 1) s _ _ V (b2.kept hg (by simp)).cell (fun r h1 h2 => .inr ⟨by omega, by omega⟩) (by omega) (by omega)) (fun _ => rfl)
    (fun i V => V.heap[w.heap.size]? = some (.cells #[.int .i64 0, .int .i64 0] 26) ∧ Below w.heap.size w V ∧ ∃ v, Boxed V (b + 1) 23 v ∧ OwnL V (b + 10) 39 v (rowsFrom 0 ((lines17 s.data.toList).take i)))
    (fun c i V => False)
    (fun i V V' row h hg hr => by
      obtain ⟨h1, h2, v, h3, h4⟩ := h
      exact ⟨(hg.block _ (Array.getElem?_eq_some_iff.1 h1).1 (fun e => by rcases hr _ e.symm with h3 | h3; exact h3.elim; omega)).trans h1, h2.grown hg h2.size (fun k e => by rcases hr k e with h3 | h3; exact h3.elim; omega), v,
        h3.kept hg (fun e => by rcases hr _ e.symm with h3 | h3; exact h3.elim; omega), ownsRow_span h4 hg (fun r e => by rcases hr r e with h3 | h3; exact h3.elim; omega)⟩)
    (fun c i V V' row h hg hr => h)
    ⟨hR2, hbw2, _, b1, World.ownsRow_nil _ _ _ _⟩
    (fun x => { tmps := #[.string s, undef, .slice none 0 0, .pointer (some ⟨w.heap.size, 0, none⟩), .pointer (some ⟨b, 0, none⟩), .pointer (some ⟨b + 1, 0, none⟩), .int .i64 x.1, bsOf x.2, undef, .string s, .agg #[.int .i64 0, .int .i64 0], .pointer (some ⟨b, 0, none⟩), .int .i64 0, .bool false, undef, .string s,
      .func (.func 48) #[] #[.pointer (some ⟨b + 1 + 1, 0, none⟩)], .int .i64 x.1, bsOf x.2, undef, undef, undef, undef, undef, undef, undef, undef, undef, undef, undef, undef, undef, undef, undef, undef, undef, undef, undef], defers := [] }) ?assign ?body ?done ?stop
  case assign =>
    intro l2 x V K hK
    unfold encL
    gi_wp2
    exact hK
  case body =>
    rintro l2 i x V hx ⟨hc1, hc2, v, hv1, hv2⟩ hV
    obtain ⟨hx1, hx2⟩ := numbered_inv hx
    have hxl : x.2.length ≤ 1000000 := Nat.le_trans (lines17_le (List.mem_of_getElem? hx2)) (by omega)
    obtain ⟨n1, l⟩ := x
    simp only at hx1 hx2 hxl
    subst hx1
    have HX := hide hx2
    clear hx hx2
    unfold bsOf
    have hn2 : 1 ≤ 60 - 1 - 1 := by omega
    have hrl : (rowsFrom 0 ((lines17 s.data.toList).take i)).length ≤ 1000000 := by
      refine Nat.le_trans (rowsFrom_len _ _) ?_
      rw [List.length_take]
      have h1 : (lines17 s.data.toList).length ≤ s.data.toList.length := by unfold lines17; rw [List.length_map]; exact rawL_le _
      omega
    obtain ⟨i0, hi, hz0, hz1, hz2⟩ := info_parts lineInfo
    have hB1 : (rowsFrom 0 ((lines17 s.data.toList).take i)).length + 1 ≤ maxLen := by unfold maxLen; omega
    have hB2 : ((rowsFrom 0 ((lines17 s.data.toList).take i)).length + 1) * 32 ≤ 140737488355328 := by omega
    have hvc := hv1.cell
    have hvf := hv1.frozen
    gi_wp2_with (first
      | (refine ⟨trivial, ?_⟩; gi_at_call 16; refine (CallsIn.inRound l2 (callsIn_wide.2 (StripL_any l _ (by omega)))).mono ?_; rintro e w3 ⟨tb, rfl, HT, nd, rfl⟩)
      | (refine ⟨trivial, ?_⟩; gi_at_call 30; refine (CallsIn.inRound l2 (callsIn_wide.2 (TrimLB_any tb _))).mono ?_; rintro e w3 ⟨ob, rfl, HO, rfl⟩)
      | (gi_at_builtin; refine wpListIn_append_own _ rfl _ _ 23 rfl (b + 10) 39 i0 (.agg #[.int .i64 0, .int .i64 0, .string ⟨#[]⟩]) 3 32 Tryd.underlying23 hi hz0 hz1 hz2 rfl (by decide) _ _ _ rfl (World.ownsRow.alloc (show (V.drewN nd).ownsRow (b + 10) 39 3 v _ _ from hv2) _) ⟨V.heap.size, 0, none⟩ 1 1 [.int .i64 ((i : Int) + 1), .int .i64 (wrap64 ((tb.size : Int) - (ob.size : Int))), .string ob] rfl rfl (cells3_new _ _ _ _ _) (by intro u hu; simp at hu; rcases hu with rfl | rfl | rfl <;> rfl) hB1 hB2 (by rw [World.size_alloc]; show b + 10 ≤ V.heap.size + 1; omega) ?_; intro v' w1 hown' hgrow _; obtain ⟨g', cap', rfl⟩ := ownsRow_succ hown'; have hbx := (Boxed.alloc (show Boxed (V.drewN nd) (b + 1) 23 v from hv1) _).kept hgrow (box_ne hv2 (by omega)); have hbc := hbx.cell; have hbf := hbx.frozen))
    · have hne : (!ob.toList.isEmpty) = true := by assumption
      have hne2 : ob.data.toList ≠ [] := fun e => by rw [Lib.toList_data, e] at hne; cases hne
      obtain ⟨r, hr1, hr2⟩ := row_cells (i := i) (unhide HT) (unhide HO) hne2 hxl
      have hstep := rows_step (unhide HX)
      rw [hr1] at hstep
      have hlo : ∀ k, v.ownBlock = some k → b + 10 ≤ k := fun k e => (World.ownsRow.lt (show V.ownsRow (b + 10) 39 3 v _ _ from hv2) k e).1
      have hq : w.heap.size < V.heap.size := (Array.getElem?_eq_some_iff.1 hc1).1
      have hA := (below_drewN' (n := nd) hc2).alloc hc2.size (.cells #[.int .i64 ((i : Int) + 1), .int .i64 (wrap64 ((tb.size : Int) - (ob.size : Int))), .string ob] 39)
      have hG := hA.grown hgrow hA.size (fun k e => by have := hlo k e; omega)
      refine ⟨(((show KeepsT _ V (V.drewN nd) from ⟨Nat.le_refl _, fun _ _ _ => rfl⟩).trans (KeepsT.alloc _ (V.drewN nd) _)).trans (.of_grownBy hgrow (fun r e hr => by have := hlo r e; rcases hr with hr | hr; exact hr; omega))).trans (.of_grownBy (grownBy_setCell' w1 (b + 1) _) (fun r e hr => by cases e; rcases hr with hr | hr; exact hr; omega)), ?_, below_cell hG _ (by omega), _, hbx.set _, ?_⟩
      · refine (Below.heap_setCell _ _ _ _ (by show w.heap.size ≠ b + 1; omega)).trans ((hgrow.block _ (by rw [World.size_alloc]; show w.heap.size < V.heap.size + 1; omega) (fun e => by have := hlo _ e.symm; omega)).trans ((Below.heap_alloc (V.drewN nd) _ _ hq).trans hc1))
      · rw [hstep]
        unfold OwnL
        rw [show (some r).toList = [r] from rfl, rowsCells_snoc, List.length_append, hr2]
        exact ownsRow_span hown' (grownBy_setCell' w1 (b + 1) _) (fun r e => by cases e; omega)
    · have hne : (!ob.toList.isEmpty) = false := by assumption
      have hne2 : ob.data.toList = [] := by
        rw [Lib.toList_data] at hne
        cases hd : ob.data.toList with
        | nil => rfl
        | cons a t => rw [hd] at hne; cases hne
      have hstep := rows_step (unhide HX)
      rw [row_none (unhide HT) (unhide HO) hne2, show (none : Option (Nat × Nat × List UInt8)).toList = [] from rfl, List.append_nil] at hstep
      refine ⟨⟨Nat.le_refl _, fun _ _ _ => rfl⟩, hc1, below_drewN' hc2, v, hv1, ?_⟩
      rw [hstep]
      exact hv2
  case done =>
    rintro D V rfl ⟨hc1, hc2, v, hv1, hv2⟩ hK
    have hvc := hv1.cell
    have x0 := (two_cell0 hc1).1
    have x1 := (two_cell0 hc1).2
    have x2 := (two_cell1 hc1).1
    have x3 := (two_cell1 hc1).2
    gi_wp2
    have hgr1 := setCell_grown V w.heap.size 0 (.int .i64 0)
    have hgr2 := setCell_grown (V.setCell ⟨w.heap.size, 0, none⟩ (.int .i64 0)) w.heap.size 1 (.int .i64 0)
    have hK2 : ((V.setCell ⟨w.heap.size, 0, none⟩ (.int .i64 0)).setCell ⟨w.heap.size, 1, none⟩ (.int .i64 0)).heap[W2.heap.size]? = some (.deferred (some [])) :=
      (Below.heap_setCell _ _ _ _ (by show W2.heap.size ≠ w.heap.size; omega)).trans ((Below.heap_setCell _ _ _ _ (by show W2.heap.size ≠ w.heap.size; omega)).trans hK)
    refine ⟨by simp, .inl ⟨_, _, rfl, run_takeDeferred hK2, ?_⟩⟩
    refine ⟨_, results_tmp_cell rfl _ _ _ _ _ rfl (run_loadVar_row _ _ _ _ _ _ _ ((World.putObj_heap_other (by omega)).trans (two_set1 (two_set0 hc1 _) _)) Tryd.underlying26 rfl (by kernel_rfl)), v, rfl, ?_, below_putObj (below_set (below_set hc2 0 _ (Nat.le_refl _)) 1 _ (Nat.le_refl _)) _ (by omega)⟩
    have hrows : rowsFrom 0 ((lines17 s.data.toList).take (numbered s.data.toList).length) = rows17 s.data.toList := by
      rw [rows17, numbered_lines, List.take_of_length_le (Nat.le_refl _)]
    rw [hrows] at hv2
    exact ownsRow_base (ownsRow_span (ownsRow_span (ownsRow_span hv2 hgr1 (fun r e => by cases e; omega)) hgr2 (fun r e => by cases e; omega)) (grownBy_putObj' _ W2.heap.size _) (fun r e => by cases e; omega)) (by omega)
  case stop =>
    rintro D c i V rfl hi h hK
    exact h.elim
end Go.Proofs.YtbnheebblicgkaaDoor
