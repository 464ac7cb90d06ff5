/- walks of layer 17: line.Count. -/
import Derived.Test.YtbnheebblicgkaaDoorW17b
namespace Go.Proofs.YtbnheebblicgkaaDoor
set_option linter.unusedVariables false
set_option linter.unusedSimpArgs false
open Go.RowKit Go.Shelf
attribute [local go_sem] Oper.semAt_some
theorem below_putObj {w V : World} (h : Below w.heap.size w V) (o : Obj) {D : Nat} (hD : w.heap.size ≤ D) : Below w.heap.size w (V.putObj D o) :=
  h.grown (grownBy_putObj' V D o) h.size (fun k e => by cases e; exact hD)
theorem below_cell {w V : World} (h : Below w.heap.size w V) (v : Value) {D : Nat} (hD : w.heap.size ≤ D) : Below w.heap.size w (V.setCell ⟨D, 0, none⟩ v) :=
  h.grown (grownBy_setCell' V D v) h.size (fun k e => by cases e; exact hD)
set_option maxRecDepth 100000 in
set_option maxHeartbeats 2000000 in
theorem Count_any (s : ByteArray) (w : World) (hs : s.size ≤ 1099511627776) :
    Calls Tryd.prog 14 #[.string s] w fun e w' => e = .returned (.int .i64 (rawL s.data.toList).length) ∧ Below w.heap.size w w' := by
  refine (callsIn_wide (n := 40)).1 ?_
  refine callsIn_of_wp_marks Tryd.func14 rfl trivial ?_ rfl
  simp only [Tryd.ntmps14, List.size_toArray, List.length_cons, List.length_nil, Nat.reduceAdd, Nat.reduceSub, Array.replicate_succ, Array.replicate_zero, List.push_toArray, List.append_toArray, List.nil_append, List.cons_append]
  gi_wp2_with (refine ⟨trivial, ?_⟩; gi_at_call 29; refine (callsIn_wide.2 (lines_any s _)).mono ?_; rintro e w' ⟨rfl, rfl⟩)
  obtain ⟨W2, hW2⟩ : ∃ W2, ((w.alloc (.cells #[.int .i64 0] 3)).alloc (.cells #[.string s] 9)) = W2 := ⟨_, rfl⟩
  rw [hW2]
  have hsz : W2.heap.size = w.heap.size + 2 := by rw [← hW2]; simp
  have b0 : Boxed W2 w.heap.size 3 (.int .i64 0) := by rw [← hW2]; exact (Boxed.new _ _ _).alloc _
  have b1 : Boxed W2 (w.heap.size + 1) 9 (.string s) := by
    rw [← hW2]; have := Boxed.new (w.alloc (.cells #[.int .i64 0] 3)) 9 (.string s); rw [World.size_alloc] at this; exact this
  have hbel : Below w.heap.size w W2 := by rw [← hW2]; exact ((Below.refl _ w).alloc (Nat.le_refl _) _).alloc (by simp) _
  clear hW2
  refine wpIn_rangeFunc_T rfl (by omega) (gf := 48) (lb := #[.pointer (some ⟨w.heap.size + 1, 0, none⟩)]) rfl trivial (enters_of Tryd.func48 (by kernel_rfl) rfl)
    (encs := encL) (numbered s.data.toList) (fun _ => False) 5 (fun r hr => hr.elim)
    (fun V hg hV => linesIter_seq (40 - 1) s _ _ V (b1.kept hg (by simp)).cell (fun r h1 h2 => .inr ⟨by omega, by omega⟩) hs (by omega)) (fun _ => rfl)
    (fun i V => Boxed V w.heap.size 3 (.int .i64 i) ∧ Below w.heap.size w V)
    (fun c i V => False)
    (fun i V V' row h hg hr => ⟨h.1.kept hg (fun e => by rcases hr _ e.symm with h3 | h3; exact h3.elim; omega), h.2.grown hg h.2.size (fun k e => by rcases hr k e with h3 | h3; exact h3.elim; omega)⟩)
    (fun c i V V' row h hg hr => h)
    ⟨b0, hbel⟩
    (fun x => { tmps := #[.string s, undef, .int .i64 0, .pointer (some ⟨w.heap.size, 0, none⟩), .string s, .func (.func 48) #[] #[.pointer (some ⟨w.heap.size + 1, 0, none⟩)],
      .int .i64 x.1, bsOf x.2, undef, undef, undef], defers := [] }) ?assign ?body ?done ?stop
  case assign =>
    intro l2 x V K hK
    gi_wp2
    simpa [encL] using hK
  case body =>
    rintro l2 i x V hx ⟨hb1, hb2⟩ hV
    have hil : i < (numbered s.data.toList).length := (List.getElem?_eq_some_iff.1 hx).1
    have hle := rawL_le s.data.toList
    rw [← Lib.size_eq, ← numbered_len] at hle
    have hw1 : IntKind.i64.wrap ((i : Int) + 1) = (i : Int) + 1 := IntWalk.i64_in _ (by omega)
    have c1 := hb1.cell
    have f1 := hb1.frozen
    gi_wp2
    refine ⟨KeepsT.of_grownBy (grownBy_setCell' V _ _) (fun r e hr => by cases e; rcases hr with hr | hr; exact hr; omega), hb1.set _, below_cell hb2 _ (Nat.le_refl _)⟩
  case done =>
    rintro D V rfl ⟨hb1, hb2⟩ hK
    have c1 := hb1.cell
    have f1 := hb1.frozen
    gi_wp2
    refine ⟨by simp, .inl ⟨_, _, rfl, run_takeDeferred hK, ?_⟩⟩
    refine ⟨_, results_tmp rfl _ _ _, ?_, below_putObj hb2 _ (by omega)⟩
    first | rfl | (rw [numbered_len]; rfl)
  case stop =>
    rintro D c i V rfl hi h hK
    exact h.elim
end Go.Proofs.YtbnheebblicgkaaDoor
