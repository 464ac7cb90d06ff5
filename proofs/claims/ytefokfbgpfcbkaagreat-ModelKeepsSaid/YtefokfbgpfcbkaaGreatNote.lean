/- What is noted: the rows of api.Diag, the box they lie in, and the closures that add to it. -/
import Derived.Test.YtefokfbgpfcbkaaGreatCells
import Derived.Test.YtefokfbgpfcbkaaGreatPlain28
import Derived.Test.YtefokfbgpfcbkaaGreatKeep
import Derived.Test.YtefokfbgpfcbkaaGreatTail
namespace Go.Proofs.YtefokfbgpfcbkaaGreat
set_option linter.unusedVariables false
set_option linter.unusedSimpArgs false
open Go.RowKit
def noteV (n : P28.Note) : List Value := [.int .i64 n.1, .int .i64 n.2.1, .string ⟨n.2.2.toArray⟩]
def nCells (ns : List P28.Note) : List Value := ns.flatMap noteV
theorem nCells_snoc (ns : List P28.Note) (n : P28.Note) : nCells (ns ++ [n]) = nCells ns ++ noteV n := by unfold nCells; rw [List.flatMap_append]; simp
theorem nCells_len (ns : List P28.Note) : (nCells ns).length = ns.length * 3 := by
  induction ns with
  | nil => rfl
  | cons p ns ih => unfold nCells at *; rw [List.flatMap_cons, List.length_append, ih]; simp [noteV]; omega
def OwnT (W : World) (B : Nat) (v : Value) (ns : List P28.Note) : Prop := W.ownsRow B 183 3 v ns.length (nCells ns)
theorem diagInfo : (Tryz.prog.info? 183).map (fun i => (i.zero, i.size, i.bytes)) = some (some (.agg #[.int .i64 0, .int .i64 0, .string ⟨#[]⟩]), 3, 32) := by kernel_rfl
theorem OwnT.nil (W : World) (B : Nat) : OwnT W B (.slice none 0 0) [] := World.ownsRow_nil W B 183 3
theorem OwnT.keep {W W' : World} {B : Nat} {v : Value} {ns : List P28.Note} (h : OwnT W B v ns) (hk : ∀ g, v.ownBlock = some g → W'.heap[g]? = W.heap[g]?) : OwnT W' B v ns := own_keep h hk
theorem OwnT.lt {W : World} {B : Nat} {v : Value} {ns : List P28.Note} (h : OwnT W B v ns) {g : Nat} (hg : v.ownBlock = some g) : B ≤ g ∧ g < W.heap.size := own_block_lt h g hg
theorem OwnT.form {W : World} {B : Nat} {v : Value} {ns : List P28.Note} (h : OwnT W B v ns) : ∃ a c, v = .slice a ns.length c := by
  rcases h.2 with ⟨rfl, h0⟩ | ⟨g, cap, cur, rfl, _⟩
  · exact ⟨none, 0, by rw [h0]⟩
  · exact ⟨_, cap, rfl⟩
theorem wpList_appNote {w : World} {B : Nat} {v : Value} {ns : List P28.Note} {p : P28.Note} {ops : Array Oper} {rest : List Oper} {o : Oper} {a : Act} {Q : Exit → Act → World → Prop} (hgd : o.guard = none) (s x : Operand)
    (ho : o.op = .call { callee := .builtin .append, args := #[s, x], argTypes := #[124, 124] })
    (hs : a.eval s = v) (hown : OwnT w B v ns) (g cap : Nat) (hx : a.eval x = .slice (some ⟨g, 0, none⟩) 1 cap) (hnew : w.heap[g]? = some (.cells #[.int .i64 p.1, .int .i64 p.2.1, .string ⟨p.2.2.toArray⟩] 183))
    (m : Nat) (hm : ns.length = m) (hlen : m + 1 ≤ 1000000000000) (hB : B ≤ w.heap.size)
    (h : ∀ g' cap' w', OwnT w' B (.slice (some ⟨g', 0, none⟩) (m + 1) cap') (ns ++ [p]) → w.grownBy w' v.ownBlock → (v.ownBlock = some g' ∨ g' = w.heap.size) → g' < w'.heap.size → wpList Tryz.prog ops Q rest (a.put o.dst (.slice (some ⟨g', 0, none⟩) (m + 1) cap')) w') :
    wpList Tryz.prog ops Q (o :: rest) a w := by
  subst hm
  obtain ⟨i, hi, hz, hsz, hby⟩ := info_parts diagInfo
  refine wpList_append_lies (P := Tryz.prog) w hgd s x 124 ho B 183 i (.agg #[.int .i64 0, .int .i64 0, .string ⟨#[]⟩]) 3 32 Tryz.underlying124 hi hz hsz hby rfl (by decide) v ns.length (nCells ns) hs hown
    ⟨g, 0, none⟩ 1 cap (noteV p) hx rfl (World.news_of_block (fr := (0, 0)) hnew) (by intro u hu; simp [noteV] at hu; rcases hu with rfl | rfl | rfl <;> rfl) (by decide) (by unfold maxLen; omega) (by omega) hB _ rfl ?_
  intro g' cap' w' h2 h3 hat hlt
  refine h g' cap' w' ?_ h3 hat hlt
  unfold OwnT
  rw [List.length_append, nCells_snoc]
  exact h2
/-- a world grows; two blocks alone may change -/
structure Gr (W W' : World) (b : Nat) (own : Option Nat) : Prop where
  os : W'.os = W.os
  tape : W'.tape = W.tape
  output : W'.output = W.output
  size : W.heap.size ≤ W'.heap.size
  block : ∀ k, k < W.heap.size → k ≠ b → some k ≠ own → W'.heap[k]? = W.heap[k]?
theorem Gr.refl (W : World) (b : Nat) (own : Option Nat) : Gr W W b own := ⟨rfl, rfl, rfl, Nat.le_refl _, fun _ _ _ _ => rfl⟩
theorem Gr.below {B : Nat} {w W W' : World} {b : Nat} {own : Option Nat} (h : Gr W W' b own) (hb : Below B w W) (h1 : B ≤ W.heap.size) (h2 : B ≤ b) (h3 : ∀ g, own = some g → B ≤ g) : Below B w W' :=
  ⟨h.os.trans hb.os, h.tape.trans hb.tape, h.output.trans hb.output, Nat.le_trans hb.size h.size, fun k hk => (h.block k (by omega) (by omega) (fun e => by have := h3 k e.symm; omega)).trans (hb.block k hk)⟩
/-- the box of what is noted -/
structure NB (W : World) (B b : Nat) (ns : List P28.Note) (v : Value) : Prop where
  box : W.heap[b]? = some (.cells #[v] 124)
  own : OwnT W B v ns
  low : b < B
theorem NB.ne {W : World} {B b : Nat} {ns : List P28.Note} {v : Value} (h : NB W B b ns v) : v.ownBlock ≠ some b := fun e => by have := (h.own.lt e).1; have := h.low; omega
theorem NB.keep {W W' : World} {B b : Nat} {ns : List P28.Note} {v : Value} (h : NB W B b ns v) (hb : W'.heap[b]? = W.heap[b]?) (ho : ∀ g, v.ownBlock = some g → W'.heap[g]? = W.heap[g]?) : NB W' B b ns v := ⟨hb.trans h.box, h.own.keep ho, h.low⟩
theorem NB.below {W W' : World} {B b : Nat} {ns : List P28.Note} {v : Value} (h : NB W B b ns v) (hb : Below W.heap.size W W') : NB W' B b ns v :=
  h.keep (hb.block b (Array.getElem?_eq_some_iff.1 h.box).1) (fun g hg => hb.block g (h.own.lt hg).2)
theorem box_set {W : World} {b : Nat} {u v : Value} {t : TypeId} (h : W.heap[b]? = some (.cells #[u] t)) : (W.setCell ⟨b, 0, none⟩ v).heap[b]? = some (.cells #[v] t) := one_setCell h
/-- what a closure that notes does -/
def NotesTo (f b : Nat) : Prop := ∀ (c : Bool) (i e : Int) (t : List UInt8) (W : World) (B : Nat) (ns : List P28.Note) (v : Value), NB W B b ns v → B ≤ W.heap.size → ns.length ≤ 100000000000 * 9 →
  Calls Tryz.prog f #[.bool c, .int .i64 i, .int .i64 e, .string ⟨t.toArray⟩, .pointer (some ⟨b, 0, none⟩)] W fun x W' => x = .returned (.tuple #[]) ∧ ∃ v', NB W' B b (ns ++ P28.nt c i e t) v' ∧ Gr W W' b v.ownBlock ∧ (v'.ownBlock = v.ownBlock ∨ ∃ g, v'.ownBlock = some g ∧ W.heap.size ≤ g)
set_option maxHeartbeats 1600000 in
theorem note_names (b : Nat) : NotesTo 163 b := by
  intro c i e t W B ns v h hB hl
  obtain ⟨va, vc, rfl⟩ := h.own.form
  have hcell := cell1 h.box
  cases c with
  | false =>
    go_enter Tryz.func163, Tryz.ntmps163
    go_wp2
    go_end0
    exact ⟨rfl, _, by simpa [P28.nt] using h, Gr.refl _ _ _, .inl rfl⟩
  | true =>
    obtain ⟨W1, hW1⟩ : ∃ W1, W.alloc (.cells #[.int .i64 i, .int .i64 e, .string ⟨t.toArray⟩] 183) = W1 := ⟨_, rfl⟩
    have hbW : Below W.heap.size W W1 := by rw [← hW1]; exact (Below.refl _ _).alloc (Nat.le_refl _) _
    have hs1 : W1.heap.size = W.heap.size + 1 := by rw [← hW1]; simp
    have hnw : W1.heap[W.heap.size]? = some (.cells #[.int .i64 i, .int .i64 e, .string ⟨t.toArray⟩] 183) := by rw [← hW1]; exact World.alloc_heap_new _ _
    have h1 := h.below hbW
    obtain ⟨c1, f1⟩ := cell1 h1.box
    have HW1 := hide hW1
    have HH := hide h
    have HH1 := hide h1
    have HB := hide hbW
    have HN := hide hnw
    clear hW1 h h1 hbW hnw
    go_enter Tryz.func163, Tryz.ntmps163
    go_wp2_with (rw [unhide HW1]; refine wpList_appNote (p := (i, e, t)) (by rfl) _ _ (by rfl) (by rfl) (unhide HH1).own W.heap.size 1 (by rfl) (unhide HN) ns.length rfl (by omega) (by omega) ?_; intro g2 cap2 w2 hown2 hgrow hat hlt; have hbx := (World.cell?_of_block (a := ⟨b, 0, none⟩) (hgrow.block b (Array.getElem?_eq_some_iff.1 (unhide HH1).box).1 (fun q => (unhide HH1).ne q.symm))).trans c1; have hfx := (World.frozen?_of_block (a := ⟨b, 0, none⟩) (hgrow.block b (Array.getElem?_eq_some_iff.1 (unhide HH1).box).1 (fun q => (unhide HH1).ne q.symm))).trans f1; have HG := hide hgrow; have HO := hide hown2; clear hgrow hown2)
    go_end0
    have hne := (unhide HH1).ne
    have hgr := unhide HG
    have hb1 := unhide HB
    have hown := unhide HO
    have hbs : g2 ≠ b := fun q => by
      rcases hat with h | h
      · exact hne (by rw [h, q])
      · have := (Array.getElem?_eq_some_iff.1 (unhide HH1).box).1; omega
    have hB9 := (unhide HH).low
    refine ⟨rfl, .slice (some ⟨g2, 0, none⟩) (ns.length + 1) cap2, ⟨?_, ?_, hB9⟩, ⟨hgr.os.trans hb1.os, hgr.tape.trans hb1.tape, hgr.output.trans hb1.output, ?_, fun k hk h1 h2 => ?_⟩, ?_⟩
    · have h5 := (hgr.block b (Array.getElem?_eq_some_iff.1 (unhide HH1).box).1 (fun q => hne q.symm)).trans (unhide HH1).box
      exact box_set h5
    · refine OwnT.keep (W := w2) (by simpa [P28.nt] using hown) (fun g hg => Below.heap_setCell _ _ _ _ (fun q => hbs (by cases hg; exact q)))
    · have := hgr.size
      simp
      omega
    · exact (Below.heap_setCell _ _ _ _ h1).trans ((hgr.block k (by omega) h2).trans (hb1.block k hk))
    · rcases hat with h | h
      · exact .inl h.symm
      · exact .inr ⟨g2, rfl, by omega⟩
set_option maxHeartbeats 1600000 in
theorem note_bounds (b : Nat) : NotesTo 164 b := by
  intro c i e t W B ns v h hB hl
  obtain ⟨va, vc, rfl⟩ := h.own.form
  have hcell := cell1 h.box
  cases c with
  | false =>
    go_enter Tryz.func164, Tryz.ntmps164
    go_wp2
    go_end0
    exact ⟨rfl, _, by simpa [P28.nt] using h, Gr.refl _ _ _, .inl rfl⟩
  | true =>
    obtain ⟨W1, hW1⟩ : ∃ W1, W.alloc (.cells #[.int .i64 i, .int .i64 e, .string ⟨t.toArray⟩] 183) = W1 := ⟨_, rfl⟩
    have hbW : Below W.heap.size W W1 := by rw [← hW1]; exact (Below.refl _ _).alloc (Nat.le_refl _) _
    have hs1 : W1.heap.size = W.heap.size + 1 := by rw [← hW1]; simp
    have hnw : W1.heap[W.heap.size]? = some (.cells #[.int .i64 i, .int .i64 e, .string ⟨t.toArray⟩] 183) := by rw [← hW1]; exact World.alloc_heap_new _ _
    have h1 := h.below hbW
    obtain ⟨c1, f1⟩ := cell1 h1.box
    have HW1 := hide hW1
    have HH := hide h
    have HH1 := hide h1
    have HB := hide hbW
    have HN := hide hnw
    clear hW1 h h1 hbW hnw
    go_enter Tryz.func164, Tryz.ntmps164
    go_wp2_with (rw [unhide HW1]; refine wpList_appNote (p := (i, e, t)) (by rfl) _ _ (by rfl) (by rfl) (unhide HH1).own W.heap.size 1 (by rfl) (unhide HN) ns.length rfl (by omega) (by omega) ?_; intro g2 cap2 w2 hown2 hgrow hat hlt; have hbx := (World.cell?_of_block (a := ⟨b, 0, none⟩) (hgrow.block b (Array.getElem?_eq_some_iff.1 (unhide HH1).box).1 (fun q => (unhide HH1).ne q.symm))).trans c1; have hfx := (World.frozen?_of_block (a := ⟨b, 0, none⟩) (hgrow.block b (Array.getElem?_eq_some_iff.1 (unhide HH1).box).1 (fun q => (unhide HH1).ne q.symm))).trans f1; have HG := hide hgrow; have HO := hide hown2; clear hgrow hown2)
    go_end0
    have hne := (unhide HH1).ne
    have hgr := unhide HG
    have hb1 := unhide HB
    have hown := unhide HO
    have hbs : g2 ≠ b := fun q => by
      rcases hat with h | h
      · exact hne (by rw [h, q])
      · have := (Array.getElem?_eq_some_iff.1 (unhide HH1).box).1; omega
    have hB9 := (unhide HH).low
    refine ⟨rfl, .slice (some ⟨g2, 0, none⟩) (ns.length + 1) cap2, ⟨?_, ?_, hB9⟩, ⟨hgr.os.trans hb1.os, hgr.tape.trans hb1.tape, hgr.output.trans hb1.output, ?_, fun k hk h1 h2 => ?_⟩, ?_⟩
    · have h5 := (hgr.block b (Array.getElem?_eq_some_iff.1 (unhide HH1).box).1 (fun q => hne q.symm)).trans (unhide HH1).box
      exact box_set h5
    · refine OwnT.keep (W := w2) (by simpa [P28.nt] using hown) (fun g hg => Below.heap_setCell _ _ _ _ (fun q => hbs (by cases hg; exact q)))
    · have := hgr.size
      simp
      omega
    · exact (Below.heap_setCell _ _ _ _ h1).trans ((hgr.block k (by omega) h2).trans (hb1.block k hk))
    · rcases hat with h | h
      · exact .inl h.symm
      · exact .inr ⟨g2, rfl, by omega⟩
end Go.Proofs.YtefokfbgpfcbkaaGreat
