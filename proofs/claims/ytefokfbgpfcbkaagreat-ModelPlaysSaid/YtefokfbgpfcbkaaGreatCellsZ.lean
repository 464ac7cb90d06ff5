/- Lemmas of this claim (a part of its texts, kept as far as the claim reaches them). -/
import Derived.Test.YtefokfbgpfcbkaaGreatStZ
import Derived.Test.YtefokfbgpfcbkaaGreatGAZ
import Derived.Lib.OthersKept
import Derived.Laws.Tables
import Derived.Test.YtefokfbgpfcbkaaGreatPlain28Z
import Derived.Test.YtefokfbgpfcbkaaGreatInvZ
namespace Go.Proofs.YtefokfbgpfcbkaaGreat
set_option linter.unusedVariables false
set_option linter.unusedSimpArgs false
open Go.RowKit
theorem cell13 {W : World} {g : Nat} {T : TypeId} {u0 u1 u2 u3 u4 u5 u6 u7 u8 u9 u10 u11 u12 : Value} (h : W.heap[g]? = some (.cells #[u0, u1, u2, u3, u4, u5, u6, u7, u8, u9, u10, u11, u12] T)) : (W.cell? ⟨g, 0, none⟩ = some u0 ∧ W.frozen? ⟨g, 0, none⟩ = false) ∧ (W.cell? ⟨g, 1, none⟩ = some u1 ∧ W.frozen? ⟨g, 1, none⟩ = false) ∧ (W.cell? ⟨g, 2, none⟩ = some u2 ∧ W.frozen? ⟨g, 2, none⟩ = false) ∧ (W.cell? ⟨g, 3, none⟩ = some u3 ∧ W.frozen? ⟨g, 3, none⟩ = false) ∧ (W.cell? ⟨g, 4, none⟩ = some u4 ∧ W.frozen? ⟨g, 4, none⟩ = false) ∧ (W.cell? ⟨g, 5, none⟩ = some u5 ∧ W.frozen? ⟨g, 5, none⟩ = false) ∧ (W.cell? ⟨g, 6, none⟩ = some u6 ∧ W.frozen? ⟨g, 6, none⟩ = false) ∧ (W.cell? ⟨g, 7, none⟩ = some u7 ∧ W.frozen? ⟨g, 7, none⟩ = false) ∧ (W.cell? ⟨g, 8, none⟩ = some u8 ∧ W.frozen? ⟨g, 8, none⟩ = false) ∧ (W.cell? ⟨g, 9, none⟩ = some u9 ∧ W.frozen? ⟨g, 9, none⟩ = false) ∧ (W.cell? ⟨g, 10, none⟩ = some u10 ∧ W.frozen? ⟨g, 10, none⟩ = false) ∧ (W.cell? ⟨g, 11, none⟩ = some u11 ∧ W.frozen? ⟨g, 11, none⟩ = false) ∧ (W.cell? ⟨g, 12, none⟩ = some u12 ∧ W.frozen? ⟨g, 12, none⟩ = false) := by
  simp [World.cell?, World.frozen?, h]
theorem new1 (w : World) (o : Obj) (H : Nat) (hH : w.heap.size = H) : ∃ W, w.alloc o = W ∧ Below H w W ∧ W.heap[H]? = some o ∧ W.heap.size = H + 1 := by
  subst hH
  exact ⟨_, rfl, (Below.refl _ w).alloc (Nat.le_refl _) o, World.alloc_heap_new _ _, by simp⟩
theorem new2 (w : World) (o1 o2 : Obj) (H : Nat) (hH : w.heap.size = H) : ∃ W, (w.alloc o1).alloc o2 = W ∧ Below H w W ∧ W.heap[H]? = some o1 ∧ W.heap[H + 1]? = some o2 ∧ W.heap.size = H + 1 + 1 := by
  obtain ⟨W1, e1, b1, h1, s1⟩ := new1 w o1 H hH
  obtain ⟨W2, e2, b2, h2, s2⟩ := new1 W1 o2 (H + 1) s1
  exact ⟨W2, by rw [e1, e2], b1.trans (b2.mono (by omega)), (b2.block H (by omega)).trans h1, h2, s2⟩
theorem new3 (w : World) (o1 o2 o3 : Obj) (H : Nat) (hH : w.heap.size = H) : ∃ W, ((w.alloc o1).alloc o2).alloc o3 = W ∧ Below H w W ∧ W.heap[H]? = some o1 ∧ W.heap[H + 1]? = some o2 ∧ W.heap[H + 1 + 1]? = some o3 ∧ W.heap.size = H + 1 + 1 + 1 := by
  obtain ⟨W1, e1, b1, h1, h1', s1⟩ := new2 w o1 o2 H hH
  obtain ⟨W2, e2, b2, h2, s2⟩ := new1 W1 o3 (H + 1 + 1) s1
  exact ⟨W2, by rw [e1, e2], b1.trans (b2.mono (by omega)), (b2.block H (by omega)).trans h1, (b2.block (H + 1) (by omega)).trans h1', h2, s2⟩
theorem cell1 {W : World} {g : Nat} {T : TypeId} {a : Value} (h : W.heap[g]? = some (.cells #[a] T)) : W.cell? ⟨g, 0, none⟩ = some a ∧ W.frozen? ⟨g, 0, none⟩ = false := by
  simp [World.cell?, World.frozen?, h]
theorem cell3 {W : World} {g : Nat} {T : TypeId} {a b c : Value} (h : W.heap[g]? = some (.cells #[a, b, c] T)) : (W.cell? ⟨g, 0, none⟩ = some a ∧ W.frozen? ⟨g, 0, none⟩ = false) ∧ (W.cell? ⟨g, 1, none⟩ = some b ∧ W.frozen? ⟨g, 1, none⟩ = false) ∧ (W.cell? ⟨g, 2, none⟩ = some c ∧ W.frozen? ⟨g, 2, none⟩ = false) := by
  simp [World.cell?, World.frozen?, h]
theorem put1 {W : World} {g : Nat} {T : TypeId} {a : Value} (h : W.heap[g]? = some (.cells #[a] T)) (v : Value) : (W.setCell ⟨g, 0, none⟩ v).heap[g]? = some (.cells #[v] T) := by
  simp [World.setCell, Array.getElem?_modify, h]
theorem cellDef {W : World} {g : Nat} {a b c : Value} (h : W.heap[g]? = some (.cells #[a, b, c] 24)) : (loadVar 24 ⟨g, 0, none⟩).run Tryz.prog W = .ok (.agg #[a, b, c]) W := run_loadVar_row _ _ _ _ _ _ _ h Tryz.underlying24 rfl (by kernel_rfl)
theorem step_cells {W : World} {b o i : Nat} {s : PSt} (h : stEl.At W b (o + i * 13) s) :
    (W.cell? ⟨b, o + i * 13, none⟩ = some (.string ⟨s.name.toArray⟩) ∧ W.cell? ⟨b, o + i * 13 + 1, none⟩ = some (.string ⟨s.action.toArray⟩) ∧ W.cell? ⟨b, o + i * 13 + 2, none⟩ = some (.string ⟨s.undo.toArray⟩) ∧ W.cell? ⟨b, o + i * 13 + 3, none⟩ = some s.aV) ∧
    (W.cell? ⟨b, o + i * 13 + 4, none⟩ = some (.int .i64 s.most) ∧ W.cell? ⟨b, o + i * 13 + 5, none⟩ = some (.int .i64 s.first) ∧ W.cell? ⟨b, o + i * 13 + 6, none⟩ = some (.int .i64 s.factor) ∧ W.cell? ⟨b, o + i * 13 + 7, none⟩ = some (.int .i64 s.limit)) ∧
    (W.cell? ⟨b, o + i * 13 + 8, none⟩ = some (.int .u8 s.note.kind) ∧ W.cell? ⟨b, o + i * 13 + 9, none⟩ = some (.string ⟨s.note.text.toArray⟩) ∧ W.cell? ⟨b, o + i * 13 + 10, none⟩ = some s.note.kV ∧ W.cell? ⟨b, o + i * 13 + 11, none⟩ = some s.note.dV ∧ W.cell? ⟨b, o + i * 13 + 12, none⟩ = some (.int .i64 s.note.line)) :=
  ⟨⟨h 0 _ rfl, h 1 _ rfl, h 2 _ rfl, h 3 _ rfl⟩, ⟨h 4 _ rfl, h 5 _ rfl, h 6 _ rfl, h 7 _ rfl⟩, ⟨h 8 _ rfl, h 9 _ rfl, h 10 _ rfl, h 11 _ rfl, h 12 _ rfl⟩⟩
theorem hmixed : Tryz.prog.follows .mixedOrders = true := by kernel_rfl
theorem zeroI (w : World) : (zeroValue 3).run Tryz.prog w = .ok (.int .i64 0) w := by kernel_rfl
end Go.Proofs.YtefokfbgpfcbkaaGreat
namespace Go.Proofs.YtefokfbgpfcbkaaGreat
set_option linter.unusedVariables false
set_option linter.unusedSimpArgs false
open Go.RowKit
def noteV (n : P28.Note) : List Value := [.int .i64 n.1, .int .i64 n.2.1, .string ⟨n.2.2.toArray⟩]
def nCells (ns : List P28.Note) : List Value := ns.flatMap noteV
theorem nCells_snoc (ns : List P28.Note) (n : P28.Note) : nCells (ns ++ [n]) = nCells ns ++ noteV n := by unfold nCells; rw [List.flatMap_append]; simp
theorem nCells_len (ns : List P28.Note) : (nCells ns).length = ns.length * 3 := by
  induction ns with
  | nil => rfl
  | cons p ns ih => unfold nCells at *; rw [List.flatMap_cons, List.length_append, ih]; simp [noteV]; omega
def OwnT (W : World) (B : Nat) (v : Value) (ns : List P28.Note) : Prop := W.ownsRow B 183 3 v ns.length (nCells ns)
theorem diagInfo : (Tryz.prog.info? 183).map (fun i => (i.zero, i.size, i.bytes)) = some (some (.agg #[.int .i64 0, .int .i64 0, .string ⟨#[]⟩]), 3, 32) := by kernel_rfl
theorem OwnT.nil (W : World) (B : Nat) : OwnT W B (.slice none 0 0) [] := World.ownsRow_nil W B 183 3
theorem OwnT.keep {W W' : World} {B : Nat} {v : Value} {ns : List P28.Note} (h : OwnT W B v ns) (hk : ∀ g, v.ownBlock = some g → W'.heap[g]? = W.heap[g]?) : OwnT W' B v ns := own_keep h hk
theorem OwnT.lt {W : World} {B : Nat} {v : Value} {ns : List P28.Note} (h : OwnT W B v ns) {g : Nat} (hg : v.ownBlock = some g) : B ≤ g ∧ g < W.heap.size := own_block_lt h g hg
theorem OwnT.form {W : World} {B : Nat} {v : Value} {ns : List P28.Note} (h : OwnT W B v ns) : ∃ a c, v = .slice a ns.length c := by
  rcases h.2 with ⟨rfl, h0⟩ | ⟨g, cap, cur, rfl, _⟩
  · exact ⟨none, 0, by rw [h0]⟩
  · exact ⟨_, cap, rfl⟩
theorem wpList_appNote {w : World} {B : Nat} {v : Value} {ns : List P28.Note} {p : P28.Note} {ops : Array Oper} {rest : List Oper} {o : Oper} {a : Act} {Q : Exit → Act → World → Prop} (hgd : o.guard = none) (s x : Operand)
    (ho : o.op = .call { callee := .builtin .append, args := #[s, x], argTypes := #[124, 124] })
    (hs : a.eval s = v) (hown : OwnT w B v ns) (g cap : Nat) (hx : a.eval x = .slice (some ⟨g, 0, none⟩) 1 cap) (hnew : w.heap[g]? = some (.cells #[.int .i64 p.1, .int .i64 p.2.1, .string ⟨p.2.2.toArray⟩] 183))
    (m : Nat) (hm : ns.length = m) (hlen : m + 1 ≤ 1000000000000) (hB : B ≤ w.heap.size)
    (h : ∀ g' cap' w', OwnT w' B (.slice (some ⟨g', 0, none⟩) (m + 1) cap') (ns ++ [p]) → w.grownBy w' v.ownBlock → (v.ownBlock = some g' ∨ g' = w.heap.size) → g' < w'.heap.size → wpList Tryz.prog ops Q rest (a.put o.dst (.slice (some ⟨g', 0, none⟩) (m + 1) cap')) w') :
    wpList Tryz.prog ops Q (o :: rest) a w := by
  subst hm
  obtain ⟨i, hi, hz, hsz, hby⟩ := info_parts diagInfo
  refine wpList_append_lies (P := Tryz.prog) w hgd s x 124 ho B 183 i (.agg #[.int .i64 0, .int .i64 0, .string ⟨#[]⟩]) 3 32 Tryz.underlying124 hi hz hsz hby rfl (by decide) v ns.length (nCells ns) hs hown
    ⟨g, 0, none⟩ 1 cap (noteV p) hx rfl (World.news_of_block (fr := (0, 0)) hnew) (by intro u hu; simp [noteV] at hu; rcases hu with rfl | rfl | rfl <;> rfl) (by decide) (by unfold maxLen; omega) (by omega) hB _ rfl ?_
  intro g' cap' w' h2 h3 hat hlt
  refine h g' cap' w' ?_ h3 hat hlt
  unfold OwnT
  rw [List.length_append, nCells_snoc]
  exact h2
structure Gr (W W' : World) (b : Nat) (own : Option Nat) : Prop where
  os : W'.os = W.os
  tape : W'.tape = W.tape
  output : W'.output = W.output
  size : W.heap.size ≤ W'.heap.size
  block : ∀ k, k < W.heap.size → k ≠ b → some k ≠ own → W'.heap[k]? = W.heap[k]?
theorem Gr.refl (W : World) (b : Nat) (own : Option Nat) : Gr W W b own := ⟨rfl, rfl, rfl, Nat.le_refl _, fun _ _ _ _ => rfl⟩
theorem Gr.below {B : Nat} {w W W' : World} {b : Nat} {own : Option Nat} (h : Gr W W' b own) (hb : Below B w W) (h1 : B ≤ W.heap.size) (h2 : B ≤ b) (h3 : ∀ g, own = some g → B ≤ g) : Below B w W' :=
  ⟨h.os.trans hb.os, h.tape.trans hb.tape, h.output.trans hb.output, Nat.le_trans hb.size h.size, fun k hk => (h.block k (by omega) (by omega) (fun e => by have := h3 k e.symm; omega)).trans (hb.block k hk)⟩
structure NB (W : World) (B b : Nat) (ns : List P28.Note) (v : Value) : Prop where
  box : W.heap[b]? = some (.cells #[v] 124)
  own : OwnT W B v ns
  low : b < B
theorem NB.ne {W : World} {B b : Nat} {ns : List P28.Note} {v : Value} (h : NB W B b ns v) : v.ownBlock ≠ some b := fun e => by have := (h.own.lt e).1; have := h.low; omega
theorem NB.keep {W W' : World} {B b : Nat} {ns : List P28.Note} {v : Value} (h : NB W B b ns v) (hb : W'.heap[b]? = W.heap[b]?) (ho : ∀ g, v.ownBlock = some g → W'.heap[g]? = W.heap[g]?) : NB W' B b ns v := ⟨hb.trans h.box, h.own.keep ho, h.low⟩
theorem NB.below {W W' : World} {B b : Nat} {ns : List P28.Note} {v : Value} (h : NB W B b ns v) (hb : Below W.heap.size W W') : NB W' B b ns v :=
  h.keep (hb.block b (Array.getElem?_eq_some_iff.1 h.box).1) (fun g hg => hb.block g (h.own.lt hg).2)
theorem box_set {W : World} {b : Nat} {u v : Value} {t : TypeId} (h : W.heap[b]? = some (.cells #[u] t)) : (W.setCell ⟨b, 0, none⟩ v).heap[b]? = some (.cells #[v] t) := one_setCell h
def NotesTo (f b : Nat) : Prop := ∀ (c : Bool) (i e : Int) (t : List UInt8) (W : World) (B : Nat) (ns : List P28.Note) (v : Value), NB W B b ns v → B ≤ W.heap.size → ns.length ≤ 100000000000 * 9 →
  Calls Tryz.prog f #[.bool c, .int .i64 i, .int .i64 e, .string ⟨t.toArray⟩, .pointer (some ⟨b, 0, none⟩)] W fun x W' => x = .returned (.tuple #[]) ∧ ∃ v', NB W' B b (ns ++ P28.nt c i e t) v' ∧ Gr W W' b v.ownBlock ∧ (v'.ownBlock = v.ownBlock ∨ ∃ g, v'.ownBlock = some g ∧ W.heap.size ≤ g)
set_option maxHeartbeats 1600000 in
theorem note_names (b : Nat) : NotesTo 163 b := by
  intro c i e t W B ns v h hB hl
  obtain ⟨va, vc, rfl⟩ := h.own.form
  have hcell := cell1 h.box
  cases c with
  | false =>
    go_enter Tryz.func163, Tryz.ntmps163
    go_wp2
    go_end0
    exact ⟨rfl, _, by simpa [P28.nt] using h, Gr.refl _ _ _, .inl rfl⟩
  | true =>
    obtain ⟨W1, hW1⟩ : ∃ W1, W.alloc (.cells #[.int .i64 i, .int .i64 e, .string ⟨t.toArray⟩] 183) = W1 := ⟨_, rfl⟩
    have hbW : Below W.heap.size W W1 := by rw [← hW1]; exact (Below.refl _ _).alloc (Nat.le_refl _) _
    have hs1 : W1.heap.size = W.heap.size + 1 := by rw [← hW1]; simp
    have hnw : W1.heap[W.heap.size]? = some (.cells #[.int .i64 i, .int .i64 e, .string ⟨t.toArray⟩] 183) := by rw [← hW1]; exact World.alloc_heap_new _ _
    have h1 := h.below hbW
    obtain ⟨c1, f1⟩ := cell1 h1.box
    have HW1 := hide hW1
    have HH := hide h
    have HH1 := hide h1
    have HB := hide hbW
    have HN := hide hnw
    clear hW1 h h1 hbW hnw
    go_enter Tryz.func163, Tryz.ntmps163
    go_wp2_with (rw [unhide HW1]; refine wpList_appNote (p := (i, e, t)) (by rfl) _ _ (by rfl) (by rfl) (unhide HH1).own W.heap.size 1 (by rfl) (unhide HN) ns.length rfl (by omega) (by omega) ?_; intro g2 cap2 w2 hown2 hgrow hat hlt; have hbx := (World.cell?_of_block (a := ⟨b, 0, none⟩) (hgrow.block b (Array.getElem?_eq_some_iff.1 (unhide HH1).box).1 (fun q => (unhide HH1).ne q.symm))).trans c1; have hfx := (World.frozen?_of_block (a := ⟨b, 0, none⟩) (hgrow.block b (Array.getElem?_eq_some_iff.1 (unhide HH1).box).1 (fun q => (unhide HH1).ne q.symm))).trans f1; have HG := hide hgrow; have HO := hide hown2; clear hgrow hown2)
    go_end0
    have hne := (unhide HH1).ne
    have hgr := unhide HG
    have hb1 := unhide HB
    have hown := unhide HO
    have hbs : g2 ≠ b := fun q => by
      rcases hat with h | h
      · exact hne (by rw [h, q])
      · have := (Array.getElem?_eq_some_iff.1 (unhide HH1).box).1; omega
    have hB9 := (unhide HH).low
    refine ⟨rfl, .slice (some ⟨g2, 0, none⟩) (ns.length + 1) cap2, ⟨?_, ?_, hB9⟩, ⟨hgr.os.trans hb1.os, hgr.tape.trans hb1.tape, hgr.output.trans hb1.output, ?_, fun k hk h1 h2 => ?_⟩, ?_⟩
    · have h5 := (hgr.block b (Array.getElem?_eq_some_iff.1 (unhide HH1).box).1 (fun q => hne q.symm)).trans (unhide HH1).box
      exact box_set h5
    · refine OwnT.keep (W := w2) (by simpa [P28.nt] using hown) (fun g hg => Below.heap_setCell _ _ _ _ (fun q => hbs (by cases hg; exact q)))
    · have := hgr.size
      simp
      omega
    · exact (Below.heap_setCell _ _ _ _ h1).trans ((hgr.block k (by omega) h2).trans (hb1.block k hk))
    · rcases hat with h | h
      · exact .inl h.symm
      · exact .inr ⟨g2, rfl, by omega⟩
set_option maxHeartbeats 1600000 in
theorem note_bounds (b : Nat) : NotesTo 164 b := by
  intro c i e t W B ns v h hB hl
  obtain ⟨va, vc, rfl⟩ := h.own.form
  have hcell := cell1 h.box
  cases c with
  | false =>
    go_enter Tryz.func164, Tryz.ntmps164
    go_wp2
    go_end0
    exact ⟨rfl, _, by simpa [P28.nt] using h, Gr.refl _ _ _, .inl rfl⟩
  | true =>
    obtain ⟨W1, hW1⟩ : ∃ W1, W.alloc (.cells #[.int .i64 i, .int .i64 e, .string ⟨t.toArray⟩] 183) = W1 := ⟨_, rfl⟩
    have hbW : Below W.heap.size W W1 := by rw [← hW1]; exact (Below.refl _ _).alloc (Nat.le_refl _) _
    have hs1 : W1.heap.size = W.heap.size + 1 := by rw [← hW1]; simp
    have hnw : W1.heap[W.heap.size]? = some (.cells #[.int .i64 i, .int .i64 e, .string ⟨t.toArray⟩] 183) := by rw [← hW1]; exact World.alloc_heap_new _ _
    have h1 := h.below hbW
    obtain ⟨c1, f1⟩ := cell1 h1.box
    have HW1 := hide hW1
    have HH := hide h
    have HH1 := hide h1
    have HB := hide hbW
    have HN := hide hnw
    clear hW1 h h1 hbW hnw
    go_enter Tryz.func164, Tryz.ntmps164
    go_wp2_with (rw [unhide HW1]; refine wpList_appNote (p := (i, e, t)) (by rfl) _ _ (by rfl) (by rfl) (unhide HH1).own W.heap.size 1 (by rfl) (unhide HN) ns.length rfl (by omega) (by omega) ?_; intro g2 cap2 w2 hown2 hgrow hat hlt; have hbx := (World.cell?_of_block (a := ⟨b, 0, none⟩) (hgrow.block b (Array.getElem?_eq_some_iff.1 (unhide HH1).box).1 (fun q => (unhide HH1).ne q.symm))).trans c1; have hfx := (World.frozen?_of_block (a := ⟨b, 0, none⟩) (hgrow.block b (Array.getElem?_eq_some_iff.1 (unhide HH1).box).1 (fun q => (unhide HH1).ne q.symm))).trans f1; have HG := hide hgrow; have HO := hide hown2; clear hgrow hown2)
    go_end0
    have hne := (unhide HH1).ne
    have hgr := unhide HG
    have hb1 := unhide HB
    have hown := unhide HO
    have hbs : g2 ≠ b := fun q => by
      rcases hat with h | h
      · exact hne (by rw [h, q])
      · have := (Array.getElem?_eq_some_iff.1 (unhide HH1).box).1; omega
    have hB9 := (unhide HH).low
    refine ⟨rfl, .slice (some ⟨g2, 0, none⟩) (ns.length + 1) cap2, ⟨?_, ?_, hB9⟩, ⟨hgr.os.trans hb1.os, hgr.tape.trans hb1.tape, hgr.output.trans hb1.output, ?_, fun k hk h1 h2 => ?_⟩, ?_⟩
    · have h5 := (hgr.block b (Array.getElem?_eq_some_iff.1 (unhide HH1).box).1 (fun q => hne q.symm)).trans (unhide HH1).box
      exact box_set h5
    · refine OwnT.keep (W := w2) (by simpa [P28.nt] using hown) (fun g hg => Below.heap_setCell _ _ _ _ (fun q => hbs (by cases hg; exact q)))
    · have := hgr.size
      simp
      omega
    · exact (Below.heap_setCell _ _ _ _ h1).trans ((hgr.block k (by omega) h2).trans (hb1.block k hk))
    · rcases hat with h | h
      · exact .inl h.symm
      · exact .inr ⟨g2, rfl, by omega⟩
end Go.Proofs.YtefokfbgpfcbkaaGreat
