/- Lemmas of this claim (a part of its texts, kept as far as the claim reaches them). -/
import Derived.Test.YtefokfbgpfcbkaaGreatM33xZ
import Derived.Test.YtefokfbgpfcbkaaGreatPlain33Z
namespace Go.Proofs.YtefokfbgpfcbkaaGreat
set_option linter.unusedVariables false
set_option linter.unusedSimpArgs false
open Go.RowKit
def encWay_model (k : Int × Bool) : Value := .agg #[.int .i64 k.1, .bool k.2]
theorem eq_way_model (a c : Int) (s t : Bool) (w : World) : (Op.equalIn 10000 130 (.agg #[.int .i64 a, .bool s]) (.agg #[.int .i64 c, .bool t])).run Tryz.prog w = .ok (a == c && s == t) w := by
  have u1 := Tryz.underlying3
  have u2 := Tryz.underlying4
  have hS : Tryz.prog.underlying 130 = some (.struct (Tryz.prog.fieldsOf 130)) := by kernel_rfl
  rw [show (10000 : Nat) = 9999 + 1 from rfl, run_equalIn_agg w 9999 130 _ _ hS (by kernel_rfl)]
  simp only [Program.fieldsOf, Tryz.underlying130]
  go_simp
  by_cases h1 : a = c <;> by_cases h2 : s = t <;> simp [h1, h2]
theorem chk_way_model (e : Bool) (a : Int) (s : Bool) (w : World) : (Instr.checkKey e 10000 130 (.agg #[.int .i64 a, .bool s])).run Tryz.prog w = .ok () w := by
  have u1 := Tryz.underlying3
  have u2 := Tryz.underlying4
  have b1 : ∀ (n : Nat) (W : World) (e : Bool) (a : Int), (Instr.checkKey e (n + 1) 3 (.int .i64 a)).run Tryz.prog W = .ok () W := fun n W e a => by simp [Instr.checkKey, run_underlying u1]
  have b2 : ∀ (n : Nat) (W : World) (e : Bool) (s : Bool), (Instr.checkKey e (n + 1) 4 (.bool s)).run Tryz.prog W = .ok () W := fun n W e s => by simp [Instr.checkKey, run_underlying u2]
  have c1 : ∀ (W : World) (e : Bool) (a : Int), (Instr.checkKey e 9999 3 (.int .i64 a)).run Tryz.prog W = .ok () W := fun W e a => b1 9998 W e a
  have c2 : ∀ (W : World) (e : Bool) (s : Bool), (Instr.checkKey e 9999 4 (.bool s)).run Tryz.prog W = .ok () W := fun W e s => b2 9998 W e s
  clear b1 b2
  unfold Instr.checkKey
  simp only [Sem.run_bind, run_underlying Tryz.underlying130, Result.andThen_ok]
  go_simp
set_option maxRecDepth 100000 in
theorem key_way_model : KeyT Tryz.prog 130 encWay_model := by
  refine .wide (by rw [Tryz.underlying130]) (fun x e W => chk_way_model e _ _ W) (fun x y W => ?_) (fun x => ?_)
  · have h := eq_way_model x.1 y.1 x.2 y.2 W
    have e : Op.equal 130 (encWay_model x) (encWay_model y) = Op.equalIn 10000 130 (encWay_model x) (encWay_model y) := by unfold Op.equal Op.maxDepth; rfl
    rw [e]
    refine Eq.trans h ?_
    congr 1
    obtain ⟨x1, x2⟩ := x
    obtain ⟨y1, y2⟩ := y
    rw [Bool.eq_iff_iff]
    simp
  · have b1 : ∀ (n : Nat) (a : Int), Instr.sameBits (n + 1) (.int .i64 a) (.int .i64 a) = true := fun n a => by simp [Instr.sameBits]
    have b2 : ∀ (n : Nat) (s : Bool), Instr.sameBits (n + 1) (.bool s) (.bool s) = true := fun n s => by simp [Instr.sameBits]
    have h1 := b1 9998 x.1
    have h2 := b2 9998 x.2
    simp only [encWay_model, Instr.sameBits]
    simp
    try exact ⟨h1, h2⟩
abbrev onV (p : Int × Bool) : Value := .agg #[.int .i64 p.1, .bool p.2]
theorem zeroOn (w : World) : (zeroValue 133).run Tryz.prog w = .ok (onV (0, false)) w := by kernel_rfl
def Ways (W : World) (bm : Nat) (f : Nat → Bool → Int × Bool) : Prop := ∃ L, MapG encWay_model W bm L ∧ ∀ (i : Nat) u, (lk L ((i : Int), u)).getD (onV (0, false)) = onV (f i u)
theorem Ways.keep {W W' : World} {bm : Nat} {f : Nat → Bool → Int × Bool} (h : Ways W bm f) (hb : W'.heap[bm]? = W.heap[bm]?) : Ways W' bm f := by
  obtain ⟨L, h1, h2⟩ := h
  exact ⟨L, h1.keep hb, h2⟩
theorem Ways.lt {W : World} {bm : Nat} {f : Nat → Bool → Int × Bool} (h : Ways W bm f) : bm < W.heap.size := by
  obtain ⟨L, h1, h2⟩ := h
  exact h1.lt
theorem Ways.look {W : World} {bm : Nat} {f : Nat → Bool → Int × Bool} (h : Ways W bm f) (i : Nat) (u : Bool) : (Instr.lookup 121 (.map (some bm)) (.agg #[.int .i64 (i : Int), .bool u]) false).run Tryz.prog W = .ok (onV (f i u)) W := by
  obtain ⟨L, h1, h2⟩ := h
  have h3 := h1.look (mt := 121) key_way_model Tryz.underlying121 (zeroOn W) ((i : Int), u) false
  have e : (if false = true then Value.tuple #[(lk L ((i : Int), u)).getD (onV (0, false)), .bool (lk L ((i : Int), u)).isSome] else (lk L ((i : Int), u)).getD (onV (0, false))) = onV (f i u) := by
    rw [if_neg (by simp)]; exact h2 i u
  rw [e] at h3
  exact h3
theorem Ways.set {W' : World} {bm : Nat} {f : Nat → Bool → Int × Bool} {L : List ((Int × Bool) × Value)} (h2 : ∀ (i : Nat) u, (lk L ((i : Int), u)).getD (onV (0, false)) = onV (f i u)) (i : Nat) (u : Bool) (v : Int × Bool) (hm : MapG encWay_model W' bm (putL L ((i : Int), u) (onV v))) : Ways W' bm (P33.upd f i u v) := by
  refine ⟨_, hm, fun j b => ?_⟩
  rw [lk_put]
  unfold P33.upd
  by_cases h : j = i ∧ b = u
  · rw [if_pos (by rw [h.1, h.2]), if_pos h]; rfl
  · rw [if_neg (by simp only [Prod.mk.injEq, not_and]; intro e1 e2; exact h ⟨by omega, e2⟩), if_neg h]
    exact h2 j b
def Mb (b bm : Nat) (dn un : Value) (g : Nat) : Prop := g = b ∨ g = bm ∨ dn.ownBlock = some g ∨ un.ownBlock = some g
structure KW (M : Nat → Prop) (w W : World) : Prop where
  os : W.os = w.os
  tape : W.tape = w.tape
  output : W.output = w.output
  size : w.heap.size ≤ W.heap.size
  same : ∀ g, ¬ M g → g < w.heap.size → W.heap[g]? = w.heap[g]?
namespace KW
variable {M : Nat → Prop} {w A B : World} {K : Nat}
theorem refl (M : Nat → Prop) (w : World) : KW M w w := ⟨rfl, rfl, rfl, Nat.le_refl _, fun _ _ _ => rfl⟩
theorem of (h : Below K w A) (hK : w.heap.size ≤ K) : KW M w A := ⟨h.os, h.tape, h.output, h.size, fun g _ hl => h.block g (Nat.lt_of_lt_of_le hl hK)⟩
theorem next (h : KW M w A) (k : Below K A B) (hK : w.heap.size ≤ K) : KW M w B :=
  ⟨k.os.trans h.os, k.tape.trans h.tape, k.output.trans h.output, Nat.le_trans h.size k.size, fun g hg hl => (k.block g (Nat.lt_of_lt_of_le hl hK)).trans (h.same g hg hl)⟩
theorem grown {row : Option Nat} (h : KW M w A) (hg : A.grownBy B row) (hr : ∀ k, row = some k → M k ∨ w.heap.size ≤ k) : KW M w B :=
  ⟨hg.os.trans h.os, hg.tape.trans h.tape, hg.output.trans h.output, Nat.le_trans h.size hg.size, fun g hgm hl => (hg.block g (Nat.lt_of_lt_of_le hl h.size) (fun e => (hr g e.symm).elim hgm (fun q => by omega))).trans (h.same g hgm hl)⟩
theorem setCell {b o : Nat} (h : KW M w A) (hb : M b ∨ w.heap.size ≤ b) (v : Value) : KW M w (A.setCell ⟨b, o, none⟩ v) :=
  ⟨h.os, h.tape, h.output, by simpa using h.size, fun g hgm hl => (Below.heap_setCell _ _ _ _ (by rintro rfl; exact hb.elim hgm (fun q => by omega))).trans (h.same g hgm hl)⟩
theorem drewN (h : KW M w A) (n : Nat) : KW M w (A.drewN n) := ⟨h.os, h.tape, h.output, h.size, h.same⟩
theorem drew (h : KW M w A) : KW M w A.drew := ⟨h.os, h.tape, h.output, h.size, h.same⟩
theorem alloc (h : KW M w A) (o : Obj) : KW M w (A.alloc o) := h.grown (World.grownBy_alloc A o none) (fun k e => by cases e)
end KW
structure Md (W : World) (b bm rb G C : Nat) (vs : Nat → Value) (d : PDef) (dn un : Value) (s : P33.S) : Prop where
  bx : W.heap[b]? = some (mdC d (.slice (some ⟨rb, 0, none⟩) d.steps.length d.steps.length) bm dn un s.failed s.status)
  mp : Ways W bm s.w
  odn : OwnN W C dn s.done
  oun : OwnN W C un s.undone
  apart : ∀ g, dn.ownBlock = some g → un.ownBlock ≠ some g
  df : d.In W
  dlt : ∀ g, d.blk g → g ≠ b ∧ g ≠ bm ∧ g < C
  gr : Grid W 0 rb vs (P28.refs d.bare)
  glt : ∀ g, gridB rb vs d.steps.length g → g ≠ b ∧ g ≠ bm ∧ g < C
  gb : G ≤ b
  gm : G ≤ bm
  bne : b ≠ bm
  bc : b < C
  mc : bm < C
  cw : C ≤ W.heap.size
  tr : ∀ i u, 0 ≤ (s.w i u).1 ∧ (s.w i u).1 ≤ 10
  nd : s.done.Nodup
  dl : ∀ i ∈ s.done, i < d.steps.length
  ul : s.undone.length ≤ s.done.length
  ne : d.steps ≠ []
  nle : d.steps.length ≤ 100000
namespace Md
variable {W W' : World} {b bm rb G C : Nat} {vs : Nat → Value} {d : PDef} {dn un : Value} {s : P33.S}
theorem below (h : Md W b bm rb G C vs d dn un s) (hb : Below W.heap.size W W') : Md W' b bm rb G C vs d dn un s where
  bx := (hb.block b (Nat.lt_of_lt_of_le h.bc h.cw)).trans h.bx
  mp := h.mp.keep (hb.block bm (Nat.lt_of_lt_of_le h.mc h.cw))
  odn := h.odn.keep (fun g hg => hb.block g (h.odn.lt hg).2)
  oun := h.oun.keep (fun g hg => hb.block g (h.oun.lt hg).2)
  apart := h.apart
  df := h.df.below hb
  dlt := h.dlt
  gr := h.gr.below hb
  glt := h.glt
  gb := h.gb
  gm := h.gm
  bne := h.bne
  bc := h.bc
  mc := h.mc
  cw := Nat.le_trans h.cw hb.size
  tr := h.tr
  nd := h.nd
  dl := h.dl
  ul := h.ul
  ne := h.ne
  nle := h.nle
theorem blen (d : PDef) : d.bare.steps.length = d.steps.length := by simp [PDef.bare]
theorem dlen (h : Md W b bm rb G C vs d dn un s) : s.done.length ≤ d.steps.length := P32.len_le _ s.done h.nd h.dl
theorem ulen (h : Md W b bm rb G C vs d dn un s) : s.undone.length ≤ d.steps.length := Nat.le_trans h.ul h.dlen
theorem setWay {f : Nat → Bool → Int × Bool} (h : Md W b bm rb G C vs d dn un s) (hm : Ways W' bm f) (hg : W.grownBy W' (some bm)) (ht : ∀ i u, 0 ≤ (f i u).1 ∧ (f i u).1 ≤ 10) : Md W' b bm rb G C vs d dn un { s with w := f } where
  bx := (hg.block b (Nat.lt_of_lt_of_le h.bc h.cw) (fun e => h.bne (by cases e; rfl))).trans h.bx
  mp := hm
  odn := h.odn.keep (fun g hg2 => hg.block g (h.odn.lt hg2).2 (fun e => by have := (h.odn.lt hg2).1; have := h.mc; cases e; omega))
  oun := h.oun.keep (fun g hg2 => hg.block g (h.oun.lt hg2).2 (fun e => by have := (h.oun.lt hg2).1; have := h.mc; cases e; omega))
  apart := h.apart
  df := h.df.keep (fun g hg2 => hg.block g (h.df.lt hg2) (fun e => by have := h.dlt g hg2; have := h.gm; cases e; omega))
  dlt := h.dlt
  gr := h.gr.keep (fun g hg2 => hg.block g (h.gr.lt hg2).2 (fun e => by have := h.glt g (by rw [P28.refs_len, blen] at hg2; exact hg2); have := h.gm; cases e; omega))
  glt := h.glt
  gb := h.gb
  gm := h.gm
  bne := h.bne
  bc := h.bc
  mc := h.mc
  cw := Nat.le_trans h.cw hg.size
  tr := ht
  nd := h.nd
  dl := h.dl
  ul := h.ul
  ne := h.ne
  nle := h.nle
theorem setBox {s' : P33.S} {cs : Value} (h : Md W b bm rb G C vs d dn un s) (k : Nat) (hx : (W.setCell ⟨b, k, none⟩ cs).heap[b]? = some (mdC d (.slice (some ⟨rb, 0, none⟩) d.steps.length d.steps.length) bm dn un s'.failed s'.status)) (h1 : s'.w = s.w) (h2 : s'.done = s.done) (h3 : s'.undone = s.undone) : Md (W.setCell ⟨b, k, none⟩ cs) b bm rb G C vs d dn un s' := by
  have hne : ∀ g, g ≠ b → (W.setCell ⟨b, k, none⟩ cs).heap[g]? = W.heap[g]? := fun g hg => Below.heap_setCell _ _ _ _ hg
  have hC := h.bc
  have hG := h.gb
  refine ⟨hx, by rw [h1]; exact h.mp.keep (hne _ (fun e => h.bne e.symm)), by rw [h2]; exact h.odn.keep (fun g hg2 => hne g (by have := (h.odn.lt hg2).1; omega)), by rw [h3]; exact h.oun.keep (fun g hg2 => hne g (by have := (h.oun.lt hg2).1; omega)), h.apart, h.df.keep (fun g hg2 => hne g (by have := h.dlt g hg2; omega)), h.dlt, h.gr.keep (fun g hg2 => hne g (by have := h.glt g (by rw [P28.refs_len, blen] at hg2; exact hg2); omega)), h.glt, h.gb, h.gm, h.bne, h.bc, h.mc, by simpa using h.cw, by rw [h1]; exact h.tr, by rw [h2]; exact h.nd, by rw [h2]; exact h.dl, by rw [h2, h3]; exact h.ul, h.ne, h.nle⟩
theorem belowG (h : Md W b bm rb G C vs d dn un s) (k : KW (Mb b bm dn un) W W') : Below G W W' := by
  have h1 := h.gb
  have h2 := h.gm
  have h3 := h.bc
  have h4 := h.cw
  refine ⟨k.os, k.tape, k.output, k.size, fun g hg => k.same g ?_ (by omega)⟩
  rintro (rfl | rfl | e | e)
  · omega
  · omega
  · have := (h.odn.lt e).1; omega
  · have := (h.oun.lt e).1; omega
theorem steps (h : Md W b bm rb G C vs d dn un s) : ∃ g o, d.sa = some ⟨g, o, none⟩ ∧ g < C ∧ ∀ i x, d.steps[i]? = some x → stEl.At W g (o + i * 13) x := by
  obtain ⟨x, r, e⟩ : ∃ x r, d.steps = x :: r := by cases hd : d.steps with | nil => exact absurd hd h.ne | cons x r => exact ⟨x, r, rfl⟩
  obtain ⟨⟨g, o, e1, _⟩, _⟩ := h.df.steps 0 x (by rw [e]; rfl)
  refine ⟨g, o, e1, (h.dlt g (.inl ⟨h.ne, ⟨o, e1⟩⟩)).2.2, fun i y hy => ?_⟩
  obtain ⟨⟨g2, o2, e2, h2⟩, _⟩ := h.df.steps i y hy
  rw [e1] at e2
  injection e2 with e2
  injection e2 with e3 e4
  subst e3
  subst e4
  exact h2
theorem undo_eq (d : PDef) {i : Nat} {x : PSt} (h : d.steps[i]? = some x) : P33.undoOf d.bare i = x.undo := by
  unfold P33.undoOf P28.undos
  simp [PDef.bare, PSt.bare, List.getD_eq_getElem?_getD, h]
theorem tries_eq (d : PDef) {i : Nat} {x : PSt} (h : d.steps[i]? = some x) : P33.triesOf d.bare i = ⟨x.most, x.first, x.factor⟩ := by
  unfold P33.triesOf
  simp [PDef.bare, PSt.bare, List.getD_eq_getElem?_getD, h]
theorem undos (h : Md W b bm rb G C vs d dn un s) : ∃ g o, d.sa = some ⟨g, o, none⟩ ∧ ∀ i, i < d.steps.length → W.cell? ⟨g, o + i * 13 + 2, none⟩ = some (.string ⟨(P33.undoOf d.bare i).toArray⟩) := by
  obtain ⟨g, o, e, _, hx⟩ := h.steps
  refine ⟨g, o, e, fun i hi => ?_⟩
  have hg := List.getElem?_eq_getElem hi
  rw [undo_eq d hg]
  exact (hx i _ hg) 2 _ rfl
theorem cells (h : Md W b bm rb G C vs d dn un s) : (W.cell? ⟨b, 2, none⟩ = some (.slice d.sa d.steps.length d.sc) ∧ W.frozen? ⟨b, 2, none⟩ = false) ∧ (W.cell? ⟨b, 3, none⟩ = some (.slice (some ⟨rb, 0, none⟩) d.steps.length d.steps.length) ∧ W.frozen? ⟨b, 3, none⟩ = false) ∧ (W.cell? ⟨b, 4, none⟩ = some (.map (some bm)) ∧ W.frozen? ⟨b, 4, none⟩ = false) ∧
    (W.cell? ⟨b, 5, none⟩ = some dn ∧ W.frozen? ⟨b, 5, none⟩ = false) ∧ (W.cell? ⟨b, 6, none⟩ = some un ∧ W.frozen? ⟨b, 6, none⟩ = false) ∧ (W.cell? ⟨b, 7, none⟩ = some (.bool s.failed) ∧ W.frozen? ⟨b, 7, none⟩ = false) ∧ (W.cell? ⟨b, 8, none⟩ = some (.int .u8 s.status) ∧ W.frozen? ⟨b, 8, none⟩ = false) := by
  have hx := h.bx
  have hf : ∀ k, W.frozen? ⟨b, k, none⟩ = false := fun k => by simp only [World.frozen?, hx]; simp
  refine ⟨⟨md_cell hx rfl, hf _⟩, ⟨md_cell hx rfl, hf _⟩, ⟨md_cell hx rfl, hf _⟩, ⟨md_cell hx rfl, hf _⟩, ⟨md_cell hx rfl, hf _⟩, ⟨md_cell hx rfl, hf _⟩, ⟨md_cell hx rfl, hf _⟩⟩
theorem turn (h : Md W b bm rb G C vs d dn un s) : Calls Tryz.prog 24 #[.pointer (some ⟨b, 0, none⟩)] W fun e w' => e = .returned (.tuple #[.int .i64 ((P33.turn d.bare s).getD 0 : Nat), .bool (P33.turn d.bare s).isSome]) ∧ Below W.heap.size W w' := by
  obtain ⟨⟨c2, _⟩, _, _, ⟨c5, _⟩, ⟨c6, _⟩, _⟩ := h.cells
  obtain ⟨g, o, e, hu⟩ := h.undos
  obtain ⟨da, dc, e1, _, _, hd⟩ := h.odn.slice
  obtain ⟨ua, uc, e2, _, _, hu2⟩ := h.oun.slice
  rw [e] at c2
  rw [e1] at c5
  rw [e2] at c6
  have := h.dlen
  have := h.ulen
  have := h.nle
  exact Turn_any d.bare s b g o d.steps.length d.sc _ dc _ uc da ua W c2 c5 c6 rfl rfl hd hu2 h.dl (by omega) (by omega) hu
end Md
set_option maxRecDepth 100000 in
set_option maxHeartbeats 4000000 in
theorem order_any {b bm rb G C : Nat} {vs : Nat → Value} {d : PDef} {dn un : Value} {s : P33.S} (i : Nat) (u : Bool) (w : World) (h : Md w b bm rb G C vs d dn un s) (hi : i < d.steps.length) :
    Calls Tryz.prog 73 #[.pointer (some ⟨b, 0, none⟩), .agg #[.int .i64 (i : Int), .bool u]] w fun e w' => e = .returned (.int .i64 (P33.orderE d.bare s i u)) ∧ Below w.heap.size w w' := by
  obtain ⟨H, hH⟩ : ∃ H, w.heap.size = H := ⟨_, rfl⟩
  rw [hH]
  obtain ⟨W1, hW1, hb1, g0, hs1⟩ := new1 w (.cells #[.int .i64 (i : Int), .bool u] 130) H hH
  have h1 := h.below (by rw [hH]; exact hb1)
  have ht := h1.turn
  rw [hs1] at ht
  have q := two_cells g0
  obtain ⟨⟨q0, _⟩, ⟨q1, _⟩⟩ := q
  cases u with
  | true =>
    unfold P33.orderE
    simp only [if_true]
    obtain ⟨T, hT⟩ : ∃ T, P33.turn d.bare s = T := ⟨_, rfl⟩
    rw [hT] at ht ⊢
    have HT := hide ht
    have HW1 := hide hW1
    have HB1 := hide hb1
    have Q0 := hide q0
    clear ht hW1 hb1 g0 hT h h1 hi
    cases T with
    | none =>
      go_enter Tryz.func73, Tryz.ntmps73
      go_upto_region 1 with fail
      try rw [hH]
      rw [unhide HW1]
      go_wp2_with (go_at_call 24; with_reducible refine (unhide HT).mono ?_; rintro e w2 ⟨rfl, b2⟩)
      go_ret
      exact ⟨rfl, (unhide HB1).trans (b2.mono (by omega))⟩
    | some j =>
      by_cases hj : j = i
      · subst hj
        simp only [if_true]
        go_enter Tryz.func73, Tryz.ntmps73
        go_upto_region 1 with fail
        try rw [hH]
        rw [unhide HW1]
        go_wp2_with (go_at_call 24; with_reducible refine (unhide HT).mono ?_; rintro e w2 ⟨rfl, b2⟩; have r0 := (World.cell?_of_block (a := ⟨H, 0, none⟩) (b2.block H (by omega))).trans (unhide Q0))
        go_ret
        exact ⟨rfl, (unhide HB1).trans (b2.mono (by omega))⟩
      · simp only [if_neg hj]
        have hji : ((j : Int) != (i : Int)) = true := by simp; omega
        go_enter Tryz.func73, Tryz.ntmps73
        go_upto_region 1 with fail
        try rw [hH]
        rw [unhide HW1]
        go_wp2_with (go_at_call 24; with_reducible refine (unhide HT).mono ?_; rintro e w2 ⟨rfl, b2⟩; have r0 := (World.cell?_of_block (a := ⟨H, 0, none⟩) (b2.block H (by omega))).trans (unhide Q0))
        go_ret
        exact ⟨rfl, (unhide HB1).trans (b2.mono (by omega))⟩
  | false =>
    unfold P33.orderE
    simp only [Bool.false_eq_true, if_false]
    obtain ⟨_, ⟨c3, _⟩, _, ⟨c5, _⟩, _, _, ⟨c8, _⟩⟩ := h1.cells
    by_cases hs : s.status = 1
    · rw [if_neg (by simp [hs])]
      rw [hs] at c8
      have hlen : (P28.refs d.bare).length = d.steps.length := by rw [P28.refs_len, Md.blen]
      obtain ⟨l, hl⟩ : ∃ l, (P28.refs d.bare)[i]? = some l := ⟨_, List.getElem?_eq_getElem (by rw [hlen]; exact hi)⟩
      have hgd : (P28.refs d.bare).getD i [] = l := by rw [List.getD_eq_getElem?_getD, hl]; rfl
      rw [hgd]
      obtain ⟨RES, hRES⟩ : ∃ RES, (if l.any (fun j => !decide (j ∈ s.done)) = true then (8 : Int) else if i ∈ s.done then 8 else 0) = RES := ⟨_, rfl⟩
      rw [hRES]
      have hN9 := h.nle
      have hdl := h.dlen
      have hnle := h.nle
      obtain ⟨da, dc, hdv, _, _, _⟩ := h1.odn.slice
      obtain ⟨ra, rc, hvk, hrl, hrc, hrin⟩ := (h1.gr.own i l hl).slice
      have hrow := h1.gr.row.cell (i := i) (by rw [hlen]; exact hi)
      rw [hvk] at hrow
      have hiN : (i : Int) < (d.steps.length : Int) := by omega
      obtain ⟨N, hN⟩ : ∃ N, d.steps.length = N := ⟨_, rfl⟩
      obtain ⟨A, hA⟩ : ∃ A, s.done.length = A := ⟨_, rfl⟩
      obtain ⟨L, hL⟩ : ∃ L, l.length = L := ⟨_, rfl⟩
      have hL9 : L ≤ maxLen := by omega
      unfold maxLen at hL9
      rw [hdv, hA] at c5
      rw [hL] at hrow
      rw [hN] at c3 hiN
      have hAll : ∀ V, Below (H + 1) W1 V → (V.cell? ⟨b, 5, none⟩ = some (.slice da A dc)) ∧ (∀ x : Nat, Calls Tryz.prog 77 #[.slice da A dc, .int .i64 (x : Int)] V fun e w' => e = .returned (.bool (decide (x ∈ s.done))) ∧ w' = V) ∧ InN V ra l ∧ V.cell? ⟨H, 0, none⟩ = some (.int .i64 (i : Int)) := fun V hV => by
        have h2 := h1.below (by rw [hs1]; exact hV)
        obtain ⟨da', dc', e1, _, _, e2⟩ := h2.odn.slice
        rw [hdv] at e1
        injection e1 with e3 e4 e5
        subst e3
        subst e5
        obtain ⟨ra', rc', e1, _, _, e6⟩ := (h2.gr.own i l hl).slice
        rw [hvk] at e1
        injection e1 with e3 e4 e5
        subst e3
        have := h2.cells.2.2.2.1.1
        rw [hdv, hA] at this
        refine ⟨this, fun x => ?_, e6, (World.cell?_of_block (a := ⟨H, 0, none⟩) (hV.block H (by omega))).trans q0⟩
        have := containsNat_any da dc s.done x V e2 (by unfold maxLen; omega)
        rw [hA] at this
        exact this
      have HAll := hide hAll
      have HW1 := hide hW1
      have HB1 := hide hb1
      have HRES := hide hRES
      have HL := hide hL
      clear ht hW1 hb1 g0 h h1 hi hAll hRES hgd hl hlen hdl hnle hdv hvk hrl hrc hrin hN hA hL hN9
      go_enter Tryz.func73, Tryz.ntmps73
      go_upto_region 1 with fail
      try rw [hH]
      rw [unhide HW1]
      go_upto_region 8 with fail
      go_quiet (fail)
      have hb2 : Below (H + 1) W1 (W1.drewN nq) := below_drewN (Below.refl _ _)
      obtain ⟨W2, hW2⟩ : ∃ W2, W1.drewN nq = W2 := ⟨_, rfl⟩
      rw [hW2] at hb2 ⊢
      have HB2 := hide hb2
      clear hb2 hW2 c3 c5 c8 hrow q0
      go_wp2
      go_loopg [38] L (fun g s38 wx => ∃ (j : Nat), j + g = L ∧ s38 = .int .i64 j ∧ Hid (Below (H + 1) W1 wx) ∧ Hid (∀ y ∈ l.take j, y ∈ s.done))
      case atStart => exact ⟨0, by omega, by go_num, HB2, hide (by simp)⟩
      case round =>
        obtain ⟨j, hjg, rfl, HBX, HD⟩ := hrel
        obtain ⟨k5, hcn, hin, kH⟩ := unhide HAll wr (unhide HBX)
        cases gk with
        | zero =>
          have e1 : (L : Int) ≤ (j : Int) := by omega
          have j1 : decide ((j : Int) < (L : Int)) = false := by simp; omega
          have hall := unhide HD
          rw [List.take_of_length_le (by rw [unhide HL]; omega)] at hall
          have hany : l.any (fun j => !decide (j ∈ s.done)) = false := by
            rw [List.any_eq_false]
            intro y hy
            simp [hall y hy]
          have hres := unhide HRES
          rw [hany] at hres
          simp only [Bool.false_eq_true, if_false] at hres
          have hc := fun q : Nat => (unhide HAll (wr.drewN q) ((unhide HBX).trans (below_drewN (Below.refl _ _)))).2.1 i
          obtain ⟨bb, hbb⟩ : ∃ bb, decide (i ∈ s.done) = bb := ⟨_, rfl⟩
          rw [hbb] at hc
          have HC := hide hc
          have HR := hide hres
          clear hall hany hres hcn hin hc
          go_upto_region 14 with fail
          go_quiet (exact Calls.quiet_of_same (unhide HC _))
          cases bb with
          | true =>
            go_wp2
            go_ret
            refine ⟨ret_int ?_, ?_⟩
            · rw [← unhide HR, if_pos (of_decide_eq_true hbb)]
            · exact ((unhide HB1).trans ((unhide HBX).mono (by omega))).trans (below_drewN (Below.refl _ _))
          | false =>
            go_wp2
            go_ret
            refine ⟨ret_int ?_, ?_⟩
            · rw [← unhide HR, if_neg (of_decide_eq_false hbb)]
            · exact ((unhide HB1).trans ((unhide HBX).mono (by omega))).trans (below_drewN (Below.refl _ _))
        | succ g' =>
          have hlt : (j : Int) < (L : Int) := by omega
          have hkj : IntKind.i64.wrap ((j : Int) + 1) = (j : Int) + 1 := IntWalk.i64_in _ (by omega)
          obtain ⟨x, hx⟩ := nth_of (unhide HL) (show j < L by omega)
          obtain ⟨rb2, ro2, rfl, cj⟩ := hin j x hx
          unfold iv at cj
          have hc := hcn x
          obtain ⟨bb, hbb⟩ : ∃ bb, decide (x ∈ s.done) = bb := ⟨_, rfl⟩
          rw [hbb] at hc
          have HC := hide hc
          have HX := hide hx
          clear hcn hin hc hx kH
          cases bb with
          | true =>
            go_wp2_with (go_at_call 77; refine (unhide HC).mono ?_; rintro e w' ⟨rfl, hw⟩; have hw := hw.symm; subst hw)
            go_roundg g'
            case measure => omega
            case rel =>
              refine ⟨j + 1, by omega, by go_num, HBX, hide ?_⟩
              intro y hy
              rw [List.take_add_one, unhide HX] at hy
              rcases List.mem_append.1 hy with hy | hy
              · exact unhide HD y hy
              · simp at hy; subst hy; exact of_decide_eq_true hbb
          | false =>
            go_wp2_with (go_at_call 77; refine (unhide HC).mono ?_; rintro e w' ⟨rfl, hw⟩; have hw := hw.symm; subst hw)
            go_ret
            refine ⟨ret_int ?_, (unhide HB1).trans ((unhide HBX).mono (by omega))⟩
            rw [← unhide HRES, if_pos]
            rw [List.any_eq_true]
            exact ⟨x, List.mem_of_getElem? (unhide HX), by simp [of_decide_eq_false hbb]⟩
    · rw [if_pos hs]
      have hs2 : ((s.status : Int) != 1) = true := by simp; omega
      have HW1 := hide hW1
      have HB1 := hide hb1
      clear ht hW1 hb1 g0 h h1 hi c3 c5
      go_enter Tryz.func73, Tryz.ntmps73
      go_upto_region 1 with fail
      try rw [hH]
      rw [unhide HW1]
      go_wp2
      go_ret
      exact ⟨rfl, unhide HB1⟩
end Go.Proofs.YtefokfbgpfcbkaaGreat
namespace Go.Proofs.YtefokfbgpfcbkaaGreat
set_option linter.unusedVariables false
set_option linter.unusedSimpArgs false
open Go.RowKit
theorem Md.moving {W : World} {b bm rb G C : Nat} {vs : Nat → Value} {d : PDef} {dn un : Value} {s : P33.S} (h : Md W b bm rb G C vs d dn un s) : Calls Tryz.prog 71 #[.pointer (some ⟨b, 0, none⟩)] W fun e w' => e = .returned (.bool (P33.moving s)) ∧ w' = W := by
  refine (moving_any b s.status W h.cells.2.2.2.2.2.2.1).mono ?_
  rintro e w' ⟨rfl, rfl⟩
  refine ⟨ret_bool ?_, rfl⟩
  unfold P33.moving
  rw [Bool.eq_iff_iff]
  simp
  omega
theorem Md.has {W : World} {b bm rb G C : Nat} {vs : Nat → Value} {d : PDef} {dn un : Value} {s : P33.S} (h : Md W b bm rb G C vs d dn un s) (x : Int) : Calls Tryz.prog 72 #[.pointer (some ⟨b, 0, none⟩), .int .i64 x] W fun e w' => e = .returned (.bool (P33.has d.bare x)) ∧ w' = W := by
  have := mhas_any b d.steps.length d.sc d.sa x W h.cells.1.1
  unfold P33.has
  rw [Md.blen]
  exact this
theorem Md.last {W : World} {b bm rb G C : Nat} {vs : Nat → Value} {d : PDef} {dn un : Value} {s : P33.S} (h : Md W b bm rb G C vs d dn un s) {i : Nat} (hi : i < d.steps.length) (t : Int) : Calls Tryz.prog 74 #[.pointer (some ⟨b, 0, none⟩), .int .i64 (i : Int), .int .i64 t] W fun e w' => e = .returned (.bool (!P33.more (P33.triesOf d.bare i) t)) ∧ Below W.heap.size W w' := by
  obtain ⟨g, o, e, _, hx⟩ := h.steps
  have hg := List.getElem?_eq_getElem hi
  have hat := hx i _ hg
  have c2 := h.cells.1.1
  rw [e] at c2
  rw [Md.tries_eq d hg]
  exact last_any b g o d.steps.length d.sc i _ _ _ t W c2 (by omega) (hat 4 _ rfl) (hat 5 _ rfl) (hat 6 _ rfl)
theorem look_drew {W : World} {bm : Nat} {f : Nat → Bool → Int × Bool} (h : Ways W bm f) (i : Nat) (u : Bool) (q : Nat) : (Instr.lookup 121 (.map (some bm)) (.agg #[.int .i64 (i : Int), .bool u]) false).run Tryz.prog (W.drewN q) = .ok (.agg #[.int .i64 (f i u).1, .bool (f i u).2]) (W.drewN q) := (h.keep (W' := W.drewN q) rfl).look i u
theorem cell4 {W : World} {g : Nat} {T : TypeId} {a b c e : Value} (h : W.heap[g]? = some (.cells #[a, b, c, e] T)) : (W.cell? ⟨g, 0, none⟩ = some a ∧ W.frozen? ⟨g, 0, none⟩ = false) ∧ (W.cell? ⟨g, 1, none⟩ = some b ∧ W.frozen? ⟨g, 1, none⟩ = false) ∧ (W.cell? ⟨g, 2, none⟩ = some c ∧ W.frozen? ⟨g, 2, none⟩ = false) ∧ (W.cell? ⟨g, 3, none⟩ = some e ∧ W.frozen? ⟨g, 3, none⟩ = false) := by
  simp [World.cell?, World.frozen?, h]
theorem md_set5 {W : World} {b bm : Nat} {d : PDef} {rf dn un : Value} {fl : Bool} {st : Int} (h : W.heap[b]? = some (mdC d rf bm dn un fl st)) (x : Value) : (W.setCell ⟨b, 5, none⟩ x).heap[b]? = some (mdC d rf bm x un fl st) := by
  simp [World.setCell, Array.getElem?_modify, h]
theorem md_set6 {W : World} {b bm : Nat} {d : PDef} {rf dn un : Value} {fl : Bool} {st : Int} (h : W.heap[b]? = some (mdC d rf bm dn un fl st)) (x : Value) : (W.setCell ⟨b, 6, none⟩ x).heap[b]? = some (mdC d rf bm dn x fl st) := by
  simp [World.setCell, Array.getElem?_modify, h]
theorem md_set7 {W : World} {b bm : Nat} {d : PDef} {rf dn un : Value} {fl : Bool} {st : Int} (h : W.heap[b]? = some (mdC d rf bm dn un fl st)) (x : Bool) : (W.setCell ⟨b, 7, none⟩ (.bool x)).heap[b]? = some (mdC d rf bm dn un x st) := by
  simp [World.setCell, Array.getElem?_modify, h]
theorem md_set8 {W : World} {b bm : Nat} {d : PDef} {rf dn un : Value} {fl : Bool} {st : Int} (h : W.heap[b]? = some (mdC d rf bm dn un fl st)) (x : Int) : (W.setCell ⟨b, 8, none⟩ (.int .u8 x)).heap[b]? = some (mdC d rf bm dn un fl x) := by
  simp [World.setCell, Array.getElem?_modify, h]
theorem run_field_on (w : World) (a b : Value) : (Instr.field 133 (.agg #[a, b]) 0).run Tryz.prog w = .ok a w := by kernel_rfl
attribute [local go_sem] run_field_on
theorem shut_zero (f : Nat → Bool → Int × Bool) : P33.shut 0 f = f := by funext j b; simp [P33.shut]
theorem shut_next (f : Nat → Bool → Int × Bool) (k : Nat) : P33.upd (P33.shut k f) k false ((f k false).1, false) = P33.shut (k + 1) f := by
  funext j b
  unfold P33.upd P33.shut
  by_cases h : j = k ∧ b = false
  · obtain ⟨rfl, rfl⟩ := h
    simp
  · rw [if_neg h]
    by_cases h2 : b = false ∧ j < k
    · rw [if_pos h2, if_pos ⟨h2.1, by omega⟩]
    · rw [if_neg h2]
      by_cases h3 : b = false ∧ j < k + 1
      · have e : j = k := by
          have : ¬ j < k := fun q => h2 ⟨h3.1, q⟩
          omega
        exact absurd ⟨e, h3.1⟩ h
      · rw [if_neg h3]
theorem shut_self (f : Nat → Bool → Int × Bool) (k : Nat) : P33.shut k f k false = f k false := by
  unfold P33.shut
  rw [if_neg (by omega)]
theorem upd_tr {f : Nat → Bool → Int × Bool} {i : Nat} {u : Bool} {v : Int × Bool} (h : ∀ i u, 0 ≤ (f i u).1 ∧ (f i u).1 ≤ 10) (hv : 0 ≤ v.1 ∧ v.1 ≤ 10) : ∀ j b, 0 ≤ (P33.upd f i u v j b).1 ∧ (P33.upd f i u v j b).1 ≤ 10 := by
  intro j b
  unfold P33.upd
  split
  · exact hv
  · exact h j b
set_option maxRecDepth 100000 in
set_option maxHeartbeats 8000000 in
theorem Asks_any {b bm rb G C : Nat} {vs : Nat → Value} {d : PDef} {dn un : Value} {s : P33.S} (o : P33.Order) (til : Int) (w : World) (h : Md w b bm rb G C vs d dn un s) :
    Calls Tryz.prog 16 #[.pointer (some ⟨b, 0, none⟩), .agg #[.int .i64 o.step, .int .i64 o.attempt, .bool o.undo, .int .i64 til]] w fun e w' =>
      e = .returned (.int .i64 (P33.asks d.bare s o).1) ∧ Md w' b bm rb G C vs d dn un (P33.asks d.bare s o).2 ∧ KW (Mb b bm dn un) w w' := by
  obtain ⟨H, hH⟩ : ∃ H, w.heap.size = H := ⟨_, rfl⟩
  have hGH : G ≤ H := by have := h.gb; have := h.bc; have := h.cw; omega
  have hCH : C ≤ H := by have := h.cw; omega
  obtain ⟨st, att, u⟩ := o
  obtain ⟨W1, hW1, hb1, g0, hs1⟩ := new1 w (.cells #[.int .i64 st, .int .i64 att, .bool u, .int .i64 til] 35) H hH
  have h1 := h.below (by rw [hH]; exact hb1)
  have hmv := h1.moving
  have hhs := h1.has st
  obtain ⟨⟨q0, p0⟩, ⟨q1, p1⟩, ⟨q2, p2⟩, _⟩ := cell4 g0
  simp only
  have HW1 := hide hW1
  have HB1 := hide hb1
  have H1 := hide h1
  have G0 := hide g0
  by_cases hm : P33.moving s = false
  · have hA : P33.asks d.bare s ⟨st, att, u⟩ = (13, s) := by unfold P33.asks; rw [if_pos hm]
    rw [hA]
    rw [hm] at hmv
    have HMV := hide hmv
    clear hW1 hb1 g0 h h1 hmv hhs hA
    go_enter Tryz.func16, Tryz.ntmps16
    go_upto_region 1 with fail
    try rw [hH]
    rw [unhide HW1]
    go_wp2_with (go_at_call 71; refine (unhide HMV).mono ?_; rintro e w' ⟨rfl, hw⟩; have hw := hw.symm; subst hw)
    go_ret
    exact ⟨rfl, unhide H1, .of (unhide HB1) (by omega)⟩
  · have hm1 : P33.moving s = true := by simpa using hm
    rw [hm1] at hmv
    have HMV := hide hmv
    by_cases hh : P33.has d.bare st = false
    · have hA : P33.asks d.bare s ⟨st, att, u⟩ = (1, s) := by unfold P33.asks; rw [if_neg hm, if_pos hh]
      rw [hA]
      rw [hh] at hhs
      have HHS := hide hhs
      clear hW1 hb1 g0 h h1 hmv hhs hA
      go_enter Tryz.func16, Tryz.ntmps16
      go_upto_region 1 with fail
      try rw [hH]
      rw [unhide HW1]
      go_wp2_with (first | (go_at_call 71; with_reducible refine (unhide HMV).mono ?_; rintro e w' ⟨rfl, hw⟩; have hw := hw.symm; subst hw) | (go_at_call 72; with_reducible refine (unhide HHS).mono ?_; rintro e w' ⟨rfl, hw⟩; have hw := hw.symm; subst hw))
      go_ret
      exact ⟨rfl, unhide H1, .of (unhide HB1) (by omega)⟩
    · have hh1 : P33.has d.bare st = true := by simpa using hh
      rw [hh1] at hhs
      have HHS := hide hhs
      obtain ⟨i, hi⟩ : ∃ i : Nat, st = (i : Int) := by
        unfold P33.has at hh1
        simp only [Bool.and_eq_true, decide_eq_true_eq] at hh1
        exact ⟨st.toNat, by omega⟩
      subst hi
      have hiN : i < d.steps.length := by
        unfold P33.has at hh1
        rw [Md.blen] at hh1
        simp only [Bool.and_eq_true, decide_eq_true_eq] at hh1
        omega
      obtain ⟨W2, hW2, hb2, g1, hs2⟩ := new1 W1 (.cells #[.int .i64 (i : Int), .bool u] 130) (H + 1) hs1
      have h2 := h1.below (by rw [hs1]; exact hb2)
      have ho := order_any i u W2 h2 hiN
      obtain ⟨OE, hOE⟩ : ∃ OE, P33.orderE d.bare s i u = OE := ⟨_, rfl⟩
      rw [hOE, hs2] at ho
      have HW2 := hide hW2
      have HB2 := hide hb2
      have H2 := hide h2
      have G1 := hide g1
      have HO := hide ho
      obtain ⟨⟨r0, _⟩, ⟨r1, _⟩⟩ := two_cells g1
      by_cases hoe : OE = 0
      · subst hoe
        obtain ⟨⟨t, op⟩, hwp⟩ : ∃ p, s.w i u = p := ⟨_, rfl⟩
        have htr := h.tr i u
        rw [hwp] at htr
        simp only at htr
        have HWP := hide hwp
        clear hW1 hb1 g0 h h1 hmv hhs hW2 hb2 h2 g1 ho
        go_enter Tryz.func16, Tryz.ntmps16
        go_upto_region 1 with fail
        try rw [hH]
        rw [unhide HW1]
        go_upto_region 6 with (first | (go_at_call 71; with_reducible refine (unhide HMV).mono ?_; rintro e w' ⟨rfl, hw⟩; have hw := hw.symm; subst hw) | (go_at_call 72; with_reducible refine (unhide HHS).mono ?_; rintro e w' ⟨rfl, hw⟩; have hw := hw.symm; subst hw))
        rw [unhide HW2]
        go_upto_region 9 with (go_at_call 73; with_reducible refine (unhide HO).mono ?_; rintro e w3 ⟨rfl, b3⟩)
        have h3 : Md w3 b bm rb G C vs d dn un s := (unhide H2).below (by rw [hs2]; exact b3)
        have bw3 : KW (Mb b bm dn un) w w3 := ((KW.of (unhide HB1) (by omega)).next (unhide HB2) (by omega)).next b3 (by omega)
        have g03 : w3.heap[H]? = some (.cells #[.int .i64 (i : Int), .int .i64 att, .bool u, .int .i64 til] 35) := (b3.block H (by omega)).trans (((unhide HB2).block H (by omega)).trans (unhide G0))
        have g13 : w3.heap[H + 1]? = some (.cells #[.int .i64 (i : Int), .bool u] 130) := (b3.block (H + 1) (by omega)).trans (unhide G1)
        obtain ⟨K, hK⟩ : ∃ K, w3.heap.size = K := ⟨_, rfl⟩
        have hKH : H + 1 < K := by have := b3.size; omega
        clear q0 p0 q1 p1 q2 p2 r0 r1 b3
        obtain ⟨⟨q0, p0⟩, ⟨q1, p1⟩, ⟨q2, p2⟩, _⟩ := cell4 g03
        obtain ⟨⟨r0, _⟩, ⟨r1, _⟩⟩ := two_cells g13
        have c4 := h3.cells.2.2.1.1
        have h3k : ∀ {W' : World}, W'.heap[bm]? = w3.heap[bm]? → Ways W' bm s.w := fun hb => h3.mp.keep hb
        have h3l : bm < w3.heap.size := h3.mp.lt
        have H3 := hide h3
        have BW3 := hide bw3
        have G03 := hide g03
        have G13 := hide g13
        clear h3 bw3 g03 g13
        have hl1 : (Instr.lookup 121 (.map (some bm)) (.agg #[.int .i64 (i : Int), .bool u]) false).run Tryz.prog w3.drew = .ok (.agg #[.int .i64 t, .bool op]) w3.drew := by
          have := (h3k (W' := w3.drew) rfl).look i u
          rw [hwp] at this
          exact this
        have hl2 : ∀ (ob : Obj), (Instr.lookup 121 (.map (some bm)) (.agg #[.int .i64 (i : Int), .bool u]) false).run Tryz.prog (w3.alloc ob).drew = .ok (.agg #[.int .i64 t, .bool op]) (w3.alloc ob).drew := fun ob => by
          have := (h3k (W' := (w3.alloc ob).drew) (Below.heap_alloc _ _ _ h3l)).look i u
          rw [hwp] at this
          exact this
        have hal : ∀ r o, r < w3.heap.size → (w3.alloc (.cells #[.int .i64 0, .bool false] 133)).cell? ⟨r, o, none⟩ = w3.cell? ⟨r, o, none⟩ := fun r o h => cell_of_block (Below.heap_alloc _ _ _ h) o
        have c4a := (hal b 4 (by have := cellLt c4; exact this)).trans c4
        have r0a := (hal (H + 1) 0 (by omega)).trans r0
        have r1a := (hal (H + 1) 1 (by omega)).trans r1
        clear hal
        have hmx := hmixed
        go_region
        obtain ⟨W4, hW4⟩ : ∃ W4, (w3.alloc (.cells #[.int .i64 t, .bool op] 133)).drew = W4 := ⟨_, rfl⟩
        rw [hW4]
        have b4 : Below K w3 W4 := by rw [← hW4]; exact ((Below.refl K w3).alloc (by omega) _).drew
        have gK : W4.heap[K]? = some (.cells #[.int .i64 t, .bool op] 133) := by rw [← hW4, ← hK]; exact World.alloc_heap_new _ _
        have sK : W4.heap.size = K + 1 := by rw [← hW4, ← hK]; simp
        clear hW4 hl1 hl2 c4a r0a r1a q0 p0 q1 p1 q2 p2 r0 r1 h3k h3l c4
        have h4 : Md W4 b bm rb G C vs d dn un s := (unhide H3).below (by rw [hK]; exact b4)
        have g04 := (b4.block H (by omega)).trans (unhide G03)
        have g14 := (b4.block (H + 1) (by omega)).trans (unhide G13)
        have bw4 : KW (Mb b bm dn un) w W4 := (unhide BW3).next b4 (by omega)
        have hlast := h4.last hiN t
        obtain ⟨M, hM⟩ : ∃ M, P33.more (P33.triesOf d.bare i) t = M := ⟨_, rfl⟩
        rw [hM, sK] at hlast
        have hwt : IntKind.i64.wrap (t + 1) = t + 1 := IntWalk.i64_in _ (by omega)
        have HA0 : P33.asks d.bare s ⟨(i : Int), att, u⟩ = if att ≠ t + 1 ∨ (0 < t ∧ M = false) then (3, s) else (0, if u = true then { s with status := 2, w := P33.upd (P33.shut d.steps.length s.w) i true (att, true) } else { s with w := P33.upd s.w i false (att, true) }) := by
          unfold P33.asks
          rw [if_neg hm, if_neg hh]
          simp only [Int.toNat_natCast, hOE, unhide HWP, hM, Md.blen]
          rw [if_neg (by simp)]
        obtain ⟨⟨q0, p0⟩, ⟨q1, p1⟩, ⟨q2, p2⟩, _⟩ := cell4 g04
        obtain ⟨⟨k0, _⟩, ⟨k1, _⟩⟩ := two_cells gK
        have H4 := hide h4
        have BW4 := hide bw4
        have G04 := hide g04
        have G14 := hide g14
        have HL := hide hlast
        have HAA := hide HA0
        clear h4 bw4 g04 g14 hlast b4 gK HA0 H3 BW3 G03 G13 hOE hm hm1 hh hh1
        by_cases ha : att = t + 1
        · subst ha
          have hcs : (0 < t ∧ M = true) ∨ (0 < t ∧ M = false) ∨ t ≤ 0 := by
            cases M
            · by_cases h0 : 0 < t
              · exact .inr (.inl ⟨h0, rfl⟩)
              · exact .inr (.inr (by omega))
            · by_cases h0 : 0 < t
              · exact .inl ⟨h0, rfl⟩
              · exact .inr (.inr (by omega))
          have h9 : M = true → t ≤ 9 := fun e => (P31.more_lt (hM.trans e)).2
          rcases hcs with ⟨h0, rfl⟩ | ⟨h0, rfl⟩ | h0
          case' inr.inl =>
            go_wp2_with (go_at_call 74; with_reducible refine (unhide HL).mono ?_; rintro e w5 ⟨rfl, b5⟩)
            go_ret
            rw [unhide HAA, if_pos (.inr ⟨h0, by simp⟩)]
            exact ⟨rfl, (unhide H4).below (by rw [sK]; exact b5), (unhide BW4).next b5 (by omega)⟩
          case' inl =>
            have t9 := h9 rfl
            have hAA2 := unhide HAA
            rw [if_neg (by simp)] at hAA2
            have HA2 := hide hAA2
            clear hAA2 h9 hM
            go_upto_region 12 with (go_at_call 74; with_reducible refine (unhide HL).mono ?_; rintro e W5 ⟨rfl, b5⟩)
          case' inr.inr =>
            have t9 : t ≤ 9 := by omega
            have hAA2 := unhide HAA
            rw [if_neg (by simp; omega)] at hAA2
            have HA2 := hide hAA2
            clear hAA2 h9 hM
            go_upto_region 12 with fail
            have b5 : Below (K + 1) W4 W4 := Below.refl _ _
            obtain ⟨W5, hW5⟩ : ∃ W5, W4 = W5 := ⟨_, rfl⟩
            have b5 : Below (K + 1) W4 W5 := by rw [← hW5]; exact b5
            rw [hW5]
            clear hW5
          all_goals
            have h5 : Md W5 b bm rb G C vs d dn un s := (unhide H4).below (by rw [sK]; exact b5)
            have bw5 : KW (Mb b bm dn un) w W5 := (unhide BW4).next b5 (by omega)
            have g05 := (b5.block H (by omega)).trans (unhide G04)
            have g15 := (b5.block (H + 1) (by omega)).trans (unhide G14)
            clear q0 p0 q1 p1 q2 p2 k0 k1 b5
            obtain ⟨⟨q0, _⟩, ⟨q1, _⟩, ⟨q2, _⟩, _⟩ := cell4 g05
            obtain ⟨⟨r0, _⟩, ⟨r1, _⟩⟩ := two_cells g15
            have H5 := hide h5
            have BW5 := hide bw5
            have G05 := hide g05
            have G15 := hide g15
            clear h5 bw5 g05 g15
            cases u with
            | false =>
              have c4 := (unhide H5).cells.2.2.1.1
              obtain ⟨L, hmp, hL⟩ := (unhide H5).mp
              have HMP := hide hmp
              have HL2 := hide hL
              clear hmp hL
              go_upto_region 19 with fail
              refine wp_region_tail 8 (by kernel_rfl) (by kernel_rfl) (by kernel_rfl) (by kernel_rfl) (by kernel_rfl) ?_
              simp only [List.take_succ_cons, List.take_zero, List.drop_succ_cons, List.drop_zero]
              repeat (go_big_quiet_step (fail))
              refine wpQuiet_nil ?_
              intro _ hw'
              obtain ⟨nq, hw''⟩ := hw'
              subst hw''
              go_wp2_with (at_mapUpdate; refine wpList_putG rfl _ _ _ rfl ((unhide HMP).keep (W' := W5.drewN nq) rfl) key_way_model Tryz.underlying121 rfl ((i : Int), false) rfl (onV (t + 1, true)) rfl ?_; intro W6 hm6 hg6 hs6 ho6)
              go_ret
              rw [unhide HA2]
              refine ⟨rfl, ?_, ?_⟩
              · exact ((unhide H5).below (W' := W5.drewN nq) (below_drewN (Below.refl _ _))).setWay (Ways.set (unhide HL2) i false (t + 1, true) hm6) hg6 (upd_tr (unhide H5).tr (by simp only; omega))
              · exact ((unhide BW5).drewN nq).grown hg6 (fun k e => by cases e; exact .inl (.inr (.inl rfl)))
            | true =>
              obtain ⟨_, f8⟩ := (unhide H5).cells.2.2.2.2.2.2
              have hbW : b < W5.heap.size := Nat.lt_of_lt_of_le (unhide H5).bc (unhide H5).cw
              have hCW := (unhide H5).cw
              have hGb := (unhide H5).gb
              have hbH : b < H ∧ bm < H := by
                have h := unhide H1
                have h3 := h.bc
                have h4 := h.mc
                have h6 := hCH
                omega
              have h6 : Md (W5.setCell ⟨b, 8, none⟩ (.int .u8 2)) b bm rb G C vs d dn un { s with status := 2, w := P33.shut 0 s.w } := (unhide H5).setBox 8 (md_set8 (unhide H5).bx 2) (shut_zero s.w) rfl rfl
              have g06 : (W5.setCell ⟨b, 8, none⟩ (.int .u8 2)).heap[H]? = _ := (Below.heap_setCell _ _ _ _ (by show H ≠ b; omega)).trans (unhide G05)
              have g16 : (W5.setCell ⟨b, 8, none⟩ (.int .u8 2)).heap[H + 1]? = _ := (Below.heap_setCell _ _ _ _ (by show H + 1 ≠ b; omega)).trans (unhide G15)
              have bw6 : KW (Mb b bm dn un) w (W5.setCell ⟨b, 8, none⟩ (.int .u8 2)) := (unhide BW5).setCell (.inl (.inl rfl)) _
              obtain ⟨W6, hW6⟩ : ∃ W6, W5.setCell ⟨b, 8, none⟩ (.int .u8 2) = W6 := ⟨_, rfl⟩
              rw [hW6] at h6 g06 g16 bw6
              have c2 := h6.cells.1.1
              obtain ⟨N, hN⟩ : ∃ N, d.steps.length = N := ⟨_, rfl⟩
              have hN9 := h6.nle
              rw [hN] at c2 hN9
              have H6 := hide h6
              have G06 := hide g06
              have G16 := hide g16
              have BW6 := hide bw6
              have HW6 := hide hW6
              have HN := hide hN
              clear h6 g06 g16 bw6 hW6 hN
              go_upto_region 14 with fail
              rw [unhide HW6]
              go_wp2
              go_loopg [64] N (fun g s64 wx => ∃ k : Nat, k + g = N ∧ s64 = .int .i64 k ∧ Hid (Md wx b bm rb G C vs d dn un { s with status := 2, w := P33.shut k s.w }) ∧ Hid (KW (Mb b bm dn un) w wx) ∧ Hid (wx.heap[H]? = some (.cells #[.int .i64 (i : Int), .int .i64 (t + 1), .bool true, .int .i64 til] 35)) ∧ Hid (wx.heap[H + 1]? = some (.cells #[.int .i64 (i : Int), .bool true] 130)))
              case atStart => exact ⟨0, by omega, by go_num, H6, BW6, G06, G16⟩
              case round =>
                obtain ⟨k, hkg, rfl, HX, BX, GX, GY⟩ := hrel
                clear q0 q1 q2 r0 r1 c2
                obtain ⟨⟨q0, _⟩, ⟨q1, _⟩, ⟨q2, _⟩, _⟩ := cell4 (unhide GX)
                obtain ⟨⟨r0, _⟩, ⟨r1, _⟩⟩ := two_cells (unhide GY)
                have c4 := (unhide HX).cells.2.2.1.1
                obtain ⟨L, hmp, hL⟩ := (unhide HX).mp
                have HMP := hide hmp
                have HL2 := hide hL
                clear hmp hL
                cases gk with
                | zero =>
                  have e1 : (N : Int) ≤ (k : Int) := by omega
                  have j1 : decide ((k : Int) < (N : Int)) = false := by simp; omega
                  have hkN : k = d.steps.length := by rw [unhide HN]; omega
                  have HKN := hide hkN
                  clear hkN
                  go_upto_region 19 with fail
                  refine wp_region_tail 8 (by kernel_rfl) (by kernel_rfl) (by kernel_rfl) (by kernel_rfl) (by kernel_rfl) ?_
                  simp only [List.take_succ_cons, List.take_zero, List.drop_succ_cons, List.drop_zero]
                  repeat (go_big_quiet_step (fail))
                  refine wpQuiet_nil ?_
                  intro _ hw'
                  obtain ⟨nq, hw''⟩ := hw'
                  subst hw''
                  go_wp2_with (at_mapUpdate; refine wpList_putG rfl _ _ _ rfl ((unhide HMP).keep (W' := wr.drewN nq) rfl) key_way_model Tryz.underlying121 rfl ((i : Int), true) rfl (onV (t + 1, true)) rfl ?_; intro W7 hm7 hg7 hs7 ho7)
                  go_ret
                  rw [unhide HA2]
                  refine ⟨rfl, ?_, ?_⟩
                  · have h7 := ((unhide HX).below (W' := wr.drewN nq) (below_drewN (Below.refl _ _))).setWay (Ways.set (unhide HL2) i true (t + 1, true) hm7) hg7 (upd_tr (unhide HX).tr (by simp only; omega))
                    simp only [if_true]
                    rw [← unhide HKN]
                    exact h7
                  · exact ((unhide BX).drewN nq).grown hg7 (fun k e => by cases e; exact .inl (.inr (.inl rfl)))
                | succ g' =>
                  have hlt : (k : Int) < (N : Int) := by omega
                  have hkj : IntKind.i64.wrap ((k : Int) + 1) = (k : Int) + 1 := IntWalk.i64_in _ (by omega)
                  obtain ⟨⟨tk, ok⟩, hwk⟩ : ∃ p, s.w k false = p := ⟨_, rfl⟩
                  have hlook := fun q => look_drew (unhide HX).mp k false q
                  simp only [shut_self, hwk] at hlook
                  have htk := (unhide H1).tr k false
                  rw [hwk] at htk
                  simp only at htk
                  have HWK := hide hwk
                  clear hwk
                  go_upto_region 17 with fail
                  refine wp_region_tail 15 (by kernel_rfl) (by kernel_rfl) (by kernel_rfl) (by kernel_rfl) (by kernel_rfl) ?_
                  simp only [List.take_succ_cons, List.take_zero, List.drop_succ_cons, List.drop_zero]
                  repeat (go_big_quiet_step (fail))
                  refine wpQuiet_nil ?_
                  intro _ hw'
                  obtain ⟨nq, hw''⟩ := hw'
                  subst hw''
                  go_wp2_with (at_mapUpdate; refine wpList_putG rfl _ _ _ rfl ((unhide HMP).keep (W' := wr.drewN nq) rfl) key_way_model Tryz.underlying121 rfl ((k : Int), false) rfl (onV (tk, false)) rfl ?_; intro W7 hm7 hg7 hs7 ho7)
                  go_roundg g'
                  case measure => omega
                  case rel =>
                    refine ⟨k + 1, by omega, by go_num, hide ?_, hide ?_, hide ?_, hide ?_⟩
                    · have h7 := ((unhide HX).below (W' := wr.drewN nq) (below_drewN (Below.refl _ _))).setWay (Ways.set (unhide HL2) k false (tk, false) hm7) hg7 (upd_tr (unhide HX).tr (by simp only; omega))
                      rw [← shut_next, unhide HWK]
                      exact h7
                    · exact ((unhide BX).drewN nq).grown hg7 (fun k e => by cases e; exact .inl (.inr (.inl rfl)))
                    · exact (ho7 H (by omega)).trans (unhide GX)
                    · exact (ho7 (H + 1) (by omega)).trans (unhide GY)
        · have hne : (att != t + 1) = true := by simpa using ha
          go_wp2
          go_ret
          rw [unhide HAA, if_pos (.inl ha)]
          exact ⟨rfl, unhide H4, unhide BW4⟩
      · have hA : P33.asks d.bare s ⟨(i : Int), att, u⟩ = (OE, s) := by
          unfold P33.asks
          rw [if_neg hm, if_neg hh]
          simp only [Int.toNat_natCast, hOE]
          rw [if_pos hoe]
        rw [hA]
        have hoe2 : (OE != 0) = true := by simpa using hoe
        clear hW1 hb1 g0 h h1 hmv hhs hW2 hb2 h2 g1 ho hA hOE
        go_enter Tryz.func16, Tryz.ntmps16
        go_upto_region 1 with fail
        try rw [hH]
        rw [unhide HW1]
        go_upto_region 6 with (first | (go_at_call 71; with_reducible refine (unhide HMV).mono ?_; rintro e w' ⟨rfl, hw⟩; have hw := hw.symm; subst hw) | (go_at_call 72; with_reducible refine (unhide HHS).mono ?_; rintro e w' ⟨rfl, hw⟩; have hw := hw.symm; subst hw))
        rw [unhide HW2]
        go_wp2_with (go_at_call 73; with_reducible refine (unhide HO).mono ?_; rintro e w3 ⟨rfl, b3⟩)
        go_ret
        exact ⟨rfl, (unhide H2).below (by rw [hs2]; exact b3), ((KW.of (unhide HB1) (by omega)).next (unhide HB2) (by omega)).next b3 (by omega)⟩
end Go.Proofs.YtefokfbgpfcbkaaGreat
namespace Go.Proofs.YtefokfbgpfcbkaaGreat
set_option linter.unusedVariables false
set_option linter.unusedSimpArgs false
open Go.RowKit
attribute [local go_sem] run_field_on
theorem wpList_lookWay {W : World} {bm : Nat} {f : Nat → Bool → Int × Bool} {ops : Array Oper} {rest : List Oper} {o : Oper} {a : Act} {Q : Exit → Act → World → Prop} (hg : o.guard = none) (m x : Operand) (hop : o.op = Op.lookup 121 m x false)
    (h : Ways W bm f) (hm : a.eval m = .map (some bm)) (i : Nat) (u : Bool) (hx : a.eval x = .agg #[.int .i64 (i : Int), .bool u]) {p : Int × Bool} (hp : f i u = p)
    (hK : wpList Tryz.prog ops Q rest (a.put o.dst (.agg #[.int .i64 p.1, .bool p.2])) W) : wpList Tryz.prog ops Q (o :: rest) a W := by
  obtain ⟨L, h1, h2⟩ := h
  refine wpList_lookOne hg m x hop h1 key_way_model Tryz.underlying121 (zeroOn W) hm ((i : Int), u) hx rfl ?_
  rw [h2 i u, hp]
  exact hK
def lastB (d : P22.Def) (s : P33.S) (T : Option Nat) : Bool := match T with
  | some i => decide (0 < (s.w i true).1) && !P33.more (P33.triesOf d i) (s.w i true).1
  | none => false
theorem lastB_eq (d : P22.Def) (s : P33.S) : P33.lastT d s = lastB d s (P33.turn d s) := rfl
set_option maxRecDepth 100000 in
set_option maxHeartbeats 8000000 in
theorem Ends_any {b bm rb G C : Nat} {vs : Nat → Value} {d : PDef} {dn un : Value} {s : P33.S} (st : Nat) (w : World) (h : Md w b bm rb G C vs d dn un s) :
    Calls Tryz.prog 22 #[.pointer (some ⟨b, 0, none⟩), .int .u8 st] w fun e w' =>
      e = .returned (.int .i64 (P33.ends d.bare s st).1) ∧ Md w' b bm rb G C vs d dn un (P33.ends d.bare s st).2 ∧ KW (Mb b bm dn un) w w' := by
  obtain ⟨H, hH⟩ : ∃ H, w.heap.size = H := ⟨_, rfl⟩
  have hGH : G ≤ H := by have := h.gb; have := h.bc; have := h.cw; omega
  have hmv := h.moving
  have H0 := hide h
  by_cases hm : P33.moving s = false
  · have hA : P33.ends d.bare s st = (13, s) := by unfold P33.ends; rw [if_pos hm]
    rw [hA]
    rw [hm] at hmv
    have HMV := hide hmv
    clear hmv hA h
    go_enter Tryz.func22, Tryz.ntmps22
    go_wp2_with (go_at_call 71; refine (unhide HMV).mono ?_; rintro e w' ⟨rfl, hw⟩; have hw := hw.symm; subst hw)
    go_ret
    exact ⟨rfl, unhide H0, KW.refl _ _⟩
  · have hm1 : P33.moving s = true := by simpa using hm
    rw [hm1] at hmv
    have HMV := hide hmv
    obtain ⟨⟨c2, _⟩, _, _, ⟨c5, _⟩, _, _, ⟨c8, _⟩⟩ := h.cells
    obtain ⟨da, dc, hde, _, _, _⟩ := h.odn.slice
    subst hde
    have hturn := fun q : Nat => (h.below (W' := w.drewN q) (below_drewN (Below.refl _ _))).turn
    obtain ⟨T, hT⟩ : ∃ T, P33.turn d.bare s = T := ⟨_, rfl⟩
    rw [hT] at hturn
    obtain ⟨WH, hWH⟩ : ∃ WH, P33.whole d.bare s = WH := ⟨_, rfl⟩
    have hw1 : ((s.status : Int) == 1 && ((s.done.length : Int) == (d.steps.length : Int))) = WH := by
      rw [← hWH]
      unfold P33.whole
      rw [Md.blen, Bool.eq_iff_iff]
      simp
      omega
    obtain ⟨A, hA⟩ : ∃ A, s.done.length = A := ⟨_, rfl⟩
    obtain ⟨N, hN⟩ : ∃ N, d.steps.length = N := ⟨_, rfl⟩
    rw [hA, hN] at hw1
    rw [hA] at c5
    rw [hN] at c2
    have HTU := hide hturn
    have HTT := hide hT
    have HWH := hide hWH
    have HA := hide hA
    have HN := hide hN
    have HW1 := hide hw1
    clear hmv hturn hT hWH hA hN h
    have hcs : (s.status = 1 ∧ ((A : Int) == (N : Int)) = WH) ∨ (((s.status : Int) == 1) = false ∧ WH = false) := by
      by_cases hs1 : s.status = 1
      · refine .inl ⟨hs1, ?_⟩
        rw [← hw1, hs1]
        simp
      · have e : ((s.status : Int) == 1) = false := by simp; omega
        refine .inr ⟨e, ?_⟩
        rw [← hw1, e]
        rfl
    clear hw1
    have HLT : Hid (∀ j, T = some j → j < d.steps.length) := hide (fun j hj => by
      have hT := unhide HTT
      rw [hj] at hT
      have := List.mem_of_find?_eq_some hT
      exact (unhide H0).dl j (by simpa using this))
    rcases hcs with ⟨hs1, hbb⟩ | ⟨hs1, hbb⟩
    case' inl => rw [hs1] at c8
    case' inr => skip
    all_goals
      go_enter Tryz.func22, Tryz.ntmps22
      go_upto_region 3 with (go_at_call 71; refine (unhide HMV).mono ?_; rintro e w' ⟨rfl, hw⟩; have hw := hw.symm; subst hw)
      go_quiet (fail)
      go_upto_region 5 with (go_at_call 24; with_reducible refine (unhide HTU _).mono ?_; rintro e w5 ⟨rfl, b5⟩)
      have h5 := ((unhide H0).below (W' := w.drewN nq) (below_drewN (Below.refl _ _))).below b5
      have bw5 : KW (Mb b bm (.slice da s.done.length dc) un) w w5 := ((KW.refl _ w).drewN nq).next b5 (by show w.heap.size ≤ (w.drewN nq).heap.size; simp)
      have hbG := h5.gb
      clear c2 c5 c8 hs1 b5
      obtain ⟨_, _, ⟨c4, _⟩, _, _, ⟨c7, _⟩, ⟨c8, f8⟩⟩ := h5.cells
      have hset : Md (w5.setCell ⟨b, 8, none⟩ (.int .u8 st)) b bm rb G C vs d (.slice da s.done.length dc) un { s with status := st } := h5.setBox 8 (md_set8 h5.bx st) rfl rfl rfl
      have H5 := hide h5
      have BW5 := hide bw5
      have HSET := hide (And.intro hset (bw5.setCell (b := b) (o := 8) (.inl (.inl rfl)) (.int .u8 st)))
      clear hset h5 bw5
      have hst : st = 3 ∨ st = 4 ∨ st = 5 ∨ (st ≠ 3 ∧ st ≠ 4 ∧ st ≠ 5) := by omega
      rcases hst with rfl | rfl | rfl | ⟨s3, s4, s5⟩
      · have hA : P33.ends d.bare s 3 = if WH = false then (8, s) else (0, { s with status := 3 }) := by
          unfold P33.ends
          rw [if_neg hm, if_neg (by omega), if_pos (show (3 : Nat) = 3 from rfl), unhide HWH]
        have HA := hide hA
        clear hA
        cases WH with
        | true =>
          first
          | (cases hbb; done)
          | (go_wp2
             go_ret
             rw [unhide HA, if_neg (by simp)]
             exact ⟨rfl, unhide HSET⟩)
        | false =>
          go_wp2
          go_ret
          rw [unhide HA, if_pos (by simp)]
          exact ⟨rfl, unhide H5, unhide BW5⟩
      · have hA : P33.ends d.bare s 4 = if (!WH && T.isNone) = false then (8, s) else (0, { s with status := 4 }) := by
          unfold P33.ends
          rw [if_neg hm, if_neg (by omega), if_neg (show ¬ (4 : Nat) = 3 by omega), if_pos (show (4 : Nat) = 4 from rfl), unhide HWH, unhide HTT]
        have HA := hide hA
        clear hA
        cases WH with
        | true =>
          first
          | (cases hbb; done)
          | (go_wp2
             go_ret
             rw [unhide HA, if_pos (by simp)]
             exact ⟨rfl, unhide H5, unhide BW5⟩)
        | false =>
          cases T with
          | none =>
            go_wp2
            go_ret
            rw [unhide HA, if_neg (by simp)]
            exact ⟨rfl, unhide HSET⟩
          | some j =>
            go_wp2
            go_ret
            rw [unhide HA, if_pos (by simp)]
            exact ⟨rfl, unhide H5, unhide BW5⟩
      · obtain ⟨fl, hfl⟩ : ∃ fl, s.failed = fl := ⟨_, rfl⟩
        have hl : P33.lastT d.bare s = lastB d.bare s T := by rw [lastB_eq, unhide HTT]
        have hA : P33.ends d.bare s 5 = if (fl || lastB d.bare s T) = false then (8, s) else (0, { s with status := 5 }) := by
          unfold P33.ends
          rw [if_neg hm, if_neg (by omega), if_neg (show ¬ (5 : Nat) = 3 by omega), if_neg (show ¬ (5 : Nat) = 4 by omega), show (s.failed || P33.lastT d.bare s) = (fl || lastB d.bare s T) by rw [hfl, hl]]
        rw [hfl] at c7
        obtain ⟨⟨t, op⟩, hwp⟩ : ∃ p, s.w (T.getD 0) true = p := ⟨_, rfl⟩
        have htr := (unhide H5).tr (T.getD 0) true
        rw [hwp] at htr
        simp only at htr
        have hlast := fun (j : Nat) (hj : T = some j) => (unhide H5).last (unhide HLT j hj) t
        have HFL := hide hfl
        clear hl hfl hm hm1
        cases T with
        | none =>
          simp only [Option.getD_none] at hwp
          simp only [lastB, Bool.or_false] at hA
          have HA := hide hA
          clear hA hlast
          cases fl with
          | true =>
            go_wp2_with (at_lookup; refine wpList_lookWay rfl _ _ rfl (unhide H5).mp rfl _ true rfl hwp ?_)
            go_ret
            rw [unhide HA, if_neg (by simp)]
            exact ⟨rfl, unhide HSET⟩
          | false =>
            go_wp2_with (at_lookup; refine wpList_lookWay rfl _ _ rfl (unhide H5).mp rfl _ true rfl hwp ?_)
            go_ret
            rw [unhide HA, if_pos (by simp)]
            exact ⟨rfl, unhide H5, unhide BW5⟩
        | some j =>
          simp only [Option.getD_some] at hwp
          simp only [lastB, hwp] at hA
          have hla := hlast j rfl
          obtain ⟨M, hM⟩ : ∃ M, P33.more (P33.triesOf d.bare j) t = M := ⟨_, rfl⟩
          rw [hM] at hla hA
          have HLA := hide hla
          have HA := hide hA
          clear hA hlast hla hM
          cases fl with
          | true =>
            go_wp2_with (at_lookup; refine wpList_lookWay rfl _ _ rfl (unhide H5).mp rfl _ true rfl hwp ?_)
            go_ret
            rw [unhide HA, if_neg (by simp)]
            exact ⟨rfl, unhide HSET⟩
          | false =>
            by_cases h0 : 0 < t
            · cases M with
              | true =>
                go_wp2_with (first | (at_lookup; refine wpList_lookWay rfl _ _ rfl (unhide H5).mp rfl _ true rfl hwp ?_) | (go_at_call 74; with_reducible refine (unhide HLA).mono ?_; rintro e w6 ⟨rfl, b6⟩))
                go_ret
                rw [unhide HA, if_pos (by simp)]
                exact ⟨rfl, (unhide H5).below b6, (unhide BW5).next b6 (unhide BW5).size⟩
              | false =>
                go_wp2_with (first | (at_lookup; refine wpList_lookWay rfl _ _ rfl (unhide H5).mp rfl _ true rfl hwp ?_) | (go_at_call 74; with_reducible refine (unhide HLA).mono ?_; rintro e w6 ⟨rfl, b6⟩; have hbb := b6.block b (Nat.lt_of_lt_of_le (unhide H5).bc (unhide H5).cw); have c8' := (World.cell?_of_block (a := ⟨b, 8, none⟩) hbb).trans c8; have f8' := (World.frozen?_of_block (a := ⟨b, 8, none⟩) hbb).trans f8))
                go_ret
                rw [unhide HA, if_neg (by simp; omega)]
                have h6 := (unhide H5).below b6
                exact ⟨rfl, h6.setBox 8 (md_set8 h6.bx 5) rfl rfl rfl, ((unhide BW5).next b6 (unhide BW5).size).setCell (b := b) (o := 8) (.inl (.inl rfl)) _⟩
            · have h1 : t ≤ 0 := by omega
              go_wp2_with (at_lookup; refine wpList_lookWay rfl _ _ rfl (unhide H5).mp rfl _ true rfl hwp ?_)
              go_ret
              rw [unhide HA, if_pos (by simp; omega)]
              exact ⟨rfl, unhide H5, unhide BW5⟩
      · have hA : P33.ends d.bare s st = (1, s) := by
          unfold P33.ends
          rw [if_neg hm, if_pos ⟨s3, s4, s5⟩]
        have HA := hide hA
        have e3 : ((st : Int) == 3) = false := by simp; omega
        have e4 : ((st : Int) == 4) = false := by simp; omega
        have e5 : ((st : Int) == 5) = false := by simp; omega
        clear hA
        go_wp2
        go_ret
        rw [unhide HA]
        exact ⟨rfl, unhide H5, unhide BW5⟩
end Go.Proofs.YtefokfbgpfcbkaaGreat
