/- Lemmas of this claim (a part of its texts, kept as far as the claim reaches them). -/
import Derived.Test.YtefokfbgpfcbkaaGreatS31aZ
import Derived.Test.YtefokfbgpfcbkaaGreatM33yZ
namespace Go.Proofs.YtefokfbgpfcbkaaGreat
set_option linter.unusedVariables false
set_option linter.unusedSimpArgs false
open Go.RowKit
def encWay_saga (k : Int × Bool) : Value := .agg #[.int .i64 k.1, .bool k.2]
theorem eq_way_saga (a c : Int) (s t : Bool) (w : World) : (Op.equalIn 10000 157 (.agg #[.int .i64 a, .bool s]) (.agg #[.int .i64 c, .bool t])).run Tryz.prog w = .ok (a == c && s == t) w := by
  have u1 := Tryz.underlying3
  have u2 := Tryz.underlying4
  have hS : Tryz.prog.underlying 157 = some (.struct (Tryz.prog.fieldsOf 157)) := by kernel_rfl
  rw [show (10000 : Nat) = 9999 + 1 from rfl, run_equalIn_agg w 9999 157 _ _ hS (by kernel_rfl)]
  simp only [Program.fieldsOf, Tryz.underlying157]
  go_simp
  by_cases h1 : a = c <;> by_cases h2 : s = t <;> simp [h1, h2]
theorem chk_way_saga (e : Bool) (a : Int) (s : Bool) (w : World) : (Instr.checkKey e 10000 157 (.agg #[.int .i64 a, .bool s])).run Tryz.prog w = .ok () w := by
  have u1 := Tryz.underlying3
  have u2 := Tryz.underlying4
  have b1 : ∀ (n : Nat) (W : World) (e : Bool) (a : Int), (Instr.checkKey e (n + 1) 3 (.int .i64 a)).run Tryz.prog W = .ok () W := fun n W e a => by simp [Instr.checkKey, run_underlying u1]
  have b2 : ∀ (n : Nat) (W : World) (e : Bool) (s : Bool), (Instr.checkKey e (n + 1) 4 (.bool s)).run Tryz.prog W = .ok () W := fun n W e s => by simp [Instr.checkKey, run_underlying u2]
  have c1 : ∀ (W : World) (e : Bool) (a : Int), (Instr.checkKey e 9999 3 (.int .i64 a)).run Tryz.prog W = .ok () W := fun W e a => b1 9998 W e a
  have c2 : ∀ (W : World) (e : Bool) (s : Bool), (Instr.checkKey e 9999 4 (.bool s)).run Tryz.prog W = .ok () W := fun W e s => b2 9998 W e s
  clear b1 b2
  unfold Instr.checkKey
  simp only [Sem.run_bind, run_underlying Tryz.underlying157, Result.andThen_ok]
  go_simp
set_option maxRecDepth 100000 in
theorem key_way_saga : KeyT Tryz.prog 157 encWay_saga := by
  refine .wide (by rw [Tryz.underlying157]) (fun x e W => chk_way_saga e _ _ W) (fun x y W => ?_) (fun x => ?_)
  · have h := eq_way_saga x.1 y.1 x.2 y.2 W
    have e : Op.equal 157 (encWay_saga x) (encWay_saga y) = Op.equalIn 10000 157 (encWay_saga x) (encWay_saga y) := by unfold Op.equal Op.maxDepth; rfl
    rw [e]
    refine Eq.trans h ?_
    congr 1
    obtain ⟨x1, x2⟩ := x
    obtain ⟨y1, y2⟩ := y
    rw [Bool.eq_iff_iff]
    simp
  · have b1 : ∀ (n : Nat) (a : Int), Instr.sameBits (n + 1) (.int .i64 a) (.int .i64 a) = true := fun n a => by simp [Instr.sameBits]
    have b2 : ∀ (n : Nat) (s : Bool), Instr.sameBits (n + 1) (.bool s) (.bool s) = true := fun n s => by simp [Instr.sameBits]
    have h1 := b1 9998 x.1
    have h2 := b2 9998 x.2
    simp only [encWay_saga, Instr.sameBits]
    simp
    try exact ⟨h1, h2⟩
theorem zeroRun (w : World) : (zeroValue 159).run Tryz.prog w = .ok (runV P31.Run.zero) w := by kernel_rfl
def WaysS (W : World) (bm : Nat) (f : Nat → Bool → P31.Run) : Prop := ∃ L, MapG encWay_saga W bm L ∧ ∀ (i : Nat) u, (lk L ((i : Int), u)).getD (runV P31.Run.zero) = runV (f i u)
theorem WaysS.keep {W W' : World} {bm : Nat} {f : Nat → Bool → P31.Run} (h : WaysS W bm f) (hb : W'.heap[bm]? = W.heap[bm]?) : WaysS W' bm f := by
  obtain ⟨L, h1, h2⟩ := h
  exact ⟨L, h1.keep hb, h2⟩
theorem WaysS.lt {W : World} {bm : Nat} {f : Nat → Bool → P31.Run} (h : WaysS W bm f) : bm < W.heap.size := by
  obtain ⟨L, h1, h2⟩ := h
  exact h1.lt
theorem WaysS.look {W : World} {bm : Nat} {f : Nat → Bool → P31.Run} (h : WaysS W bm f) (i : Nat) (u : Bool) : (Instr.lookup 151 (.map (some bm)) (.agg #[.int .i64 (i : Int), .bool u]) false).run Tryz.prog W = .ok (runV (f i u)) W := by
  obtain ⟨L, h1, h2⟩ := h
  have h3 := h1.look (mt := 151) key_way_saga Tryz.underlying151 (zeroRun W) ((i : Int), u) false
  have e : (if false = true then Value.tuple #[(lk L ((i : Int), u)).getD (runV P31.Run.zero), .bool (lk L ((i : Int), u)).isSome] else (lk L ((i : Int), u)).getD (runV P31.Run.zero)) = runV (f i u) := by
    rw [if_neg (by simp)]; exact h2 i u
  rw [e] at h3
  exact h3
theorem WaysS.set {W' : World} {bm : Nat} {f : Nat → Bool → P31.Run} {L : List ((Int × Bool) × Value)} (h2 : ∀ (i : Nat) u, (lk L ((i : Int), u)).getD (runV P31.Run.zero) = runV (f i u)) (i : Nat) (u : Bool) (v : P31.Run) (hm : MapG encWay_saga W' bm (putL L ((i : Int), u) (runV v))) : WaysS W' bm (P32.setR f i u v) := by
  refine ⟨_, hm, fun j b => ?_⟩
  rw [lk_put]
  unfold P32.setR
  by_cases h : j = i ∧ b = u
  · rw [if_pos (by rw [h.1, h.2]), if_pos h]; rfl
  · rw [if_neg (by simp only [Prod.mk.injEq, not_and]; intro e1 e2; exact h ⟨by omega, e2⟩), if_neg h]
    exact h2 j b
def sgC (d : PDef) (rf : Value) (bm : Nat) (dn un : Value) (st : Int) : Obj := .cells #[.string ⟨d.name.toArray⟩, .string ⟨d.text.toArray⟩, .slice d.sa d.steps.length d.sc, rf, .map (some bm), dn, un, .int .u8 st] 153
structure Sg (W : World) (b bm rb C : Nat) (vs : Nat → Value) (d : PDef) (dn un : Value) (s : P32.S) : Prop where
  bx : W.heap[b]? = some (sgC d (.slice (some ⟨rb, 0, none⟩) d.steps.length d.steps.length) bm dn un s.status)
  mp : WaysS W bm s.run
  odn : OwnN W C dn s.done
  oun : OwnN W C un s.undone
  apart : ∀ g, dn.ownBlock = some g → un.ownBlock ≠ some g
  df : d.In W
  dlt : ∀ g, d.blk g → g ≠ b ∧ g ≠ bm ∧ g < C
  gr : Grid W 0 rb vs (P28.refs d.bare)
  glt : ∀ g, gridB rb vs d.steps.length g → g ≠ b ∧ g ≠ bm ∧ g < C
  bne : b ≠ bm
  bc : b < C
  mc : bm < C
  cw : C ≤ W.heap.size
  ok : ∀ i u, (s.run i u).ok
  nd : s.done.Nodup
  dl : ∀ i ∈ s.done, i < d.steps.length
  ul : s.undone.length ≤ s.done.length
  ne : d.steps ≠ []
  nle : d.steps.length ≤ 100000
namespace Sg
variable {W W' : World} {b bm rb C : Nat} {vs : Nat → Value} {d : PDef} {dn un : Value} {s : P32.S}
theorem lt (h : Sg W b bm rb C vs d dn un s) {g : Nat} (hg : Mb b bm dn un g ∨ gridB rb vs d.steps.length g ∨ d.blk g) : g < W.heap.size := by
  rcases hg with (rfl | rfl | e | e) | e | e
  · exact Nat.lt_of_lt_of_le h.bc h.cw
  · exact Nat.lt_of_lt_of_le h.mc h.cw
  · exact (h.odn.lt e).2
  · exact (h.oun.lt e).2
  · exact (h.gr.lt (by rw [P28.refs_len, Md.blen]; exact e)).2
  · exact h.df.lt e
theorem keep (h : Sg W b bm rb C vs d dn un s) (hs : W.heap.size ≤ W'.heap.size) (hk : ∀ g, Mb b bm dn un g ∨ gridB rb vs d.steps.length g ∨ d.blk g → W'.heap[g]? = W.heap[g]?) : Sg W' b bm rb C vs d dn un s where
  bx := (hk b (.inl (.inl rfl))).trans h.bx
  mp := h.mp.keep (hk bm (.inl (.inr (.inl rfl))))
  odn := h.odn.keep (fun g hg => hk g (.inl (.inr (.inr (.inl hg)))))
  oun := h.oun.keep (fun g hg => hk g (.inl (.inr (.inr (.inr hg)))))
  apart := h.apart
  df := h.df.keep (fun g hg => hk g (.inr (.inr hg)))
  dlt := h.dlt
  gr := h.gr.keep (fun g hg => hk g (.inr (.inl (by rw [P28.refs_len, Md.blen] at hg; exact hg))))
  glt := h.glt
  bne := h.bne
  bc := h.bc
  mc := h.mc
  cw := Nat.le_trans h.cw hs
  ok := h.ok
  nd := h.nd
  dl := h.dl
  ul := h.ul
  ne := h.ne
  nle := h.nle
theorem below (h : Sg W b bm rb C vs d dn un s) (hb : Below W.heap.size W W') : Sg W' b bm rb C vs d dn un s := h.keep hb.size (fun g hg => hb.block g (h.lt hg))
theorem dlen (h : Sg W b bm rb C vs d dn un s) : s.done.length ≤ d.steps.length := P32.len_le _ s.done h.nd h.dl
theorem rest (h : Sg W b bm rb C vs d dn un s) {g : Nat} (hg : gridB rb vs d.steps.length g ∨ d.blk g) : g ≠ b ∧ g ≠ bm ∧ g < C := hg.elim (h.glt g) (h.dlt g)
theorem ownC (h : Sg W b bm rb C vs d dn un s) {g : Nat} (hg : dn.ownBlock = some g ∨ un.ownBlock = some g) : C ≤ g := hg.elim (fun e => (h.odn.lt e).1) (fun e => (h.oun.lt e).1)
theorem setWay {f : Nat → Bool → P31.Run} (h : Sg W b bm rb C vs d dn un s) (hm : WaysS W' bm f) (hg : W.grownBy W' (some bm)) (hf : ∀ i u, (f i u).ok) : Sg W' b bm rb C vs d dn un ⟨f, s.done, s.undone, s.status⟩ := by
  have hC := h.mc
  have hk : ∀ g, g < W.heap.size → g ≠ bm → W'.heap[g]? = W.heap[g]? := fun g hl hne => hg.block g hl (fun e => hne (by cases e; rfl))
  exact {
    bx := (hk b (h.lt (.inl (.inl rfl))) h.bne).trans h.bx
    mp := hm
    odn := h.odn.keep (fun g hg2 => hk g (h.odn.lt hg2).2 (by have := (h.odn.lt hg2).1; omega))
    oun := h.oun.keep (fun g hg2 => hk g (h.oun.lt hg2).2 (by have := (h.oun.lt hg2).1; omega))
    apart := h.apart
    df := h.df.keep (fun g hg2 => hk g (h.df.lt hg2) (h.dlt g hg2).2.1)
    dlt := h.dlt
    gr := h.gr.keep (fun g hg2 => hk g (h.gr.lt hg2).2 (h.glt g (by rw [P28.refs_len, Md.blen] at hg2; exact hg2)).2.1)
    glt := h.glt
    bne := h.bne
    bc := h.bc
    mc := h.mc
    cw := Nat.le_trans h.cw hg.size
    ok := hf
    nd := h.nd
    dl := h.dl
    ul := h.ul
    ne := h.ne
    nle := h.nle }
theorem cells (h : Sg W b bm rb C vs d dn un s) : (W.cell? ⟨b, 2, none⟩ = some (.slice d.sa d.steps.length d.sc) ∧ W.frozen? ⟨b, 2, none⟩ = false) ∧ (W.cell? ⟨b, 3, none⟩ = some (.slice (some ⟨rb, 0, none⟩) d.steps.length d.steps.length) ∧ W.frozen? ⟨b, 3, none⟩ = false) ∧ (W.cell? ⟨b, 4, none⟩ = some (.map (some bm)) ∧ W.frozen? ⟨b, 4, none⟩ = false) ∧
    (W.cell? ⟨b, 5, none⟩ = some dn ∧ W.frozen? ⟨b, 5, none⟩ = false) ∧ (W.cell? ⟨b, 6, none⟩ = some un ∧ W.frozen? ⟨b, 6, none⟩ = false) ∧ (W.cell? ⟨b, 7, none⟩ = some (.int .u8 s.status) ∧ W.frozen? ⟨b, 7, none⟩ = false) := by
  have hx := h.bx
  have hf : ∀ k, W.frozen? ⟨b, k, none⟩ = false := fun k => by unfold sgC at hx; simp [World.frozen?, hx]
  refine ⟨⟨md_cell hx rfl, hf _⟩, ⟨md_cell hx rfl, hf _⟩, ⟨md_cell hx rfl, hf _⟩, ⟨md_cell hx rfl, hf _⟩, ⟨md_cell hx rfl, hf _⟩, ⟨md_cell hx rfl, hf _⟩⟩
theorem setStatus (h : Sg W b bm rb C vs d dn un s) (st : Nat) : Sg (W.setCell ⟨b, 7, none⟩ (.int .u8 (st : Int))) b bm rb C vs d dn un ⟨s.run, s.done, s.undone, st⟩ := by
  have hne : ∀ g, g ≠ b → (W.setCell ⟨b, 7, none⟩ (.int .u8 (st : Int))).heap[g]? = W.heap[g]? := fun g hg => Below.heap_setCell _ _ _ _ hg
  have hC := h.bc
  have hx : (W.setCell ⟨b, 7, none⟩ (.int .u8 (st : Int))).heap[b]? = some (sgC d (.slice (some ⟨rb, 0, none⟩) d.steps.length d.steps.length) bm dn un st) := by
    have h0 := h.bx
    unfold sgC at h0 ⊢
    simp [World.setCell, Array.getElem?_modify, h0]
  exact {
    bx := hx
    mp := h.mp.keep (hne _ (fun e => h.bne e.symm))
    odn := h.odn.keep (fun g hg2 => hne g (by have := (h.odn.lt hg2).1; omega))
    oun := h.oun.keep (fun g hg2 => hne g (by have := (h.oun.lt hg2).1; omega))
    apart := h.apart
    df := h.df.keep (fun g hg2 => hne g (h.dlt g hg2).1)
    dlt := h.dlt
    gr := h.gr.keep (fun g hg2 => hne g (h.glt g (by rw [P28.refs_len, Md.blen] at hg2; exact hg2)).1)
    glt := h.glt
    bne := h.bne
    bc := h.bc
    mc := h.mc
    cw := by simpa using h.cw
    ok := h.ok
    nd := h.nd
    dl := h.dl
    ul := h.ul
    ne := h.ne
    nle := h.nle }
theorem appDn {W1 : World} {i g' c' : Nat} (h : Sg W b bm rb C vs d dn un s) (ho : OwnN W1 C (.slice (some ⟨g', 0, none⟩) (s.done.length + 1) c') (s.done ++ [i])) (hg : W.grownBy W1 dn.ownBlock)
    (hat : some g' = dn.ownBlock ∨ some g' = some W.heap.size) (hnd : (s.done ++ [i]).Nodup) (hi : i < d.steps.length) : Sg (W1.setCell ⟨b, 5, none⟩ (.slice (some ⟨g', 0, none⟩) (s.done.length + 1) c')) b bm rb C vs d (.slice (some ⟨g', 0, none⟩) (s.done.length + 1) c') un ⟨s.run, s.done ++ [i], s.undone, s.status⟩ := by
  have hC := h.bc
  have hM := h.mc
  have hcw := h.cw
  have hgC : C ≤ g' := by
    rcases hat with e | e
    · exact (h.odn.lt e.symm).1
    · cases e; omega
  have hkeep : ∀ g, g < W.heap.size → dn.ownBlock ≠ some g → g ≠ b → (W1.setCell ⟨b, 5, none⟩ (.slice (some ⟨g', 0, none⟩) (s.done.length + 1) c')).heap[g]? = W.heap[g]? := fun g hl hne hb => (Below.heap_setCell _ _ _ _ hb).trans (hg.block g hl (fun e => hne e.symm))
  have hlow : ∀ g, g < C → dn.ownBlock ≠ some g := fun g hl e => by have := (h.odn.lt e).1; omega
  have hx : (W1.setCell ⟨b, 5, none⟩ (.slice (some ⟨g', 0, none⟩) (s.done.length + 1) c')).heap[b]? = some (sgC d (.slice (some ⟨rb, 0, none⟩) d.steps.length d.steps.length) bm (.slice (some ⟨g', 0, none⟩) (s.done.length + 1) c') un s.status) := by
    have h0 := (hg.block b (by omega) (fun e => hlow b hC e.symm)).trans h.bx
    unfold sgC at h0 ⊢
    simp [World.setCell, Array.getElem?_modify, h0]
  exact {
    bx := hx
    mp := h.mp.keep (hkeep bm (by omega) (hlow bm hM) (fun e => h.bne e.symm))
    odn := ho.keep (fun g hg2 => Below.heap_setCell _ _ _ _ (by have e : some g' = some g := hg2; injection e with e; show g ≠ b; omega))
    oun := h.oun.keep (fun g hg2 => hkeep g (h.oun.lt hg2).2 (fun e => h.apart g e hg2) (by have := (h.oun.lt hg2).1; omega))
    apart := fun g hg2 e => by
      have hg2 : some g' = some g := hg2
      cases hg2
      rcases hat with q | q
      · exact h.apart _ q.symm e
      · have h1 := (h.oun.lt e).2
        cases q
        exact absurd h1 (Nat.lt_irrefl _)
    df := h.df.keep (fun g hg2 => by have q := h.dlt g hg2; exact hkeep g (h.df.lt hg2) (hlow g q.2.2) q.1)
    dlt := h.dlt
    gr := h.gr.keep (fun g hg2 => by have q := h.glt g (by rw [P28.refs_len, Md.blen] at hg2; exact hg2); exact hkeep g (h.gr.lt hg2).2 (hlow g q.2.2) q.1)
    glt := h.glt
    bne := h.bne
    bc := h.bc
    mc := h.mc
    cw := by have := hg.size; simp; omega
    ok := h.ok
    nd := hnd
    dl := fun j hj => by
      rcases List.mem_append.1 hj with hj | hj
      · exact h.dl j hj
      · simp at hj; rw [hj]; exact hi
    ul := by have := h.ul; simp; omega
    ne := h.ne
    nle := h.nle }
theorem appUn {W1 : World} {i g' c' : Nat} (h : Sg W b bm rb C vs d dn un s) (ho : OwnN W1 C (.slice (some ⟨g', 0, none⟩) (s.undone.length + 1) c') (s.undone ++ [i])) (hg : W.grownBy W1 un.ownBlock)
    (hat : some g' = un.ownBlock ∨ some g' = some W.heap.size) (hul : s.undone.length + 1 ≤ s.done.length) : Sg (W1.setCell ⟨b, 6, none⟩ (.slice (some ⟨g', 0, none⟩) (s.undone.length + 1) c')) b bm rb C vs d dn (.slice (some ⟨g', 0, none⟩) (s.undone.length + 1) c') ⟨s.run, s.done, s.undone ++ [i], s.status⟩ := by
  have hC := h.bc
  have hM := h.mc
  have hcw := h.cw
  have hgC : C ≤ g' := by
    rcases hat with e | e
    · exact (h.oun.lt e.symm).1
    · cases e; omega
  have hkeep : ∀ g, g < W.heap.size → un.ownBlock ≠ some g → g ≠ b → (W1.setCell ⟨b, 6, none⟩ (.slice (some ⟨g', 0, none⟩) (s.undone.length + 1) c')).heap[g]? = W.heap[g]? := fun g hl hne hb => (Below.heap_setCell _ _ _ _ hb).trans (hg.block g hl (fun e => hne e.symm))
  have hlow : ∀ g, g < C → un.ownBlock ≠ some g := fun g hl e => by have := (h.oun.lt e).1; omega
  have hx : (W1.setCell ⟨b, 6, none⟩ (.slice (some ⟨g', 0, none⟩) (s.undone.length + 1) c')).heap[b]? = some (sgC d (.slice (some ⟨rb, 0, none⟩) d.steps.length d.steps.length) bm dn (.slice (some ⟨g', 0, none⟩) (s.undone.length + 1) c') s.status) := by
    have h0 := (hg.block b (by omega) (fun e => hlow b hC e.symm)).trans h.bx
    unfold sgC at h0 ⊢
    simp [World.setCell, Array.getElem?_modify, h0]
  exact {
    bx := hx
    mp := h.mp.keep (hkeep bm (by omega) (hlow bm hM) (fun e => h.bne e.symm))
    odn := h.odn.keep (fun g hg2 => hkeep g (h.odn.lt hg2).2 (h.apart g hg2) (by have := (h.odn.lt hg2).1; omega))
    oun := ho.keep (fun g hg2 => Below.heap_setCell _ _ _ _ (by have e : some g' = some g := hg2; injection e with e; show g ≠ b; omega))
    apart := fun g hg2 e => by
      have e : some g' = some g := e
      cases e
      rcases hat with q | q
      · exact h.apart _ hg2 q.symm
      · have h1 := (h.odn.lt hg2).2
        cases q
        exact absurd h1 (Nat.lt_irrefl _)
    df := h.df.keep (fun g hg2 => by have q := h.dlt g hg2; exact hkeep g (h.df.lt hg2) (hlow g q.2.2) q.1)
    dlt := h.dlt
    gr := h.gr.keep (fun g hg2 => by have q := h.glt g (by rw [P28.refs_len, Md.blen] at hg2; exact hg2); exact hkeep g (h.gr.lt hg2).2 (hlow g q.2.2) q.1)
    glt := h.glt
    bne := h.bne
    bc := h.bc
    mc := h.mc
    cw := by have := hg.size; simp; omega
    ok := h.ok
    nd := h.nd
    dl := h.dl
    ul := by simpa using hul
    ne := h.ne
    nle := h.nle }
theorem steps (h : Sg W b bm rb C vs d dn un s) : ∃ g o, d.sa = some ⟨g, o, none⟩ ∧ ∀ i x, d.steps[i]? = some x → stEl.At W g (o + i * 13) x := by
  obtain ⟨x, r, e⟩ : ∃ x r, d.steps = x :: r := by cases hd : d.steps with | nil => exact absurd hd h.ne | cons x r => exact ⟨x, r, rfl⟩
  obtain ⟨⟨g, o, e1, _⟩, _⟩ := h.df.steps 0 x (by rw [e]; rfl)
  refine ⟨g, o, e1, fun i y hy => ?_⟩
  obtain ⟨⟨g2, o2, e2, h2⟩, _⟩ := h.df.steps i y hy
  rw [e1] at e2
  injection e2 with e2
  injection e2 with e3 e4
  subst e3
  subst e4
  exact h2
end Sg
end Go.Proofs.YtefokfbgpfcbkaaGreat
namespace Go.Proofs.YtefokfbgpfcbkaaGreat
set_option linter.unusedVariables false
set_option linter.unusedSimpArgs false
open Go.RowKit
theorem run_neq_map (w : World) (bm : Nat) : (binOp BinOp.neq 151 (.map (some bm)) (.map none)).run Tryz.prog w = .ok (.bool true) w := by kernel_rfl
attribute [local go_sem] run_neq_map
set_option maxRecDepth 100000 in
theorem made_any (b bm : Nat) (w : World) (h : w.cell? ⟨b, 4, none⟩ = some (.map (some bm))) : Calls Tryz.prog 96 #[.pointer (some ⟨b, 0, none⟩)] w fun e w' => e = .returned (.bool true) ∧ w' = w := by
  go_enter Tryz.func96, Tryz.ntmps96
  go_wp2
  go_ret
  exact ⟨rfl, rfl⟩
set_option maxRecDepth 100000 in
theorem made_nil (w : World) : Calls Tryz.prog 96 #[.pointer none] w fun e w' => e = .returned (.bool false) ∧ w' = w := by
  go_enter Tryz.func96, Tryz.ntmps96
  go_wp2
  go_ret
  exact ⟨rfl, rfl⟩
set_option maxRecDepth 100000 in
theorem SStatus_any (b bm : Nat) (st : Int) (w : World) (h : w.cell? ⟨b, 4, none⟩ = some (.map (some bm))) (h7 : w.cell? ⟨b, 7, none⟩ = some (.int .u8 st)) : Calls Tryz.prog 52 #[.pointer (some ⟨b, 0, none⟩)] w fun e w' => e = .returned (.int .u8 st) ∧ w' = w := by
  have HM := hide (made_any b bm w h)
  go_enter Tryz.func52, Tryz.ntmps52
  go_wp2_with (go_at_call 96; refine (unhide HM).mono ?_; rintro e w' ⟨rfl, hw⟩; have hw := hw.symm; subst hw)
  go_ret
  exact ⟨rfl, rfl⟩
set_option maxRecDepth 100000 in
theorem SStatus_nil (w : World) : Calls Tryz.prog 52 #[.pointer none] w fun e w' => e = .returned (.int .u8 0) ∧ w' = w := by
  have HM := hide (made_nil w)
  go_enter Tryz.func52, Tryz.ntmps52
  go_wp2_with (go_at_call 96; refine (unhide HM).mono ?_; rintro e w' ⟨rfl, hw⟩; have hw := hw.symm; subst hw)
  go_ret
  exact ⟨rfl, rfl⟩
set_option maxRecDepth 100000 in
theorem Over_any (b bm : Nat) (st : Nat) (w : World) (h : w.cell? ⟨b, 4, none⟩ = some (.map (some bm))) (h7 : w.cell? ⟨b, 7, none⟩ = some (.int .u8 (st : Int))) : Calls Tryz.prog 58 #[.pointer (some ⟨b, 0, none⟩)] w fun e w' => e = .returned (.bool (decide (2 < st))) ∧ w' = w := by
  have HM := hide (SStatus_any b bm st w h h7)
  have e : decide (2 < st) = decide ((2 : Int) < (st : Int)) := by rw [Bool.eq_iff_iff]; simp; omega
  rw [e]
  go_enter Tryz.func58, Tryz.ntmps58
  go_wp2_with (go_at_call 52; refine (unhide HM).mono ?_; rintro e w' ⟨rfl, hw⟩; have hw := hw.symm; subst hw)
  go_ret
  exact ⟨rfl, rfl⟩
set_option maxRecDepth 100000 in
theorem Over_nil (w : World) : Calls Tryz.prog 58 #[.pointer none] w fun e w' => e = .returned (.bool false) ∧ w' = w := by
  have HM := hide (SStatus_nil w)
  go_enter Tryz.func58, Tryz.ntmps58
  go_wp2_with (go_at_call 52; refine (unhide HM).mono ?_; rintro e w' ⟨rfl, hw⟩; have hw := hw.symm; subst hw)
  go_ret
  exact ⟨rfl, rfl⟩
set_option maxRecDepth 100000 in
theorem smoving_any (b bm : Nat) (st : Nat) (w : World) (h : w.cell? ⟨b, 4, none⟩ = some (.map (some bm))) (h7 : w.cell? ⟨b, 7, none⟩ = some (.int .u8 (st : Int))) : Calls Tryz.prog 102 #[.pointer (some ⟨b, 0, none⟩)] w fun e w' => e = .returned (.bool (st == 1 || st == 2)) ∧ w' = w := by
  have HM := hide (SStatus_any b bm st w h h7)
  by_cases h1 : st = 1
  · have e1 : ((st : Int) == 1) = true := by simp; omega
    have e2 : (st == 1 || st == 2) = true := by simp; omega
    rw [e2]
    clear h1 e2
    go_enter Tryz.func102, Tryz.ntmps102
    go_wp2_with (go_at_call 52; refine (unhide HM).mono ?_; rintro e w' ⟨rfl, hw⟩; have hw := hw.symm; subst hw)
    go_ret
    exact ⟨rfl, rfl⟩
  · have e1 : ((st : Int) == 1) = false := by simp; omega
    obtain ⟨q, hq⟩ : ∃ q, ((st : Int) == 2) = q := ⟨_, rfl⟩
    have e2 : (st == 1 || st == 2) = q := by rw [← hq, Bool.eq_iff_iff]; simp; omega
    rw [e2]
    clear h1 e2
    go_enter Tryz.func102, Tryz.ntmps102
    go_wp2_with (go_at_call 52; refine (unhide HM).mono ?_; rintro e w' ⟨rfl, hw⟩; have hw := hw.symm; subst hw)
    go_ret
    exact ⟨rfl, rfl⟩
set_option maxRecDepth 100000 in
theorem smoving_nil (w : World) : Calls Tryz.prog 102 #[.pointer none] w fun e w' => e = .returned (.bool false) ∧ w' = w := by
  have HM := hide (SStatus_nil w)
  go_enter Tryz.func102, Tryz.ntmps102
  go_wp2_with (go_at_call 52; refine (unhide HM).mono ?_; rintro e w' ⟨rfl, hw⟩; have hw := hw.symm; subst hw)
  go_ret
  exact ⟨rfl, rfl⟩
set_option maxRecDepth 100000 in
theorem SDone_any (b bm : Nat) (v : Value) (zs : List Int) (w : World) (h : w.cell? ⟨b, 4, none⟩ = some (.map (some bm))) (hb : w.cell? ⟨b, 5, none⟩ = some v) (hv : Iv w v zs) (hl : zs.length ≤ 1000000) : Calls Tryz.prog 53 #[.pointer (some ⟨b, 0, none⟩)] w fun e w' => ∃ v', e = .returned v' ∧ Iv w' v' zs ∧ Below w.heap.size w w' := by
  have HM := hide (made_any b bm w h)
  have HC := hide (cloneI_any v zs w hv hl)
  obtain ⟨a, c, rfl, _⟩ := hv
  go_enter Tryz.func53, Tryz.ntmps53
  go_wp2_with (first | (go_at_call 96; with_reducible refine (unhide HM).mono ?_; rintro e w' ⟨rfl, hw⟩; have hw := hw.symm; subst hw) | (go_at_call 78; with_reducible refine (unhide HC).mono ?_; rintro e w' ⟨v', rfl, h1, h2⟩))
  go_ret
  exact ⟨_, rfl, h1, h2⟩
set_option maxRecDepth 100000 in
theorem SUndone_any (b bm : Nat) (v : Value) (zs : List Int) (w : World) (h : w.cell? ⟨b, 4, none⟩ = some (.map (some bm))) (hb : w.cell? ⟨b, 6, none⟩ = some v) (hv : Iv w v zs) (hl : zs.length ≤ 1000000) : Calls Tryz.prog 54 #[.pointer (some ⟨b, 0, none⟩)] w fun e w' => ∃ v', e = .returned v' ∧ Iv w' v' zs ∧ Below w.heap.size w w' := by
  have HM := hide (made_any b bm w h)
  have HC := hide (cloneI_any v zs w hv hl)
  obtain ⟨a, c, rfl, _⟩ := hv
  go_enter Tryz.func54, Tryz.ntmps54
  go_wp2_with (first | (go_at_call 96; with_reducible refine (unhide HM).mono ?_; rintro e w' ⟨rfl, hw⟩; have hw := hw.symm; subst hw) | (go_at_call 78; with_reducible refine (unhide HC).mono ?_; rintro e w' ⟨v', rfl, h1, h2⟩))
  go_ret
  exact ⟨_, rfl, h1, h2⟩
theorem run_field_phase (w : World) (a b c d : Value) : (Instr.field 159 (.agg #[a, b, c, d]) 0).run Tryz.prog w = .ok a w := by kernel_rfl
attribute [local go_sem] run_field_phase
section
variable {b bm rb C : Nat} {vs : Nat → Value} {d : PDef} {dn un : Value} {s : P32.S}
set_option maxRecDepth 100000 in
theorem phase_any (i : Nat) (w : World) (h : Sg w b bm rb C vs d dn un s) : Calls Tryz.prog 213 #[.pointer (some ⟨b, 0, none⟩), .int .i64 (i : Int)] w fun e w' => e = .returned (.int .u8 ((s.run i false).phase : Int)) ∧ w' = w := by
  have c4 := h.cells.2.2.1.1
  have hl := h.mp.look i false
  unfold runV at hl
  clear h
  go_enter Tryz.func213, Tryz.ntmps213
  go_wp2
  go_ret
  exact ⟨rfl, rfl⟩
set_option maxRecDepth 100000 in
set_option maxHeartbeats 2000000 in
theorem any_any (p : Nat) (w : World) (h : Sg w b bm rb C vs d dn un s) : Calls Tryz.prog 187 #[.pointer (some ⟨b, 0, none⟩), .int .u8 (p : Int)] w fun e w' => e = .returned (.bool (P32.anyP d.bare s p)) ∧ w' = w := by
  have c2 := h.cells.1.1
  have hph := fun i => phase_any i w h
  have hN9 := h.nle
  have hany : P32.anyP d.bare s p = (List.range' 0 d.steps.length).any fun i => (s.run i false).phase == p := by
    unfold P32.anyP
    rw [Md.blen, List.range_eq_range']
  rw [hany]
  obtain ⟨N, hN⟩ : ∃ N, d.steps.length = N := ⟨_, rfl⟩
  rw [hN] at c2 hN9 ⊢
  obtain ⟨RES, hR⟩ : ∃ R, ((List.range' 0 N).any fun i => (s.run i false).phase == p) = R := ⟨_, rfl⟩
  rw [hR]
  have HPH := hide hph
  have HR := hide hR
  clear h hph hany hR hN
  go_enter Tryz.func187, Tryz.ntmps187
  go_wp2
  go_loopg [12] N (fun g s12 wx => ∃ k : Nat, k + g = N ∧ s12 = .int .i64 k ∧ w = wx ∧ Hid (((List.range' k g).any fun i => (s.run i false).phase == p) = RES))
  case atStart => exact ⟨0, by omega, by go_num, rfl, HR⟩
  case round =>
    obtain ⟨k, hkg, rfl, hw, HK⟩ := hrel
    subst hw
    cases gk with
    | zero =>
      have e1 : (N : Int) ≤ (k : Int) := by omega
      have j1 : decide ((k : Int) < (N : Int)) = false := by simp; omega
      have e : RES = false := (unhide HK).symm
      subst e
      go_wp2
      go_ret
      exact ⟨rfl, rfl⟩
    | succ g' =>
      have hlt : (k : Int) < (N : Int) := by omega
      have hki : IntKind.i64.wrap ((k : Int) + 1) = (k : Int) + 1 := IntWalk.i64_in _ (by omega)
      have hk := unhide HK
      rw [List.range'_succ, List.any_cons] at hk
      have hh := unhide HPH k
      obtain ⟨ph, hp⟩ : ∃ x, (s.run k false).phase = x := ⟨_, rfl⟩
      rw [hp] at hh hk
      have HH := hide hh
      by_cases hq : ph = p
      · have e1 : ((ph : Int) == (p : Int)) = true := by simp; omega
        have e : RES = true := by rw [← hk, hq]; simp
        subst e
        clear hk hh hq hp
        go_wp2_with (go_at_call 213; refine (unhide HH).mono ?_; rintro e w' ⟨rfl, hw⟩; have hw := hw.symm; subst hw)
        go_ret
        exact ⟨rfl, rfl⟩
      · have e1 : ((ph : Int) == (p : Int)) = false := by simp; omega
        have hk2 : ((List.range' (k + 1) g').any fun i => (s.run i false).phase == p) = RES := by rw [← hk]; simp [hq]
        have HK2 := hide hk2
        clear hk hh hq hp hk2
        go_wp2_with (go_at_call 213; refine (unhide HH).mono ?_; rintro e w' ⟨rfl, hw⟩; have hw := hw.symm; subst hw)
        go_roundg g'
        case measure => omega
        case rel => exact ⟨k + 1, by omega, by go_num, rfl, HK2⟩
end
end Go.Proofs.YtefokfbgpfcbkaaGreat
namespace Go.Proofs.YtefokfbgpfcbkaaGreat
set_option linter.unusedVariables false
set_option linter.unusedSimpArgs false
open Go.RowKit
section
variable {b bm rb C : Nat} {vs : Nat → Value} {d : PDef} {dn un : Value} {s : P32.S}
theorem all_step (l : List Nat) (p : Nat → Bool) (k : Nat) (x : Nat) (h : l[k]? = some x) : (l.drop k).all p = (p x && (l.drop (k + 1)).all p) := by
  obtain ⟨hl, e⟩ := List.getElem?_eq_some_iff.1 h
  rw [List.drop_eq_getElem_cons hl, e, List.all_cons]
set_option maxRecDepth 100000 in
set_option maxHeartbeats 4000000 in
theorem ready_any (i : Nat) (w : World) (h : Sg w b bm rb C vs d dn un s) (hi : i < d.steps.length) : Calls Tryz.prog 188 #[.pointer (some ⟨b, 0, none⟩), .int .i64 (i : Int)] w fun e w' => e = .returned (.bool (P32.ready d.bare s i)) ∧ w' = w := by
  have hlen : (P28.refs d.bare).length = d.steps.length := by rw [P28.refs_len, Md.blen]
  obtain ⟨l, hl⟩ : ∃ l, (P28.refs d.bare)[i]? = some l := nth_of hlen hi
  have hgd : (P28.refs d.bare).getD i [] = l := by rw [List.getD_eq_getElem?_getD, hl]; rfl
  have hrd : P32.ready d.bare s i = ((s.run i false).phase == 0 && l.all fun j => (s.run j false).phase == 3) := by unfold P32.ready; rw [hgd]
  obtain ⟨ra, rc, hvk, hrl, hrc, hrin⟩ := (h.gr.own i l hl).slice
  have hrow := h.gr.row.cell (i := i) (by rw [hlen]; exact hi)
  rw [hvk] at hrow
  have c3 := h.cells.2.1.1
  have hph := fun j => phase_any j w h
  obtain ⟨PH, hPH⟩ : ∃ x, (s.run i false).phase = x := ⟨_, rfl⟩
  have hp0 := hph i
  rw [hPH] at hp0 hrd
  obtain ⟨N, hN⟩ : ∃ N, d.steps.length = N := ⟨_, rfl⟩
  obtain ⟨L, hL⟩ : ∃ L, l.length = L := ⟨_, rfl⟩
  have hL9 : L ≤ maxLen := by omega
  unfold maxLen at hL9
  rw [hL] at hrow
  have hiN : (i : Int) < (N : Int) := by omega
  rw [hN] at c3
  obtain ⟨AL, hAL⟩ : ∃ x, (l.all fun j => (s.run j false).phase == 3) = x := ⟨_, rfl⟩
  rw [hrd, hAL]
  have HPH := hide hph
  have HP0 := hide hp0
  have HIN := hide hrin
  have HL := hide hL
  have HAL := hide hAL
  clear h hi hlen hl hgd hrd hvk hrl hrc hrin hph hp0 hPH hN hL hAL
  by_cases h0 : PH = 0
  · have e0 : ((PH : Int) != 0) = false := by simp; omega
    have e1 : (PH == 0) = true := by simp; omega
    rw [e1, Bool.true_and]
    clear h0 e1
    go_enter Tryz.func188, Tryz.ntmps188
    go_wp2_with (go_at_call 213; refine (unhide HP0).mono ?_; rintro e w' ⟨rfl, hw⟩; have hw := hw.symm; subst hw)
    go_loopg [19] L (fun g s19 wx => ∃ k : Nat, k + g = L ∧ s19 = .int .i64 k ∧ w = wx ∧ Hid (((l.drop k).all fun j => (s.run j false).phase == 3) = AL))
    case atStart => exact ⟨0, by omega, by go_num, rfl, hide (by simpa using unhide HAL)⟩
    case round =>
      obtain ⟨k, hkg, rfl, hw, HK⟩ := hrel
      subst hw
      cases gk with
      | zero =>
        have e2 : (L : Int) ≤ (k : Int) := by omega
        have j2 : decide ((k : Int) < (L : Int)) = false := by simp; omega
        have e : AL = true := by
          have := unhide HK
          rw [List.drop_eq_nil_of_le (by rw [unhide HL]; omega)] at this
          exact this.symm
        subst e
        go_wp2
        go_ret
        exact ⟨rfl, rfl⟩
      | succ g' =>
        have hlt : (k : Int) < (L : Int) := by omega
        have hki : IntKind.i64.wrap ((k : Int) + 1) = (k : Int) + 1 := IntWalk.i64_in _ (by omega)
        obtain ⟨x, hx⟩ := nth_of (unhide HL) (show k < L by omega)
        obtain ⟨b2, o2, rfl, cx⟩ := unhide HIN k x hx
        unfold iv at cx
        have hk := unhide HK
        rw [all_step _ _ _ _ hx] at hk
        have hh := unhide HPH x
        obtain ⟨ph, hp⟩ : ∃ y, (s.run x false).phase = y := ⟨_, rfl⟩
        rw [hp] at hh hk
        have HH := hide hh
        by_cases hq : ph = 3
        · have e1 : ((ph : Int) != 3) = false := by simp; omega
          have hk2 : ((l.drop (k + 1)).all fun j => (s.run j false).phase == 3) = AL := by rw [← hk, hq]; rfl
          have HK2 := hide hk2
          clear hk hh hq hp hk2 hx
          go_wp2_with (go_at_call 213; refine (unhide HH).mono ?_; rintro e w' ⟨rfl, hw⟩; have hw := hw.symm; subst hw)
          go_roundg g'
          case measure => omega
          case rel => exact ⟨k + 1, by omega, by go_num, rfl, HK2⟩
        · have e1 : ((ph : Int) != 3) = true := by simp; omega
          have e : AL = false := by rw [← hk]; simp [hq]
          subst e
          clear hk hh hq hp hx
          go_wp2_with (go_at_call 213; refine (unhide HH).mono ?_; rintro e w' ⟨rfl, hw⟩; have hw := hw.symm; subst hw)
          go_ret
          exact ⟨rfl, rfl⟩
  · have e0 : ((PH : Int) != 0) = true := by simp; omega
    have e1 : (PH == 0) = false := by simp; omega
    rw [e1, Bool.false_and]
    clear h0 e1
    go_enter Tryz.func188, Tryz.ntmps188
    go_wp2_with (go_at_call 213; refine (unhide HP0).mono ?_; rintro e w' ⟨rfl, hw⟩; have hw := hw.symm; subst hw)
    go_ret
    exact ⟨rfl, rfl⟩
end
end Go.Proofs.YtefokfbgpfcbkaaGreat
namespace Go.Proofs.YtefokfbgpfcbkaaGreat
set_option linter.unusedVariables false
set_option linter.unusedSimpArgs false
open Go.RowKit
def ordV (o : P32.Order) : List Value := [.int .i64 (o.step : Int), .int .i64 o.att, .bool o.undo, .int .i64 o.til]
def oCells (os : List P32.Order) : List Value := os.flatMap ordV
theorem oCells_snoc (os : List P32.Order) (o : P32.Order) : oCells (os ++ [o]) = oCells os ++ ordV o := by simp [oCells]
def OwnO (W : World) (B : Nat) (v : Value) (os : List P32.Order) : Prop := W.ownsRow B 35 4 v os.length (oCells os)
theorem ordInfo : (Tryz.prog.info? 35).map (fun i => (i.zero, i.size, i.bytes)) = some (some (.agg #[.int .i64 0, .int .i64 0, .bool false, .int .i64 0]), 4, 32) := by kernel_rfl
theorem OwnO.nil (W : World) (B : Nat) : OwnO W B (.slice none 0 0) [] := World.ownsRow_nil W B 35 4
theorem OwnO.keep {W W' : World} {B : Nat} {v : Value} {os : List P32.Order} (h : OwnO W B v os) (hk : ∀ g, v.ownBlock = some g → W'.heap[g]? = W.heap[g]?) : OwnO W' B v os := own_keep h hk
theorem OwnO.lt {W : World} {B : Nat} {v : Value} {os : List P32.Order} (h : OwnO W B v os) {g : Nat} (hg : v.ownBlock = some g) : B ≤ g ∧ g < W.heap.size := own_block_lt h g hg
theorem OwnO.form {W : World} {B : Nat} {v : Value} {os : List P32.Order} (h : OwnO W B v os) : ∃ a c, v = .slice a os.length c := by
  rcases h.2 with ⟨rfl, h0⟩ | ⟨g, cap, cur, rfl, _⟩
  · exact ⟨none, 0, by rw [h0]⟩
  · exact ⟨_, cap, rfl⟩
theorem step_appO {w : World} {B : Nat} {v : Value} {l : List P32.Order} {j : P32.Order} {ops : Array Oper} {o : Oper} {a : Act} {K : Act → World → Prop} {Q : Exit → Act → World → Prop} {E : Prop} (hgd : o.guard = none) (s x : Operand)
    (ho : o.op = .call { callee := .builtin .append, args := #[s, x], argTypes := #[105, 105] })
    (hs : a.eval s = v) (hown : OwnO w B v l) (g cap : Nat) (hx : a.eval x = .slice (some ⟨g, 0, none⟩) 1 cap) (hnew : w.heap[g]? = some (.cells #[.int .i64 (j.step : Int), .int .i64 j.att, .bool j.undo, .int .i64 j.til] 35))
    (m : Nat) (hm : l.length = m) (hlen : m + 1 ≤ 1000000000) (hB : B ≤ w.heap.size)
    (h : ∀ g' cap' w', OwnO w' B (.slice (some ⟨g', 0, none⟩) (m + 1) cap') (l ++ [j]) → w.grownBy w' v.ownBlock → (some g' = v.ownBlock ∨ some g' = some w.heap.size) → K (a.put o.dst (.slice (some ⟨g', 0, none⟩) (m + 1) cap')) w') :
    if Region.wanted o (yielded ops a.tmps) = true then Oper.wp Tryz.prog o a w K Q else E := by
  subst hm
  obtain ⟨i, hi, hz, hsz, hby⟩ := info_parts ordInfo
  refine step_append_lies (P := Tryz.prog) w hgd s x 105 ho B 35 i (.agg #[.int .i64 0, .int .i64 0, .bool false, .int .i64 0]) 4 32 Tryz.underlying105 hi hz hsz hby rfl (by decide) v l.length (oCells l) hs hown
    ⟨g, 0, none⟩ 1 cap (ordV j) hx rfl (World.news_of_block (fr := (0, 0)) hnew) (by intro u hu; simp [ordV] at hu; rcases hu with rfl | rfl | rfl | rfl <;> rfl) (by decide) (by unfold maxLen; omega) (by omega) hB _ rfl ?_
  intro g' cap' w' h2 h3 hat _
  refine h g' cap' w' ?_ h3 (hat.imp Eq.symm (fun e => by rw [e]))
  unfold OwnO
  rw [List.length_append, oCells_snoc]
  exact h2
theorem run_appO {w : World} {B : Nat} {v : Value} {l : List P32.Order} {j : P32.Order} (ty : TypeId) (hown : OwnO w B v l) (g cap : Nat) (hnew : w.heap[g]? = some (.cells #[.int .i64 (j.step : Int), .int .i64 j.att, .bool j.undo, .int .i64 j.til] 35))
    (m : Nat) (hm : l.length = m) (hlen : m + 1 ≤ 1000000000) (hB : B ≤ w.heap.size) :
    ∃ g' cap' w', (Builtin.append_ #[105, 105] ty #[v, .slice (some ⟨g, 0, none⟩) 1 cap]).run Tryz.prog w = .ok (.slice (some ⟨g', 0, none⟩) (m + 1) cap') w' ∧ OwnO w' B (.slice (some ⟨g', 0, none⟩) (m + 1) cap') (l ++ [j]) ∧ w.grownBy w' v.ownBlock ∧ (some g' = v.ownBlock ∨ some g' = some w.heap.size) := by
  subst hm
  obtain ⟨i, hi, hz, hsz, hby⟩ := info_parts ordInfo
  obtain ⟨g', cap', w', h1, h2, h3, hat, _⟩ := run_append_lies (P := Tryz.prog) w 105 ty B 35 i (.agg #[.int .i64 0, .int .i64 0, .bool false, .int .i64 0]) 4 32 Tryz.underlying105 hi hz hsz hby rfl (by decide) v l.length (oCells l) hown
    ⟨g, 0, none⟩ 1 cap (ordV j) rfl (World.news_of_block (fr := (0, 0)) hnew) (by intro u hu; simp [ordV] at hu; rcases hu with rfl | rfl | rfl | rfl <;> rfl) (by decide) (by unfold maxLen; omega) (by omega) hB _ rfl
  refine ⟨g', cap', w', h1, ?_, h3, hat.imp Eq.symm (fun e => by rw [e])⟩
  unfold OwnO
  rw [List.length_append, oCells_snoc]
  exact h2
structure SA (w0 : World) (M0 : Nat → Prop) (b bm rb C h1 h2 ob : Nat) (vs : Nat → Value) (d : PDef) (x : P32.S × List P32.Order) (W : World) : Prop where
  ex : ∃ dn un v, Sg W b bm rb C vs d dn un x.1 ∧ W.heap[ob]? = some (.cells #[v] 105) ∧ OwnO W C v x.2 ∧ (∀ g, v.ownBlock = some g → ¬ Mb b bm dn un g ∧ g ≠ h1 ∧ g ≠ h2 ∧ g ≠ ob ∧ (M0 g ∨ w0.heap.size ≤ g)) ∧ (∀ g, Mb b bm dn un g → g ≠ h1 ∧ g ≠ h2 ∧ g ≠ ob) ∧ (∀ g, Mb b bm dn un g → M0 g ∨ w0.heap.size ≤ g)
  c1 : W.heap[h1]? = some (.cells #[.pointer (some ⟨b, 0, none⟩)] 96)
  c2 : W.heap[h2]? = some (.cells #[.pointer (some ⟨ob, 0, none⟩)] 170)
  kw : KW M0 w0 W
  low : C ≤ w0.heap.size ∧ (M0 h1 ∨ w0.heap.size ≤ h1) ∧ (M0 h2 ∨ w0.heap.size ≤ h2) ∧ (M0 ob ∨ w0.heap.size ≤ ob) ∧ C ≤ h1 ∧ C ≤ h2 ∧ C ≤ ob
  ne : h1 ≠ h2 ∧ h1 ≠ ob ∧ h2 ≠ ob
section
variable {w0 W W' : World} {M0 : Nat → Prop} {b bm rb C h1 h2 ob : Nat} {vs : Nat → Value} {d : PDef} {x : P32.S × List P32.Order}
theorem SA.below (h : SA w0 M0 b bm rb C h1 h2 ob vs d x W) (hb : Below W.heap.size W W') : SA w0 M0 b bm rb C h1 h2 ob vs d x W' := by
  obtain ⟨dn, un, v, k1, k2, k3, k4, k5, k6⟩ := h.ex
  exact ⟨⟨dn, un, v, k1.below hb, (hb.block _ (Array.getElem?_eq_some_iff.1 k2).1).trans k2, k3.keep (fun g hg => hb.block g (k3.lt hg).2), k4, k5, k6⟩, (hb.block _ (Array.getElem?_eq_some_iff.1 h.c1).1).trans h.c1, (hb.block _ (Array.getElem?_eq_some_iff.1 h.c2).1).trans h.c2, h.kw.next hb h.kw.size, h.low, h.ne⟩
theorem SA.sg (h : SA w0 M0 b bm rb C h1 h2 ob vs d x W) : ∃ dn un, Sg W b bm rb C vs d dn un x.1 := by
  obtain ⟨dn, un, v, k1, _⟩ := h.ex
  exact ⟨dn, un, k1⟩
theorem SA.write {s' : P32.S} {dn un dn' un' v : Value} (h : SA w0 M0 b bm rb C h1 h2 ob vs d x W) (k1 : Sg W b bm rb C vs d dn un x.1) (k2 : W.heap[ob]? = some (.cells #[v] 105)) (k3 : OwnO W C v x.2) (k4 : ∀ g, v.ownBlock = some g → ¬ Mb b bm dn un g ∧ g ≠ h1 ∧ g ≠ h2 ∧ g ≠ ob ∧ (M0 g ∨ w0.heap.size ≤ g)) (k5 : ∀ g, Mb b bm dn un g → g ≠ h1 ∧ g ≠ h2 ∧ g ≠ ob) (k6 : ∀ g, Mb b bm dn un g → M0 g ∨ w0.heap.size ≤ g)
    (hs : Sg W' b bm rb C vs d dn' un' s') (hk : KW (Mb b bm dn un) W W') (hm : ∀ g, Mb b bm dn' un' g → Mb b bm dn un g ∨ W.heap.size ≤ g) : SA w0 M0 b bm rb C h1 h2 ob vs d (s', x.2) W' := by
  have z1 := (Array.getElem?_eq_some_iff.1 h.c1).1
  have z2 := (Array.getElem?_eq_some_iff.1 h.c2).1
  have z3 := (Array.getElem?_eq_some_iff.1 k2).1
  have zk := h.kw.size
  refine ⟨⟨dn', un', v, hs, (hk.same ob (fun e => (k5 ob e).2.2 rfl) z3).trans k2, k3.keep (fun g hg => hk.same g (k4 g hg).1 (k3.lt hg).2), fun g hg => ?_, fun g hg => ?_, fun g hg => ?_⟩, (hk.same h1 (fun e => (k5 h1 e).1 rfl) z1).trans h.c1, (hk.same h2 (fun e => (k5 h2 e).2.1 rfl) z2).trans h.c2, ?_, h.low, h.ne⟩
  · obtain ⟨a1, a2, a3, a4, a5⟩ := k4 g hg
    refine ⟨fun e => ?_, a2, a3, a4, a5⟩
    rcases hm g e with e | e
    · exact a1 e
    · have := (k3.lt hg).2; omega
  · rcases hm g hg with e | e
    · exact k5 g e
    · exact ⟨by omega, by omega, by omega⟩
  · rcases hm g hg with e | e
    · exact k6 g e
    · exact .inr (by omega)
  · refine ⟨hk.os.trans h.kw.os, hk.tape.trans h.kw.tape, hk.output.trans h.kw.output, Nat.le_trans zk hk.size, fun g hg hl => (hk.same g (fun e => ?_) (Nat.lt_of_lt_of_le hl zk)).trans (h.kw.same g hg hl)⟩
    rcases k6 g e with e | e
    · exact hg e
    · omega
def MA (b bm h1 h2 ob : Nat) (dn un v : Value) (g : Nat) : Prop := Mb b bm dn un g ∨ g = h1 ∨ g = h2 ∨ g = ob ∨ v.ownBlock = some g
theorem SA.debase {M1 : Nat → Prop} {x' : P32.S × List P32.Order} (h : SA w0 M0 b bm rb C h1 h2 ob vs d x W) (hM : ∀ g, M1 g → M0 g ∨ w0.heap.size ≤ g) (h' : SA W M1 b bm rb C h1 h2 ob vs d x' W') : SA w0 M0 b bm rb C h1 h2 ob vs d x' W' := by
  obtain ⟨dn, un, v, k1, k2, k3, k4, k5, k6⟩ := h'.ex
  have hz := h.kw.size
  have up : ∀ g, M1 g ∨ W.heap.size ≤ g → M0 g ∨ w0.heap.size ≤ g := fun g hg => hg.elim (hM g) (fun e => .inr (by omega))
  refine ⟨⟨dn, un, v, k1, k2, k3, fun g hg => ?_, k5, fun g hg => up g (k6 g hg)⟩, h'.c1, h'.c2, ?_, h.low, h.ne⟩
  · obtain ⟨a1, a2, a3, a4, a5⟩ := k4 g hg
    exact ⟨a1, a2, a3, a4, up g a5⟩
  · refine ⟨h'.kw.os.trans h.kw.os, h'.kw.tape.trans h.kw.tape, h'.kw.output.trans h.kw.output, Nat.le_trans hz h'.kw.size, fun g hg hl => ?_⟩
    refine (h'.kw.same g (fun e => ?_) (by omega)).trans (h.kw.same g hg hl)
    rcases hM g e with e | e
    · exact hg e
    · omega
end
set_option maxRecDepth 100000 in
set_option maxHeartbeats 2000000 in
theorem asker_any {w0 : World} {M0 : Nat → Prop} {b bm rb C : Nat} {vs : Nat → Value} {d : PDef} {dn un : Value} {s : P32.S} (w : World) (h : Sg w b bm rb C vs d dn un s) (hk : KW M0 w0 w) (hC : C ≤ w0.heap.size) (hm : ∀ g, Mb b bm dn un g → M0 g ∨ w0.heap.size ≤ g) :
    Calls Tryz.prog 104 #[.pointer (some ⟨b, 0, none⟩)] w fun e w' => ∃ h1 h2 ob, e = .returned (.tuple #[.pointer (some ⟨ob, 0, none⟩), .func (.func 146) #[] #[.pointer (some ⟨h1, 0, none⟩), .pointer (some ⟨h2, 0, none⟩)]]) ∧ SA w0 M0 b bm rb C h1 h2 ob vs d (s, []) w' ∧ Below w.heap.size w w' := by
  obtain ⟨H, hH⟩ : ∃ H, w.heap.size = H := ⟨_, rfl⟩
  obtain ⟨W1, hW1, hb1, g0, g1, g2, hs1⟩ := new3 w (.cells #[.pointer (some ⟨b, 0, none⟩)] 96) (.cells #[.slice none 0 0] 105) (.cells #[.pointer (some ⟨H + 1, 0, none⟩)] 170) H hH
  have hz := hk.size
  have hM : ∀ g, Mb b bm dn un g → g < H := fun g hg => by rw [← hH]; exact h.lt (.inl hg)
  have hsa : SA w0 M0 b bm rb C H (H + 1 + 1) (H + 1) vs d (s, []) W1 := by
    refine ⟨⟨dn, un, _, h.below (by rw [hH]; exact hb1), g1, OwnO.nil _ _, fun g hg => (by cases hg), fun g hg => ?_, hm⟩, g0, g2, hk.next hb1 (by omega), ⟨hC, .inr (by omega), .inr (by omega), .inr (by omega), by omega, by omega, by omega⟩, by omega, by omega, by omega⟩
    have := hM g hg
    exact ⟨by omega, by omega, by omega⟩
  have HSA := hide hsa
  have HW1 := hide hW1
  have HB1 := hide hb1
  obtain ⟨c2, _⟩ := cell1 g2
  clear hsa hW1 hb1 g0 g1 g2 h hk hm hM
  go_enter Tryz.func104, Tryz.ntmps104
  go_upto_region 2 with fail
  try rw [hH]
  rw [unhide HW1]
  go_wp2
  exact bodyPost_ret (results_tmp2 rfl _ _ _) rfl ⟨H, H + 1 + 1, H + 1, rfl, unhide HSA, by rw [hH]; exact unhide HB1⟩
end Go.Proofs.YtefokfbgpfcbkaaGreat
