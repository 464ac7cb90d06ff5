/- Lemmas of this claim (a part of its texts, kept as far as the claim reaches them). -/
import Derived.Test.YtefokfbgpfcbkaaGreatM33zZ
import Derived.Test.YtefokfbgpfcbkaaGreatRM7Z
namespace Go.Proofs.YtefokfbgpfcbkaaGreat
set_option linter.unusedVariables false
set_option linter.unusedSimpArgs false
open Go.RowKit
structure MdY (b : Nat) (d0 : P22.Def) (s : P33.S) (M R : Nat → Prop) (V : World) : Prop where
  ex : ∃ (bm rb G C : Nat) (vs : Nat → Value) (d : PDef) (dn un : Value), Md V b bm rb G C vs d dn un s ∧ d.bare = cutD d0 ∧ M = Mb b bm dn un ∧ R = fun g => d.blk g ∨ gridB rb vs d.steps.length g
  inv : P33.Inv d0 s
namespace MdY
variable {V V' : World} {b : Nat} {d0 : P22.Def} {s : P33.S} {M R : Nat → Prop}
theorem lt (h : MdY b d0 s M R V) {g : Nat} (hg : M g ∨ R g) : g < V.heap.size := by
  obtain ⟨⟨bm, rb, G, C, vs, d, dn, un, h1, h2, rfl, rfl⟩, h3⟩ := h
  rcases hg with (rfl | rfl | e | e) | e | e
  · exact Nat.lt_of_lt_of_le h1.bc h1.cw
  · exact Nat.lt_of_lt_of_le h1.mc h1.cw
  · exact (h1.odn.lt e).2
  · exact (h1.oun.lt e).2
  · exact h1.df.lt e
  · exact (h1.gr.lt (by rw [P28.refs_len, Md.blen]; exact e)).2
theorem keep (h : MdY b d0 s M R V) (hs : V.heap.size ≤ V'.heap.size) (hk : ∀ g, M g ∨ R g → V'.heap[g]? = V.heap[g]?) : MdY b d0 s M R V' := by
  obtain ⟨⟨bm, rb, G, C, vs, d, dn, un, h1, h2, rfl, rfl⟩, h3⟩ := h
  refine ⟨⟨bm, rb, G, C, vs, d, dn, un, ?_, h2, rfl, rfl⟩, h3⟩
  exact {
    bx := (hk b (.inl (.inl rfl))).trans h1.bx
    mp := h1.mp.keep (hk bm (.inl (.inr (.inl rfl))))
    odn := h1.odn.keep (fun g hg => hk g (.inl (.inr (.inr (.inl hg)))))
    oun := h1.oun.keep (fun g hg => hk g (.inl (.inr (.inr (.inr hg)))))
    apart := h1.apart
    df := h1.df.keep (fun g hg => hk g (.inr (.inl hg)))
    dlt := h1.dlt
    gr := h1.gr.keep (fun g hg => hk g (.inr (.inr (by rw [P28.refs_len, Md.blen] at hg; exact hg))))
    glt := h1.glt
    gb := h1.gb
    gm := h1.gm
    bne := h1.bne
    bc := h1.bc
    mc := h1.mc
    cw := Nat.le_trans h1.cw hs
    tr := h1.tr
    nd := h1.nd
    dl := h1.dl
    ul := h1.ul
    ne := h1.ne
    nle := h1.nle }
theorem below (h : MdY b d0 s M R V) (hb : Below V.heap.size V V') : MdY b d0 s M R V' := h.keep hb.size (fun g hg => hb.block g (h.lt hg))
theorem asks (h : MdY b d0 s M R V) (o : P33.Order) (til : Int) : Calls Tryz.prog 16 #[.pointer (some ⟨b, 0, none⟩), .agg #[.int .i64 o.step, .int .i64 o.attempt, .bool o.undo, .int .i64 til]] V fun e V' => e = .returned (.int .i64 (P33.asks d0 s o).1) ∧ ∃ M', MdY b d0 (P33.asks d0 s o).2 M' R V' ∧ KW M V V' ∧ ∀ g, M' g → M g ∨ V.heap.size ≤ g := by
  obtain ⟨⟨bm, rb, G, C, vs, d, dn, un, h1, h2, rfl, rfl⟩, h3⟩ := h
  refine (Asks_any o til V h1).mono ?_
  rintro e V' ⟨rfl, h5, h6⟩
  rw [h2, cut_asks] at h5 ⊢
  exact ⟨rfl, _, ⟨⟨bm, rb, G, C, vs, d, dn, un, h5, h2, rfl, rfl⟩, P33.inv_asks h3 o⟩, h6, fun _ hg => .inl hg⟩
theorem says (h : MdY b d0 s M R V) (a : P33.Ans) : Calls Tryz.prog 18 #[.pointer (some ⟨b, 0, none⟩), .agg #[.int .i64 a.step, .int .i64 a.attempt, .bool a.undo, .int .u8 a.outcome]] V fun e V' => e = .returned (.int .i64 (P33.says d0 s a).1) ∧ ∃ M', MdY b d0 (P33.says d0 s a).2 M' R V' ∧ KW M V V' ∧ ∀ g, M' g → M g ∨ V.heap.size ≤ g := by
  obtain ⟨⟨bm, rb, G, C, vs, d, dn, un, h1, h2, rfl, rfl⟩, h3⟩ := h
  have h3' := h3
  have hinv : P33.Inv d.bare s := by
    rw [h2]
    refine ⟨h3.nodup, fun i hi => by rw [cut_len33]; exact h3.lt i hi, fun i hi => by rw [cut_len33]; exact h3.open_ i hi, ?_, ?_, fun i hi => by rw [cut_turn]; exact h3.uopen i hi, h3.uu⟩
    · have := h3.und
      unfold P33.todo at this ⊢
      rw [cut_undo]
      exact this
    · have := h3.len
      unfold P33.todo at this ⊢
      rw [cut_undo]
      exact this
  refine (Says_any a V h1 hinv).mono ?_
  rintro e V' ⟨rfl, ⟨dn2, un2, h5, h7⟩, h6⟩
  rw [h2, cut_says] at h5 ⊢
  exact ⟨rfl, _, ⟨⟨bm, rb, G, C, vs, d, dn2, un2, h5, h2, rfl, rfl⟩, P33.inv_says h3 a⟩, h6, h7⟩
theorem ends (h : MdY b d0 s M R V) (st : Nat) : Calls Tryz.prog 22 #[.pointer (some ⟨b, 0, none⟩), .int .u8 st] V fun e V' => e = .returned (.int .i64 (P33.ends d0 s st).1) ∧ ∃ M', MdY b d0 (P33.ends d0 s st).2 M' R V' ∧ KW M V V' ∧ ∀ g, M' g → M g ∨ V.heap.size ≤ g := by
  obtain ⟨⟨bm, rb, G, C, vs, d, dn, un, h1, h2, rfl, rfl⟩, h3⟩ := h
  refine (Ends_any st V h1).mono ?_
  rintro e V' ⟨rfl, h5, h6⟩
  have h7 : P33.Inv d0 (P33.act d0 s ⟨3, ⟨0, 0, false⟩, ⟨0, 0, false, 0⟩, st⟩).2 := P33.inv_act h3 _
  rw [h2, cut_ends] at h5 ⊢
  exact ⟨rfl, _, ⟨⟨bm, rb, G, C, vs, d, dn, un, h5, h2, rfl, rfl⟩, h7⟩, h6, fun _ hg => .inl hg⟩
theorem halts (h : MdY b d0 s M R V) : Calls Tryz.prog 20 #[.pointer (some ⟨b, 0, none⟩)] V fun e V' => e = .returned (.int .i64 (P33.halts s).1) ∧ ∃ M', MdY b d0 (P33.halts s).2 M' R V' ∧ KW M V V' ∧ ∀ g, M' g → M g ∨ V.heap.size ≤ g := by
  obtain ⟨⟨bm, rb, G, C, vs, d, dn, un, h1, h2, rfl, rfl⟩, h3⟩ := h
  have h7 : P33.Inv d0 (P33.act d0 s ⟨2, ⟨0, 0, false⟩, ⟨0, 0, false, 0⟩, 0⟩).2 := P33.inv_act h3 _
  have h7 : P33.Inv d0 (P33.halts s).2 := h7
  obtain ⟨c8, f8⟩ := h1.cells.2.2.2.2.2.2
  refine (Halts_any b s.status V c8 f8).mono ?_
  intro e V' he
  unfold P33.halts at h7 ⊢
  by_cases hs : s.status = 1
  · rw [if_pos (by omega)] at he
    obtain ⟨rfl, rfl⟩ := he
    rw [if_neg (by omega)] at h7 ⊢
    exact ⟨rfl, _, ⟨⟨bm, rb, G, C, vs, d, dn, un, h1.setBox 8 (md_set8 h1.bx 2) rfl rfl rfl, h2, rfl, rfl⟩, h7⟩, (KW.refl _ _).setCell (.inl (.inl rfl)) _, fun _ hg => .inl hg⟩
  · rw [if_neg (by omega)] at he
    obtain ⟨rfl, rfl⟩ := he
    rw [if_pos hs] at h7 ⊢
    exact ⟨rfl, _, ⟨⟨bm, rb, G, C, vs, d, dn, un, h1, h2, rfl, rfl⟩, h3⟩, KW.refl _ _, fun _ hg => .inl hg⟩
theorem turn (h : MdY b d0 s M R V) : Calls Tryz.prog 24 #[.pointer (some ⟨b, 0, none⟩)] V fun e V' => e = .returned (.tuple #[.int .i64 ((P33.turn d0 s).getD 0 : Nat), .bool (P33.turn d0 s).isSome]) ∧ Below V.heap.size V V' := by
  obtain ⟨⟨bm, rb, G, C, vs, d, dn, un, h1, h2, rfl, rfl⟩, h3⟩ := h
  refine h1.turn.mono ?_
  rintro e V' ⟨rfl, h6⟩
  rw [h2, cut_turn]
  exact ⟨rfl, h6⟩
theorem status (h : MdY b d0 s M R V) : Calls Tryz.prog 25 #[.pointer (some ⟨b, 0, none⟩)] V fun e V' => e = .returned (.int .u8 s.status) ∧ V' = V := by
  obtain ⟨⟨bm, rb, G, C, vs, d, dn, un, h1, h2, rfl, rfl⟩, h3⟩ := h
  exact Status_any b s.status V h1.cells.2.2.2.2.2.2.1
theorem len (h : MdY b d0 s M R V) : d0.steps.length ≤ 100000 ∧ s.done.length ≤ d0.steps.length ∧ s.undone.length ≤ d0.steps.length := by
  obtain ⟨⟨bm, rb, G, C, vs, d, dn, un, h1, h2, rfl, rfl⟩, h3⟩ := h
  have h4 := h1.dlen
  have h5 := h1.nle
  have h6 := h1.ulen
  have h7 : d.steps.length = d0.steps.length := by rw [← Md.blen d, h2, cut_len33]
  omega
theorem done (h : MdY b d0 s M R V) : Calls Tryz.prog 27 #[.pointer (some ⟨b, 0, none⟩)] V fun e V' => ∃ v', e = .returned v' ∧ Iv V' v' (s.done.map fun k : Nat => (k : Int)) ∧ Below V.heap.size V V' := by
  have hl := h.len
  obtain ⟨⟨bm, rb, G, C, vs, d, dn, un, h1, h2, rfl, rfl⟩, h3⟩ := h
  refine (Done_any b dn _ V h1.cells.2.2.2.1.1 (MdX.iv_of h1.odn) (by simp; omega)).mono ?_
  rintro e V' ⟨v', rfl, h6, h7⟩
  exact ⟨v', rfl, h6, h7⟩
theorem undone (h : MdY b d0 s M R V) : Calls Tryz.prog 28 #[.pointer (some ⟨b, 0, none⟩)] V fun e V' => ∃ v', e = .returned v' ∧ Iv V' v' (s.undone.map fun k : Nat => (k : Int)) ∧ Below V.heap.size V V' := by
  have hl := h.len
  obtain ⟨⟨bm, rb, G, C, vs, d, dn, un, h1, h2, rfl, rfl⟩, h3⟩ := h
  refine (Undone_any b un _ V h1.cells.2.2.2.2.1.1 (MdX.iv_of h1.oun) (by simp; omega)).mono ?_
  rintro e V' ⟨v', rfl, h6, h7⟩
  exact ⟨v', rfl, h6, h7⟩
theorem new (d : PDef) (w : World) (hin : d.In w) (hok : d.ok) (hcp : d.cp) (hc : P28.clean d.bare = true) (haf : ∀ s ∈ d.steps, s.after.length ≤ 1000000) : Calls Tryz.prog 13 #[d.val] w fun e w' => ∃ b M R, e = .returned (.tuple #[.pointer (some ⟨b, 0, none⟩), .int .i64 0]) ∧ MdY b d.bare P33.S.new M R w' ∧ (∀ g, M g → w.heap.size ≤ g) ∧ Below w.heap.size w w' := by
  refine (New_good d w hin hok hcp hc haf).mono ?_
  rintro e w' ⟨b, bm, rb, C, vs, d', rfl, ⟨h1, h2⟩, h3⟩
  refine ⟨b, _, _, rfl, ⟨⟨bm, rb, _, C, vs, d', _, _, h1, h2, rfl, rfl⟩, P33.inv_new _⟩, ?_, h3⟩
  rintro g (rfl | rfl | e | e)
  · exact h1.gb
  · exact h1.gm
  · cases e
  · cases e
end MdY
end Go.Proofs.YtefokfbgpfcbkaaGreat
