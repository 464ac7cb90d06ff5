/- Lemmas of this claim (a part of its texts, kept as far as the claim reaches them). -/
import Derived.Test.YtefokfbgpfcbkaaGreatS32aZ
namespace Go.Proofs.YtefokfbgpfcbkaaGreat
set_option linter.unusedVariables false
set_option linter.unusedSimpArgs false
open Go.RowKit
theorem put_done (i : Nat) (u : Bool) (r : P31.Run) (x : P32.S × List P32.Order) (h : r.phase = 3 ∧ (x.1.run i u).phase ≠ 3 ∧ u = false) : P32.put i u r x = (⟨P32.setR x.1.run i u r, x.1.done ++ [i], x.1.undone, x.1.status⟩, x.2) := by
  unfold P32.put
  rw [if_pos h, if_neg (by omega)]
theorem put_ask (i : Nat) (u : Bool) (r : P31.Run) (x : P32.S × List P32.Order) (h : ¬ (r.phase = 3 ∧ (x.1.run i u).phase ≠ 3 ∧ u = false)) : P32.put i u r x = (⟨P32.setR x.1.run i u r, x.1.done, x.1.undone, x.1.status⟩, if r.phase = 1 ∧ r.att ≠ (x.1.run i u).att then x.2 ++ [⟨i, r.att, u, r.til⟩] else x.2) := by
  unfold P32.put
  rw [if_neg h]
theorem SA.ask {w0 A w1 : World} {M0 : Nat → Prop} {b bm rb C h1 h2 ob n g' c' : Nat} {vs : Nat → Value} {d : PDef} {s : P32.S} {os os' : List P32.Order} {dn un v : Value} (h : SA w0 M0 b bm rb C h1 h2 ob vs d (s, os) A) (k1 : Sg A b bm rb C vs d dn un s) (k2 : A.heap[ob]? = some (.cells #[v] 105))
    (k4 : ∀ g, v.ownBlock = some g → ¬ Mb b bm dn un g ∧ g ≠ h1 ∧ g ≠ h2 ∧ g ≠ ob ∧ (M0 g ∨ w0.heap.size ≤ g)) (k5 : ∀ g, Mb b bm dn un g → g ≠ h1 ∧ g ≠ h2 ∧ g ≠ ob) (k6 : ∀ g, Mb b bm dn un g → M0 g ∨ w0.heap.size ≤ g)
    (h5 : OwnO w1 C (.slice (some ⟨g', 0, none⟩) n c') os') (h6 : A.grownBy w1 v.ownBlock) (h7 : some g' = v.ownBlock ∨ some g' = some A.heap.size) :
    SA w0 M0 b bm rb C h1 h2 ob vs d (s, os') (w1.setCell ⟨ob, 0, none⟩ (.slice (some ⟨g', 0, none⟩) n c')) := by
  obtain ⟨l1, l2, l3, l4, l5, l6, l7⟩ := h.low
  have hCg : ∀ g, v.ownBlock = some g → C ≤ g := by
    obtain ⟨_, _, v', _, q2, q3, _⟩ := h.ex
    rw [k2] at q2
    cases q2
    exact fun g hg => (q3.lt hg).1
  obtain ⟨n1, n2, n3⟩ := h.ne
  have z1 := (Array.getElem?_eq_some_iff.1 h.c1).1
  have z2 := (Array.getElem?_eq_some_iff.1 h.c2).1
  have z3 := (Array.getElem?_eq_some_iff.1 k2).1
  have zk := h.kw.size
  have zg := h6.size
  have keep : ∀ g, g < A.heap.size → v.ownBlock ≠ some g → g ≠ ob → (w1.setCell ⟨ob, 0, none⟩ (.slice (some ⟨g', 0, none⟩) n c')).heap[g]? = A.heap[g]? := fun g hl hv ho => (Below.heap_setCell _ _ _ _ ho).trans (h6.block g hl (fun e => hv e.symm))
  have hg4 : ¬ Mb b bm dn un g' ∧ g' ≠ h1 ∧ g' ≠ h2 ∧ g' ≠ ob ∧ (M0 g' ∨ w0.heap.size ≤ g') := by
    rcases h7 with e | e
    · exact k4 g' e.symm
    · cases e
      exact ⟨fun q => by have := k1.lt (.inl q); omega, by omega, by omega, by omega, .inr (by omega)⟩
  have hsg : Sg (w1.setCell ⟨ob, 0, none⟩ (.slice (some ⟨g', 0, none⟩) n c')) b bm rb C vs d dn un s := k1.keep (by simpa using zg) (fun g hg => by
    refine keep g (k1.lt hg) (fun e => ?_) (fun e => ?_)
    · rcases hg with hg | hg | hg
      · exact (k4 g e).1 hg
      · have := (k1.glt g hg).2.2; have := hCg g e; omega
      · have := (k1.dlt g hg).2.2; have := hCg g e; omega
    · rcases hg with hg | hg | hg
      · exact (k5 g hg).2.2 e
      · have := (k1.glt g hg).2.2; omega
      · have := (k1.dlt g hg).2.2; omega)
  refine ⟨⟨dn, un, _, hsg, ?_, h5.keep (fun g hg => Below.heap_setCell _ _ _ _ ?_), fun g hg => ?_, k5, k6⟩, (keep h1 z1 (fun e => (k4 h1 e).2.1 rfl) n2).trans h.c1, (keep h2 z2 (fun e => (k4 h2 e).2.2.1 rfl) n3).trans h.c2, ?_, h.low, h.ne⟩
  · exact put1 ((h6.block ob z3 (fun e => (k4 ob e.symm).2.2.2.1 rfl)).trans k2) _
  · have e : some g' = some g := hg
    cases e
    exact hg4.2.2.2.1
  · have e : some g' = some g := hg
    cases e
    exact hg4
  · exact (h.kw.grown h6 (fun g e => (k4 g e).2.2.2.2)).setCell l4 _
def AskPh (U : World) (oo : Obj) (h2 ob C n : Nat) (v : Value) (os : List P32.Order) (k : Nat) (X Y : Value) (W : World) : Prop := W.cell? ⟨h2, 0, none⟩ = some (.pointer (some ⟨ob, 0, none⟩)) ∧ (match k with
  | 0 => W = U
  | 1 => W = U.alloc oo ∧ X = .slice (some ⟨U.heap.size, 0, none⟩) 1 1
  | 2 => ∃ g c, Y = .slice (some ⟨g, 0, none⟩) (n + 1) c ∧ OwnO W C Y os ∧ (U.alloc oo).grownBy W v.ownBlock ∧ (some g = v.ownBlock ∨ some g = some (U.alloc oo).heap.size)
  | _ => ∃ g c w1, Y = .slice (some ⟨g, 0, none⟩) (n + 1) c ∧ OwnO w1 C Y os ∧ (U.alloc oo).grownBy w1 v.ownBlock ∧ (some g = v.ownBlock ∨ some g = some (U.alloc oo).heap.size) ∧ W = w1.setCell ⟨ob, 0, none⟩ Y)
set_option maxRecDepth 100000 in
set_option maxHeartbeats 8000000 in
theorem put_any {w0 : World} {M0 : Nat → Prop} {b bm rb C h1 h2 ob : Nat} {vs : Nat → Value} {d : PDef} {x : P32.S × List P32.Order} (i : Nat) (u : Bool) (r : P31.Run) (w : World) (h : SA w0 M0 b bm rb C h1 h2 ob vs d x w) (hi : i < d.steps.length) (hr : r.ok) (hinv : P32.Inv d.bare (P32.put i u r x).1) (hlen : x.2.length ≤ 1000000) :
    Calls Tryz.prog 146 #[.agg #[.int .i64 (i : Int), .bool u], runV r, .pointer (some ⟨h1, 0, none⟩), .pointer (some ⟨h2, 0, none⟩)] w fun e w' => (∃ v, e = .returned v) ∧ SA w0 M0 b bm rb C h1 h2 ob vs d (P32.put i u r x) w' := by
  obtain ⟨K, hK⟩ : ∃ K, w.heap.size = K := ⟨_, rfl⟩
  obtain ⟨W1, hW1, hb1, g0, g1, hs1⟩ := new2 w (.cells #[.int .i64 (i : Int), .bool u] 157) (.cells #[.int .u8 (r.phase : Int), .int .i64 r.att, .int .i64 r.til, .bool r.last] 159) K hK
  have ha1 := h.below (by rw [hK]; exact hb1)
  have hbK : b < K ∧ bm < K ∧ h1 < K ∧ h2 < K := by
    obtain ⟨dn, un, k1⟩ := h.sg
    rw [← hK]
    exact ⟨k1.lt (.inl (.inl rfl)), k1.lt (.inl (.inr (.inl rfl))), (Array.getElem?_eq_some_iff.1 h.c1).1, (Array.getElem?_eq_some_iff.1 h.c2).1⟩
  obtain ⟨dn, un, v, k1, k2, k3, k4, k5, k6⟩ := ha1.ex
  obtain ⟨c1, _⟩ := cell1 ha1.c1
  have c4 := k1.cells.2.2.1.1
  obtain ⟨⟨q0, _⟩, ⟨q1, _⟩⟩ := two_cells g0
  obtain ⟨⟨x0, _⟩, ⟨x1, _⟩, ⟨x2, _⟩, ⟨x3, _⟩⟩ := RunB.cells (c := r) g1
  have hbl : bm < W1.heap.size := k1.mp.lt
  obtain ⟨⟨wp, wa, wt, wl⟩, hwr⟩ : ∃ y, x.1.run i u = y := ⟨_, rfl⟩
  have hlk : ∀ V, V.heap[bm]? = W1.heap[bm]? → (Instr.lookup 151 (.map (some bm)) (.agg #[.int .i64 (i : Int), .bool u]) false).run Tryz.prog V = .ok (.agg #[.int .u8 (wp : Int), .int .i64 wa, .int .i64 wt, .bool wl]) V := fun V hV => by
    have := (k1.mp.keep hV).look i u
    rw [hwr] at this
    exact this
  have hl1 := hlk W1.drew rfl
  have hl2 : ∀ (o : Obj), (Instr.lookup 151 (.map (some bm)) (.agg #[.int .i64 (i : Int), .bool u]) false).run Tryz.prog (W1.alloc o).drew = .ok (.agg #[.int .u8 (wp : Int), .int .i64 wa, .int .i64 wt, .bool wl]) (W1.alloc o).drew := fun o => hlk _ (Below.heap_alloc _ _ _ hbl)
  have hal : ∀ r o, r < W1.heap.size → (W1.alloc (.cells #[.int .u8 0, .int .i64 0, .int .i64 0, .bool false] 159)).cell? ⟨r, o, none⟩ = W1.cell? ⟨r, o, none⟩ := fun r o h => cell_of_block (Below.heap_alloc _ _ _ h) o
  have c1a := (hal h1 0 (by have := cellLt c1; exact this)).trans c1
  have c4a := (hal b 4 (by have := cellLt c4; exact this)).trans c4
  have q0a := (hal K 0 (by omega)).trans q0
  have q1a := (hal K 1 (by omega)).trans q1
  have HA1 := hide ha1
  have HW1 := hide hW1
  have HG0 := hide g0
  have HG1 := hide g1
  have HWR := hide hwr
  have hmx := hmixed
  clear ha1 hW1 hb1 g0 g1 h hlk hal k1 k2 k3 k4 k5 k6 hwr
  obtain ⟨PX, hPX⟩ : ∃ y, P32.put i u r x = y := ⟨_, rfl⟩
  rw [hPX] at hinv ⊢
  have HPX := hide hPX
  clear hPX
  unfold runV
  go_enter Tryz.func146, Tryz.ntmps146
  go_upto_region 1 with fail
  try rw [hK]
  rw [unhide HW1]
  go_region
  obtain ⟨W2, hW2⟩ : ∃ W2, (W1.alloc (.cells #[.int .u8 (wp : Int), .int .i64 wa, .int .i64 wt, .bool wl] 159)).drew = W2 := ⟨_, rfl⟩
  rw [hW2]
  have b2 : Below (K + 1 + 1) W1 W2 := by rw [← hW2]; exact ((Below.refl _ W1).alloc (by omega) _).drew
  have gK : W2.heap[K + 1 + 1]? = some (.cells #[.int .u8 (wp : Int), .int .i64 wa, .int .i64 wt, .bool wl] 159) := by rw [← hW2, ← hs1]; exact World.alloc_heap_new _ _
  have sK : W2.heap.size = K + 1 + 1 + 1 := by rw [← hW2, ← hs1]; simp
  have ha2 : SA w0 M0 b bm rb C h1 h2 ob vs d x W2 := (unhide HA1).below (by rw [hs1]; exact b2)
  have g02 := (b2.block K (by omega)).trans (unhide HG0)
  have g12 := (b2.block (K + 1) (by omega)).trans (unhide HG1)
  clear hW2 hl1 hl2 c1a c4a q0a q1a q0 q1 x0 x1 x2 x3 c1 c4 b2 HA1 HG0 HG1 hbl
  obtain ⟨dn, un, v, k1, k2, k3, k4, k5, k6⟩ := ha2.ex
  obtain ⟨c1, _⟩ := cell1 ha2.c1
  have c4 := k1.cells.2.2.1.1
  obtain ⟨⟨q0, _⟩, ⟨q1, _⟩⟩ := two_cells g02
  obtain ⟨⟨x0, _⟩, ⟨x1, _⟩, ⟨x2, _⟩, ⟨x3, _⟩⟩ := RunB.cells (c := r) g12
  obtain ⟨L, hmp, hL⟩ := k1.mp
  have HMP := hide hmp
  have HL2 := hide hL
  have HA2 := hide ha2
  have HEX := hide (And.intro k1 (And.intro k2 (And.intro k3 (And.intro k4 (And.intro k5 k6)))))
  have HG0 := hide g02
  have HG1 := hide g12
  have HGK := hide gK
  clear hmp hL ha2 k1 k2 k3 k4 k5 k6 g02 g12 gK
  go_upto_region 2 with fail
  refine wp_region_tail 6 (by kernel_rfl) (by kernel_rfl) (by kernel_rfl) (by kernel_rfl) (by kernel_rfl) ?_
  simp only [List.take_succ_cons, List.take_zero, List.drop_succ_cons, List.drop_zero]
  repeat (go_big_quiet_step (fail))
  refine wpQuiet_nil ?_
  intro _ hw'
  obtain ⟨nq, hw''⟩ := hw'
  subst hw''
  go_upto_region 3 with (at_mapUpdate; refine wpList_putG rfl _ _ _ rfl ((unhide HMP).keep (W' := W2.drewN nq) rfl) key_way_saga Tryz.underlying151 rfl ((i : Int), u) rfl (runV r) rfl ?_; intro W3 hm3 hg3 hs3 ho3)
  obtain ⟨k1, k2, k3, k4, k5, k6⟩ := unhide HEX
  have k1' := k1.below (W' := W2.drewN nq) (below_drewN (Below.refl _ _))
  have hrok : ∀ j c, (P32.setR x.1.run i u r j c).ok := fun j c => by
    unfold P32.setR
    split
    · exact hr
    · exact k1.ok j c
  have s3 : Sg W3 b bm rb C vs d dn un ⟨P32.setR x.1.run i u r, x.1.done, x.1.undone, x.1.status⟩ := k1'.setWay (WaysS.set (unhide HL2) i u r hm3) hg3 hrok
  have hk3 : KW (Mb b bm dn un) W2 W3 := ((KW.refl _ W2).drewN nq).grown hg3 (fun k e => by cases e; exact .inl (.inr (.inl rfl)))
  have ha3 := (unhide HA2).write k1 k2 k3 k4 k5 k6 s3 hk3 (fun g hg => .inl hg)
  have g03 : W3.heap[K]? = _ := (ho3 K (by omega)).trans (unhide HG0)
  have g13 : W3.heap[K + 1]? = _ := (ho3 (K + 1) (by omega)).trans (unhide HG1)
  have gK3 : W3.heap[K + 1 + 1]? = _ := (ho3 (K + 1 + 1) (by omega)).trans (unhide HGK)
  have s3' : W3.heap.size = K + 1 + 1 + 1 := hs3.trans sK
  clear c1 c4 q0 q1 x0 x1 x2 x3 k1 k2 k3 k4 k5 k6 k1' s3 hk3 hm3 hg3 hs3 ho3 HMP HL2 HEX HA2 HG0 HG1 HGK
  obtain ⟨⟨q0, _⟩, ⟨q1, _⟩⟩ := two_cells g03
  obtain ⟨⟨x0, _⟩, ⟨x1, _⟩, ⟨x2, _⟩, ⟨x3, _⟩⟩ := RunB.cells (c := r) g13
  obtain ⟨⟨y0, _⟩, ⟨y1, _⟩, ⟨y2, _⟩, ⟨y3, _⟩⟩ := RunB.cells (c := ⟨wp, wa, wt, wl⟩) gK3
  simp only at y0 y1
  obtain ⟨c1, _⟩ := cell1 ha3.c1
  obtain ⟨c2, _⟩ := cell1 ha3.c2
  have HA3 := hide ha3
  have hws := unhide HWR
  clear ha3 g03 g13 gK3 dn un v
  by_cases hA : r.phase = 3 ∧ wp ≠ 3 ∧ u = false
  · obtain ⟨e3, f3, rfl⟩ := hA
    have hpd := put_done i false r x ⟨e3, by rw [hws]; exact f3, rfl⟩
    have e3b : ((r.phase : Int) == 3) = true := by rw [e3]; rfl
    have f3b : ((wp : Int) != 3) = true := by simp; omega
    have hpx := (unhide HPX).symm.trans hpd
    subst hpx
    have hnd : (x.1.done ++ [i]).Nodup := hinv.nodup
    clear hpd hinv hws e3 f3 HPX
    obtain ⟨dn, un, v, k1, k2, k3, k4, k5, k6⟩ := (unhide HA3).ex
    have hdl := k1.dlen
    have hnl := k1.nle
    simp only at hdl
    obtain ⟨da, dc, hde, _, _, _⟩ := k1.odn.slice
    simp only at hde
    subst hde
    have c5 := k1.cells.2.2.2.1.1
    have hal : ∀ r o, r < W3.heap.size → (W3.alloc (.cells #[.int .i64 (i : Int)] 3)).cell? ⟨r, o, none⟩ = W3.cell? ⟨r, o, none⟩ := fun r o h => cell_of_block (Below.heap_alloc _ _ _ h) o
    have c1a := (hal h1 0 (by have := cellLt c1; exact this)).trans c1
    have c5a := (hal b 5 (by have := cellLt c5; exact this)).trans c5
    have q0a := (hal K 0 (by omega)).trans q0
    have ha8 := (unhide HA3).below (((Below.refl _ W3).alloc (Nat.le_refl _) (.cells #[.int .i64 (i : Int)] 3)).drew)
    have s8 := k1.below (((Below.refl _ W3).alloc (Nat.le_refl _) (.cells #[.int .i64 (i : Int)] 3)).drew)
    have hnx : (W3.alloc (.cells #[.int .i64 (i : Int)] 3)).drew.heap[K + 1 + 1 + 1]? = some (.cells #[.int .i64 (i : Int)] 3) := by rw [← s3']; exact World.alloc_heap_new _ _
    have HNC := hide (cell1 hnx).1
    have h8z : (W3.alloc (.cells #[.int .i64 (i : Int)] 3)).drew.heap.size = K + 1 + 1 + 1 + 1 := by show (W3.alloc _).heap.size = _; simp [s3']
    have hCw := s8.cw
    have kb := (Below.refl W3.heap.size W3).alloc (Nat.le_refl _) (.cells #[.int .i64 (i : Int)] 3)
    have k2' : (W3.alloc (.cells #[.int .i64 (i : Int)] 3)).drew.heap[ob]? = some (.cells #[v] 105) := (kb.block _ (Array.getElem?_eq_some_iff.1 k2).1).trans k2
    have k3' : OwnO (W3.alloc (.cells #[.int .i64 (i : Int)] 3)).drew C v x.2 := OwnO.keep (W := W3) k3 (fun g hg => kb.block g (k3.lt hg).2)
    have hd1 : (Value.slice da x.1.done.length dc).ownBlock ≠ some h1 ∧ h1 < (W3.alloc (.cells #[.int .i64 (i : Int)] 3)).drew.heap.size := ⟨fun e => (k5 h1 (.inr (.inr (.inl e)))).1 rfl, by omega⟩
    have c1d : (W3.alloc (.cells #[.int .i64 (i : Int)] 3)).drew.cell? ⟨h1, 0, none⟩ = some (.pointer (some ⟨b, 0, none⟩)) := c1a
    have H8 := hide s8
    have HA8 := hide ha8
    have HEX := hide (And.intro k2' (And.intro k3' (And.intro k4 (And.intro k5 k6))))
    clear k1 k2 k3 k4 k5 k6 k2' k3' kb hal ha8 s8 hnx HA3
    go_upto_region 4 with fail
    go_region_law (refine step_appN (by rfl) _ _ (by rfl) (by rfl) (unhide H8).odn (K + 1 + 1 + 1) 1 (by rfl) (unhide HNC) x.1.done.length rfl (by omega) hCw ?_; intro g1 cap1 w1 hown1 hgrow hat; have hbb := hgrow.block b (by omega) (fun e => by have := ((unhide H8).odn.lt e.symm).1; have := (unhide H8).bc; omega); have hf := (World.frozen?_of_block (a := ⟨b, 5, none⟩) hbb).trans ((unhide H8).cells.2.2.2.1.2); have hc := (World.cell?_of_block (a := ⟨b, 5, none⟩) hbb).trans ((unhide H8).cells.2.2.2.1.1); have hc1 := (World.cell?_of_block (a := ⟨h1, 0, none⟩) (hgrow.block h1 hd1.2 (fun e => hd1.1 e.symm))).trans c1d)
    all_goals
      (try simp only [Exit.inBlock, Exit.then])
      go_end0
      refine ⟨⟨_, rfl⟩, ?_⟩
      obtain ⟨k2, k3, k4, k5, k6⟩ := unhide HEX
      exact (unhide HA8).write (unhide H8) k2 k3 k4 k5 k6 ((unhide H8).appDn hown1 hgrow hat hnd hi) (((KW.refl _ _).grown hgrow (fun k e => .inl (.inr (.inr (.inl e))))).setCell (b := b) (o := 5) (.inl (.inl rfl)) _)
        (fun g hg => hg.elim (fun e => .inl (.inl e)) (fun hg => hg.elim (fun e => .inl (.inr (.inl e))) (fun hg => hg.elim (fun e => hat.elim (fun q => .inl (.inr (.inr (.inl (q.symm.trans e))))) (fun q => .inr (by have e : some g1 = some g := e; rw [q] at e; cases e; omega))) (fun e => .inl (.inr (.inr (.inr e)))))))
  · have hpd := put_ask i u r x (by rw [hws]; exact hA)
    rw [hws] at hpd
    by_cases hB : r.phase = 1 ∧ r.att ≠ wa
    · rw [if_pos hB] at hpd
      have hpx := (unhide HPX).symm.trans hpd
      subst hpx
      have e3b : ((r.phase : Int) == 3) = false := by simp; omega
      have e1b : ((r.phase : Int) == 1) = true := by rw [hB.1]; rfl
      have fab : (r.att != wa) = true := by simpa using hB.2
      clear hpd hws hB hA HPX hinv
      obtain ⟨dn, un, v, k1, k2, k3, k4, k5, k6⟩ := (unhide HA3).ex
      obtain ⟨va, vc, hve⟩ := k3.form
      simp only at hve
      subst hve
      obtain ⟨c9, _⟩ := cell1 k2
      obtain ⟨oo, hoo⟩ : ∃ o : Obj, Obj.cells #[.int .i64 (i : Int), .int .i64 r.att, .bool u, .int .i64 r.til] 35 = o := ⟨_, rfl⟩
      have hU0 : ∃ U, W3.drew = U := ⟨_, rfl⟩
      obtain ⟨U, hU⟩ := hU0
      have hUb : Below W3.heap.size W3 U := by rw [← hU]; exact (Below.refl _ W3).drew
      have hUz : U.heap.size = K + 1 + 1 + 1 := by rw [← hU]; exact s3'
      have hau := (unhide HA3).below hUb
      have su := k1.below hUb
      have c2u : U.cell? ⟨h2, 0, none⟩ = some (.pointer (some ⟨ob, 0, none⟩)) := by rw [← hU]; exact c2
      have c9u : U.cell? ⟨ob, 0, none⟩ = some (.slice va x.2.length vc) := by rw [← hU]; exact c9
      have q0u : U.cell? ⟨K, 0, none⟩ = some (.int .i64 (i : Int)) := by rw [← hU]; exact q0
      have q1u : U.cell? ⟨K, 1, none⟩ = some (.bool u) := by rw [← hU]; exact q1
      have x1u : U.cell? ⟨K + 1, 1, none⟩ = some (.int .i64 r.att) := by rw [← hU]; exact x1
      have x2u : U.cell? ⟨K + 1, 2, none⟩ = some (.int .i64 r.til) := by rw [← hU]; exact x2
      have k2u : U.heap[ob]? = some (.cells #[.slice va x.2.length vc] 105) := by rw [← hU]; exact k2
      have k3u : OwnO U C (.slice va x.2.length vc) x.2 := k3.keep (fun g hg => by rw [← hU]; rfl)
      have kb := ((Below.refl U.heap.size U).alloc (Nat.le_refl _) oo)
      have ha8 := hau.below kb
      have s8 := su.below kb
      have c2a : (U.alloc oo).cell? ⟨h2, 0, none⟩ = some (.pointer (some ⟨ob, 0, none⟩)) := (cell_of_block (Below.heap_alloc _ _ _ (cellLt c2u)) _).trans c2u
      have c9a : (U.alloc oo).cell? ⟨ob, 0, none⟩ = some (.slice va x.2.length vc) := (cell_of_block (Below.heap_alloc _ _ _ (cellLt c9u)) _).trans c9u
      have hnx : (U.alloc oo).heap[U.heap.size]? = some (.cells #[.int .i64 (i : Int), .int .i64 r.att, .bool u, .int .i64 r.til] 35) := (World.alloc_heap_new _ _).trans (congrArg some hoo.symm)
      have hCw : C ≤ (U.alloc oo).heap.size := s8.cw
      have k2' : (U.alloc oo).heap[ob]? = some (.cells #[.slice va x.2.length vc] 105) := (kb.block _ (Array.getElem?_eq_some_iff.1 k2u).1).trans k2u
      have k3' : OwnO (U.alloc oo) C (.slice va x.2.length vc) x.2 := k3u.keep (fun g hg => kb.block g (k3u.lt hg).2)
      have hd2 : (Value.slice va x.2.length vc).ownBlock ≠ some h2 ∧ (Value.slice va x.2.length vc).ownBlock ≠ some ob := ⟨fun e => (k4 h2 e).2.2.1 rfl, fun e => (k4 ob e).2.2.2.1 rfl⟩
      have hz2 : h2 < (U.alloc oo).heap.size ∧ ob < (U.alloc oo).heap.size := ⟨cellLt c2a, cellLt c9a⟩
      have hoh : ob ≠ h2 := fun e => ha8.ne.2.2 e.symm
      obtain ⟨c9d, f9d⟩ := cell1 k2'
      have HNC := hide hnx
      have HO3 := hide k3'
      have HS8 := hide s8
      have HA8 := hide ha8
      have HEX := hide (And.intro k4 (And.intro k5 k6))
      have HK2 := hide k2'
      clear k1 k2 k3 k4 k5 k6 k2' k3' kb ha8 s8 hnx HA3 k2u k3u hau su hUb
      go_upto_region 6 with fail
      refine wp_region_phase hmixed [13, 14, 16] (fun k aF W => ∃ X Y, aF = { tmps := #[.agg #[.int .i64 (i : Int), .bool u], .agg #[.int .u8 (r.phase : Int), .int .i64 r.att, .int .i64 r.til, .bool r.last], .pointer (some ⟨h1, 0, none⟩), .pointer (some ⟨h2, 0, none⟩), .pointer (some ⟨K, 0, none⟩), .pointer (some ⟨K + 1, 0, none⟩), .pointer (some ⟨K + 1 + 1, 0, none⟩), .pointer (some ⟨b, 0, none⟩), .pointer (some ⟨b, 0, none⟩), .pointer (some ⟨b, 4, none⟩), .map (some bm), .agg #[.int .i64 (i : Int), .bool u], .agg #[.int .u8 (wp : Int), .int .i64 wa, .int .i64 wt, .bool wl], .pointer (some ⟨b, 0, none⟩), .pointer (some ⟨b, 0, none⟩), .pointer (some ⟨b, 4, none⟩), .map (some bm), .agg #[.int .i64 (i : Int), .bool u], .agg #[.int .u8 (r.phase : Int), .int .i64 r.att, .int .i64 r.til, .bool r.last], .bool false, .pointer (some ⟨K + 1, 0, none⟩), .int .u8 (r.phase : Int), .bool false, .bool false, undef, undef, undef, .bool false, .bool false, undef, undef, undef, .bool false, undef, undef, undef, undef, undef, undef, undef, undef, undef, undef, undef, .bool true, .pointer (some ⟨K + 1, 0, none⟩), .int .u8 (r.phase : Int), .bool true, .bool true, .pointer (some ⟨K + 1, 1, none⟩), .int .i64 r.att, .pointer (some ⟨K + 1 + 1, 1, none⟩), .int .i64 wa, .bool true, .bool true, .pointer (some ⟨ob, 0, none⟩), .pointer (some ⟨ob, 0, none⟩), .pointer (some ⟨ob, 0, none⟩), .slice va x.2.length vc, .pointer (some ⟨K, 0, none⟩), .int .i64 (i : Int), .pointer (some ⟨K + 1, 1, none⟩), .int .i64 r.att, .pointer (some ⟨K, 1, none⟩), .bool u, .pointer (some ⟨K + 1, 2, none⟩), .int .i64 r.til, .agg #[.int .i64 (i : Int), .int .i64 r.att, .bool u, .int .i64 r.til], X, Y, .pointer (some ⟨ob, 0, none⟩)], defers := [] } ∧ AskPh U oo h2 ob C x.2.length (.slice va x.2.length vc) (x.2 ++ [⟨i, r.att, u, r.til⟩]) k X Y W) (by kernel_rfl) (by kernel_rfl) (by decide) ⟨undef, undef, rfl, by rw [hU]; exact c2u, hU⟩ rfl rfl (same_mid 55 16 (by kernel_rfl) rfl rfl) ?pure ?write ?fin
      case pure =>
        rintro k aF W ix o ⟨X, Y, rfl, hph⟩ ho hni hanc
        rcases ix with _ | _ | _ | _ | _ | _ | _ | _ | _ | _ | _ | _ | _ | _ | _ | _ | _ | ix
        · have ho' : some _ = some o := ho
          cases ho'
          have hh2 := hph.1
          refine (if_pos (show Region.wanted _ (yielded _ _) = true from rfl)).mpr ?_
          refine ⟨_, _, rfl, rfl, .inl ?_⟩
          go_simp
        · have ho' : some _ = some o := ho
          cases ho'
          have hh2 := hph.1
          refine (if_pos (show Region.wanted _ (yielded _ _) = true from rfl)).mpr ?_
          refine ⟨_, _, rfl, rfl, .inl ?_⟩
          go_simp
        · have ho' : some _ = some o := ho
          cases ho'
          refine (if_pos (show Region.wanted _ (yielded _ _) = true from rfl)).mpr ?_
          refine ⟨_, _, rfl, rfl, .inl ?_⟩
          go_simp
        · have ho' : some _ = some o := ho
          cases ho'
          have hk1 : k ≤ 1 := hanc 1 14 rfl (by kernel_rfl)
          have hc9 : W.cell? ⟨ob, 0, none⟩ = some (.slice va x.2.length vc) := by
            rcases k with _ | _ | k
            · have hWU : W = U := hph.2
              rw [hWU]; exact c9u
            · have hWU := hph.2.1
              rw [hWU]; exact c9a
            · omega
          refine (if_pos (show Region.wanted _ (yielded _ _) = true from rfl)).mpr ?_
          refine ⟨_, _, rfl, rfl, .inl ?_⟩
          go_simp
        · have ho' : some _ = some o := ho
          cases ho'
          refine (if_pos (show Region.wanted _ (yielded _ _) = true from rfl)).mpr ?_
          refine ⟨_, _, rfl, rfl, .inl ?_⟩
          go_simp
        · have ho' : some _ = some o := ho
          cases ho'
          have hk0 : k ≤ 0 := hanc 0 13 rfl (by kernel_rfl)
          obtain rfl : k = 0 := by omega
          have hWU : W = U := hph.2
          subst hWU
          refine (if_pos (show Region.wanted _ (yielded _ _) = true from rfl)).mpr ?_
          refine ⟨_, _, rfl, rfl, .inl ?_⟩
          go_simp
        · have ho' : some _ = some o := ho
          cases ho'
          refine (if_pos (show Region.wanted _ (yielded _ _) = true from rfl)).mpr ?_
          refine ⟨_, _, rfl, rfl, .inl ?_⟩
          go_simp
        · have ho' : some _ = some o := ho
          cases ho'
          have hk0 : k ≤ 0 := hanc 0 13 rfl (by kernel_rfl)
          obtain rfl : k = 0 := by omega
          have hWU : W = U := hph.2
          subst hWU
          refine (if_pos (show Region.wanted _ (yielded _ _) = true from rfl)).mpr ?_
          refine ⟨_, _, rfl, rfl, .inl ?_⟩
          go_simp
        · have ho' : some _ = some o := ho
          cases ho'
          refine (if_pos (show Region.wanted _ (yielded _ _) = true from rfl)).mpr ?_
          refine ⟨_, _, rfl, rfl, .inl ?_⟩
          go_simp
        · have ho' : some _ = some o := ho
          cases ho'
          have hk0 : k ≤ 0 := hanc 0 13 rfl (by kernel_rfl)
          obtain rfl : k = 0 := by omega
          have hWU : W = U := hph.2
          subst hWU
          refine (if_pos (show Region.wanted _ (yielded _ _) = true from rfl)).mpr ?_
          refine ⟨_, _, rfl, rfl, .inl ?_⟩
          go_simp
        · have ho' : some _ = some o := ho
          cases ho'
          refine (if_pos (show Region.wanted _ (yielded _ _) = true from rfl)).mpr ?_
          refine ⟨_, _, rfl, rfl, .inl ?_⟩
          go_simp
        · have ho' : some _ = some o := ho
          cases ho'
          have hk0 : k ≤ 0 := hanc 0 13 rfl (by kernel_rfl)
          obtain rfl : k = 0 := by omega
          have hWU : W = U := hph.2
          subst hWU
          refine (if_pos (show Region.wanted _ (yielded _ _) = true from rfl)).mpr ?_
          refine ⟨_, _, rfl, rfl, .inl ?_⟩
          go_simp
        · have ho' : some _ = some o := ho
          cases ho'
          refine (if_pos (show Region.wanted _ (yielded _ _) = true from rfl)).mpr ?_
          refine ⟨_, _, rfl, rfl, .inl ?_⟩
          go_simp
        · exact absurd (by simp) hni
        · exact absurd (by simp) hni
        · have ho' : some _ = some o := ho
          cases ho'
          refine (if_pos (show Region.wanted _ (yielded _ _) = true from rfl)).mpr ?_
          refine ⟨_, _, rfl, rfl, .inl ?_⟩
          go_simp
        · exact absurd (by simp) hni
        · exfalso; simp at ho
      case write =>
        rintro k aF W ix o ⟨X, Y, rfl, hph⟩ hi ho
        rcases k with _ | _ | _ | k
        · cases (show some 13 = some ix from hi)
          have ho' : some _ = some o := ho
          cases ho'
          have hWU : W = U := hph.2
          subst hWU
          refine ⟨rfl, .inl ⟨.slice (some ⟨W.heap.size, 0, none⟩) 1 1, W.alloc oo, ?_, ⟨_, Y, rfl, c2a, rfl, rfl⟩⟩⟩
          rw [← hoo]
          go_simp
        · cases (show some 14 = some ix from hi)
          have ho' : some _ = some o := ho
          cases ho'
          obtain ⟨hc2, rfl, rfl⟩ := hph
          obtain ⟨g', cap', w', hr, h5, h6, h7⟩ := run_appO (j := ⟨i, r.att, u, r.til⟩) 105 (unhide HO3) U.heap.size 1 (unhide HNC) x.2.length rfl (by omega) hCw
          refine ⟨rfl, .inl ⟨.slice (some ⟨g', 0, none⟩) (x.2.length + 1) cap', w', ?_, ⟨_, _, rfl, (World.cell?_of_block (a := ⟨h2, 0, none⟩) (h6.block h2 hz2.1 (fun e => hd2.1 e.symm))).trans hc2, g', cap', rfl, h5, h6, h7⟩⟩⟩
          simp [execOp, resolve, invoke, builtin, Act.eval, hr, Result.andThen, Deferred.ofValue]
        · cases (show some 16 = some ix from hi)
          have ho' : some _ = some o := ho
          cases ho'
          obtain ⟨hc2, g', cap', rfl, h5, h6, h7⟩ := hph
          have hbb := h6.block ob hz2.2 (fun e => hd2.2 e.symm)
          have hf := (World.frozen?_of_block (a := ⟨ob, 0, none⟩) hbb).trans f9d
          have hc := (World.cell?_of_block (a := ⟨ob, 0, none⟩) hbb).trans c9d
          refine ⟨rfl, .inr (.inl ⟨W.setCell ⟨ob, 0, none⟩ (.slice (some ⟨g', 0, none⟩) (x.2.length + 1) cap'), ?_, ⟨_, _, rfl, (cell_of_block (Below.heap_setCell _ _ _ _ (by show h2 ≠ ob; exact Ne.symm hoh)) _).trans hc2, g', cap', W, rfl, h5, h6, h7, rfl⟩⟩)⟩
          go_simp
        · simp at hi
      case fin =>
        rintro k aF W6 hk ⟨X, Y, rfl, hph⟩
        obtain ⟨k, rfl⟩ : ∃ k', k = k' + 3 := ⟨k - 3, by simp at hk; omega⟩
        obtain ⟨hc2, g', cap', w1, rfl, h5, h6, h7, rfl⟩ := hph
        have HF := hide (And.intro h5 (And.intro h6 h7))
        clear hc2 h5 h6 h7
        go_wp2
        (try simp only [Exit.inBlock, Exit.then])
        go_end0
        refine ⟨⟨_, rfl⟩, ?_⟩
        obtain ⟨h5, h6, h7⟩ := unhide HF
        obtain ⟨k4, k5, k6⟩ := unhide HEX
        have s8 := unhide HS8
        have ha8 := unhide HA8
        exact ha8.ask s8 (unhide HK2) k4 k5 k6 h5 h6 h7
    · rw [if_neg hB] at hpd
      have hpx := (unhide HPX).symm.trans hpd
      subst hpx
      have hcs : r.phase ≠ 3 ∨ (r.phase = 3 ∧ wp = 3) ∨ (r.phase = 3 ∧ wp ≠ 3 ∧ u = true) := by
        by_cases h3 : r.phase = 3
        · by_cases hw : wp = 3
          · exact .inr (.inl ⟨h3, hw⟩)
          · cases u
            · exact absurd ⟨h3, hw, rfl⟩ hA
            · exact .inr (.inr ⟨h3, hw, rfl⟩)
        · exact .inl h3
      have HA4 : Hid (SA w0 M0 b bm rb C h1 h2 ob vs d (⟨P32.setR x.1.run i u r, x.1.done, x.1.undone, x.1.status⟩, x.2) W3) := HA3
      clear hpd hws hA HPX hinv HA3
      rcases hcs with h3 | ⟨h3, hw⟩ | ⟨h3, hw, rfl⟩
      · have e3b : ((r.phase : Int) == 3) = false := by simp; omega
        by_cases h1' : r.phase = 1
        · have e1b : ((r.phase : Int) == 1) = true := by rw [h1']; rfl
          have fab : (r.att != wa) = false := by
            by_cases e : r.att = wa
            · simp [e]
            · exact absurd ⟨h1', e⟩ hB
          clear hB h3 h1'
          go_wp2
          (try simp only [Exit.inBlock, Exit.then])
          go_end0
          exact ⟨⟨_, rfl⟩, unhide HA4⟩
        · have e1b : ((r.phase : Int) == 1) = false := by simp; omega
          clear hB h3 h1'
          go_wp2
          (try simp only [Exit.inBlock, Exit.then])
          go_end0
          exact ⟨⟨_, rfl⟩, unhide HA4⟩
      · have e3b : ((r.phase : Int) == 3) = true := by rw [h3]; rfl
        have f3b : ((wp : Int) != 3) = false := by rw [hw]; rfl
        have e1b : ((r.phase : Int) == 1) = false := by rw [h3]; rfl
        clear hB h3 hw
        go_wp2
        (try simp only [Exit.inBlock, Exit.then])
        go_end0
        exact ⟨⟨_, rfl⟩, unhide HA4⟩
      · have e3b : ((r.phase : Int) == 3) = true := by rw [h3]; rfl
        have f3b : ((wp : Int) != 3) = true := by simp; omega
        have e1b : ((r.phase : Int) == 1) = false := by rw [h3]; rfl
        clear hB h3 hw
        go_wp2
        (try simp only [Exit.inBlock, Exit.then])
        go_end0
        exact ⟨⟨_, rfl⟩, unhide HA4⟩
end Go.Proofs.YtefokfbgpfcbkaaGreat
namespace Go.Proofs.YtefokfbgpfcbkaaGreat
set_option linter.unusedVariables false
set_option linter.unusedSimpArgs false
open Go.RowKit
def haltK (k : Nat) (s : P32.S) : P32.S := ⟨fun i u => if u = false ∧ i < k then P31.stop (s.run i u) else s.run i u, s.done, s.undone, 2⟩
theorem haltK_zero (s : P32.S) : haltK 0 s = ⟨s.run, s.done, s.undone, 2⟩ := by simp [haltK]
theorem haltK_next (k : Nat) (s : P32.S) : haltK (k + 1) s = ⟨P32.setR (haltK k s).run k false (P31.stop (s.run k false)), s.done, s.undone, 2⟩ := by
  unfold haltK
  congr 1
  funext j u
  simp only [P32.setR]
  by_cases h : j = k ∧ u = false
  · obtain ⟨rfl, rfl⟩ := h
    simp
  · rw [if_neg h]
    by_cases hu : u = false
    · by_cases hj : j < k
      · rw [if_pos ⟨hu, by omega⟩, if_pos ⟨hu, hj⟩]
      · rw [if_neg (by rintro ⟨_, h2⟩; exact h ⟨by omega, hu⟩), if_neg (by rintro ⟨_, h2⟩; exact hj h2)]
    · rw [if_neg (fun h2 => hu h2.1), if_neg (fun h2 => hu h2.1)]
theorem haltK_run (k : Nat) (s : P32.S) : (haltK k s).run k false = s.run k false := by simp [haltK]
theorem SA.status {w0 W : World} {M0 : Nat → Prop} {b bm rb C h1 h2 ob : Nat} {vs : Nat → Value} {d : PDef} {x : P32.S × List P32.Order} (h : SA w0 M0 b bm rb C h1 h2 ob vs d x W) (st : Nat) : SA w0 M0 b bm rb C h1 h2 ob vs d (⟨x.1.run, x.1.done, x.1.undone, st⟩, x.2) (W.setCell ⟨b, 7, none⟩ (.int .u8 (st : Int))) := by
  obtain ⟨dn, un, v, k1, k2, k3, k4, k5, k6⟩ := h.ex
  exact h.write k1 k2 k3 k4 k5 k6 (k1.setStatus st) ((KW.refl _ _).setCell (b := b) (o := 7) (.inl (.inl rfl)) _) (fun g hg => .inl hg)
def HaPh (U : World) (bm : Nat) (L : List ((Int × Bool) × Value)) (k : Int) (SP : P31.Run) (kk : Nat) (X : Value) (W : World) : Prop := match kk with
  | 0 => W = U
  | 1 => Below U.heap.size U W ∧ X = runV SP
  | _ => ∃ V, Below U.heap.size U V ∧ X = runV SP ∧ MapG encWay_saga W bm (putL L (k, false) (runV SP)) ∧ V.grownBy W (some bm)
set_option maxRecDepth 100000 in
set_option maxHeartbeats 8000000 in
theorem halt_any {w0 : World} {M0 : Nat → Prop} {b bm rb C h1 h2 ob : Nat} {vs : Nat → Value} {d : PDef} {x : P32.S × List P32.Order} (w : World) (h : SA w0 M0 b bm rb C h1 h2 ob vs d x w) :
    Calls Tryz.prog 106 #[.pointer (some ⟨b, 0, none⟩)] w fun e w' => (∃ v, e = .returned v) ∧ SA w0 M0 b bm rb C h1 h2 ob vs d (P32.halt d.bare x.1, x.2) w' := by
  have hhalt : P32.halt d.bare x.1 = haltK d.steps.length x.1 := by unfold P32.halt haltK; rw [Md.blen]
  rw [hhalt]
  have hS := h.status 2
  rw [← haltK_zero] at hS
  obtain ⟨dn, un, k1⟩ := h.sg
  have c7 := k1.cells.2.2.2.2.2
  have hN9 := k1.nle
  obtain ⟨dn2, un2, k2⟩ := hS.sg
  have c2 := k2.cells.1.1
  obtain ⟨W1, hW1⟩ : ∃ V, w.setCell ⟨b, 7, none⟩ (.int .u8 2) = V := ⟨_, rfl⟩
  have hS' : SA w0 M0 b bm rb C h1 h2 ob vs d (haltK 0 x.1, x.2) W1 := by rw [← hW1]; exact hS
  have c2' : W1.cell? ⟨b, 2, none⟩ = some (.slice d.sa d.steps.length d.sc) := by rw [← hW1]; exact c2
  obtain ⟨N, hN⟩ : ∃ N, d.steps.length = N := ⟨_, rfl⟩
  rw [hN] at c2' hN9 ⊢
  obtain ⟨c7a, c7b⟩ := c7
  have HW1 := hide hW1
  have H2 := hide hS'
  clear hhalt hS k1 k2 hN h hS' hW1 c2
  go_enter Tryz.func106, Tryz.ntmps106
  go_upto_region 1 with fail
  rw [unhide HW1]
  go_wp2
  go_loopg [13] N (fun g s13 wx => ∃ k : Nat, k + g = N ∧ s13 = .int .i64 k ∧ Hid (SA w0 M0 b bm rb C h1 h2 ob vs d (haltK k x.1, x.2) wx))
  case atStart => exact ⟨0, by omega, by go_num, H2⟩
  case round =>
    obtain ⟨k, hkg, rfl, HX⟩ := hrel
    cases gk with
    | zero =>
      have e1 : (N : Int) ≤ (k : Int) := by omega
      have j1 : decide ((k : Int) < (N : Int)) = false := by simp; omega
      obtain rfl : k = N := by omega
      go_wp2
      go_end0
      exact ⟨⟨_, rfl⟩, unhide HX⟩
    | succ g' =>
      have hlt : (k : Int) < (N : Int) := by omega
      have hki : IntKind.i64.wrap ((k : Int) + 1) = (k : Int) + 1 := IntWalk.i64_in _ (by omega)
      obtain ⟨K, hK⟩ : ∃ K, wr.heap.size = K := ⟨_, rfl⟩
      obtain ⟨W2, hW2, hb2, g0, hs2⟩ := new1 wr (.cells #[.int .i64 (k : Int), .bool false] 157) K hK
      have ha2 := (unhide HX).below (by rw [hK]; exact hb2)
      obtain ⟨dn, un, v, k1, k2, k3, k4, k5, k6⟩ := ha2.ex
      have c4 := k1.cells.2.2.1.1
      obtain ⟨⟨q0, _⟩, ⟨q1, _⟩⟩ := two_cells g0
      obtain ⟨RK, hRK⟩ : ∃ r, x.1.run k false = r := ⟨_, rfl⟩
      have hrk : (haltK k x.1).run k false = RK := (haltK_run k x.1).trans hRK
      have hlk : ∀ q, (Instr.lookup 151 (.map (some bm)) (.agg #[.int .i64 (k : Int), .bool false]) false).run Tryz.prog (W2.drewN q) = .ok (runV RK) (W2.drewN q) := fun q => by
        have := (k1.mp.keep (W' := W2.drewN q) rfl).look k false
        rw [show (haltK k x.1, x.2).1.run k false = RK from hrk] at this
        exact this
      have hst := fun q => Stop_any RK (W2.drewN q)
      have hok : RK.ok := by rw [← hrk]; exact k1.ok k false
      obtain ⟨rp, ra, rt, rl⟩ := RK
      unfold runV at hlk hst
      obtain ⟨SP, hSP⟩ : ∃ y, P31.stop ⟨rp, ra, rt, rl⟩ = y := ⟨_, rfl⟩
      rw [hSP] at hst
      have hsok : SP.ok := by rw [← hSP]; exact P31.stop_ok hok
      have hnx : haltK (k + 1) x.1 = ⟨P32.setR (haltK k x.1).run k false SP, x.1.done, x.1.undone, 2⟩ := by rw [haltK_next, hRK, hSP]
      obtain ⟨L, hmp, hL⟩ := k1.mp
      have hbl := k1.mp.lt
      have HMP := hide hmp
      have HL2 := hide hL
      have HEX := hide (And.intro k1 (And.intro k2 (And.intro k3 (And.intro k4 (And.intro k5 k6)))))
      have HW2 := hide hW2
      have HA2 := hide ha2
      have HST := hide hst
      have HNX := hide hnx
      have HSOK := hide hsok
      clear hW2 ha2 hst hnx hsok hok hrk hRK hSP hb2 g0 k1 k2 k3 k4 k5 k6 hmp hL
      go_upto_region 5 with fail
      try rw [hK]
      rw [unhide HW2]
      obtain ⟨U, hU⟩ : ∃ U, W2.drew = U := ⟨_, rfl⟩
      have hb4 : ∀ V, Below U.heap.size U V → Below W2.heap.size W2 V := fun V hV => (show Below W2.heap.size W2 U by rw [← hU]; exact (Below.refl _ W2).drew).trans (hV.mono (by rw [← hU]; exact Nat.le_refl _))
      have hUU : Below U.heap.size U U := Below.refl _ _
      have c4u : ∀ V, Below U.heap.size U V → V.cell? ⟨b, 4, none⟩ = some (.map (some bm)) := fun V hV => (cell_of_block ((hb4 V hV).block b (cellLt c4)) _).trans c4
      have q0u : ∀ V, Below U.heap.size U V → V.cell? ⟨K, 0, none⟩ = some (.int .i64 (k : Int)) := fun V hV => (cell_of_block ((hb4 V hV).block K (cellLt q0)) _).trans q0
      have q1u : ∀ V, Below U.heap.size U V → V.cell? ⟨K, 1, none⟩ = some (.bool false) := fun V hV => (cell_of_block ((hb4 V hV).block K (cellLt q1)) _).trans q1
      have hlu : (Instr.lookup 151 (.map (some bm)) (.agg #[.int .i64 (k : Int), .bool false]) false).run Tryz.prog U = .ok (.agg #[.int .u8 (rp : Int), .int .i64 ra, .int .i64 rt, .bool rl]) U := by rw [← hU]; exact hlk 1
      have hsu : Calls Tryz.prog 149 #[.agg #[.int .u8 (rp : Int), .int .i64 ra, .int .i64 rt, .bool rl]] U fun e w' => e = .returned (.agg #[.int .u8 (SP.phase : Int), .int .i64 SP.att, .int .i64 SP.til, .bool SP.last]) ∧ Below U.heap.size U w' := by rw [← hU]; exact unhide HST 1
      have hcc : ∀ (kk : Nat) (X : Value) (W : World), kk ≤ 1 → HaPh U bm L (k : Int) SP kk X W → W.cell? ⟨b, 4, none⟩ = some (.map (some bm)) ∧ W.cell? ⟨K, 0, none⟩ = some (.int .i64 (k : Int)) ∧ W.cell? ⟨K, 1, none⟩ = some (.bool false) := by
        intro kk X W hkk hph
        have hb : Below U.heap.size U W := by
          rcases kk with _ | _ | kk
          · rw [show W = U from hph]; exact hUU
          · exact hph.1
          · omega
        exact ⟨c4u W hb, q0u W hb, q1u W hb⟩
      have c4v := c4u U hUU
      have q0v := q0u U hUU
      have q1v := q1u U hUU
      have hcb : ∀ V, Below U.heap.size U V → MapG encWay_saga V bm L := fun V hV => (unhide HMP).keep ((hb4 V hV).block bm hbl)
      have HCC := hide hcc
      have HCB := hide hcb
      have HSU := hide hsu
      have HB4 := hide hb4
      have e149 := enters_of Tryz.func149 (by kernel_rfl) rfl
      clear hb4 c4u q0u q1u hcc hcb hsu hlk c4 q0 q1 HST HMP
      refine wp_region_phase hmixed [11, 12] (fun kk aF W => ∃ X, aF = { tmps := #[.pointer (some ⟨b, 0, none⟩), undef, .int .i64 (k : Int), .pointer (some ⟨K, 0, none⟩), .pointer (some ⟨b, 0, none⟩), .pointer (some ⟨b, 0, none⟩), .pointer (some ⟨b, 7, none⟩), .pointer (some ⟨b, 0, none⟩), .pointer (some ⟨b, 0, none⟩), .pointer (some ⟨b, 0, none⟩), .pointer (some ⟨b, 2, none⟩), .slice d.sa N d.sc, .int .i64 (N : Int), .int .i64 (k : Int), .bool true, .int .i64 (k : Int), .int .i64 (k : Int), .agg #[.int .i64 (k : Int), .bool false], .pointer (some ⟨b, 0, none⟩), .pointer (some ⟨b, 0, none⟩), .pointer (some ⟨b, 4, none⟩), .map (some bm), .agg #[.int .i64 (k : Int), .bool false], .pointer (some ⟨b, 0, none⟩), .pointer (some ⟨b, 0, none⟩), .pointer (some ⟨b, 4, none⟩), .map (some bm), .agg #[.int .i64 (k : Int), .bool false], .agg #[.int .u8 (rp : Int), .int .i64 ra, .int .i64 rt, .bool rl], X, u30], defers := [] } ∧ HaPh U bm L (k : Int) SP kk X W) (by kernel_rfl) (by kernel_rfl) (by decide) ⟨undef, rfl, hU⟩ rfl rfl (same_mid 18 12 (by kernel_rfl) rfl rfl) ?pure ?write ?fin
      case pure =>
        rintro kk aF W ix o ⟨X, rfl, hph⟩ ho hni hanc
        rcases ix with _ | _ | _ | _ | _ | _ | _ | _ | _ | _ | _ | _ | _ | ix
        · have ho' : some _ = some o := ho
          cases ho'
          refine (if_pos (show Region.wanted _ (yielded _ _) = true from rfl)).mpr ?_
          refine ⟨_, _, rfl, rfl, .inl ?_⟩
          go_simp
        · have ho' : some _ = some o := ho
          cases ho'
          refine (if_pos (show Region.wanted _ (yielded _ _) = true from rfl)).mpr ?_
          refine ⟨_, _, rfl, rfl, .inl ?_⟩
          go_simp
        · have ho' : some _ = some o := ho
          cases ho'
          refine (if_pos (show Region.wanted _ (yielded _ _) = true from rfl)).mpr ?_
          refine ⟨_, _, rfl, rfl, .inl ?_⟩
          go_simp
        · have ho' : some _ = some o := ho
          cases ho'
          have hk1 : kk ≤ 1 := hanc 1 12 rfl (by kernel_rfl)
          obtain ⟨hc4, hq0, hq1⟩ := unhide HCC kk X W hk1 hph
          refine (if_pos (show Region.wanted _ (yielded _ _) = true from rfl)).mpr ?_
          refine ⟨_, _, rfl, rfl, .inl ?_⟩
          go_simp
        · have ho' : some _ = some o := ho
          cases ho'
          have hk1 : kk ≤ 1 := hanc 1 12 rfl (by kernel_rfl)
          obtain ⟨hc4, hq0, hq1⟩ := unhide HCC kk X W hk1 hph
          refine (if_pos (show Region.wanted _ (yielded _ _) = true from rfl)).mpr ?_
          refine ⟨_, _, rfl, rfl, .inl ?_⟩
          go_simp
        · have ho' : some _ = some o := ho
          cases ho'
          refine (if_pos (show Region.wanted _ (yielded _ _) = true from rfl)).mpr ?_
          refine ⟨_, _, rfl, rfl, .inl ?_⟩
          go_simp
        · have ho' : some _ = some o := ho
          cases ho'
          refine (if_pos (show Region.wanted _ (yielded _ _) = true from rfl)).mpr ?_
          refine ⟨_, _, rfl, rfl, .inl ?_⟩
          go_simp
        · have ho' : some _ = some o := ho
          cases ho'
          refine (if_pos (show Region.wanted _ (yielded _ _) = true from rfl)).mpr ?_
          refine ⟨_, _, rfl, rfl, .inl ?_⟩
          go_simp
        · have ho' : some _ = some o := ho
          cases ho'
          have hk0 : kk ≤ 0 := hanc 0 11 rfl (by kernel_rfl)
          obtain rfl : kk = 0 := by omega
          have hWU : W = U := hph
          subst hWU
          refine (if_pos (show Region.wanted _ (yielded _ _) = true from rfl)).mpr ?_
          refine ⟨_, _, rfl, rfl, .inl ?_⟩
          go_simp
        · have ho' : some _ = some o := ho
          cases ho'
          have hk0 : kk ≤ 0 := hanc 0 11 rfl (by kernel_rfl)
          obtain rfl : kk = 0 := by omega
          have hWU : W = U := hph
          subst hWU
          refine (if_pos (show Region.wanted _ (yielded _ _) = true from rfl)).mpr ?_
          refine ⟨_, _, rfl, rfl, .inl ?_⟩
          go_simp
        · have ho' : some _ = some o := ho
          cases ho'
          have hk0 : kk ≤ 0 := hanc 0 11 rfl (by kernel_rfl)
          obtain rfl : kk = 0 := by omega
          have hWU : W = U := hph
          subst hWU
          refine (if_pos (show Region.wanted _ (yielded _ _) = true from rfl)).mpr ?_
          refine ⟨_, _, rfl, rfl, .inl ?_⟩
          go_simp
        · exact absurd (by simp) hni
        · exact absurd (by simp) hni
        · exfalso; simp at ho
      case write =>
        rintro kk aF W ix o ⟨X, rfl, hph⟩ hi ho
        rcases kk with _ | _ | kk
        · cases (show some 11 = some ix from hi)
          have ho' : some _ = some o := ho
          cases ho'
          have hWU : W = U := hph
          subst hWU
          refine ⟨rfl, .inr (.inr ⟨149, #[.agg #[.int .u8 (rp : Int), .int .i64 ra, .int .i64 rt, .bool rl]], W, ?_, ?_⟩)⟩
          · simp [execOp, resolve, invoke, Act.eval, e149, Result.andThen, Deferred.ofValue]
          · refine (unhide HSU).mono ?_
            rintro e w4 ⟨rfl, b4⟩
            exact ⟨_, rfl, ⟨_, rfl, b4, rfl⟩⟩
        · cases (show some 12 = some ix from hi)
          have ho' : some _ = some o := ho
          cases ho'
          obtain ⟨b4, rfl⟩ := hph
          obtain ⟨W', hr, r1, r2, _, _⟩ := (unhide HCB W b4).put key_way_saga Tryz.underlying151 ((k : Int), false) (runV SP)
          refine ⟨rfl, .inr (.inl ⟨W', ?_, ⟨_, rfl, W, b4, rfl, r1, r2⟩⟩)⟩
          have hr' : (Instr.mapUpdate 151 (.map (some bm)) (.agg #[.int .i64 (k : Int), .bool false]) (runV SP)).run Tryz.prog W = .ok () W' := hr
          simp [execOp, Act.eval, hr', Result.andThen]
        · simp at hi
      case fin =>
        rintro kk aF W6 hk ⟨X, rfl, hph⟩
        obtain ⟨kk, rfl⟩ : ∃ k', kk = k' + 2 := ⟨kk - 2, by simp at hk; omega⟩
        obtain ⟨V, b4, rfl, hm6, hg6⟩ := hph
        have HE := hide (And.intro (unhide HB4 V b4) (And.intro hm6 hg6))
        clear b4 hm6 hg6
        go_wp2
        go_roundg g'
        case measure => omega
        case rel =>
          refine ⟨k + 1, by omega, by go_num, hide ?_⟩
          obtain ⟨hb4, hm6, hg6⟩ := unhide HE
          obtain ⟨k1, k2, k3, k4, k5, k6⟩ := unhide HEX
          have ha4 := (unhide HA2).below hb4
          have s4 := k1.below hb4
          have hrok : ∀ j c, (P32.setR (haltK k x.1).run k false SP j c).ok := fun j c => by
            unfold P32.setR
            split
            · exact unhide HSOK
            · exact k1.ok j c
          have s6 := s4.setWay (WaysS.set (unhide HL2) k false SP hm6) hg6 hrok
          rw [unhide HNX]
          exact ha4.write s4 ((hb4.block _ (Array.getElem?_eq_some_iff.1 k2).1).trans k2) (k3.keep (fun g hg => hb4.block g (k3.lt hg).2)) k4 k5 k6 s6 ((KW.refl _ _).grown hg6 (fun k e => by cases e; exact .inl (.inr (.inl rfl)))) (fun g hg => .inl hg)
end Go.Proofs.YtefokfbgpfcbkaaGreat
namespace Go.Proofs.YtefokfbgpfcbkaaGreat
set_option linter.unusedVariables false
set_option linter.unusedSimpArgs false
open Go.RowKit
theorem stepAt_bare (d : PDef) {k : Nat} {s : PSt} (h : d.steps[k]? = some s) : P32.stepAt d.bare k = s.bare := by
  unfold P32.stepAt
  rw [List.getD_eq_getElem?_getD]
  simp [PDef.bare, h]
def goK (d : P22.Def) (n : Int) (k : Nat) (x : P32.S × List P32.Order) : P32.S × List P32.Order := (List.range k).foldl (P32.go1 d n) x
theorem goK_next (d : P22.Def) (n : Int) (k : Nat) (x : P32.S × List P32.Order) : goK d n (k + 1) x = P32.go1 d n (goK d n k x) k := by simp [goK, List.range_succ]
theorem put_len (i : Nat) (u : Bool) (r : P31.Run) (x : P32.S × List P32.Order) : (P32.put i u r x).2.length ≤ x.2.length + 1 := by
  show (if r.phase = 1 ∧ r.att ≠ (x.1.run i u).att then x.2 ++ [⟨i, r.att, u, r.til⟩] else x.2).length ≤ x.2.length + 1
  split
  · simp
  · omega
theorem go1_len (d : P22.Def) (n : Int) (x : P32.S × List P32.Order) (i : Nat) : (P32.go1 d n x i).2.length ≤ x.2.length + 1 := by
  unfold P32.go1
  split
  · exact put_len _ _ _ _
  · omega
theorem goK_len (d : P22.Def) (n : Int) (x : P32.S × List P32.Order) : ∀ k, (goK d n k x).2.length ≤ x.2.length + k
  | 0 => by simp [goK]
  | k + 1 => by
    rw [goK_next]
    have := goK_len d n x k
    have := go1_len d n (goK d n k x) k
    omega
theorem goK_good {d : P22.Def} {n : Int} {x : P32.S × List P32.Order} (h : P32.Good d x) (hs : x.1.status = 1) : ∀ k, k ≤ d.steps.length → P32.Good d (goK d n k x) ∧ (goK d n k x).1.status = 1
  | 0, _ => ⟨h, hs⟩
  | k + 1, hk => by
    rw [goK_next]
    obtain ⟨h1, h2⟩ := goK_good h hs k (by omega)
    have h3 := P32.good_go1 (n := n) h1 h2 (show k < d.steps.length by omega)
    exact ⟨h3.1, h3.2.1⟩
theorem enter146 (args : Array Value) (W : World) : (callFunc 146 args).run Tryz.prog W = .ok (.enter 146 args) W := enters_of Tryz.func146 (by kernel_rfl) rfl args W
set_option maxRecDepth 100000 in
set_option maxHeartbeats 8000000 in
theorem forth_any {w0 : World} {M0 : Nat → Prop} {b bm rb C h1 h2 ob : Nat} {vs : Nat → Value} {d : PDef} {x : P32.S × List P32.Order} (n : Int) (w : World) (h : SA w0 M0 b bm rb C h1 h2 ob vs d x w) (hg : P32.Good d.bare x) (hs : x.1.status = 1) (hlen : x.2.length ≤ 800000) :
    Calls Tryz.prog 147 #[.pointer (some ⟨b, 0, none⟩), .func (.func 146) #[] #[.pointer (some ⟨h1, 0, none⟩), .pointer (some ⟨h2, 0, none⟩)], .int .i64 n] w fun e w' => (∃ v, e = .returned v) ∧ SA w0 M0 b bm rb C h1 h2 ob vs d (P32.forth d.bare n x) w' := by
  obtain ⟨dn, un, k1⟩ := h.sg
  have han := any_any 4 w k1
  have hha := halt_any w h
  obtain ⟨AN, hAN⟩ : ∃ y, P32.anyP d.bare x.1 4 = y := ⟨_, rfl⟩
  have hf : P32.forth d.bare n x = if AN = true then (P32.halt d.bare x.1, x.2) else if x.1.done.length = d.bare.steps.length then (⟨x.1.run, x.1.done, x.1.undone, 3⟩, x.2) else goK d.bare n d.bare.steps.length x := by unfold P32.forth; rw [hAN]; rfl
  rw [hf, Md.blen]
  rw [hAN] at han
  have c2 := k1.cells.1.1
  have c5 := k1.cells.2.2.2.1.1
  have c7 := k1.cells.2.2.2.2.2
  have hN9 := k1.nle
  obtain ⟨da, dc, hde, _, _, _⟩ := k1.odn.slice
  rw [hde] at c5
  have hst := h.status 3
  have HAN := hide han
  have HHA := hide hha
  have HST := hide hst
  have H := hide h
  have HG := hide hg
  cases AN with
  | true =>
    rw [if_pos rfl]
    clear han hha hst h hg hf c7 hN9
    go_enter Tryz.func147, Tryz.ntmps147
    go_wp2_with (first | (go_at_call 187; refine (unhide HAN).mono ?_; rintro e w' ⟨rfl, hw⟩; have hw := hw.symm; subst hw) | (go_at_call 106; refine (unhide HHA).mono ?_; rintro e w3 ⟨⟨v, rfl⟩, hsa⟩))
    exact bodyPost_ret (results_none rfl _ _ _) rfl ⟨⟨_, rfl⟩, hsa⟩
  | false =>
    rw [if_neg (by simp)]
    by_cases hl : x.1.done.length = d.steps.length
    · rw [if_pos hl]
      obtain ⟨c7a, c7b⟩ := c7
      rw [← hl] at c2
      obtain ⟨DL, hDL⟩ : ∃ y, x.1.done.length = y := ⟨_, rfl⟩
      rw [hDL] at c2 c5
      clear han hha hst h hg hf hN9 hl hDL hde k1
      go_enter Tryz.func147, Tryz.ntmps147
      go_upto_region 2 with (go_at_call 187; refine (unhide HAN).mono ?_; rintro e w' ⟨rfl, hw⟩; have hw := hw.symm; subst hw)
      go_quiet (fail)
      go_wp2
      refine bodyPost_ret (results_none rfl _ _ _) rfl ⟨⟨_, rfl⟩, ?_⟩
      have h8 := ((unhide H).below (W' := w.drewN nq) (below_drewN (Below.refl _ _))).status 3
      exact h8
    · rw [if_neg hl]
      have hst2 := k1.steps
      obtain ⟨sg, so, hsa, _⟩ := k1.steps
      obtain ⟨N, hN⟩ : ∃ N, d.steps.length = N := ⟨_, rfl⟩
      obtain ⟨DL, hDL⟩ : ∃ y, x.1.done.length = y := ⟨_, rfl⟩
      have hne : ((DL : Int) == (N : Int)) = false := by simp; omega
      rw [hDL] at c5
      rw [hsa, hN] at c2
      rw [hN] at hN9 ⊢
      have hN' := hide hN
      have HX0 : Hid (SA w0 M0 b bm rb C h1 h2 ob vs d (goK d.bare n 0 x) w) := hide h
      have hsa' := hide hsa
      have he := enter146
      clear han hha hst h hg hf hl hDL hde k1 hst2 HHA HST c7 hN hsa
      go_enter Tryz.func147, Tryz.ntmps147
      go_upto_region 2 with (go_at_call 187; refine (unhide HAN).mono ?_; rintro e w' ⟨rfl, hw⟩; have hw := hw.symm; subst hw)
      go_quiet (fail)
      go_wp2
      go_loopg [33] N (fun g s33 wx => ∃ k : Nat, k + g = N ∧ s33 = .int .i64 k ∧ Hid (SA w0 M0 b bm rb C h1 h2 ob vs d (goK d.bare n k x) wx))
      case atStart => exact ⟨0, by omega, by go_num, hide ((unhide HX0).below (below_drewN (Below.refl _ _)))⟩
      case round =>
        obtain ⟨k, hkg, rfl, HX⟩ := hrel
        clear c2 c5
        cases gk with
        | zero =>
          have e1 : (N : Int) ≤ (k : Int) := by omega
          have j1 : decide ((k : Int) < (N : Int)) = false := by simp; omega
          obtain rfl : k = N := by omega
          go_wp2
          go_end0
          exact ⟨⟨_, rfl⟩, unhide HX⟩
        | succ g' =>
          have hlt : (k : Int) < (N : Int) := by omega
          have hki : IntKind.i64.wrap ((k : Int) + 1) = (k : Int) + 1 := IntWalk.i64_in _ (by omega)
          have hkN : k < d.steps.length := by rw [unhide hN']; omega
          obtain ⟨s1, hs1⟩ : ∃ s, d.steps[k]? = some s := ⟨_, List.getElem?_eq_getElem hkN⟩
          obtain ⟨K, hK⟩ : ∃ K, wr.heap.size = K := ⟨_, rfl⟩
          obtain ⟨dn, un, k1⟩ := (unhide HX).sg
          obtain ⟨sg2, so2, hsa2, hat⟩ := k1.steps
          obtain ⟨e3, e4⟩ : sg2 = sg ∧ so2 = so := by
            have := (unhide hsa').symm.trans hsa2
            cases this
            exact ⟨rfl, rfl⟩
          subst e3
          subst e4
          obtain ⟨⟨t0, t1, t2, t3⟩, ⟨t4, t5, t6, t7⟩, ⟨t8, t9, t10, t11, t12⟩⟩ := step_cells (hat k s1 hs1)
          obtain ⟨W2, hW2, hb2, g0, hz2⟩ := new1 wr (.cells #[.string ⟨s1.name.toArray⟩, .string ⟨s1.action.toArray⟩, .string ⟨s1.undo.toArray⟩, s1.aV, .int .i64 s1.most, .int .i64 s1.first, .int .i64 s1.factor, .int .i64 s1.limit, .int .u8 s1.note.kind, .string ⟨s1.note.text.toArray⟩, s1.note.kV, s1.note.dV, .int .i64 s1.note.line] 63) K hK
          have ha2 := (unhide HX).below (by rw [hK]; exact hb2)
          obtain ⟨dn2, un2, k2⟩ := ha2.sg
          have hrd := ready_any k W2 k2 hkN
          have hbg := Begin_any s1 n W2
          have hsb : P32.stepAt d.bare k = s1.bare := stepAt_bare d hs1
          obtain ⟨RD, hRD⟩ : ∃ y, P32.ready d.bare (goK d.bare n k x).1 k = y := ⟨_, rfl⟩
          rw [hRD] at hrd
          obtain ⟨hgk, hsk⟩ := goK_good (n := n) (unhide HG) hs k (by rw [Md.blen]; omega)
          have hgl := goK_len d.bare n x k
          have hgn : goK d.bare n (k + 1) x = if RD = true then P32.put k false (P31.begin_ s1.bare n) (goK d.bare n k x) else goK d.bare n k x := by
            rw [goK_next]
            unfold P32.go1
            rw [hRD, hsb]
          have hgk2 := (goK_good (n := n) (unhide HG) hs (k + 1) (by rw [Md.blen]; omega)).1
          obtain ⟨⟨a0, b0⟩, ⟨a1, b1⟩, ⟨a2, b2⟩, ⟨a3, b3⟩, ⟨a4, b4⟩, ⟨a5, b5⟩, ⟨a6, b6⟩, ⟨a7, b7⟩, ⟨a8, b8⟩, ⟨a9, b9⟩, ⟨a10, b10⟩, ⟨a11, b11⟩, ⟨a12, b12⟩⟩ := cell13 g0
          simp only [PSt.aV, Nd.kV, Nd.dV] at t3 t10 t11 a3 a10 a11 hW2
          have hzb : Below (K + 1) W2 (W2.drewN 0) := below_drewN (Below.refl _ _)
          obtain ⟨BG, hBG⟩ : ∃ y, P31.begin_ s1.bare n = y := ⟨_, rfl⟩
          have hbok : BG.ok := by rw [← hBG]; exact P31.begin_ok _ _
          rw [hBG] at hbg hgn
          unfold runV at hbg
          have HBOK := hide hbok
          have HW2 := hide hW2
          have HA2 := hide ha2
          have HRD := hide hrd
          have HBG := hide hbg
          have HGN := hide hgn
          have HGL := hide hgl
          have HGK2 := hide hgk2
          have HST2 := hide hs1
          clear hBG hbok hW2 hb2 g0 ha2 hrd hbg hgn hgl hgk2 hgk hsk hs1 k1 k2 hat hsa2 hRD hsb hzb b0 b1 b2 b3 b4 b5 b6 b7 b8 b9 b10 b11 b12
          go_upto_region 7 with fail
          try rw [hK]
          rw [unhide HW2]
          clear t0 t1 t2 t3 t4 t5 t6 t7 t8 t9 t10 t11 t12
          cases RD with
          | false =>
            go_wp2_with (go_at_call 188; refine (unhide HRD).mono ?_; rintro e w4 ⟨rfl, hw4⟩; have hw4 := hw4.symm; subst hw4)
            go_roundg g'
            case measure => omega
            case rel =>
              refine ⟨k + 1, by omega, by go_num, hide ?_⟩
              have e := unhide HGN
              rw [if_neg (by simp)] at e
              rw [e]
              exact unhide HA2
          | true =>
            go_upto_region 8 with (go_at_call 188; refine (unhide HRD).mono ?_; rintro e w4 ⟨rfl, hw4⟩; have hw4 := hw4.symm; subst hw4)
            go_wp2_with (go_at_call 189; refine (unhide HBG).mono ?_; rintro e w5 ⟨rfl, hb5⟩; have he := enter146; revert hb5)
            intro hb5
            have e := unhide HGN
            rw [if_pos (by trivial)] at e
            have hp := put_any k false BG w5 ((unhide HA2).below (by rw [hz2]; exact hb5)) hkN (unhide HBOK) (by rw [← e]; exact (unhide HGK2).inv) (by have := unhide HGL; omega)
            unfold runV at hp
            rw [← e] at hp
            have HP := hide hp
            clear hp hb5 a0 a1 a2 a3 a4 a5 a6 a7 a8 a9 a10 a11 a12
            go_wp2_with (go_at_call 146; refine (unhide HP).mono ?_; rintro e w6 ⟨⟨v6, rfl⟩, hx6⟩; clear he; have HX6 := hide hx6; clear hx6)
            go_roundg g'
            case measure => omega
            case rel => exact ⟨k + 1, by omega, by go_num, HX6⟩
end Go.Proofs.YtefokfbgpfcbkaaGreat
