/- Lemmas of this claim (a part of its texts, kept as far as the claim reaches them). -/
import Derived.Test.YtefokfbgpfcbkaaGreatS32eZ
namespace Go.Proofs.YtefokfbgpfcbkaaGreat
set_option linter.unusedVariables false
set_option linter.unusedSimpArgs false
open Go.RowKit
attribute [local go_sem] run_field_phase
theorem backGo_none {d : P22.Def} {n : Int} {f : Nat} {x : P32.S × List P32.Order} (h : P32.turn x.1 = none) : P32.backGo d n (f + 1) x = (⟨x.1.run, x.1.done, x.1.undone, 4⟩, x.2) := by
  rw [P32.backGo, h]
theorem backGo_more {d : P22.Def} {n : Int} {f i : Nat} {x : P32.S × List P32.Order} (h : P32.turn x.1 = some i) (hc : (P33.undoOf d i).isEmpty = true ∨ (x.1.run i true).phase = 3) : P32.backGo d n (f + 1) x = P32.backGo d n f (⟨x.1.run, x.1.done, x.1.undone ++ [i], x.1.status⟩, x.2) := by
  rw [P32.backGo, h]
  exact if_pos hc
theorem backGo_stuck {d : P22.Def} {n : Int} {f i : Nat} {x : P32.S × List P32.Order} (h : P32.turn x.1 = some i) (hc : ¬ ((P33.undoOf d i).isEmpty = true ∨ (x.1.run i true).phase = 3)) (h4 : (x.1.run i true).phase = 4) : P32.backGo d n (f + 1) x = (⟨x.1.run, x.1.done, x.1.undone, 5⟩, x.2) := by
  rw [P32.backGo, h]
  show (if _ then _ else _) = _
  rw [if_neg hc, if_pos h4]
theorem backGo_ask {d : P22.Def} {n : Int} {f i : Nat} {x : P32.S × List P32.Order} (h : P32.turn x.1 = some i) (hc : ¬ ((P33.undoOf d i).isEmpty = true ∨ (x.1.run i true).phase = 3)) (h4 : (x.1.run i true).phase ≠ 4) : P32.backGo d n (f + 1) x = if (x.1.run i true).phase = 0 then P32.put i true (P31.begin_ (P32.stepAt d i) n) x else x := by
  rw [P32.backGo, h]
  show (if _ then _ else _) = _
  rw [if_neg hc, if_neg h4]
theorem good_more {d : P22.Def} {i : Nat} {x : P32.S × List P32.Order} (h : P32.Good d x) (hs : x.1.status = 2) (hj : ∀ j, (x.1.run j false).phase ≠ 1) (ht : P32.turn x.1 = some i) (hc : (P33.undoOf d i).isEmpty = true ∨ (x.1.run i true).phase = 3) : P32.Good d (⟨x.1.run, x.1.done, x.1.undone ++ [i], x.1.status⟩, x.2) := by
  have hi := h.inv
  have hlt := P32.turn_more ht
  have hno : ∀ k, ¬ ((x.1.run k true).phase = 1 ∨ (x.1.run k true).phase = 2 ∨ (x.1.run k true).phase = 4) := fun k hk => by
    obtain ⟨q1, q2⟩ := hi.trn k hk
    rw [ht] at q1
    cases q1
    rcases hc with hc | hc
    · rw [hc] at q2; cases q2
    · omega
  refine ⟨⟨hi.ok, hi.rng, hi.nodup, hi.dn, P32.und_more hi.und ht, by simp only [List.length_append, List.length_singleton]; omega, hi.refs, hi.st, fun hz => (by have hz : x.1.status = 0 := hz; omega), fun hf => (by have hf : x.1.status ≤ 1 ∨ x.1.status = 3 := hf; omega), hi.halted, fun _ => hj, hi.tru, fun k hk => absurd hk (hno k), fun hz => (by have hz : x.1.status = 3 := hz; omega), fun hz => (by have hz : x.1.status = 4 := hz; omega), fun hz => (by have hz : x.1.status = 5 := hz; omega)⟩, fun o ho => ?_⟩
  obtain ⟨q1, q2, q3, q4⟩ := h.out o ho
  exact ⟨q1, q2, q3, fun hu => absurd (.inl (q4 hu).2.2) (hno o.step)⟩
theorem undoOf_bare (d : PDef) {i : Nat} {s : PSt} (h : d.steps[i]? = some s) : P33.undoOf d.bare i = s.undo := by
  unfold P33.undoOf P28.undos
  simp [PDef.bare, PSt.bare, List.getD_eq_getElem?_getD, h]
theorem turn_at {s : P32.S} {i j : Nat} (h : s.done[j]? = some i) (hj : j + 1 + s.undone.length = s.done.length) : P32.turn s = some i := by
  unfold P32.turn
  rw [List.getElem?_reverse (by omega)]
  rw [show s.done.length - 1 - s.undone.length = j by omega]
  exact h
theorem turn_end {s : P32.S} (h : s.undone.length = s.done.length) : P32.turn s = none := by
  unfold P32.turn
  rw [List.getElem?_eq_none_iff]
  simp
  omega
theorem SA.undo {w0 A w1 : World} {M0 : Nat → Prop} {b bm rb C h1 h2 ob i g' c' : Nat} {vs : Nat → Value} {d : PDef} {x : P32.S × List P32.Order} {dn un v : Value} (h : SA w0 M0 b bm rb C h1 h2 ob vs d x A) (k1 : Sg A b bm rb C vs d dn un x.1) (k2 : A.heap[ob]? = some (.cells #[v] 105)) (k3 : OwnO A C v x.2)
    (k4 : ∀ g, v.ownBlock = some g → ¬ Mb b bm dn un g ∧ g ≠ h1 ∧ g ≠ h2 ∧ g ≠ ob ∧ (M0 g ∨ w0.heap.size ≤ g)) (k5 : ∀ g, Mb b bm dn un g → g ≠ h1 ∧ g ≠ h2 ∧ g ≠ ob) (k6 : ∀ g, Mb b bm dn un g → M0 g ∨ w0.heap.size ≤ g)
    (ho : OwnN w1 C (.slice (some ⟨g', 0, none⟩) (x.1.undone.length + 1) c') (x.1.undone ++ [i])) (hg : A.grownBy w1 un.ownBlock) (hat : un.ownBlock = some g' ∨ g' = A.heap.size) (hul : x.1.undone.length + 1 ≤ x.1.done.length) :
    SA w0 M0 b bm rb C h1 h2 ob vs d (⟨x.1.run, x.1.done, x.1.undone ++ [i], x.1.status⟩, x.2) (w1.setCell ⟨b, 6, none⟩ (.slice (some ⟨g', 0, none⟩) (x.1.undone.length + 1) c')) :=
  h.write k1 k2 k3 k4 k5 k6 (k1.appUn ho hg (hat.elim (fun e => .inl e.symm) (fun e => .inr (congrArg some e))) hul) (((KW.refl _ _).grown hg (fun k e => .inl (.inr (.inr (.inr e))))).setCell (b := b) (o := 6) (.inl (.inl rfl)) _)
    (fun g hg => hg.elim (fun e => .inl (.inl e)) (fun hg => hg.elim (fun e => .inl (.inr (.inl e))) (fun hg => hg.elim (fun e => .inl (.inr (.inr (.inl e)))) (fun e => hat.elim (fun q => .inl (.inr (.inr (.inr (by have e : some g' = some g := e; cases e; exact q))))) (fun q => .inr (by have e : some g' = some g := e; cases e; omega))))))
def BaPh (U : World) (BG : P31.Run) (S : World → Prop) (kk : Nat) (X : Value) (W : World) : Prop := match kk with
  | 0 => W = U
  | 1 => Below U.heap.size U W ∧ X = runV BG
  | _ => S W
set_option maxRecDepth 100000 in
set_option maxHeartbeats 8000000 in
theorem back_any {w0 : World} {M0 : Nat → Prop} {b bm rb C h1 h2 ob : Nat} {vs : Nat → Value} {d : PDef} {x : P32.S × List P32.Order} (n : Int) (w : World) (h : SA w0 M0 b bm rb C h1 h2 ob vs d x w) (hg : P32.Good d.bare x) (hs : x.1.status = 2) (hlen : x.2.length ≤ 1000000) :
    Calls Tryz.prog 148 #[.pointer (some ⟨b, 0, none⟩), .func (.func 146) #[] #[.pointer (some ⟨h1, 0, none⟩), .pointer (some ⟨h2, 0, none⟩)], .int .i64 n] w fun e w' => (∃ v, e = .returned v) ∧ SA w0 M0 b bm rb C h1 h2 ob vs d (P32.back d.bare n x) w' := by
  obtain ⟨dn, un, k1⟩ := h.sg
  have han := any_any 1 w k1
  have hul := k1.ul
  obtain ⟨AN, hAN⟩ : ∃ y, P32.anyP d.bare x.1 1 = y := ⟨_, rfl⟩
  have hf : P32.back d.bare n x = if AN = true then x else P32.backGo d.bare n (x.1.done.length - x.1.undone.length + 1) x := by unfold P32.back; rw [hAN]
  rw [hf]
  have hno : AN = false → ∀ j, (x.1.run j false).phase ≠ 1 := fun e => P32.anyP_false hg.inv (by decide) (hAN.trans e)
  rw [hAN] at han
  have HAN := hide han
  have HX0 := hide h
  have HNO := hide hno
  have HG := hide hg
  clear han h hno hg k1 hf
  cases AN with
  | true =>
    rw [if_pos rfl]
    go_enter Tryz.func148, Tryz.ntmps148
    go_wp2
    go_step3
    go_wp2_with (go_at_call 187; refine (unhide HAN).mono ?_; rintro e w' ⟨rfl, hw⟩; have hw := hw.symm; subst hw)
    rw [Exit.noGoto_ret]
    exact bodyPost_ret (results_none rfl _ _ _) rfl ⟨⟨_, rfl⟩, unhide HX0⟩
  | false =>
    rw [if_neg (by simp)]
    obtain ⟨M, hM⟩ : ∃ M, x.1.done.length - x.1.undone.length = M := ⟨_, rfl⟩
    obtain ⟨BK, hBK⟩ : ∃ y, P32.backGo d.bare n (x.1.done.length - x.1.undone.length + 1) x = y := ⟨_, rfl⟩
    rw [hBK]
    rw [hM] at hBK
    obtain ⟨OS, hOS⟩ : ∃ z, x.2 = z := ⟨_, rfl⟩
    rw [hOS] at hlen
    have hst : Hid (P32.Good d.bare x ∧ x.1.status = 2 ∧ (∀ j, (x.1.run j false).phase ≠ 1) ∧ x.2 = OS ∧ x.1.undone.length + M = x.1.done.length ∧ P32.backGo d.bare n (M + 1) x = BK) := hide ⟨unhide HG, hs, unhide HNO rfl, hOS, by omega, hBK⟩
    have he := enter146
    clear hM hBK hul hs HG HNO hOS
    go_enter Tryz.func148, Tryz.ntmps148
    go_wp2
    go_step3
    go_wp2_with (go_at_call 187; refine (unhide HAN).mono ?_; rintro e w' ⟨rfl, hw⟩; have hw := hw.symm; subst hw)
    go_step3
    go_wp2
    go_loopg [] M (fun g wx => ∃ y : P32.S × List P32.Order, Hid (SA w0 M0 b bm rb C h1 h2 ob vs d y wx) ∧ Hid (P32.Good d.bare y ∧ y.1.status = 2 ∧ (∀ j, (y.1.run j false).phase ≠ 1) ∧ y.2 = OS ∧ y.1.undone.length + g = y.1.done.length ∧ P32.backGo d.bare n (g + 1) y = BK))
    case atStart => exact ⟨x, HX0, hst⟩
    case round =>
      obtain ⟨y, HX, HI⟩ := hrel
      obtain ⟨dn, un, k1⟩ := (unhide HX).sg
      obtain ⟨da, dc, hde, _, _, hdi⟩ := k1.odn.slice
      obtain ⟨ua, uc, hue, _, _, _⟩ := k1.oun.slice
      subst hde
      subst hue
      have c5 := k1.cells.2.2.2.1.1
      have c6 := k1.cells.2.2.2.2.1.1
      obtain ⟨c7a, c7b⟩ := k1.cells.2.2.2.2.2
      have hN9 := k1.nle
      have hdl := k1.dlen
      have hdm := k1.dl
      obtain ⟨DL, hDL⟩ : ∃ z, y.1.done.length = z := ⟨_, rfl⟩
      obtain ⟨UL, hUL⟩ : ∃ z, y.1.undone.length = z := ⟨_, rfl⟩
      obtain ⟨N, hN⟩ : ∃ z, d.steps.length = z := ⟨_, rfl⟩
      have hgk : UL + gk = DL := by have := (unhide HI).2.2.2.2.1; omega
      rw [hDL] at c5
      rw [hUL] at c6
      rw [hDL, hN] at hdl
      rw [hN] at hN9 hdm
      have HDL := hide hDL
      have HUL := hide hUL
      have HN := hide hN
      clear hDL hUL hN k1
      cases gk with
      | zero =>
        have e1 : (DL : Int) ≤ (UL : Int) := by omega
        have j1 : decide ((UL : Int) < (DL : Int)) = false := by simp; omega
        go_upto_region 1 with fail
        go_quiet (fail)
        go_wp2
        simp only [Exit.noGoto_normal]
        go_end0
        refine ⟨⟨_, rfl⟩, ?_⟩
        have hi := unhide HI
        have hb := hi.2.2.2.2.2
        rw [backGo_none (turn_end (by have := unhide HDL; have := unhide HUL; omega))] at hb
        rw [← hb]
        exact ((unhide HX).below (W' := wr.drewN nq) (below_drewN (Below.refl _ _))).status 4
      | succ g' =>
        have e1 : (UL : Int) < (DL : Int) := by omega
        obtain ⟨IX, hIX⟩ : ∃ z, z + 1 + UL = DL := ⟨DL - 1 - UL, by omega⟩
        obtain ⟨i, hi⟩ : ∃ i, y.1.done[IX]? = some i := ⟨_, List.getElem?_eq_getElem (by have := unhide HDL; omega)⟩
        have hturn : P32.turn y.1 = some i := turn_at hi (by have := unhide HDL; have := unhide HUL; omega)
        have hiN : i < N := hdm i (List.mem_of_getElem? hi)
        obtain ⟨db, dO, rfl, hce⟩ := hdi IX i hi
        have q1 : IntKind.i64.wrap ((DL : Int) - 1) = (DL : Int) - 1 := IntWalk.i64_in _ (by omega)
        have q2 : IntKind.i64.wrap ((DL : Int) - 1 - (UL : Int)) = (IX : Int) := by rw [IntWalk.i64_in _ (by omega)]; omega
        have q3 : (IX : Int) < (DL : Int) := by omega
        have j1 : decide ((UL : Int) < (DL : Int)) = true := by simp; omega
        unfold iv at hce
        go_upto_region 1 with fail
        go_quiet (fail)
        go_wp2
        obtain ⟨V, hV⟩ : ∃ V, wr.drewN nq = V := ⟨_, rfl⟩
        have hbV : Below wr.heap.size wr V := by rw [← hV]; exact below_drewN (Below.refl _ _)
        have HXV := hide ((unhide HX).below hbV)
        have c5v := (cell_of_block (hbV.block b (cellLt c5)) _).trans c5
        have c6v := (cell_of_block (hbV.block b (cellLt c6)) _).trans c6
        have cev := (cell_of_block (hbV.block db (cellLt hce)) _).trans hce
        rw [hV]
        clear hV hbV HX c5 c6 hce c7a c7b
        go_quiet (fail)
        obtain ⟨V2, hV2⟩ : ∃ Z, V.drewN nq = Z := ⟨_, rfl⟩
        have HX2 := hide ((unhide HXV).below (show Below V.heap.size V V2 by rw [← hV2]; exact below_drewN (Below.refl _ _)))
        rw [hV2]
        clear hV2 c5v c6v cev HXV q1 q2 q3 e1 j1
        obtain ⟨K, hK⟩ : ∃ K, V2.heap.size = K := ⟨_, rfl⟩
        obtain ⟨dn2, un2, k2⟩ := (unhide HX2).sg
        have HX20 : Hid (True ∧ b < K) := hide ⟨trivial, by rw [← hK]; exact k2.lt (.inl (.inl rfl))⟩
        obtain ⟨sg, so, hsa, hat⟩ := k2.steps
        have c2 := k2.cells.1.1
        rw [hsa, unhide HN] at c2
        have hlt : (i : Int) < (N : Int) := by omega
        have hkN : i < d.steps.length := by rw [unhide HN]; omega
        obtain ⟨s1, hs1⟩ : ∃ s, d.steps[i]? = some s := ⟨_, List.getElem?_eq_getElem hkN⟩
        obtain ⟨⟨t0, t1, t2, t3⟩, ⟨t4, t5, t6, t7⟩, ⟨t8, t9, t10, t11, t12⟩⟩ := step_cells (hat i s1 hs1)
        obtain ⟨W1, hW1, hb1, g0, hz1⟩ := new1 V2 (.cells #[.string ⟨s1.name.toArray⟩, .string ⟨s1.action.toArray⟩, .string ⟨s1.undo.toArray⟩, s1.aV, .int .i64 s1.most, .int .i64 s1.first, .int .i64 s1.factor, .int .i64 s1.limit, .int .u8 s1.note.kind, .string ⟨s1.note.text.toArray⟩, s1.note.kV, s1.note.dV, .int .i64 s1.note.line] 63) K hK
        obtain ⟨W2, hW2, hb2, g1, hz2⟩ := new1 W1 (.cells #[.int .i64 (i : Int), .bool true] 157) (K + 1) hz1
        have g02 := (hb2.block K (by omega)).trans g0
        have ha2 := ((unhide HX2).below (by rw [hK]; exact hb1)).below (by rw [hz1]; exact hb2)
        obtain ⟨⟨a0, b0⟩, ⟨a1, b1⟩, ⟨a2, b2⟩, ⟨a3, b3⟩, ⟨a4, b4⟩, ⟨a5, b5⟩, ⟨a6, b6⟩, ⟨a7, b7⟩, ⟨a8, b8⟩, ⟨a9, b9⟩, ⟨a10, b10⟩, ⟨a11, b11⟩, ⟨a12, b12⟩⟩ := cell13 g02
        obtain ⟨⟨w0', _⟩, ⟨w1', _⟩⟩ := two_cells g1
        simp only [PSt.aV, Nd.kV, Nd.dV] at t3 t10 t11 a3 a10 a11 hW1
        have HW1 := hide hW1
        have HW2 := hide hW2
        have HA2 := hide ha2
        have HS1 := hide hs1
        have HG02 := hide g02
        have HG1 := hide g1
        clear hW1 hW2 ha2 hs1 hb1 hb2 g0 g1 g02 hat k2 HX2 hsa b0 b1 b2 b3 b4 b5 b6 b7 b8 b9 b10 b11 b12
        go_upto_region 4 with fail
        try rw [hK]
        rw [unhide HW1]
        clear t0 t1 t2 t3 t4 t5 t6 t7 t8 t9 t10 t11 t12 c2
        go_upto_region 5 with fail
        try rw [hz1]
        rw [unhide HW2]
        obtain ⟨dn2, un2, k2⟩ := (unhide HA2).sg
        obtain ⟨da2, dc2, hde2, _, _, _⟩ := k2.odn.slice
        obtain ⟨ua2, uc2, hue2, _, _, _⟩ := k2.oun.slice
        subst hde2
        subst hue2
        rw [unhide HDL] at k2
        rw [unhide HUL] at k2
        have c4 := k2.cells.2.2.1.1
        have c6 := k2.cells.2.2.2.2.1.1
        obtain ⟨c7a, c7b⟩ := k2.cells.2.2.2.2.2
        obtain ⟨RK, hRK⟩ : ∃ r, y.1.run i true = r := ⟨_, rfl⟩
        have hlk : ∀ V, V.heap[bm]? = W2.heap[bm]? → (Instr.lookup 151 (.map (some bm)) (.agg #[.int .i64 (i : Int), .bool true]) false).run Tryz.prog V = .ok (runV RK) V := fun V hV => by
          have := (k2.mp.keep hV).look i true
          rw [hRK] at this
          exact this
        have hbl := k2.mp.lt
        have hbne := k2.bne
        obtain ⟨rp, ra, rt, rl⟩ := RK
        unfold runV at hlk
        have hl0 : ∀ q, (Instr.lookup 151 (.map (some bm)) (.agg #[.int .i64 (i : Int), .bool true]) false).run Tryz.prog (W2.drewN q) = .ok (.agg #[.int .u8 (rp : Int), .int .i64 ra, .int .i64 rt, .bool rl]) (W2.drewN q) := fun q => hlk _ rfl
        have HLK := hide hlk
        have HK2 := hide k2
        have HRK := hide hRK
        have HUD := hide (undoOf_bare d (unhide HS1))
        clear hlk k2 hRK
        by_cases hu : s1.undo = []
        · have a2' := a2
          rw [hu] at a2'
          clear a2
          go_upto_region 7 with fail
          obtain ⟨W3, hW3⟩ : ∃ Z, W2 = Z := ⟨_, rfl⟩
          have HA3 : Hid (SA w0 M0 b bm rb C h1 h2 ob vs d y W3) := by rw [← hW3]; exact HA2
          rw [hW3]
          clear hW3 c4 c6 c7a c7b hl0 hbl hbne HA2 HK2 HLK a0 a1 a3 a4 a5 a6 a7 a8 a9 a10 a11 a12 w0' w1' hz2
          obtain ⟨dn3, un3, v3, k1, k2, k3, k4, k5, k6⟩ := (unhide HA3).ex
          obtain ⟨ua3, uc3, hue3, _, _, _⟩ := k1.oun.slice
          subst hue3
          obtain ⟨H, hH⟩ : ∃ H, W3.heap.size = H := ⟨_, rfl⟩
          obtain ⟨W4, hW4, hb4, g4, hz4⟩ := new1 W3 (.cells #[.int .i64 (i : Int)] 3) H hH
          have ha4 := (unhide HA3).below (by rw [hH]; exact hb4)
          have s4 := k1.below (by rw [hH]; exact hb4)
          have k2' := (hb4.block ob (by rw [← hH]; exact (Array.getElem?_eq_some_iff.1 k2).1)).trans k2
          have k3' : OwnO W4 C v3 y.2 := OwnO.keep k3 (fun g hg => hb4.block g (by rw [← hH]; exact (k3.lt hg).2))
          have c6 := s4.cells.2.2.2.2.1.1
          have c6o := k1.cells.2.2.2.2.1.1
          rw [unhide HUL] at c6 c6o
          have hoN := s4.oun
          rw [unhide HUL] at hoN
          have HON := hide hoN
          have f6 := s4.cells.2.2.2.2.1.2
          have hCW := s4.cw
          have hbc := s4.bc
          have HW4 := hide hW4
          have HA4 := hide ha4
          have HS4 := hide s4
          have HG4 := hide g4
          have HEX := hide (And.intro k2' (And.intro k3' (And.intro k4 (And.intro k5 k6))))
          clear hW4 ha4 s4 k1 k2 k3 k4 k5 k6 k2' k3' hb4 HA3 g4 hoN
          go_wp2_with (at_builtin; revert hH)
          intro hH
          try rw [hH]
          rw [unhide HW4]
          refine wpList_appNat (j := i) (by rfl) _ _ (by rfl) (by rfl) (unhide HON) H 1 (by rfl) (unhide HG4) UL (unhide HUL) (by omega) hCW ?_
          intro g5 cap5 w5 hown5 hgrow5 hat5 hlt5
          have hbb := hgrow5.block b (by omega) (fun e => by have := ((unhide HON).lt e.symm).1; omega)
          have f5 := (World.frozen?_of_block (a := ⟨b, 6, none⟩) hbb).trans f6
          have c5 := (World.cell?_of_block (a := ⟨b, 6, none⟩) hbb).trans c6
          have HE := hide (And.intro hown5 (And.intro hgrow5 hat5))
          clear hown5 hgrow5 hat5 hbb c6 f6 c6o hCW
          go_wp2
          go_roundg g'
          case measure => omega
          case rel =>
            obtain ⟨hown5, hgrow5, hat5⟩ := unhide HE
            obtain ⟨k2, k3, k4, k5, k6⟩ := unhide HEX
            obtain ⟨i1, i2, i3, i4, i5, i6⟩ := unhide HI
            have hc : (P33.undoOf d.bare i).isEmpty = true ∨ (y.1.run i true).phase = 3 := by rw [unhide HUD, hu]; exact .inl rfl
            have hul : y.1.undone.length + 1 ≤ y.1.done.length := by omega
            rw [← unhide HUL] at hown5 hgrow5 hat5 ⊢
            refine ⟨_, hide ((unhide HA4).undo (unhide HS4) k2 k3 k4 k5 k6 hown5 hgrow5 hat5 hul), hide ⟨good_more i1 i2 i3 hturn hc, i2, i3, i4, by simp only [List.length_append, List.length_singleton]; omega, ?_⟩⟩
            rw [← i6]
            exact (backGo_more hturn hc).symm
        · obtain ⟨u0', us', hus⟩ : ∃ a l, s1.undo = a :: l := by
            cases hu' : s1.undo with
            | nil => exact absurd hu' hu
            | cons a l => exact ⟨_, _, rfl⟩
          have a2' := a2
          rw [hus] at a2'
          clear a2
          go_upto_region 6 with fail
          by_cases h3 : rp = 3
          · have p3 : ((rp : Int) == 3) = true := by rw [h3]; rfl
            go_quiet (fail)
            go_upto_region 7 with fail
            obtain ⟨W3, hW3⟩ : ∃ Z, W2.drewN nq = Z := ⟨_, rfl⟩
            have HA3 : Hid (SA w0 M0 b bm rb C h1 h2 ob vs d y W3) := by rw [← hW3]; exact hide ((unhide HA2).below (below_drewN (Below.refl _ _)))
            rw [hW3]
            clear hW3 c4 c6 c7a c7b hl0 hbl hbne HA2 HK2 HLK a0 a1 a3 a4 a5 a6 a7 a8 a9 a10 a11 a12 w0' w1' hz2
            obtain ⟨dn3, un3, v3, k1, k2, k3, k4, k5, k6⟩ := (unhide HA3).ex
            obtain ⟨ua3, uc3, hue3, _, _, _⟩ := k1.oun.slice
            subst hue3
            obtain ⟨H, hH⟩ : ∃ H, W3.heap.size = H := ⟨_, rfl⟩
            obtain ⟨W4, hW4, hb4, g4, hz4⟩ := new1 W3 (.cells #[.int .i64 (i : Int)] 3) H hH
            have ha4 := (unhide HA3).below (by rw [hH]; exact hb4)
            have s4 := k1.below (by rw [hH]; exact hb4)
            have k2' := (hb4.block ob (by rw [← hH]; exact (Array.getElem?_eq_some_iff.1 k2).1)).trans k2
            have k3' : OwnO W4 C v3 y.2 := OwnO.keep k3 (fun g hg => hb4.block g (by rw [← hH]; exact (k3.lt hg).2))
            have c6 := s4.cells.2.2.2.2.1.1
            have c6o := k1.cells.2.2.2.2.1.1
            rw [unhide HUL] at c6 c6o
            have hoN := s4.oun
            rw [unhide HUL] at hoN
            have HON := hide hoN
            have f6 := s4.cells.2.2.2.2.1.2
            have hCW := s4.cw
            have hbc := s4.bc
            have HW4 := hide hW4
            have HA4 := hide ha4
            have HS4 := hide s4
            have HG4 := hide g4
            have HEX := hide (And.intro k2' (And.intro k3' (And.intro k4 (And.intro k5 k6))))
            clear hW4 ha4 s4 k1 k2 k3 k4 k5 k6 k2' k3' hb4 HA3 g4 hoN
            go_wp2_with (at_builtin; revert hH)
            intro hH
            try rw [hH]
            rw [unhide HW4]
            refine wpList_appNat (j := i) (by rfl) _ _ (by rfl) (by rfl) (unhide HON) H 1 (by rfl) (unhide HG4) UL (unhide HUL) (by omega) hCW ?_
            intro g5 cap5 w5 hown5 hgrow5 hat5 hlt5
            have hbb := hgrow5.block b (by omega) (fun e => by have := ((unhide HON).lt e.symm).1; omega)
            have f5 := (World.frozen?_of_block (a := ⟨b, 6, none⟩) hbb).trans f6
            have c5 := (World.cell?_of_block (a := ⟨b, 6, none⟩) hbb).trans c6
            have HE := hide (And.intro hown5 (And.intro hgrow5 hat5))
            clear hown5 hgrow5 hat5 hbb c6 f6 c6o hCW
            go_wp2
            go_roundg g'
            case measure => omega
            case rel =>
              obtain ⟨hown5, hgrow5, hat5⟩ := unhide HE
              obtain ⟨k2, k3, k4, k5, k6⟩ := unhide HEX
              obtain ⟨i1, i2, i3, i4, i5, i6⟩ := unhide HI
              have hc : (P33.undoOf d.bare i).isEmpty = true ∨ (y.1.run i true).phase = 3 := by right; rw [unhide HRK]; exact h3
              have hul : y.1.undone.length + 1 ≤ y.1.done.length := by omega
              rw [← unhide HUL] at hown5 hgrow5 hat5 ⊢
              refine ⟨_, hide ((unhide HA4).undo (unhide HS4) k2 k3 k4 k5 k6 hown5 hgrow5 hat5 hul), hide ⟨good_more i1 i2 i3 hturn hc, i2, i3, i4, by simp only [List.length_append, List.length_singleton]; omega, ?_⟩⟩
              rw [← i6]
              exact (backGo_more hturn hc).symm
          · have p3 : ((rp : Int) == 3) = false := by simp; omega
            go_quiet (fail)
            go_upto_region 8 with fail
            obtain ⟨W3, hW3⟩ : ∃ Z, W2.drewN nq = Z := ⟨_, rfl⟩
            have ha3 : SA w0 M0 b bm rb C h1 h2 ob vs d y W3 := by rw [← hW3]; exact (unhide HA2).below (below_drewN (Below.refl _ _))
            have d4 : W3.cell? ⟨b, 4, none⟩ = some (.map (some bm)) := by rw [← hW3]; exact c4
            have x0 : W3.cell? ⟨K + 1, 0, none⟩ = some (.int .i64 (i : Int)) := by rw [← hW3]; exact w0'
            have x1 : W3.cell? ⟨K + 1, 1, none⟩ = some (.bool true) := by rw [← hW3]; exact w1'
            have d7a : W3.cell? ⟨b, 7, none⟩ = some (.int .u8 (y.1.status : Int)) := by rw [← hW3]; exact c7a
            have d7b : W3.frozen? ⟨b, 7, none⟩ = false := by rw [← hW3]; exact c7b
            have h30 : ∀ V, V.heap[bm]? = W3.heap[bm]? → (Instr.lookup 151 (.map (some bm)) (.agg #[.int .i64 (i : Int), .bool true]) false).run Tryz.prog V = .ok (.agg #[.int .u8 (rp : Int), .int .i64 ra, .int .i64 rt, .bool rl]) V := fun V hV => (unhide HLK) V (hV.trans (by rw [← hW3]; rfl))
            have h31 : ∀ q, (Instr.lookup 151 (.map (some bm)) (.agg #[.int .i64 (i : Int), .bool true]) false).run Tryz.prog (W3.drewN q) = .ok (.agg #[.int .u8 (rp : Int), .int .i64 ra, .int .i64 rt, .bool rl]) (W3.drewN q) := fun q => h30 _ rfl
            have hKb : b ≠ K + 1 := by
              have := (unhide HX20).2
              omega
            have HH3 : Hid (W3.heap = W2.heap) := hide (by rw [← hW3]; rfl)
            rw [hW3]
            have H30 := hide h30
            have HA3 := hide ha3
            clear h30 ha3 hW3 c4 c6 c7a c7b w0' w1' hl0 HA2 HK2
            by_cases h4 : rp = 4
            · have p4 : ((rp : Int) == 4) = true := by rw [h4]; rfl
              go_quiet (fail)
              go_upto_region 10 with fail
              refine bodyPost_ret (results_none rfl _ _ _) rfl ⟨⟨_, rfl⟩, ?_⟩
              obtain ⟨i1, i2, i3, i4, i5, i6⟩ := unhide HI
              rw [← i6, backGo_stuck hturn (by rw [unhide HUD, hus, unhide HRK]; exact fun q => q.elim (fun q => by simp at q) h3) (by rw [unhide HRK]; exact h4)]
              exact ((unhide HA3).below (W' := W3.drewN nq) (below_drewN (Below.refl _ _))).status 5
            · have p4 : ((rp : Int) == 4) = false := by simp; omega
              have hb0 : ∀ f, P32.backGo d.bare n (f + 1) y = if (y.1.run i true).phase = 0 then P32.put i true (P31.begin_ (P32.stepAt d.bare i) n) y else y := fun f => backGo_ask hturn (by rw [unhide HUD, hus, unhide HRK]; exact fun q => q.elim (fun q => by simp at q) h3) (by rw [unhide HRK]; exact h4)
              have HB0 := hide hb0
              clear hb0
              go_quiet (fail)
              go_upto_region 10 with fail
              obtain ⟨W5, hW5⟩ : ∃ Z, W3.drewN nq = Z := ⟨_, rfl⟩
              have ha5 : SA w0 M0 b bm rb C h1 h2 ob vs d y W5 := by rw [← hW5]; exact (unhide HA3).below (below_drewN (Below.refl _ _))
              have e4 : W5.cell? ⟨b, 4, none⟩ = some (.map (some bm)) := by rw [← hW5]; exact d4
              have y0 : W5.cell? ⟨K + 1, 0, none⟩ = some (.int .i64 (i : Int)) := by rw [← hW5]; exact x0
              have y1 : W5.cell? ⟨K + 1, 1, none⟩ = some (.bool true) := by rw [← hW5]; exact x1
              have h51 : ∀ q, (Instr.lookup 151 (.map (some bm)) (.agg #[.int .i64 (i : Int), .bool true]) false).run Tryz.prog (W5.drewN q) = .ok (.agg #[.int .u8 (rp : Int), .int .i64 ra, .int .i64 rt, .bool rl]) (W5.drewN q) := fun q => unhide H30 _ (by rw [← hW5]; rfl)
              have HH5 : Hid (W5.heap = W3.heap) := hide (by rw [← hW5]; rfl)
              rw [hW5]
              have HA5 := hide ha5
              clear ha5 hW5 d4 d7a d7b x0 x1 h31 HA3 H30
              by_cases h0 : rp = 0
              · have p0 : ((rp : Int) == 0) = true := by rw [h0]; rfl
                go_quiet (fail)
                go_upto_region 11 with fail
                obtain ⟨U, hU⟩ : ∃ Z, (W5.drewN nq).drew = Z := ⟨_, rfl⟩
                have hUh : U.heap = W2.heap := by rw [← hU]; exact (unhide HH5).trans (unhide HH3)
                have haU : ∀ V, Below U.heap.size U V → SA w0 M0 b bm rb C h1 h2 ob vs d y V := fun V hV => (show SA w0 M0 b bm rb C h1 h2 ob vs d y U by rw [← hU]; exact (unhide HA5).below (below_drewN (Below.refl _ _)).drew).below hV
                have hgK : ∀ V, Below U.heap.size U V → V.heap[K + 1]? = some (.cells #[.int .i64 (i : Int), .bool true] 157) := fun V hV => (hV.block _ (by rw [hUh]; omega)).trans (by rw [hUh]; exact unhide HG1)
                have hgS := unhide HG02
                rw [← hUh] at hgS
                obtain ⟨⟨s0, _⟩, ⟨s1', _⟩, ⟨s2, _⟩, ⟨s3, _⟩, ⟨s4, _⟩, ⟨s5, _⟩, ⟨s6, _⟩, ⟨s7, _⟩, ⟨s8, _⟩, ⟨s9, _⟩, ⟨s10, _⟩, ⟨s11, _⟩, ⟨s12, _⟩⟩ := cell13 hgS
                simp only [PSt.aV, Nd.kV, Nd.dV] at s3 s10 s11
                have hbk0 := (unhide HI).2.2.2.2.2
                obtain ⟨BG, hBG⟩ : ∃ z, P31.begin_ s1.bare n = z := ⟨_, rfl⟩
                have hbok : BG.ok := by rw [← hBG]; exact P31.begin_ok _ _
                rw [unhide HB0, if_pos (by rw [unhide HRK]; exact h0), stepAt_bare d (unhide HS1), hBG] at hbk0
                have hinv : P32.Inv d.bare (P32.put i true BG y).1 := by
                  obtain ⟨i1, i2, i3, i4, i5, i6⟩ := unhide HI
                  have := (P32.good_backGo (d := d.bare) (n := n) (g' + 1 + 1) y i1 i2 i3).1.inv
                  rw [i6, ← hbk0] at this
                  exact this
                have hbg := Begin_any s1 n U
                rw [hBG] at hbg
                have hsu : Calls Tryz.prog 189 #[.agg #[.string { data := s1.name.toArray }, .string { data := s1.action.toArray }, .string { data := s1.undo.toArray }, .slice s1.aa s1.after.length s1.ac, .int .i64 s1.most, .int .i64 s1.first, .int .i64 s1.factor, .int .i64 s1.limit, .int .u8 (s1.note.kind : Int), .string { data := s1.note.text.toArray }, .slice s1.note.ka s1.note.keys.length s1.note.kc, .slice s1.note.da s1.note.kids.length s1.note.dc, .int .i64 s1.note.line], .int .i64 n] U fun e w' => e = .returned (.agg #[.int .u8 (BG.phase : Int), .int .i64 BG.att, .int .i64 BG.til, .bool BG.last]) ∧ Below U.heap.size U w' := hbg
                have hpu : ∀ V, Below U.heap.size U V → Calls Tryz.prog 146 #[.agg #[.int .i64 (i : Int), .bool true], .agg #[.int .u8 (BG.phase : Int), .int .i64 BG.att, .int .i64 BG.til, .bool BG.last], .pointer (some ⟨h1, 0, none⟩), .pointer (some ⟨h2, 0, none⟩)] V fun e w' => (∃ v, e = .returned v) ∧ SA w0 M0 b bm rb C h1 h2 ob vs d BK w' := fun V hV => by
                  have := put_any i true BG V (haU V hV) hkN hbok hinv (by rw [(unhide HI).2.2.2.1]; exact hlen)
                  rw [hbk0] at this
                  exact this
                have HGK := hide hgK
                have HSU := hide hsu
                have HPU := hide hpu
                have e189 := enters_of Tryz.func189 (by kernel_rfl) rfl
                clear hUh haU hgK hgS hbk0 hBG hbok hinv hbg hsu hpu e4 y0 y1 h51 a0 a1 a2' a3 a4 a5 a6 a7 a8 a9 a10 a11 a12 HA5 HB0 HH5 HH3
                refine wp_region_phase hmixed [4, 5] (fun kk aF W => ∃ X Y, aF = { tmps := #[.pointer (some ⟨b, 0, none⟩), .func (.func 146) #[] #[.pointer (some ⟨h1, 0, none⟩), .pointer (some ⟨h2, 0, none⟩)], .int .i64 n, undef, undef, undef, .int .i64 (i : Int), .pointer (some ⟨K, 0, none⟩), .pointer (some ⟨K + 1, 0, none⟩), .pointer (some ⟨b, 0, none⟩), .bool false, .pointer (some ⟨b, 0, none⟩), .pointer (some ⟨b, 0, none⟩), .pointer (some ⟨b, 6, none⟩), .slice ua UL uc, .int .i64 (UL : Int), .pointer (some ⟨b, 0, none⟩), .pointer (some ⟨b, 0, none⟩), .pointer (some ⟨b, 5, none⟩), .slice (some ⟨db, dO, none⟩) DL dc, .int .i64 (DL : Int), .bool true, .pointer (some ⟨b, 0, none⟩), .pointer (some ⟨b, 0, none⟩), .pointer (some ⟨b, 5, none⟩), .slice (some ⟨db, dO, none⟩) DL dc, .pointer (some ⟨b, 0, none⟩), .pointer (some ⟨b, 0, none⟩), .pointer (some ⟨b, 5, none⟩), .slice (some ⟨db, dO, none⟩) DL dc, .int .i64 (DL : Int), .int .i64 ((DL : Int) - 1), .pointer (some ⟨b, 0, none⟩), .pointer (some ⟨b, 0, none⟩), .pointer (some ⟨b, 6, none⟩), .slice ua UL uc, .int .i64 (UL : Int), .int .i64 (IX : Int), .pointer (some ⟨db, dO + IX, none⟩), .int .i64 (i : Int), .pointer (some ⟨b, 0, none⟩), .pointer (some ⟨b, 0, none⟩), .pointer (some ⟨b, 0, none⟩), .pointer (some ⟨b, 2, none⟩), .slice (some ⟨sg, so, none⟩) N d.sc, .int .i64 (i : Int), .pointer (some ⟨sg, so + i * 13, none⟩), .agg #[.string { data := s1.name.toArray }, .string { data := s1.action.toArray }, .string { data := s1.undo.toArray }, .slice s1.aa s1.after.length s1.ac, .int .i64 s1.most, .int .i64 s1.first, .int .i64 s1.factor, .int .i64 s1.limit, .int .u8 (s1.note.kind : Int), .string { data := s1.note.text.toArray }, .slice s1.note.ka s1.note.keys.length s1.note.kc, .slice s1.note.da s1.note.kids.length s1.note.dc, .int .i64 s1.note.line], .int .i64 (i : Int), .agg #[.int .i64 (i : Int), .bool true], .bool false, .pointer (some ⟨K, 2, none⟩), .string { data := (u0' :: us').toArray }, .bool false, .pointer (some ⟨b, 0, none⟩), .pointer (some ⟨b, 0, none⟩), .pointer (some ⟨b, 4, none⟩), .map (some bm), .agg #[.int .i64 (i : Int), .bool true], .agg #[.int .u8 (rp : Int), .int .i64 ra, .int .i64 rt, .bool rl], .int .u8 (rp : Int), .bool false, u62, u63, u64, u65, u66, u67, u68, u69, u70, u71, .bool false, .pointer (some ⟨b, 0, none⟩), .pointer (some ⟨b, 0, none⟩), .pointer (some ⟨b, 4, none⟩), .map (some bm), .agg #[.int .i64 (i : Int), .bool true], .agg #[.int .u8 (rp : Int), .int .i64 ra, .int .i64 rt, .bool rl], .int .u8 (rp : Int), .bool false, u81, u82, u83, .bool true, .pointer (some ⟨b, 0, none⟩), .pointer (some ⟨b, 0, none⟩), .pointer (some ⟨b, 4, none⟩), .map (some bm), .agg #[.int .i64 (i : Int), .bool true], .agg #[.int .u8 0, .int .i64 ra, .int .i64 rt, .bool rl], .int .u8 0, .bool true, .func (.func 146) #[] #[.pointer (some ⟨h1, 0, none⟩), .pointer (some ⟨h2, 0, none⟩)], .agg #[.int .i64 (i : Int), .bool true], .agg #[.string { data := s1.name.toArray }, .string { data := s1.action.toArray }, .string { data := s1.undo.toArray }, .slice s1.aa s1.after.length s1.ac, .int .i64 s1.most, .int .i64 s1.first, .int .i64 s1.factor, .int .i64 s1.limit, .int .u8 (s1.note.kind : Int), .string { data := s1.note.text.toArray }, .slice s1.note.ka s1.note.keys.length s1.note.kc, .slice s1.note.da s1.note.kids.length s1.note.dc, .int .i64 s1.note.line], .int .i64 n, X, Y, undef, undef, undef], defers := [] } ∧ BaPh U BG (fun V => SA w0 M0 b bm rb C h1 h2 ob vs d BK V) kk X W) (by kernel_rfl) (by kernel_rfl) (by decide) ⟨undef, undef, rfl, hU⟩ rfl rfl (same_mid 93 6 (by kernel_rfl) rfl rfl) ?pure ?write ?fin
                case pure =>
                  rintro kk aF W ix o ⟨X, Y, rfl, hph⟩ ho hni hanc
                  rcases ix with _ | _ | _ | _ | _ | _ | ix
                  · have ho' : some _ = some o := ho
                    cases ho'
                    refine (if_pos (show Region.wanted _ (yielded _ _) = true from rfl)).mpr ?_
                    refine ⟨_, _, rfl, rfl, .inl ?_⟩
                    go_simp
                  · have ho' : some _ = some o := ho
                    cases ho'
                    have hk1 : kk ≤ 1 := hanc 1 5 rfl (by kernel_rfl)
                    have hbW : Below U.heap.size U W := by
                      rcases kk with _ | _ | kk
                      · rw [show W = U from hph]; exact Below.refl _ _
                      · exact hph.1
                      · omega
                    obtain ⟨⟨r0, _⟩, ⟨r1, _⟩⟩ := two_cells (unhide HGK W hbW)
                    clear hbW
                    refine (if_pos (show Region.wanted _ (yielded _ _) = true from rfl)).mpr ?_
                    refine ⟨_, _, rfl, rfl, .inl ?_⟩
                    go_simp
                  · have ho' : some _ = some o := ho
                    cases ho'
                    have hk0 : kk ≤ 0 := hanc 0 4 rfl (by kernel_rfl)
                    obtain rfl : kk = 0 := by omega
                    have hWU : W = U := hph
                    subst hWU
                    refine (if_pos (show Region.wanted _ (yielded _ _) = true from rfl)).mpr ?_
                    refine ⟨_, _, rfl, rfl, .inl ?_⟩
                    go_simp
                  · have ho' : some _ = some o := ho
                    cases ho'
                    refine (if_pos (show Region.wanted _ (yielded _ _) = true from rfl)).mpr ?_
                    refine ⟨_, _, rfl, rfl, .inl ?_⟩
                    go_simp
                  · exact absurd (by simp) hni
                  · exact absurd (by simp) hni
                  · exfalso; simp at ho
                case write =>
                  rintro kk aF W ix o ⟨X, Y, rfl, hph⟩ hi ho
                  rcases kk with _ | _ | kk
                  · cases (show some 4 = some ix from hi)
                    have ho' : some _ = some o := ho
                    cases ho'
                    have hWU : W = U := hph
                    subst hWU
                    refine ⟨rfl, .inr (.inr ⟨189, #[.agg #[.string { data := s1.name.toArray }, .string { data := s1.action.toArray }, .string { data := s1.undo.toArray }, .slice s1.aa s1.after.length s1.ac, .int .i64 s1.most, .int .i64 s1.first, .int .i64 s1.factor, .int .i64 s1.limit, .int .u8 (s1.note.kind : Int), .string { data := s1.note.text.toArray }, .slice s1.note.ka s1.note.keys.length s1.note.kc, .slice s1.note.da s1.note.kids.length s1.note.dc, .int .i64 s1.note.line], .int .i64 n], W, ?_, ?_⟩)⟩
                    · simp [execOp, resolve, invoke, Act.eval, e189, Result.andThen, Deferred.ofValue]
                    · refine (unhide HSU).mono ?_
                      rintro e w4 ⟨rfl, b4⟩
                      exact ⟨_, rfl, ⟨_, Y, rfl, b4, rfl⟩⟩
                  · cases (show some 5 = some ix from hi)
                    have ho' : some _ = some o := ho
                    cases ho'
                    obtain ⟨b4, rfl⟩ := hph
                    refine ⟨rfl, .inr (.inr ⟨146, #[.agg #[.int .i64 (i : Int), .bool true], runV BG, .pointer (some ⟨h1, 0, none⟩), .pointer (some ⟨h2, 0, none⟩)], W, ?_, ?_⟩)⟩
                    · simp [execOp, resolve, invoke, Act.eval, he, Result.andThen, Deferred.ofValue]
                    · refine (unhide HPU W b4).mono ?_
                      rintro e w4 ⟨⟨v4, rfl⟩, s4'⟩
                      exact ⟨_, rfl, ⟨_, v4, rfl, s4'⟩⟩
                  · simp at hi
                case fin =>
                  rintro kk aF W6 hk ⟨X, Y, rfl, hph⟩
                  obtain ⟨kk, rfl⟩ : ∃ k', kk = k' + 2 := ⟨kk - 2, by simp at hk; omega⟩
                  have hs6 : SA w0 M0 b bm rb C h1 h2 ob vs d BK W6 := hph
                  go_wp2
                  first
                  | exact bodyPost_ret (results_none rfl _ _ _) rfl ⟨⟨_, rfl⟩, hs6⟩
                  | (rw [Exit.noGoto_ret]; exact bodyPost_ret (results_none rfl _ _ _) rfl ⟨⟨_, rfl⟩, hs6⟩)
              · have p0 : ((rp : Int) == 0) = false := by simp; omega
                go_quiet (fail)
                go_upto_region 11 with fail
                refine bodyPost_ret (results_none rfl _ _ _) rfl ⟨⟨_, rfl⟩, ?_⟩
                obtain ⟨i1, i2, i3, i4, i5, i6⟩ := unhide HI
                rw [← i6, unhide HB0, if_neg (by rw [unhide HRK]; exact h0)]
                exact (unhide HA5).below (W' := W5.drewN nq) (below_drewN (Below.refl _ _))
end Go.Proofs.YtefokfbgpfcbkaaGreat
