/- Lemmas of this claim (a part of its texts, kept as far as the claim reaches them). -/
import Derived.Test.YtefokfbgpfcbkaaGreatM33yZ
namespace Go.Proofs.YtefokfbgpfcbkaaGreat
set_option linter.unusedVariables false
set_option linter.unusedSimpArgs false
open Go.RowKit
theorem step_appN {w : World} {B : Nat} {v : Value} {l : List Nat} {j : Nat} {ops : Array Oper} {o : Oper} {a : Act} {K : Act → World → Prop} {Q : Exit → Act → World → Prop} {E : Prop} (hgd : o.guard = none) (s x : Operand)
    (ho : o.op = .call { callee := .builtin .append, args := #[s, x], argTypes := #[48, 48] })
    (hs : a.eval s = v) (hown : OwnN w B v l) (g cap : Nat) (hx : a.eval x = .slice (some ⟨g, 0, none⟩) 1 cap) (hnew : w.cell? ⟨g, 0, none⟩ = some (.int .i64 (j : Int)))
    (m : Nat) (hm : l.length = m) (hlen : m + 1 ≤ 1000000000) (hB : B ≤ w.heap.size)
    (h : ∀ g' cap' w', OwnN w' B (.slice (some ⟨g', 0, none⟩) (m + 1) cap') (l ++ [j]) → w.grownBy w' v.ownBlock → (some g' = v.ownBlock ∨ some g' = some w.heap.size) → K (a.put o.dst (.slice (some ⟨g', 0, none⟩) (m + 1) cap')) w') :
    if Region.wanted o (yielded ops a.tmps) = true then Oper.wp Tryz.prog o a w K Q else E := by
  subst hm
  obtain ⟨i, hi, hz, hsz, hby⟩ := info_parts infoInt
  refine step_append_lies (P := Tryz.prog) w hgd s x 48 ho B 3 i (.int .i64 0) 1 8 Tryz.underlying48 hi hz hsz hby rfl (by decide) v l.length (l.map iv) hs hown
    ⟨g, 0, none⟩ 1 cap [.int .i64 (j : Int)] hx rfl (by intro k u hk; match k, hk with | 0, hk => simp at hk; subst hk; exact hnew) (by intro u hu; simp at hu; subst hu; rfl) (by decide) (by unfold maxLen; omega) (by omega) hB _ rfl ?_
  intro g' cap' w' h2 h3 hat _
  refine h g' cap' w' ?_ h3 (hat.imp Eq.symm (fun e => by rw [e]))
  unfold OwnN
  rw [List.length_append, List.map_append]
  exact h2
theorem Md.appUn {W W1 : World} {b bm rb G C i g' c' : Nat} {vs : Nat → Value} {d : PDef} {dn un : Value} {s : P33.S} (h : Md W b bm rb G C vs d dn un s) (ho : OwnN W1 C (.slice (some ⟨g', 0, none⟩) (s.undone.length + 1) c') (s.undone ++ [i])) (hg : W.grownBy W1 un.ownBlock)
    (hat : some g' = un.ownBlock ∨ some g' = some W.heap.size) (hul : s.undone.length + 1 ≤ s.done.length) : Md (W1.setCell ⟨b, 6, none⟩ (.slice (some ⟨g', 0, none⟩) (s.undone.length + 1) c')) b bm rb G C vs d dn (.slice (some ⟨g', 0, none⟩) (s.undone.length + 1) c') { s with undone := s.undone ++ [i] } := by
  have hC := h.bc
  have hM := h.mc
  have hcw := h.cw
  have hGb := h.gb
  have hGm := h.gm
  have hun : ∀ g, un.ownBlock = some g → C ≤ g := fun g hg2 => (h.oun.lt hg2).1
  have hgC : C ≤ g' := by
    rcases hat with e | e
    · exact hun g' e.symm
    · cases e; omega
  have hkeep : ∀ g, g < W.heap.size → un.ownBlock ≠ some g → g ≠ b → (W1.setCell ⟨b, 6, none⟩ (.slice (some ⟨g', 0, none⟩) (s.undone.length + 1) c')).heap[g]? = W.heap[g]? := fun g hl hne hb => (Below.heap_setCell _ _ _ _ hb).trans (hg.block g hl (fun e => hne e.symm))
  have hlow : ∀ g, g < C → un.ownBlock ≠ some g := fun g hl e => by have := hun g e; omega
  refine ⟨md_set6 ((hg.block b (by omega) (fun e => hlow b hC e.symm)).trans h.bx) _, h.mp.keep (hkeep bm (by omega) (hlow bm hM) (fun e => h.bne e.symm)), h.odn.keep (fun g hg2 => hkeep g (h.odn.lt hg2).2 (h.apart g hg2) (by have := (h.odn.lt hg2).1; omega)), ?_, fun g hg2 e => ?_, h.df.keep (fun g hg2 => hkeep g (h.df.lt hg2) (hlow g (by have := h.dlt g hg2; omega)) (by have := h.dlt g hg2; omega)), h.dlt, h.gr.keep (fun g hg2 => ?_), h.glt, h.gb, h.gm, h.bne, h.bc, h.mc, ?_, h.tr, h.nd, h.dl, by simpa using hul, h.ne, h.nle⟩
  · have h5 := ho.keep (W' := W1.setCell ⟨b, 6, none⟩ (.slice (some ⟨g', 0, none⟩) (s.undone.length + 1) c')) (fun g hg2 => Below.heap_setCell _ _ _ _ (by have e : some g' = some g := hg2; injection e with e; show g ≠ b; omega))
    exact h5
  · have e : some g' = some g := e
    cases e
    rcases hat with q | q
    · exact h.apart _ hg2 q.symm
    · have h1 := (h.odn.lt hg2).2
      cases q
      exact absurd h1 (Nat.lt_irrefl _)
  · have hg3 := h.glt g (by rw [P28.refs_len, Md.blen] at hg2; exact hg2)
    exact hkeep g (h.gr.lt hg2).2 (hlow g (by omega)) (by omega)
  · have := hg.size
    simp
    omega
theorem Md.appDn {W W1 : World} {b bm rb G C i g' c' : Nat} {vs : Nat → Value} {d : PDef} {dn un : Value} {s : P33.S} (h : Md W b bm rb G C vs d dn un s) (ho : OwnN W1 C (.slice (some ⟨g', 0, none⟩) (s.done.length + 1) c') (s.done ++ [i])) (hg : W.grownBy W1 dn.ownBlock)
    (hat : some g' = dn.ownBlock ∨ some g' = some W.heap.size) (hnd : (s.done ++ [i]).Nodup) (hi : i < d.steps.length) : Md (W1.setCell ⟨b, 5, none⟩ (.slice (some ⟨g', 0, none⟩) (s.done.length + 1) c')) b bm rb G C vs d (.slice (some ⟨g', 0, none⟩) (s.done.length + 1) c') un { s with done := s.done ++ [i] } := by
  have hC := h.bc
  have hM := h.mc
  have hcw := h.cw
  have hGb := h.gb
  have hGm := h.gm
  have hun : ∀ g, dn.ownBlock = some g → C ≤ g := fun g hg2 => (h.odn.lt hg2).1
  have hgC : C ≤ g' := by
    rcases hat with e | e
    · exact hun g' e.symm
    · cases e; omega
  have hkeep : ∀ g, g < W.heap.size → dn.ownBlock ≠ some g → g ≠ b → (W1.setCell ⟨b, 5, none⟩ (.slice (some ⟨g', 0, none⟩) (s.done.length + 1) c')).heap[g]? = W.heap[g]? := fun g hl hne hb => (Below.heap_setCell _ _ _ _ hb).trans (hg.block g hl (fun e => hne e.symm))
  have hlow : ∀ g, g < C → dn.ownBlock ≠ some g := fun g hl e => by have := hun g e; omega
  refine ⟨md_set5 ((hg.block b (by omega) (fun e => hlow b hC e.symm)).trans h.bx) _, h.mp.keep (hkeep bm (by omega) (hlow bm hM) (fun e => h.bne e.symm)), ?_, h.oun.keep (fun g hg2 => hkeep g (h.oun.lt hg2).2 (fun e => h.apart g e hg2) (by have := (h.oun.lt hg2).1; omega)), fun g hg2 e => ?_, h.df.keep (fun g hg2 => hkeep g (h.df.lt hg2) (hlow g (by have := h.dlt g hg2; omega)) (by have := h.dlt g hg2; omega)), h.dlt, h.gr.keep (fun g hg2 => ?_), h.glt, h.gb, h.gm, h.bne, h.bc, h.mc, ?_, h.tr, hnd, fun j hj => ?_, by have := h.ul; simp; omega, h.ne, h.nle⟩
  · have h5 := ho.keep (W' := W1.setCell ⟨b, 5, none⟩ (.slice (some ⟨g', 0, none⟩) (s.done.length + 1) c')) (fun g hg2 => Below.heap_setCell _ _ _ _ (by have e : some g' = some g := hg2; injection e with e; show g ≠ b; omega))
    exact h5
  · have hg2 : some g' = some g := hg2
    cases hg2
    rcases hat with q | q
    · exact h.apart _ q.symm e
    · have h1 := (h.oun.lt e).2
      cases q
      exact absurd h1 (Nat.lt_irrefl _)
  · have hg3 := h.glt g (by rw [P28.refs_len, Md.blen] at hg2; exact hg2)
    exact hkeep g (h.gr.lt hg2).2 (hlow g (by omega)) (by omega)
  · have := hg.size
    simp
    omega
  · rcases List.mem_append.1 hj with hj | hj
    · exact h.dl j hj
    · simp at hj; rw [hj]; exact hi
set_option maxRecDepth 100000 in
set_option maxHeartbeats 8000000 in
theorem Says_any {b bm rb G C : Nat} {vs : Nat → Value} {d : PDef} {dn un : Value} {s : P33.S} (a : P33.Ans) (w : World) (h : Md w b bm rb G C vs d dn un s) (hinv : P33.Inv d.bare s) :
    Calls Tryz.prog 18 #[.pointer (some ⟨b, 0, none⟩), .agg #[.int .i64 a.step, .int .i64 a.attempt, .bool a.undo, .int .u8 a.outcome]] w fun e w' =>
      e = .returned (.int .i64 (P33.says d.bare s a).1) ∧ (∃ dn' un', Md w' b bm rb G C vs d dn' un' (P33.says d.bare s a).2 ∧ ∀ g, Mb b bm dn' un' g → Mb b bm dn un g ∨ w.heap.size ≤ g) ∧ KW (Mb b bm dn un) w w' := by
  obtain ⟨H, hH⟩ : ∃ H, w.heap.size = H := ⟨_, rfl⟩
  have hGH : G ≤ H := by have := h.gb; have := h.bc; have := h.cw; omega
  have hCH : C ≤ H := by have := h.cw; omega
  have hnxt := P33.inv_says hinv a
  obtain ⟨st, att, u, oc⟩ := a
  obtain ⟨W1, hW1, hb1, g0, hs1⟩ := new1 w (.cells #[.int .i64 st, .int .i64 att, .bool u, .int .u8 oc] 37) H hH
  have h1 := h.below (by rw [hH]; exact hb1)
  have hmv := h1.moving
  have hhs := h1.has st
  obtain ⟨⟨q0, p0⟩, ⟨q1, p1⟩, ⟨q2, p2⟩, ⟨q3, p3⟩⟩ := cell4 g0
  simp only
  have HW1 := hide hW1
  have HB1 := hide hb1
  have H1 := hide h1
  have G0 := hide g0
  have HNX := hide hnxt
  by_cases hm : P33.moving s = false
  · have hA : P33.says d.bare s ⟨st, att, u, oc⟩ = (13, s) := by unfold P33.says; rw [if_pos hm]
    rw [hA]
    rw [hm] at hmv
    have HMV := hide hmv
    clear hW1 hb1 g0 h h1 hmv hhs hA hnxt hinv
    go_enter Tryz.func18, Tryz.ntmps18
    go_upto_region 1 with fail
    try rw [hH]
    rw [unhide HW1]
    go_wp2_with (go_at_call 71; refine (unhide HMV).mono ?_; rintro e w' ⟨rfl, hw⟩; have hw := hw.symm; subst hw)
    go_ret
    exact ⟨rfl, ⟨dn, un, unhide H1, fun _ hg => .inl hg⟩, .of (unhide HB1) (by omega)⟩
  · have hm1 : P33.moving s = true := by simpa using hm
    rw [hm1] at hmv
    have HMV := hide hmv
    by_cases hh : P33.has d.bare st = false
    · have hA : P33.says d.bare s ⟨st, att, u, oc⟩ = (1, s) := by unfold P33.says; rw [if_neg hm, if_pos hh]
      rw [hA]
      rw [hh] at hhs
      have HHS := hide hhs
      clear hW1 hb1 g0 h h1 hmv hhs hA hnxt hinv
      go_enter Tryz.func18, Tryz.ntmps18
      go_upto_region 1 with fail
      try rw [hH]
      rw [unhide HW1]
      go_wp2_with (first | (go_at_call 71; with_reducible refine (unhide HMV).mono ?_; rintro e w' ⟨rfl, hw⟩; have hw := hw.symm; subst hw) | (go_at_call 72; with_reducible refine (unhide HHS).mono ?_; rintro e w' ⟨rfl, hw⟩; have hw := hw.symm; subst hw))
      go_ret
      exact ⟨rfl, ⟨dn, un, unhide H1, fun _ hg => .inl hg⟩, .of (unhide HB1) (by omega)⟩
    · have hh1 : P33.has d.bare st = true := by simpa using hh
      rw [hh1] at hhs
      have HHS := hide hhs
      obtain ⟨i, hi⟩ : ∃ i : Nat, st = (i : Int) := by
        unfold P33.has at hh1
        simp only [Bool.and_eq_true, decide_eq_true_eq] at hh1
        exact ⟨st.toNat, by omega⟩
      subst hi
      have hiN : i < d.steps.length := by
        unfold P33.has at hh1
        rw [Md.blen] at hh1
        simp only [Bool.and_eq_true, decide_eq_true_eq] at hh1
        omega
      obtain ⟨W2, hW2, hb2, g1, hs2⟩ := new1 W1 (.cells #[.int .i64 (i : Int), .bool u] 130) (H + 1) hs1
      have h2 := h1.below (by rw [hs1]; exact hb2)
      have bw2 : KW (Mb b bm dn un) w W2 := (KW.of (unhide HB1) (by omega)).next hb2 (by omega)
      have g02 := (hb2.block H (by omega)).trans (unhide G0)
      obtain ⟨⟨t, op⟩, hwp⟩ : ∃ p, s.w i u = p := ⟨_, rfl⟩
      have htr := h.tr i u
      rw [hwp] at htr
      simp only at htr
      have HWP := hide hwp
      obtain ⟨⟨y0, _⟩, ⟨y1, _⟩, ⟨y2, _⟩, ⟨y3, _⟩⟩ := cell4 g02
      obtain ⟨⟨r0, _⟩, ⟨r1, _⟩⟩ := two_cells g1
      have c4 := h2.cells.2.2.1.1
      have h3k : ∀ {W' : World}, W'.heap[bm]? = W2.heap[bm]? → Ways W' bm s.w := fun hb => h2.mp.keep hb
      have h3l : bm < W2.heap.size := h2.mp.lt
      have hl1 : (Instr.lookup 121 (.map (some bm)) (.agg #[.int .i64 (i : Int), .bool u]) false).run Tryz.prog W2.drew = .ok (.agg #[.int .i64 t, .bool op]) W2.drew := by
        have := (h3k (W' := W2.drew) rfl).look i u
        rw [hwp] at this
        exact this
      have hl2 : ∀ (ob : Obj), (Instr.lookup 121 (.map (some bm)) (.agg #[.int .i64 (i : Int), .bool u]) false).run Tryz.prog (W2.alloc ob).drew = .ok (.agg #[.int .i64 t, .bool op]) (W2.alloc ob).drew := fun ob => by
        have := (h3k (W' := (W2.alloc ob).drew) (Below.heap_alloc _ _ _ h3l)).look i u
        rw [hwp] at this
        exact this
      have hal : ∀ r o, r < W2.heap.size → (W2.alloc (.cells #[.int .i64 0, .bool false] 133)).cell? ⟨r, o, none⟩ = W2.cell? ⟨r, o, none⟩ := fun r o h => cell_of_block (Below.heap_alloc _ _ _ h) o
      have c4a := (hal b 4 (by have := cellLt c4; exact this)).trans c4
      have r0a := (hal (H + 1) 0 (by omega)).trans r0
      have r1a := (hal (H + 1) 1 (by omega)).trans r1
      have HB2 := hide hb2
      have HW2 := hide hW2
      have H2 := hide h2
      have BW2 := hide bw2
      have G02 := hide g02
      have G1 := hide g1
      clear hW1 hb1 g0 h h1 hmv hhs hnxt hinv hal h3k h3l hW2 h2 bw2 g02 g1 hb2 hwp
      go_enter Tryz.func18, Tryz.ntmps18
      go_upto_region 1 with fail
      try rw [hH]
      rw [unhide HW1]
      go_upto_region 6 with (first | (go_at_call 71; with_reducible refine (unhide HMV).mono ?_; rintro e w' ⟨rfl, hw⟩; have hw := hw.symm; subst hw) | (go_at_call 72; with_reducible refine (unhide HHS).mono ?_; rintro e w' ⟨rfl, hw⟩; have hw := hw.symm; subst hw))
      rw [unhide HW2]
      have hmx := hmixed
      go_region
      obtain ⟨W4, hW4⟩ : ∃ W4, (W2.alloc (.cells #[.int .i64 t, .bool op] 133)).drew = W4 := ⟨_, rfl⟩
      rw [hW4]
      have b4 : Below (H + 1 + 1) W2 W4 := by rw [← hW4]; exact ((Below.refl _ W2).alloc (by omega) _).drew
      have gK : W4.heap[H + 1 + 1]? = some (.cells #[.int .i64 t, .bool op] 133) := by rw [← hW4, ← hs2]; exact World.alloc_heap_new _ _
      have sK : W4.heap.size = H + 1 + 1 + 1 := by rw [← hW4, ← hs2]; simp
      clear hW4 hl1 hl2 c4a r0a r1a q0 p0 q1 p1 q2 p2 q3 p3 r0 r1 c4 y0 y1 y2 y3
      have h4 : Md W4 b bm rb G C vs d dn un s := (unhide H2).below (by rw [hs2]; exact b4)
      have g04 := (b4.block H (by omega)).trans (unhide G02)
      have g14 := (b4.block (H + 1) (by omega)).trans (unhide G1)
      have bw4 : KW (Mb b bm dn un) w W4 := (unhide BW2).next b4 (by omega)
      have B14 := hide ((unhide HB2).trans (b4.mono (by omega)))
      obtain ⟨⟨q0, _⟩, ⟨q1, _⟩, ⟨q2, _⟩, ⟨q3, _⟩⟩ := cell4 g04
      obtain ⟨⟨k0, _⟩, ⟨k1, f1⟩⟩ := two_cells gK
      have H4 := hide h4
      have BW4 := hide bw4
      have G04 := hide g04
      have G14 := hide g14
      have GK := hide gK
      clear h4 bw4 g04 g14 b4 gK H2 BW2 G02 G1
      by_cases hbad : op = false ∨ t ≠ att ∨ 2 < oc
      · have hA : P33.says d.bare s ⟨(i : Int), att, u, oc⟩ = (5, s) := by
          unfold P33.says
          rw [if_neg hm, if_neg hh]
          simp only [Int.toNat_natCast, unhide HWP]
          rw [if_pos hbad]
        have HA := hide hA
        clear hA hm hm1 hh hh1
        cases op with
        | false =>
          go_wp2
          go_ret
          rw [unhide HA]
          exact ⟨rfl, ⟨dn, un, unhide H4, fun _ hg => .inl hg⟩, unhide BW4⟩
        | true =>
          by_cases ht : t = att
          · subst ht
            have ho : decide ((oc : Int) > 2) = true := by
              simp only [Bool.true_eq_false, ne_eq, not_true_eq_false, false_or] at hbad
              simp
              omega
            go_wp2
            go_ret
            rw [unhide HA]
            exact ⟨rfl, ⟨dn, un, unhide H4, fun _ hg => .inl hg⟩, unhide BW4⟩
          · have hne : (t != att) = true := by simpa using ht
            go_wp2
            go_ret
            rw [unhide HA]
            exact ⟨rfl, ⟨dn, un, unhide H4, fun _ hg => .inl hg⟩, unhide BW4⟩
      · simp only [not_or, Bool.not_eq_false, ne_eq, Decidable.not_not, Nat.not_lt] at hbad
        obtain ⟨hop, ht, hoc⟩ := hbad
        subst hop
        subst ht
        have ho2 : decide ((oc : Int) > 2) = false := by simp; omega
        have hA : P33.says d.bare s ⟨(i : Int), t, u, oc⟩ = (0, if P33.bad d.bare i t oc = true then
      (if u = true then { s with w := P33.upd s.w i u (t, false), failed := true } else { s with w := P33.upd s.w i u (t, false), status := 2 })
    else if oc = 0 then
      (if u = true then { s with w := P33.upd s.w i u (t, false), undone := s.undone ++ [i] } else { s with w := P33.upd s.w i u (t, false), done := s.done ++ [i] })
    else { s with w := P33.upd s.w i u (t, false) }) := by
          unfold P33.says
          rw [if_neg hm, if_neg hh]
          simp only [Int.toNat_natCast, unhide HWP]
          rw [if_neg (by simp; omega)]
        have hnx := unhide HNX
        rw [hA] at hnx
        have HA := hide hA
        have HN2 := hide hnx
        have hCw4 := (unhide H4).cw
        have hbH : b < H ∧ bm < H := by
          have h := unhide H1
          have h3 := h.bc
          have h4 := h.mc
          omega
        have b5 : Below (H + 1) W1 (W4.setCell ⟨H + 1 + 1, 1, none⟩ (.bool false)) := (unhide B14).setCell (p := ⟨H + 1 + 1, 1, none⟩) (by show H + 1 ≤ H + 1 + 1; omega) _
        have bw5 : KW (Mb b bm dn un) w (W4.setCell ⟨H + 1 + 1, 1, none⟩ (.bool false)) := (unhide BW4).setCell (.inr (by omega)) _
        have g15 : (W4.setCell ⟨H + 1 + 1, 1, none⟩ (.bool false)).heap[H + 1]? = _ := (Below.heap_setCell _ _ _ _ (by show H + 1 ≠ H + 1 + 1; omega)).trans (unhide G14)
        have g05 : (W4.setCell ⟨H + 1 + 1, 1, none⟩ (.bool false)).heap[H]? = _ := (Below.heap_setCell _ _ _ _ (by show H ≠ H + 1 + 1; omega)).trans (unhide G04)
        have gK5 : (W4.setCell ⟨H + 1 + 1, 1, none⟩ (.bool false)).heap[H + 1 + 1]? = some (.cells #[.int .i64 t, .bool false] 133) := by
          have h := unhide GK
          simp [World.setCell, Array.getElem?_modify, h]
        have s5 : (W4.setCell ⟨H + 1 + 1, 1, none⟩ (.bool false)).heap.size = H + 1 + 1 + 1 := by simpa using sK
        obtain ⟨W5, hW5⟩ : ∃ W5, W4.setCell ⟨H + 1 + 1, 1, none⟩ (.bool false) = W5 := ⟨_, rfl⟩
        rw [hW5] at b5 bw5 g15 g05 gK5 s5
        have h5 : Md W5 b bm rb G C vs d dn un s := (unhide H1).below (by rw [hs1]; exact b5)
        have HW5 := hide hW5
        have H5 := hide h5
        have BW5 := hide bw5
        have G05 := hide g05
        have G15 := hide g15
        have GK5 := hide gK5
        have c4 := h5.cells.2.2.1.1
        obtain ⟨L, hmp, hL⟩ := h5.mp
        have HMP := hide hmp
        have HL2 := hide hL
        clear hW5 h5 bw5 b5 hmp hL hnx hA hm hm1 hh hh1
        go_upto_region 10 with fail
        rw [unhide HW5]
        clear q0 q1 q2 q3 k0 k1 f1
        obtain ⟨⟨q0, _⟩, ⟨q1, _⟩, ⟨q2, _⟩, ⟨q3, _⟩⟩ := cell4 g05
        obtain ⟨⟨r0, _⟩, ⟨r1, _⟩⟩ := two_cells g15
        obtain ⟨⟨k0, _⟩, ⟨k1, _⟩⟩ := two_cells gK5
        clear g05 g15 gK5
        refine wp_region_tail 6 (by kernel_rfl) (by kernel_rfl) (by kernel_rfl) (by kernel_rfl) (by kernel_rfl) ?_
        simp only [List.take_succ_cons, List.take_zero, List.drop_succ_cons, List.drop_zero]
        repeat (go_big_quiet_step (fail))
        refine wpQuiet_nil ?_
        intro _ hw'
        obtain ⟨nq, hw''⟩ := hw'
        subst hw''
        go_upto_region 11 with (at_mapUpdate; refine wpList_putG rfl _ _ _ rfl ((unhide HMP).keep (W' := W5.drewN nq) rfl) key_way_model Tryz.underlying121 rfl ((i : Int), u) rfl (onV (t, false)) rfl ?_; intro W6 hm6 hg6 hs6 ho6)
        have h6 := ((unhide H5).below (W' := W5.drewN nq) (below_drewN (Below.refl _ _))).setWay (Ways.set (unhide HL2) i u (t, false) hm6) hg6 (upd_tr (unhide H5).tr (by simp only; omega))
        have bw6 : KW (Mb b bm dn un) w W6 := ((unhide BW5).drewN nq).grown hg6 (fun k e => by cases e; exact .inl (.inr (.inl rfl)))
        have g06 := (ho6 H (by omega)).trans (unhide G05)
        have gK6 := (ho6 (H + 1 + 1) (by omega)).trans (unhide GK5)
        have s6 : W6.heap.size = H + 1 + 1 + 1 := hs6.trans s5
        have hlast := h6.last hiN t
        obtain ⟨M, hM⟩ : ∃ M, P33.more (P33.triesOf d.bare i) t = M := ⟨_, rfl⟩
        rw [hM, s6] at hlast
        clear q0 q1 q2 q3 r0 r1 k0 k1 c4 hm6 hg6 hs6 ho6
        obtain ⟨⟨q0, _⟩, ⟨q1, _⟩, ⟨q2, _⟩, ⟨q3, _⟩⟩ := cell4 g06
        obtain ⟨⟨k0, _⟩, ⟨k1, _⟩⟩ := two_cells gK6
        have H6 := hide h6
        have BW6 := hide bw6
        have G06 := hide g06
        have HLA := hide hlast
        clear h6 bw6 g06 gK6 hlast
        have hcs : oc = 2 ∨ oc = 1 ∨ oc = 0 := by omega
        obtain ⟨_, _, _, ⟨c5, f5⟩, ⟨c6, f6⟩, ⟨c7, f7⟩, ⟨c8, f8⟩⟩ := (unhide H6).cells
        have hbG := (unhide H6).gb
        rcases hcs with rfl | rfl | rfl
        · have hB : P33.bad d.bare i t 2 = true := by unfold P33.bad; simp
          have hA2 := unhide HA
          simp only [hB, if_true] at hA2
          have HA2 := hide hA2
          clear hA2
          cases u with
          | true =>
            go_wp2
            go_ret
            rw [unhide HA2]
            simp only [if_true]
            exact ⟨rfl, ⟨dn, un, (unhide H6).setBox 7 (md_set7 (unhide H6).bx true) rfl rfl rfl, fun _ hg => .inl hg⟩, (unhide BW6).setCell (b := b) (o := 7) (.inl (.inl rfl)) _⟩
          | false =>
            go_wp2
            go_ret
            rw [unhide HA2]
            simp only [Bool.false_eq_true, if_false]
            exact ⟨rfl, ⟨dn, un, (unhide H6).setBox 8 (md_set8 (unhide H6).bx 2) rfl rfl rfl, fun _ hg => .inl hg⟩, (unhide BW6).setCell (b := b) (o := 8) (.inl (.inl rfl)) _⟩
        · have hB : P33.bad d.bare i t 1 = !M := by unfold P33.bad; simp [hM]
          go_upto_region 12 with (go_at_call 74; with_reducible refine (unhide HLA).mono ?_; rintro e W7 ⟨rfl, b7⟩)
          have h7 := (unhide H6).below (by rw [s6]; exact b7)
          have bw7 : KW (Mb b bm dn un) w W7 := (unhide BW6).next b7 (by omega)
          have g07 := (b7.block H (by omega)).trans (unhide G06)
          clear c5 f5 c6 f6 c7 f7 c8 f8 q0 q1 q2 q3 k0 k1
          obtain ⟨⟨q0, _⟩, ⟨q1, _⟩, ⟨q2, _⟩, ⟨q3, _⟩⟩ := cell4 g07
          obtain ⟨_, _, _, ⟨c5, f5⟩, ⟨c6, f6⟩, ⟨c7, f7⟩, ⟨c8, f8⟩⟩ := h7.cells
          have H7 := hide h7
          have BW7 := hide bw7
          clear h7 bw7 g07 b7
          cases M with
          | true =>
            have hA2 := unhide HA
            simp only [hB, Bool.not_true, Bool.false_eq_true, if_false] at hA2
            rw [if_neg (by decide)] at hA2
            have HA2 := hide hA2
            clear hA2 hB
            go_wp2
            go_ret
            rw [unhide HA2]
            exact ⟨rfl, ⟨dn, un, unhide H7, fun _ hg => .inl hg⟩, unhide BW7⟩
          | false =>
            have hA2 := unhide HA
            simp only [hB, Bool.not_false, if_true] at hA2
            have HA2 := hide hA2
            clear hA2 hB
            cases u with
            | true =>
              go_wp2
              go_ret
              rw [unhide HA2]
              simp only [if_true]
              exact ⟨rfl, ⟨dn, un, (unhide H7).setBox 7 (md_set7 (unhide H7).bx true) rfl rfl rfl, fun _ hg => .inl hg⟩, (unhide BW7).setCell (b := b) (o := 7) (.inl (.inl rfl)) _⟩
            | false =>
              go_wp2
              go_ret
              rw [unhide HA2]
              simp only [Bool.false_eq_true, if_false]
              exact ⟨rfl, ⟨dn, un, (unhide H7).setBox 8 (md_set8 (unhide H7).bx 2) rfl rfl rfl, fun _ hg => .inl hg⟩, (unhide BW7).setCell (b := b) (o := 8) (.inl (.inl rfl)) _⟩
        · have hB : P33.bad d.bare i t 0 = false := by unfold P33.bad; simp
          have hA2 := unhide HA
          simp only [hB, Bool.false_eq_true, if_false, if_true] at hA2
          have hn2 := unhide HN2
          simp only [hB, Bool.false_eq_true, if_false, if_true] at hn2
          have HA2 := hide hA2
          have h8 : Md (W6.alloc (.cells #[.int .i64 (i : Int)] 3)).drew b bm rb G C vs d dn un { s with w := P33.upd s.w i u (t, false) } := (unhide H6).below (((Below.refl _ W6).alloc (Nat.le_refl _) _).drew)
          have bw8 : KW (Mb b bm dn un) w (W6.alloc (.cells #[.int .i64 (i : Int)] 3)).drew := ((unhide BW6).alloc _).drew
          have hal : ∀ r o, r < W6.heap.size → (W6.alloc (.cells #[.int .i64 (i : Int)] 3)).cell? ⟨r, o, none⟩ = W6.cell? ⟨r, o, none⟩ := fun r o h => cell_of_block (Below.heap_alloc _ _ _ h) o
          have q0a := (hal H 0 (by omega)).trans q0
          have c5a := (hal b 5 (by omega)).trans c5
          have c6a := (hal b 6 (by omega)).trans c6
          have hnx : (W6.alloc (.cells #[.int .i64 (i : Int)] 3)).drew.heap[H + 1 + 1 + 1]? = some (.cells #[.int .i64 (i : Int)] 3) := by rw [← s6]; exact World.alloc_heap_new _ _
          have hnc := (cell1 hnx).1
          have HNC := hide hnc
          have H8 := hide h8
          have BW8 := hide bw8
          have hdl := h8.dlen
          have hul := h8.ulen
          have hnl := h8.nle
          have hCw : C ≤ (W6.alloc (.cells #[.int .i64 (i : Int)] 3)).drew.heap.size := h8.cw
          have hs8 : (W6.alloc (.cells #[.int .i64 (i : Int)] 3)).drew.heap.size = H + 1 + 1 + 1 + 1 := by show (W6.alloc _).heap.size = _; simp [s6]
          simp only at hdl hul
          clear hA2 hal hnx hnc h8 bw8
          cases u with
          | true =>
            simp only [if_true] at hn2
            have hl := hn2.len
            simp only [List.length_append, List.length_singleton] at hl
            have hl2 : (P33.todo d.bare { s with w := P33.upd s.w i true (t, false), undone := s.undone ++ [i] }).length ≤ s.done.length := by
              unfold P33.todo
              refine Nat.le_trans (List.length_filter_le _ _) (by simp)
            have hul2 : s.undone.length + 1 ≤ s.done.length := by omega
            clear hl hl2 hn2
            obtain ⟨ua, uc, hue, _, _, _⟩ := (unhide H6).oun.slice
            simp only at hue
            subst hue
            go_upto_region 17 with fail
            go_region_law (refine step_appN (by rfl) _ _ (by rfl) (by rfl) (unhide H8).oun (H + 1 + 1 + 1) 1 (by rfl) (unhide HNC) s.undone.length rfl (by omega) hCw ?_; intro g1 cap1 w1 hown1 hgrow hat; have hbb := hgrow.block b (by omega) (fun e => by have := ((unhide H8).oun.lt e.symm).1; have := (unhide H8).bc; omega); have hf := (World.frozen?_of_block (a := ⟨b, 6, none⟩) hbb).trans ((unhide H8).cells.2.2.2.2.1.2); have hc := (World.cell?_of_block (a := ⟨b, 6, none⟩) hbb).trans ((unhide H8).cells.2.2.2.2.1.1))
            all_goals (
              go_wp2
              go_ret
              rw [unhide HA2]
              simp only [if_true]
              refine ⟨rfl, ⟨dn, _, (unhide H8).appUn hown1 hgrow hat hul2, fun g hg => hg.elim (fun e => .inl (.inl e)) (fun hg => hg.elim (fun e => .inl (.inr (.inl e))) (fun hg => hg.elim (fun e => .inl (.inr (.inr (.inl e)))) (fun e => hat.elim (fun q => .inl (.inr (.inr (.inr (q.symm.trans e))))) (fun q => .inr (by have e : some g1 = some g := e; rw [q] at e; cases e; omega)))))⟩, ?_⟩
              exact ((unhide BW8).grown hgrow (fun k e => .inl (.inr (.inr (.inr e))))).setCell (b := b) (o := 6) (.inl (.inl rfl)) _)
          | false =>
            simp only [Bool.false_eq_true, if_false] at hn2
            have hnd2 := hn2.nodup
            clear hn2
            obtain ⟨da, dc, hde, _, _, _⟩ := (unhide H6).odn.slice
            simp only at hde
            subst hde
            go_upto_region 19 with fail
            go_region_law (refine step_appN (by rfl) _ _ (by rfl) (by rfl) (unhide H8).odn (H + 1 + 1 + 1) 1 (by rfl) (unhide HNC) s.done.length rfl (by omega) hCw ?_; intro g1 cap1 w1 hown1 hgrow hat; have hbb := hgrow.block b (by omega) (fun e => by have := ((unhide H8).odn.lt e.symm).1; have := (unhide H8).bc; omega); have hf := (World.frozen?_of_block (a := ⟨b, 5, none⟩) hbb).trans ((unhide H8).cells.2.2.2.1.2); have hc := (World.cell?_of_block (a := ⟨b, 5, none⟩) hbb).trans ((unhide H8).cells.2.2.2.1.1))
            all_goals (
              go_wp2
              go_ret
              rw [unhide HA2]
              simp only [Bool.false_eq_true, if_false]
              refine ⟨rfl, ⟨_, un, (unhide H8).appDn hown1 hgrow hat hnd2 hiN, fun g hg => hg.elim (fun e => .inl (.inl e)) (fun hg => hg.elim (fun e => .inl (.inr (.inl e))) (fun hg => hg.elim (fun e => hat.elim (fun q => .inl (.inr (.inr (.inl (q.symm.trans e))))) (fun q => .inr (by have e : some g1 = some g := e; rw [q] at e; cases e; omega))) (fun e => .inl (.inr (.inr (.inr e))))))⟩, ?_⟩
              exact ((unhide BW8).grown hgrow (fun k e => .inl (.inr (.inr (.inl e))))).setCell (b := b) (o := 5) (.inl (.inl rfl)) _)
end Go.Proofs.YtefokfbgpfcbkaaGreat
