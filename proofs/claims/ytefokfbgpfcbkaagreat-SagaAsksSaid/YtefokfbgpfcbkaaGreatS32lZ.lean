/- Lemmas of this claim (a part of its texts, kept as far as the claim reaches them). -/
import Derived.Test.YtefokfbgpfcbkaaGreatS32iZ
import Derived.Test.YtefokfbgpfcbkaaGreatInvMZ
import Derived.Test.YtefokfbgpfcbkaaGreatPlain32bZ
namespace Go.Proofs.YtefokfbgpfcbkaaGreat
set_option linter.unusedVariables false
set_option linter.unusedSimpArgs false
open Go.RowKit
def BxPh (U : World) (RA : P31.Run) (k : Nat) (f : Bool) (Bx : Value) (W : World) : Prop := Below U.heap.size U W ∧ (f = true → ∃ p, Bx = .pointer (some ⟨p, 0, none⟩) ∧ U.heap.size ≤ p ∧ RunB W p (if k ≤ 1 then P31.Run.zero else RA))
namespace BxPh
variable {U W W' : World} {RA : P31.Run} {k p : Nat} {f : Bool} {Bx : Value}
theorem start (U : World) (RA : P31.Run) : BxPh U RA 0 false undef U := ⟨Below.refl _ _, fun h => by cases h⟩
theorem call (h : BxPh U RA 0 f Bx W) (hb : Below W.heap.size W W') : BxPh U RA 1 f Bx W' := ⟨h.1.trans (hb.mono h.1.size), fun hf => by
  obtain ⟨p, e, h1, h2⟩ := h.2 hf
  exact ⟨p, e, h1, RunB.below h2 hb⟩⟩
theorem alloc (h : BxPh U RA k false Bx W) (hk : k ≤ 1) : BxPh U RA k true (.pointer (some ⟨W.heap.size, 0, none⟩)) (W.alloc (.cells #[.int .u8 0, .int .i64 0, .int .i64 0, .bool false] 159)) :=
  ⟨h.1.alloc h.1.size _, fun _ => ⟨_, rfl, h.1.size, by rw [if_pos hk]; exact World.alloc_heap_new _ _⟩⟩
theorem store (h : BxPh U RA 1 true (.pointer (some ⟨p, 0, none⟩)) W) : BxPh U RA 2 true (.pointer (some ⟨p, 0, none⟩)) ((((W.setCell ⟨p, 0, none⟩ (.int .u8 (RA.phase : Int))).setCell ⟨p, 1, none⟩ (.int .i64 RA.att)).setCell ⟨p, 2, none⟩ (.int .i64 RA.til)).setCell ⟨p, 3, none⟩ (.bool RA.last)) := by
  obtain ⟨q, e, h1, h2⟩ := h.2 rfl
  cases e
  have h3 : RunB W p P31.Run.zero := h2
  exact ⟨Below.set4 h.1 h1 _ _ _ _, fun _ => ⟨p, rfl, h1, h3.out RA⟩⟩
end BxPh
set_option maxRecDepth 100000 in
set_option maxHeartbeats 1600000 in
theorem Answer_any {b bm rb C : Nat} {vs : Nat → Value} {d : PDef} {dn un : Value} {s : P32.S} (n : Int) (a : P33.Ans) (w : World) (h : Sg w b bm rb C vs d dn un s) (hi : P32.Inv d.bare s) :
    Calls Tryz.prog 61 #[.pointer (some ⟨b, 0, none⟩), .agg #[.int .i64 a.step, .int .i64 a.attempt, .bool a.undo, .int .u8 (a.outcome : Int)], .int .i64 n] w fun e w' => ∃ V, e = .returned (.tuple #[V, .bool (P32.answer d.bare n a s).2]) ∧ SE w (Mb b bm dn un) b bm rb C vs d (P32.answer d.bare n a s).1 V w' := by
  obtain ⟨K, hK⟩ : ∃ K, w.heap.size = K := ⟨_, rfl⟩
  obtain ⟨ai, aa, au, ao⟩ := a
  obtain ⟨W1, hW1, hb1, g0, hz1⟩ := new1 w (.cells #[.int .i64 ai, .int .i64 aa, .bool au, .int .u8 (ao : Int)] 37) K hK
  have h1 := h.below (by rw [hK]; exact hb1)
  have hmv := fun q => smoving_any b bm s.status (W1.drewN q) h1.cells.2.2.1.1 h1.cells.2.2.2.2.2.1
  obtain ⟨MV, hMV⟩ : ∃ z, (s.status == 1 || s.status == 2) = z := ⟨_, rfl⟩
  rw [hMV] at hmv
  have hnone : MV = false ∨ P32.has d.bare ai = false → P32.answer d.bare n ⟨ai, aa, au, ao⟩ s = ((s, []), false) := fun hc => by
    have hq : P32.moving s = false ∨ P32.has d.bare ai = false := hc.imp (fun e => hMV.trans e) id
    unfold P32.answer
    exact if_pos hq
  have hN9 := h.nle
  have hC9 := h.cw
  have hb9 := h.lt (.inl (.inl rfl))
  obtain ⟨N, hN⟩ : ∃ N, d.steps.length = N := ⟨_, rfl⟩
  have hhas : P32.has d.bare ai = (decide (0 ≤ ai) && decide (ai < (N : Int))) := by
    unfold P32.has
    rw [Md.blen, hN]
  have hnil : ∀ q, SE w (Mb b bm dn un) b bm rb C vs d (s, []) (.slice none 0 0) (W1.drewN q) := fun q => SE.nil' h (by rw [hK]; exact below_drewN hb1)
  have c2 := h1.cells.1.1
  rw [hN] at hN9 c2
  obtain ⟨⟨x0, _⟩, ⟨x1, _⟩, ⟨x2, _⟩, ⟨x3, _⟩⟩ := cell4 g0
  have HW1 := hide hW1
  have HM := hide hmv
  have H0 := hide h
  have H1 := hide h1
  have HNIL := hide hnil
  have HI := hide hi
  have HN := hide hN
  have HMV := hide hMV
  have HB1 := hide hb1
  have HG0 := hide g0
  clear hW1 hmv h1 hb1 hi h hnil hMV hN g0
  by_cases hbad : MV = false ∨ P32.has d.bare ai = false
  · rw [hnone hbad]
    rw [hhas] at hbad
    have h3 : MV = false ∨ (MV = true ∧ ai < 0) ∨ (MV = true ∧ 0 ≤ ai ∧ (N : Int) ≤ ai) := by
      cases MV with
      | false => exact .inl rfl
      | true =>
        rcases hbad with e | e
        · cases e
        · simp only [Bool.and_eq_false_iff, decide_eq_false_iff_not, Int.not_le, Int.not_lt] at e
          rcases e with e | e
          · exact .inr (.inl ⟨rfl, e⟩)
          · rcases Int.lt_or_le ai 0 with q | q
            · exact .inr (.inl ⟨rfl, q⟩)
            · exact .inr (.inr ⟨rfl, q, e⟩)
    clear hbad hnone hhas
    rcases h3 with rfl | ⟨rfl, q⟩ | ⟨rfl, q1, q2⟩
    · go_enter Tryz.func61, Tryz.ntmps61
      go_upto_region 1 with fail
      try rw [hK]
      rw [unhide HW1]
      go_quiet (exact Calls.quiet_of_same (unhide HM _))
      go_wp2
      exact bodyPost_ret (results_tmp2 rfl _ _ _) rfl ⟨_, rfl, unhide HNIL _⟩
    · have d1 : decide (ai < 0) = true := by simp; omega
      go_enter Tryz.func61, Tryz.ntmps61
      go_upto_region 1 with fail
      try rw [hK]
      rw [unhide HW1]
      go_quiet (exact Calls.quiet_of_same (unhide HM _))
      go_wp2
      exact bodyPost_ret (results_tmp2 rfl _ _ _) rfl ⟨_, rfl, unhide HNIL _⟩
    · have d1 : decide (ai < 0) = false := by simp; omega
      have d2 : decide (ai ≥ (N : Int)) = true := by simp; omega
      go_enter Tryz.func61, Tryz.ntmps61
      go_upto_region 1 with fail
      try rw [hK]
      rw [unhide HW1]
      go_quiet (exact Calls.quiet_of_same (unhide HM _))
      go_wp2
      exact bodyPost_ret (results_tmp2 rfl _ _ _) rfl ⟨_, rfl, unhide HNIL _⟩
  · have hm : MV = true := by
      cases MV with
      | true => rfl
      | false => exact absurd (.inl rfl) hbad
    subst hm
    have hh : P32.has d.bare ai = true := by
      cases hq : P32.has d.bare ai with
      | true => rfl
      | false => exact absurd (.inr hq) hbad
    have hrng : 0 ≤ ai ∧ ai < (N : Int) := by rw [hhas] at hh; simpa using hh
    obtain ⟨i, rfl⟩ : ∃ i : Nat, ai = (i : Int) := ⟨ai.toNat, by omega⟩
    have hiN : i < N := by omega
    have d1 : decide ((i : Int) < 0) = false := by simp
    have d2 : decide ((i : Int) ≥ (N : Int)) = false := by simp; omega
    have hst : P32.answer d.bare n ⟨(i : Int), aa, au, ao⟩ s = if (P31.answer (P32.stepAt d.bare i) n (s.run i au) aa ao).2 = false then ((s, []), false) else (P32.on d.bare n (P32.put i au (P31.answer (P32.stepAt d.bare i) n (s.run i au) aa ao).1 (s, [])), true) := by
      have hq : ¬ (P32.moving s = false ∨ P32.has d.bare (i : Int) = false) := fun hc => hbad (hc.imp (fun e => (unhide HMV).symm.trans e) id)
      unfold P32.answer
      exact if_neg hq
    have HST := hide hst
    clear hst hbad hnone hhas hh hrng
    go_enter Tryz.func61, Tryz.ntmps61
    go_upto_region 1 with fail
    try rw [hK]
    rw [unhide HW1]
    go_quiet (exact Calls.quiet_of_same (unhide HM _))
    go_upto_region 3 with fail
    obtain ⟨V1, hV1⟩ : ∃ Z, W1.drewN nq = Z := ⟨_, rfl⟩
    have hb0 : Below K w V1 := by rw [← hV1]; exact below_drewN (unhide HB1)
    have hzV : V1.heap.size = K + 1 := by rw [← hV1]; exact hz1
    have gV : V1.heap[K]? = some (.cells #[.int .i64 (i : Int), .int .i64 aa, .bool au, .int .u8 (ao : Int)] 37) := by rw [← hV1]; exact unhide HG0
    rw [hV1]
    clear hV1 x0 x1 x2 x3 c2 d1 d2 HM HNIL H1 HB1 HG0 HW1
    obtain ⟨⟨x0, _⟩, ⟨x1, _⟩, ⟨x2, _⟩, ⟨x3, _⟩⟩ := cell4 gV
    obtain ⟨W2, hW2, hb2, g1, hz2⟩ := new1 V1 (.cells #[.int .i64 (i : Int), .bool au] 157) (K + 1) hzV
    have hW0 : Below K w W2 := hb0.trans (hb2.mono (by omega))
    have h2 := (unhide H0).below (by rw [hK]; exact hW0)
    have g2 := (hb2.block K (by omega)).trans gV
    have HW2 := hide hW2
    have HW0 := hide hW0
    have HG1 := hide g1
    have HH2 := hide h2
    clear hW2 hb0 hb2 gV hW0
    go_upto_region 4 with fail
    try rw [hzV]
    rw [unhide HW2]
    clear x0 x1 x2 x3
    obtain ⟨⟨x0, _⟩, ⟨x1, _⟩, ⟨x2, _⟩, ⟨x3, _⟩⟩ := cell4 g2
    obtain ⟨⟨y0, _⟩, ⟨y1, _⟩⟩ := two_cells g1
    have HB9 : Hid (b < K + 1 ∧ bm < K + 1) := hide ⟨by have := (unhide H0).lt (.inl (.inl rfl)); omega, by have := (unhide H0).lt (.inl (.inr (.inl rfl))); omega⟩
    obtain ⟨sg, so, hsa, hat⟩ := h2.steps
    have c2 := h2.cells.1.1
    have c4 := h2.cells.2.2.1.1
    rw [hsa, unhide HN] at c2
    rw [hsa]
    obtain ⟨s1, hs1⟩ : ∃ s1, d.steps[i]? = some s1 := ⟨_, List.getElem?_eq_getElem (by rw [unhide HN]; omega)⟩
    obtain ⟨⟨t0, t1, t2, t3⟩, ⟨t4, t5, t6, t7⟩, ⟨t8, t9, t10, t11, t12⟩⟩ := step_cells (hat i s1 hs1)
    obtain ⟨⟨rp, ra, rt, rl⟩, hwr⟩ : ∃ y, s.run i au = y := ⟨_, rfl⟩
    have hlk : ∀ V, V.heap[bm]? = W2.heap[bm]? → (Instr.lookup 151 (.map (some bm)) (.agg #[.int .i64 (i : Int), .bool au]) false).run Tryz.prog V = .ok (.agg #[.int .u8 (rp : Int), .int .i64 ra, .int .i64 rt, .bool rl]) V := fun V hV => by
      have := (h2.mp.keep hV).look i au
      rw [hwr] at this
      exact this
    have hbl : bm < W2.heap.size := h2.mp.lt
    have hok : (⟨rp, ra, rt, rl⟩ : P31.Run).ok := by have := h2.ok i au; rwa [hwr] at this
    have hsa2 := fun V => sAnswer_any ⟨rp, ra, rt, rl⟩ s1 n aa ao V ⟨Int.le_trans (by decide) hok.lo, Int.le_trans hok.hi (by decide)⟩
    have hsb : P32.stepAt d.bare i = s1.bare := stepAt_bare d hs1
    have hst := unhide HST
    rw [hsb, hwr] at hst
    obtain ⟨⟨RA, OK⟩, hRA⟩ : ∃ y, P31.answer s1.bare n ⟨rp, ra, rt, rl⟩ aa ao = y := ⟨_, rfl⟩
    rw [hRA] at hst hsa2
    unfold runV PSt.val at hsa2
    simp only [PSt.aV, Nd.kV, Nd.dV] at hsa2 t3 t10 t11
    have HSA2 := hide hsa2
    have HSF : Hid (OK = false → P32.answer d.bare n ⟨(i : Int), aa, au, ao⟩ s = ((s, []), false)) := hide (fun e => by rw [hst, if_pos e])
    have HSR : Hid (OK = true → P32.answer d.bare n ⟨(i : Int), aa, au, ao⟩ s = (P32.on d.bare n (P32.put i au RA (s, [])), true)) := hide (fun e => by rw [hst, if_neg (by rw [e]; simp)])
    have HLK := hide hlk
    have HBM := hide hbl
    have HRA := hide hRA
    have HOK := hide hok
    have e103 := enters_of Tryz.func103 (by kernel_rfl) rfl
    have HGD : Hid (OK = true → P32.Good d.bare (P32.put i au RA (s, []))) := hide (fun e => by
      have := P32.good_ans (d := d.bare) (n := n) (a := ⟨(i : Int), aa, au, ao⟩) (s := s) (unhide HI) (unhide HMV) (by rw [show P32.stepAt d.bare (⟨(i : Int), aa, au, ao⟩ : P33.Ans).step.toNat = s1.bare from hsb, show s.run (⟨(i : Int), aa, au, ao⟩ : P33.Ans).step.toNat (⟨(i : Int), aa, au, ao⟩ : P33.Ans).undo = ⟨rp, ra, rt, rl⟩ from hwr, hRA, e]; simp)
      rw [show P32.stepAt d.bare (⟨(i : Int), aa, au, ao⟩ : P33.Ans).step.toNat = s1.bare from hsb, show s.run (⟨(i : Int), aa, au, ao⟩ : P33.Ans).step.toNat (⟨(i : Int), aa, au, ao⟩ : P33.Ans).undo = ⟨rp, ra, rt, rl⟩ from hwr, hRA] at this
      exact this)
    have HG16 : Hid (∀ V, Below W2.heap.size W2 V → V.heap[K + 1]? = some (.cells #[.int .i64 (i : Int), .bool au] 157)) := hide (fun V hV => (hV.block _ (by omega)).trans g1)
    clear hsa2 hst h2 HH2 hat hsa HST hlk hbl hRA hok hsb hwr g1 g2 hs1
    refine wp_region_phaseF hmixed [20, 25] 24 (fun k f aF W => ∃ Bx, aF = { tmps := #[.pointer (some ⟨b, 0, none⟩), .agg #[.int .i64 (i : Int), .int .i64 aa, .bool au, .int .u8 (ao : Int)], .int .i64 n, undef, .pointer (some ⟨K, 0, none⟩), undef, .slice none 0 0, .bool false, .pointer (some ⟨K + 1, 0, none⟩), Bx, .bool OK, undef, undef, .pointer (some ⟨b, 0, none⟩), .bool true, .bool false, .bool false, .pointer (some ⟨K, 0, none⟩), .int .i64 (i : Int), .bool false, .bool false, .bool false, .pointer (some ⟨K, 0, none⟩), .int .i64 (i : Int), .pointer (some ⟨b, 0, none⟩), .pointer (some ⟨b, 0, none⟩), .pointer (some ⟨b, 0, none⟩), .pointer (some ⟨b, 2, none⟩), .slice (some ⟨sg, so, none⟩) N d.sc, .int .i64 (N : Int), .bool (decide (N ≤ i)), .bool (decide (N ≤ i)), .pointer (some ⟨K, 0, none⟩), .int .i64 (i : Int), .pointer (some ⟨K, 2, none⟩), .bool au, .agg #[.int .i64 (i : Int), .bool au], .tuple #[.agg #[.int .u8 (RA.phase : Int), .int .i64 RA.att, .int .i64 RA.til, .bool RA.last], .bool OK], .pointer (some ⟨b, 0, none⟩), .pointer (some ⟨b, 0, none⟩), .pointer (some ⟨b, 4, none⟩), .map (some bm), .agg #[.int .i64 (i : Int), .bool au], .agg #[.int .u8 (rp : Int), .int .i64 ra, .int .i64 rt, .bool rl], .pointer (some ⟨b, 0, none⟩), .pointer (some ⟨b, 0, none⟩), .pointer (some ⟨b, 0, none⟩), .pointer (some ⟨b, 2, none⟩), .slice (some ⟨sg, so, none⟩) N d.sc, .pointer (some ⟨K, 0, none⟩), .int .i64 (i : Int), .pointer (some ⟨sg, so + i * 13, none⟩), .agg #[.string ⟨s1.name.toArray⟩, .string ⟨s1.action.toArray⟩, .string ⟨s1.undo.toArray⟩, .slice s1.aa s1.after.length s1.ac, .int .i64 s1.most, .int .i64 s1.first, .int .i64 s1.factor, .int .i64 s1.limit, .int .u8 (s1.note.kind : Int), .string ⟨s1.note.text.toArray⟩, .slice s1.note.ka s1.note.keys.length s1.note.kc, .slice s1.note.da s1.note.kids.length s1.note.dc, .int .i64 s1.note.line], .int .i64 n, .pointer (some ⟨K, 1, none⟩), .int .i64 aa, .pointer (some ⟨K, 3, none⟩), .int .u8 (ao : Int), .tuple #[.agg #[.int .u8 (RA.phase : Int), .int .i64 RA.att, .int .i64 RA.til, .bool RA.last], .bool OK], .agg #[.int .u8 (RA.phase : Int), .int .i64 RA.att, .int .i64 RA.til, .bool RA.last], .bool OK, undef, undef, undef, undef, undef, undef, undef, undef, undef, undef, undef, undef, undef, undef, undef, undef, undef, undef], defers := [] } ∧ BxPh W2.drew RA k f Bx W) (by kernel_rfl) (by kernel_rfl) (by decide) (by decide) (by decide) ⟨undef, rfl, BxPh.start _ _⟩ rfl rfl (same_two 9 2 37 24 (by kernel_rfl) (by kernel_rfl) (by decide) rfl rfl rfl) ?pure ?write ?free ?fin
    case pure =>
      rintro k f aF W ix o ⟨Bx, rfl, hph⟩ ho hni hnf hbe haf hff
      have hbW := hph.1
      have hc := fun g o (h : g < W2.heap.size) => cell_of_block (hbW.block g h) o
      have hlW := (unhide HLK) W (hbW.block bm (unhide HBM))
      have v0 := (hc K 0 (cellLt x0)).trans x0
      have v1 := (hc K 1 (cellLt x1)).trans x1
      have v3 := (hc K 3 (cellLt x3)).trans x3
      have u0 := (hc (K + 1) 0 (cellLt y0)).trans y0
      have u1 := (hc (K + 1) 1 (cellLt y1)).trans y1
      have e2 := (hc b 2 (cellLt c2)).trans c2
      have e4 := (hc b 4 (cellLt c4)).trans c4
      have q0 := (hc sg _ (cellLt t0)).trans t0
      have q1 := (hc sg _ (cellLt t1)).trans t1
      have q2 := (hc sg _ (cellLt t2)).trans t2
      have q3 := (hc sg _ (cellLt t3)).trans t3
      have q4 := (hc sg _ (cellLt t4)).trans t4
      have q5 := (hc sg _ (cellLt t5)).trans t5
      have q6 := (hc sg _ (cellLt t6)).trans t6
      have q7 := (hc sg _ (cellLt t7)).trans t7
      have q8 := (hc sg _ (cellLt t8)).trans t8
      have q9 := (hc sg _ (cellLt t9)).trans t9
      have q10 := (hc sg _ (cellLt t10)).trans t10
      have q11 := (hc sg _ (cellLt t11)).trans t11
      have q12 := (hc sg _ (cellLt t12)).trans t12
      clear hc hbW
      rcases ix with _ | _ | _ | _ | _ | _ | _ | _ | _ | _ | _ | _ | _ | _ | _ | _ | _ | _ | _ | _ | _ | _ | _ | _ | _ | _ | _ | ix
      · have ho' : some _ = some o := ho
        cases ho'
        refine (if_pos (show Region.wanted _ (yielded _ _) = true from rfl)).mpr ?_
        refine ⟨_, _, rfl, rfl, .inl ?_⟩
        go_simp
      · have ho' : some _ = some o := ho
        cases ho'
        refine (if_pos (show Region.wanted _ (yielded _ _) = true from rfl)).mpr ?_
        refine ⟨_, _, rfl, rfl, .inl ?_⟩
        go_simp
      · have ho' : some _ = some o := ho
        cases ho'
        refine (if_pos (show Region.wanted _ (yielded _ _) = true from rfl)).mpr ?_
        refine ⟨_, _, rfl, rfl, .inl ?_⟩
        go_simp
      · have ho' : some _ = some o := ho
        cases ho'
        refine (if_pos (show Region.wanted _ (yielded _ _) = true from rfl)).mpr ?_
        refine ⟨_, _, rfl, rfl, .inl ?_⟩
        go_simp
      · have ho' : some _ = some o := ho
        cases ho'
        refine (if_pos (show Region.wanted _ (yielded _ _) = true from rfl)).mpr ?_
        refine ⟨_, _, rfl, rfl, .inl ?_⟩
        go_simp
      · have ho' : some _ = some o := ho
        cases ho'
        refine (if_pos (show Region.wanted _ (yielded _ _) = true from rfl)).mpr ?_
        refine ⟨_, _, rfl, rfl, .inl ?_⟩
        go_simp
      · have ho' : some _ = some o := ho
        cases ho'
        refine (if_pos (show Region.wanted _ (yielded _ _) = true from rfl)).mpr ?_
        refine ⟨_, _, rfl, rfl, .inl ?_⟩
        go_simp
      · have ho' : some _ = some o := ho
        cases ho'
        refine (if_pos (show Region.wanted _ (yielded _ _) = true from rfl)).mpr ?_
        refine ⟨_, _, rfl, rfl, .inl ?_⟩
        go_simp
      · have ho' : some _ = some o := ho
        cases ho'
        refine (if_pos (show Region.wanted _ (yielded _ _) = true from rfl)).mpr ?_
        refine ⟨_, _, rfl, rfl, .inl ?_⟩
        go_simp
      · have ho' : some _ = some o := ho
        cases ho'
        refine (if_pos (show Region.wanted _ (yielded _ _) = true from rfl)).mpr ?_
        refine ⟨_, _, rfl, rfl, .inl ?_⟩
        go_simp
      · have ho' : some _ = some o := ho
        cases ho'
        refine (if_pos (show Region.wanted _ (yielded _ _) = true from rfl)).mpr ?_
        refine ⟨_, _, rfl, rfl, .inl ?_⟩
        go_simp
      · have ho' : some _ = some o := ho
        cases ho'
        refine (if_pos (show Region.wanted _ (yielded _ _) = true from rfl)).mpr ?_
        refine ⟨_, _, rfl, rfl, .inl ?_⟩
        go_simp
      · have ho' : some _ = some o := ho
        cases ho'
        refine (if_pos (show Region.wanted _ (yielded _ _) = true from rfl)).mpr ?_
        refine ⟨_, _, rfl, rfl, .inl ?_⟩
        go_simp
      · have ho' : some _ = some o := ho
        cases ho'
        refine (if_pos (show Region.wanted _ (yielded _ _) = true from rfl)).mpr ?_
        refine ⟨_, _, rfl, rfl, .inl ?_⟩
        go_simp
      · have ho' : some _ = some o := ho
        cases ho'
        refine (if_pos (show Region.wanted _ (yielded _ _) = true from rfl)).mpr ?_
        refine ⟨_, _, rfl, rfl, .inl ?_⟩
        go_simp
      · have ho' : some _ = some o := ho
        cases ho'
        refine (if_pos (show Region.wanted _ (yielded _ _) = true from rfl)).mpr ?_
        refine ⟨_, _, rfl, rfl, .inl ?_⟩
        go_simp
      · have ho' : some _ = some o := ho
        cases ho'
        refine (if_pos (show Region.wanted _ (yielded _ _) = true from rfl)).mpr ?_
        refine ⟨_, _, rfl, rfl, .inl ?_⟩
        go_simp
      · have ho' : some _ = some o := ho
        cases ho'
        refine (if_pos (show Region.wanted _ (yielded _ _) = true from rfl)).mpr ?_
        refine ⟨_, _, rfl, rfl, .inl ?_⟩
        go_simp
      · have ho' : some _ = some o := ho
        cases ho'
        refine (if_pos (show Region.wanted _ (yielded _ _) = true from rfl)).mpr ?_
        refine ⟨_, _, rfl, rfl, .inl ?_⟩
        go_simp
      · have ho' : some _ = some o := ho
        cases ho'
        refine (if_pos (show Region.wanted _ (yielded _ _) = true from rfl)).mpr ?_
        refine ⟨_, _, rfl, rfl, .inl ?_⟩
        go_simp
      · exact absurd (by simp) hni
      · have ho' : some _ = some o := ho
        cases ho'
        refine (if_pos (show Region.wanted _ (yielded _ _) = true from rfl)).mpr ?_
        refine ⟨_, _, rfl, rfl, .inl ?_⟩
        go_simp
      · have ho' : some _ = some o := ho
        cases ho'
        refine (if_pos (show Region.wanted _ (yielded _ _) = true from rfl)).mpr ?_
        refine ⟨_, _, rfl, rfl, .inl ?_⟩
        go_simp
      · have ho' : some _ = some o := ho
        cases ho'
        refine (if_pos (show Region.wanted _ (yielded _ _) = true from rfl)).mpr ?_
        refine ⟨_, _, rfl, rfl, .inl ?_⟩
        go_simp
      · exact absurd rfl hnf
      · exact absurd (by simp) hni
      · have ho' : some _ = some o := ho
        cases ho'
        refine (if_pos (show Region.wanted _ (yielded _ _) = true from rfl)).mpr ?_
        refine ⟨_, _, rfl, rfl, .inl ?_⟩
        go_simp
      · exfalso; simp at ho
    case write =>
      rintro k f aF W ix o ⟨Bx, rfl, hph⟩ hi ho hff
      rcases k with _ | _ | k
      · cases (show some 20 = some ix from hi)
        have ho' : some _ = some o := ho
        cases ho'
        refine ⟨rfl, .inr (.inr ⟨103, #[.agg #[.int .u8 (rp : Int), .int .i64 ra, .int .i64 rt, .bool rl], .agg #[.string ⟨s1.name.toArray⟩, .string ⟨s1.action.toArray⟩, .string ⟨s1.undo.toArray⟩, .slice s1.aa s1.after.length s1.ac, .int .i64 s1.most, .int .i64 s1.first, .int .i64 s1.factor, .int .i64 s1.limit, .int .u8 (s1.note.kind : Int), .string ⟨s1.note.text.toArray⟩, .slice s1.note.ka s1.note.keys.length s1.note.kc, .slice s1.note.da s1.note.kids.length s1.note.dc, .int .i64 s1.note.line], .int .i64 n, .int .i64 aa, .int .u8 (ao : Int)], W, ?_, ?_⟩)⟩
        · simp [execOp, resolve, invoke, Act.eval, e103, Result.andThen, Deferred.ofValue]
        · refine (unhide HSA2 W).mono ?_
          rintro e w4 ⟨rfl, b4⟩
          exact ⟨_, rfl, ⟨Bx, rfl, hph.call b4⟩⟩
      · cases (show some 25 = some ix from hi)
        have ho' : some _ = some o := ho
        cases ho'
        have hf : f = true := hff (by kernel_rfl)
        subst hf
        obtain ⟨p, rfl, hp1, hp2⟩ := hph.2 rfl
        have hp3 : RunB W p P31.Run.zero := hp2
        obtain ⟨⟨z0, f0⟩, ⟨z1, f1⟩, ⟨z2, f2⟩, ⟨z3, f3⟩⟩ := hp3.cells
        refine ⟨rfl, .inr (.inl ⟨_, ?_, ⟨_, rfl, hph.store⟩⟩)⟩
        go_simp
      · simp at hi
    case free =>
      rintro k aF W o ⟨Bx, rfl, hph⟩ ho hbe
      have ho' : some _ = some o := ho
      cases ho'
      have hk : k ≤ 1 := hbe 1 25 rfl (by kernel_rfl)
      refine ⟨rfl, .inl ⟨_, _, ?_, ⟨_, rfl, hph.alloc hk⟩⟩⟩
      go_simp
    case fin =>
      rintro k aF W6 hk ⟨Bx, rfl, hph⟩
      obtain ⟨k, rfl⟩ : ∃ k', k = k' + 2 := ⟨k - 2, by simp at hk; omega⟩
      obtain ⟨p, rfl, hp1, hp2⟩ := hph.2 rfl
      have hp3 : RunB W6 p RA := by rw [if_neg (by omega)] at hp2; exact hp2
      have HP3 := hide hp3
      have hb6 : Below K w W6 := ((unhide HW0).drew).trans (hph.1.mono (by have := (unhide HW0).size; show K ≤ W2.heap.size; omega))
      have HB6 := hide hb6
      have HB6' : Hid (Below W2.heap.size W2 W6) := hide ((Below.refl _ _).drew.trans hph.1)
      clear hph hp2 hp3 hb6 x0 x1 x2 x3 y0 y1 c2 c4 t0 t1 t2 t3 t4 t5 t6 t7 t8 t9 t10 t11 t12
      cases OK with
      | false =>
        go_wp2
        rw [unhide HSF (by simp)]
        exact bodyPost_ret (results_tmp2 rfl _ _ _) rfl ⟨_, rfl, SE.nil' (unhide H0) (by rw [hK]; exact unhide HB6)⟩
      | true =>
        have hak := asker_any W6 ((unhide H0).below (by rw [hK]; exact unhide HB6)) (KW.of (unhide HB6) (by omega)) (unhide H0).cw (fun g hg => .inl hg)
        have hgd : P32.Good d.bare (P32.put i au RA (s, [])) := unhide HGD rfl
        have HGD2 := hide hgd
        have HAK := hide hak
        have g1w := unhide HG16 W6 (unhide HB6')
        have HGW := hide g1w
        clear hak hgd g1w
        have he := enter146
        go_upto_region 7 with fail
        go_upto_region 8 with (go_at_call 104; refine (unhide HAK).mono ?_; rintro e w7 ⟨h1, h2, ob, rfl, hsa, hb7⟩)
        have hb7' : Below W6.heap.size W6 w7 := hb7
        obtain ⟨⟨u0, _⟩, ⟨u1, _⟩⟩ := two_cells ((hb7'.block (K + 1) (Array.getElem?_eq_some_iff.1 (unhide HGW)).1).trans (unhide HGW))
        obtain ⟨⟨v0, _⟩, ⟨v1, _⟩, ⟨v2, _⟩, ⟨v3, _⟩⟩ := RunB.cells (RunB.below (unhide HP3) hb7')
        have hpu := put_any i au RA w7 hsa (by rw [unhide HN]; omega) (by have := (unhide HGD2).inv.ok i au; rw [show (P32.put i au RA (s, [])).1.run i au = RA from P32.setR_self _ _ _ _] at this; exact this) (unhide HGD2).inv (by simp)
        unfold runV at hpu
        have HPU := hide hpu
        clear hpu hsa hb7 hb7'
        go_wp2_with (first | (go_at_call 146; refine (unhide HPU).mono ?_; rintro e w8 ⟨⟨v8, rfl⟩, hs8⟩; have HON := hide (on_any n _ hs8 (unhide HGD2) (Nat.le_trans (P32.put_len i au RA (s, [])) (by simp))); clear hs8) | (go_at_call 105; refine (unhide HON).mono ?_; rintro e w9 ⟨⟨v9, rfl⟩, hs9⟩; obtain ⟨V9, c9, he9⟩ := hs9.out; have HE9 := hide he9; clear hs9 he9))
        rw [unhide HSR (by simp)]
        exact bodyPost_ret (results_tmp2 rfl _ _ _) rfl ⟨_, rfl, unhide HE9⟩
end Go.Proofs.YtefokfbgpfcbkaaGreat
