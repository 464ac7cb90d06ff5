/- Lemmas of this claim (a part of its texts, kept as far as the claim reaches them). -/
import Derived.Test.YtefokfbgpfcbkaaGreatN28xZ
import Derived.Test.YtefokfbgpfcbkaaGreatN21xZ
import Derived.Carry
namespace Go.Proofs.YtefokfbgpfcbkaaGreat
set_option linter.unusedVariables false
set_option linter.unusedSimpArgs false
open Go.RowKit
attribute [local go_sem] run_store_func Oper.semAt_some
set_option maxRecDepth 100000 in
set_option maxHeartbeats 8000000 in
theorem namesCheck_any (d : PDef) (w : World) (hin : d.In w) (hnm : d.name.length ≤ maxLen) (hst : ∀ s ∈ d.steps, s.name.length ≤ maxLen ∧ s.action.length ≤ maxLen ∧ s.undo.length ≤ maxLen) (hl : d.steps.length ≤ 100000) (haf : ∀ s ∈ d.steps, s.after.length ≤ 1000000) :
    Calls Tryz.prog 124 #[d.val] w fun e w' => ∃ v, e = .returned v ∧ OwnT w' w.heap.size v (P28.sortN (P28.namesP d.bare)) ∧ Below w.heap.size w w' := by
  obtain ⟨D, hD⟩ : ∃ D, d = D := ⟨_, rfl⟩
  have hdlt := fun r (hr : d.blk r) => hin.lt hr
  obtain ⟨H, hH⟩ : ∃ H, w.heap.size = H := ⟨_, rfl⟩
  rw [hH] at hdlt ⊢
  obtain ⟨W1, hW1, hb1, g0, g1, g2, hs1⟩ := new3 w (defO d) (.cells #[.slice none 0 0] 124) (.cells #[.func (.func 163) #[] #[.pointer (some ⟨H + 1, 0, none⟩)]] 221) H hH
  have hN1 : NS w W1 H 163 d [] (.slice none 0 0) := ⟨⟨g1, OwnT.nil _ _, by omega⟩, g0, g2, hb1, by omega⟩
  have hnote := note_names (H + 1)
  have x0 := cell3 (World.alloc_heap_new w (defO d))
  rw [hH] at x0
  obtain ⟨k0, k1, k2, k3⟩ := hN1.cells
  obtain ⟨V2, hV2⟩ : ∃ V2, (w.alloc (defO d)).alloc (.cells #[.slice none 0 0] 124) = V2 := ⟨_, rfl⟩
  have hs2 : V2.heap.size = H + 1 + 1 := by rw [← hV2]; simp [hH]
  have y1 := cell1 (World.alloc_heap_new V2 (.cells #[.nilFunc] 221))
  rw [hs2] at y1
  obtain ⟨y1, y2⟩ := y1
  have hq : V2.alloc (.cells #[.func (.func 163) #[] #[.pointer (some ⟨H + 1, 0, none⟩)]] 221) = W1 := by rw [← hW1, hV2]
  have HV2 := hide hV2
  have HQ := hide hq
  clear hV2 hq
  have HIN := hide hin
  have HDLT := hide hdlt
  have HST := hide hst
  have HAF := hide haf
  have HN1 := hide hN1
  have HNOTE := hide hnote
  have HD := hide hD
  clear hW1
  clear hin hdlt hst haf hN1 hnote hb1 g0 g1 g2 hD
  unfold defO at HV2
  obtain ⟨nm, tx, sa, sc, ss⟩ := d
  obtain ⟨M, hM⟩ : ∃ M, ss.length = M := ⟨_, rfl⟩
  unfold PDef.val
  simp only at hl hnm k0 k1 k2 HV2 ⊢
  rw [hM] at hl k2 HV2 ⊢
  have hpl := fun V h => places_any ⟨nm, tx, sa, sc, ss⟩ V h
  unfold PDef.val at hpl
  simp only [hM] at hpl
  have hrf := refs_any ⟨nm, tx, sa, sc, ss⟩
  unfold PDef.val at hrf
  simp only [hM] at hrf
  have HPL := hide hpl
  have HREFS := hide hrf
  have HM := hide hM
  clear hM hpl hrf
  refine (callsIn_wide (n := 40)).1 ?_
  refine callsIn_of_wp_marks Tryz.func124 rfl trivial ?_ rfl
  simp only [Tryz.ntmps124, List.size_toArray, List.length_cons, List.length_nil, Nat.reduceAdd, Nat.reduceSub, Array.replicate_succ, Array.replicate_zero, List.push_toArray, List.append_toArray, List.nil_append, List.cons_append]
  refine wpIn_wide.2 ?_
  go_upto_region 2 with fail
  try rw [hH]
  rw [unhide HV2]
  go_upto_region 3 with fail
  rw [unhide HQ]
  clear x0 y1 y2
  go_upto_region 4 with (go_at_call 163; refine (NS.note (unhide HNOTE) (unhide HN1) _ _ _ [] (by simp)).mono ?_; rintro e w2 ⟨rfl, v2, hN2, hG2, ho2⟩)
  clear k0 k1 k2 k3
  obtain ⟨k0, k1, k2, k3⟩ := hN2.cells
  simp only [unhide HM] at k0 k1 k2
  have HN2 := hide hN2
  have HO2 := hide ho2
  clear hN2 hG2 ho2
  refine wp_region_tail 7 (by kernel_rfl) (by kernel_rfl) (by kernel_rfl) (by kernel_rfl) (by kernel_rfl) ?_
  simp only [List.take_succ_cons, List.take_zero, List.drop_succ_cons, List.drop_zero]
  repeat (go_big_quiet_step (exact Calls.quiet_of_same (Right_any _ _ hnm)))
  refine wpQuiet_nil ?_
  intro _ hw'
  obtain ⟨nq, hw''⟩ := hw'
  subst hw''
  go_upto_region 5 with (go_at_call 163; refine (NS.note (unhide HNOTE) ((unhide HN2).drewN nq) _ _ _ nm (Nat.le_trans (m := 1) (by simpa using nt_len _ _ _ _) (by omega))).mono ?_; rintro e w3 ⟨rfl, v3, hN3, hG3, ho3⟩)
  clear k0 k1 k2 k3
  obtain ⟨k0, k1, k2, k3⟩ := hN3.cells
  simp only [unhide HM] at k0 k1 k2
  have HN3 := hide hN3
  clear hN3 hG3 ho3
  go_upto_region 6 with (go_at_call 143; refine ((unhide HPL) w3 ((unhide HIN).below (by rw [hH]; exact (unhide HN3).bel))).mono ?_; rintro e w4 ⟨bm, Lp, rfl, hbm, hmp, hlk, hb4⟩)
  obtain ⟨pre, hpre⟩ : ∃ pre, ([] ++ P28.nt ((M : Int) == 0) (-1) 17 [] ++ P28.nt (!P28.right nm) (-1) 18 nm) = pre := ⟨_, rfl⟩
  have hprl : pre.length ≤ 2 := by
    have h1 := P28.nt_le ((M : Int) == 0) (-1) 17 []
    have h2 := P28.nt_le (!P28.right nm) (-1) 18 nm
    rw [← hpre]
    simp only [List.nil_append, List.length_append]
    omega
  rw [hpre] at HN3
  have HPRE := hide hpre
  have HLK := hide hlk
  have hN4 := (unhide HN3).keep hb4
  have hv3 : v3.ownBlock ≠ some bm := fun e => by have := ((unhide HN3).nb.own.lt e).2; omega
  have hz3 := (unhide HN3).size
  obtain ⟨k0', k1', k2', k3'⟩ := hN4.cells
  simp only [unhide HM] at k0' k1' k2'
  have HN4 := hide hN4
  have HMP4 := hide hmp
  have hbz4 : bm < w4.heap.size := hmp.lt
  have hbmH0 : bm ≠ H + 1 := by omega
  clear k0 k1 k2 k3 hpre hlk hN4 hmp hb4 HN1 HN2 HO2 HN3 HV2 HQ
  go_wp2
  go_loopg [30] M (fun g s30 wx => ∃ (i : Nat) (v : Value), i + g = M ∧ s30 = .int .i64 i ∧ Hid (NS w wx H 163 ⟨nm, tx, sa, sc, ss⟩ (pre ++ P28.stepsN (ss.map PSt.name) 0 ((ss.map PSt.bare).take i)) v) ∧ Hid (MapG encS wx bm Lp) ∧ v.ownBlock ≠ some bm ∧ bm < wx.heap.size)
  case atStart => exact ⟨0, v3, by omega, by go_num, by simpa [P28.stepsN] using HN4, HMP4, hv3, hbz4⟩
  case round =>
    obtain ⟨i, v, hig, rfl, HNS, HMP, hvb, hbz⟩ := hrel
    clear k0' k1' k2' k3'
    cases gk with
    | zero =>
      have e1 : (M : Int) ≤ (i : Int) := by omega
      have j1 : decide ((i : Int) < (M : Int)) = false := by simp; omega
      obtain ⟨LR, hLR⟩ : ∃ LR, P28.refL (ss.map PSt.name) 0 (ss.map PSt.after) = LR := ⟨_, rfl⟩
      have hLRL : LR.length ≤ 100000000000 := by
        have h1 := refL_len_le (ss.map PSt.name) 1000000 (ss.map PSt.after) 0 (fun x hx => by
          obtain ⟨s, hs, rfl⟩ := List.mem_map.1 hx
          exact (unhide HAF) s hs)
        rw [hLR, List.length_map, unhide HM] at h1
        have h2 : M * 1000000 ≤ 100000 * 1000000 := Nat.mul_le_mul_right _ hl
        omega
      have HLRL := hide hLRL
      have HLR := hide hLR
      clear hLR hLRL
      have htk : (ss.map PSt.bare).take i = ss.map PSt.bare := List.take_of_length_le (by rw [List.length_map, unhide HM]; omega)
      have hns := unhide HNS
      rw [htk] at hns
      obtain ⟨acc, hacc⟩ : ∃ acc, pre ++ P28.stepsN (ss.map PSt.name) 0 (ss.map PSt.bare) = acc := ⟨_, rfl⟩
      have hacl : acc.length ≤ 400002 := by
        have h1 := stepsN_len (ss.map PSt.name) (ss.map PSt.bare) 0
        rw [List.length_map, unhide HM] at h1
        rw [← hacc, List.length_append]
        omega
      rw [hacc] at hns
      obtain ⟨R, hR⟩ : ∃ R, wr.heap.size = R := ⟨_, rfl⟩
      obtain ⟨W4, hW4, hb4, g5, g6, hs4⟩ := new2 wr (.map #[] 0) (.cells #[.map (some R)] 222) R hR
      obtain ⟨W5, hW5, hb5, g7, hs5⟩ := new1 W4 (.cells #[.string ⟨nm.toArray⟩, .string ⟨tx.toArray⟩, .slice sa M sc] 24) (R + 1 + 1) hs4
      have hns4 := hns.keep (by rw [hR]; exact hb4)
      have hns5 := hns4.keep (by rw [hs4]; exact hb5)
      have hmap5 : MapG encOwn W5 R [] := ⟨#[], 0, (hb5.block R (by omega)).trans g5, ⟨by simp, by simp⟩, rfl⟩
      have g8 := (hb5.block (R + 1) (by omega)).trans g6
      obtain ⟨k0, k1, k2, k3⟩ := hns4.cells
      simp only [unhide HM] at k0 k1 k2
      have hvR : ∀ g, v.ownBlock = some g → H + 3 ≤ g ∧ g < R := fun g e => by have := (unhide HNS).nb.own.lt e; omega
      have hRH : H + 3 ≤ R := by have := (unhide HNS).size; omega
      have HW4 := hide hW4
      have HW5 := hide hW5
      have HNS5 := hide hns5
      have HMAP5 := hide hmap5
      have HACC := hide hacc
      have HG := hide (And.intro g8 g7)
      have hmm := @run_makeMap Tryz.prog
      clear hW4 hW5 hb4 hb5 hns hns4 hns5 hmap5 hacc htk HNS g5 g6 g7 g8 HMP
      go_upto_region 15 with fail
      try rw [hR]
      rw [unhide HW4]
      go_upto_region 16 with (go_at_call 101; refine ((unhide HREFS) _).mono ?_; rintro e w2 ⟨rfl, rfl⟩)
      rw [unhide HW5]
      clear k0 k1 k2 k3 hmm HW4 HW5
      generalize hA : ({ tmps := _, defers := _ } : Act) = A
      refine (wpIn_wide (n := 40)).1 ?_
      refine wpIn_rangeFunc_MA rfl (by omega) (gf := 142) (lb := #[.pointer (some ⟨R + 1 + 1, 0, none⟩)]) (by rw [← hA]; rfl) trivial (enters_of Tryz.func142 (by kernel_rfl) rfl)
        (encs := encRef) LR (fun r => r < H ∨ r = H ∨ r = H + 2 ∨ r = R + 1 ∨ r = R + 2) (fun _ => False) (fun r hr => by omega)
        ?seq (fun _ => rfl)
        (fun i M V => CkI w H 163 R ⟨nm, tx, sa, sc, ss⟩ (acc ++ P28.refsN (ss.map PSt.name) [] (LR.take i)) (ownKs (LR.take i)) (fun _ => False) M V) (fun c i M V => False)
        (fun i M V V' row hi hg hr => hi.abides hg hr) (fun c i M V V' row hi hg hr => hi)
        (fun i M V hi r hr => ⟨(hi.ms r hr).2.2.2, by have := hi.ms r hr; omega⟩)
        (fun r => r = H + 1 ∨ r = R ∨ v.ownBlock = some r) (fun r hr => hr.elim)
        ?init
        (fun i x M a' V => ∃ p, CkI w H 163 R ⟨nm, tx, sa, sc, ss⟩ (acc ++ P28.refsN (ss.map PSt.name) [] (LR.take i)) (ownKs (LR.take i)) (fun g => g = p) M V ∧ M p ∧ V.heap[p]? = some (.cells #[.int .i64 x.1, .string ⟨x.2.1.toArray⟩, .int .i64 (toV x.2.2)] 167) ∧
          a' = (A.put (some 82) (.agg #[.int .i64 x.1, .string ⟨x.2.1.toArray⟩, .int .i64 (toV x.2.2)])).put (some 9) (.pointer (some ⟨p, 0, none⟩)))
        ?hB ?assign ?body ?done ?stop
      case seq =>
        intro V hg _
        rw [← unhide HLR]
        exact refsIter_seq _ ⟨nm, tx, sa, sc, ss⟩ (R + 1 + 1) _ _ V (by simp only [unhide HM]; exact (hg.block _ (by omega) (by simp)).trans (unhide HG).2) (((unhide HIN).below (by rw [hH]; exact (unhide HNS5).bel)).keep (fun r hr => hg.block r (by have := unhide HDLT r hr; omega) (by simp))) (fun r hr => .inl (unhide HDLT r hr)) (by omega) (fun r hr => by have := hg.size; omega) (unhide HAF)
      case init =>
        refine ⟨⟨v, [], by simpa [P28.refsN] using unhide HNS5, unhide HMAP5, fun k => by simp [lk, posOf, ownKs], fun k u h => by simp [lk, posOf] at h, fun g e => ⟨by have := hvR g e; omega, .inr (.inr e), id⟩⟩, (unhide HG).1, ⟨.inl rfl, id, .inr (.inl rfl), id⟩, hRH, by omega, fun g hg => ?_⟩
        rcases hg with rfl | rfl | e
        · omega
        · omega
        · have := hvR g e; omega
      case hB =>
        rintro i x M a' V V' row ⟨p, hi, hp1, hp3, rfl⟩ hg hr
        exact ⟨p, hi.abides hg hr, hp1, (hg.block p (Array.getElem?_eq_some_iff.1 hp3).1 (fun e => (hr p e.symm).1 hp1)).trans hp3, rfl⟩
      case stop =>
        rintro D c i M V rfl hMD hi h hK
        exact h.elim
      case assign =>
        rintro l2 i ⟨xi, xn, xt⟩ M V K hx hi hV hK
        subst hA
        unfold encRef
        have hgr := World.grownBy_alloc V (.cells #[.int .i64 xi, .string ⟨xn.toArray⟩, .int .i64 (toV xt)] 167) none
        have hKK := hK (fun r => M r ∨ r = V.heap.size) _ (V.alloc (.cells #[.int .i64 xi, .string ⟨xn.toArray⟩, .int .i64 (toV xt)] 167)) hgr (fun r hr => hr.imp id (fun e => by omega))
          ⟨V.heap.size, hi.alloc _, .inr rfl, World.alloc_heap_new V _, rfl⟩
        have HK := hide hKK
        clear hKK hK hgr
        gi_wp2
        exact unhide HK
      case body =>
        rintro l2 q ⟨xi, xn, xt⟩ M2 a' V hx ⟨p, hi, hMp, hpc, rfl⟩ hV
        subst hA
        obtain ⟨⟨v5, Lm, hns, hmp, hcnt, hcn2, hown⟩, hbx, hM4, hlow, hsz5, hms⟩ := id hi
        simp only at hpc
        obtain ⟨⟨p0, _⟩, ⟨p1, _⟩, ⟨p2, _⟩⟩ := cell3 hpc
        obtain ⟨b0, f0⟩ := cell1 hbx
        obtain ⟨k0, k1, k2, k3⟩ := hns.cells
        simp only [unhide HM] at k0 k1 k2
        have hvp : v5.ownBlock ≠ some p := fun e => (hown p e).2.2 rfl
        have hvR5 : v5.ownBlock ≠ some R := fun e => by have := (hown R e).1; omega
        have hvR6 : v5.ownBlock ≠ some (R + 1) := fun e => by have := (hown _ e).1; omega
        have hpz := (hms p hMp)
        have hpH : p ≠ H + 1 := fun e => hM4.2.1 e.symm
        have hpR : p ≠ R := fun e => hM4.2.2.2 e.symm
        obtain ⟨acc2, hacc2⟩ : ∃ acc2, acc ++ P28.refsN (ss.map PSt.name) [] (LR.take q) = acc2 := ⟨_, rfl⟩
        rw [hacc2] at hns
        have HI := hide hi
        have HN0 := hide hns
        have HMP := hide hmp
        have HCNT := hide hcnt
        have HCN2 := hide hcn2
        have HOWN := hide hown
        have HMS := hide hms
        have HPC := hide hpc
        have HBX := hide hbx
        have HACC2 := hide hacc2
        have hln : acc2.length ≤ 400000000000 := by
          have h1 := refsN_len (ss.map PSt.name) (LR.take q) []
          have h2 := unhide HLRL
          rw [List.length_take] at h1
          rw [← unhide HACC2, List.length_append]
          omega
        clear hi hns hmp hcnt hcn2 hown hms hpc hbx hacc2
        gi_upto_region 18 with (refine ⟨trivial, ?_⟩; gi_at_call 163; refine (CallsIn.inRound l2 (callsIn_wide.2 (NS.note (unhide HNOTE) (unhide HN0) _ _ _ xn (by omega)))).mono ?_; rintro e x1 ⟨rfl, v1, hN1, hG1, hO1⟩)
        obtain ⟨r1, vp1, sp1⟩ := gr_safe hG1 hO1 (k := p) (by omega) hpH hvp
        obtain ⟨r2, vq1, sq1⟩ := gr_safe hG1 hO1 (k := R) (by omega) (by omega) hvR5
        obtain ⟨r3, vr1, sr1⟩ := gr_safe hG1 hO1 (k := R + 1) (by omega) (by omega) hvR6
        have hpc1 := r1.trans (unhide HPC)
        have hmp1 := (unhide HMP).keep r2
        have hbx1 := r3.trans (unhide HBX)
        have hxi : xi < M := by
          have h1 := refL_fst (ss.map PSt.name) (ss.map PSt.after) 0 (xi, xn, xt) (by rw [unhide HLR]; exact List.mem_of_getElem? hx)
          rw [List.length_map, unhide HM] at h1
          simpa using h1
        obtain ⟨s1, hg1⟩ := nth_of (unhide HM) hxi
        have hwa := ((unhide HIN).below (by rw [hH]; exact hN1.bel)).steps
        obtain ⟨b1, o1, rfl, c1, hi1⟩ := hwa.get hg1
        obtain ⟨⟨c0, c1, c2, c3⟩, ⟨c4, c5, c6, c7⟩, ⟨c8, c9, c10, c11, c12⟩⟩ := step_cells c1
        clear c1 c2 c3 c4 c5 c6 c7 c8 c9 c10 c11 c12 p0 p1 p2 b0 f0 k0 k1 k2 k3 HPC HMP HBX hwa hi1
        obtain ⟨⟨p0, _⟩, ⟨p1, _⟩, ⟨p2, _⟩⟩ := cell3 hpc1
        obtain ⟨b0, f0⟩ := cell1 hbx1
        obtain ⟨k0, k1, k2, k3⟩ := hN1.cells
        simp only [unhide HM] at k0 k1 k2
        have HPC := hide hpc1
        have HMP := hide hmp1
        have HBX := hide hbx1
        have HN1 := hide hN1
        have HG1 := hide (And.intro hG1 hO1)
        have HS1 := hide hg1
        clear hpc1 hmp1 hbx1 hN1 hG1 hO1 r1 r2 r3 hg1
        refine wpIn_region_tail 15 (by kernel_rfl) (by kernel_rfl) (by kernel_rfl) (by kernel_rfl) (by kernel_rfl) (by kernel_rfl) ?_
        simp only [List.take_succ_cons, List.take_zero, List.drop_succ_cons, List.drop_zero]
        repeat (go_big_quiet_step (fail))
        refine wpQuiet_nil ?_
        intro _ hw'
        obtain ⟨nq, hw''⟩ := hw'
        subst hw''
        gi_upto_region 19 with (refine ⟨trivial, ?_⟩; gi_at_call 163; refine (CallsIn.inRound l2 (callsIn_wide.2 (NS.note (unhide HNOTE) ((unhide HN1).drewN nq) _ _ _ xn (Nat.le_trans (app_le hln) (by omega))))).mono ?_; rintro e x2 ⟨rfl, v2, hN2, hG2, hO2⟩)
        obtain ⟨r1, vp2, sp2⟩ := gr_safe hG2 hO2 (k := p) (show p < x1.heap.size from sp1) hpH vp1
        obtain ⟨r2, vq2, sq2⟩ := gr_safe hG2 hO2 (k := R) (show R < x1.heap.size from sq1) (by omega) vq1
        obtain ⟨r3, vr2, sr2⟩ := gr_safe hG2 hO2 (k := R + 1) (show R + 1 < x1.heap.size from sr1) (by omega) vr1
        have hpc1 := r1.trans (show x1.heap[p]? = _ from unhide HPC)
        have hmp1 := (unhide HMP).keep (show x2.heap[R]? = x1.heap[R]? from r2)
        have hbx1 := r3.trans (show x1.heap[R + 1]? = _ from unhide HBX)
        obtain ⟨cn, hcn⟩ : ∃ cn : Nat, (lk Lm ((xi : Int), xn)).getD (.int .i64 0) = .int .i64 cn := by
          cases hq : lk Lm ((xi : Int), xn) with
          | none => exact ⟨0, rfl⟩
          | some u => obtain ⟨n, rfl, _⟩ := unhide HCN2 _ _ hq; exact ⟨n, rfl⟩
        have hlook : ∀ q, (Instr.lookup 222 (.map (some R)) (.agg #[.int .i64 xi, .string ⟨xn.toArray⟩]) false).run Tryz.prog (x2.drewN q) = .ok (.int .i64 cn) (x2.drewN q) := fun q => by
          have h := (hmp1.keep (W' := x2.drewN q) rfl).look key_own Tryz.underlying222 (zeroI _) ((xi : Int), xn) false
          rw [hcn] at h
          exact h
        have HCN := hide hcn
        clear p0 p1 p2 b0 f0 k0 k1 k2 k3 c0 HPC HMP HBX
        obtain ⟨⟨p0, _⟩, ⟨p1, _⟩, ⟨p2, _⟩⟩ := cell3 hpc1
        obtain ⟨b0, f0⟩ := cell1 hbx1
        obtain ⟨k0, k1, k2, k3⟩ := hN2.cells
        simp only [unhide HM] at k0 k1 k2
        have HPC := hide hpc1
        have HMP := hide hmp1
        have HBX := hide hbx1
        have HN2 := hide hN2
        have HG2 := hide (And.intro hG2 hO2)
        clear hpc1 hmp1 hbx1 hN2 hG2 hO2 r1 r2 r3 hcn
        refine wpIn_region_tail 13 (by kernel_rfl) (by kernel_rfl) (by kernel_rfl) (by kernel_rfl) (by kernel_rfl) (by kernel_rfl) ?_
        simp only [List.take_succ_cons, List.take_zero, List.drop_succ_cons, List.drop_zero]
        repeat (go_big_quiet_step (fail))
        refine wpQuiet_nil ?_
        intro _ hw'
        obtain ⟨nq2, hw''⟩ := hw'
        subst hw''
        gi_upto_region 20 with (refine ⟨trivial, ?_⟩; gi_at_call 163; refine (CallsIn.inRound l2 (callsIn_wide.2 (NS.note (unhide HNOTE) ((unhide HN2).drewN nq2) _ _ _ xn (Nat.le_trans (app_le (app_le hln)) (by omega))))).mono ?_; rintro e x3 ⟨rfl, v3, hN3, hG3, hO3⟩)
        obtain ⟨r1, vp3, sp3⟩ := gr_safe hG3 hO3 (k := p) (show p < x2.heap.size from sp2) hpH vp2
        obtain ⟨r2, vq3, sq3⟩ := gr_safe hG3 hO3 (k := R) (show R < x2.heap.size from sq2) (by omega) vq2
        obtain ⟨r3, vr3, sr3⟩ := gr_safe hG3 hO3 (k := R + 1) (show R + 1 < x2.heap.size from sr2) (by omega) vr2
        have hpc1 := r1.trans (show x2.heap[p]? = _ from unhide HPC)
        have hmp1 := (unhide HMP).keep (show x3.heap[R]? = x2.heap[R]? from r2)
        have hbx1 := r3.trans (show x2.heap[R + 1]? = _ from unhide HBX)
        clear p0 p1 p2 b0 f0 k0 k1 k2 k3 HPC HMP HBX hlook
        obtain ⟨⟨p0, _⟩, ⟨p1, _⟩, ⟨p2, _⟩⟩ := cell3 hpc1
        obtain ⟨b0, f0⟩ := cell1 hbx1
        obtain ⟨hgr1, hor1⟩ := unhide HG1
        obtain ⟨hgr2, hor2⟩ := unhide HG2
        obtain ⟨hgr12, hor12⟩ := gr_trans hgr1 hor1 hgr2 hor2
        obtain ⟨hgr123, hor123⟩ := gr_trans hgr12 hor12 hG3 hO3
        have hcn := unhide HCN
        have hcl : cn ≤ 100000000000 := by
          cases hq : lk Lm ((xi : Int), xn) with
          | none => rw [hq] at hcn; simp at hcn; omega
          | some u =>
            obtain ⟨n, rfl, hn⟩ := unhide HCN2 _ u hq
            rw [hq] at hcn
            simp at hcn
            have h2 := unhide HLRL
            have h3 : (ownKs (LR.take q)).length ≤ LR.length := by unfold ownKs; rw [List.length_map, List.length_take]; omega
            omega
        have hkc : IntKind.i64.wrap ((cn : Int) + 1) = (cn : Int) + 1 := IntWalk.i64_in _ (by omega)
        have hns3 : acc2 ++ P28.nt (decide (toV xt < 0)) xi 5 xn ++ P28.nt (xn == s1.name) xi 8 xn ++ P28.nt (decide (0 < cn)) xi 6 xn = acc ++ P28.refsN (ss.map PSt.name) [] (LR.take (q + 1)) := by
          rw [refsN_take _ hx, ← List.append_assoc, unhide HACC2]
          have e1 : decide (toV xt < 0) = xt.isNone := by cases xt with | none => rfl | some j => exact decide_eq_false (by show ¬ ((j : Int) < 0); omega)
          have e2 : (xn == s1.name) = decide (xn = (ss.map PSt.name).getD xi []) := by
            rw [List.getD_eq_getElem?_getD, List.getElem?_map, unhide HS1]
            rw [Bool.eq_iff_iff]
            simp
          have e3 : decide (0 < cn) = decide ((xi, xn) ∈ (LR.take q).map fun q => (q.1, q.2.1)) := by
            rw [Bool.eq_iff_iff, decide_eq_true_eq, decide_eq_true_eq, ← ownKs_mem, ← unhide HCNT]
            cases hq : lk Lm ((xi : Int), xn) with
            | none => rw [hq] at hcn; simp at hcn; simp; omega
            | some u =>
              obtain ⟨n, rfl, hn⟩ := unhide HCN2 _ u hq
              rw [hq] at hcn
              simp at hcn
              simp
              omega
          rw [e1, e2, e3]
          simp only [P28.refN, List.append_assoc]
        rw [hns3] at hN3
        obtain ⟨U, hU⟩ : ∃ U, x3.drew = U := ⟨_, rfl⟩
        have hbU : Below x3.heap.size x3 U := by rw [← hU]; exact (Below.refl _ _).drew
        have hmU : MapG encOwn U R Lm := hmp1.keep (by rw [← hU]; rfl)
        have HN3 := hide hN3
        have HG123 := hide (And.intro hgr123 hor123)
        clear hns3 hN3 hgr1 hor1 hgr2 hor2 hgr12 hor12 hgr123 hor123 hG3 hO3 r1 r2 r3 hpc1 hmp1 hbx1
        have hS : ∀ k e s W, CntPh Tryz.prog 222 encOwn U R Lm ((xi : Int), xn) cn k e s W → k ≤ 2 → (W.cell? ⟨p, 0, none⟩ = some (.int .i64 xi) ∧ W.cell? ⟨p, 1, none⟩ = some (.string ⟨xn.toArray⟩) ∧ W.cell? ⟨R + 1, 0, none⟩ = some (.map (some R))) ∧ (Instr.lookup 222 (.map (some R)) (.agg #[.int .i64 xi, .string ⟨xn.toArray⟩]) false).run Tryz.prog W = .ok (.int .i64 cn) W := fun k e s W h hk => by
          have hb : W.heap[p]? = x3.heap[p]? := (h.keep hk hpR).trans (hbU.block p sp3)
          have hb2 : W.heap[R + 1]? = x3.heap[R + 1]? := (h.keep hk (by omega)).trans (hbU.block _ sr3)
          exact ⟨⟨(World.cell?_of_block (a := ⟨p, 0, none⟩) hb).trans p0, (World.cell?_of_block (a := ⟨p, 1, none⟩) hb).trans p1, (World.cell?_of_block (a := ⟨R + 1, 0, none⟩) hb2).trans b0⟩, h.look hk hmU hcn key_own Tryz.underlying222 zeroI⟩
        refine wpIn_region_phase hmixed [8, 9, 10] (fun k aF W => ∃ e s, aF = { tmps := #[.agg #[.string ⟨nm.toArray⟩, .string ⟨tx.toArray⟩, .slice (some ⟨b1, o1, none⟩) M sc], .pointer (some ⟨H, 0, none⟩), .slice none 0 0, .pointer (some ⟨H + 1, 0, none⟩), .pointer (some ⟨H + 1 + 1, 0, none⟩), .map (some bm), u6, u7, .pointer (some ⟨R + 1, 0, none⟩), .pointer (some ⟨p, 0, none⟩), .func (.func 163) #[] #[.pointer (some ⟨H + 1, 0, none⟩)], .func (.func 163) #[] #[.pointer (some ⟨H + 1, 0, none⟩)], .pointer (some ⟨H, 2, none⟩), .slice (some ⟨b1, o1, none⟩) M sc, .int .i64 M, .bool ((M : Int) == 0), .tuple #[], .func (.func 163) #[] #[.pointer (some ⟨H + 1, 0, none⟩)], .pointer (some ⟨H, 0, none⟩), .string ⟨nm.toArray⟩, .bool (P28.right nm), .bool (!P28.right nm), .pointer (some ⟨H, 0, none⟩), .string ⟨nm.toArray⟩, .tuple #[], .agg #[.string ⟨nm.toArray⟩, .string ⟨tx.toArray⟩, .slice (some ⟨b1, o1, none⟩) M sc], .map (some bm), .pointer (some ⟨H, 2, none⟩), .slice (some ⟨b1, o1, none⟩) M sc, .int .i64 M, .int .i64 i, .bool false, u32, u33, u34, u35, u36, u37, u38, u39, u40, u41, u42, u43, u44, u45, u46, u47, u48, u49, u50, u51, u52, u53, u54, u55, u56, u57, u58, u59, u60, u61, u62, u63, u64, u65, u66, u67, u68, u69, u70, u71, u72, u73, u74, u75, u76, u77, u78, .map (some R), .agg #[.string ⟨nm.toArray⟩, .string ⟨tx.toArray⟩, .slice (some ⟨b1, o1, none⟩) M sc], .func (.func 142) #[] #[.pointer (some ⟨R + 1 + 1, 0, none⟩)], .agg #[.int .i64 xi, .string ⟨xn.toArray⟩, .int .i64 (toV xt)], .func (.func 163) #[] #[.pointer (some ⟨H + 1, 0, none⟩)], .pointer (some ⟨p, 2, none⟩), .int .i64 (toV xt), .bool (decide (toV xt < 0)), .pointer (some ⟨p, 0, none⟩), .int .i64 xi, .pointer (some ⟨p, 1, none⟩), .string ⟨xn.toArray⟩, .tuple #[], .func (.func 163) #[] #[.pointer (some ⟨H + 1, 0, none⟩)], .pointer (some ⟨p, 1, none⟩), .string ⟨xn.toArray⟩, .pointer (some ⟨H, 2, none⟩), .slice (some ⟨b1, o1, none⟩) M sc, .pointer (some ⟨p, 0, none⟩), .int .i64 xi, .pointer (some ⟨b1, o1 + xi * 13, none⟩), .pointer (some ⟨b1, o1 + xi * 13, none⟩), .string ⟨s1.name.toArray⟩, .bool (xn == s1.name), .pointer (some ⟨p, 0, none⟩), .int .i64 xi, .pointer (some ⟨p, 1, none⟩), .string ⟨xn.toArray⟩, .tuple #[], .func (.func 163) #[] #[.pointer (some ⟨H + 1, 0, none⟩)], .map (some R), .pointer (some ⟨p, 0, none⟩), .int .i64 xi, .pointer (some ⟨p, 1, none⟩), .string ⟨xn.toArray⟩, .agg #[.int .i64 xi, .string ⟨xn.toArray⟩], .int .i64 cn, .bool (decide (0 < cn)), .pointer (some ⟨p, 0, none⟩), .int .i64 xi, .pointer (some ⟨p, 1, none⟩), .string ⟨xn.toArray⟩, .tuple #[], .map (some R), .pointer (some ⟨p, 0, none⟩), .int .i64 xi, .pointer (some ⟨p, 1, none⟩), .string ⟨xn.toArray⟩, .agg #[.int .i64 xi, .string ⟨xn.toArray⟩], .int .i64 cn, .int .i64 ((cn : Int) + 1), e, s, undef, undef], defers := [] } ∧ CntPh Tryz.prog 222 encOwn U R Lm ((xi : Int), xn) cn k e s W) (aF := (fun e s => { tmps := #[.agg #[.string ⟨nm.toArray⟩, .string ⟨tx.toArray⟩, .slice (some ⟨b1, o1, none⟩) M sc], .pointer (some ⟨H, 0, none⟩), .slice none 0 0, .pointer (some ⟨H + 1, 0, none⟩), .pointer (some ⟨H + 1 + 1, 0, none⟩), .map (some bm), u6, u7, .pointer (some ⟨R + 1, 0, none⟩), .pointer (some ⟨p, 0, none⟩), .func (.func 163) #[] #[.pointer (some ⟨H + 1, 0, none⟩)], .func (.func 163) #[] #[.pointer (some ⟨H + 1, 0, none⟩)], .pointer (some ⟨H, 2, none⟩), .slice (some ⟨b1, o1, none⟩) M sc, .int .i64 M, .bool ((M : Int) == 0), .tuple #[], .func (.func 163) #[] #[.pointer (some ⟨H + 1, 0, none⟩)], .pointer (some ⟨H, 0, none⟩), .string ⟨nm.toArray⟩, .bool (P28.right nm), .bool (!P28.right nm), .pointer (some ⟨H, 0, none⟩), .string ⟨nm.toArray⟩, .tuple #[], .agg #[.string ⟨nm.toArray⟩, .string ⟨tx.toArray⟩, .slice (some ⟨b1, o1, none⟩) M sc], .map (some bm), .pointer (some ⟨H, 2, none⟩), .slice (some ⟨b1, o1, none⟩) M sc, .int .i64 M, .int .i64 i, .bool false, u32, u33, u34, u35, u36, u37, u38, u39, u40, u41, u42, u43, u44, u45, u46, u47, u48, u49, u50, u51, u52, u53, u54, u55, u56, u57, u58, u59, u60, u61, u62, u63, u64, u65, u66, u67, u68, u69, u70, u71, u72, u73, u74, u75, u76, u77, u78, .map (some R), .agg #[.string ⟨nm.toArray⟩, .string ⟨tx.toArray⟩, .slice (some ⟨b1, o1, none⟩) M sc], .func (.func 142) #[] #[.pointer (some ⟨R + 1 + 1, 0, none⟩)], .agg #[.int .i64 xi, .string ⟨xn.toArray⟩, .int .i64 (toV xt)], .func (.func 163) #[] #[.pointer (some ⟨H + 1, 0, none⟩)], .pointer (some ⟨p, 2, none⟩), .int .i64 (toV xt), .bool (decide (toV xt < 0)), .pointer (some ⟨p, 0, none⟩), .int .i64 xi, .pointer (some ⟨p, 1, none⟩), .string ⟨xn.toArray⟩, .tuple #[], .func (.func 163) #[] #[.pointer (some ⟨H + 1, 0, none⟩)], .pointer (some ⟨p, 1, none⟩), .string ⟨xn.toArray⟩, .pointer (some ⟨H, 2, none⟩), .slice (some ⟨b1, o1, none⟩) M sc, .pointer (some ⟨p, 0, none⟩), .int .i64 xi, .pointer (some ⟨b1, o1 + xi * 13, none⟩), .pointer (some ⟨b1, o1 + xi * 13, none⟩), .string ⟨s1.name.toArray⟩, .bool (xn == s1.name), .pointer (some ⟨p, 0, none⟩), .int .i64 xi, .pointer (some ⟨p, 1, none⟩), .string ⟨xn.toArray⟩, .tuple #[], .func (.func 163) #[] #[.pointer (some ⟨H + 1, 0, none⟩)], .map (some R), .pointer (some ⟨p, 0, none⟩), .int .i64 xi, .pointer (some ⟨p, 1, none⟩), .string ⟨xn.toArray⟩, .agg #[.int .i64 xi, .string ⟨xn.toArray⟩], .int .i64 cn, .bool (decide (0 < cn)), .pointer (some ⟨p, 0, none⟩), .int .i64 xi, .pointer (some ⟨p, 1, none⟩), .string ⟨xn.toArray⟩, .tuple #[], .map (some R), .pointer (some ⟨p, 0, none⟩), .int .i64 xi, .pointer (some ⟨p, 1, none⟩), .string ⟨xn.toArray⟩, .agg #[.int .i64 xi, .string ⟨xn.toArray⟩], .int .i64 cn, .int .i64 ((cn : Int) + 1), e, s, undef, undef], defers := [] }) undef undef) (by kernel_rfl) (by kernel_rfl) (by simp) ⟨undef, undef, rfl, hU⟩ rfl rfl (same_mid 122 10 (by kernel_rfl) rfl rfl) ?pure ?write ?fin
        case pure =>
          rintro k aF W ix o ⟨e, s, rfl, hph⟩ ho hni hanc
          rcases ix with _ | _ | _ | _ | _ | _ | _ | _ | _ | _ | _ | ix
          · have ho' : some _ = some o := ho
            cases ho'
            obtain ⟨⟨c1, c2, c3⟩, c4⟩ := hS k e s W hph (hanc 2 10 rfl (by kernel_rfl))
            refine (if_pos (show Region.wanted _ (yielded _ _) = true from rfl)).mpr ?_
            refine ⟨_, _, rfl, rfl, .inl ?_⟩
            go_simp
          · have ho' : some _ = some o := ho
            cases ho'
            obtain ⟨⟨c1, c2, c3⟩, c4⟩ := hS k e s W hph (hanc 2 10 rfl (by kernel_rfl))
            refine (if_pos (show Region.wanted _ (yielded _ _) = true from rfl)).mpr ?_
            refine ⟨_, _, rfl, rfl, .inl ?_⟩
            go_simp
          · have ho' : some _ = some o := ho
            cases ho'
            obtain ⟨⟨c1, c2, c3⟩, c4⟩ := hS k e s W hph (hanc 2 10 rfl (by kernel_rfl))
            refine (if_pos (show Region.wanted _ (yielded _ _) = true from rfl)).mpr ?_
            refine ⟨_, _, rfl, rfl, .inl ?_⟩
            go_simp
          · have ho' : some _ = some o := ho
            cases ho'
            obtain ⟨⟨c1, c2, c3⟩, c4⟩ := hS k e s W hph (hanc 2 10 rfl (by kernel_rfl))
            refine (if_pos (show Region.wanted _ (yielded _ _) = true from rfl)).mpr ?_
            refine ⟨_, _, rfl, rfl, .inl ?_⟩
            go_simp
          · have ho' : some _ = some o := ho
            cases ho'
            obtain ⟨⟨c1, c2, c3⟩, c4⟩ := hS k e s W hph (hanc 2 10 rfl (by kernel_rfl))
            refine (if_pos (show Region.wanted _ (yielded _ _) = true from rfl)).mpr ?_
            refine ⟨_, _, rfl, rfl, .inl ?_⟩
            go_simp
          · have ho' : some _ = some o := ho
            cases ho'
            obtain ⟨⟨c1, c2, c3⟩, c4⟩ := hS k e s W hph (hanc 2 10 rfl (by kernel_rfl))
            refine (if_pos (show Region.wanted _ (yielded _ _) = true from rfl)).mpr ?_
            refine ⟨_, _, rfl, rfl, .inl ?_⟩
            go_simp
          · have ho' : some _ = some o := ho
            cases ho'
            obtain ⟨⟨c1, c2, c3⟩, c4⟩ := hS k e s W hph (hanc 2 10 rfl (by kernel_rfl))
            refine (if_pos (show Region.wanted _ (yielded _ _) = true from rfl)).mpr ?_
            refine ⟨_, _, rfl, rfl, .inl ?_⟩
            go_simp
          · have ho' : some _ = some o := ho
            cases ho'
            obtain ⟨⟨c1, c2, c3⟩, c4⟩ := hS k e s W hph (hanc 2 10 rfl (by kernel_rfl))
            refine (if_pos (show Region.wanted _ (yielded _ _) = true from rfl)).mpr ?_
            refine ⟨_, _, rfl, rfl, .inl ?_⟩
            go_simp
          · exfalso; simp at hni
          · exfalso; simp at hni
          · exfalso; simp at hni
          · exfalso; simp at ho
        case write =>
          rintro k aF W ix o ⟨e, s, rfl, hph⟩ hi ho
          rcases k with _ | _ | _ | k
          · cases (show some 8 = some ix from hi)
            have ho' : some _ = some o := ho
            cases ho'
            obtain ⟨e', W', r, h1⟩ := hph.one hmU hcn key_own Tryz.underlying222 zeroI
            refine ⟨rfl, .inl ⟨e', W', ?_, ⟨e', s, rfl, h1⟩⟩⟩
            have r' : (Instr.mapEntry 222 (.map (some R)) (.agg #[.int .i64 xi, .string ⟨xn.toArray⟩])).run Tryz.prog W = .ok e' W' := r
            simp [execOp, Act.eval, r', Result.andThen]
          · cases (show some 9 = some ix from hi)
            have ho' : some _ = some o := ho
            cases ho'
            obtain ⟨st, rfl, h2⟩ := hph.two
            refine ⟨rfl, .inl ⟨.int .i64 st, W, ?_, ⟨_, _, rfl, h2⟩⟩⟩
            have r' : (Instr.extract (.tuple #[.int .i64 (cn : Int), .int .i64 st]) 1).run Tryz.prog W = .ok (.int .i64 st) W := rfl
            simp [execOp, Act.eval, r', Result.andThen]
          · cases (show some 10 = some ix from hi)
            have ho' : some _ = some o := ho
            cases ho'
            obtain ⟨st, W', rfl, r, h3⟩ := hph.three
            refine ⟨rfl, .inr (.inl ⟨W', ?_, ⟨_, _, rfl, h3⟩⟩)⟩
            simp [execOp, Act.eval, r, Result.andThen]
          · simp at hi
        case fin =>
          rintro k aF W3 hk ⟨e, s, rfl, hph⟩
          obtain ⟨k, rfl⟩ : ∃ k', k = k' + 3 := ⟨k - 3, by simp at hk; omega⟩
          obtain ⟨hmp3, hg3⟩ := id hph
          have HFIN := (unhide HI).next (unhide HCNT) (unhide HCN2) (unhide HOWN) (unhide HN3) (unhide HG123).1 (unhide HG123).2 hU hmp3 hcn hg3
          rw [← ownKs_take hx] at HFIN
          have HF := hide HFIN
          clear HFIN hmp3 hg3 hph hS hmU hbU
          gi_wp2
          exact unhide HF
      case done =>
        rintro D M9 V rfl hMD hi hK
        subst hA
        obtain ⟨⟨v5, Lm, hns, _, _, _, hown⟩, _⟩ := hi
        rw [List.take_of_length_le (Nat.le_refl _)] at hns
        obtain ⟨NL, hNL⟩ : ∃ NL, acc ++ P28.refsN (ss.map PSt.name) [] LR = NL := ⟨_, rfl⟩
        rw [hNL] at hns
        obtain ⟨va5, vc5, rfl⟩ := hns.nb.own.form
        obtain ⟨k0, k1, k2, k3⟩ := hns.cells
        obtain ⟨kb, kf⟩ := cell1 hns.nb.box
        have hfl : NL.length ≤ 990000000000 := by
          have h1 := refsN_len (ss.map PSt.name) LR []
          have h2 := unhide HLRL
          rw [← hNL, List.length_append]
          omega
        have hsort := Sort_any _ _ V _ hns.nb.own hfl
        have hNP : NL = P28.namesP (PDef.bare ⟨nm, tx, sa, sc, ss⟩) := by
          have e1 : P28.names (PDef.bare ⟨nm, tx, sa, sc, ss⟩) = ss.map PSt.name := by simp [P28.names, PDef.bare, PSt.bare]
          have e2 : P28.afters (PDef.bare ⟨nm, tx, sa, sc, ss⟩) = ss.map PSt.after := by simp [P28.afters, PDef.bare, PSt.bare]
          have e3 : ((M : Int) == 0) = (ss.map PSt.bare).isEmpty := by
            rw [← unhide HM]
            cases ss with
            | nil => rfl
            | cons x r => simp; omega
          unfold P28.namesP
          rw [e1, e2, unhide HLR, ← hNL, ← unhide HACC, ← unhide HPRE, e3]
          simp only [PDef.bare, List.nil_append, List.append_assoc]
        have hsort : Calls Tryz.prog 162 #[.slice va5 NL.length vc5] V fun e w' => ∃ v', e = .returned v' ∧ OwnT w' V.heap.size v' (P28.sortN (P28.namesP (PDef.bare ⟨nm, tx, sa, sc, ss⟩))) ∧ Below V.heap.size V w' := by rw [← hNP]; exact hsort
        have HSORT := hide hsort
        have HNS5 := hide hns
        clear hns hown hsort hNP hNL hfl
        go_wp2_with (go_at_call 162; refine (unhide HSORT).mono ?_; rintro e V2 ⟨v2, rfl, hT2, hb2⟩)
        have hDl : R + 1 + 1 + 1 < V.heap.size := by
          have h := (Array.getElem?_eq_some_iff.1 hK).1
          omega
        have hK2 : V2.heap[R + 1 + 1 + 1]? = some (.deferred (some [])) := (hb2.block _ hDl).trans (by rw [hs5] at hK; exact hK)
        have hns5 := unhide HNS5
        have hHR := hns5.size
        refine ⟨by simp, .inl ⟨_, _, rfl, run_takeDeferred hK2, ?_⟩⟩
        refine ⟨_, results_tmp rfl _ _ _, v2, rfl, ?_, ?_⟩
        · exact (hT2.keep (fun g hg => (grownBy_putObj' V2 (R + 1 + 1 + 1) (.deferred none)).block g (hT2.lt hg).2 (fun e => by cases e; have := (hT2.lt hg).1; omega))).base (by omega)
        · exact (hns5.bel.trans (hb2.mono (by omega))).grown (grownBy_putObj' V2 (R + 1 + 1 + 1) (.deferred none)) (by have := hb2.size; omega) (fun k e => by cases e; omega)
    | succ g' =>
      have hlt : (i : Int) < (M : Int) := by omega
      have hki : IntKind.i64.wrap ((i : Int) + 1) = (i : Int) + 1 := IntWalk.i64_in _ (by omega)
      obtain ⟨s1, hg1⟩ := nth_of (unhide HM) (show i < M by omega)
      have hst1 := unhide HST s1 (List.mem_of_getElem? hg1)
      have hwa := ((unhide HIN).below (by rw [hH]; exact (unhide HNS).bel)).steps
      obtain ⟨b1, o1, rfl, c1, hi1⟩ := hwa.get hg1
      have hbr : (ss.map PSt.bare)[i]? = some s1.bare := by rw [List.getElem?_map, hg1]; rfl
      have HBR := hide hbr
      obtain ⟨n1, a1, u1, aa1, ac1, af1, q1, fi1, fa1, li1, ⟨k1, t1, ka1, kc1, ks1, da1, dc1, ds1, l1⟩⟩ := s1
      obtain ⟨⟨c0, c1, c2, c3⟩, ⟨c4, c5, c6, c7⟩, ⟨c8, c9, c10, c11, c12⟩⟩ := step_cells c1
      simp only [PSt.aV, Nd.kind, Nd.text, Nd.kV, Nd.dV, Nd.line, Nd.ka, Nd.kc, Nd.keys, Nd.da, Nd.dc, Nd.kids] at c0 c1 c2 c3 c4 c5 c6 c7 c8 c9 c10 c11 c12
      simp only at hst1
      obtain ⟨hs1n, hs1a, hs1u⟩ := hst1
      obtain ⟨K, hK⟩ : ∃ K, wr.heap.size = K := ⟨_, rfl⟩
      obtain ⟨W1, hW1⟩ : ∃ W1, wr.alloc (.cells #[.string ⟨n1.toArray⟩, .string ⟨a1.toArray⟩, .string ⟨u1.toArray⟩, .slice aa1 af1.length ac1, .int .i64 q1, .int .i64 fi1, .int .i64 fa1, .int .i64 li1, .int .u8 k1, .string ⟨t1.toArray⟩, .slice ka1 ks1.length kc1, .slice da1 ds1.length dc1, .int .i64 l1] 63) = W1 := ⟨_, rfl⟩
      have r0 : W1.heap[K]? = some (.cells #[.string ⟨n1.toArray⟩, .string ⟨a1.toArray⟩, .string ⟨u1.toArray⟩, .slice aa1 af1.length ac1, .int .i64 q1, .int .i64 fi1, .int .i64 fa1, .int .i64 li1, .int .u8 k1, .string ⟨t1.toArray⟩, .slice ka1 ks1.length kc1, .slice da1 ds1.length dc1, .int .i64 l1] 63) := by rw [← hW1, ← hK]; exact World.alloc_heap_new _ _
      have hb1 : Below wr.heap.size wr W1 := by rw [← hW1]; exact (Below.refl _ _).alloc (Nat.le_refl _) _
      have hm1 : MapG encS W1 bm Lp := (unhide HMP).keep (hb1.block _ (by omega))
      have hs1 : W1.heap.size = K + 1 := by rw [← hW1, ← hK]; simp
      have hn1 := (unhide HNS).keep hb1
      have hvK : v.ownBlock ≠ some K := fun e => by have := ((unhide HNS).nb.own.lt e).2; omega
      have hHK := (unhide HNS).size
      obtain ⟨⟨y0, _⟩, ⟨y1, _⟩, ⟨y2, _⟩, _⟩ := cell13 r0
      obtain ⟨k0, k1', k2, k3⟩ := hn1.cells
      simp only [unhide HM] at k0 k1' k2
      have HN := hide hn1
      have HM1 := hide hm1
      have HW1 := hide hW1
      have HR := hide r0
      clear hg1 hi1 hwa hb1 hm1 r0 hW1 HMP hbr hn1
      go_upto_region 9 with fail
      rw [unhide HW1]
      have hlen0 : (pre ++ P28.stepsN (ss.map PSt.name) 0 ((ss.map PSt.bare).take i)).length ≤ 400002 := by
        have h1 := stepsN_len (ss.map PSt.name) ((ss.map PSt.bare).take i) 0
        rw [List.length_take] at h1
        rw [List.length_append]
        omega
      have hbmH : bm ≠ H + 1 := hbmH0
      obtain ⟨acc, hacc⟩ : ∃ acc, (pre ++ P28.stepsN (ss.map PSt.name) 0 ((ss.map PSt.bare).take i)) = acc := ⟨_, rfl⟩
      rw [hacc] at HN hlen0
      have HACC := hide hacc
      clear hacc
      have hbz1 : bm < W1.heap.size := by omega
      refine wp_region_tail 8 (by kernel_rfl) (by kernel_rfl) (by kernel_rfl) (by kernel_rfl) (by kernel_rfl) ?_
      simp only [List.take_succ_cons, List.take_zero, List.drop_succ_cons, List.drop_zero]
      repeat (go_big_quiet_step (exact Calls.quiet_of_same (Right_any _ _ hs1n)))
      refine wpQuiet_nil ?_
      intro _ hw'
      obtain ⟨nq, hw''⟩ := hw'
      subst hw''
      have HN0 := HN
      clear HN
      go_upto_region 10 with (go_at_call 163; refine (NS.note (unhide HNOTE) ((unhide HN0).drewN nq) _ _ _ n1 (by omega)).mono ?_; rintro e x1 ⟨rfl, v1, hN1, hG1, hO1⟩)
      obtain ⟨r1, vK1, sK1⟩ := gr_safe hG1 hO1 (k := K) (show K < W1.heap.size by omega) (by omega) hvK
      obtain ⟨m1, vb1, sb1⟩ := gr_safe hG1 hO1 (k := bm) (show bm < W1.heap.size by omega) hbmH hvb
      have r0 := r1.trans (show W1.heap[K]? = _ from unhide HR)
      have hm1 := (unhide HM1).keep (show x1.heap[bm]? = W1.heap[bm]? from m1)
      clear HR HM1 y0 y1 y2 k0 k1' k2 k3
      obtain ⟨⟨y0, _⟩, ⟨y1, _⟩, ⟨y2, _⟩, _⟩ := cell13 r0
      obtain ⟨k0, k1', k2, k3⟩ := hN1.cells
      simp only [unhide HM] at k0 k1' k2
      have HR := hide r0
      have HM1 := hide hm1
      have HN1 := hide hN1
      clear r0 hm1 hN1 hG1 hO1 r1 m1
      refine wp_region_tail 8 (by kernel_rfl) (by kernel_rfl) (by kernel_rfl) (by kernel_rfl) (by kernel_rfl) ?_
      simp only [List.take_succ_cons, List.take_zero, List.drop_succ_cons, List.drop_zero]
      repeat (go_big_quiet_step (exact Calls.quiet_of_same (Right_any _ _ hs1a)))
      refine wpQuiet_nil ?_
      intro _ hw'
      obtain ⟨nq, hw''⟩ := hw'
      subst hw''
      go_upto_region 11 with (go_at_call 163; refine (NS.note (unhide HNOTE) ((unhide HN1).drewN nq) _ _ _ a1 (Nat.le_trans (app_le hlen0) (by omega))).mono ?_; rintro e x2 ⟨rfl, v2, hN2, hG2, hO2⟩)
      obtain ⟨r2, vK2, sK2⟩ := gr_safe hG2 hO2 (k := K) (show K < x1.heap.size by omega) (by omega) vK1
      obtain ⟨m2, vb2, sb2⟩ := gr_safe hG2 hO2 (k := bm) (show bm < x1.heap.size by omega) hbmH vb1
      have r0 := r2.trans (show x1.heap[K]? = _ from unhide HR)
      have hm1 := (unhide HM1).keep (show x2.heap[bm]? = x1.heap[bm]? from m2)
      clear HR HM1 y0 y1 y2 k0 k1' k2 k3
      obtain ⟨⟨y0, _⟩, ⟨y1, _⟩, ⟨y2, _⟩, _⟩ := cell13 r0
      obtain ⟨k0, k1', k2, k3⟩ := hN2.cells
      simp only [unhide HM] at k0 k1' k2
      have HR := hide r0
      have HM1 := hide hm1
      have HN2 := hide hN2
      clear r0 hm1 hN2 hG2 hO2 r2 m2
      have hidx : ∃ j : Nat, P28.idx (ss.map PSt.name) n1 = some j := by
        cases hq : P28.idx (ss.map PSt.name) n1 with
        | some j => exact ⟨j, rfl⟩
        | none =>
          refine absurd ?_ (P28.idx_none.1 hq)
          have hb := unhide HBR
          rw [List.getElem?_map] at hb
          cases h9 : ss[i]? with
          | none => rw [h9] at hb; cases hb
          | some s9 =>
            rw [h9] at hb
            have h10 : s9.name = n1 := congrArg P22.Step.name (Option.some.inj hb)
            exact List.mem_map.2 ⟨s9, List.mem_of_getElem? h9, h10⟩
      obtain ⟨j, hj⟩ := hidx
      have HIDX := hide hj
      have hlkn : lk Lp n1 = some (.int .i64 (j : Int)) := by rw [unhide HLK, hj]; rfl
      have HLKN := hide hlkn
      clear hj hlkn
      cases u1 with
      | nil =>
        refine wp_region_tail 13 (by kernel_rfl) (by kernel_rfl) (by kernel_rfl) (by kernel_rfl) (by kernel_rfl) ?_
        simp only [List.take_succ_cons, List.take_zero, List.drop_succ_cons, List.drop_zero]
        repeat (go_big_quiet_step (exact Calls.quiet_of_same (Right_any _ _ hs1u)))
        refine wpQuiet_nil ?_
        intro _ hw'
        obtain ⟨nq, hw''⟩ := hw'
        subst hw''
        go_upto_region 12 with (go_at_call 163; refine (NS.note (unhide HNOTE) ((unhide HN2).drewN nq) _ _ _ [] (Nat.le_trans (app_le (app_le hlen0)) (by omega))).mono ?_; rintro e x3 ⟨rfl, v3, hN3, hG3, hO3⟩)
        obtain ⟨r3, vK3, sK3⟩ := gr_safe hG3 hO3 (k := K) (show K < x2.heap.size by omega) (by omega) vK2
        obtain ⟨m3, vb3, sb3⟩ := gr_safe hG3 hO3 (k := bm) (show bm < x2.heap.size by omega) hbmH vb2
        have r0 := r3.trans (show x2.heap[K]? = _ from unhide HR)
        have hm1 := (unhide HM1).keep (show x3.heap[bm]? = x2.heap[bm]? from m3)
        clear HR HM1 y0 y1 y2 k0 k1' k2 k3
        obtain ⟨⟨y0, _⟩, ⟨y1, _⟩, ⟨y2, _⟩, _⟩ := cell13 r0
        obtain ⟨k0, k1', k2, k3⟩ := hN3.cells
        simp only [unhide HM] at k0 k1' k2
        have HR := hide r0
        have HM1 := hide hm1
        have HN3 := hide hN3
        clear r0 hm1 hN3 hG3 hO3 r3 m3
        go_upto_region 13 with (first | (at_lookup; refine wpList_lookOne rfl _ _ rfl (unhide HM1) keyS Tryz.underlying205 (zeroI _) rfl n1 rfl (unhide HLKN) ?_) | (go_at_call 163; refine (NS.note (unhide HNOTE) (unhide HN3) _ _ _ n1 (Nat.le_trans (app_le (app_le (app_le hlen0))) (by omega))).mono ?_; rintro e x4 ⟨rfl, v4, hN4, hG4, hO4⟩))
        obtain ⟨r4, vK4, sK4⟩ := gr_safe hG4 hO4 (k := K) (show K < x3.heap.size by omega) (by omega) vK3
        obtain ⟨m4, vb4, sb4⟩ := gr_safe hG4 hO4 (k := bm) (show bm < x3.heap.size by omega) hbmH vb3
        have r0 := r4.trans (show x3.heap[K]? = _ from unhide HR)
        have hm1 := (unhide HM1).keep (show x4.heap[bm]? = x3.heap[bm]? from m4)
        clear HR HM1 y0 y1 y2 k0 k1' k2 k3
        obtain ⟨⟨y0, _⟩, ⟨y1, _⟩, ⟨y2, _⟩, _⟩ := cell13 r0
        obtain ⟨k0, k1', k2, k3⟩ := hN4.cells
        simp only [unhide HM] at k0 k1' k2
        have HR := hide r0
        have HM1 := hide hm1
        have HN4 := hide hN4
        clear r0 hm1 hN4 hG4 hO4 r4 m4
        go_wp2
        go_roundg g'
        case measure => omega
        case rel =>
          refine ⟨i + 1, v4, by omega, by go_num, hide ?_, HM1, vb4, sb4⟩
          have h4 := unhide HN4
          rw [stepsN_take _ _ 0 i _ (unhide HBR), ← List.append_assoc, unhide HACC, Nat.zero_add]
          simpa [P28.stepN, PSt.bare, unhide HIDX, List.append_assoc] using h4
      | cons u0 ur =>
        refine wp_region_tail 13 (by kernel_rfl) (by kernel_rfl) (by kernel_rfl) (by kernel_rfl) (by kernel_rfl) ?_
        simp only [List.take_succ_cons, List.take_zero, List.drop_succ_cons, List.drop_zero]
        repeat (go_big_quiet_step (exact Calls.quiet_of_same (Right_any _ _ hs1u)))
        refine wpQuiet_nil ?_
        intro _ hw'
        obtain ⟨nq, hw''⟩ := hw'
        subst hw''
        go_upto_region 12 with (go_at_call 163; refine (NS.note (unhide HNOTE) ((unhide HN2).drewN nq) _ _ _ (u0 :: ur) (Nat.le_trans (app_le (app_le hlen0)) (by omega))).mono ?_; rintro e x3 ⟨rfl, v3, hN3, hG3, hO3⟩)
        obtain ⟨r3, vK3, sK3⟩ := gr_safe hG3 hO3 (k := K) (show K < x2.heap.size by omega) (by omega) vK2
        obtain ⟨m3, vb3, sb3⟩ := gr_safe hG3 hO3 (k := bm) (show bm < x2.heap.size by omega) hbmH vb2
        have r0 := r3.trans (show x2.heap[K]? = _ from unhide HR)
        have hm1 := (unhide HM1).keep (show x3.heap[bm]? = x2.heap[bm]? from m3)
        clear HR HM1 y0 y1 y2 k0 k1' k2 k3
        obtain ⟨⟨y0, _⟩, ⟨y1, _⟩, ⟨y2, _⟩, _⟩ := cell13 r0
        obtain ⟨k0, k1', k2, k3⟩ := hN3.cells
        simp only [unhide HM] at k0 k1' k2
        have HR := hide r0
        have HM1 := hide hm1
        have HN3 := hide hN3
        clear r0 hm1 hN3 hG3 hO3 r3 m3
        go_upto_region 13 with (first | (at_lookup; refine wpList_lookOne rfl _ _ rfl (unhide HM1) keyS Tryz.underlying205 (zeroI _) rfl n1 rfl (unhide HLKN) ?_) | (go_at_call 163; refine (NS.note (unhide HNOTE) (unhide HN3) _ _ _ n1 (Nat.le_trans (app_le (app_le (app_le hlen0))) (by omega))).mono ?_; rintro e x4 ⟨rfl, v4, hN4, hG4, hO4⟩))
        obtain ⟨r4, vK4, sK4⟩ := gr_safe hG4 hO4 (k := K) (show K < x3.heap.size by omega) (by omega) vK3
        obtain ⟨m4, vb4, sb4⟩ := gr_safe hG4 hO4 (k := bm) (show bm < x3.heap.size by omega) hbmH vb3
        have r0 := r4.trans (show x3.heap[K]? = _ from unhide HR)
        have hm1 := (unhide HM1).keep (show x4.heap[bm]? = x3.heap[bm]? from m4)
        clear HR HM1 y0 y1 y2 k0 k1' k2 k3
        obtain ⟨⟨y0, _⟩, ⟨y1, _⟩, ⟨y2, _⟩, _⟩ := cell13 r0
        obtain ⟨k0, k1', k2, k3⟩ := hN4.cells
        simp only [unhide HM] at k0 k1' k2
        have HR := hide r0
        have HM1 := hide hm1
        have HN4 := hide hN4
        clear r0 hm1 hN4 hG4 hO4 r4 m4
        go_wp2
        go_roundg g'
        case measure => omega
        case rel =>
          refine ⟨i + 1, v4, by omega, by go_num, hide ?_, HM1, vb4, sb4⟩
          have h4 := unhide HN4
          rw [stepsN_take _ _ 0 i _ (unhide HBR), ← List.append_assoc, unhide HACC, Nat.zero_add]
          simpa [P28.stepN, PSt.bare, unhide HIDX, List.append_assoc] using h4
end Go.Proofs.YtefokfbgpfcbkaaGreat
namespace Go.Proofs.YtefokfbgpfcbkaaGreat
set_option linter.unusedVariables false
set_option linter.unusedSimpArgs false
open Go.RowKit
structure BS (w W : World) (H : Nat) (d : PDef) (ns : List P28.Note) (v : Value) : Prop where
  nb : NB W (H + 2) (H + 1) ns v
  df : W.heap[H]? = some (defO d)
  bel : Below H w W
  size : H + 2 ≤ W.heap.size
theorem BS.gr {w W W' : World} {H : Nat} {d : PDef} {ns ns' : List P28.Note} {v v' : Value} (h : BS w W H d ns v) (hn : NB W' (H + 2) (H + 1) ns' v') (hg : Gr W W' (H + 1) v.ownBlock) : BS w W' H d ns' v' := by
  have ho : ∀ g, v.ownBlock = some g → H + 2 ≤ g := fun g e => (h.nb.own.lt e).1
  have hz := h.size
  exact ⟨hn, (hg.block H (by omega) (by omega) (fun e => by have := ho _ e.symm; omega)).trans h.df, hg.below h.bel (by omega) (by omega) (fun g e => by have := ho g e; omega), Nat.le_trans h.size hg.size⟩
theorem BS.keep {w W W' : World} {H : Nat} {d : PDef} {ns : List P28.Note} {v : Value} (h : BS w W H d ns v) (hb : Below W.heap.size W W') : BS w W' H d ns v := by
  have hz := h.size
  exact ⟨h.nb.below hb, (hb.block _ (by omega)).trans h.df, h.bel.trans (hb.mono (by omega)), Nat.le_trans h.size hb.size⟩
theorem BS.other {w W W' : World} {H K : Nat} {d : PDef} {ns : List P28.Note} {v : Value} (h : BS w W H d ns v) (hK : H + 2 ≤ K) (hv : v.ownBlock ≠ some K) (hb : Below H w W') (hz : W.heap.size ≤ W'.heap.size) (hs : ∀ g, g ≠ K → W'.heap[g]? = W.heap[g]?) : BS w W' H d ns v :=
  ⟨h.nb.keep (hs _ (by omega)) (fun g e => hs g (fun q => hv (by rw [e, q]))), (hs _ (by omega)).trans h.df, hb, Nat.le_trans h.size hz⟩
theorem BS.drewN {w W : World} {H : Nat} {d : PDef} {ns : List P28.Note} {v : Value} (h : BS w W H d ns v) (n : Nat) : BS w (W.drewN n) H d ns v := h.keep (below_drewN (Below.refl _ _))
theorem BS.cells {w W : World} {H : Nat} {d : PDef} {ns : List P28.Note} {v : Value} (h : BS w W H d ns v) : W.cell? ⟨H, 0, none⟩ = some (.string ⟨d.name.toArray⟩) ∧ W.cell? ⟨H, 1, none⟩ = some (.string ⟨d.text.toArray⟩) ∧ W.cell? ⟨H, 2, none⟩ = some (.slice d.sa d.steps.length d.sc) := by
  obtain ⟨⟨a, _⟩, ⟨b, _⟩, ⟨c, _⟩⟩ := cell3 h.df
  exact ⟨a, b, c⟩
theorem BS.note {w W : World} {H f : Nat} {d : PDef} {ns : List P28.Note} {v : Value} (hf : NotesTo f (H + 1)) (h : BS w W H d ns v) (c : Bool) (i e : Int) (t : List UInt8) (hl : ns.length ≤ 100000000000 * 9) :
    Calls Tryz.prog f #[.bool c, .int .i64 i, .int .i64 e, .string ⟨t.toArray⟩, .pointer (some ⟨H + 1, 0, none⟩)] W fun x W' => x = .returned (.tuple #[]) ∧ ∃ v', BS w W' H d (ns ++ P28.nt c i e t) v' ∧ Gr W W' (H + 1) v.ownBlock ∧ (v'.ownBlock = v.ownBlock ∨ ∃ g, v'.ownBlock = some g ∧ W.heap.size ≤ g) := by
  refine (hf c i e t W (H + 2) ns v h.nb h.size hl).mono ?_
  rintro x W' ⟨rfl, v', h1, h2, h3⟩
  exact ⟨rfl, v', h.gr h1 h2, h2, h3⟩
theorem stepsB_take : ∀ (ss : List P22.Step) (k i : Nat) (s : P22.Step), ss[i]? = some s → P28.stepsB k (ss.take (i + 1)) = P28.stepsB k (ss.take i) ++ P28.stepB (k + i) s
  | [], k, i, s, h => by simp at h
  | x :: ss, k, 0, s, h => by simp at h; subst h; simp [P28.stepsB]
  | x :: ss, k, i + 1, s, h => by
    have ih := stepsB_take ss (k + 1) i s (by simpa using h)
    rw [List.take_succ_cons, List.take_succ_cons]
    show P28.stepB k x ++ P28.stepsB (k + 1) (ss.take (i + 1)) = P28.stepB k x ++ P28.stepsB (k + 1) (ss.take i) ++ _
    rw [ih, List.append_assoc, show k + 1 + i = k + (i + 1) by omega]
theorem stepsB_len : ∀ (ss : List P22.Step) (k : Nat), (P28.stepsB k ss).length ≤ ss.length * 4
  | [], k => by simp [P28.stepsB]
  | x :: ss, k => by
    have ih := stepsB_len ss (k + 1)
    have h1 := P28.nt_le (P28.out1 (P28.meant x.tries.most 1) 1 10) k 1 [109, 111, 115, 116]
    have h2 := P28.nt_le (P28.out1 x.tries.first 0 1000) k 1 [102, 105, 114, 115, 116]
    have h3 := P28.nt_le (P28.out1 (P28.meant x.tries.factor 1) 1 10) k 1 [102, 97, 99, 116, 111, 114]
    have h4 := P28.nt_le (P28.out1 (P28.meant x.limit 100) 1 10000) k 1 [108, 105, 109, 105, 116]
    show (P28.stepB k x ++ P28.stepsB (k + 1) ss).length ≤ _
    simp only [P28.stepB, List.length_append, List.length_cons] at *
    omega
theorem undoRow_take (us ns : List (List UInt8)) : ∀ (l : List Nat) (j x : Nat), l[j]? = some x → P28.undoRow us ns (l.take (j + 1)) = P28.undoRow us ns (l.take j) ++ P28.nt (us.getD x []).isEmpty x 19 (ns.getD x [])
  | [], j, x, h => by simp at h
  | y :: l, 0, x, h => by simp at h; subst h; simp [P28.undoRow]
  | y :: l, j + 1, x, h => by
    have ih := undoRow_take us ns l j x (by simpa using h)
    rw [List.take_succ_cons, List.take_succ_cons]
    show P28.nt _ _ _ _ ++ P28.undoRow us ns (l.take (j + 1)) = P28.nt _ _ _ _ ++ P28.undoRow us ns (l.take j) ++ _
    rw [ih, List.append_assoc]
theorem undoRow_len (us ns : List (List UInt8)) : ∀ l : List Nat, (P28.undoRow us ns l).length ≤ l.length
  | [] => by simp [P28.undoRow]
  | y :: l => by
    have ih := undoRow_len us ns l
    have h1 := P28.nt_le (us.getD y []).isEmpty y 19 (ns.getD y [])
    show (P28.nt _ _ _ _ ++ P28.undoRow us ns l).length ≤ _
    simp only [List.length_append, List.length_cons] at *
    omega
theorem undosP_take (us ns : List (List UInt8)) : ∀ (R : List (List Nat)) (k i : Nat) (l : List Nat), R[i]? = some l → P28.undosP us ns k (R.take (i + 1)) = P28.undosP us ns k (R.take i) ++ (if (us.getD (k + i) []).isEmpty then [] else P28.undoRow us ns l)
  | [], k, i, l, h => by simp at h
  | x :: R, k, 0, l, h => by simp at h; subst h; simp [P28.undosP]
  | x :: R, k, i + 1, l, h => by
    have ih := undosP_take us ns R (k + 1) i l (by simpa using h)
    rw [List.take_succ_cons, List.take_succ_cons]
    show (if (us.getD k []).isEmpty then [] else P28.undoRow us ns x) ++ P28.undosP us ns (k + 1) (R.take (i + 1)) = (if (us.getD k []).isEmpty then [] else P28.undoRow us ns x) ++ P28.undosP us ns (k + 1) (R.take i) ++ _
    rw [ih, List.append_assoc, show k + 1 + i = k + (i + 1) by omega]
theorem undosP_len (us ns : List (List UInt8)) (c : Nat) : ∀ (R : List (List Nat)) (k : Nat), (∀ l ∈ R, l.length ≤ c) → (P28.undosP us ns k R).length ≤ R.length * c
  | [], k, h => by simp [P28.undosP]
  | x :: R, k, h => by
    have ih := undosP_len us ns c R (k + 1) (fun l hl => h l (by simp [hl]))
    have h1 := Nat.le_trans (undoRow_len us ns x) (h x (by simp))
    show ((if (us.getD k []).isEmpty then [] else P28.undoRow us ns x) ++ P28.undosP us ns (k + 1) R).length ≤ _
    rw [List.length_append, List.length_cons, Nat.add_mul]
    split
    · simp; omega
    · omega
theorem row_len (ns : List (List UInt8)) (i : Nat) : ∀ (a : List (List UInt8)) (l : List Nat), (a.foldl (fun l x => P28.addTo i l (P28.idx ns x)) l).length ≤ l.length + a.length
  | [], l => by simp
  | x :: a, l => by
    have h1 := row_len ns i a (P28.addTo i l (P28.idx ns x))
    have h2 := addTo_len i l (P28.idx ns x)
    rw [List.foldl_cons]
    simp only [List.length_cons]
    omega
theorem rows_rl (ns : List (List UInt8)) (c : Nat) : ∀ (aa : List (List (List UInt8))) (i : Nat), (∀ a ∈ aa, a.length ≤ c) → ∀ l ∈ P28.rows ns i aa, l.length ≤ c
  | [], i, h, l, hl => by simp [P28.rows] at hl
  | a :: aa, i, h, l, hl => by
    unfold P28.rows at hl
    rcases List.mem_cons.1 hl with rfl | hl
    · have h1 := row_len ns i a []
      have h2 := h a (by simp)
      unfold P28.row
      simp only [List.length_nil] at h1
      omega
    · exact rows_rl ns c aa (i + 1) (fun a ha => h a (by simp [ha])) l hl
structure BG (w V : World) (H bR : Nat) (d : PDef) (vs : Nat → Value) (RS : List (List Nat)) (ns : List P28.Note) (v : Value) : Prop where
  bs : BS w V H d ns v
  gr : Grid V (H + 2) bR vs RS
  sep : ∀ g, v.ownBlock = some g → ¬ gridB bR vs RS.length g
theorem BG.note {w V V' : World} {H bR : Nat} {d : PDef} {vs : Nat → Value} {RS : List (List Nat)} {ns ns' : List P28.Note} {v v' : Value} (h : BG w V H bR d vs RS ns v) (hs : BS w V' H d ns' v') (hg : Gr V V' (H + 1) v.ownBlock) (ho : v'.ownBlock = v.ownBlock ∨ ∃ g, v'.ownBlock = some g ∧ V.heap.size ≤ g) : BG w V' H bR d vs RS ns' v' := by
  refine ⟨hs, h.gr.keep (fun g hgb => hg.block g (h.gr.lt hgb).2 (by have := (h.gr.lt hgb).1; omega) (fun e => h.sep g e.symm hgb)), fun g e hgb => ?_⟩
  rcases ho with o | ⟨g', o, hz⟩
  · exact h.sep g (o.symm.trans e) hgb
  · rw [e] at o; cases o
    have := (h.gr.lt hgb).2; omega
theorem BG.drewN {w V : World} {H bR : Nat} {d : PDef} {vs : Nat → Value} {RS : List (List Nat)} {ns : List P28.Note} {v : Value} (h : BG w V H bR d vs RS ns v) (n : Nat) : BG w (V.drewN n) H bR d vs RS ns v := ⟨h.bs.drewN n, h.gr.keep (fun _ _ => rfl), h.sep⟩
end Go.Proofs.YtefokfbgpfcbkaaGreat
namespace Go.Proofs.YtefokfbgpfcbkaaGreat
set_option linter.unusedVariables false
set_option linter.unusedSimpArgs false
open Go.RowKit
set_option maxRecDepth 100000 in
set_option maxHeartbeats 8000000 in
theorem boundsCheck_any (d : PDef) (w : World) (hin : d.In w) (hl : d.steps.length ≤ 100000) (haf : ∀ s ∈ d.steps, s.after.length ≤ 1000000) (hnl : ∀ s ∈ d.steps, s.name.length ≤ maxLen) :
    Calls Tryz.prog 125 #[d.val] w fun e w' => ∃ v, e = .returned v ∧ OwnT w' w.heap.size v (P28.sortN (P28.boundsP d.bare)) ∧ Below w.heap.size w w' := by
  have hdlt := fun r (hr : d.blk r) => hin.lt hr
  obtain ⟨H, hH⟩ : ∃ H, w.heap.size = H := ⟨_, rfl⟩
  have hrefs := fun V (hV : d.In V) => Refs_any d V hV hl haf
  have hrl : ∀ l ∈ P28.refs d.bare, l.length ≤ 1000000 := rows_rl _ 1000000 _ 0 (fun a ha => by
    simp only [P28.afters, PDef.bare, List.map_map, List.mem_map, Function.comp] at ha
    obtain ⟨s, hs, rfl⟩ := ha
    exact haf s hs)
  have hlt : ∀ l ∈ P28.refs d.bare, ∀ x ∈ l, x < d.steps.length := fun l h x hx => by
    have := P28.refs_lt h hx
    simpa [PDef.bare] using this
  have hrn : (P28.refs d.bare).length = d.steps.length := by rw [P28.refs_len]; simp [PDef.bare]
  have hbp : P28.boundsP d.bare = P28.stepsB 0 (d.steps.map PSt.bare) ++ P28.undosP (d.steps.map PSt.undo) (d.steps.map PSt.name) 0 (P28.refs d.bare) := by
    unfold P28.boundsP
    simp [P28.undos, P28.names, PDef.bare, PSt.bare, Function.comp_def]
  rw [hbp]
  obtain ⟨RS, hRS⟩ : ∃ RS, P28.refs d.bare = RS := ⟨_, rfl⟩
  rw [hRS] at hrl hlt hrn ⊢
  rw [hH] at hdlt ⊢
  obtain ⟨W1, hW1, hb1, g0, g1, hs1⟩ := new2 w (defO d) (.cells #[.slice none 0 0] 124) H hH
  have hB1 : BS w W1 H d [] (.slice none 0 0) := ⟨⟨g1, OwnT.nil _ _, by omega⟩, g0, hb1, by omega⟩
  have hnote := note_bounds (H + 1)
  have x0 := cell3 (World.alloc_heap_new w (defO d))
  rw [hH] at x0
  obtain ⟨k0, k1, k2⟩ := hB1.cells
  have HW1 := hide hW1
  have HIN := hide hin
  have HDLT := hide hdlt
  have HREFS := hide hrefs
  have HRL := hide hrl
  have HLT := hide hlt
  have HRN := hide hrn
  have HRS := hide hRS
  have HB1 := hide hB1
  have HNOTE := hide hnote
  have HNL := hide hnl
  clear hW1 hin hdlt hrefs hrl hlt hrn hRS hbp hB1 hnote hb1 g0 g1 haf hnl
  unfold defO at HW1
  obtain ⟨nm, tx, sa, sc, ss⟩ := d
  obtain ⟨M, hM⟩ : ∃ M, ss.length = M := ⟨_, rfl⟩
  unfold PDef.val at HREFS ⊢
  simp only at hl k0 k1 k2 HW1 HREFS HRN HLT HNL ⊢
  rw [hM] at hl k2 HW1 HREFS HRN HLT ⊢
  have HM := hide hM
  clear hM
  go_enter Tryz.func125, Tryz.ntmps125
  go_upto_region 2 with fail
  try rw [hH]
  rw [unhide HW1]
  clear x0
  go_wp2
  go_loopg [16] M (fun g s16 wx => ∃ (i : Nat) (v : Value), i + g = M ∧ s16 = .int .i64 i ∧ Hid (BS w wx H ⟨nm, tx, sa, sc, ss⟩ (P28.stepsB 0 ((ss.map PSt.bare).take i)) v))
  case atStart => exact ⟨0, _, by omega, by go_num, by simpa [P28.stepsB] using HB1⟩
  case round =>
    obtain ⟨i, v, hig, rfl, HBS⟩ := hrel
    clear k0 k1 k2
    cases gk with
    | zero =>
      have e1 : (M : Int) ≤ (i : Int) := by omega
      have j1 : decide ((i : Int) < (M : Int)) = false := by simp; omega
      have htk : (ss.map PSt.bare).take i = ss.map PSt.bare := List.take_of_length_le (by rw [List.length_map, unhide HM]; omega)
      have hbs := unhide HBS
      rw [htk] at hbs
      have hacl : (P28.stepsB 0 (ss.map PSt.bare)).length ≤ 400002 := by
        have h1 := stepsB_len (ss.map PSt.bare) 0
        rw [List.length_map, unhide HM] at h1
        omega
      obtain ⟨acc, hacc⟩ : ∃ acc, P28.stepsB 0 (ss.map PSt.bare) = acc := ⟨_, rfl⟩
      rw [hacc] at hbs hacl
      have HACC := hide hacc
      obtain ⟨k0, k1, k2⟩ := hbs.cells
      simp only [unhide HM] at k0 k1 k2
      have hinr := (unhide HIN).below (by rw [hH]; exact hbs.bel)
      have HBS2 := hide hbs
      have HINR := hide hinr
      have HBW := hide hbs.bel
      clear HBS hbs hinr htk hacc
      go_upto_region 14 with (go_at_call 59; refine (unhide HREFS _ (unhide HINR)).mono ?_; rintro e w4 ⟨bR, vs, rfl, hgr, hb4⟩)
      have hbs4 := (unhide HBS2).keep hb4
      rw [unhide HRS] at hgr
      have hbg : BG w w4 H bR ⟨nm, tx, sa, sc, ss⟩ vs RS acc v := ⟨hbs4, hgr.low (unhide HBS2).size, fun g e hgb => by have := (hgr.lt hgb).1; have := ((unhide HBS2).nb.own.lt e).2; omega⟩
      have HBG := hide hbg
      clear hbs4 hgr hbg hb4 HBS2 HINR k0 k1 k2
      go_wp2
      go_loopg [62] M (fun g s62 wx => ∃ (k : Nat) (v : Value), k + g = M ∧ s62 = .int .i64 k ∧ Hid (BG w wx H bR ⟨nm, tx, sa, sc, ss⟩ vs RS (acc ++ P28.undosP (ss.map PSt.undo) (ss.map PSt.name) 0 (RS.take k)) v))
      case atStart => exact ⟨0, v, by omega, by go_num, by simpa [P28.undosP] using HBG⟩
      case round =>
        obtain ⟨k, v2, hkg, rfl, HBG2⟩ := hrel
        cases gk with
        | zero =>
          have e2 : (M : Int) ≤ (k : Int) := by omega
          have j2 : decide ((k : Int) < (M : Int)) = false := by simp; omega
          have htk : RS.take k = RS := List.take_of_length_le (by rw [unhide HRN]; omega)
          have hbg := (unhide HBG2).bs
          rw [htk] at hbg
          have hpl : (P28.undosP (ss.map PSt.undo) (ss.map PSt.name) 0 RS).length ≤ 100000000000 := by
            have h1 := undosP_len (ss.map PSt.undo) (ss.map PSt.name) 1000000 RS 0 (unhide HRL)
            have h2 : RS.length * 1000000 ≤ 100000 * 1000000 := Nat.mul_le_mul_right _ (by rw [unhide HRN]; omega)
            omega
          obtain ⟨NL, hNL⟩ : ∃ NL, acc ++ P28.undosP (ss.map PSt.undo) (ss.map PSt.name) 0 RS = NL := ⟨_, rfl⟩
          rw [hNL] at hbg
          have HNL := hide hNL
          have hfl : NL.length ≤ 990000000000 := by rw [← hNL, List.length_append]; omega
          obtain ⟨va5, vc5, rfl⟩ := hbg.nb.own.form
          obtain ⟨kb, kf⟩ := cell1 hbg.nb.box
          have hsort := Sort_any _ _ wr _ hbg.nb.own hfl
          have HSORT := hide hsort
          have HBG3 := hide hbg
          clear hbg hsort hNL hfl htk hpl
          go_wp2_with (go_at_call 162; refine (unhide HSORT).mono ?_; rintro e V2 ⟨v3, rfl, hT2, hb2⟩)
          go_ret
          have hz := (unhide HBG3).size
          refine ⟨_, rfl, ?_, (unhide HBG3).bel.trans (hb2.mono (by omega))⟩
          rw [unhide HACC, unhide HNL]
          exact hT2.base (by omega)

        | succ g2 =>
          have hlt2 : (k : Int) < (M : Int) := by omega
          have hkk : IntKind.i64.wrap ((k : Int) + 1) = (k : Int) + 1 := IntWalk.i64_in _ (by omega)
          obtain ⟨rl, hrk⟩ : ∃ rl, RS[k]? = some rl := nth_of (unhide HRN) (by omega)
          have hrw := (unhide HBG2).gr.own k rl hrk
          obtain ⟨ra, rc, hvk, hrc1, hrc2, hrin⟩ := hrw.slice
          have hrcell := (unhide HBG2).gr.row.cell (i := k) (by rw [unhide HRN]; omega)
          rw [hvk] at hrcell
          have hrlen : rl.length ≤ 1000000 := unhide HRL rl (List.mem_of_getElem? hrk)
          obtain ⟨s1, hg1⟩ := nth_of (unhide HM) (show k < M by omega)
          have hwa := ((unhide HIN).below (by rw [hH]; exact (unhide HBG2).bs.bel)).steps
          obtain ⟨b1, o1, rfl, c1, hi1⟩ := hwa.get hg1
          obtain ⟨⟨c0, c1, c2, c3⟩, _, _⟩ := step_cells c1
          obtain ⟨k0, k1, k2⟩ := (unhide HBG2).bs.cells
          simp only [unhide HM] at k0 k1 k2
          have hud : (ss.map PSt.undo).getD (0 + k) [] = s1.undo := by rw [Nat.zero_add, List.getD_eq_getElem?_getD, List.getElem?_map, hg1]; rfl
          have htake := undosP_take (ss.map PSt.undo) (ss.map PSt.name) RS 0 k rl hrk
          rw [hud] at htake
          have hpl : (acc ++ P28.undosP (ss.map PSt.undo) (ss.map PSt.name) 0 (RS.take k)).length ≤ 200000000000 := by
            have h1 := undosP_len (ss.map PSt.undo) (ss.map PSt.name) 1000000 (RS.take k) 0 (fun l hl => unhide HRL l (List.mem_of_mem_take hl))
            rw [List.length_take, unhide HRN] at h1
            have h2 : min k M * 1000000 ≤ 100000 * 1000000 := Nat.mul_le_mul_right _ (by omega)
            rw [List.length_append]
            omega
          have HTAKE := hide htake
          have HVK := hide hvk
          have HRK := hide hrk
          have HRIN := hide hrin
          have hrxlt : ∀ j x, rl[j]? = some x → x < M := fun j x hx => unhide HLT rl (List.mem_of_getElem? hrk) x (List.mem_of_getElem? hx)
          have HRX := hide hrxlt
          clear hrk hrw hvk hrc1 hrin hg1 hi1 hwa hud htake hrxlt
          obtain ⟨nm1, un1, hun1, hnm1⟩ : ∃ a b, s1.undo = b ∧ s1.name = a := ⟨_, _, rfl, rfl⟩
          rw [hun1] at c2 HTAKE
          clear hun1 hnm1 c0 c1 c3
          obtain ⟨pre, hpre⟩ : ∃ pre, acc ++ P28.undosP (ss.map PSt.undo) (ss.map PSt.name) 0 (RS.take k) = pre := ⟨_, rfl⟩
          rw [hpre] at HBG2 hpl
          have HPRE := hide hpre
          clear hpre
          cases un1 with
          | nil =>
            go_wp2
            go_roundg g2
            case measure => omega
            case rel =>
              refine ⟨k + 1, v2, by omega, by go_num, hide ?_⟩
              rw [unhide HTAKE, ← List.append_assoc, unhide HPRE]
              simpa using unhide HBG2
          | cons uc ur =>
            obtain ⟨NR, hNR⟩ : ∃ NR, rl.length = NR := ⟨_, rfl⟩
            rw [hNR] at hrcell hrlen HVK
            have HNR := hide hNR
            clear hNR
            go_wp2
            go_loopg [76] NR (fun g s76 wx => ∃ (j : Nat) (v : Value), j + g = NR ∧ s76 = .int .i64 j ∧ Hid (BG w wx H bR ⟨nm, tx, some ⟨b1, o1, none⟩, sc, ss⟩ vs RS (pre ++ P28.undoRow (ss.map PSt.undo) (ss.map PSt.name) (rl.take j)) v))
            case atStart => exact ⟨0, v2, by omega, by go_num, by simpa [P28.undoRow] using HBG2⟩
            case round =>
              obtain ⟨j, v3, hjg, rfl, HBG3⟩ := hrel
              clear k0 k1 k2 c2 hrcell
              cases gk with
              | zero =>
                have e3 : (NR : Int) ≤ (j : Int) := by omega
                have j3 : decide ((j : Int) < (NR : Int)) = false := by simp; omega
                have htk : rl.take j = rl := List.take_of_length_le (by rw [unhide HNR]; omega)
                have hbg := unhide HBG3
                rw [htk] at hbg
                have HBG4 := hide hbg
                clear hbg htk HBG3
                go_wp2
                go_roundg g2
                case measure => omega
                case rel =>
                  refine ⟨k + 1, v3, by omega, by go_num, hide ?_⟩
                  rw [unhide HTAKE, ← List.append_assoc, unhide HPRE]
                  simpa using unhide HBG4
              | succ g3 =>
                have hlt3 : (j : Int) < (NR : Int) := by omega
                have hkj : IntKind.i64.wrap ((j : Int) + 1) = (j : Int) + 1 := IntWalk.i64_in _ (by omega)
                obtain ⟨x, hjx⟩ := nth_of (unhide HNR) (show j < NR by omega)
                obtain ⟨ra', rc', e, _, _, hin3⟩ := ((unhide HBG3).gr.own k rl (unhide HRK)).slice
                rw [unhide HVK] at e
                have e1 : ra' = ra := by injection e with e1 _ _; exact e1.symm
                clear e
                subst e1
                obtain ⟨rb, ro, rfl, cj⟩ := hin3 j x hjx
                unfold iv at cj
                have hxM := unhide HRX j x hjx
                obtain ⟨s2, hg2⟩ := nth_of (unhide HM) hxM
                have hwa := ((unhide HIN).below (by rw [hH]; exact (unhide HBG3).bs.bel)).steps
                obtain ⟨b2, o2, eb, c1, hi1⟩ := hwa.get hg2
                injection eb with eb
                injection eb with eb1 eb2
                subst eb1 eb2
                obtain ⟨⟨c0, c1, c2, c3⟩, _, _⟩ := step_cells c1
                obtain ⟨k0, k1, k2⟩ := (unhide HBG3).bs.cells
                simp only [unhide HM] at k0 k1 k2
                have hud : (ss.map PSt.undo).getD x [] = s2.undo := by rw [List.getD_eq_getElem?_getD, List.getElem?_map, hg2]; rfl
                have hnd : (ss.map PSt.name).getD x [] = s2.name := by rw [List.getD_eq_getElem?_getD, List.getElem?_map, hg2]; rfl
                have hut := undoRow_take (ss.map PSt.undo) (ss.map PSt.name) rl j x hjx
                rw [hud, hnd] at hut
                have hlen3 : (pre ++ P28.undoRow (ss.map PSt.undo) (ss.map PSt.name) (rl.take j)).length ≤ 300000000000 := by
                  have h1 := undoRow_len (ss.map PSt.undo) (ss.map PSt.name) (rl.take j)
                  rw [List.length_take, unhide HNR] at h1
                  rw [List.length_append]
                  omega
                obtain ⟨un2, hun2⟩ : ∃ a, s2.undo = a := ⟨_, rfl⟩
                obtain ⟨nm2, hnm2⟩ : ∃ a, s2.name = a := ⟨_, rfl⟩
                rw [hun2] at c2 hut
                rw [hnm2] at c0 hut
                obtain ⟨pre3, hpre3⟩ : ∃ pre3, pre ++ P28.undoRow (ss.map PSt.undo) (ss.map PSt.name) (rl.take j) = pre3 := ⟨_, rfl⟩
                rw [hpre3] at HBG3 hlen3
                have HPRE3 := hide hpre3
                have HUT := hide hut
                clear hjx hin3 hg2 hwa hi1 hud hnd hut hun2 hnm2 c1 c3 hpre3
                go_upto_region 20 with fail
                refine wp_region_tail 15 (by kernel_rfl) (by kernel_rfl) (by kernel_rfl) (by kernel_rfl) (by kernel_rfl) ?_
                simp only [List.take_succ_cons, List.take_zero, List.drop_succ_cons, List.drop_zero]
                repeat (go_big_quiet_step (fail))
                refine wpQuiet_nil ?_
                intro _ hw'
                obtain ⟨nq, hw''⟩ := hw'
                subst hw''
                have hb : ∀ b : Bool, b = un2.isEmpty → (pre3 ++ P28.nt b x 19 nm2) = pre ++ P28.undoRow (ss.map PSt.undo) (ss.map PSt.name) (rl.take (j + 1)) := fun b hb => by rw [hb, unhide HUT, ← List.append_assoc, unhide HPRE3]
                have HB := hide hb
                clear hb
                go_upto_region 21 with (go_at_call 164; refine (BS.note (unhide HNOTE) ((unhide HBG3).bs.drewN nq) _ _ _ nm2 (by omega)).mono ?_; rintro e x4 ⟨rfl, v4, hN4, hG4, hO4⟩)
                have hbg4 := ((unhide HBG3).drewN nq).note hN4 hG4 hO4
                rw [unhide HB _ (by cases un2 <;> rfl)] at hbg4
                have HBG4 := hide hbg4
                clear hbg4 hN4 hG4 hO4
                go_wp2
                go_roundg g3
                case measure => omega
                case rel => exact ⟨j + 1, v4, by omega, by go_num, HBG4⟩


    | succ g' =>
      have hlt : (i : Int) < (M : Int) := by omega
      have hki : IntKind.i64.wrap ((i : Int) + 1) = (i : Int) + 1 := IntWalk.i64_in _ (by omega)
      obtain ⟨s1, hg1⟩ := nth_of (unhide HM) (show i < M by omega)
      have hwa := ((unhide HIN).below (by rw [hH]; exact (unhide HBS).bel)).steps
      obtain ⟨b1, o1, rfl, c1, hi1⟩ := hwa.get hg1
      have hbr : (ss.map PSt.bare)[i]? = some s1.bare := by rw [List.getElem?_map, hg1]; rfl
      have HBR := hide hbr
      have hreal := fun V => Real_any s1 V
      obtain ⟨n1, a1, u1, aa1, ac1, af1, q1, fi1, fa1, li1, ⟨k1, t1, ka1, kc1, ks1, da1, dc1, ds1, l1⟩⟩ := s1
      obtain ⟨⟨c0, c1, c2, c3⟩, ⟨c4, c5, c6, c7⟩, ⟨c8, c9, c10, c11, c12⟩⟩ := step_cells c1
      simp only [PSt.aV, Nd.kind, Nd.text, Nd.kV, Nd.dV, Nd.line, Nd.ka, Nd.kc, Nd.keys, Nd.da, Nd.dc, Nd.kids] at c0 c1 c2 c3 c4 c5 c6 c7 c8 c9 c10 c11 c12
      unfold PSt.real at hreal
      simp only [PSt.val_eqn] at hreal
      obtain ⟨N1, hN1⟩ : ∃ N1, af1.length = N1 := ⟨_, rfl⟩
      obtain ⟨N2, hN2⟩ : ∃ N2, ks1.length = N2 := ⟨_, rfl⟩
      obtain ⟨N3, hN3⟩ : ∃ N3, ds1.length = N3 := ⟨_, rfl⟩
      rw [hN1] at c3 hreal
      rw [hN2] at c10 hreal
      rw [hN3] at c11 hreal
      have hsb : P28.stepB (0 + i) (PSt.bare ⟨n1, a1, u1, aa1, ac1, af1, q1, fi1, fa1, li1, ⟨k1, t1, ka1, kc1, ks1, da1, dc1, ds1, l1⟩⟩) = P28.nt (P28.out1 (P28.meant q1 1) 1 10) i 1 [109, 111, 115, 116] ++ (P28.nt (P28.out1 fi1 0 1000) i 1 [102, 105, 114, 115, 116] ++ (P28.nt (P28.out1 (P28.meant fa1 1) 1 10) i 1 [102, 97, 99, 116, 111, 114] ++ P28.nt (P28.out1 (P28.meant li1 100) 1 10000) i 1 [108, 105, 109, 105, 116])) := by rw [Nat.zero_add]; rfl
      obtain ⟨mq, hmq⟩ : ∃ m, P28.meant q1 1 = m := ⟨_, rfl⟩
      obtain ⟨mf, hmf⟩ : ∃ m, P28.meant fa1 1 = m := ⟨_, rfl⟩
      obtain ⟨ml, hml⟩ : ∃ m, P28.meant li1 100 = m := ⟨_, rfl⟩
      rw [hmq] at hreal hsb
      rw [hmf] at hreal hsb
      rw [hml] at hreal hsb
      obtain ⟨K, hK⟩ : ∃ K, wr.heap.size = K := ⟨_, rfl⟩
      obtain ⟨W1, hW1, hb1, r0, hs1⟩ := new1 wr (.cells #[.string ⟨n1.toArray⟩, .string ⟨a1.toArray⟩, .string ⟨u1.toArray⟩, .slice aa1 N1 ac1, .int .i64 q1, .int .i64 fi1, .int .i64 fa1, .int .i64 li1, .int .u8 k1, .string ⟨t1.toArray⟩, .slice ka1 N2 kc1, .slice da1 N3 dc1, .int .i64 l1] 63) K hK
      have hn1 := (unhide HBS).keep (by rw [hK]; exact hb1)
      have hvK : v.ownBlock ≠ some K := fun e => by have := ((unhide HBS).nb.own.lt e).2; omega
      have hHK := (unhide HBS).size
      rw [hK] at hHK
      have hlen0 : (P28.stepsB 0 ((ss.map PSt.bare).take i)).length ≤ 400002 := by
        have h1 := stepsB_len ((ss.map PSt.bare).take i) 0
        rw [List.length_take] at h1
        omega
      obtain ⟨acc, hacc⟩ : ∃ acc, P28.stepsB 0 ((ss.map PSt.bare).take i) = acc := ⟨_, rfl⟩
      rw [hacc] at hn1 hlen0
      obtain ⟨⟨y0, _⟩, ⟨y1, _⟩, ⟨y2, _⟩, ⟨y3, _⟩, ⟨y4, _⟩, ⟨y5, _⟩, ⟨y6, _⟩, ⟨y7, _⟩, ⟨y8, _⟩, ⟨y9, _⟩, ⟨y10, _⟩, ⟨y11, _⟩, ⟨y12, _⟩⟩ := cell13 r0
      have HACC := hide hacc
      have HSB := hide hsb
      have HN := hide hn1
      have HW1 := hide hW1
      have HR := hide r0
      have HREAL := hide hreal
      clear hg1 hi1 hwa hb1 r0 hW1 hbr hn1 hacc hsb hreal hN1 hN2 hN3 hmq hmf hml
      go_upto_region 7 with fail
      try rw [hK]
      rw [unhide HW1]
      go_upto_region 8 with (go_at_call 166; refine (unhide HREAL _).mono ?_; rintro e w2 ⟨rfl, hb2⟩; have hrK := (hb2.block K (by omega)).trans (unhide HR); obtain ⟨⟨_, f0⟩, ⟨_, f1⟩, ⟨_, f2⟩, ⟨_, f3⟩, ⟨_, f4⟩, ⟨_, f5⟩, ⟨_, f6⟩, ⟨_, f7⟩, ⟨_, f8⟩, ⟨_, f9⟩, ⟨_, f10⟩, ⟨_, f11⟩, ⟨_, f12⟩⟩ := cell13 hrK; have HRK := hide hrK; clear hrK)
      obtain ⟨W3, hW3⟩ : ∃ W3, (((((((((((((w2.setCell ⟨K, 0, none⟩ (.string ⟨n1.toArray⟩)).setCell ⟨K, 1, none⟩ (.string ⟨a1.toArray⟩)).setCell ⟨K, 2, none⟩ (.string ⟨u1.toArray⟩)).setCell ⟨K, 3, none⟩ (.slice aa1 N1 ac1)).setCell ⟨K, 4, none⟩ (.int .i64 mq)).setCell ⟨K, 5, none⟩ (.int .i64 fi1)).setCell ⟨K, 6, none⟩ (.int .i64 mf)).setCell ⟨K, 7, none⟩ (.int .i64 ml)).setCell ⟨K, 8, none⟩ (.int .u8 k1)).setCell ⟨K, 9, none⟩ (.string ⟨t1.toArray⟩)).setCell ⟨K, 10, none⟩ (.slice ka1 N2 kc1)).setCell ⟨K, 11, none⟩ (.slice da1 N3 dc1)).setCell ⟨K, 12, none⟩ (.int .i64 l1)) = W3 := ⟨_, rfl⟩
      rw [hW3]
      have r0 : W3.heap[K]? = some (.cells #[.string ⟨n1.toArray⟩, .string ⟨a1.toArray⟩, .string ⟨u1.toArray⟩, .slice aa1 N1 ac1, .int .i64 mq, .int .i64 fi1, .int .i64 mf, .int .i64 ml, .int .u8 k1, .string ⟨t1.toArray⟩, .slice ka1 N2 kc1, .slice da1 N3 dc1, .int .i64 l1] 63) := by rw [← hW3]; exact set13n (unhide HRK) _ _ _ _ _ _ _ _ _ _ _ _ _
      have hoth : ∀ g, g ≠ K → W3.heap[g]? = w2.heap[g]? := fun g hg => by rw [← hW3]; exact other13n hg _ _ _ _ _ _ _ _ _ _ _ _ _
      have hn2 := (unhide HN).keep hb2
      have hz2 := hb2.size
      have hb3 : Below H w W3 := by
        rw [← hW3]
        have hHH : H ≤ K := by omega
        exact (((((((((((((hn2.bel).setCell (p := ⟨K, 0, none⟩) hHH _).setCell (p := ⟨K, 1, none⟩) hHH _).setCell (p := ⟨K, 2, none⟩) hHH _).setCell (p := ⟨K, 3, none⟩) hHH _).setCell (p := ⟨K, 4, none⟩) hHH _).setCell (p := ⟨K, 5, none⟩) hHH _).setCell (p := ⟨K, 6, none⟩) hHH _).setCell (p := ⟨K, 7, none⟩) hHH _).setCell (p := ⟨K, 8, none⟩) hHH _).setCell (p := ⟨K, 9, none⟩) hHH _).setCell (p := ⟨K, 10, none⟩) hHH _).setCell (p := ⟨K, 11, none⟩) hHH _).setCell (p := ⟨K, 12, none⟩) hHH _
      have hz3 : W3.heap.size = w2.heap.size := by rw [← hW3]; simp
      have hn3 := hn2.other (by omega) hvK hb3 (by omega) hoth
      clear y0 y1 y2 y3 y4 y5 y6 y7 y8 y9 y10 y11 y12 f0 f1 f2 f3 f4 f5 f6 f7 f8 f9 f10 f11 f12 hW3 hoth hb2 hb3 hn2 HRK HN HR
      obtain ⟨_, _, _, _, ⟨y4, _⟩, ⟨y5, _⟩, ⟨y6, _⟩, ⟨y7, _⟩, _⟩ := cell13 r0
      have HR := hide r0
      have HN := hide hn3
      have hK3 : K < W3.heap.size := by omega
      clear r0 hn3
      go_upto_region 9 with (first | (go_at_call 165; refine (within_any _ _ _ _).mono ?_; rintro e w' ⟨rfl, hw⟩; have hw := hw.symm; subst hw) | (go_at_call 164; (try simp only [Bool.not_not]); refine (BS.note (unhide HNOTE) (unhide HN) _ _ _ [109, 111, 115, 116] (Nat.le_trans (hlen0) (by omega))).mono ?_; rintro e x1 ⟨rfl, v1, hN1, hG1, hO1⟩))
      obtain ⟨r1, vK1, sK1⟩ := gr_safe hG1 hO1 (k := K) (show K < W3.heap.size from hK3) (by omega) hvK
      have r0 := r1.trans (show W3.heap[K]? = _ from unhide HR)
      clear HR y4 y5 y6 y7
      obtain ⟨_, _, _, _, ⟨y4, _⟩, ⟨y5, _⟩, ⟨y6, _⟩, ⟨y7, _⟩, _⟩ := cell13 r0
      have HR := hide r0
      have HN1 := hide hN1
      clear r0 r1 hN1 hG1 hO1
      go_upto_region 10 with (first | (go_at_call 165; refine (within_any _ _ _ _).mono ?_; rintro e w' ⟨rfl, hw⟩; have hw := hw.symm; subst hw) | (go_at_call 164; (try simp only [Bool.not_not]); refine (BS.note (unhide HNOTE) (unhide HN1) _ _ _ [102, 105, 114, 115, 116] (Nat.le_trans (app_le (hlen0)) (by omega))).mono ?_; rintro e x2 ⟨rfl, v2, hN2, hG2, hO2⟩))
      obtain ⟨r2, vK2, sK2⟩ := gr_safe hG2 hO2 (k := K) (show K < x1.heap.size from sK1) (by omega) vK1
      have r0 := r2.trans (show x1.heap[K]? = _ from unhide HR)
      clear HR y4 y5 y6 y7
      obtain ⟨_, _, _, _, ⟨y4, _⟩, ⟨y5, _⟩, ⟨y6, _⟩, ⟨y7, _⟩, _⟩ := cell13 r0
      have HR := hide r0
      have HN2 := hide hN2
      clear r0 r2 hN2 hG2 hO2
      go_upto_region 11 with (first | (go_at_call 165; refine (within_any _ _ _ _).mono ?_; rintro e w' ⟨rfl, hw⟩; have hw := hw.symm; subst hw) | (go_at_call 164; (try simp only [Bool.not_not]); refine (BS.note (unhide HNOTE) (unhide HN2) _ _ _ [102, 97, 99, 116, 111, 114] (Nat.le_trans (app_le (app_le (hlen0))) (by omega))).mono ?_; rintro e x3 ⟨rfl, v3, hN3, hG3, hO3⟩))
      obtain ⟨r3, vK3, sK3⟩ := gr_safe hG3 hO3 (k := K) (show K < x2.heap.size from sK2) (by omega) vK2
      have r0 := r3.trans (show x2.heap[K]? = _ from unhide HR)
      clear HR y4 y5 y6 y7
      obtain ⟨_, _, _, _, ⟨y4, _⟩, ⟨y5, _⟩, ⟨y6, _⟩, ⟨y7, _⟩, _⟩ := cell13 r0
      have HR := hide r0
      have HN3 := hide hN3
      clear r0 r3 hN3 hG3 hO3
      go_upto_region 12 with (first | (go_at_call 165; refine (within_any _ _ _ _).mono ?_; rintro e w' ⟨rfl, hw⟩; have hw := hw.symm; subst hw) | (go_at_call 164; (try simp only [Bool.not_not]); refine (BS.note (unhide HNOTE) (unhide HN3) _ _ _ [108, 105, 109, 105, 116] (Nat.le_trans (app_le (app_le (app_le (hlen0)))) (by omega))).mono ?_; rintro e x4 ⟨rfl, v4, hN4, hG4, hO4⟩))
      obtain ⟨r4, vK4, sK4⟩ := gr_safe hG4 hO4 (k := K) (show K < x3.heap.size from sK3) (by omega) vK3
      have r0 := r4.trans (show x3.heap[K]? = _ from unhide HR)
      clear HR y4 y5 y6 y7
      obtain ⟨_, _, _, _, ⟨y4, _⟩, ⟨y5, _⟩, ⟨y6, _⟩, ⟨y7, _⟩, _⟩ := cell13 r0
      have HR := hide r0
      have HN4 := hide hN4
      clear r0 r4 hN4 hG4 hO4
      go_wp2
      go_roundg g'
      case measure => omega
      case rel =>
        refine ⟨i + 1, v4, by omega, by go_num, hide ?_⟩
        have h4 := unhide HN4
        rw [stepsB_take _ 0 i _ (unhide HBR), unhide HACC, unhide HSB]
        simpa [List.append_assoc] using h4

end Go.Proofs.YtefokfbgpfcbkaaGreat
