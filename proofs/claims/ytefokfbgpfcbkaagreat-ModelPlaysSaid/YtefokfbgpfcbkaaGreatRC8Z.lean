/- Lemmas of this claim (a part of its texts, kept as far as the claim reaches them). -/
import Derived.Test.YtefokfbgpfcbkaaGreatRC7Z
namespace Go.Proofs.YtefokfbgpfcbkaaGreat
set_option linter.unusedVariables false
set_option linter.unusedSimpArgs false
open Go.RowKit
structure CkA (W V : World) (S : Nat) (acc : List P28.Note) (v : Value) : Prop where
  own : OwnT V S v acc
  bel : Below S W V
  size : S ≤ V.heap.size
theorem CkA.alloc {W V V' : World} {S : Nat} {acc : List P28.Note} {v : Value} (h : CkA W V S acc v) (hb : Below V.heap.size V V') : CkA W V' S acc v :=
  ⟨h.own.keep (fun g hg => hb.block g (h.own.lt hg).2), h.bel.trans (hb.mono h.size), Nat.le_trans h.size hb.size⟩
theorem CkA.grow {W V V' : World} {S : Nat} {acc acc' : List P28.Note} {v v' : Value} (h : CkA W V S acc v) (ho : OwnT V' S v' acc') (hg : V.grownBy V' v.ownBlock) : CkA W V' S acc' v' :=
  ⟨ho, h.bel.grown hg h.size (fun k hk => (h.own.lt hk).1), Nat.le_trans h.size hg.size⟩
theorem CkB.a {W V : World} {S K : Nat} {ob : Obj} {acc : List P28.Note} {v : Value} (h : CkB W V S K ob acc v) : CkA W V S acc v := ⟨h.own, h.bel, h.size⟩
theorem stepsR_append (ns : List (List UInt8)) : ∀ (a b : List P22.Step) (i : Nat), P28.stepsR ns i (a ++ b) = P28.stepsR ns i a ++ P28.stepsR ns (i + a.length) b
  | [], b, i => by simp [P28.stepsR]
  | s :: a, b, i => by
    have e1 : P28.stepsR ns i ((s :: a) ++ b) = P28.stepN ns i s ++ (P28.afterR ns i s.name [] s.after ++ P28.stepsR ns (i + 1) (a ++ b)) := rfl
    have e2 : P28.stepsR ns i (s :: a) = P28.stepN ns i s ++ (P28.afterR ns i s.name [] s.after ++ P28.stepsR ns (i + 1) a) := rfl
    rw [e1, e2, stepsR_append ns a b (i + 1), List.length_cons, show i + 1 + a.length = i + (a.length + 1) by omega]
    simp only [List.append_assoc]
theorem afterR_append (ns : List (List UInt8)) (i : Nat) (nm : List UInt8) : ∀ (a b seen : List (List UInt8)), P28.afterR ns i nm seen (a ++ b) = P28.afterR ns i nm seen a ++ P28.afterR ns i nm (seen ++ a) b
  | [], b, seen => by simp [P28.afterR]
  | x :: a, b, seen => by
    have e1 : P28.afterR ns i nm seen ((x :: a) ++ b) = P28.nt (P28.idx ns x).isNone i 5 x ++ (P28.nt (decide (x = nm)) i 8 nm ++ (P28.nt (decide (x ∈ seen)) i 6 x ++ P28.afterR ns i nm (seen ++ [x]) (a ++ b))) := rfl
    have e2 : P28.afterR ns i nm seen (x :: a) = P28.nt (P28.idx ns x).isNone i 5 x ++ (P28.nt (decide (x = nm)) i 8 nm ++ (P28.nt (decide (x ∈ seen)) i 6 x ++ P28.afterR ns i nm (seen ++ [x]) a)) := rfl
    rw [e1, e2, afterR_append ns i nm a b]
    simp only [List.append_assoc, List.cons_append, List.nil_append]
theorem afterR_len (ns : List (List UInt8)) (i : Nat) (nm : List UInt8) : ∀ (a seen : List (List UInt8)), (P28.afterR ns i nm seen a).length ≤ a.length * 3
  | [], seen => by simp [P28.afterR]
  | x :: a, seen => by
    unfold P28.afterR
    simp only [List.length_append, List.length_cons]
    have := nt_len (P28.idx ns x).isNone i 5 x
    have := nt_len (decide (x = nm)) i 8 nm
    have := nt_len (decide (x ∈ seen)) i 6 x
    have := afterR_len ns i nm a (seen ++ [x])
    omega
theorem stepNR_len (ns : List (List UInt8)) (i : Nat) (s : P22.Step) : (P28.stepN ns i s).length ≤ 4 := by
  unfold P28.stepN
  simp only [List.length_append]
  have := nt_len (!P28.right s.name) i 18 s.name
  have := nt_len (!P28.right s.action) i 18 s.action
  have := nt_len (!s.undo.isEmpty && !P28.right s.undo) i 18 s.undo
  have := nt_len (decide ((P28.idx ns s.name).getD 0 < i)) i 6 s.name
  omega
theorem stepsR_len (ns : List (List UInt8)) : ∀ (ss : List P22.Step) (i : Nat), (∀ s ∈ ss, s.after.length ≤ 1000) → (P28.stepsR ns i ss).length ≤ ss.length * 3004
  | [], i, h => by simp [P28.stepsR]
  | s :: ss, i, h => by
    unfold P28.stepsR
    simp only [List.length_append, List.length_cons]
    have := stepNR_len ns i s
    have := afterR_len ns i s.name s.after []
    have := h s (by simp)
    have := stepsR_len ns ss (i + 1) (fun s hs => h s (by simp [hs]))
    omega
theorem idx_at {ns : List (List UInt8)} {x : List UInt8} {i : Nat} (h : ns[i]? = some x) : ∃ j, P28.idx ns x = some j := by
  cases hq : P28.idx ns x with
  | some j => exact ⟨j, rfl⟩
  | none => exact absurd (List.mem_of_getElem? h) (P28.idx_none.1 hq)
set_option maxRecDepth 100000 in
set_option maxHeartbeats 16000000 in
theorem RCheck25_any (d : PDef) (w : World) (hin : d.In w) (hl : d.steps.length ≤ 1000) (haf : ∀ s ∈ d.steps, s.after.length ≤ 1000) (hnm : d.name.length ≤ 1000000) (hsl : ∀ s ∈ d.steps, s.name.length ≤ 1000000 ∧ s.action.length ≤ 1000000 ∧ s.undo.length ≤ 1000000) :
    Calls Tryz.prog 112 #[d.val] w fun e w' => ∃ v, e = .returned v ∧ OwnT w' w.heap.size v (P28.sortR (P28.namesR d.bare)) ∧ Below w.heap.size w w' := by
  obtain ⟨H, hH⟩ : ∃ H, w.heap.size = H := ⟨_, rfl⟩
  rw [hH]
  obtain ⟨W1, hW1, hb1, g0, hs1⟩ := new1 w (defO d) H hH
  have hinV : ∀ V, Below (H + 1) W1 V → d.In V := fun V hV => hin.below (by rw [hH]; exact hb1.trans (hV.mono (by omega)))
  have hbx : ∀ V, Below (H + 1) W1 V → V.heap[H]? = some (defO d) := fun V hV => (hV.block H (by omega)).trans g0
  have hix := fun (x : List UInt8) (V : World) (hV : Below (H + 1) W1 V) => RIndex_any d x V (hinV V hV) (by omega)
  have hrt := fun V => RRight_any d.name V hnm
  obtain ⟨ns, hns⟩ : ∃ ns, d.steps.map PSt.name = ns := ⟨_, rfl⟩
  have hng : ∀ (i : Nat) s, d.steps[i]? = some s → ns[i]? = some s.name := fun i s hs => by rw [← hns, List.getElem?_map, hs]; rfl
  have hbp : P28.namesR d.bare = P28.nt (decide (d.steps.length = 0)) (-1) 17 [] ++ (P28.nt (!P28.right d.name) (-1) 18 d.name ++ P28.stepsR ns 0 (d.steps.map PSt.bare)) := by
    unfold P28.namesR
    rw [← hns]
    congr 1
    · congr 1
      cases hq : d.steps <;> simp [PDef.bare, hq]
    · simp [P28.names, PDef.bare, PSt.bare, Function.comp_def]
  rw [hbp]
  rw [hns] at hix
  obtain ⟨nm, tx, sa, sc, ss⟩ := d
  obtain ⟨N, hN⟩ : ∃ N, ss.length = N := ⟨_, rfl⟩
  unfold defO at hW1 hbx g0
  unfold PDef.val at hix ⊢
  simp only [hN] at hW1 hbx g0 hl haf hix hng hsl hrt hnm ⊢
  have hlen : ∀ i, i ≤ N → (P28.stepsR ns 0 ((ss.map PSt.bare).take i)).length ≤ 3004000 := fun i hi => by
    have h1 := stepsR_len ns ((ss.map PSt.bare).take i) 0 (fun s hs => by
      obtain ⟨q, hq, rfl⟩ := List.mem_map.1 (List.mem_of_mem_take hs)
      exact haf q hq)
    have h2 : ((ss.map PSt.bare).take i).length * 3004 ≤ 1000 * 3004 := Nat.mul_le_mul (by rw [List.length_take]; omega) (by omega)
    omega
  obtain ⟨⟨k0, _⟩, ⟨k1, _⟩, ⟨k2, _⟩⟩ := cell3 g0
  have HIN := hide hinV
  have HBX := hide hbx
  have HIX := hide hix
  have HRT0 := hide hrt
  have HW1 := hide hW1
  have HB1 := hide hb1
  have HN := hide hN
  have HNG := hide hng
  have HSLN := hide hsl
  have HAF := hide haf
  have HLEN := hide hlen
  have hCA : CkA W1 W1 (H + 1) [] (.slice none 0 0) := ⟨OwnT.nil _ _, Below.refl _ _, by omega⟩
  have HC0 := hide hCA
  have HL0 : Hid (([] : List P28.Note).length ≤ 0) := hide (Nat.le_refl 0)
  have HNL : Hid (([] : List P28.Note).length = 0) := hide rfl
  clear hinV hbx hix hW1 hb1 hns hN g0 hin haf hbp hng hlen hrt hsl hnm hCA hs1
  go_enter Tryz.func112, Tryz.ntmps112
  go_upto_region 1 with fail
  try rw [hH]
  rw [unhide HW1]
  obtain ⟨q0, hq0⟩ : ∃ q, decide (N = 0) = q := ⟨_, rfl⟩
  have HQ0 := hide hq0
  clear hq0
  go_upto_region 2 with fail
  go_cut [10] from 7 to 24 (fun c wx => c = .bool q0 ∧ Hid (CkA W1 wx (H + 1) [] (.slice none 0 0)))
  case first =>
    rcases Nat.eq_zero_or_pos N with h1 | h1
    · have e : q0 = true := by rw [← unhide HQ0]; simp [h1]
      have hz : ((N : Int) == 0) = true := by simp; omega
      subst e
      have HZ := hide h1
      clear h1
      go_wp2
      go_meet
      exact ⟨rfl, HC0⟩
    · have e : q0 = false := by rw [← unhide HQ0]; simp; omega
      have hz : ((N : Int) == 0) = false := by simp; omega
      subst e
      go_wp2
      go_meet
      exact ⟨rfl, HC0⟩
  case rest =>
  obtain ⟨rfl, HCQ0⟩ := hcut
  obtain ⟨X0q, rfl⟩ : ∃ X, X = wc := ⟨_, rfl⟩
  obtain ⟨acc1, hacc1⟩ : ∃ a, [] ++ P28.nt q0 (-1) 17 [] = a := ⟨_, rfl⟩
  have HA1 := hide hacc1
  clear hacc1
  go_upto_if 10 with fail
  go_cut [3] from 7 to 24 (fun s3 wx => ∃ (v : Value), s3 = v ∧ Hid (CkA W1 wx (H + 1) acc1 v))
  case first =>
    cases q0 with
    | false =>
      go_wp2
      go_meet
      exact ⟨_, rfl, hide (by rw [← unhide HA1]; simpa [P28.nt] using unhide HCQ0)⟩
    | true =>
      obtain ⟨W5, hW5, hb5, g5, hs5⟩ := new1 X0q (.cells #[.int .i64 (-1), .int .i64 17, .string ⟨#[]⟩] 183) X0q.heap.size rfl
      have HC5 := hide ((unhide HCQ0).alloc hb5)
      have HW5 := hide hW5
      have HG5 := hide g5
      have hS5 := (unhide HC5).size
      have hle : 0 ≤ 10 := by have h1 := unhide HNL; have h2 := unhide HL0; omega
      clear hW5 hb5 g5 hs5
      go_wp2_with (rw [unhide HW5]; refine wpList_appNote (p := ((-1), 17, [])) (by rfl) _ _ (by rfl) (by rfl) (unhide HC5).own X0q.heap.size 1 (by rfl) (unhide HG5) 0 (unhide HNL) (by omega) hS5 ?_; intro g6 cap6 w6 hown6 hgrow6 hat6 hlt6; have HC6 := hide ((unhide HC5).grow hown6 hgrow6); clear hown6 hgrow6 hat6 hlt6)
      go_meet
      exact ⟨_, rfl, hide (by rw [← unhide HA1]; exact unhide HC6)⟩
  case rest =>
  obtain ⟨vv, rfl, HC1⟩ := hcut
  obtain ⟨X1, rfl⟩ : ∃ X, X = wc := ⟨_, rfl⟩
  have HL1 : Hid (acc1.length ≤ 10 + 1) := hide (by have := unhide HL0; have := nt_len q0 (-1) 17 []; rw [← unhide HA1, List.length_append]; omega)
  obtain ⟨va1, vc1, hv⟩ := (unhide HC1).own.form
  obtain ⟨NL1, hNL⟩ : ∃ NL, acc1.length = NL := ⟨_, rfl⟩
  rw [hNL] at hv
  subst hv
  have HNL1 := hide hNL
  clear hNL HCQ0 HC0 HL0 HNL
  obtain ⟨⟨k0, _⟩, ⟨k1, _⟩, ⟨k2, _⟩⟩ := cell3 (unhide HBX X1 (unhide HC1).bel)
  obtain ⟨q1, hq1⟩ : ∃ q, (!P28.right nm) = q := ⟨_, rfl⟩
  have HQ1 := hide hq1
  clear hq1
  go_upto_region 4 with fail
  go_cut [18] from 7 to 24 (fun c wx => c = .bool q1 ∧ Hid (CkA W1 wx (H + 1) acc1 (.slice va1 NL1 vc1)))
  case first =>
    go_wp2_with (go_at_call 88; refine (unhide HRT0 _).mono ?_; rintro e w4 ⟨rfl, hw⟩; have hw := hw.symm; subst hw)
    go_meet
    exact ⟨by rw [← unhide HQ1], HC1⟩
  case rest =>
  obtain ⟨rfl, HCQ1⟩ := hcut
  obtain ⟨X1q, rfl⟩ : ∃ X, X = wc := ⟨_, rfl⟩
  obtain ⟨acc2, hacc2⟩ : ∃ a, acc1 ++ P28.nt q1 (-1) 18 nm = a := ⟨_, rfl⟩
  have HA2 := hide hacc2
  clear hacc2
  go_upto_if 18 with fail
  go_cut [3] from 7 to 24 (fun s3 wx => ∃ (v : Value), s3 = v ∧ Hid (CkA W1 wx (H + 1) acc2 v))
  case first =>
    cases q1 with
    | false =>
      go_wp2
      go_meet
      exact ⟨_, rfl, hide (by rw [← unhide HA2]; simpa [P28.nt] using unhide HCQ1)⟩
    | true =>
      obtain ⟨W5, hW5, hb5, g5, hs5⟩ := new1 X1q (.cells #[.int .i64 (-1), .int .i64 18, .string ⟨nm.toArray⟩] 183) X1q.heap.size rfl
      have HC5 := hide ((unhide HCQ1).alloc hb5)
      have HW5 := hide hW5
      have HG5 := hide g5
      have hS5 := (unhide HC5).size
      have hle : NL1 ≤ 11 := by have h1 := unhide HNL1; have h2 := unhide HL1; omega
      clear k0 k1 k2
      obtain ⟨⟨k0, _⟩, ⟨k1, _⟩, ⟨k2, _⟩⟩ := cell3 (unhide HBX X1q (unhide HCQ1).bel)
      clear hW5 hb5 g5 hs5
      go_wp2_with (rw [unhide HW5]; refine wpList_appNote (p := ((-1), 18, nm)) (by rfl) _ _ (by rfl) (by rfl) (unhide HC5).own X1q.heap.size 1 (by rfl) (unhide HG5) NL1 (unhide HNL1) (by omega) hS5 ?_; intro g6 cap6 w6 hown6 hgrow6 hat6 hlt6; have HC6 := hide ((unhide HC5).grow hown6 hgrow6); clear hown6 hgrow6 hat6 hlt6)
      go_meet
      exact ⟨_, rfl, hide (by rw [← unhide HA2]; exact unhide HC6)⟩
  case rest =>
  obtain ⟨vv, rfl, HC2⟩ := hcut
  obtain ⟨X2, rfl⟩ : ∃ X, X = wc := ⟨_, rfl⟩
  have HL2 : Hid (acc2.length ≤ 11 + 1) := hide (by have := unhide HL1; have := nt_len q1 (-1) 18 nm; rw [← unhide HA2, List.length_append]; omega)
  obtain ⟨va2, vc2, hv⟩ := (unhide HC2).own.form
  obtain ⟨NL2, hNL⟩ : ∃ NL, acc2.length = NL := ⟨_, rfl⟩
  rw [hNL] at hv
  subst hv
  have HNL2 := hide hNL
  clear hNL HCQ1 HC1 HL1 HNL1
  clear k0 k1 k2
  go_wp2
  go_loopg [3, 4] N (fun g s3 s4 wx => ∃ (i : Nat) (v : Value), i + g = N ∧ s4 = .int .i64 i ∧ s3 = v ∧ Hid (CkA W1 wx (H + 1) (acc2 ++ P28.stepsR ns 0 ((ss.map PSt.bare).take i)) v))
  case atStart => exact ⟨0, _, by omega, by go_num, rfl, hide (by simpa [P28.stepsR] using unhide HC2)⟩
  case round =>
    obtain ⟨i, v, hig, rfl, rfl, HO⟩ := hrel
    have hbw := (unhide HO).bel
    obtain ⟨⟨k0, _⟩, ⟨k1, _⟩, ⟨k2, _⟩⟩ := cell3 (unhide HBX wr hbw)
    obtain ⟨acc10, hacc⟩ : ∃ acc, acc2 ++ P28.stepsR ns 0 ((ss.map PSt.bare).take i) = acc := ⟨_, rfl⟩
    have hal : acc10.length ≤ 3004020 := by
      have h1 := unhide HLEN i (by omega)
      have h2 := unhide HL2
      rw [← hacc, List.length_append]
      omega
    have ho := unhide HO
    rw [hacc] at ho
    obtain ⟨va10, vc10, rfl⟩ := ho.own.form
    clear HC2 HO
    cases gk with
    | zero =>
      have e1 : (N : Int) ≤ (i : Int) := by omega
      have j1 : decide ((i : Int) < (N : Int)) = false := by simp; omega
      have hfin : P28.nt (decide (N = 0)) (-1) 17 [] ++ (P28.nt (!P28.right nm) (-1) 18 nm ++ P28.stepsR ns 0 (ss.map PSt.bare)) = acc10 := by
        rw [← hacc, ← unhide HA2, ← unhide HA1, unhide HQ0, unhide HQ1, List.nil_append, List.append_assoc, List.take_of_length_le (by rw [List.length_map, unhide HN]; omega)]
      have hsort := RSort_any acc10 _ wr (H + 1) ho.own (by omega)
      have HFIN := hide hfin
      have HSORT := hide hsort
      have HSZ := hide ho.size
      clear hsort hfin ho hacc hal
      go_wp2_with (go_at_call 115; refine (unhide HSORT).mono ?_; rintro e w3 ⟨v3, rfl, hT3, hb3⟩)
      go_ret
      have hz := unhide HSZ
      exact ⟨_, rfl, by rw [unhide HFIN]; exact hT3.base (by omega), ((unhide HB1).trans (hbw.mono (by omega))).trans (hb3.mono (by omega))⟩
    | succ g' =>
      have hlt : (i : Int) < (N : Int) := by omega
      have hki : IntKind.i64.wrap ((i : Int) + 1) = (i : Int) + 1 := IntWalk.i64_in _ (by omega)
      obtain ⟨s1, hs1⟩ := nth_of (unhide HN) (show i < N by omega)
      obtain ⟨⟨b1, o1, hsa, hat⟩, _⟩ := (unhide HIN wr hbw).steps i s1 hs1
      simp only at hsa
      subst hsa
      have hmem := List.mem_of_getElem? hs1
      obtain ⟨hl1, hl2, hl3⟩ := unhide HSLN s1 hmem
      have haf1 := unhide HAF s1 hmem
      have hni := unhide HNG i s1 hs1
      have hkeys : ∀ V, Below (H + 1) W1 V → InS V s1.aa s1.after ∧ s1.after.length ≤ s1.ac := fun V hV => by
        obtain ⟨_, hsin⟩ := (unhide HIN V hV).steps i s1 hs1
        exact ⟨hsin.keys, hsin.len⟩
      have htk1 : acc2 ++ P28.stepsR ns 0 ((ss.map PSt.bare).take (i + 1)) = acc10 ++ (P28.stepN ns i s1.bare ++ P28.afterR ns i s1.name [] s1.after) := by
        rw [List.take_add_one, List.getElem?_map, hs1, Option.map_some, Option.toList_some, stepsR_append, ← hacc, List.length_take, List.length_map, unhide HN, Nat.min_eq_left (by omega), Nat.zero_add]
        simp [P28.stepsR, PSt.bare]
      obtain ⟨n1, a1, u1, aa1, ac1, af1, q1, fi1, fa1, li1, ⟨kd1, t1, ka1, kc1, ks1, da1, dc1, ds1, l1⟩⟩ := s1
      obtain ⟨⟨c0, c1, c2, c3⟩, ⟨c4, c5, c6, c7⟩, ⟨c8, c9, c10, c11, c12⟩⟩ := step_cells hat
      simp only [PSt.aV, Nd.kind, Nd.text, Nd.kV, Nd.dV, Nd.line, Nd.ka, Nd.kc, Nd.keys, Nd.da, Nd.dc, Nd.kids] at c0 c1 c2 c3 c4 c5 c6 c7 c8 c9 c10 c11 c12
      simp only at hl1 hl2 hl3 haf1 hni hkeys
      obtain ⟨j0, hj0⟩ := idx_at hni
      have hsb : P28.stepN ns i (PSt.bare ⟨n1, a1, u1, aa1, ac1, af1, q1, fi1, fa1, li1, ⟨kd1, t1, ka1, kc1, ks1, da1, dc1, ds1, l1⟩⟩) = P28.nt (!P28.right n1) i 18 n1 ++ (P28.nt (!P28.right a1) i 18 a1 ++ (P28.nt (!u1.isEmpty && !P28.right u1) i 18 u1 ++ P28.nt (decide ((P28.idx ns n1).getD 0 < i)) i 6 n1)) := rfl
      rw [hsb, hj0, Option.getD_some] at htk1
      simp only at htk1
      have hixn := fun V hV => unhide HIX n1 V hV
      rw [hj0] at hixn
      have hrn := fun V => RRight_any n1 V hl1
      have hra := fun V => RRight_any a1 V hl2
      have hru := fun V => RRight_any u1 V hl3
      obtain ⟨N1, hN1⟩ : ∃ N1, af1.length = N1 := ⟨_, rfl⟩
      obtain ⟨N2, hN2⟩ : ∃ N2, ks1.length = N2 := ⟨_, rfl⟩
      obtain ⟨N3, hN3⟩ : ∃ N3, ds1.length = N3 := ⟨_, rfl⟩
      rw [hN1] at c3 haf1
      simp only [hN1] at hkeys
      rw [hN2] at c10
      rw [hN3] at c11
      have HTK := hide htk1
      have HKEYS := hide hkeys
      have HN1 := hide hN1
      have HRN := hide hrn
      have HRA := hide hra
      have HRU := hide hru
      have HIXN := hide hixn
      obtain ⟨NL10, hNL⟩ : ∃ NL, acc10.length = NL := ⟨_, rfl⟩
      rw [hNL]
      rw [hNL] at ho
      have HNL10 := hide hNL
      have HL10 : Hid (acc10.length ≤ 3004020) := hide hal
      obtain ⟨K, hK⟩ : ∃ K, wr.heap.size = K := ⟨_, rfl⟩
      obtain ⟨X10, hX0, hb4, g4, hs4⟩ := new1 wr (.cells #[.string ⟨n1.toArray⟩, .string ⟨a1.toArray⟩, .string ⟨u1.toArray⟩, .slice aa1 N1 ac1, .int .i64 q1, .int .i64 fi1, .int .i64 fa1, .int .i64 li1, .int .u8 kd1, .string ⟨t1.toArray⟩, .slice ka1 N2 kc1, .slice da1 N3 dc1, .int .i64 l1] 63) K hK
      have hHK : H + 1 ≤ K := by rw [← hK]; exact ho.size
      have HC10 : Hid (CkB W1 X10 (H + 1) K (.cells #[.string ⟨n1.toArray⟩, .string ⟨a1.toArray⟩, .string ⟨u1.toArray⟩, .slice aa1 N1 ac1, .int .i64 q1, .int .i64 fi1, .int .i64 fa1, .int .i64 li1, .int .u8 kd1, .string ⟨t1.toArray⟩, .slice ka1 N2 kc1, .slice da1 N3 dc1, .int .i64 l1] 63) acc10 (.slice va10 NL10 vc10)) := hide
        ⟨ho.own.keep (fun g hg => hb4.block g (by rw [← hK]; exact (ho.own.lt hg).2)), ho.bel.trans (hb4.mono hHK), g4, fun e => by have := (ho.own.lt e).2; omega, hHK⟩
      have HX0 := hide hX0
      clear htk1 hsb hat hacc ho hN1 hN2 hN3 hs1 hNL hbw hmem hl1 hl2 hl3 hni hkeys hj0 hixn hrn hra hru hX0 hb4 g4 hs4 hal
      go_upto_region 10 with fail
      try rw [hK]
      rw [unhide HX0]
      clear c0 c1 c2 c3 c4 c5 c6 c7 c8 c9 c10 c11 c12 k0 k2 HX0
      obtain ⟨p10, hp10⟩ : ∃ q, (!P28.right n1) = q := ⟨_, rfl⟩
      have HQ10 := hide hp10
      clear hp10
      go_upto_region 10 with fail
      go_cut [40] from 25 to 147 (fun c wx => c = .bool p10 ∧ Hid (CkB W1 wx (H + 1) K (.cells #[.string ⟨n1.toArray⟩, .string ⟨a1.toArray⟩, .string ⟨u1.toArray⟩, .slice aa1 N1 ac1, .int .i64 q1, .int .i64 fi1, .int .i64 fa1, .int .i64 li1, .int .u8 kd1, .string ⟨t1.toArray⟩, .slice ka1 N2 kc1, .slice da1 N3 dc1, .int .i64 l1] 63) acc10 (.slice va10 NL10 vc10)))
      case first =>
        have y0 := cellO (o := 0) (unhide HC10).box rfl
        go_wp2_with (go_at_call 88; refine (unhide HRN _).mono ?_; rintro e w4 ⟨rfl, hw⟩; have hw := hw.symm; subst hw)
        go_meet
        exact ⟨by rw [← unhide HQ10], HC10⟩
      case rest =>
      obtain ⟨rfl, HCQ10⟩ := hcut
      obtain ⟨X10q, rfl⟩ : ∃ X, X = wc := ⟨_, rfl⟩
      obtain ⟨acc11, hacc11⟩ : ∃ a, acc10 ++ P28.nt p10 i 18 n1 = a := ⟨_, rfl⟩
      have HA11 := hide hacc11
      clear hacc11
      go_upto_if 40 with fail
      go_cut [3] from 25 to 147 (fun s3 wx => ∃ (v : Value), s3 = v ∧ Hid (CkB W1 wx (H + 1) K (.cells #[.string ⟨n1.toArray⟩, .string ⟨a1.toArray⟩, .string ⟨u1.toArray⟩, .slice aa1 N1 ac1, .int .i64 q1, .int .i64 fi1, .int .i64 fa1, .int .i64 li1, .int .u8 kd1, .string ⟨t1.toArray⟩, .slice ka1 N2 kc1, .slice da1 N3 dc1, .int .i64 l1] 63) acc11 v))
      case first =>
        cases p10 with
        | false =>
          go_wp2
          go_meet
          exact ⟨_, rfl, hide (by rw [← unhide HA11]; simpa [P28.nt] using unhide HCQ10)⟩
        | true =>
          obtain ⟨W5, hW5, hb5, g5, hs5⟩ := new1 X10q (.cells #[.int .i64 i, .int .i64 18, .string ⟨n1.toArray⟩] 183) X10q.heap.size rfl
          have HC5 := hide ((unhide HCQ10).alloc hb5)
          have HW5 := hide hW5
          have HG5 := hide g5
          have hS5 := (unhide HC5).size
          have hle : NL10 ≤ 3004020 := by have h1 := unhide HNL10; have h2 := unhide HL10; omega
          have y0 := cellO (o := 0) (unhide HCQ10).box rfl
          clear hW5 hb5 g5 hs5
          go_wp2_with (rw [unhide HW5]; refine wpList_appNote (p := (i, 18, n1)) (by rfl) _ _ (by rfl) (by rfl) (unhide HC5).own X10q.heap.size 1 (by rfl) (unhide HG5) NL10 (unhide HNL10) (by omega) hS5 ?_; intro g6 cap6 w6 hown6 hgrow6 hat6 hlt6; have HC6 := hide ((unhide HC5).grow hown6 hgrow6 rfl hat6); clear hown6 hgrow6 hat6 hlt6)
          go_meet
          exact ⟨_, rfl, hide (by rw [← unhide HA11]; exact unhide HC6)⟩
      case rest =>
      obtain ⟨vv, rfl, HC11⟩ := hcut
      obtain ⟨X11, rfl⟩ : ∃ X, X = wc := ⟨_, rfl⟩
      have HL11 : Hid (acc11.length ≤ 3004020 + 1) := hide (by have := unhide HL10; have := nt_len p10 i 18 n1; rw [← unhide HA11, List.length_append]; omega)
      obtain ⟨va11, vc11, hv⟩ := (unhide HC11).own.form
      obtain ⟨NL11, hNL⟩ : ∃ NL, acc11.length = NL := ⟨_, rfl⟩
      rw [hNL] at hv
      subst hv
      have HNL11 := hide hNL
      clear hNL HCQ10 HC10 HL10 HNL10
      obtain ⟨p11, hp11⟩ : ∃ q, (!P28.right a1) = q := ⟨_, rfl⟩
      have HQ11 := hide hp11
      clear hp11
      go_upto_region 12 with fail
      go_cut [51] from 25 to 147 (fun c wx => c = .bool p11 ∧ Hid (CkB W1 wx (H + 1) K (.cells #[.string ⟨n1.toArray⟩, .string ⟨a1.toArray⟩, .string ⟨u1.toArray⟩, .slice aa1 N1 ac1, .int .i64 q1, .int .i64 fi1, .int .i64 fa1, .int .i64 li1, .int .u8 kd1, .string ⟨t1.toArray⟩, .slice ka1 N2 kc1, .slice da1 N3 dc1, .int .i64 l1] 63) acc11 (.slice va11 NL11 vc11)))
      case first =>
        have y1 := cellO (o := 1) (unhide HC11).box rfl
        go_wp2_with (go_at_call 88; refine (unhide HRA _).mono ?_; rintro e w4 ⟨rfl, hw⟩; have hw := hw.symm; subst hw)
        go_meet
        exact ⟨by rw [← unhide HQ11], HC11⟩
      case rest =>
      obtain ⟨rfl, HCQ11⟩ := hcut
      obtain ⟨X11q, rfl⟩ : ∃ X, X = wc := ⟨_, rfl⟩
      obtain ⟨acc12, hacc12⟩ : ∃ a, acc11 ++ P28.nt p11 i 18 a1 = a := ⟨_, rfl⟩
      have HA12 := hide hacc12
      clear hacc12
      go_upto_if 51 with fail
      go_cut [3] from 25 to 147 (fun s3 wx => ∃ (v : Value), s3 = v ∧ Hid (CkB W1 wx (H + 1) K (.cells #[.string ⟨n1.toArray⟩, .string ⟨a1.toArray⟩, .string ⟨u1.toArray⟩, .slice aa1 N1 ac1, .int .i64 q1, .int .i64 fi1, .int .i64 fa1, .int .i64 li1, .int .u8 kd1, .string ⟨t1.toArray⟩, .slice ka1 N2 kc1, .slice da1 N3 dc1, .int .i64 l1] 63) acc12 v))
      case first =>
        cases p11 with
        | false =>
          go_wp2
          go_meet
          exact ⟨_, rfl, hide (by rw [← unhide HA12]; simpa [P28.nt] using unhide HCQ11)⟩
        | true =>
          obtain ⟨W5, hW5, hb5, g5, hs5⟩ := new1 X11q (.cells #[.int .i64 i, .int .i64 18, .string ⟨a1.toArray⟩] 183) X11q.heap.size rfl
          have HC5 := hide ((unhide HCQ11).alloc hb5)
          have HW5 := hide hW5
          have HG5 := hide g5
          have hS5 := (unhide HC5).size
          have hle : NL11 ≤ 3004021 := by have h1 := unhide HNL11; have h2 := unhide HL11; omega
          have y1 := cellO (o := 1) (unhide HCQ11).box rfl
          clear hW5 hb5 g5 hs5
          go_wp2_with (rw [unhide HW5]; refine wpList_appNote (p := (i, 18, a1)) (by rfl) _ _ (by rfl) (by rfl) (unhide HC5).own X11q.heap.size 1 (by rfl) (unhide HG5) NL11 (unhide HNL11) (by omega) hS5 ?_; intro g6 cap6 w6 hown6 hgrow6 hat6 hlt6; have HC6 := hide ((unhide HC5).grow hown6 hgrow6 rfl hat6); clear hown6 hgrow6 hat6 hlt6)
          go_meet
          exact ⟨_, rfl, hide (by rw [← unhide HA12]; exact unhide HC6)⟩
      case rest =>
      obtain ⟨vv, rfl, HC12⟩ := hcut
      obtain ⟨X12, rfl⟩ : ∃ X, X = wc := ⟨_, rfl⟩
      have HL12 : Hid (acc12.length ≤ 3004021 + 1) := hide (by have := unhide HL11; have := nt_len p11 i 18 a1; rw [← unhide HA12, List.length_append]; omega)
      obtain ⟨va12, vc12, hv⟩ := (unhide HC12).own.form
      obtain ⟨NL12, hNL⟩ : ∃ NL, acc12.length = NL := ⟨_, rfl⟩
      rw [hNL] at hv
      subst hv
      have HNL12 := hide hNL
      clear hNL HCQ11 HC11 HL11 HNL11
      obtain ⟨p12, hp12⟩ : ∃ q, (!u1.isEmpty && !P28.right u1) = q := ⟨_, rfl⟩
      have HQ12 := hide hp12
      clear hp12
      go_upto_region 14 with fail
      go_cut [67] from 25 to 147 (fun c wx => c = .bool p12 ∧ Hid (CkB W1 wx (H + 1) K (.cells #[.string ⟨n1.toArray⟩, .string ⟨a1.toArray⟩, .string ⟨u1.toArray⟩, .slice aa1 N1 ac1, .int .i64 q1, .int .i64 fi1, .int .i64 fa1, .int .i64 li1, .int .u8 kd1, .string ⟨t1.toArray⟩, .slice ka1 N2 kc1, .slice da1 N3 dc1, .int .i64 l1] 63) acc12 (.slice va12 NL12 vc12)))
      case first =>
        have y2 := cellO (o := 2) (unhide HC12).box rfl
        cases u1 with
        | nil =>
          have e : p12 = false := by rw [← unhide HQ12]; rfl
          subst e
          go_wp2
          go_meet
          exact ⟨rfl, HC12⟩
        | cons uc0 ur0 =>
          go_wp2_with (go_at_call 88; refine (unhide HRU _).mono ?_; rintro e w4 ⟨rfl, hw⟩; have hw := hw.symm; subst hw)
          go_meet
          exact ⟨by rw [← unhide HQ12]; simp, HC12⟩
      case rest =>
      obtain ⟨rfl, HCQ12⟩ := hcut
      obtain ⟨X12q, rfl⟩ : ∃ X, X = wc := ⟨_, rfl⟩
      obtain ⟨acc13, hacc13⟩ : ∃ a, acc12 ++ P28.nt p12 i 18 u1 = a := ⟨_, rfl⟩
      have HA13 := hide hacc13
      clear hacc13
      go_upto_if 67 with fail
      go_cut [3] from 25 to 147 (fun s3 wx => ∃ (v : Value), s3 = v ∧ Hid (CkB W1 wx (H + 1) K (.cells #[.string ⟨n1.toArray⟩, .string ⟨a1.toArray⟩, .string ⟨u1.toArray⟩, .slice aa1 N1 ac1, .int .i64 q1, .int .i64 fi1, .int .i64 fa1, .int .i64 li1, .int .u8 kd1, .string ⟨t1.toArray⟩, .slice ka1 N2 kc1, .slice da1 N3 dc1, .int .i64 l1] 63) acc13 v))
      case first =>
        cases p12 with
        | false =>
          go_wp2
          go_meet
          exact ⟨_, rfl, hide (by rw [← unhide HA13]; simpa [P28.nt] using unhide HCQ12)⟩
        | true =>
          obtain ⟨W5, hW5, hb5, g5, hs5⟩ := new1 X12q (.cells #[.int .i64 i, .int .i64 18, .string ⟨u1.toArray⟩] 183) X12q.heap.size rfl
          have HC5 := hide ((unhide HCQ12).alloc hb5)
          have HW5 := hide hW5
          have HG5 := hide g5
          have hS5 := (unhide HC5).size
          have hle : NL12 ≤ 3004022 := by have h1 := unhide HNL12; have h2 := unhide HL12; omega
          have y2 := cellO (o := 2) (unhide HCQ12).box rfl
          clear hW5 hb5 g5 hs5
          go_wp2_with (rw [unhide HW5]; refine wpList_appNote (p := (i, 18, u1)) (by rfl) _ _ (by rfl) (by rfl) (unhide HC5).own X12q.heap.size 1 (by rfl) (unhide HG5) NL12 (unhide HNL12) (by omega) hS5 ?_; intro g6 cap6 w6 hown6 hgrow6 hat6 hlt6; have HC6 := hide ((unhide HC5).grow hown6 hgrow6 rfl hat6); clear hown6 hgrow6 hat6 hlt6)
          go_meet
          exact ⟨_, rfl, hide (by rw [← unhide HA13]; exact unhide HC6)⟩
      case rest =>
      obtain ⟨vv, rfl, HC13⟩ := hcut
      obtain ⟨X13, rfl⟩ : ∃ X, X = wc := ⟨_, rfl⟩
      have HL13 : Hid (acc13.length ≤ 3004022 + 1) := hide (by have := unhide HL12; have := nt_len p12 i 18 u1; rw [← unhide HA13, List.length_append]; omega)
      obtain ⟨va13, vc13, hv⟩ := (unhide HC13).own.form
      obtain ⟨NL13, hNL⟩ : ∃ NL, acc13.length = NL := ⟨_, rfl⟩
      rw [hNL] at hv
      subst hv
      have HNL13 := hide hNL
      clear hNL HCQ12 HC12 HL12 HNL12
      obtain ⟨p13, hp13⟩ : ∃ q, (decide (j0 < i)) = q := ⟨_, rfl⟩
      have HQ13 := hide hp13
      clear hp13
      go_upto_region 16 with fail
      go_cut [80] from 25 to 147 (fun c wx => c = .bool p13 ∧ Hid (CkB W1 wx (H + 1) K (.cells #[.string ⟨n1.toArray⟩, .string ⟨a1.toArray⟩, .string ⟨u1.toArray⟩, .slice aa1 N1 ac1, .int .i64 q1, .int .i64 fi1, .int .i64 fa1, .int .i64 li1, .int .u8 kd1, .string ⟨t1.toArray⟩, .slice ka1 N2 kc1, .slice da1 N3 dc1, .int .i64 l1] 63) acc13 (.slice va13 NL13 vc13)))
      case first =>
        have y0 := cellO (o := 0) (unhide HC13).box rfl
        obtain ⟨⟨k0, _⟩, ⟨k1, _⟩, ⟨k2, _⟩⟩ := cell3 (unhide HBX X13 (unhide HC13).bel)
        have e0 : toV (some j0) = (j0 : Int) := rfl
        rcases Nat.lt_or_ge j0 i with h1 | h1
        · have e : p13 = true := by rw [← unhide HQ13]; simp [h1]
          have h2 : (j0 : Int) < (i : Int) := by omega
          subst e
          go_wp2_with (go_at_call 118; refine (unhide HIXN X13 (unhide HC13).bel).mono ?_; rintro e w4 ⟨rfl, hb4⟩)
          go_meet
          exact ⟨rfl, hide ((unhide HC13).alloc hb4)⟩
        · have e : p13 = false := by rw [← unhide HQ13]; simp; omega
          have h2 : ¬ j0 < i := by omega
          have j2 : decide ((j0 : Int) < (i : Int)) = false := by simp; omega
          subst e
          go_wp2_with (go_at_call 118; refine (unhide HIXN X13 (unhide HC13).bel).mono ?_; rintro e w4 ⟨rfl, hb4⟩)
          go_meet
          exact ⟨rfl, hide ((unhide HC13).alloc hb4)⟩
      case rest =>
      obtain ⟨rfl, HCQ13⟩ := hcut
      obtain ⟨X13q, rfl⟩ : ∃ X, X = wc := ⟨_, rfl⟩
      obtain ⟨acc14, hacc14⟩ : ∃ a, acc13 ++ P28.nt p13 i 6 n1 = a := ⟨_, rfl⟩
      have HA14 := hide hacc14
      clear hacc14
      go_upto_if 80 with fail
      go_cut [3] from 25 to 147 (fun s3 wx => ∃ (v : Value), s3 = v ∧ Hid (CkB W1 wx (H + 1) K (.cells #[.string ⟨n1.toArray⟩, .string ⟨a1.toArray⟩, .string ⟨u1.toArray⟩, .slice aa1 N1 ac1, .int .i64 q1, .int .i64 fi1, .int .i64 fa1, .int .i64 li1, .int .u8 kd1, .string ⟨t1.toArray⟩, .slice ka1 N2 kc1, .slice da1 N3 dc1, .int .i64 l1] 63) acc14 v))
      case first =>
        cases p13 with
        | false =>
          go_wp2
          go_meet
          exact ⟨_, rfl, hide (by rw [← unhide HA14]; simpa [P28.nt] using unhide HCQ13)⟩
        | true =>
          obtain ⟨W5, hW5, hb5, g5, hs5⟩ := new1 X13q (.cells #[.int .i64 i, .int .i64 6, .string ⟨n1.toArray⟩] 183) X13q.heap.size rfl
          have HC5 := hide ((unhide HCQ13).alloc hb5)
          have HW5 := hide hW5
          have HG5 := hide g5
          have hS5 := (unhide HC5).size
          have hle : NL13 ≤ 3004023 := by have h1 := unhide HNL13; have h2 := unhide HL13; omega
          have y0 := cellO (o := 0) (unhide HCQ13).box rfl
          clear hW5 hb5 g5 hs5
          go_wp2_with (rw [unhide HW5]; refine wpList_appNote (p := (i, 6, n1)) (by rfl) _ _ (by rfl) (by rfl) (unhide HC5).own X13q.heap.size 1 (by rfl) (unhide HG5) NL13 (unhide HNL13) (by omega) hS5 ?_; intro g6 cap6 w6 hown6 hgrow6 hat6 hlt6; have HC6 := hide ((unhide HC5).grow hown6 hgrow6 rfl hat6); clear hown6 hgrow6 hat6 hlt6)
          go_meet
          exact ⟨_, rfl, hide (by rw [← unhide HA14]; exact unhide HC6)⟩
      case rest =>
      obtain ⟨vv, rfl, HC14⟩ := hcut
      obtain ⟨X14, rfl⟩ : ∃ X, X = wc := ⟨_, rfl⟩
      have HL14 : Hid (acc14.length ≤ 3004023 + 1) := hide (by have := unhide HL13; have := nt_len p13 i 6 n1; rw [← unhide HA14, List.length_append]; omega)
      obtain ⟨va14, vc14, hv⟩ := (unhide HC14).own.form
      obtain ⟨NL14, hNL⟩ : ∃ NL, acc14.length = NL := ⟨_, rfl⟩
      rw [hNL] at hv
      subst hv
      have HNL14 := hide hNL
      clear hNL HCQ13 HC13 HL13 HNL13
      have HEND : Hid (acc2 ++ P28.stepsR ns 0 ((ss.map PSt.bare).take (i + 1)) = acc14 ++ P28.afterR ns i n1 [] af1) := hide (by
        rw [unhide HTK, ← unhide HA14, ← unhide HA13, ← unhide HA12, ← unhide HA11, unhide HQ10, unhide HQ11, unhide HQ12, unhide HQ13]
        simp only [List.append_assoc])
      clear HTK HA11 HA12 HA13 HA14 HQ10 HQ11 HQ12 HQ13 HRN HRA HRU HIXN k1
      have y3 := cellO (o := 3) (unhide HC14).box rfl
      go_wp2
      go_loopg [3, 6] N1 (fun g s3 s6 wx => ∃ (k : Nat) (v : Value) (ac : List P28.Note), k + g = N1 ∧ s6 = .int .i64 k ∧ s3 = v ∧ Hid (acc14 ++ P28.afterR ns i n1 [] (af1.take k) = ac) ∧ Hid (ac.length ≤ 3004030 + k * 3) ∧ Hid (CkB W1 wx (H + 1) K (.cells #[.string ⟨n1.toArray⟩, .string ⟨a1.toArray⟩, .string ⟨u1.toArray⟩, .slice aa1 N1 ac1, .int .i64 q1, .int .i64 fi1, .int .i64 fa1, .int .i64 li1, .int .u8 kd1, .string ⟨t1.toArray⟩, .slice ka1 N2 kc1, .slice da1 N3 dc1, .int .i64 l1] 63) ac v))
      case atStart => exact ⟨0, _, acc14, by omega, by go_num, rfl, hide (by simp [P28.afterR]), hide (Nat.le_trans (unhide HL14) (by omega)), HC14⟩
      case round =>
        clear y3
        obtain ⟨k, v, acc20, hkg, rfl, rfl, HAC, HAL, HC20⟩ := hrel
        have y3 := cellO (o := 3) (unhide HC20).box rfl
        obtain ⟨va20, vc20, hv⟩ := (unhide HC20).own.form
        obtain ⟨NL20, hNL⟩ : ∃ NL, acc20.length = NL := ⟨_, rfl⟩
        rw [hNL] at hv
        subst hv
        have HNL20 := hide hNL
        clear hNL HC14
        cases gk with
        | zero =>
          have e2 : (N1 : Int) ≤ (k : Int) := by omega
          have j2 : decide ((k : Int) < (N1 : Int)) = false := by simp; omega
          have HE2 : Hid (acc2 ++ P28.stepsR ns 0 ((ss.map PSt.bare).take (i + 1)) = acc20) := hide (by rw [unhide HEND, ← unhide HAC, List.take_of_length_le (by rw [unhide HN1]; omega)])
          go_wp2
          go_roundg g'
          case measure => omega
          case rel => exact ⟨i + 1, _, by omega, by go_num, rfl, hide (by rw [unhide HE2]; exact (unhide HC20).a)⟩
        | succ g2 =>
          have hlt2 : (k : Int) < (N1 : Int) := by omega
          have hkk : IntKind.i64.wrap ((k : Int) + 1) = (k : Int) + 1 := IntWalk.i64_in _ (by omega)
          obtain ⟨x, hx⟩ := nth_of (unhide HN1) (show k < N1 by omega)
          obtain ⟨X20, rfl⟩ : ∃ X, X = wr := ⟨_, rfl⟩
          obtain ⟨hky, hkc⟩ := unhide HKEYS X20 (unhide HC20).bel
          obtain ⟨rb, ro, rfl, cx⟩ := hky k x hx
          have hkey : ∀ V, Below (H + 1) W1 V → V.cell? ⟨rb, ro + k, none⟩ = some (.string ⟨x.toArray⟩) := fun V hV => by
            obtain ⟨b2, o2, e2, c2⟩ := (unhide HKEYS V hV).1 k x hx
            cases e2
            exact c2
          have hpre : ∀ V, Below (H + 1) W1 V → InS V (some ⟨rb, ro, none⟩) (af1.take k) := fun V hV j y hj => (unhide HKEYS V hV).1 j y (by
            have hjk := (List.getElem?_eq_some_iff.1 hj).1
            rw [List.length_take] at hjk
            rw [List.getElem?_take_of_lt (by omega)] at hj
            exact hj)
          have hkl : (af1.take k).length = k := by rw [List.length_take, unhide HN1]; omega
          have ham := fun V hV => ramong_any (some ⟨rb, ro, none⟩) ac1 (af1.take k) x V (hpre V hV) (by omega)
          rw [hkl] at ham
          have hNc : (N1 : Int) ≤ (ac1 : Int) := by omega
          have hkc2 : (k : Int) ≤ (ac1 : Int) := by omega
          obtain ⟨J, hJ⟩ : ∃ J, P28.idx ns x = J := ⟨_, rfl⟩
          have hixx := fun V hV => unhide HIX x V hV
          rw [hJ] at hixx
          have hnext : P28.afterR ns i n1 [] (af1.take (k + 1)) = P28.afterR ns i n1 [] (af1.take k) ++ (P28.nt J.isNone i 5 x ++ (P28.nt (decide (x = n1)) i 8 n1 ++ P28.nt (decide (x ∈ af1.take k)) i 6 x)) := by
            rw [List.take_add_one, hx, Option.toList_some, afterR_append, List.nil_append]
            simp only [P28.afterR, hJ, List.append_nil]
          have HNEXT : Hid (acc14 ++ P28.afterR ns i n1 [] (af1.take (k + 1)) = acc20 ++ (P28.nt J.isNone i 5 x ++ (P28.nt (decide (x = n1)) i 8 n1 ++ P28.nt (decide (x ∈ af1.take k)) i 6 x))) := hide (by rw [hnext, ← List.append_assoc, unhide HAC])
          have HKEY := hide hkey
          have HAM := hide ham
          have HIXX := hide hixx
          have HL20 := HAL
          clear hky hx hkey hpre hkl ham hJ hixx hnext cx
          obtain ⟨p20, hp20⟩ : ∃ q, (J.isNone) = q := ⟨_, rfl⟩
          have HQ20 := hide hp20
          clear hp20
          go_upto_region 21 with fail
          go_cut [102] from 88 to 147 (fun c wx => c = .bool p20 ∧ Hid (CkB W1 wx (H + 1) K (.cells #[.string ⟨n1.toArray⟩, .string ⟨a1.toArray⟩, .string ⟨u1.toArray⟩, .slice (some ⟨rb, ro, none⟩) N1 ac1, .int .i64 q1, .int .i64 fi1, .int .i64 fa1, .int .i64 li1, .int .u8 kd1, .string ⟨t1.toArray⟩, .slice ka1 N2 kc1, .slice da1 N3 dc1, .int .i64 l1] 63) acc20 (.slice va20 NL20 vc20)))
          case first =>
            have y3 := cellO (o := 3) (unhide HC20).box rfl
            have y0 := cellO (o := 0) (unhide HC20).box rfl
            have cx := unhide HKEY X20 (unhide HC20).bel
            obtain ⟨⟨k0, _⟩, ⟨k1, _⟩, ⟨k2, _⟩⟩ := cell3 (unhide HBX X20 (unhide HC20).bel)
            refine wp_region_tail 6 (by kernel_rfl) (by kernel_rfl) (by kernel_rfl) (by kernel_rfl) (by kernel_rfl) ?_
            simp only [List.take_succ_cons, List.take_zero, List.drop_succ_cons, List.drop_zero]
            repeat (go_big_quiet_step (fail))
            refine wpQuiet_nil ?_
            intro _ hw'
            obtain ⟨nq, hw''⟩ := hw'
            subst hw''
            cases J with
            | none =>
              have e0 : toV none = -1 := rfl
              have e : p20 = true := by rw [← unhide HQ20]; rfl
              subst e
              go_wp2_with (go_at_call 118; refine (unhide HIXX _ ((unhide HC20).bel.trans (below_drewN (Below.refl _ _)))).mono ?_; rintro e w4 ⟨rfl, hb4⟩)
              go_meet
              exact ⟨rfl, hide (((unhide HC20).alloc (below_drewN (Below.refl _ _))).alloc hb4)⟩
            | some j =>
              have e0 : toV (some j) = (j : Int) := rfl
              have h1 : ¬ (j : Int) < 0 := by omega
              have j2 : decide ((j : Int) < 0) = false := by simp
              have e : p20 = false := by rw [← unhide HQ20]; rfl
              subst e
              go_wp2_with (go_at_call 118; refine (unhide HIXX _ ((unhide HC20).bel.trans (below_drewN (Below.refl _ _)))).mono ?_; rintro e w4 ⟨rfl, hb4⟩)
              go_meet
              exact ⟨rfl, hide (((unhide HC20).alloc (below_drewN (Below.refl _ _))).alloc hb4)⟩
          case rest =>
          obtain ⟨rfl, HCQ20⟩ := hcut
          obtain ⟨X20q, rfl⟩ : ∃ X, X = wc := ⟨_, rfl⟩
          obtain ⟨acc21, hacc21⟩ : ∃ a, acc20 ++ P28.nt p20 i 5 x = a := ⟨_, rfl⟩
          have HA21 := hide hacc21
          clear hacc21
          go_upto_if 102 with fail
          go_cut [3] from 88 to 147 (fun s3 wx => ∃ (v : Value), s3 = v ∧ Hid (CkB W1 wx (H + 1) K (.cells #[.string ⟨n1.toArray⟩, .string ⟨a1.toArray⟩, .string ⟨u1.toArray⟩, .slice (some ⟨rb, ro, none⟩) N1 ac1, .int .i64 q1, .int .i64 fi1, .int .i64 fa1, .int .i64 li1, .int .u8 kd1, .string ⟨t1.toArray⟩, .slice ka1 N2 kc1, .slice da1 N3 dc1, .int .i64 l1] 63) acc21 v))
          case first =>
            cases p20 with
            | false =>
              go_wp2
              go_meet
              exact ⟨_, rfl, hide (by rw [← unhide HA21]; simpa [P28.nt] using unhide HCQ20)⟩
            | true =>
              obtain ⟨W5, hW5, hb5, g5, hs5⟩ := new1 X20q (.cells #[.int .i64 i, .int .i64 5, .string ⟨x.toArray⟩] 183) X20q.heap.size rfl
              have HC5 := hide ((unhide HCQ20).alloc hb5)
              have HW5 := hide hW5
              have HG5 := hide g5
              have hS5 := (unhide HC5).size
              have hle : NL20 ≤ (3004030 + k * 3) := by have h1 := unhide HNL20; have h2 := unhide HL20; omega
              have y3 := cellO (o := 3) (unhide HCQ20).box rfl
              have y0 := cellO (o := 0) (unhide HCQ20).box rfl
              have cx := unhide HKEY X20q (unhide HCQ20).bel
              clear hW5 hb5 g5 hs5
              go_wp2_with (rw [unhide HW5]; refine wpList_appNote (p := (i, 5, x)) (by rfl) _ _ (by rfl) (by rfl) (unhide HC5).own X20q.heap.size 1 (by rfl) (unhide HG5) NL20 (unhide HNL20) (by omega) hS5 ?_; intro g6 cap6 w6 hown6 hgrow6 hat6 hlt6; have HC6 := hide ((unhide HC5).grow hown6 hgrow6 rfl hat6); clear hown6 hgrow6 hat6 hlt6)
              go_meet
              exact ⟨_, rfl, hide (by rw [← unhide HA21]; exact unhide HC6)⟩
          case rest =>
          obtain ⟨vv, rfl, HC21⟩ := hcut
          obtain ⟨X21, rfl⟩ : ∃ X, X = wc := ⟨_, rfl⟩
          have HL21 : Hid (acc21.length ≤ (3004030 + k * 3) + 1) := hide (by have := unhide HL20; have := nt_len p20 i 5 x; rw [← unhide HA21, List.length_append]; omega)
          obtain ⟨va21, vc21, hv⟩ := (unhide HC21).own.form
          obtain ⟨NL21, hNL⟩ : ∃ NL, acc21.length = NL := ⟨_, rfl⟩
          rw [hNL] at hv
          subst hv
          have HNL21 := hide hNL
          clear hNL HCQ20 HC20 HL20 HNL20
          obtain ⟨p21, hp21⟩ : ∃ q, (decide (x = n1)) = q := ⟨_, rfl⟩
          have HQ21 := hide hp21
          clear hp21
          go_upto_region 23 with fail
          go_cut [120] from 88 to 147 (fun c wx => c = .bool p21 ∧ Hid (CkB W1 wx (H + 1) K (.cells #[.string ⟨n1.toArray⟩, .string ⟨a1.toArray⟩, .string ⟨u1.toArray⟩, .slice (some ⟨rb, ro, none⟩) N1 ac1, .int .i64 q1, .int .i64 fi1, .int .i64 fa1, .int .i64 li1, .int .u8 kd1, .string ⟨t1.toArray⟩, .slice ka1 N2 kc1, .slice da1 N3 dc1, .int .i64 l1] 63) acc21 (.slice va21 NL21 vc21)))
          case first =>
            have y3 := cellO (o := 3) (unhide HC21).box rfl
            have y0 := cellO (o := 0) (unhide HC21).box rfl
            have cx := unhide HKEY X21 (unhide HC21).bel
            by_cases hxn : x = n1
            · have e : p21 = true := by rw [← unhide HQ21]; simp [hxn]
              subst hxn
              subst e
              refine wp_region_quiet_lit (by kernel_rfl) (by kernel_rfl) ?_
              repeat (go_big_quiet_step (fail))
              refine wpQuiet_nil ?_
              intro _ hw'
              obtain ⟨nq, hw''⟩ := hw'
              subst hw''
              go_wp2
              go_meet
              exact ⟨rfl, hide ((unhide HC21).alloc (below_drewN (Below.refl _ _)))⟩
            · have e : p21 = false := by rw [← unhide HQ21]; simp [hxn]
              have hne : (x == n1) = false := by simpa using hxn
              subst e
              refine wp_region_quiet_lit (by kernel_rfl) (by kernel_rfl) ?_
              repeat (go_big_quiet_step (fail))
              refine wpQuiet_nil ?_
              intro _ hw'
              obtain ⟨nq, hw''⟩ := hw'
              subst hw''
              go_wp2
              go_meet
              exact ⟨rfl, hide ((unhide HC21).alloc (below_drewN (Below.refl _ _)))⟩
          case rest =>
          obtain ⟨rfl, HCQ21⟩ := hcut
          obtain ⟨X21q, rfl⟩ : ∃ X, X = wc := ⟨_, rfl⟩
          obtain ⟨acc22, hacc22⟩ : ∃ a, acc21 ++ P28.nt p21 i 8 n1 = a := ⟨_, rfl⟩
          have HA22 := hide hacc22
          clear hacc22
          go_upto_if 120 with fail
          go_cut [3] from 88 to 147 (fun s3 wx => ∃ (v : Value), s3 = v ∧ Hid (CkB W1 wx (H + 1) K (.cells #[.string ⟨n1.toArray⟩, .string ⟨a1.toArray⟩, .string ⟨u1.toArray⟩, .slice (some ⟨rb, ro, none⟩) N1 ac1, .int .i64 q1, .int .i64 fi1, .int .i64 fa1, .int .i64 li1, .int .u8 kd1, .string ⟨t1.toArray⟩, .slice ka1 N2 kc1, .slice da1 N3 dc1, .int .i64 l1] 63) acc22 v))
          case first =>
            cases p21 with
            | false =>
              go_wp2
              go_meet
              exact ⟨_, rfl, hide (by rw [← unhide HA22]; simpa [P28.nt] using unhide HCQ21)⟩
            | true =>
              obtain ⟨W5, hW5, hb5, g5, hs5⟩ := new1 X21q (.cells #[.int .i64 i, .int .i64 8, .string ⟨n1.toArray⟩] 183) X21q.heap.size rfl
              have HC5 := hide ((unhide HCQ21).alloc hb5)
              have HW5 := hide hW5
              have HG5 := hide g5
              have hS5 := (unhide HC5).size
              have hle : NL21 ≤ (3004030 + k * 3) + 1 := by have h1 := unhide HNL21; have h2 := unhide HL21; omega
              have y3 := cellO (o := 3) (unhide HCQ21).box rfl
              have y0 := cellO (o := 0) (unhide HCQ21).box rfl
              have cx := unhide HKEY X21q (unhide HCQ21).bel
              clear hW5 hb5 g5 hs5
              go_wp2_with (rw [unhide HW5]; refine wpList_appNote (p := (i, 8, n1)) (by rfl) _ _ (by rfl) (by rfl) (unhide HC5).own X21q.heap.size 1 (by rfl) (unhide HG5) NL21 (unhide HNL21) (by omega) hS5 ?_; intro g6 cap6 w6 hown6 hgrow6 hat6 hlt6; have HC6 := hide ((unhide HC5).grow hown6 hgrow6 rfl hat6); clear hown6 hgrow6 hat6 hlt6)
              go_meet
              exact ⟨_, rfl, hide (by rw [← unhide HA22]; exact unhide HC6)⟩
          case rest =>
          obtain ⟨vv, rfl, HC22⟩ := hcut
          obtain ⟨X22, rfl⟩ : ∃ X, X = wc := ⟨_, rfl⟩
          have HL22 : Hid (acc22.length ≤ (3004030 + k * 3) + 1 + 1) := hide (by have := unhide HL21; have := nt_len p21 i 8 n1; rw [← unhide HA22, List.length_append]; omega)
          obtain ⟨va22, vc22, hv⟩ := (unhide HC22).own.form
          obtain ⟨NL22, hNL⟩ : ∃ NL, acc22.length = NL := ⟨_, rfl⟩
          rw [hNL] at hv
          subst hv
          have HNL22 := hide hNL
          clear hNL HCQ21 HC21 HL21 HNL21
          obtain ⟨p22, hp22⟩ : ∃ q, (decide (x ∈ af1.take k)) = q := ⟨_, rfl⟩
          have HQ22 := hide hp22
          clear hp22
          go_upto_region 25 with fail
          go_cut [137] from 88 to 147 (fun c wx => c = .bool p22 ∧ Hid (CkB W1 wx (H + 1) K (.cells #[.string ⟨n1.toArray⟩, .string ⟨a1.toArray⟩, .string ⟨u1.toArray⟩, .slice (some ⟨rb, ro, none⟩) N1 ac1, .int .i64 q1, .int .i64 fi1, .int .i64 fa1, .int .i64 li1, .int .u8 kd1, .string ⟨t1.toArray⟩, .slice ka1 N2 kc1, .slice da1 N3 dc1, .int .i64 l1] 63) acc22 (.slice va22 NL22 vc22)))
          case first =>
            have y3 := cellO (o := 3) (unhide HC22).box rfl
            have y0 := cellO (o := 0) (unhide HC22).box rfl
            have cx := unhide HKEY X22 (unhide HC22).bel
            refine wp_region_tail 9 (by kernel_rfl) (by kernel_rfl) (by kernel_rfl) (by kernel_rfl) (by kernel_rfl) ?_
            simp only [List.take_succ_cons, List.take_zero, List.drop_succ_cons, List.drop_zero]
            repeat (go_big_quiet_step (fail))
            refine wpQuiet_nil ?_
            intro _ hw'
            obtain ⟨nq, hw''⟩ := hw'
            subst hw''
            go_wp2_with (go_at_call 153; refine (unhide HAM _ ((unhide HC22).bel.trans (below_drewN (Below.refl _ _)))).mono ?_; rintro e w4 ⟨rfl, hw⟩; have hw := hw.symm; subst hw)
            go_meet
            exact ⟨by rw [← unhide HQ22], hide ((unhide HC22).alloc (below_drewN (Below.refl _ _)))⟩
          case rest =>
          obtain ⟨rfl, HCQ22⟩ := hcut
          obtain ⟨X22q, rfl⟩ : ∃ X, X = wc := ⟨_, rfl⟩
          obtain ⟨acc23, hacc23⟩ : ∃ a, acc22 ++ P28.nt p22 i 6 x = a := ⟨_, rfl⟩
          have HA23 := hide hacc23
          clear hacc23
          cases p22 with
          | false =>
              go_wp2
              go_roundg g2
              case measure => omega
              case rel => exact ⟨k + 1, _, acc23, by omega, by go_num, rfl, hide (by rw [unhide HNEXT, ← unhide HA23, ← unhide HA22, ← unhide HA21, unhide HQ20, unhide HQ21, unhide HQ22]; simp only [List.append_assoc]), hide (by have := unhide HL22; have := nt_len false i 6 x; rw [← unhide HA23, List.length_append]; omega), hide (by rw [← unhide HA23]; simpa [P28.nt] using unhide HCQ22)⟩
          | true =>
              obtain ⟨W5, hW5, hb5, g5, hs5⟩ := new1 X22q (.cells #[.int .i64 i, .int .i64 6, .string ⟨x.toArray⟩] 183) X22q.heap.size rfl
              have HC5 := hide ((unhide HCQ22).alloc hb5)
              have HW5 := hide hW5
              have HG5 := hide g5
              have hS5 := (unhide HC5).size
              have hle : NL22 ≤ (3004030 + k * 3) + 1 + 1 := by have h1 := unhide HNL22; have h2 := unhide HL22; omega
              have y3 := cellO (o := 3) (unhide HCQ22).box rfl
              have y0 := cellO (o := 0) (unhide HCQ22).box rfl
              have cx := unhide HKEY X22q (unhide HCQ22).bel
              clear hW5 hb5 g5 hs5
              go_wp2_with (rw [unhide HW5]; refine wpList_appNote (p := (i, 6, x)) (by rfl) _ _ (by rfl) (by rfl) (unhide HC5).own X22q.heap.size 1 (by rfl) (unhide HG5) NL22 (unhide HNL22) (by omega) hS5 ?_; intro g6 cap6 w6 hown6 hgrow6 hat6 hlt6; have HC6 := hide ((unhide HC5).grow hown6 hgrow6 rfl hat6); clear hown6 hgrow6 hat6 hlt6)
              go_roundg g2
              case measure => omega
              case rel => exact ⟨k + 1, _, acc23, by omega, by go_num, rfl, hide (by rw [unhide HNEXT, ← unhide HA23, ← unhide HA22, ← unhide HA21, unhide HQ20, unhide HQ21, unhide HQ22]; simp only [List.append_assoc]), hide (by have := unhide HL22; have := nt_len true i 6 x; rw [← unhide HA23, List.length_append]; omega), hide (by rw [← unhide HA23]; exact unhide HC6)⟩
end Go.Proofs.YtefokfbgpfcbkaaGreat
