/- Lemmas of this claim (a part of its texts, kept as far as the claim reaches them). -/
import Derived.Test.YtefokfbgpfcbkaaGreatRC1Z
namespace Go.Proofs.YtefokfbgpfcbkaaGreat
set_option linter.unusedVariables false
set_option linter.unusedSimpArgs false
open Go.RowKit
structure CkB (W V : World) (S K : Nat) (ob : Obj) (acc : List P28.Note) (v : Value) : Prop where
  own : OwnT V S v acc
  bel : Below S W V
  box : V.heap[K]? = some ob
  ne : v.ownBlock ≠ some K
  low : S ≤ K
theorem CkB.size {W V : World} {S K : Nat} {ob : Obj} {acc : List P28.Note} {v : Value} (h : CkB W V S K ob acc v) : S ≤ V.heap.size := by
  have := (Array.getElem?_eq_some_iff.1 h.box).1
  have := h.low
  omega
theorem CkB.alloc {W V V' : World} {S K : Nat} {ob : Obj} {acc : List P28.Note} {v : Value} (h : CkB W V S K ob acc v) (hb : Below V.heap.size V V') : CkB W V' S K ob acc v :=
  ⟨h.own.keep (fun g hg => hb.block g (h.own.lt hg).2), h.bel.trans (hb.mono h.size), (hb.block K (Array.getElem?_eq_some_iff.1 h.box).1).trans h.box, h.ne, h.low⟩
theorem CkB.grow {W V V' : World} {S K g : Nat} {ob : Obj} {acc acc' : List P28.Note} {v v' : Value} (h : CkB W V S K ob acc v) (ho : OwnT V' S v' acc') (hg : V.grownBy V' v.ownBlock) (he : v'.ownBlock = some g) (hat : v.ownBlock = some g ∨ g = V.heap.size) : CkB W V' S K ob acc' v' := by
  have hK := (Array.getElem?_eq_some_iff.1 h.box).1
  refine ⟨ho, h.bel.grown hg h.size (fun k hk => (h.own.lt hk).1), (hg.block K hK (fun e => h.ne e.symm)).trans h.box, fun e => ?_, h.low⟩
  rw [he] at e
  cases e
  rcases hat with h1 | h1
  · exact h.ne h1
  · omega
theorem stepsBR_append (us : List (List UInt8)) (R : List (List Nat)) (n : Nat) : ∀ (a b : List P22.Step) (i : Nat), P28.stepsBR us R n i (a ++ b) = P28.stepsBR us R n i a ++ P28.stepsBR us R n (i + a.length) b
  | [], b, i => by simp [P28.stepsBR]
  | s :: a, b, i => by
    have e1 : P28.stepsBR us R n i ((s :: a) ++ b) = P28.stepB i s ++ ((if s.undo.isEmpty then P28.undoR us R i s.name n 0 else []) ++ P28.stepsBR us R n (i + 1) (a ++ b)) := rfl
    have e2 : P28.stepsBR us R n i (s :: a) = P28.stepB i s ++ ((if s.undo.isEmpty then P28.undoR us R i s.name n 0 else []) ++ P28.stepsBR us R n (i + 1) a) := rfl
    rw [e1, e2, stepsBR_append us R n a b (i + 1), List.length_cons, show i + 1 + a.length = i + (a.length + 1) by omega]
    simp only [List.append_assoc]
theorem undoR_snoc (us : List (List UInt8)) (R : List (List Nat)) (i : Nat) (nm : List UInt8) : ∀ n k : Nat, P28.undoR us R i nm (n + 1) k = P28.undoR us R i nm n k ++ P28.nt (decide (i ∈ R.getD (k + n) []) && !(us.getD (k + n) []).isEmpty) i 19 nm
  | 0, k => by simp [P28.undoR]
  | n + 1, k => by
    have e1 : P28.undoR us R i nm (n + 1 + 1) k = P28.nt (decide (i ∈ R.getD k []) && !(us.getD k []).isEmpty) i 19 nm ++ P28.undoR us R i nm (n + 1) (k + 1) := rfl
    have e2 : P28.undoR us R i nm (n + 1) k = P28.nt (decide (i ∈ R.getD k []) && !(us.getD k []).isEmpty) i 19 nm ++ P28.undoR us R i nm n (k + 1) := rfl
    rw [e1, e2, undoR_snoc us R i nm n (k + 1), List.append_assoc, show k + 1 + n = k + (n + 1) by omega]
theorem undoR_len (us : List (List UInt8)) (R : List (List Nat)) (i : Nat) (nm : List UInt8) : ∀ n k : Nat, (P28.undoR us R i nm n k).length ≤ n
  | 0, k => by simp [P28.undoR]
  | n + 1, k => by
    unfold P28.undoR
    rw [List.length_append]
    have := nt_len (decide (i ∈ R.getD k []) && !(us.getD k []).isEmpty) i 19 nm
    have := undoR_len us R i nm n (k + 1)
    omega
theorem stepsBR_len (us : List (List UInt8)) (R : List (List Nat)) (n : Nat) : ∀ (ss : List P22.Step) (i : Nat), (P28.stepsBR us R n i ss).length ≤ ss.length * (4 + n)
  | [], i => by simp [P28.stepsBR]
  | s :: ss, i => by
    unfold P28.stepsBR
    rw [List.length_append, List.length_append, List.length_cons, Nat.add_mul, Nat.one_mul]
    have h1 := stepsBR_len us R n ss (i + 1)
    have h2 : (P28.stepB i s).length ≤ 4 := by
      unfold P28.stepB
      simp only [List.length_append]
      have := nt_len (P28.out1 (P28.meant s.tries.most 1) 1 10) i 1 [109, 111, 115, 116]
      have := nt_len (P28.out1 s.tries.first 0 1000) i 1 [102, 105, 114, 115, 116]
      have := nt_len (P28.out1 (P28.meant s.tries.factor 1) 1 10) i 1 [102, 97, 99, 116, 111, 114]
      have := nt_len (P28.out1 (P28.meant s.limit 100) 1 10000) i 1 [108, 105, 109, 105, 116]
      omega
    have h3 : (if s.undo.isEmpty then P28.undoR us R i s.name n 0 else []).length ≤ n := by
      split
      · exact undoR_len us R i s.name n 0
      · simp
    omega
set_option maxRecDepth 100000 in
set_option maxHeartbeats 8000000 in
theorem RCheck27_any (d : PDef) (w : World) (hin : d.In w) (hl : d.steps.length ≤ 1000) (haf : ∀ s ∈ d.steps, s.after.length ≤ 1000) :
    Calls Tryz.prog 113 #[d.val] w fun e w' => ∃ v, e = .returned v ∧ OwnT w' w.heap.size v (P28.sortR (P28.boundsR d.bare)) ∧ Below w.heap.size w w' := by
  obtain ⟨H, hH⟩ : ∃ H, w.heap.size = H := ⟨_, rfl⟩
  rw [hH]
  obtain ⟨W1, hW1, hb1, g0, hs1⟩ := new1 w (defO d) H hH
  have hinV : ∀ V, Below (H + 1) W1 V → d.In V := fun V hV => hin.below (by rw [hH]; exact hb1.trans (hV.mono (by omega)))
  have hbx : ∀ V, Below (H + 1) W1 V → V.heap[H]? = some (defO d) := fun V hV => (hV.block H (by omega)).trans g0
  have hrefs := RRefs_any d W1 (hinV W1 (Below.refl _ _)) (by omega) (fun s hs => Nat.le_trans (haf s hs) (by omega))
  have hrl : ∀ l ∈ P28.refs d.bare, l.length ≤ 1000 := rows_rl _ 1000 _ 0 (fun a ha => by
    simp only [P28.afters, PDef.bare, List.map_map, List.mem_map, Function.comp] at ha
    obtain ⟨s, hs, rfl⟩ := ha
    exact haf s hs)
  have hrn : (P28.refs d.bare).length = d.steps.length := by rw [P28.refs_len]; simp [PDef.bare]
  have hbp : P28.boundsR d.bare = P28.stepsBR (d.steps.map PSt.undo) (P28.refs d.bare) d.steps.length 0 (d.steps.map PSt.bare) := by
    unfold P28.boundsR
    simp [P28.undos, PDef.bare, PSt.bare, Function.comp_def]
  rw [hbp]
  obtain ⟨RS, hRS⟩ : ∃ RS, P28.refs d.bare = RS := ⟨_, rfl⟩
  rw [hRS, hs1] at hrefs
  rw [hRS] at hrl hrn ⊢
  obtain ⟨us, hus⟩ : ∃ us, d.steps.map PSt.undo = us := ⟨_, rfl⟩
  rw [hus]
  have hug : ∀ (k : Nat) s, d.steps[k]? = some s → us.getD k [] = s.undo := fun k s hs => by rw [← hus, List.getD_eq_getElem?_getD, List.getElem?_map, hs]; rfl
  obtain ⟨nm, tx, sa, sc, ss⟩ := d
  obtain ⟨N, hN⟩ : ∃ N, ss.length = N := ⟨_, rfl⟩
  unfold defO at hW1 hbx g0
  unfold PDef.val at hrefs ⊢
  simp only [hN] at hW1 hbx g0 hl hrn hrefs haf hug ⊢
  obtain ⟨⟨k0, _⟩, ⟨k1, _⟩, ⟨k2, _⟩⟩ := cell3 g0
  have hlen : ∀ i, i ≤ N → (P28.stepsBR us RS N 0 ((ss.map PSt.bare).take i)).length ≤ 1004000 := fun i hi => by
    have h1 := stepsBR_len us RS N ((ss.map PSt.bare).take i) 0
    have h2 : ((ss.map PSt.bare).take i).length * (4 + N) ≤ 1000 * 1004 := Nat.mul_le_mul (by rw [List.length_take]; omega) (by omega)
    omega
  have HIN := hide hinV
  have HBX := hide hbx
  have HREFS := hide hrefs
  have HW1 := hide hW1
  have HB1 := hide hb1
  have HN := hide hN
  have HRL := hide hrl
  have HRN := hide hrn
  have HUG := hide hug
  have HLEN := hide hlen
  clear hinV hbx hrefs hW1 hb1 hRS hus hN g0 hin haf hrl hrn hbp hug hlen
  go_enter Tryz.func113, Tryz.ntmps113
  go_upto_region 1 with fail
  try rw [hH]
  rw [unhide HW1]
  go_upto_region 3 with (go_at_call 70; refine (unhide HREFS).mono ?_; rintro e w2 ⟨vr, vs, rfl, hrows, hb2⟩)
  obtain ⟨S, hS⟩ : ∃ S, w2.heap.size = S := ⟨_, rfl⟩
  have hHS : H + 1 ≤ S := by have := hb2.size; omega
  have hbS : ∀ V, Below S w2 V → Below (H + 1) W1 V := fun V hV => hb2.trans (hV.mono hHS)
  obtain ⟨ra, rc, rfl⟩ := hrows.form
  rw [unhide HRN] at hrows ⊢
  have hrow : ∀ V, Below S w2 V → RowsN V (H + 1) (.slice ra N rc) vs RS := fun V hV => hrows.keep (fun g hg => hV.block g (by rw [← hS]; exact hg))
  have HS := hide hS
  have HBS := hide hbS
  have HROW := hide hrow
  clear hb2 hS hbS hrow hrows k0 k1 k2
  go_wp2
  go_loopg [3, 5] N (fun g s3 s5 wx => ∃ (i : Nat) (v : Value), i + g = N ∧ s5 = .int .i64 i ∧ s3 = v ∧ Hid (OwnT wx S v (P28.stepsBR us RS N 0 ((ss.map PSt.bare).take i))) ∧ Hid (Below S w2 wx))
  case atStart => exact ⟨0, _, by omega, by go_num, rfl, hide (OwnT.nil _ _), hide (Below.refl _ _)⟩
  case round =>
    obtain ⟨i, v, hig, rfl, rfl, HO, HB⟩ := hrel
    have hbw := unhide HBS wr (unhide HB)
    obtain ⟨⟨k0, _⟩, ⟨k1, _⟩, ⟨k2, _⟩⟩ := cell3 (unhide HBX wr hbw)
    obtain ⟨acc, hacc⟩ : ∃ acc, P28.stepsBR us RS N 0 ((ss.map PSt.bare).take i) = acc := ⟨_, rfl⟩
    have hal := unhide HLEN i (by omega)
    have ho := unhide HO
    rw [hacc] at hal ho
    obtain ⟨va, vc, rfl⟩ := ho.form
    cases gk with
    | zero =>
      have e1 : (N : Int) ≤ (i : Int) := by omega
      have j1 : decide ((i : Int) < (N : Int)) = false := by simp; omega
      have hfin : P28.stepsBR us RS N 0 (ss.map PSt.bare) = acc := by rw [← hacc, List.take_of_length_le (by rw [List.length_map, unhide HN]; omega)]
      have hsort := RSort_any acc _ wr S ho (by omega)
      have HFIN := hide hfin
      have HSORT := hide hsort
      clear hsort hfin ho hacc hal
      go_wp2_with (go_at_call 115; refine (unhide HSORT).mono ?_; rintro e w3 ⟨v3, rfl, hT3, hb3⟩)
      go_ret
      have hz := (unhide HB).size
      rw [unhide HS] at hz
      exact ⟨_, rfl, by rw [unhide HFIN]; exact hT3.base (by omega), ((unhide HB1).trans (hbw.mono (by omega))).trans (hb3.mono (by omega))⟩
    | succ g' =>
      have hlt : (i : Int) < (N : Int) := by omega
      have hki : IntKind.i64.wrap ((i : Int) + 1) = (i : Int) + 1 := IntWalk.i64_in _ (by omega)
      obtain ⟨s1, hs1⟩ := nth_of (unhide HN) (show i < N by omega)
      obtain ⟨⟨b1, o1, hsa, hat⟩, _⟩ := (unhide HIN wr hbw).steps i s1 hs1
      simp only at hsa
      subst hsa
      have htk1 : P28.stepsBR us RS N 0 ((ss.map PSt.bare).take (i + 1)) = acc ++ (P28.stepB i s1.bare ++ (if s1.undo.isEmpty then P28.undoR us RS i s1.name N 0 else [])) := by
        rw [List.take_add_one, List.getElem?_map, hs1, Option.map_some, Option.toList_some, stepsBR_append, hacc, List.length_take, List.length_map, unhide HN, Nat.min_eq_left (by omega), Nat.zero_add]
        simp [P28.stepsBR, PSt.bare]
      have hreal := fun V => RReal_any s1 V
      obtain ⟨n1, a1, u1, aa1, ac1, af1, q1, fi1, fa1, li1, ⟨k1, t1, ka1, kc1, ks1, da1, dc1, ds1, l1⟩⟩ := s1
      obtain ⟨⟨c0, c1, c2, c3⟩, ⟨c4, c5, c6, c7⟩, ⟨c8, c9, c10, c11, c12⟩⟩ := step_cells hat
      simp only [PSt.aV, Nd.kind, Nd.text, Nd.kV, Nd.dV, Nd.line, Nd.ka, Nd.kc, Nd.keys, Nd.da, Nd.dc, Nd.kids] at c0 c1 c2 c3 c4 c5 c6 c7 c8 c9 c10 c11 c12
      unfold PSt.real at hreal
      simp only [PSt.val_eqn] at hreal
      obtain ⟨N1, hN1⟩ : ∃ N1, af1.length = N1 := ⟨_, rfl⟩
      obtain ⟨N2, hN2⟩ : ∃ N2, ks1.length = N2 := ⟨_, rfl⟩
      obtain ⟨N3, hN3⟩ : ∃ N3, ds1.length = N3 := ⟨_, rfl⟩
      rw [hN1] at c3 hreal
      rw [hN2] at c10 hreal
      rw [hN3] at c11 hreal
      have hsb : P28.stepB i (PSt.bare ⟨n1, a1, u1, aa1, ac1, af1, q1, fi1, fa1, li1, ⟨k1, t1, ka1, kc1, ks1, da1, dc1, ds1, l1⟩⟩) = P28.nt (P28.out1 (P28.meant q1 1) 1 10) i 1 [109, 111, 115, 116] ++ (P28.nt (P28.out1 fi1 0 1000) i 1 [102, 105, 114, 115, 116] ++ (P28.nt (P28.out1 (P28.meant fa1 1) 1 10) i 1 [102, 97, 99, 116, 111, 114] ++ P28.nt (P28.out1 (P28.meant li1 100) 1 10000) i 1 [108, 105, 109, 105, 116])) := rfl
      rw [hsb] at htk1
      simp only at htk1
      obtain ⟨mq, hmq⟩ : ∃ m, P28.meant q1 1 = m := ⟨_, rfl⟩
      obtain ⟨mf, hmf⟩ : ∃ m, P28.meant fa1 1 = m := ⟨_, rfl⟩
      obtain ⟨ml, hml⟩ : ∃ m, P28.meant li1 100 = m := ⟨_, rfl⟩
      rw [hmq] at hreal htk1
      rw [hmf] at hreal htk1
      rw [hml] at hreal htk1
      have HREAL := hide hreal
      have HTK := hide htk1
      have HO2 := hide ho
      obtain ⟨NL, hNL⟩ : ∃ NL, acc.length = NL := ⟨_, rfl⟩
      rw [hNL]
      have HNL := hide hNL
      clear hreal htk1 hsb hat hacc ho hN1 hN2 hN3 hmq hmf hml hs1 hNL HO hbw
      go_upto_region 7 with (go_at_call 154; refine (unhide HREAL _).mono ?_; rintro e w3 ⟨rfl, hb3⟩)
      obtain ⟨K, hK⟩ : ∃ K, w3.heap.size = K := ⟨_, rfl⟩
      obtain ⟨X0, hX0, hb4, g4, hs4⟩ := new1 w3 (.cells #[.string ⟨n1.toArray⟩, .string ⟨a1.toArray⟩, .string ⟨u1.toArray⟩, .slice aa1 N1 ac1, .int .i64 mq, .int .i64 fi1, .int .i64 mf, .int .i64 ml, .int .u8 k1, .string ⟨t1.toArray⟩, .slice ka1 N2 kc1, .slice da1 N3 dc1, .int .i64 l1] 63) K hK
      try rw [hK]
      rw [hX0]
      have hwS := (unhide HB).size
      rw [unhide HS] at hwS
      have hSK : S ≤ K := by have := hb3.size; omega
      have hb34 : Below wr.heap.size wr X0 := hb3.trans (hb4.mono (by have := hb3.size; omega))
      have HC0 : Hid (CkB w2 X0 S K (.cells #[.string ⟨n1.toArray⟩, .string ⟨a1.toArray⟩, .string ⟨u1.toArray⟩, .slice aa1 N1 ac1, .int .i64 mq, .int .i64 fi1, .int .i64 mf, .int .i64 ml, .int .u8 k1, .string ⟨t1.toArray⟩, .slice ka1 N2 kc1, .slice da1 N3 dc1, .int .i64 l1] 63) acc (.slice va NL vc)) := hide (by
        have ho := unhide HO2
        rw [unhide HNL] at ho
        exact ⟨ho.keep (fun g hg => hb34.block g (ho.lt hg).2), (unhide HB).trans (hb34.mono hwS), g4, fun e => by have := (ho.lt e).2; have := hb3.size; omega, hSK⟩)
      have HL0 : Hid (acc.length ≤ 1004000) := hide hal
      clear hX0 hb4 g4 hb3 hb34 HO2 HB c0 c1 c2 c3 c4 c5 c6 c7 c8 c9 c10 c11 c12 k0 k2 HREAL hs4 hwS hal
      have y4 := cellO (o := 4) (unhide HC0).box rfl
      obtain ⟨q0, hq0⟩ : ∃ q, P28.out1 mq 1 10 = q := ⟨_, rfl⟩
      have HQ0 := hide hq0
      clear hq0
      go_upto_region 7 with fail
      go_cut [32] from 10 to 114 (fun c wx => c = .bool q0 ∧ X0 = wx)
      case first =>
        rcases (by omega : mq < 1 ∨ (1 ≤ mq ∧ 10 < mq) ∨ (1 ≤ mq ∧ mq ≤ 10)) with h1 | ⟨h1, h2⟩ | ⟨h1, h2⟩
        · have e : q0 = true := by rw [← unhide HQ0]; simp [P28.out1]; omega
          subst e
          go_wp2
          go_meet
          exact ⟨rfl, rfl⟩
        · have e : q0 = true := by rw [← unhide HQ0]; simp [P28.out1]; omega
          have h3 : ¬ mq < 1 := by omega
          have j3 : decide (mq < 1) = false := by simp; omega
          subst e
          go_wp2
          go_meet
          exact ⟨rfl, rfl⟩
        · have e : q0 = false := by rw [← unhide HQ0]; simp [P28.out1]; omega
          have h3 : ¬ mq < 1 := by omega
          have j3 : decide (mq < 1) = false := by simp; omega
          have j4 : decide (10 < mq) = false := by simp; omega
          subst e
          go_wp2
          go_meet
          exact ⟨rfl, rfl⟩
      case rest =>
      obtain ⟨rfl, rfl⟩ := hcut
      clear y4
      obtain ⟨acc1, hacc1⟩ : ∃ a, acc ++ P28.nt q0 i 1 [109, 111, 115, 116] = a := ⟨_, rfl⟩
      have HA1 := hide hacc1
      clear hacc1
      go_upto_if 32 with fail
      go_cut [3] from 10 to 114 (fun s3 wx => ∃ (v : Value), s3 = v ∧ Hid (CkB w2 wx S K (.cells #[.string ⟨n1.toArray⟩, .string ⟨a1.toArray⟩, .string ⟨u1.toArray⟩, .slice aa1 N1 ac1, .int .i64 mq, .int .i64 fi1, .int .i64 mf, .int .i64 ml, .int .u8 k1, .string ⟨t1.toArray⟩, .slice ka1 N2 kc1, .slice da1 N3 dc1, .int .i64 l1] 63) acc1 v))
      case first =>
        cases q0 with
        | false =>
          go_wp2
          go_meet
          exact ⟨_, rfl, hide (by rw [← unhide HA1]; simpa [P28.nt] using unhide HC0)⟩
        | true =>
          obtain ⟨W5, hW5, hb5, g5, hs5⟩ := new1 X0 (.cells #[.int .i64 i, .int .i64 1, .string ⟨#[109, 111, 115, 116]⟩] 183) X0.heap.size rfl
          have HC5 := hide ((unhide HC0).alloc hb5)
          have HW5 := hide hW5
          have HG5 := hide g5
          have hS5 := (unhide HC5).size
          have hle : NL ≤ 1004010 := by rw [← unhide HNL]; exact Nat.le_trans (unhide HL0) (by omega)
          clear hW5 hb5 g5 hs5
          go_wp2_with (rw [unhide HW5]; refine wpList_appNote (p := (i, 1, [109, 111, 115, 116])) (by rfl) _ _ (by rfl) (by rfl) (unhide HC5).own X0.heap.size 1 (by rfl) (unhide HG5) NL (unhide HNL) (by omega) hS5 ?_; intro g6 cap6 w6 hown6 hgrow6 hat6 hlt6; have HC6 := hide ((unhide HC5).grow hown6 hgrow6 rfl hat6); clear hown6 hgrow6 hat6 hlt6)
          go_meet
          exact ⟨_, rfl, hide (by rw [← unhide HA1]; exact unhide HC6)⟩
      case rest =>
      obtain ⟨vv, rfl, HC1⟩ := hcut
      obtain ⟨X1, rfl⟩ : ∃ X, X = wc := ⟨_, rfl⟩
      have HL1 : Hid (acc1.length ≤ 1004001) := hide (by have := unhide HL0; have := nt_len q0 i 1 [109, 111, 115, 116]; rw [← unhide HA1, List.length_append]; omega)
      obtain ⟨va1, vc1, hv⟩ := (unhide HC1).own.form
      obtain ⟨NL1, hNL⟩ : ∃ NL, acc1.length = NL := ⟨_, rfl⟩
      rw [hNL] at hv
      subst hv
      have HNL1 := hide hNL
      clear hNL HC0 
      have y5 := cellO (o := 5) (unhide HC1).box rfl
      obtain ⟨q1, hq1⟩ : ∃ q, P28.out1 fi1 0 1000 = q := ⟨_, rfl⟩
      have HQ1 := hide hq1
      clear hq1
      go_upto_region 9 with fail
      go_cut [47] from 10 to 114 (fun c wx => c = .bool q1 ∧ X1 = wx)
      case first =>
        rcases (by omega : fi1 < 0 ∨ (0 ≤ fi1 ∧ 1000 < fi1) ∨ (0 ≤ fi1 ∧ fi1 ≤ 1000)) with h1 | ⟨h1, h2⟩ | ⟨h1, h2⟩
        · have e : q1 = true := by rw [← unhide HQ1]; simp [P28.out1]; omega
          subst e
          go_wp2
          go_meet
          exact ⟨rfl, rfl⟩
        · have e : q1 = true := by rw [← unhide HQ1]; simp [P28.out1]; omega
          have h3 : ¬ fi1 < 0 := by omega
          have j3 : decide (fi1 < 0) = false := by simp; omega
          subst e
          go_wp2
          go_meet
          exact ⟨rfl, rfl⟩
        · have e : q1 = false := by rw [← unhide HQ1]; simp [P28.out1]; omega
          have h3 : ¬ fi1 < 0 := by omega
          have j3 : decide (fi1 < 0) = false := by simp; omega
          have j4 : decide (1000 < fi1) = false := by simp; omega
          subst e
          go_wp2
          go_meet
          exact ⟨rfl, rfl⟩
      case rest =>
      obtain ⟨rfl, rfl⟩ := hcut
      clear y5
      obtain ⟨acc2, hacc2⟩ : ∃ a, acc1 ++ P28.nt q1 i 1 [102, 105, 114, 115, 116] = a := ⟨_, rfl⟩
      have HA2 := hide hacc2
      clear hacc2
      go_upto_if 47 with fail
      go_cut [3] from 10 to 114 (fun s3 wx => ∃ (v : Value), s3 = v ∧ Hid (CkB w2 wx S K (.cells #[.string ⟨n1.toArray⟩, .string ⟨a1.toArray⟩, .string ⟨u1.toArray⟩, .slice aa1 N1 ac1, .int .i64 mq, .int .i64 fi1, .int .i64 mf, .int .i64 ml, .int .u8 k1, .string ⟨t1.toArray⟩, .slice ka1 N2 kc1, .slice da1 N3 dc1, .int .i64 l1] 63) acc2 v))
      case first =>
        cases q1 with
        | false =>
          go_wp2
          go_meet
          exact ⟨_, rfl, hide (by rw [← unhide HA2]; simpa [P28.nt] using unhide HC1)⟩
        | true =>
          obtain ⟨W5, hW5, hb5, g5, hs5⟩ := new1 X1 (.cells #[.int .i64 i, .int .i64 1, .string ⟨#[102, 105, 114, 115, 116]⟩] 183) X1.heap.size rfl
          have HC5 := hide ((unhide HC1).alloc hb5)
          have HW5 := hide hW5
          have HG5 := hide g5
          have hS5 := (unhide HC5).size
          have hle : NL1 ≤ 1004010 := by rw [← unhide HNL1]; exact Nat.le_trans (unhide HL1) (by omega)
          clear hW5 hb5 g5 hs5
          go_wp2_with (rw [unhide HW5]; refine wpList_appNote (p := (i, 1, [102, 105, 114, 115, 116])) (by rfl) _ _ (by rfl) (by rfl) (unhide HC5).own X1.heap.size 1 (by rfl) (unhide HG5) NL1 (unhide HNL1) (by omega) hS5 ?_; intro g6 cap6 w6 hown6 hgrow6 hat6 hlt6; have HC6 := hide ((unhide HC5).grow hown6 hgrow6 rfl hat6); clear hown6 hgrow6 hat6 hlt6)
          go_meet
          exact ⟨_, rfl, hide (by rw [← unhide HA2]; exact unhide HC6)⟩
      case rest =>
      obtain ⟨vv, rfl, HC2⟩ := hcut
      obtain ⟨X2, rfl⟩ : ∃ X, X = wc := ⟨_, rfl⟩
      have HL2 : Hid (acc2.length ≤ 1004002) := hide (by have := unhide HL1; have := nt_len q1 i 1 [102, 105, 114, 115, 116]; rw [← unhide HA2, List.length_append]; omega)
      obtain ⟨va2, vc2, hv⟩ := (unhide HC2).own.form
      obtain ⟨NL2, hNL⟩ : ∃ NL, acc2.length = NL := ⟨_, rfl⟩
      rw [hNL] at hv
      subst hv
      have HNL2 := hide hNL
      clear hNL HC1 HL1 HNL1
      have y6 := cellO (o := 6) (unhide HC2).box rfl
      obtain ⟨q2, hq2⟩ : ∃ q, P28.out1 mf 1 10 = q := ⟨_, rfl⟩
      have HQ2 := hide hq2
      clear hq2
      go_upto_region 11 with fail
      go_cut [62] from 10 to 114 (fun c wx => c = .bool q2 ∧ X2 = wx)
      case first =>
        rcases (by omega : mf < 1 ∨ (1 ≤ mf ∧ 10 < mf) ∨ (1 ≤ mf ∧ mf ≤ 10)) with h1 | ⟨h1, h2⟩ | ⟨h1, h2⟩
        · have e : q2 = true := by rw [← unhide HQ2]; simp [P28.out1]; omega
          subst e
          go_wp2
          go_meet
          exact ⟨rfl, rfl⟩
        · have e : q2 = true := by rw [← unhide HQ2]; simp [P28.out1]; omega
          have h3 : ¬ mf < 1 := by omega
          have j3 : decide (mf < 1) = false := by simp; omega
          subst e
          go_wp2
          go_meet
          exact ⟨rfl, rfl⟩
        · have e : q2 = false := by rw [← unhide HQ2]; simp [P28.out1]; omega
          have h3 : ¬ mf < 1 := by omega
          have j3 : decide (mf < 1) = false := by simp; omega
          have j4 : decide (10 < mf) = false := by simp; omega
          subst e
          go_wp2
          go_meet
          exact ⟨rfl, rfl⟩
      case rest =>
      obtain ⟨rfl, rfl⟩ := hcut
      clear y6
      obtain ⟨acc3, hacc3⟩ : ∃ a, acc2 ++ P28.nt q2 i 1 [102, 97, 99, 116, 111, 114] = a := ⟨_, rfl⟩
      have HA3 := hide hacc3
      clear hacc3
      go_upto_if 62 with fail
      go_cut [3] from 10 to 114 (fun s3 wx => ∃ (v : Value), s3 = v ∧ Hid (CkB w2 wx S K (.cells #[.string ⟨n1.toArray⟩, .string ⟨a1.toArray⟩, .string ⟨u1.toArray⟩, .slice aa1 N1 ac1, .int .i64 mq, .int .i64 fi1, .int .i64 mf, .int .i64 ml, .int .u8 k1, .string ⟨t1.toArray⟩, .slice ka1 N2 kc1, .slice da1 N3 dc1, .int .i64 l1] 63) acc3 v))
      case first =>
        cases q2 with
        | false =>
          go_wp2
          go_meet
          exact ⟨_, rfl, hide (by rw [← unhide HA3]; simpa [P28.nt] using unhide HC2)⟩
        | true =>
          obtain ⟨W5, hW5, hb5, g5, hs5⟩ := new1 X2 (.cells #[.int .i64 i, .int .i64 1, .string ⟨#[102, 97, 99, 116, 111, 114]⟩] 183) X2.heap.size rfl
          have HC5 := hide ((unhide HC2).alloc hb5)
          have HW5 := hide hW5
          have HG5 := hide g5
          have hS5 := (unhide HC5).size
          have hle : NL2 ≤ 1004010 := by rw [← unhide HNL2]; exact Nat.le_trans (unhide HL2) (by omega)
          clear hW5 hb5 g5 hs5
          go_wp2_with (rw [unhide HW5]; refine wpList_appNote (p := (i, 1, [102, 97, 99, 116, 111, 114])) (by rfl) _ _ (by rfl) (by rfl) (unhide HC5).own X2.heap.size 1 (by rfl) (unhide HG5) NL2 (unhide HNL2) (by omega) hS5 ?_; intro g6 cap6 w6 hown6 hgrow6 hat6 hlt6; have HC6 := hide ((unhide HC5).grow hown6 hgrow6 rfl hat6); clear hown6 hgrow6 hat6 hlt6)
          go_meet
          exact ⟨_, rfl, hide (by rw [← unhide HA3]; exact unhide HC6)⟩
      case rest =>
      obtain ⟨vv, rfl, HC3⟩ := hcut
      obtain ⟨X3, rfl⟩ : ∃ X, X = wc := ⟨_, rfl⟩
      have HL3 : Hid (acc3.length ≤ 1004003) := hide (by have := unhide HL2; have := nt_len q2 i 1 [102, 97, 99, 116, 111, 114]; rw [← unhide HA3, List.length_append]; omega)
      obtain ⟨va3, vc3, hv⟩ := (unhide HC3).own.form
      obtain ⟨NL3, hNL⟩ : ∃ NL, acc3.length = NL := ⟨_, rfl⟩
      rw [hNL] at hv
      subst hv
      have HNL3 := hide hNL
      clear hNL HC2 HL2 HNL2
      have y7 := cellO (o := 7) (unhide HC3).box rfl
      obtain ⟨q3, hq3⟩ : ∃ q, P28.out1 ml 1 10000 = q := ⟨_, rfl⟩
      have HQ3 := hide hq3
      clear hq3
      go_upto_region 13 with fail
      go_cut [75] from 10 to 114 (fun c wx => c = .bool q3 ∧ X3 = wx)
      case first =>
        rcases (by omega : ml < 1 ∨ (1 ≤ ml ∧ 10000 < ml) ∨ (1 ≤ ml ∧ ml ≤ 10000)) with h1 | ⟨h1, h2⟩ | ⟨h1, h2⟩
        · have e : q3 = true := by rw [← unhide HQ3]; simp [P28.out1]; omega
          subst e
          go_wp2
          go_meet
          exact ⟨rfl, rfl⟩
        · have e : q3 = true := by rw [← unhide HQ3]; simp [P28.out1]; omega
          have h3 : ¬ ml < 1 := by omega
          have j3 : decide (ml < 1) = false := by simp; omega
          subst e
          go_wp2
          go_meet
          exact ⟨rfl, rfl⟩
        · have e : q3 = false := by rw [← unhide HQ3]; simp [P28.out1]; omega
          have h3 : ¬ ml < 1 := by omega
          have j3 : decide (ml < 1) = false := by simp; omega
          have j4 : decide (10000 < ml) = false := by simp; omega
          subst e
          go_wp2
          go_meet
          exact ⟨rfl, rfl⟩
      case rest =>
      obtain ⟨rfl, rfl⟩ := hcut
      clear y7
      obtain ⟨acc4, hacc4⟩ : ∃ a, acc3 ++ P28.nt q3 i 1 [108, 105, 109, 105, 116] = a := ⟨_, rfl⟩
      have HA4 := hide hacc4
      clear hacc4
      go_upto_if 75 with fail
      go_cut [3] from 10 to 114 (fun s3 wx => ∃ (v : Value), s3 = v ∧ Hid (CkB w2 wx S K (.cells #[.string ⟨n1.toArray⟩, .string ⟨a1.toArray⟩, .string ⟨u1.toArray⟩, .slice aa1 N1 ac1, .int .i64 mq, .int .i64 fi1, .int .i64 mf, .int .i64 ml, .int .u8 k1, .string ⟨t1.toArray⟩, .slice ka1 N2 kc1, .slice da1 N3 dc1, .int .i64 l1] 63) acc4 v))
      case first =>
        cases q3 with
        | false =>
          go_wp2
          go_meet
          exact ⟨_, rfl, hide (by rw [← unhide HA4]; simpa [P28.nt] using unhide HC3)⟩
        | true =>
          obtain ⟨W5, hW5, hb5, g5, hs5⟩ := new1 X3 (.cells #[.int .i64 i, .int .i64 1, .string ⟨#[108, 105, 109, 105, 116]⟩] 183) X3.heap.size rfl
          have HC5 := hide ((unhide HC3).alloc hb5)
          have HW5 := hide hW5
          have HG5 := hide g5
          have hS5 := (unhide HC5).size
          have hle : NL3 ≤ 1004010 := by rw [← unhide HNL3]; exact Nat.le_trans (unhide HL3) (by omega)
          clear hW5 hb5 g5 hs5
          go_wp2_with (rw [unhide HW5]; refine wpList_appNote (p := (i, 1, [108, 105, 109, 105, 116])) (by rfl) _ _ (by rfl) (by rfl) (unhide HC5).own X3.heap.size 1 (by rfl) (unhide HG5) NL3 (unhide HNL3) (by omega) hS5 ?_; intro g6 cap6 w6 hown6 hgrow6 hat6 hlt6; have HC6 := hide ((unhide HC5).grow hown6 hgrow6 rfl hat6); clear hown6 hgrow6 hat6 hlt6)
          go_meet
          exact ⟨_, rfl, hide (by rw [← unhide HA4]; exact unhide HC6)⟩
      case rest =>
      obtain ⟨vv, rfl, HC4⟩ := hcut
      obtain ⟨X4, rfl⟩ : ∃ X, X = wc := ⟨_, rfl⟩
      have HL4 : Hid (acc4.length ≤ 1004004) := hide (by have := unhide HL3; have := nt_len q3 i 1 [108, 105, 109, 105, 116]; rw [← unhide HA4, List.length_append]; omega)
      obtain ⟨va4, vc4, hv⟩ := (unhide HC4).own.form
      obtain ⟨NL4, hNL⟩ : ∃ NL, acc4.length = NL := ⟨_, rfl⟩
      rw [hNL] at hv
      subst hv
      have HNL4 := hide hNL
      clear hNL HC3 HL3 HNL3
      have HEND : Hid (P28.stepsBR us RS N 0 ((ss.map PSt.bare).take (i + 1)) = acc4 ++ (if u1.isEmpty then P28.undoR us RS i n1 N 0 else [])) := hide (by
        rw [unhide HTK, ← unhide HA4, ← unhide HA3, ← unhide HA2, ← unhide HA1, unhide HQ0, unhide HQ1, unhide HQ2, unhide HQ3]
        simp only [List.append_assoc])
      clear HTK HA1 HA2 HA3 HA4 HQ0 HQ1 HQ2 HQ3
      go_wp2
      go_loopg [3, 7] N (fun g s3 s7 wx => ∃ (k : Nat) (v : Value) (ac : List P28.Note), k + g = N ∧ s7 = .int .i64 k ∧ s3 = v ∧ Hid (acc4 ++ (if u1.isEmpty then P28.undoR us RS i n1 k 0 else []) = ac) ∧ Hid (ac.length ≤ 1004010 + k) ∧ Hid (CkB w2 wx S K (.cells #[.string ⟨n1.toArray⟩, .string ⟨a1.toArray⟩, .string ⟨u1.toArray⟩, .slice aa1 N1 ac1, .int .i64 mq, .int .i64 fi1, .int .i64 mf, .int .i64 ml, .int .u8 k1, .string ⟨t1.toArray⟩, .slice ka1 N2 kc1, .slice da1 N3 dc1, .int .i64 l1] 63) ac v))
      case atStart => exact ⟨0, _, acc4, by omega, by go_num, rfl, hide (by simp [P28.undoR]), hide (Nat.le_trans (unhide HL4) (by omega)), HC4⟩
      case round =>
        obtain ⟨k, v, ac, hkg, rfl, rfl, HAC, HAL, HC⟩ := hrel
        have hbw := unhide HBS wr (unhide HC).bel
        obtain ⟨⟨k0, _⟩, ⟨k1, _⟩, ⟨k2, _⟩⟩ := cell3 (unhide HBX wr hbw)
        have y2 := cellO (o := 2) (unhide HC).box rfl
        have y0 := cellO (o := 0) (unhide HC).box rfl
        obtain ⟨va5, vc5, hv⟩ := (unhide HC).own.form
        obtain ⟨NL5, hNL⟩ : ∃ NL, ac.length = NL := ⟨_, rfl⟩
        rw [hNL] at hv
        subst hv
        have HNL5 := hide hNL
        clear hNL HC4
        cases gk with
        | zero =>
          have e2 : (N : Int) ≤ (k : Int) := by omega
          have j2 : decide ((k : Int) < (N : Int)) = false := by simp; omega
          have j3 : ¬ k < N := by omega
          have HE2 : Hid (P28.stepsBR us RS N 0 ((ss.map PSt.bare).take (i + 1)) = ac) := hide (by rw [unhide HEND, ← unhide HAC, show k = N by omega])
          clear hbw
          go_wp2
          go_roundg g'
          case measure => omega
          case rel => exact ⟨i + 1, _, by omega, by go_num, rfl, hide (by rw [unhide HE2]; exact (unhide HC).own), hide (unhide HC).bel⟩
        | succ g2 =>
          have hlt2 : (k : Int) < (N : Int) := by omega
          have j3 : k < N := by omega
          have hkk : IntKind.i64.wrap ((k : Int) + 1) = (k : Int) + 1 := IntWalk.i64_in _ (by omega)
          cases u1 with
          | cons uc0 ur0 =>
            have HE2 : Hid (P28.stepsBR us RS N 0 ((ss.map PSt.bare).take (i + 1)) = ac) := hide (by rw [unhide HEND, ← unhide HAC]; rfl)
            clear hbw
            go_wp2
            go_roundg g'
            case measure => omega
            case rel => exact ⟨i + 1, _, by omega, by go_num, rfl, hide (by rw [unhide HE2]; exact (unhide HC).own), hide (unhide HC).bel⟩
          | nil =>
            obtain ⟨lk, hlk⟩ : ∃ l, RS[k]? = some l := nth_of (unhide HRN) (by omega)
            obtain ⟨gr, ua, uc, rfl, hcR, hinR⟩ := (unhide HROW wr (unhide HC).bel).get hlk
            have hll := unhide HRL lk (List.mem_of_getElem? hlk)
            have hhas := Has_any ua uc lk i wr hinR (by omega)
            obtain ⟨LK, hLK⟩ : ∃ L, lk.length = L := ⟨_, rfl⟩
            rw [hLK] at hcR hhas
            obtain ⟨s2, hs2⟩ := nth_of (unhide HN) (show k < N by omega)
            obtain ⟨⟨b2, o2, e2, hat2⟩, _⟩ := (unhide HIN wr hbw).steps k s2 hs2
            cases e2
            have z2 := (step_cells hat2).1.2.2.1
            obtain ⟨un, hun⟩ : ∃ un, s2.undo = un := ⟨_, rfl⟩
            have hug := unhide HUG k s2 hs2
            rw [hun] at z2 hug
            have hsn : acc4 ++ (if ([] : List UInt8).isEmpty then P28.undoR us RS i n1 (k + 1) 0 else []) = ac ++ P28.nt (decide (i ∈ lk) && !un.isEmpty) i 19 n1 := by
              rw [← unhide HAC, if_pos (show ([] : List UInt8).isEmpty = true from rfl), if_pos (show ([] : List UInt8).isEmpty = true from rfl), undoR_snoc, Nat.zero_add, hug, List.getD_eq_getElem?_getD, hlk, Option.getD_some, List.append_assoc]
            have HSN := hide hsn
            clear hlk hinR hll hLK hs2 hat2 hun hug hsn hbw
            by_cases hm : i ∈ lk
            · rw [decide_eq_true hm] at hhas
              have HHAS := hide hhas
              have HM := hide (decide_eq_true hm)
              clear hm hhas
              cases un with
              | nil =>
                go_wp2_with (go_at_call 31; refine (unhide HHAS).mono ?_; rintro e w4 ⟨rfl, hw⟩; have hw := hw.symm; subst hw)
                go_roundg g2
                case measure => omega
                case rel => exact ⟨k + 1, _, ac, by omega, by go_num, rfl, hide (by rw [unhide HSN]; simp [P28.nt]), hide (by have := unhide HAL; omega), HC⟩
              | cons un0 unr =>
                obtain ⟨W5, hW5, hb5, g5, hs5⟩ := new1 wr (.cells #[.int .i64 i, .int .i64 19, .string ⟨n1.toArray⟩] 183) wr.heap.size rfl
                have HC5 := hide ((unhide HC).alloc hb5)
                have HW5 := hide hW5
                have HG5 := hide g5
                have hS5 := (unhide HC5).size
                have hle : NL5 ≤ 1004010 + k := by rw [← unhide HNL5]; exact unhide HAL
                clear hW5 hb5 g5 hs5
                go_wp2_with (first | (go_at_call 31; refine (unhide HHAS).mono ?_; rintro e w4 ⟨rfl, hw⟩; have hw := hw.symm; subst hw) | (rw [unhide HW5]; refine wpList_appNote (p := (i, 19, n1)) (by rfl) _ _ (by rfl) (by rfl) (unhide HC5).own wr.heap.size 1 (by rfl) (unhide HG5) NL5 (unhide HNL5) (by omega) hS5 ?_; intro g6 cap6 w6 hown6 hgrow6 hat6 hlt6; have HC6 := hide ((unhide HC5).grow hown6 hgrow6 rfl hat6); clear hown6 hgrow6 hat6 hlt6))
                go_roundg g2
                case measure => omega
                case rel => exact ⟨k + 1, _, ac ++ [((i : Int), (19 : Int), n1)], by omega, by go_num, rfl, hide (by rw [unhide HSN, unhide HM]; rfl), hide (by have := unhide HAL; rw [List.length_append]; simp; omega), HC6⟩
            · rw [decide_eq_false hm] at hhas
              have HHAS := hide hhas
              have HM := hide (decide_eq_false hm)
              clear hm hhas
              go_wp2_with (go_at_call 31; refine (unhide HHAS).mono ?_; rintro e w4 ⟨rfl, hw⟩; have hw := hw.symm; subst hw)
              go_roundg g2
              case measure => omega
              case rel => exact ⟨k + 1, _, ac, by omega, by go_num, rfl, hide (by rw [unhide HSN, unhide HM]; simp [P28.nt]), hide (by have := unhide HAL; omega), HC⟩
end Go.Proofs.YtefokfbgpfcbkaaGreat
