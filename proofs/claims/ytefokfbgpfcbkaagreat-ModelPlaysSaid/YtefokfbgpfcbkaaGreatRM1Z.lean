/- Lemmas of this claim (a part of its texts, kept as far as the claim reaches them). -/
import Derived.Test.YtefokfbgpfcbkaaGreatRC1Z
import Derived.Test.YtefokfbgpfcbkaaGreatM33xZ
namespace Go.Proofs.YtefokfbgpfcbkaaGreat
set_option linter.unusedVariables false
set_option linter.unusedSimpArgs false
open Go.RowKit
theorem rreal33 (m f k : Int) (V : World) : Calls Tryz.prog 154 #[.agg #[.string ⟨#[]⟩, .string ⟨#[]⟩, .string ⟨#[]⟩, .slice none 0 0, .int .i64 m, .int .i64 f, .int .i64 k, .int .i64 0, .int .u8 0, .string ⟨#[]⟩, .slice none 0 0, .slice none 0 0, .int .i64 0]] V fun e w' => e = .returned (.agg #[.string ⟨#[]⟩, .string ⟨#[]⟩, .string ⟨#[]⟩, .slice none 0 0, .int .i64 (P28.meant m 1), .int .i64 f, .int .i64 (P28.meant k 1), .int .i64 (P28.meant 0 100), .int .u8 0, .string ⟨#[]⟩, .slice none 0 0, .slice none 0 0, .int .i64 0]) ∧ Below V.heap.size V w' := RReal_any (stT m f k) V
attribute [local go_sem] run_field_tries
set_option maxRecDepth 100000 in
set_option maxHeartbeats 2000000 in
theorem RMeant_any (m f k : Int) (w : World) : Calls Tryz.prog 120 #[.agg #[.int .i64 m, .int .i64 f, .int .i64 k]] w fun e w' => e = .returned (.agg #[.int .i64 (min (max (P28.meant m 1) 0) 10), .int .i64 (max f 0), .int .i64 (max (P28.meant k 1) 0)]) ∧ Below w.heap.size w w' := by
  obtain ⟨H, hH⟩ : ∃ H, w.heap.size = H := ⟨_, rfl⟩
  rw [hH]
  have hr := fun V => rreal33 m f k V
  obtain ⟨M, hM⟩ : ∃ x, P28.meant m 1 = x := ⟨_, rfl⟩
  obtain ⟨K, hK⟩ : ∃ x, P28.meant k 1 = x := ⟨_, rfl⟩
  obtain ⟨Li, hLi⟩ : ∃ x, P28.meant 0 100 = x := ⟨_, rfl⟩
  rw [hM, hK, hLi] at hr
  rw [hM, hK]
  obtain ⟨M2, hM2⟩ : ∃ x, min (max M 0) 10 = x := ⟨_, rfl⟩
  obtain ⟨F2, hF2⟩ : ∃ x, max f 0 = x := ⟨_, rfl⟩
  obtain ⟨K2, hK2⟩ : ∃ x, max K 0 = x := ⟨_, rfl⟩
  rw [hM2, hF2, hK2]
  obtain ⟨W1, hW1, hb1, g0, g1, hs1⟩ := new2 w (.cells #[.int .i64 m, .int .i64 f, .int .i64 k] 58) (.cells #[.int .i64 0, .int .i64 0, .int .i64 0] 58) H hH
  have HR := hide hr
  have HW1 := hide hW1
  have HB1 := hide hb1
  have HG0 := hide g0
  have HG1 := hide g1
  have HM2 := hide hM2
  have HF2 := hide hF2
  have HK2 := hide hK2
  obtain ⟨⟨k0, f0⟩, ⟨k1, f1⟩, ⟨k2, f2⟩⟩ := cell3 g0
  clear hr hM hK hLi hW1 hb1 g0 g1 hM2 hF2 hK2
  go_enter Tryz.func120, Tryz.ntmps120
  go_upto_region 1 with fail
  try rw [hH]
  rw [unhide HW1]
  go_upto_region 2 with (go_at_call 154; with_reducible refine (unhide HR _).mono ?_; rintro e w2 ⟨rfl, b2⟩; have hg := (b2.block H (by omega)).trans (unhide HG0); obtain ⟨⟨q0, r0⟩, ⟨q1, r1⟩, ⟨q2, r2⟩⟩ := cell3 hg; have HG := hide hg; clear hg)
  obtain ⟨W3, hW3⟩ : ∃ W3, ((w2.setCell ⟨H, 0, none⟩ (.int .i64 M)).setCell ⟨H, 1, none⟩ (.int .i64 f)).setCell ⟨H, 2, none⟩ (.int .i64 K) = W3 := ⟨_, rfl⟩
  rw [hW3]
  have hz := b2.size
  have hb3 : Below H w W3 := by
    rw [← hW3]
    exact ((((unhide HB1).trans (b2.mono (by omega))).setCell (p := ⟨H, 0, none⟩) (Nat.le_refl H) _).setCell (p := ⟨H, 1, none⟩) (Nat.le_refl H) _).setCell (p := ⟨H, 2, none⟩) (Nat.le_refl H) _
  have g3 : W3.heap[H]? = some (.cells #[.int .i64 M, .int .i64 f, .int .i64 K] 58) := by rw [← hW3]; exact put3c (put3b (put3a (unhide HG) _) _) _
  have h3 : W3.heap[H + 1]? = some (.cells #[.int .i64 0, .int .i64 0, .int .i64 0] 58) := by
    rw [← hW3, Below.heap_setCell _ _ _ _ (by show H + 1 ≠ H; omega), Below.heap_setCell _ _ _ _ (by show H + 1 ≠ H; omega), Below.heap_setCell _ _ _ _ (by show H + 1 ≠ H; omega)]
    exact (b2.block (H + 1) (by omega)).trans (unhide HG1)
  clear hW3 q0 r0 q1 r1 q2 r2 b2 k0 f0 k1 f1 k2 f2 HG0 HG1 HG HB1 HR
  have HB3 := hide hb3
  have HH3 := hide h3
  obtain ⟨⟨q0, r0⟩, ⟨q1, r1⟩, ⟨q2, r2⟩⟩ := cell3 g3
  obtain ⟨⟨x0, y0⟩, ⟨x1, y1⟩, ⟨x2, y2⟩⟩ := cell3 h3
  clear hb3 g3 h3
  have hM2 := unhide HM2
  have hF2 := unhide HF2
  have hK2 := unhide HK2
  go_wp2
  (try simp only [Exit.inBlock, Exit.then])
  have g7 := put3c (put3b (put3a (unhide HH3) (.int .i64 M2)) (.int .i64 F2)) (.int .i64 K2)
  refine bodyPost_ret (results_c1 rfl _ _ _ (H + 1) _ rfl (run_loadVar_row _ _ _ _ _ _ _ g7 Tryz.underlying58 rfl (by kernel_rfl)) ) rfl ?_
  refine ⟨rfl, ?_⟩
  exact (((unhide HB3).setCell (p := ⟨H + 1, 0, none⟩) (Nat.le_succ H) _).setCell (p := ⟨H + 1, 1, none⟩) (Nat.le_succ H) _).setCell (p := ⟨H + 1, 2, none⟩) (Nat.le_succ H) _
end Go.Proofs.YtefokfbgpfcbkaaGreat
namespace Go.Proofs.YtefokfbgpfcbkaaGreat
set_option linter.unusedVariables false
set_option linter.unusedSimpArgs false
open Go.RowKit
def rmC (d : PDef) (tb ub ob pb : Nat) (ra : Option Addr) (rc : Nat) (dn un : Value) (s : P33.S) : Array Value :=
  #[.string ⟨d.name.toArray⟩, .string ⟨d.text.toArray⟩, .slice d.sa d.steps.length d.sc, .slice ra d.steps.length rc, .slice (some ⟨tb, 0, none⟩) d.steps.length d.steps.length, .slice (some ⟨ub, 0, none⟩) d.steps.length d.steps.length, .slice (some ⟨ob, 0, none⟩) d.steps.length d.steps.length, .slice (some ⟨pb, 0, none⟩) d.steps.length d.steps.length, dn, un, .bool s.failed, .int .u8 s.status]
def rowsB (ra : Option Addr) (vs : List Value) (g : Nat) : Prop := (∃ o, ra = some ⟨g, o, none⟩) ∨ ∃ u ∈ vs, u.ownBlock = some g
structure RM (d : PDef) (C : Nat) (W : World) (b tb ub ob pb : Nat) (ra : Option Addr) (rc : Nat) (vs : List Value) (dn un : Value) (s : P33.S) : Prop where
  din : d.In W
  dlt : ∀ g, d.blk g → g < C
  box : W.heap[b]? = some (.cells (rmC d tb ub ob pb ra rc dn un s) 51)
  rows : RowsN W C (.slice ra d.steps.length rc) vs (P28.refs d.bare)
  tr : W.rowIs tb 3 d.steps.length (fun j => .int .i64 (s.w j false).1)
  ut : W.rowIs ub 3 d.steps.length (fun j => .int .i64 (s.w j true).1)
  op : W.rowIs ob 4 d.steps.length (fun j => .bool (s.w j false).2)
  up : W.rowIs pb 4 d.steps.length (fun j => .bool (s.w j true).2)
  dno : OwnN W C dn s.done
  uno : OwnN W C un s.undone
  low : C ≤ b ∧ C ≤ tb ∧ C ≤ ub ∧ C ≤ ob ∧ C ≤ pb
  nd : [b, tb, ub, ob, pb].Nodup
  fd : ∀ g, dn.ownBlock = some g → g ∉ [b, tb, ub, ob, pb]
  fu : ∀ g, un.ownBlock = some g → g ∉ [b, tb, ub, ob, pb] ∧ dn.ownBlock ≠ some g
  fr : ∀ g, rowsB ra vs g → g ∉ [b, tb, ub, ob, pb] ∧ dn.ownBlock ≠ some g ∧ un.ownBlock ≠ some g
section
variable {d : PDef} {C : Nat} {W W' : World} {b tb ub ob pb rc : Nat} {ra : Option Addr} {vs : List Value} {dn un : Value} {s : P33.S}
theorem RM.below (h : RM d C W b tb ub ob pb ra rc vs dn un s) (hb : Below W.heap.size W W') : RM d C W' b tb ub ob pb ra rc vs dn un s :=
  ⟨h.din.below hb, h.dlt, (hb.block b (Array.getElem?_eq_some_iff.1 h.box).1).trans h.box, h.rows.keep (fun g hg => hb.block g hg), h.tr.of_block (hb.block _ h.tr.lt), h.ut.of_block (hb.block _ h.ut.lt), h.op.of_block (hb.block _ h.op.lt), h.up.of_block (hb.block _ h.up.lt),
   h.dno.keep (fun g hg => hb.block g (h.dno.lt hg).2), h.uno.keep (fun g hg => hb.block g (h.uno.lt hg).2), h.low, h.nd, h.fd, h.fu, h.fr⟩
theorem RM.cell (h : RM d C W b tb ub ob pb ra rc vs dn un s) {o : Nat} {v : Value} (hv : (rmC d tb ub ob pb ra rc dn un s)[o]? = some v) : W.cell? ⟨b, o, none⟩ = some v := cellO h.box hv
end
attribute [local go_sem] run_field_most
set_option maxRecDepth 100000 in
set_option maxHeartbeats 2000000 in
theorem RMost_any {d : PDef} {C : Nat} {b tb ub ob pb rc : Nat} {ra : Option Addr} {vs : List Value} {dn un : Value} {s : P33.S} (i : Nat) (w : World) (h : RM d C w b tb ub ob pb ra rc vs dn un s) (hi : i < d.steps.length) (hN9 : d.steps.length ≤ 100000) :
    Calls Tryz.prog 75 #[.pointer (some ⟨b, 0, none⟩), .int .i64 (i : Int)] w fun e w' => e = .returned (.int .i64 (P33.most (P33.triesOf d.bare i))) ∧ Below w.heap.size w w' := by
  obtain ⟨s1, hs1⟩ : ∃ s, d.steps[i]? = some s := ⟨_, List.getElem?_eq_getElem hi⟩
  have ht : P33.triesOf d.bare i = ⟨s1.most, s1.first, s1.factor⟩ := by
    unfold P33.triesOf
    rw [List.getD_eq_getElem?_getD]
    simp [PDef.bare, PSt.bare, hs1]
  rw [ht]
  obtain ⟨⟨b1, o1, hsa, hat⟩, _⟩ := h.din.steps i s1 hs1
  obtain ⟨_, ⟨c4, c5, c6, _⟩, _⟩ := step_cells hat
  have k2 : w.cell? ⟨b, 2, none⟩ = some (.slice d.sa d.steps.length d.sc) := h.cell (o := 2) rfl
  rw [hsa] at k2
  have hm := fun V => RMeant_any s1.most s1.first s1.factor V
  have hmost : min (max (P28.meant s1.most 1) 0) 10 = P33.most ⟨s1.most, s1.first, s1.factor⟩ := rfl
  simp only [hmost] at hm
  obtain ⟨MO, hMO⟩ : ∃ m, P33.most ⟨s1.most, s1.first, s1.factor⟩ = m := ⟨_, rfl⟩
  rw [hMO] at hm ⊢
  obtain ⟨N, hN⟩ : ∃ N, d.steps.length = N := ⟨_, rfl⟩
  rw [hN] at k2 hi hN9
  have hlt : (i : Int) < (N : Int) := by omega
  have HM := hide hm
  clear hm h hs1 hat hsa ht hmost hMO hN
  go_enter Tryz.func75, Tryz.ntmps75
  go_wp2_with (go_at_call 120; refine (unhide HM _).mono ?_; rintro e w2 ⟨rfl, hb2⟩)
  go_ret
  exact ⟨rfl, hb2⟩
set_option maxRecDepth 100000 in
set_option maxHeartbeats 4000000 in
theorem RTurn_any {d : PDef} {C : Nat} {b tb ub ob pb rc : Nat} {ra : Option Addr} {vs : List Value} {dn un : Value} {s : P33.S} (w : World) (h : RM d C w b tb ub ob pb ra rc vs dn un s) (hlt : ∀ i ∈ s.done, i < d.steps.length) (hN9 : d.steps.length ≤ 100000) (hd9 : s.done.length ≤ 1000000) (hu9 : s.undone.length ≤ 1000000) :
    Calls Tryz.prog 29 #[.pointer (some ⟨b, 0, none⟩)] w fun e w' => e = .returned (.int .i64 (toV (P33.turn d.bare s))) ∧ w' = w := by
  have hback : ∀ i s1, d.steps[i]? = some s1 → P33.back d.bare s i = (!s1.undo.isEmpty && !decide (i ∈ s.undone)) := fun i s1 hs => by
    unfold P33.back P33.undoOf P28.undos
    rw [List.getD_eq_getElem?_getD]
    simp [PDef.bare, PSt.bare, hs]
  have hst : ∀ i s1, d.steps[i]? = some s1 → ∃ b1 o1, d.sa = some ⟨b1, o1, none⟩ ∧ w.cell? ⟨b1, o1 + i * 13 + 2, none⟩ = some (.string ⟨s1.undo.toArray⟩) := fun i s1 hs => by
    obtain ⟨⟨b1, o1, hsa, hat⟩, _⟩ := h.din.steps i s1 hs
    exact ⟨b1, o1, hsa, (step_cells hat).1.2.2.1⟩
  obtain ⟨da, dc, hdn, _, _, hind⟩ := h.dno.slice
  obtain ⟨ua, uc, hun, _, _, hinu⟩ := h.uno.slice
  have k2 : w.cell? ⟨b, 2, none⟩ = some (.slice d.sa d.steps.length d.sc) := h.cell (o := 2) rfl
  have k8 : w.cell? ⟨b, 8, none⟩ = some dn := h.cell (o := 8) rfl
  have k9 : w.cell? ⟨b, 9, none⟩ = some un := h.cell (o := 9) rfl
  rw [hdn] at k8
  rw [hun] at k9
  have hhas := fun i => Has_any ua uc s.undone i w hinu hu9
  obtain ⟨T, hT⟩ : ∃ t, P33.turn d.bare s = t := ⟨_, rfl⟩
  rw [hT]
  have ht0 : ((s.done.take s.done.length).reverse).find? (P33.back d.bare s) = T := by rw [List.take_length, ← hT]; rfl
  obtain ⟨N, hN⟩ : ∃ N, d.steps.length = N := ⟨_, rfl⟩
  obtain ⟨D, hD⟩ : ∃ D, s.done.length = D := ⟨_, rfl⟩
  obtain ⟨U, hU⟩ : ∃ D, s.undone.length = D := ⟨_, rfl⟩
  rw [hN] at k2 hlt hN9
  rw [hD] at k8 hd9 ht0
  rw [hU] at k9 hu9
  simp only [hU] at hhas
  have HHAS := hide hhas
  have HBACK := hide hback
  have HST := hide hst
  have HIND := hide hind
  have HLT := hide hlt
  have HT0 := hide ht0
  have HN := hide hN
  have HD := hide hD
  clear hhas hback hst hind hinu hlt ht0 hN hD hT h hdn hun hU
  have hD1 : IntKind.i64.wrap ((D : Int) - 1) = (D : Int) - 1 := IntWalk.i64_in _ (by omega)
  go_enter Tryz.func29, Tryz.ntmps29
  go_wp2
  go_loopg [3] D (fun g s3 wx => ∃ k : Int, k + 1 = (g : Int) ∧ g ≤ D ∧ s3 = .int .i64 k ∧ w = wx ∧ Hid (((s.done.take g).reverse).find? (P33.back d.bare s) = T))
  case atStart => exact ⟨(D : Int) - 1, by omega, Nat.le_refl _, rfl, rfl, HT0⟩
  case round =>
    obtain ⟨k, hk, hgD, rfl, hw, HT⟩ := hrel
    subst hw
    cases gk with
    | zero =>
      obtain rfl : k = -1 := by omega
      have e : T = none := by rw [← unhide HT]; rfl
      subst e
      go_wp2
      go_ret
      exact ⟨rfl, rfl⟩
    | succ g' =>
      obtain rfl : k = (g' : Int) := by omega
      have h0 : (0 : Int) ≤ (g' : Int) := by omega
      have hkj : IntKind.i64.wrap ((g' : Int) - 1) = (g' : Int) - 1 := IntWalk.i64_in _ (by omega)
      have hgl : (g' : Int) < (D : Int) := by omega
      obtain ⟨i, hi⟩ := nth_of (unhide HD) (show g' < D by omega)
      obtain ⟨b2, o2, rfl, ci⟩ := unhide HIND g' i hi
      unfold iv at ci
      have hiN := unhide HLT i (List.mem_of_getElem? hi)
      have hiN2 : (i : Int) < (N : Int) := by omega
      obtain ⟨s1, hs1⟩ := nth_of (unhide HN) hiN
      obtain ⟨b1, o1, hsa, cu⟩ := unhide HST i s1 hs1
      rw [hsa] at k2
      have hb := unhide HBACK i s1 hs1
      have ht := unhide HT
      rw [List.take_add_one, hi, Option.toList_some, List.reverse_append, List.reverse_singleton, List.singleton_append, List.find?_cons, hb] at ht
      obtain ⟨un1, hun1⟩ : ∃ u, s1.undo = u := ⟨_, rfl⟩
      rw [hun1] at cu ht
      have HH := hide (unhide HHAS i)
      clear hi hs1 hsa hb hun1
      cases un1 with
      | nil =>
        have HT2 : Hid (((s.done.take g').reverse).find? (P33.back d.bare s) = T) := hide (by simpa using ht)
        clear ht
        go_wp2
        go_roundg g'
        case measure => omega
        case rel => exact ⟨(g' : Int) - 1, by omega, by omega, rfl, rfl, HT2⟩
      | cons u0 ur =>
        by_cases hm : i ∈ s.undone
        · have hh := unhide HH
          rw [decide_eq_true hm] at hh
          have HH2 := hide hh
          have HT2 : Hid (((s.done.take g').reverse).find? (P33.back d.bare s) = T) := hide (by simpa [hm] using ht)
          clear ht hh HH hm
          go_wp2_with (go_at_call 31; refine (unhide HH2).mono ?_; rintro e w3 ⟨rfl, hw⟩; have hw := hw.symm; subst hw)
          go_roundg g'
          case measure => omega
          case rel => exact ⟨(g' : Int) - 1, by omega, by omega, rfl, rfl, HT2⟩
        · have hh := unhide HH
          rw [decide_eq_false hm] at hh
          have HH2 := hide hh
          have e : T = some i := by rw [← ht]; simp [hm]
          subst e
          clear ht hh HH hm
          go_wp2_with (go_at_call 31; refine (unhide HH2).mono ?_; rintro e w3 ⟨rfl, hw⟩; have hw := hw.symm; subst hw)
          go_ret
          exact ⟨rfl, rfl⟩
end Go.Proofs.YtefokfbgpfcbkaaGreat
namespace Go.Proofs.YtefokfbgpfcbkaaGreat
set_option linter.unusedVariables false
set_option linter.unusedSimpArgs false
open Go.RowKit
theorem RowsN.keepB {W W' : World} {B n rc : Nat} {ra : Option Addr} {vs : List Value} {RS : List (List Nat)} (h : RowsN W B (.slice ra n rc) vs RS) (hk : ∀ g, rowsB ra vs g → W'.heap[g]? = W.heap[g]?) : RowsN W' B (.slice ra n rc) vs RS := by
  refine ⟨own_keep h.own (fun g hg => hk g (.inl ?_)), h.len, fun i u l hu hl => (h.row i u l hu hl).keep (fun g hg => hk g (.inr ⟨u, List.mem_of_getElem? hu, hg⟩)), h.apart⟩
  cases ra with
  | none => cases hg
  | some a =>
    obtain ⟨q, o, x⟩ := a
    cases hg
    rcases h.own.2 with ⟨e, _⟩ | ⟨g2, cap, cur, e, _⟩
    · cases e
    · cases e
      exact ⟨_, rfl⟩
structure KM (M : Nat → Prop) (W : World) (M' : Nat → Prop) (W' : World) : Prop where
  size : W.heap.size ≤ W'.heap.size
  same : ∀ g, ¬ M g → g < W.heap.size → W'.heap[g]? = W.heap[g]?
  sub : ∀ g, M' g → M g ∨ W.heap.size ≤ g
  os : W'.os = W.os
  tape : W'.tape = W.tape
  output : W'.output = W.output
theorem KM.refl (M : Nat → Prop) (W : World) : KM M W M W := ⟨Nat.le_refl _, fun _ _ _ => rfl, fun _ h => .inl h, rfl, rfl, rfl⟩
theorem KM.trans {M M1 M2 : Nat → Prop} {A B C : World} (h : KM M A M1 B) (k : KM M1 B M2 C) : KM M A M2 C :=
  ⟨Nat.le_trans h.size k.size, fun g hg hl => (k.same g (fun e => (h.sub g e).elim hg (fun q => by omega)) (Nat.lt_of_lt_of_le hl h.size)).trans (h.same g hg hl), fun g hg => (k.sub g hg).elim (fun e => h.sub g e) (fun q => .inr (Nat.le_trans h.size q)), k.os.trans h.os, k.tape.trans h.tape, k.output.trans h.output⟩
def rmB (b tb ub ob pb : Nat) (dn un : Value) (g : Nat) : Prop := g ∈ [b, tb, ub, ob, pb] ∨ dn.ownBlock = some g ∨ un.ownBlock = some g
section
variable {d : PDef} {C : Nat} {W W' : World} {b tb ub ob pb rc : Nat} {ra : Option Addr} {vs : List Value} {dn un : Value} {s s' : P33.S}
theorem RM.keep (h : RM d C W b tb ub ob pb ra rc vs dn un s) (hk : ∀ g, rmB b tb ub ob pb dn un g ∨ rowsB ra vs g ∨ d.blk g → W'.heap[g]? = W.heap[g]?) : RM d C W' b tb ub ob pb ra rc vs dn un s :=
  ⟨h.din.keep (fun g hg => hk g (.inr (.inr hg))), h.dlt, (hk b (.inl (.inl (by simp)))).trans h.box, h.rows.keepB (fun g hg => hk g (.inr (.inl hg))), h.tr.of_block (hk _ (.inl (.inl (by simp)))), h.ut.of_block (hk _ (.inl (.inl (by simp)))), h.op.of_block (hk _ (.inl (.inl (by simp)))), h.up.of_block (hk _ (.inl (.inl (by simp)))),
   h.dno.keep (fun g hg => hk g (.inl (.inr (.inl hg)))), h.uno.keep (fun g hg => hk g (.inl (.inr (.inr hg)))), h.low, h.nd, h.fd, h.fu, h.fr⟩
theorem RM.setBox (h : RM d C W b tb ub ob pb ra rc vs dn un s) (hbx : W'.heap[b]? = some (.cells (rmC d tb ub ob pb ra rc dn un s') 51)) (ho : ∀ g, g ≠ b → W'.heap[g]? = W.heap[g]?) (hw : s'.w = s.w) (hd : s'.done = s.done) (hu : s'.undone = s.undone) :
    RM d C W' b tb ub ob pb ra rc vs dn un s' := by
  obtain ⟨l1, l2, l3, l4, l5⟩ := h.low
  have hnd := h.nd
  simp only [List.nodup_cons, List.mem_cons, List.not_mem_nil, or_false, not_or] at hnd
  obtain ⟨⟨n1, n2, n3, n4⟩, _⟩ := hnd
  refine ⟨h.din.keep (fun g hg => ho g (by have := h.dlt g hg; omega)), h.dlt, hbx, h.rows.keepB (fun g hg => ho g (fun e => (h.fr g hg).1 (by rw [e]; simp))), ?_, ?_, ?_, ?_, ?_, ?_, h.low, h.nd, h.fd, h.fu, h.fr⟩
  · rw [hw]; exact h.tr.of_block (ho _ (fun e => n1 e.symm))
  · rw [hw]; exact h.ut.of_block (ho _ (fun e => n2 e.symm))
  · rw [hw]; exact h.op.of_block (ho _ (fun e => n3 e.symm))
  · rw [hw]; exact h.up.of_block (ho _ (fun e => n4 e.symm))
  · rw [hd]; exact h.dno.keep (fun g hg => ho g (fun e => h.fd g hg (by rw [e]; simp)))
  · rw [hu]; exact h.uno.keep (fun g hg => ho g (fun e => (h.fu g hg).1 (by rw [e]; simp)))
theorem RM.status (h : RM d C W b tb ub ob pb ra rc vs dn un s) (st : Nat) : RM d C (W.setCell ⟨b, 11, none⟩ (.int .u8 st)) b tb ub ob pb ra rc vs dn un { s with status := st } :=
  h.setBox (setH h.box) (fun g hg => Below.heap_setCell _ _ _ _ hg) rfl rfl rfl
theorem RM.keepsBox (h : RM d C W b tb ub ob pb ra rc vs dn un s) (o : Nat) (v : Value) : KM (rmB b tb ub ob pb dn un) W (rmB b tb ub ob pb dn un) (W.setCell ⟨b, o, none⟩ v) :=
  ⟨by simp, fun r hr _ => Below.heap_setCell _ _ _ _ (fun e => hr (.inl (by rw [e]; simp))), fun _ hr => .inl hr, rfl, rfl, rfl⟩
end
structure RMX (d : PDef) (C b : Nat) (s : P33.S) (M R : Nat → Prop) (V : World) : Prop where
  ex : ∃ (tb ub ob pb : Nat) (ra : Option Addr) (rc : Nat) (vs : List Value) (dn un : Value), RM d C V b tb ub ob pb ra rc vs dn un s ∧ M = rmB b tb ub ob pb dn un ∧ R = rowsB ra vs
set_option maxRecDepth 100000 in
set_option maxHeartbeats 2000000 in
theorem RHalts_any {d : PDef} {C b : Nat} {s : P33.S} {M R : Nat → Prop} (w : World) (h : RMX d C b s M R w) :
    Calls Tryz.prog 21 #[.pointer (some ⟨b, 0, none⟩)] w fun e w' => e = .returned (.int .i64 (P33.halts s).1) ∧ ∃ M', RMX d C b (P33.halts s).2 M' R w' ∧ KM M w M' w' := by
  obtain ⟨tb, ub, ob, pb, ra, rc, vs, dn, un, h1, rfl, rfl⟩ := h.ex
  have k11 : w.cell? ⟨b, 11, none⟩ = some (.int .u8 s.status) := h1.cell (o := 11) rfl
  have f11 : w.frozen? ⟨b, 11, none⟩ = false := by have := h1.box; simp [World.frozen?, this]
  unfold P33.halts
  by_cases hs : s.status = 1
  · rw [if_neg (by simp [hs])]
    have HS := h1.status 2
    have HK := h1.keepsBox 11 (.int .u8 2)
    rw [hs] at k11
    have HH := hide (And.intro HS HK)
    clear h h1 HS HK hs
    go_enter Tryz.func21, Tryz.ntmps21
    go_wp2
    go_ret
    exact ⟨rfl, _, ⟨_, _, _, _, _, _, _, _, _, (unhide HH).1, rfl, rfl⟩, (unhide HH).2⟩
  · rw [if_pos hs]
    obtain ⟨st, hst⟩ : ∃ st, s.status = st := ⟨_, rfl⟩
    rw [hst] at k11 hs
    have hb : ((st : Int) != 1) = true := by simp; omega
    have HH := hide h
    clear h h1 hst hs
    go_enter Tryz.func21, Tryz.ntmps21
    go_wp2
    go_ret
    exact ⟨rfl, _, unhide HH, KM.refl _ _⟩
end Go.Proofs.YtefokfbgpfcbkaaGreat
namespace Go.Proofs.YtefokfbgpfcbkaaGreat
set_option linter.unusedVariables false
set_option linter.unusedSimpArgs false
open Go.RowKit
structure RInv (d : PDef) (s : P33.S) : Prop where
  tries : ∀ i u, i < d.steps.length → 0 ≤ (s.w i u).1 ∧ (s.w i u).1 ≤ P33.most (P33.triesOf d.bare i) ∧ ((s.w i u).2 = true → 1 ≤ (s.w i u).1)
  most : ∀ i, i < d.steps.length → 1 ≤ P33.most (P33.triesOf d.bare i)
  st : 1 ≤ s.status ∧ s.status ≤ 5
  lt : ∀ i ∈ s.done, i < d.steps.length
  dl : s.done.length ≤ 1000000
  ul : s.undone.length ≤ 1000000
theorem turn_mem {d : P22.Def} {s : P33.S} {i : Nat} (h : P33.turn d s = some i) : i ∈ s.done := by
  have := List.mem_of_find?_eq_some h
  simpa using this
theorem last_eq {d : PDef} {s : P33.S} (h : RInv d s) {i : Nat} (hi : i < d.steps.length) (ht : P33.turn d.bare s = some i) : P33.lastT d.bare s = ((s.w i true).1 == P33.most (P33.triesOf d.bare i)) := by
  obtain ⟨h1, h2, _⟩ := h.tries i true hi
  have h3 := h.most i hi
  unfold P33.lastT P33.more
  rw [ht]
  simp only
  rw [Bool.eq_iff_iff]
  simp only [Bool.and_eq_true, decide_eq_true_eq, Bool.not_eq_true', Bool.and_eq_false_iff, decide_eq_false_iff_not, beq_iff_eq]
  omega
theorem keepsBelow {M : Nat → Prop} {W W' : World} (h : Below W.heap.size W W') : KM M W M W' := ⟨h.size, fun r _ hl => h.block r hl, fun _ hr => .inl hr, h.os, h.tape, h.output⟩
section
variable {d : PDef} {C : Nat} {w V : World} {b tb ub ob pb rc : Nat} {ra : Option Addr} {vs : List Value} {dn un : Value} {s : P33.S}
theorem RM.finNo (h : RM d C w b tb ub ob pb ra rc vs dn un s) (hb : Below w.heap.size w V) : ∃ M', RMX d C b s M' (rowsB ra vs) V ∧ KM (rmB b tb ub ob pb dn un) w M' V :=
  ⟨_, ⟨_, _, _, _, _, _, _, _, _, h.below hb, rfl, rfl⟩, keepsBelow hb⟩
theorem RM.finSt (h : RM d C w b tb ub ob pb ra rc vs dn un s) (hb : Below w.heap.size w V) (st : Nat) : ∃ M', RMX d C b { s with status := st } M' (rowsB ra vs) (V.setCell ⟨b, 11, none⟩ (.int .u8 st)) ∧ KM (rmB b tb ub ob pb dn un) w M' (V.setCell ⟨b, 11, none⟩ (.int .u8 st)) :=
  ⟨_, ⟨_, _, _, _, _, _, _, _, _, (h.below hb).status st, rfl, rfl⟩, (keepsBelow hb).trans ((h.below hb).keepsBox 11 _)⟩
theorem RM.f11 (h : RM d C w b tb ub ob pb ra rc vs dn un s) : w.frozen? ⟨b, 11, none⟩ = false := by have := h.box; simp [World.frozen?, this]
end
set_option maxRecDepth 100000 in
set_option maxHeartbeats 8000000 in
theorem REnds_any {d : PDef} {C b : Nat} {s : P33.S} {M R : Nat → Prop} (st : Nat) (w : World) (h : RMX d C b s M R w) (hi : RInv d s) (hN9 : d.steps.length ≤ 100000) :
    Calls Tryz.prog 23 #[.pointer (some ⟨b, 0, none⟩), .int .u8 (st : Int)] w fun e w' => e = .returned (.int .i64 (P33.ends d.bare s st).1) ∧ ∃ M', RMX d C b (P33.ends d.bare s st).2 M' R w' ∧ KM M w M' w' := by
  obtain ⟨tb, ub, ob, pb, ra, rc, vs, dn, un, h1, rfl, rfl⟩ := h.ex
  have k11 : w.cell? ⟨b, 11, none⟩ = some (.int .u8 s.status) := h1.cell (o := 11) rfl
  have f11 : w.frozen? ⟨b, 11, none⟩ = false := by have := h1.box; simp [World.frozen?, this]
  have k10 : w.cell? ⟨b, 10, none⟩ = some (.bool s.failed) := h1.cell (o := 10) rfl
  have k8 : w.cell? ⟨b, 8, none⟩ = some dn := h1.cell (o := 8) rfl
  have k4 : w.cell? ⟨b, 4, none⟩ = some (.slice (some ⟨tb, 0, none⟩) d.steps.length d.steps.length) := h1.cell (o := 4) rfl
  have k5 : w.cell? ⟨b, 5, none⟩ = some (.slice (some ⟨ub, 0, none⟩) d.steps.length d.steps.length) := h1.cell (o := 5) rfl
  obtain ⟨da, dc, hdn, _⟩ := h1.dno.slice
  rw [hdn] at k8
  have hturn := fun n => RTurn_any (w.drewN n) (h1.below (below_drewN (Below.refl _ _))) hi.lt hN9 hi.dl hi.ul
  obtain ⟨T, hT⟩ : ∃ t, P33.turn d.bare s = t := ⟨_, rfl⟩
  rw [hT] at hturn
  obtain ⟨N, hN⟩ : ∃ N, d.steps.length = N := ⟨_, rfl⟩
  obtain ⟨D, hD⟩ : ∃ D, s.done.length = D := ⟨_, rfl⟩
  obtain ⟨ST, hST⟩ : ∃ x, s.status = x := ⟨_, rfl⟩
  obtain ⟨FA, hFA⟩ : ∃ x, s.failed = x := ⟨_, rfl⟩
  have hst := hi.st
  have hlast := fun i (hil : i < d.steps.length) (ht : P33.turn d.bare s = some i) => last_eq hi hil ht
  have hmost := fun i (h : i < d.steps.length) V (hV : Below w.heap.size w V) => RMost_any i V (h1.below hV) h hN9
  have hut : ∀ i, i < N → w.cell? ⟨ub, i, none⟩ = some (.int .i64 (s.w i true).1) := fun i h => h1.ut.cell (by rw [hN]; exact h)
  have hTl : ∀ i, T = some i → i < N := fun i e => by rw [← hN]; exact hi.lt i (turn_mem (hT.trans e))
  have hends : P33.ends d.bare s st = if 2 < ST then (13, s) else if st ≠ 3 ∧ st ≠ 4 ∧ st ≠ 5 then (1, s) else if (if st = 3 then (decide (ST = 1) && decide (D = N)) else if st = 4 then !(decide (ST = 1) && decide (D = N)) && T.isNone else FA || P33.lastT d.bare s) = false then (8, s) else (0, { s with status := st }) := by
    unfold P33.ends P33.moving P33.whole
    rw [hT, hST, hFA, hD, show d.bare.steps.length = N by simpa [PDef.bare] using hN]
    have : ((ST == 1 || ST == 2) = false) ↔ 2 < ST := by simp; omega
    by_cases h2 : 2 < ST
    · rw [if_pos h2, if_pos (this.2 h2)]
    · rw [if_neg h2, if_neg (fun e => h2 (this.1 e))]
      rfl
  rw [hends]
  rw [hST] at k11 hst
  rw [hFA] at k10
  rw [hD] at k8
  rw [hN] at k4 k5
  have HT := hide hturn
  have HX := hide h
  have HRM := hide h1
  have HMOST := hide hmost
  have HI := hide hi
  have HUT := hide hut
  have HTL := hide hTl
  have HTT := hide hT
  have HLAST := hide hlast
  have HN := hide hN
  clear hturn h h1 hmost hi hut hTl hT hlast hN hD hST hFA hends hdn
  by_cases h2 : 2 < ST
  · rw [if_pos h2]
    have h2i : (2 : Int) < (ST : Int) := by omega
    go_enter Tryz.func23, Tryz.ntmps23
    go_wp2
    go_ret
    exact ⟨rfl, _, unhide HX, KM.refl _ _⟩
  rw [if_neg h2]
  have h2i : ¬ (2 : Int) < (ST : Int) := by omega
  have h2b : decide ((2 : Int) < (ST : Int)) = false := by simp; omega
  have h2c : ¬ 2 < ST := h2
  have hlast2 : ∀ i, T = some i → P33.lastT d.bare s = ((s.w i true).1 == P33.most (P33.triesOf d.bare i)) := fun i e => unhide HLAST i (by rw [unhide HN]; exact unhide HTL i e) ((unhide HTT).trans e)
  have hmost2 : ∀ i, i < N → ∀ V, Below w.heap.size w V → Calls Tryz.prog 75 #[.pointer (some ⟨b, 0, none⟩), .int .i64 (i : Int)] V fun e w' => e = .returned (.int .i64 (P33.most (P33.triesOf d.bare i))) ∧ Below V.heap.size V w' := fun i hi V hV => unhide HMOST i (by rw [unhide HN]; exact hi) V hV
  have HMOST2 := hide hmost2
  have HLAST2 := hide hlast2
  obtain ⟨q1, hq1⟩ : ∃ q, decide (ST = 1) = q := ⟨_, rfl⟩
  obtain ⟨qa, hqa⟩ : ∃ q, decide (D = N) = q := ⟨_, rfl⟩
  have e1 : ((ST : Int) == 1) = q1 := by rw [← hq1, Bool.eq_iff_iff]; simp; omega
  have ea : ((D : Int) == (N : Int)) = qa := by rw [← hqa, Bool.eq_iff_iff]; simp; omega
  have ea2 : (D == N) = qa := by rw [← hqa, Bool.eq_iff_iff]; simp
  obtain ⟨LT, hLT⟩ : ∃ x, P33.lastT d.bare s = x := ⟨_, rfl⟩
  rw [hq1, hqa, hLT]
  obtain ⟨R, hR⟩ : ∃ R : Int × P33.S, (if st ≠ 3 ∧ st ≠ 4 ∧ st ≠ 5 then ((1 : Int), s) else if (if st = 3 then (q1 && qa) else if st = 4 then !(q1 && qa) && T.isNone else FA || LT) = false then (8, s) else (0, { s with status := st })) = R := ⟨_, rfl⟩
  rw [hR]
  have HR := hide hR
  have HLT := hide hLT
  have HE1 := hide e1
  have HEA := hide (And.intro ea (And.intro ea2 hqa))
  clear hR hLT hq1 hqa e1 ea ea2 hmost2 hlast2 h2
  go_enter Tryz.func23, Tryz.ntmps23
  go_upto_region 3 with fail
  obtain ⟨ea, ea2, hqa⟩ := unhide HEA
  refine wp_region_quiet_lit (by kernel_rfl) (by kernel_rfl) ?_
  repeat (go_big_quiet_step (fail))
  refine wpQuiet_nil ?_
  intro _ hw'
  obtain ⟨nq, hw''⟩ := hw'
  subst hw''
  clear ea ea2 hqa
  go_upto_region 5 with (go_at_call 29; refine (unhide HT nq).mono ?_; rintro e w2 ⟨rfl, hw⟩; have hw := hw.symm; subst hw)
  have hbn : Below w.heap.size w (w.drewN nq) := below_drewN (Below.refl _ _)
  have e1 := unhide HE1
  have HBN := hide hbn
  have hff := (unhide HRM).f11
  clear hbn HT HX HE1 HEA k4 k8 HMOST HLAST hst
  by_cases h3 : st = 3
  · subst h3
    cases q1 <;> cases qa
    all_goals (
      have hr := unhide HR
      simp at hr
      subst hr
      go_wp2
      go_ret
      first
        | exact ⟨rfl, (unhide HRM).finNo (unhide HBN)⟩
        | exact ⟨rfl, (unhide HRM).finSt (unhide HBN) 3⟩)
  have h3b : ((st : Int) == 3) = false := by simp; omega
  by_cases h4 : st = 4
  · subst h4
    cases T with
    | none =>
      have e0 : toV none = -1 := rfl
      cases q1 <;> cases qa
      all_goals (
        have hr := unhide HR
        simp at hr
        subst hr
        go_wp2
        go_ret
        first
          | exact ⟨rfl, (unhide HRM).finNo (unhide HBN)⟩
          | exact ⟨rfl, (unhide HRM).finSt (unhide HBN) 4⟩)
    | some j =>
      have e0 : toV (some j) = (j : Int) := rfl
      have hj : ¬ (j : Int) < 0 := by omega
      have hj2 : decide ((j : Int) < 0) = false := by simp
      cases q1 <;> cases qa
      all_goals (
        have hr := unhide HR
        simp at hr
        subst hr
        go_wp2
        go_ret
        first
          | exact ⟨rfl, (unhide HRM).finNo (unhide HBN)⟩
          | exact ⟨rfl, (unhide HRM).finSt (unhide HBN) 4⟩)
  have h4b : ((st : Int) == 4) = false := by simp; omega
  by_cases h5 : st = 5
  · subst h5
    cases FA with
    | true =>
      have hr := unhide HR
      simp at hr
      subst hr
      go_upto_region 13 with fail
      go_quiet (fail)
      go_wp2
      go_ret
      exact ⟨rfl, (unhide HRM).finSt (below_drewN (Below.refl _ _)) 5⟩
    | false =>
      cases T with
      | none =>
        have e0 : toV none = -1 := rfl
        have hl : LT = false := by
          rw [← unhide HLT]
          unfold P33.lastT
          rw [unhide HTT]
        have hr := unhide HR
        rw [hl] at hr
        simp at hr
        subst hr
        clear hl
        go_upto_region 13 with fail
        go_quiet (fail)
        go_wp2
        go_ret
        exact ⟨rfl, (unhide HRM).finNo (below_drewN (Below.refl _ _))⟩
      | some j =>
        have e0 : toV (some j) = (j : Int) := rfl
        have hjN := unhide HTL j rfl
        have hj0 : (0 : Int) ≤ (j : Int) := by omega
        have hjN2 : (j : Int) < (N : Int) := by omega
        have cu := unhide HUT j hjN
        have hl := unhide HLAST2 j rfl
        have hmo := fun V hV => unhide HMOST2 j hjN V hV
        obtain ⟨U1, hU1⟩ : ∃ u, (s.w j true).1 = u := ⟨_, rfl⟩
        obtain ⟨MO, hMO⟩ : ∃ u, P33.most (P33.triesOf d.bare j) = u := ⟨_, rfl⟩
        rw [hU1] at cu hl
        rw [hMO] at hmo hl
        rw [unhide HLT] at hl
        obtain ⟨U, hU⟩ : ∃ U, w.drewN nq = U := ⟨_, rfl⟩
        have hbu : Below w.heap.size w U := by rw [← hU]; exact unhide HBN
        have hk : U.cell? ⟨b, 5, none⟩ = some (.slice (some ⟨ub, 0, none⟩) N N) ∧ U.cell? ⟨b, 10, none⟩ = some (.bool false) ∧ U.cell? ⟨ub, (j : Nat), none⟩ = some (.int .i64 U1) := by
          rw [← hU]
          exact ⟨k5, k10, cu⟩
        have hbl : b < U.heap.size ∧ ub < U.heap.size := ⟨cellLt hk.1, cellLt hk.2.2⟩
        obtain ⟨r5, r10, ru⟩ := hk
        rw [hU]
        have HMO := hide hmo
        have HL := hide hl
        have HBU := hide hbu
        clear hl hmo hU1 hMO hU hbu hjN cu k5 k10 HBN HUT HTL HMOST2 HLAST2 HTT
        go_upto_region 13 with fail
        go_region_held3 (fun w' => w'.cell? ⟨b, 5, none⟩ = some (.slice (some ⟨ub, 0, none⟩) N N) ∧ w'.cell? ⟨b, 10, none⟩ = some (.bool false) ∧ w'.cell? ⟨ub, (j : Nat), none⟩ = some (.int .i64 U1)) (first | exact ⟨r5, r10, ru⟩ | exact S4) (first
          | (go_at_call 75; ((refine (unhide HMO _ (by first | exact unhide HBU | exact (unhide HBU).drew | exact (unhide HBU).trans (below_drewN (n := 1) (Below.refl _ _)))).mono ?_)); rintro e w4 ⟨rfl, hb4⟩; have S4 : w4.cell? ⟨b, 5, none⟩ = some (.slice (some ⟨ub, 0, none⟩) N N) ∧ w4.cell? ⟨b, 10, none⟩ = some (.bool false) ∧ w4.cell? ⟨ub, (j : Nat), none⟩ = some (.int .i64 U1) := ⟨(cell_of_block (hb4.block b hbl.1) _).trans r5, (cell_of_block (hb4.block b hbl.1) _).trans r10, (cell_of_block (hb4.block ub hbl.2) _).trans ru⟩))
        have hb4w : Below w.heap.size w w4 := by
          have := (unhide HBU).size
          first
            | exact (unhide HBU).trans (hb4.mono this)
            | exact (unhide HBU).drew.trans (hb4.mono (by simpa using this))
        have HB4 := hide hb4w
        have f4 := ((unhide HRM).below hb4w).f11
        have k4c : w4.cell? ⟨b, 11, none⟩ = some (.int .u8 s.status) := ((unhide HRM).below hb4w).cell (o := 11) rfl
        have hl := unhide HL
        clear hb4 hb4w S4 r5 r10 ru
        cases hq : (U1 == MO) with
        | true =>
          have hr := unhide HR
          rw [hl, hq] at hr
          simp at hr
          subst hr
          clear hl
          go_wp2
          go_ret
          exact ⟨rfl, (unhide HRM).finSt (unhide HB4) 5⟩
        | false =>
          have hr := unhide HR
          rw [hl, hq] at hr
          simp at hr
          subst hr
          clear hl
          go_wp2
          go_ret
          exact ⟨rfl, (unhide HRM).finNo (unhide HB4)⟩
  · have h5b : ((st : Int) == 5) = false := by simp; omega
    have hr := unhide HR
    rw [if_pos ⟨h3, h4, h5⟩] at hr
    subst hr
    clear h3 h4 h5
    go_wp2
    go_ret
    exact ⟨rfl, (unhide HRM).finNo (unhide HBN)⟩
end Go.Proofs.YtefokfbgpfcbkaaGreat
namespace Go.Proofs.YtefokfbgpfcbkaaGreat
set_option linter.unusedVariables false
set_option linter.unusedSimpArgs false
open Go.RowKit
section
variable {d : PDef} {C : Nat} {W W' : World} {b tb ub ob pb rc : Nat} {ra : Option Addr} {vs : List Value} {dn un : Value} {s s' : P33.S}
theorem RM.setW (h : RM d C W b tb ub ob pb ra rc vs dn un s) {x : Nat} (hx : x ∈ [tb, ub, ob, pb]) (ho : ∀ g, g ≠ x → W'.heap[g]? = W.heap[g]?)
    (h1 : W'.rowIs tb 3 d.steps.length (fun j => .int .i64 (s'.w j false).1)) (h2 : W'.rowIs ub 3 d.steps.length (fun j => .int .i64 (s'.w j true).1))
    (h3 : W'.rowIs ob 4 d.steps.length (fun j => .bool (s'.w j false).2)) (h4 : W'.rowIs pb 4 d.steps.length (fun j => .bool (s'.w j true).2))
    (hd : s'.done = s.done) (hu : s'.undone = s.undone) (hf : s'.failed = s.failed) (hs : s'.status = s.status) : RM d C W' b tb ub ob pb ra rc vs dn un s' := by
  have hxb : x ∈ [b, tb, ub, ob, pb] := List.mem_cons_of_mem _ hx
  have hbx : b ≠ x := fun e => (List.nodup_cons.1 h.nd).1 (by rw [e]; exact hx)
  have hxC : C ≤ x := by
    obtain ⟨l1, l2, l3, l4, l5⟩ := h.low
    simp only [List.mem_cons, List.not_mem_nil, or_false] at hx
    omega
  refine ⟨h.din.keep (fun g hg => ho g (by have := h.dlt g hg; omega)), h.dlt, ?_, h.rows.keepB (fun g hg => ho g (fun e => (h.fr g hg).1 (by rw [e]; exact hxb))), h1, h2, h3, h4, ?_, ?_, h.low, h.nd, h.fd, h.fu, h.fr⟩
  · rw [ho b hbx, h.box]
    unfold rmC
    rw [hf, hs]
  · rw [hd]; exact h.dno.keep (fun g hg => ho g (fun e => h.fd g hg (by rw [e]; exact hxb)))
  · rw [hu]; exact h.uno.keep (fun g hg => ho g (fun e => (h.fu g hg).1 (by rw [e]; exact hxb)))
theorem keepsSet {M : Nat → Prop} {W : World} {x o : Nat} {v : Value} (hx : M x) : KM M W M (W.setCell ⟨x, o, none⟩ v) :=
  ⟨by simp, fun r hr _ => Below.heap_setCell _ _ _ _ (fun e => hr (by rw [e]; exact hx)), fun _ hr => .inl hr, rfl, rfl, rfl⟩
theorem RM.ne (h : RM d C W b tb ub ob pb ra rc vs dn un s) : (tb ≠ ub ∧ tb ≠ ob ∧ tb ≠ pb) ∧ (ub ≠ ob ∧ ub ≠ pb) ∧ ob ≠ pb := by
  have hnd := h.nd
  simp only [List.nodup_cons, List.mem_cons, List.not_mem_nil, or_false, not_or] at hnd
  obtain ⟨_, ⟨a1, a2, a3⟩, ⟨b1, b2⟩, c1, _⟩ := hnd
  exact ⟨⟨a1, a2, a3⟩, ⟨b1, b2⟩, c1⟩
theorem RM.setOpen (h : RM d C W b tb ub ob pb ra rc vs dn un s) (i : Nat) (hi : i < d.steps.length) (v : Bool) :
    RM d C (W.setCell ⟨ob, i, none⟩ (.bool v)) b tb ub ob pb ra rc vs dn un { s with w := P33.upd s.w i false ((s.w i false).1, v) } := by
  obtain ⟨⟨a1, a2, a3⟩, ⟨b1, b2⟩, c1⟩ := h.ne
  have ho : ∀ g, g ≠ ob → (W.setCell ⟨ob, i, none⟩ (.bool v)).heap[g]? = W.heap[g]? := fun g hg => Below.heap_setCell _ _ _ _ hg
  refine h.setW (x := ob) (by simp) ho ?_ ?_ ?_ ?_ rfl rfl rfl rfl
  · exact (h.tr.of_block (ho _ a2)).congr (fun j hj => by simp only [P33.upd]; split <;> simp_all)
  · exact (h.ut.of_block (ho _ b1)).congr (fun j hj => by simp only [P33.upd]; split <;> simp_all)
  · exact (h.op.set i (.bool v)).congr (fun j hj => by simp only [P33.upd]; by_cases e : j = i <;> simp [e])
  · exact (h.up.of_block (ho _ (Ne.symm c1))).congr (fun j hj => by simp only [P33.upd]; split <;> simp_all)
theorem RM.setUnOpen (h : RM d C W b tb ub ob pb ra rc vs dn un s) (i : Nat) (hi : i < d.steps.length) (v : Bool) :
    RM d C (W.setCell ⟨pb, i, none⟩ (.bool v)) b tb ub ob pb ra rc vs dn un { s with w := P33.upd s.w i true ((s.w i true).1, v) } := by
  obtain ⟨⟨a1, a2, a3⟩, ⟨b1, b2⟩, c1⟩ := h.ne
  have ho : ∀ g, g ≠ pb → (W.setCell ⟨pb, i, none⟩ (.bool v)).heap[g]? = W.heap[g]? := fun g hg => Below.heap_setCell _ _ _ _ hg
  refine h.setW (x := pb) (by simp) ho ?_ ?_ ?_ ?_ rfl rfl rfl rfl
  · exact (h.tr.of_block (ho _ a3)).congr (fun j hj => by simp only [P33.upd]; split <;> simp_all)
  · exact (h.ut.of_block (ho _ b2)).congr (fun j hj => by simp only [P33.upd]; split <;> simp_all)
  · exact (h.op.of_block (ho _ c1)).congr (fun j hj => by simp only [P33.upd]; split <;> simp_all)
  · exact (h.up.set i (.bool v)).congr (fun j hj => by simp only [P33.upd]; by_cases e : j = i <;> simp [e])
theorem RM.setTry (h : RM d C W b tb ub ob pb ra rc vs dn un s) (i : Nat) (hi : i < d.steps.length) (t : Int) :
    RM d C (W.setCell ⟨tb, i, none⟩ (.int .i64 t)) b tb ub ob pb ra rc vs dn un { s with w := P33.upd s.w i false (t, (s.w i false).2) } := by
  obtain ⟨⟨a1, a2, a3⟩, ⟨b1, b2⟩, c1⟩ := h.ne
  have ho : ∀ g, g ≠ tb → (W.setCell ⟨tb, i, none⟩ (.int .i64 t)).heap[g]? = W.heap[g]? := fun g hg => Below.heap_setCell _ _ _ _ hg
  refine h.setW (x := tb) (by simp) ho ?_ ?_ ?_ ?_ rfl rfl rfl rfl
  · exact (h.tr.set i (.int .i64 t)).congr (fun j hj => by simp only [P33.upd]; by_cases e : j = i <;> simp [e])
  · exact (h.ut.of_block (ho _ (Ne.symm a1))).congr (fun j hj => by simp only [P33.upd]; split <;> simp_all)
  · exact (h.op.of_block (ho _ (Ne.symm a2))).congr (fun j hj => by simp only [P33.upd]; split <;> simp_all)
  · exact (h.up.of_block (ho _ (Ne.symm a3))).congr (fun j hj => by simp only [P33.upd]; split <;> simp_all)
theorem RM.setUnTry (h : RM d C W b tb ub ob pb ra rc vs dn un s) (i : Nat) (hi : i < d.steps.length) (t : Int) :
    RM d C (W.setCell ⟨ub, i, none⟩ (.int .i64 t)) b tb ub ob pb ra rc vs dn un { s with w := P33.upd s.w i true (t, (s.w i true).2) } := by
  obtain ⟨⟨a1, a2, a3⟩, ⟨b1, b2⟩, c1⟩ := h.ne
  have ho : ∀ g, g ≠ ub → (W.setCell ⟨ub, i, none⟩ (.int .i64 t)).heap[g]? = W.heap[g]? := fun g hg => Below.heap_setCell _ _ _ _ hg
  refine h.setW (x := ub) (by simp) ho ?_ ?_ ?_ ?_ rfl rfl rfl rfl
  · exact (h.tr.of_block (ho _ a1)).congr (fun j hj => by simp only [P33.upd]; split <;> simp_all)
  · exact (h.ut.set i (.int .i64 t)).congr (fun j hj => by simp only [P33.upd]; by_cases e : j = i <;> simp [e])
  · exact (h.op.of_block (ho _ (Ne.symm b1))).congr (fun j hj => by simp only [P33.upd]; split <;> simp_all)
  · exact (h.up.of_block (ho _ (Ne.symm b2))).congr (fun j hj => by simp only [P33.upd]; split <;> simp_all)
end
end Go.Proofs.YtefokfbgpfcbkaaGreat
namespace Go.Proofs.YtefokfbgpfcbkaaGreat
set_option linter.unusedVariables false
set_option linter.unusedSimpArgs false
open Go.RowKit
section
variable {d : PDef} {C : Nat} {W W' : World} {b tb ub ob pb rc : Nat} {ra : Option Addr} {vs : List Value} {dn un : Value} {s s' : P33.S}
theorem RM.inM (h : RM d C W b tb ub ob pb ra rc vs dn un s) {g : Nat} (hg : g ∈ [b, tb, ub, ob, pb]) : g < W.heap.size := by
  simp only [List.mem_cons, List.not_mem_nil, or_false] at hg
  rcases hg with rfl | rfl | rfl | rfl | rfl
  · exact (Array.getElem?_eq_some_iff.1 h.box).1
  · exact h.tr.lt
  · exact h.ut.lt
  · exact h.op.lt
  · exact h.up.lt
theorem RM.inR (h : RM d C W b tb ub ob pb ra rc vs dn un s) {g : Nat} (hg : rowsB ra vs g) : g < W.heap.size := by
  rcases hg with ⟨o, rfl⟩ | ⟨u, hu, hg⟩
  · exact (own_block_lt h.rows.own g rfl).2
  · obtain ⟨i, hi⟩ := List.mem_iff_getElem?.1 hu
    obtain ⟨l, _, ho⟩ := h.rows.at hi
    exact (ho.lt hg).2
theorem RM.appDone (h : RM d C W b tb ub ob pb ra rc vs dn un s) {dn' : Value} {i g : Nat} (hg : W.grownBy W' dn.ownBlock) (ho : OwnN W' C dn' (s.done ++ [i])) (he : dn'.ownBlock = some g) (hat : dn.ownBlock = some g ∨ W.heap.size ≤ g) :
    RM d C (W'.setCell ⟨b, 8, none⟩ dn') b tb ub ob pb ra rc vs dn' un { s with done := s.done ++ [i] } ∧ KM (rmB b tb ub ob pb dn un) W (rmB b tb ub ob pb dn' un) (W'.setCell ⟨b, 8, none⟩ dn') := by
  have hnew : ∀ k, dn'.ownBlock = some k → k = g := fun k hk => by rw [he] at hk; cases hk; rfl
  have hgM : g ∉ [b, tb, ub, ob, pb] := fun hm => by
    rcases hat with h1 | h1
    · exact h.fd g h1 hm
    · have := h.inM hm; omega
  have hst : ∀ k, k < W.heap.size → some k ≠ dn.ownBlock → k ≠ b → (W'.setCell ⟨b, 8, none⟩ dn').heap[k]? = W.heap[k]? := fun k hk h1 h2 => (Below.heap_setCell _ _ _ _ h2).trans (hg.block k hk h1)
  have hM : ∀ k, k ∈ [b, tb, ub, ob, pb] → some k ≠ dn.ownBlock := fun k hk e => h.fd k e.symm hk
  have hnb := (List.nodup_cons.1 h.nd).1
  have hbW' : W'.heap[b]? = some (.cells (rmC d tb ub ob pb ra rc dn un s) 51) := (hg.block b (h.inM (by simp)) (hM b (by simp))).trans h.box
  have hgb : g ≠ b := fun e => hgM (by rw [e]; simp)
  refine ⟨⟨h.din.keep (fun k hk => ?_), h.dlt, setH hbW', h.rows.keepB (fun k hk => ?_), ?_, ?_, ?_, ?_, ?_, ?_, h.low, h.nd, fun k hk => ?_, fun k hk => ?_, fun k hk => ?_⟩, ?_, ?_, ?_, hg.os, hg.tape, hg.output⟩
  · have h1 := h.dlt k hk
    exact hst k (h.din.lt hk) (fun e => by have := (h.dno.lt e.symm).1; omega) (by have := h.low.1; omega)
  · obtain ⟨f1, f2, f3⟩ := h.fr k hk
    exact hst k (h.inR hk) (fun e => f2 e.symm) (fun e => f1 (by rw [e]; simp))
  · exact h.tr.of_block (hst _ h.tr.lt (hM _ (by simp)) (fun e => hnb (by rw [← e]; simp)))
  · exact h.ut.of_block (hst _ h.ut.lt (hM _ (by simp)) (fun e => hnb (by rw [← e]; simp)))
  · exact h.op.of_block (hst _ h.op.lt (hM _ (by simp)) (fun e => hnb (by rw [← e]; simp)))
  · exact h.up.of_block (hst _ h.up.lt (hM _ (by simp)) (fun e => hnb (by rw [← e]; simp)))
  · exact ho.keep (fun k hk => Below.heap_setCell _ _ _ _ (by rw [hnew k hk]; exact hgb))
  · exact h.uno.keep (fun k hk => hst k (h.uno.lt hk).2 (fun e => (h.fu k hk).2 e.symm) (fun e => (h.fu k hk).1 (by rw [e]; simp)))
  · rw [hnew k hk]; exact hgM
  · refine ⟨(h.fu k hk).1, fun e => ?_⟩
    have hkg := hnew k e
    rcases hat with h1 | h1
    · exact (h.fu k hk).2 (by rw [h1, hkg])
    · have := (h.uno.lt hk).2; omega
  · obtain ⟨f1, f2, f3⟩ := h.fr k hk
    refine ⟨f1, fun e => ?_, f3⟩
    have hkg := hnew k e
    rcases hat with h1 | h1
    · exact f2 (by rw [h1, hkg])
    · have := h.inR hk; omega
  · have := hg.size
    simpa using this
  · exact fun r hr hl => hst r hl (fun e => hr (.inr (.inl e.symm))) (fun e => hr (.inl (by rw [e]; simp)))
  · intro r hr
    rcases hr with h1 | h1 | h1
    · exact .inl (.inl h1)
    · have hkg := hnew r h1
      rcases hat with h2 | h2
      · exact .inl (.inr (.inl (by rw [h2, hkg])))
      · exact .inr (by omega)
    · exact .inl (.inr (.inr h1))
theorem RM.appUndone (h : RM d C W b tb ub ob pb ra rc vs dn un s) {un' : Value} {i g : Nat} (hg : W.grownBy W' un.ownBlock) (ho : OwnN W' C un' (s.undone ++ [i])) (he : un'.ownBlock = some g) (hat : un.ownBlock = some g ∨ W.heap.size ≤ g) :
    RM d C (W'.setCell ⟨b, 9, none⟩ un') b tb ub ob pb ra rc vs dn un' { s with undone := s.undone ++ [i] } ∧ KM (rmB b tb ub ob pb dn un) W (rmB b tb ub ob pb dn un') (W'.setCell ⟨b, 9, none⟩ un') := by
  have hnew : ∀ k, un'.ownBlock = some k → k = g := fun k hk => by rw [he] at hk; cases hk; rfl
  have hgM : g ∉ [b, tb, ub, ob, pb] := fun hm => by
    rcases hat with h1 | h1
    · exact (h.fu g h1).1 hm
    · have := h.inM hm; omega
  have hst : ∀ k, k < W.heap.size → some k ≠ un.ownBlock → k ≠ b → (W'.setCell ⟨b, 9, none⟩ un').heap[k]? = W.heap[k]? := fun k hk h1 h2 => (Below.heap_setCell _ _ _ _ h2).trans (hg.block k hk h1)
  have hM : ∀ k, k ∈ [b, tb, ub, ob, pb] → some k ≠ un.ownBlock := fun k hk e => (h.fu k e.symm).1 hk
  have hnb := (List.nodup_cons.1 h.nd).1
  have hbW' : W'.heap[b]? = some (.cells (rmC d tb ub ob pb ra rc dn un s) 51) := (hg.block b (h.inM (by simp)) (hM b (by simp))).trans h.box
  have hgb : g ≠ b := fun e => hgM (by rw [e]; simp)
  refine ⟨⟨h.din.keep (fun k hk => ?_), h.dlt, setH hbW', h.rows.keepB (fun k hk => ?_), ?_, ?_, ?_, ?_, ?_, ?_, h.low, h.nd, h.fd, fun k hk => ?_, fun k hk => ?_⟩, ?_, ?_, ?_, hg.os, hg.tape, hg.output⟩
  · have h1 := h.dlt k hk
    exact hst k (h.din.lt hk) (fun e => by have := (h.uno.lt e.symm).1; omega) (by have := h.low.1; omega)
  · obtain ⟨f1, f2, f3⟩ := h.fr k hk
    exact hst k (h.inR hk) (fun e => f3 e.symm) (fun e => f1 (by rw [e]; simp))
  · exact h.tr.of_block (hst _ h.tr.lt (hM _ (by simp)) (fun e => hnb (by rw [← e]; simp)))
  · exact h.ut.of_block (hst _ h.ut.lt (hM _ (by simp)) (fun e => hnb (by rw [← e]; simp)))
  · exact h.op.of_block (hst _ h.op.lt (hM _ (by simp)) (fun e => hnb (by rw [← e]; simp)))
  · exact h.up.of_block (hst _ h.up.lt (hM _ (by simp)) (fun e => hnb (by rw [← e]; simp)))
  · exact h.dno.keep (fun k hk => hst k (h.dno.lt hk).2 (fun e => (h.fu k e.symm).2 hk) (fun e => h.fd k hk (by rw [e]; simp)))
  · exact ho.keep (fun k hk => Below.heap_setCell _ _ _ _ (by rw [hnew k hk]; exact hgb))
  · have hkg := hnew k hk
    refine ⟨by rw [hkg]; exact hgM, fun e => ?_⟩
    rcases hat with h1 | h1
    · exact (h.fu g h1).2 (by rw [← hkg]; exact e)
    · have := (h.dno.lt e).2; omega
  · obtain ⟨f1, f2, f3⟩ := h.fr k hk
    refine ⟨f1, f2, fun e => ?_⟩
    have hkg := hnew k e
    rcases hat with h1 | h1
    · exact f3 (by rw [h1, hkg])
    · have := h.inR hk; omega
  · have := hg.size
    simpa using this
  · exact fun r hr hl => hst r hl (fun e => hr (.inr (.inr e.symm))) (fun e => hr (.inl (by rw [e]; simp)))
  · intro r hr
    rcases hr with h1 | h1 | h1
    · exact .inl (.inl h1)
    · exact .inl (.inr (.inl h1))
    · have hkg := hnew r h1
      rcases hat with h2 | h2
      · exact .inl (.inr (.inr (by rw [h2, hkg])))
      · exact .inr (by omega)
end
end Go.Proofs.YtefokfbgpfcbkaaGreat
