/- Lemmas of this claim (a part of its texts, kept as far as the claim reaches them). -/
import Derived.Test.YtefokfbgpfcbkaaGreatN28xZ
import Derived.Test.YtefokfbgpfcbkaaGreatInvZ
import Derived.Test.YtefokfbgpfcbkaaGreatN27xZ
import Derived.Test.YtefokfbgpfcbkaaGreatN21xZ
namespace Go.Proofs.YtefokfbgpfcbkaaGreat
set_option linter.unusedVariables false
set_option linter.unusedSimpArgs false
open Go.RowKit
attribute [local go_sem] Oper.semAt_some
def encI (x : Nat) : Array Value := #[.int .i64 x]
set_option maxRecDepth 100000 in
set_option maxHeartbeats 4000000 in
theorem hasIter_seq (n B b bx bi N i : Nat) (vs : Nat → Value) (RS : List (List Nat)) (l : List Nat) (R T : Nat → Prop) (W : World) (hbx : W.heap[bx]? = some (.cells #[.slice (some ⟨b, 0, none⟩) N N] 47)) (hbi : W.heap[bi]? = some (.cells #[.int .i64 i] 3))
    (hg : Grid W B b vs RS) (hN : RS.length = N) (hi : RS[i]? = some l) (hlt : ∀ x ∈ l, x < N) (hblk : ∀ g, gridB b vs N g → R g) (hbR : R bx) (hbR2 : R bi) (hR : ∀ r, R r → r < W.heap.size) (hN9 : N ≤ 100000) :
    SeqM Fence.wide n Tryz.prog 265 #[.pointer (some ⟨bx, 0, none⟩), .pointer (some ⟨bi, 0, none⟩)] encI l R T W := by
  intro ly J Jx hJ hJx hM hY M0 hT0 h0
  have hM0 : ∀ r, M0 r → r < W.heap.size ∧ ¬ R r := hM 0 M0 W h0
  have hY' : ∀ m q x M V, l[q]? = some x → J q M V → W.heap.size ≤ V.heap.size → YieldAt Fence.wide m Tryz.prog ly (encI x) V fun e W' =>
      ∃ M', KeepsM M V M' W' ∧ ((e = .returned (.bool true) ∧ J (q + 1) M' W') ∨ (e = .returned (.bool false) ∧ Jx (q + 1) M' W')) :=
    fun m q x M V hx hj hs => YieldAt.anyD rfl m (hY q x M V hx hj hs)
  have hiN : i < N := by rw [← hN]; exact (List.getElem?_eq_some_iff.1 hi).1
  obtain ⟨x0, _⟩ := cell1 hbx
  obtain ⟨x1, _⟩ := cell1 hbi
  obtain ⟨ra, rc, hvk, hrc1, hrc2, hrin⟩ := (hg.own i l hi).slice
  have hrcell := hg.row.cell (i := i) (by rw [hN]; exact hiN)
  rw [hvk] at hrcell
  obtain ⟨A, hA⟩ : ∃ A, l.length = A := ⟨_, rfl⟩
  rw [hA] at hrcell hvk hrc1
  have hA9 : A ≤ maxLen := by omega
  unfold maxLen at hA9
  have HBX := hide hbx
  have HBI := hide hbi
  have HG := hide hg
  have HNN := hide hN
  have HI := hide hi
  have HLT := hide hlt
  have HBLK := hide hblk
  have HBR := hide hbR
  have HBR2 := hide hbR2
  have HRL := hide hR
  have HM0 := hide hM0
  have HM := hide hM
  have HJ := hide hJ
  have HJX := hide hJx
  have HY := hide hY'
  have HVK := hide hvk
  have HA := hide hA
  have H0 := hide h0
  clear hbx hbi hg hN hi hlt hblk hbR hbR2 hR hM0 hM hJ hJx hY hY' hvk hA hrin hT0 h0 hrc1 hrc2
  refine callsIn_of_wp Tryz.func265 rfl trivial ?_ rfl
  simp only [Tryz.ntmps265, List.size_toArray, List.length_cons, List.length_nil, Nat.reduceAdd, Nat.reduceSub, Array.replicate_succ, Array.replicate_zero, List.push_toArray, List.append_toArray, List.nil_append, List.cons_append]
  gi_wp2
  gi_loopg [11] A (fun g s11 wx => ∃ (j : Nat) (M : Nat → Prop), j + g = A ∧ s11 = .int .i64 j ∧ Hid (KeepsM M0 W M wx) ∧ Hid (J j M wx))
  case atStart => exact ⟨0, M0, by omega, by go_num, hide (KeepsM.refl _ _), H0⟩
  case round =>
    obtain ⟨j, M, hjg, rfl, HK, HJI⟩ := hrel
    clear x0 x1 hrcell
    have hk := unhide HK
    have hM0' : ∀ r, R r → ¬ M0 r := fun r h1 h2 => (unhide HM0 r h2).2 h1
    have hzr := hk.size
    cases gk with
    | zero =>
      have e1 : (A : Int) ≤ (j : Int) := by omega
      have j1 : decide ((j : Int) < (A : Int)) = false := by simp; omega
      have hfin := unhide HJI
      rw [show j = l.length by rw [unhide HA]; omega] at hfin
      have HFIN := hide hfin
      clear hfin hk
      gi_wp2
      go_end0
      exact ⟨⟨_, rfl⟩, M, .inl (unhide HFIN)⟩
    | succ g' =>
      have hlt : (j : Int) < (A : Int) := by omega
      have hkj : IntKind.i64.wrap ((j : Int) + 1) = (j : Int) + 1 := IntWalk.i64_in _ (by omega)
      obtain ⟨x, hx⟩ := nth_of (unhide HA) (show j < A by omega)
      have hxN := unhide HLT x (List.mem_of_getElem? hx)
      have d1 : decide ((x : Int) ≥ 0) = true := by simp
      have d2 : decide ((x : Int) < (N : Int)) = true := by simp; omega
      have hg2 := (unhide HG).keep (W' := wr) (fun g hgb => hk.same g (hM0' g (unhide HBLK g (by rw [← unhide HNN]; exact hgb))) ((unhide HG).lt hgb).2)
      have hbx2 := hk.at (hM0' bx (unhide HBR)) (unhide HBX)
      obtain ⟨ra', rc', e, _, _, hin3⟩ := (hg2.own i l (unhide HI)).slice
      rw [unhide HVK] at e
      have e1 : ra' = ra := by injection e with e1 _ _; exact e1.symm
      clear e
      subst e1
      obtain ⟨rb, ro, rfl, cj⟩ := hin3 j x hx
      unfold iv at cj
      obtain ⟨y0, _⟩ := cell1 hbx2
      have hYa := ((unhide HY) (n - 1) _ _ M wr hx (unhide HJI) (by omega)).mono
        (R' := fun e W' => ∃ bb, e = .returned (.bool bb) ∧ Hid (∃ M', KeepsM M wr M' W' ∧ ((bb = true ∧ J (j + 1) M' W') ∨ (bb = false ∧ Jx (j + 1) M' W')))) (by
          rintro e W' ⟨M', hk, (⟨rfl, h⟩ | ⟨rfl, h⟩)⟩
          · exact ⟨true, rfl, hide ⟨M', hk, .inl ⟨rfl, h⟩⟩⟩
          · exact ⟨false, rfl, hide ⟨M', hk, .inr ⟨rfl, h⟩⟩⟩)
      obtain ⟨fn, tmps, assign, body, hy, hR⟩ := hYa
      replace hy : (Instr.yield ly #[.int .i64 x]).run Tryz.prog wr = .ok (.round ly fn tmps assign body) wr := hy
      have hjl : j < l.length := (List.getElem?_eq_some_iff.1 hx).1
      clear hk hg2 hbx2 hin3 hx
      gi_wp2
      refine ⟨fun h => (by cases h), hR.mono ?_⟩
      rintro e W3 ⟨bb, rfl, HB⟩
      clear hy hR
      cases bb
      · gi_wp2
        refine bodyPost_ret (results_none rfl _ _ _) rfl ?_
        obtain ⟨M', hk, (⟨h, _⟩ | ⟨_, h⟩)⟩ := unhide HB
        · cases h
        · exact ⟨⟨_, rfl⟩, M', .inr ⟨_, hjl, h⟩⟩
      · have hJ4 : ∃ M', KeepsM M wr M' W3 ∧ J (j + 1) M' W3 := by
          obtain ⟨M', hk, (⟨_, h⟩ | ⟨h, _⟩)⟩ := unhide HB
          · exact ⟨M', hk, h⟩
          · cases h
        have HJ4 := hide hJ4
        clear hJ4 HB
        gi_wp2
        go_roundg g'
        case measure => omega
        case rel =>
          obtain ⟨M', hk, h⟩ := unhide HJ4
          exact ⟨j + 1, M', by omega, by go_num, hide ((unhide HK).trans hk), hide h⟩
theorem has_any (b N i : Nat) (W : World) : Calls Tryz.prog 251 #[.slice (some ⟨b, 0, none⟩) N N, .int .i64 i] W fun e w' =>
    e = .returned (.func (.func 265) #[] #[.pointer (some ⟨W.heap.size, 0, none⟩), .pointer (some ⟨W.heap.size + 1, 0, none⟩)]) ∧ w' = (W.alloc (.cells #[.slice (some ⟨b, 0, none⟩) N N] 47)).alloc (.cells #[.int .i64 i] 3) := by
  go_enter Tryz.func251, Tryz.ntmps251
  go_wp2
  go_ret
  exact ⟨by simp, rfl⟩
end Go.Proofs.YtefokfbgpfcbkaaGreat
namespace Go.Proofs.YtefokfbgpfcbkaaGreat
set_option linter.unusedVariables false
set_option linter.unusedSimpArgs false
open Go.RowKit
attribute [local go_sem] Oper.semAt_some
structure MayI (w : World) (H : Nat) (tv : Value) (M : Nat → Prop) (V : World) : Prop where
  m : ∀ r, M r ↔ r = H + 1
  bx : V.heap[H]? = some (.cells #[tv] 49)
  res : V.heap[H + 1]? = some (.cells #[.bool false] 4)
  below : Below H w V
  size : H + 4 ≤ V.heap.size
theorem MayI.abides {w V V' : World} {H : Nat} {tv : Value} {M : Nat → Prop} {row : Option Nat} (h : MayI w H tv M V) (hg : V.grownBy V' row) (hr : ∀ r, row = some r → ¬ M r ∧ ¬ (r ≤ H ∨ r = H + 2 ∨ r = H + 3)) : MayI w H tv M V' := by
  have hz := h.size
  refine ⟨h.m, (hg.block _ (by omega) (fun e => ?_)).trans h.bx, (hg.block _ (by omega) (fun e => ?_)).trans h.res, h.below.grown hg (by omega) (fun k e => ?_), Nat.le_trans h.size hg.size⟩
  · exact (hr _ e.symm).2 (.inl (Nat.le_refl _))
  · exact (hr _ e.symm).1 ((h.m _).2 rfl)
  · have := (hr k e).2; omega
set_option maxRecDepth 100000 in
set_option maxHeartbeats 4000000 in
theorem may_any (B b tb N i : Nat) (vs : Nat → Value) (RS : List (List Nat)) (l : List Nat) (th : Nat → Bool) (w : World) (hg : Grid w B b vs RS) (hN : RS.length = N) (hi : RS[i]? = some l) (hlt : ∀ x ∈ l, x < N)
    (htb : w.rowIs tb 4 N (fun j => .bool (th j))) (hN9 : N ≤ 100000) :
    Calls Tryz.prog 220 #[.slice (some ⟨b, 0, none⟩) N N, .slice (some ⟨tb, 0, none⟩) N N, .int .i64 i] w fun e w' => e = .returned (.bool (l.all th)) ∧ Below w.heap.size w w' := by
  obtain ⟨H, hH⟩ : ∃ H, w.heap.size = H := ⟨_, rfl⟩
  rw [hH]
  obtain ⟨W1, hW1, hb1, g0, g1, hs1⟩ := new2 w (.cells #[.slice (some ⟨tb, 0, none⟩) N N] 49) (.cells #[.bool false] 4) H hH
  obtain ⟨W2, hW2, hb2, g2, g3, hs2⟩ := new2 W1 (.cells #[.slice (some ⟨b, 0, none⟩) N N] 47) (.cells #[.int .i64 i] 3) (H + 1 + 1) hs1
  have hh := has_any b N i W1
  rw [hs1, hW2] at hh
  have hbw : Below H w W2 := hb1.trans (hb2.mono (by omega))
  have hg2 : Grid W2 B b vs RS := hg.below (by rw [hH]; exact hbw)
  have hgb : ∀ g, gridB b vs N g → g < H := fun g h => by rw [← hN] at h; rw [← hH]; exact (hg.lt h).2
  have htl : tb < H := by rw [← hH]; exact htb.lt
  have hit := fun V (hgr : W2.grownBy V none) => hasIter_seq (40 - 1) B b (H + 1 + 1) (H + 1 + 1 + 1) N i vs RS l (fun r => r ≤ H ∨ r = H + 2 ∨ r = H + 3) (fun _ => False) V ((hgr.block _ (by omega) (by simp)).trans g2) ((hgr.block _ (by omega) (by simp)).trans g3)
    (hg2.keep (fun g hgg => hgr.block g (hg2.lt hgg).2 (by simp))) hN hi hlt (fun g h => .inl (Nat.le_of_lt (hgb g h))) (.inr (.inl rfl)) (.inr (.inr rfl)) (fun r hr => by have := hgr.size; omega) hN9
  have hm0 : MayI w H (.slice (some ⟨tb, 0, none⟩) N N) (fun r => r = H + 1) W2 := ⟨fun r => Iff.rfl, (hb2.block _ (by omega)).trans g0, (hb2.block _ (by omega)).trans g1, hbw, by omega⟩
  have HW1 := hide hW1
  have HH := hide hh
  have HIT := hide hit
  have HM0 := hide hm0
  have HTB := hide htb
  have HLT := hide hlt
  clear hW1 hW2 hb1 hb2 g0 g1 g2 g3 hh hbw hg2 hgb hit hm0 htb hg hi hlt hN
  refine (callsIn_wide (n := 40)).1 ?_
  refine callsIn_of_wp_marks Tryz.func220 rfl trivial ?_ rfl
  simp only [Tryz.ntmps220, List.size_toArray, List.length_cons, List.length_nil, Nat.reduceAdd, Nat.reduceSub, Array.replicate_succ, Array.replicate_zero, List.push_toArray, List.append_toArray, List.nil_append, List.cons_append]
  gi_upto_region 1 with fail
  try rw [hH]
  rw [unhide HW1]
  gi_wp2_with (refine ⟨trivial, ?_⟩; gi_at_call 251; refine (callsIn_wide.2 (unhide HH)).mono ?_; rintro e w' ⟨rfl, hw⟩; have hw := hw.symm; subst hw)
  generalize hA : ({ tmps := _, defers := _ } : Act) = A
  refine wpIn_rangeFunc_MA rfl (by omega) (gf := 265) (lb := #[.pointer (some ⟨H + 1 + 1, 0, none⟩), .pointer (some ⟨H + 1 + 1 + 1, 0, none⟩)]) (by rw [← hA]; rfl) trivial (enters_of Tryz.func265 (by kernel_rfl) rfl)
    (encs := encI) l (fun r => r ≤ H ∨ r = H + 2 ∨ r = H + 3) (fun _ => False) (fun r hr => by omega)
    (fun V hgr _ => unhide HIT V hgr) (fun _ => rfl)
    (fun j M V => MayI w H (.slice (some ⟨tb, 0, none⟩) N N) M V ∧ (l.take j).all th = true)
    (fun c j M V => c = .ret ∧ MayI w H (.slice (some ⟨tb, 0, none⟩) N N) M V ∧ l.all th = false)
    (fun j M V V' row hi hg hr => ⟨hi.1.abides hg hr, hi.2⟩) (fun c j M V V' row hi hg hr => ⟨hi.1, hi.2.1.abides hg hr, hi.2.2⟩)
    (fun j M V hi r hr => ⟨by have := (hi.1.m r).1 hr; have := hi.1.size; omega, by have := (hi.1.m r).1 hr; omega⟩)
    (fun r => r = H + 1) (fun r hr => hr.elim)
    ⟨unhide HM0, by simp⟩
    (fun j x M a' V => MayI w H (.slice (some ⟨tb, 0, none⟩) N N) M V ∧ (l.take j).all th = true ∧ a' = (A.put (some 11) (.int .i64 x)).put (some 7) (.int .i64 x))
    ?hB ?assign ?body ?done ?stop
  case hB =>
    rintro j x M a' V V' row ⟨hi, h0, rfl⟩ hg hr
    exact ⟨hi.abides hg hr, h0, rfl⟩
  case assign =>
    rintro l2 j x M V K hx ⟨hi, h0⟩ hV hK
    subst hA
    unfold encI
    have hKK := hK M _ V ⟨rfl, rfl, rfl, Nat.le_refl _, fun _ _ _ => rfl⟩ (fun r hr => .inl hr) ⟨hi, h0, rfl⟩
    have HK := hide hKK
    clear hKK hK
    gi_wp2
    exact unhide HK
  case body =>
    rintro l2 j x M a' V hx ⟨hi, h0, rfl⟩ hV
    subst hA
    obtain ⟨c0, _⟩ := cell1 hi.bx
    obtain ⟨c1, f1⟩ := cell1 hi.res
    have hxN := unhide HLT x (List.mem_of_getElem? hx)
    have ht := ((unhide HTB).of_block (hi.below.block tb htl)).cell hxN
    have d1 : decide ((x : Int) ≥ (N : Int)) = false := by simp; omega
    have HI := hide hi
    cases hq : th x with
    | true =>
      rw [hq] at ht
      have hnx : (l.take (j + 1)).all th = true := by rw [List.take_add_one, hx]; simp [List.all_append, h0, hq]
      have HNX := hide hnx
      clear hi hnx h0 hq
      gi_wp2
      exact ⟨M, KeepsM.refl _ _, unhide HI, unhide HNX⟩
    | false =>
      rw [hq] at ht
      have hnx : l.all th = false := by
        rw [Bool.eq_false_iff]
        intro h
        have := List.all_eq_true.1 h x (List.mem_of_getElem? hx)
        rw [hq] at this
        cases this
      have HNX := hide hnx
      clear hi hnx h0 hq
      gi_wp2
      have hi := unhide HI
      have hgs := grownBy_setCell' V (H + 1) (.bool false)
      refine ⟨M, .grown hgs (fun r e => by cases e; exact .inl ((hi.m _).2 rfl)), rfl, ⟨hi.m, (hgs.block _ (by have := hi.size; omega) (by simp)).trans hi.bx, put1 hi.res _, hi.below.grown hgs (by have := hi.size; omega) (fun k e => by cases e; omega), by have := hi.size; simpa using this⟩, unhide HNX⟩
  case done =>
    rintro D M V rfl hMD ⟨hi, h0⟩ hK
    subst hA
    rw [List.take_of_length_le (Nat.le_refl _)] at h0
    obtain ⟨c1, f1⟩ := cell1 hi.res
    have HI := hide hi
    have H0 := hide h0
    clear hi h0
    gi_wp2
    have hi := unhide HI
    have hz := hi.size
    have hK2 : (V.setCell ⟨H + 1, 0, none⟩ (.bool true)).heap[W2.heap.size]? = some (.deferred (some [])) := (Below.heap_setCell _ _ _ _ (by show W2.heap.size ≠ H + 1; omega)).trans hK
    refine ⟨by simp, .inl ⟨_, _, rfl, run_takeDeferred hK2, ?_⟩⟩
    have hcell := (World.putObj_heap_other (o := .deferred none) (show H + 1 ≠ W2.heap.size by omega)).trans (put1 hi.res (.bool true))
    refine ⟨_, results_c1 rfl _ _ _ (H + 1) _ rfl (run_loadVar_1 _ _ _ _ _ Tryz.underlying4 rfl (cell1 hcell).1), by rw [unhide H0], ?_⟩
    exact (hi.below.grown (grownBy_setCell' V (H + 1) (.bool true)) (by omega) (fun k e => by cases e; omega)).grown (grownBy_putObj' _ W2.heap.size (.deferred none)) (by simp; omega) (fun k e => by cases e; omega)
  case stop =>
    rintro D c j M V rfl hMD hj ⟨rfl, hi, hall⟩ hK
    subst hA
    have HI := hide hi
    have HA := hide hall
    clear hi hall
    gi_wp2
    have hi := unhide HI
    have hz := hi.size
    refine ⟨by simp, .inl ⟨_, _, rfl, run_takeDeferred hK, ?_⟩⟩
    have hcell := (World.putObj_heap_other (o := .deferred none) (show H + 1 ≠ W2.heap.size by omega)).trans hi.res
    refine ⟨_, results_c1 rfl _ _ _ (H + 1) _ rfl (run_loadVar_1 _ _ _ _ _ Tryz.underlying4 rfl (cell1 hcell).1), by rw [unhide HA], ?_⟩
    exact hi.below.grown (grownBy_putObj' _ W2.heap.size (.deferred none)) (by omega) (fun k e => by cases e; omega)
end Go.Proofs.YtefokfbgpfcbkaaGreat
namespace Go.Proofs.YtefokfbgpfcbkaaGreat
set_option linter.unusedVariables false
set_option linter.unusedSimpArgs false
open Go.RowKit
theorem wpList_appNat {w : World} {B : Nat} {v : Value} {l : List Nat} {j : Nat} {ops : Array Oper} {rest : List Oper} {o : Oper} {a : Act} {Q : Exit → Act → World → Prop} (hgd : o.guard = none) (s x : Operand)
    (ho : o.op = .call { callee := .builtin .append, args := #[s, x], argTypes := #[48, 48] })
    (hs : a.eval s = v) (hown : OwnN w B v l) (g cap : Nat) (hx : a.eval x = .slice (some ⟨g, 0, none⟩) 1 cap) (hnew : w.heap[g]? = some (.cells #[.int .i64 j] 3))
    (m : Nat) (hm : l.length = m) (hlen : m + 1 ≤ 1000000000000) (hB : B ≤ w.heap.size)
    (h : ∀ g' cap' w', OwnN w' B (.slice (some ⟨g', 0, none⟩) (m + 1) cap') (l ++ [j]) → w.grownBy w' v.ownBlock → (v.ownBlock = some g' ∨ g' = w.heap.size) → g' < w'.heap.size → wpList Tryz.prog ops Q rest (a.put o.dst (.slice (some ⟨g', 0, none⟩) (m + 1) cap')) w') :
    wpList Tryz.prog ops Q (o :: rest) a w := by
  subst hm
  obtain ⟨i, hi, hz, hsz, hby⟩ := info_parts infoInt
  refine wpList_append_lies (P := Tryz.prog) w hgd s x 48 ho B 3 i (.int .i64 0) 1 8 Tryz.underlying48 hi hz hsz hby rfl (by decide) v l.length (l.map iv) hs hown
    ⟨g, 0, none⟩ 1 cap [.int .i64 j] hx rfl (World.news_of_block (fr := (0, 0)) hnew) (by intro u hu; simp at hu; subst hu; rfl) (by decide) (by unfold maxLen; omega) (by omega) hB _ rfl ?_
  intro g' cap' w' h2 h3 hat hlt
  refine h g' cap' w' ?_ h3 hat hlt
  unfold OwnN
  rw [List.length_append, List.map_append]
  exact h2
theorem infoBool : (Tryz.prog.info? 4).map (fun i => (i.zero, i.size, i.bytes)) = some (some (.bool false), 1, 1) := by kernel_rfl
structure OrI (w V : World) (H N : Nat) (th : List Bool) (out : List Nat) (v : Value) : Prop where
  own : OwnN V (H + 1) v out
  row : V.rowIs H 4 N (fun j => .bool (th.getD j false))
  len : th.length = N
  bel : Below H w V
  size : H + 1 ≤ V.heap.size
theorem OrI.below {w V V' : World} {H N : Nat} {th : List Bool} {out : List Nat} {v : Value} (h : OrI w V H N th out v) (hb : Below V.heap.size V V') : OrI w V' H N th out v := by
  have hz := h.size
  exact ⟨h.own.keep (fun g hg => hb.block g (h.own.lt hg).2), h.row.of_block (hb.block _ (by omega)), h.len, h.bel.trans (hb.mono (by omega)), Nat.le_trans h.size hb.size⟩
theorem OrI.next {w V V2 : World} {H N i : Nat} {th : List Bool} {out : List Nat} {v v2 : Value} (h : OrI w V H N th out v) (hi : i < N) (hown : OwnN V2 (H + 1) v2 (out ++ [i])) (hz : (V.setCell ⟨H, i, none⟩ (.bool true)).heap.size ≤ V2.heap.size) (hrow : V2.heap[H]? = (V.setCell ⟨H, i, none⟩ (.bool true)).heap[H]?) (hb : Below H w V2) : OrI w V2 H N (th.set i true) (out ++ [i]) v2 := by
  refine ⟨hown, ((h.row.set i (.bool true)).congr (fun j hj => ?_)).of_block hrow, by rw [List.length_set]; exact h.len, hb, by have := h.size; simp at hz; omega⟩
  have hl := h.len
  by_cases e : j = i
  · subst e
    rw [if_pos rfl]
    simp [List.getD_eq_getElem?_getD, List.getElem?_set, hl, hj]
  · rw [if_neg e]
    simp [List.getD_eq_getElem?_getD, List.getElem?_set, Ne.symm e]
theorem nextFrom_succ (deps : List (List Nat)) (th : List Bool) (n i : Nat) : P28.nextFrom deps th (n + 1) i = if th.getD i false = false ∧ P28.mayB deps th i = true then some i else P28.nextFrom deps th n (i + 1) := rfl
theorem orderGo_succ (deps : List (List Nat)) (f : Nat) (th : List Bool) (out : List Nat) : P28.orderGo deps (f + 1) th out = match P28.next deps th with | none => out | some i => P28.orderGo deps f (th.set i true) (out ++ [i]) := rfl
set_option maxRecDepth 100000 in
set_option maxHeartbeats 4000000 in
theorem Order_any (B b N : Nat) (vs : Nat → Value) (RS : List (List Nat)) (w : World) (hg : Grid w B b vs RS) (hN : RS.length = N) (hlt : ∀ l ∈ RS, ∀ x ∈ l, x < N) (hN9 : N ≤ 100000) :
    Calls Tryz.prog 196 #[.slice (some ⟨b, 0, none⟩) N N] w fun e w' => ∃ v bb, e = .returned (.tuple #[v, .bool bb]) ∧ OwnN w' w.heap.size v (P28.order RS) ∧ Below w.heap.size w w' := by
  obtain ⟨H, hH⟩ : ∃ H, w.heap.size = H := ⟨_, rfl⟩
  have hmk := fun V => run_make_row' (P := Tryz.prog) 49 4 (.bool false) 1 Tryz.underlying49 infoBool rfl .i64 .i64 N (by omega) (by omega) V
  obtain ⟨W1, hW1, hb1, g0, hs1⟩ := new1 w (.cells (madeCells #[.bool false] N) 4) H hH
  have hord : P28.orderGo RS N (List.replicate N false) [] = P28.order RS := by unfold P28.order; rw [hN]
  obtain ⟨ORD, hORD⟩ : ∃ ORD, P28.order RS = ORD := ⟨_, rfl⟩
  rw [hORD] at hord
  have hO1 : OrI w W1 H N (List.replicate N false) [] (.slice none 0 0) := ⟨OwnN.nil _ _, ⟨_, g0, size_madeCells _ _, fun i hi => by simp [madeCells, hi, Nat.mod_one, List.getD_eq_getElem?_getD]⟩, by simp, hb1, by omega⟩
  have hmay := fun (V : World) (hV : Below H w V) (i : Nat) (l : List Nat) (hi : RS[i]? = some l) (th : List Bool) (hr : V.rowIs H 4 N (fun j => .bool (th.getD j false))) => may_any B b H N i vs RS l (fun j => th.getD j false) V (hg.below (by rw [hH]; exact hV)) hN hi (hlt l (List.mem_of_getElem? hi)) hr hN9
  have hnx : ∀ th : List Bool, P28.nextFrom RS th N 0 = P28.next RS th := fun th => by unfold P28.next; rw [hN]
  have hmb : ∀ (th : List Bool) (i : Nat) (l : List Nat), RS[i]? = some l → P28.mayB RS th i = l.all (fun j => th.getD j false) := fun th i l h => by unfold P28.mayB; rw [List.getD_eq_getElem?_getD, h]; rfl
  rw [hORD, hH]
  have HW1 := hide hW1
  have HORD := hide hord
  have HO1 := hide hO1
  have HMAY := hide hmay
  have HNX := hide hnx
  have HMB := hide hmb
  have HN := hide hN
  clear hW1 hord hO1 hmay hnx hmb hg hlt hb1 g0 hN hORD
  go_enter Tryz.func196, Tryz.ntmps196
  go_wp2
  go_step3
  go_upto_region 2 with fail
  try rw [hH]
  rw [unhide HW1]
  go_wp2
  go_step3
  go_wp2
  go_loopg [5] N (fun g s5 wx => ∃ (th : List Bool) (out : List Nat) (v : Value), out.length + g = N ∧ s5 = v ∧ Hid (OrI w wx H N th out v) ∧ Hid (P28.orderGo RS g th out = ORD))
  case atStart => exact ⟨_, [], _, by simp, rfl, HO1, HORD⟩
  case round =>
    obtain ⟨th, out, v, hog, rfl, HO, HG⟩ := hrel
    obtain ⟨va, vc, rfl, hv1, hv2, _⟩ := (unhide HO).own.slice
    cases gk with
    | zero =>
      have e1 : (N : Int) ≤ (out.length : Int) := by omega
      have j1 : decide ((out.length : Int) < (N : Int)) = false := by simp; omega
      have hfin : out = ORD := unhide HG
      have HFIN := hide hfin
      clear hfin hv1 hv2
      go_wp2
      (try rw [Exit.noGoto_ret])
      (try simp only [Exit.inBlock, Exit.then])
      refine bodyPost_ret (results_tmp2 rfl _ _ _) rfl ?_
      have ho := unhide HO
      exact ⟨_, _, rfl, by rw [← unhide HFIN]; exact ho.own.base (by omega), ho.bel⟩
    | succ g' =>
      have hlt : (out.length : Int) < (N : Int) := by omega
      obtain ⟨NX, hNX⟩ : ∃ NX, P28.next RS th = NX := ⟨_, rfl⟩
      have hgo := unhide HG
      rw [orderGo_succ, hNX] at hgo
      have hn0 : P28.nextFrom RS th N 0 = NX := by rw [unhide HNX, hNX]
      have HGO := hide hgo
      have HN0 := hide hn0
      clear hgo hn0 hNX HG
      go_wp2
      go_loopg [5, 17] N (fun g2 s5 s17 wy => ∃ (i : Nat), i + g2 = N ∧ s17 = .int .i64 i ∧ s5 = .slice va out.length vc ∧ Hid (OrI w wy H N th out (.slice va out.length vc)) ∧ Hid (P28.nextFrom RS th g2 i = NX))
      case atStart => exact ⟨0, by omega, by go_num, rfl, HO, HN0⟩
      case round =>
        obtain ⟨i, hig, rfl, rfl, HO2, HF⟩ := hrel
        cases gk with
        | zero =>
          have e2 : (N : Int) ≤ (i : Int) := by omega
          have j2 : decide ((i : Int) < (N : Int)) = false := by simp; omega
          have hnn : none = NX := unhide HF
          subst hnn
          have hfin : out = ORD := unhide HGO
          have HFIN := hide hfin
          clear hfin hv1 hv2
          go_wp2
          (try rw [Exit.noGoto_ret])
          (try simp only [Exit.inBlock, Exit.then])
          refine bodyPost_ret (results_tmp2 rfl _ _ _) rfl ?_
          have ho := unhide HO2
          exact ⟨_, _, rfl, by rw [← unhide HFIN]; exact ho.own.base (by omega), ho.bel⟩
        | succ g2 =>
          have hlt2 : (i : Int) < (N : Int) := by omega
          have hki : IntKind.i64.wrap ((i : Int) + 1) = (i : Int) + 1 := IntWalk.i64_in _ (by omega)
          have hf := unhide HF
          rw [nextFrom_succ] at hf
          obtain ⟨l, hl⟩ : ∃ l, RS[i]? = some l := nth_of (unhide HN) (by omega)
          have hmb := unhide HMB th i l hl
          have ho := unhide HO2
          have hcell := ho.row.cell (i := i) (by omega)
          have hfz := ho.row.frozen i
          cases ht : th.getD i false with
          | true =>
            rw [ht] at hcell hf
            rw [if_neg (by simp)] at hf
            have HF2 := hide hf
            clear hf hmb ho hl hfz ht
            go_wp2
            go_roundg g2
            case measure => omega
            case rel => exact ⟨i + 1, by omega, by go_num, rfl, HO2, HF2⟩
          | false =>
            rw [ht] at hcell hf
            have hm := unhide HMAY wr ho.bel i l hl th ho.row
            rw [← hmb] at hm
            obtain ⟨mb, hmbv⟩ : ∃ mb, P28.mayB RS th i = mb := ⟨_, rfl⟩
            rw [hmbv] at hm hf
            have HMM := hide hm
            cases mb with
            | false =>
              rw [if_neg (by simp)] at hf
              have HF2 := hide hf
              clear hf hmb ho hl hfz ht hm hmbv
              go_wp2_with (go_at_call 220; refine (unhide HMM).mono ?_; rintro e w2 ⟨rfl, hb2⟩)
              go_roundg g2
              case measure => omega
              case rel => exact ⟨i + 1, by omega, by go_num, rfl, hide ((unhide HO2).below hb2), HF2⟩
            | true =>
              rw [if_pos ⟨rfl, rfl⟩] at hf
              subst hf
              have hgo2 : P28.orderGo RS g' (th.set i true) (out ++ [i]) = ORD := unhide HGO
              have HGO2 := hide hgo2
              clear hmb ho hl hfz ht hm hmbv hgo2
              go_upto_region 8 with (go_at_call 220; refine (unhide HMM).mono ?_; rintro e w2 ⟨rfl, hb2⟩)
              have ho2 := (unhide HO2).below hb2
              have hcell2 := ho2.row.cell (i := i) (by omega)
              have hfz2 := ho2.row.frozen i
              have hz2 := ho2.size
              obtain ⟨W3, hW3⟩ : ∃ W3, w2.setCell ⟨H, i, none⟩ (.bool true) = W3 := ⟨_, rfl⟩
              have hs3 : W3.heap.size = w2.heap.size := by rw [← hW3]; simp
              have hoth : ∀ g, g ≠ H → W3.heap[g]? = w2.heap[g]? := fun g hg => by rw [← hW3]; exact Below.heap_setCell _ _ _ _ hg
              have hb3 : Below H w W3 := by rw [← hW3]; exact ho2.bel.setCell (p := ⟨H, i, none⟩) (Nat.le_refl H) _
              obtain ⟨W4, hW4, hb4, g4, hs4⟩ := new1 W3 (.cells #[.int .i64 i] 3) w2.heap.size hs3
              have hown4 : OwnN W4 (H + 1) (.slice va out.length vc) out := (ho2.own.keep (fun g hg => hoth g (by have := (ho2.own.lt hg).1; omega))).keep (fun g hg => hb4.block g (ho2.own.lt hg).2)
              have hnH : (Value.slice va out.length vc).ownBlock ≠ some H := fun e => by have := (ho2.own.lt e).1; omega
              have HO2' := hide ho2
              have HW3 := hide hW3
              have HW4 := hide hW4
              have HB3 := hide hb3
              have HB4 := hide hb4
              have HG4 := hide g4
              have HOWN4 := hide hown4
              clear ho2 hW3 hW4 hoth hb3 hb4 g4 hown4 hcell HO2 HO
              go_upto_region 9 with fail
              rw [unhide HW3]
              clear hcell2 hfz2
              go_wp2_with (rw [unhide HW4]; refine wpList_appNat (j := i) (by rfl) _ _ (by rfl) (by rfl) (unhide HOWN4) w2.heap.size 1 (by rfl) (unhide HG4) out.length rfl (by omega) (by omega) ?_; intro g5 cap5 w5 hown5 hgrow5 hat5 hlt5)
              have hnext := (unhide HO2').next (i := i) (V2 := w5) (by omega) hown5 (by rw [unhide HW3]; have := hgrow5.size; omega) (by rw [unhide HW3]; exact (hgrow5.block H (by omega) (fun e => hnH e.symm)).trans ((unhide HB4).block H (by omega)))
                ((((unhide HB3).trans ((unhide HB4).mono (by omega)))).grown hgrow5 (by omega) (fun k e => by have := ((unhide HOWN4).lt e).1; omega))
              have HNEXT := hide hnext
              clear hnext hown5 hgrow5 hat5
              go_roundg g'
              case measure => omega
              case rel => exact ⟨_, _, _, by simp; omega, rfl, HNEXT, HGO2⟩
end Go.Proofs.YtefokfbgpfcbkaaGreat
namespace Go.Proofs.YtefokfbgpfcbkaaGreat
set_option linter.unusedVariables false
set_option linter.unusedSimpArgs false
open Go.RowKit
theorem roundFrom_succ (o : List Nat) (n i : Nat) : P28.roundFrom o (n + 1) i = (if i ∈ o then [] else [i]) ++ P28.roundFrom o n (i + 1) := rfl
theorem roundFrom_lt (o : List Nat) : ∀ (n i x : Nat), x ∈ P28.roundFrom o n i → x < i + n
  | 0, i, x, h => by simp [P28.roundFrom] at h
  | n + 1, i, x, h => by
    rw [roundFrom_succ] at h
    rcases List.mem_append.1 h with h | h
    · split at h
      · simp at h
      · simp at h; omega
    · have := roundFrom_lt o n (i + 1) x h; omega
theorem roundFrom_len (o : List Nat) : ∀ (n i : Nat), (P28.roundFrom o n i).length ≤ n
  | 0, i => by simp [P28.roundFrom]
  | n + 1, i => by
    rw [roundFrom_succ, List.length_append]
    have := roundFrom_len o n (i + 1)
    split <;> simp <;> omega
structure RoI (w V : World) (H : Nat) (o out : List Nat) (vo v : Value) : Prop where
  ow : OwnN V H vo o
  own : OwnN V H v out
  ne : ∀ g, v.ownBlock = some g → vo.ownBlock ≠ some g
  bel : Below H w V
set_option maxRecDepth 100000 in
set_option maxHeartbeats 4000000 in
theorem Round_any (B b N : Nat) (vs : Nat → Value) (RS : List (List Nat)) (w : World) (hg : Grid w B b vs RS) (hN : RS.length = N) (hlt : ∀ l ∈ RS, ∀ x ∈ l, x < N) (hN9 : N ≤ 100000) :
    Calls Tryz.prog 167 #[.slice (some ⟨b, 0, none⟩) N N] w fun e w' => ∃ v, e = .returned v ∧ OwnN w' w.heap.size v (P28.round RS) ∧ Below w.heap.size w w' := by
  have hord := Order_any B b N vs RS w hg hN hlt hN9
  obtain ⟨H, hH⟩ : ∃ H, w.heap.size = H := ⟨_, rfl⟩
  rw [hH] at hord ⊢
  obtain ⟨O, hO⟩ : ∃ O, P28.order RS = O := ⟨_, rfl⟩
  have hrd : P28.roundFrom O N 0 = P28.round RS := by unfold P28.round; rw [hO, hN]
  rw [hO] at hord
  obtain ⟨RND, hRND⟩ : ∃ R, P28.round RS = R := ⟨_, rfl⟩
  rw [hRND] at hrd ⊢
  have HORD := hide hord
  have HRD := hide hrd
  clear hord hrd hRND hO hg hlt hN
  go_enter Tryz.func167, Tryz.ntmps167
  go_upto_region 2 with (go_at_call 196; refine (unhide HORD).mono ?_; rintro e w1 ⟨vo, bb, rfl, how, hb1⟩; obtain ⟨oa, oc, rfl, ho1, ho2, _⟩ := how.slice)
  have hz1 := hb1.size
  rw [hH] at hz1
  have hI1 : RoI w w1 H O [] (.slice oa O.length oc) (.slice none 0 0) := ⟨how, OwnN.nil _ _, (fun g e => by cases e), hb1⟩
  have HI1 := hide hI1
  clear how hb1 hI1
  go_wp2
  go_loopg [5, 14] N (fun g s5 s14 wx => ∃ (i : Nat) (out : List Nat) (v : Value), i + g = N ∧ s14 = .int .i64 i ∧ s5 = v ∧ out.length ≤ i ∧ H ≤ wx.heap.size ∧ Hid (RoI w wx H O out (.slice oa O.length oc) v) ∧ Hid (out ++ P28.roundFrom O g i = RND))
  case atStart => exact ⟨0, [], _, by omega, by go_num, rfl, by simp, hz1, HI1, by simpa using HRD⟩
  case round =>
    obtain ⟨i, out, v, hig, rfl, rfl, hol, hzr, HI, HR⟩ := hrel
    cases gk with
    | zero =>
      have e1 : (N : Int) ≤ (i : Int) := by omega
      have j1 : decide ((i : Int) < (N : Int)) = false := by simp; omega
      have hfin : out = RND := by have h := unhide HR; simpa [P28.roundFrom] using h
      have HFIN := hide hfin
      clear hfin
      go_wp2
      go_ret
      have hi := unhide HI
      exact ⟨_, rfl, by rw [← unhide HFIN]; exact hi.own, hi.bel⟩
    | succ g' =>
      have hlt : (i : Int) < (N : Int) := by omega
      have hki : IntKind.i64.wrap ((i : Int) + 1) = (i : Int) + 1 := IntWalk.i64_in _ (by omega)
      obtain ⟨va, vc, rfl, hv1, hv2, _⟩ := (unhide HI).own.slice
      obtain ⟨oa', oc', e, _, _, hin⟩ := (unhide HI).ow.slice
      have e1 : oa' = oa := by injection e with e1 _ _; exact e1.symm
      clear e
      subst e1
      have hcon := containsN_any oa' oc O (i : Int) wr hin (by omega)
      have hmem : decide ((i : Int) ∈ O.map (fun y : Nat => (y : Int))) = decide (i ∈ O) := by
        rw [Bool.eq_iff_iff, decide_eq_true_eq, decide_eq_true_eq, List.mem_map]
        constructor
        · rintro ⟨y, hy, e⟩
          rw [← show y = i by omega]
          exact hy
        · intro h; exact ⟨i, h, rfl⟩
      rw [hmem] at hcon
      have hr := unhide HR
      rw [roundFrom_succ] at hr
      have HC := hide hcon
      clear hin hcon hmem
      by_cases hmi : i ∈ O
      · have d1 : decide (i ∈ O) = true := by simpa using hmi
        rw [if_pos hmi, List.nil_append] at hr
        have HR2 := hide hr
        clear hr hmi
        go_wp2_with (go_at_call 77; refine (unhide HC).mono ?_; rintro e w2 ⟨rfl, hw⟩; have hw := hw.symm; subst hw)
        go_roundg g'
        case measure => omega
        case rel => exact ⟨i + 1, out, _, by omega, by go_num, rfl, by omega, hzr, HI, HR2⟩
      · have d1 : decide (i ∈ O) = false := by simpa using hmi
        rw [if_neg hmi] at hr
        have hr2 : (out ++ [i]) ++ P28.roundFrom O g' (i + 1) = RND := by rw [List.append_assoc]; exact hr
        have hi := unhide HI
        obtain ⟨W4, hW4, hb4, g4, hs4⟩ := new1 wr (.cells #[.int .i64 i] 3) wr.heap.size rfl
        have hown4 : OwnN W4 H (.slice va out.length vc) out := hi.own.keep (fun g hg => hb4.block g (hi.own.lt hg).2)
        have how4 : OwnN W4 H (.slice oa' O.length oc) O := hi.ow.keep (fun g hg => hb4.block g (hi.ow.lt hg).2)
        have HR2 := hide hr2
        have HW4 := hide hW4
        have HB4 := hide hb4
        have HG4 := hide g4
        have HOWN4 := hide hown4
        have HOW4 := hide how4
        clear hr hmi hr2 hi hW4 hb4 g4 hown4 how4
        go_wp2_with (first | (go_at_call 77; refine (unhide HC).mono ?_; rintro e w2 ⟨rfl, hw⟩; have hw := hw.symm; subst hw) | (rw [unhide HW4]; refine wpList_appNat (j := i) (by rfl) _ _ (by rfl) (by rfl) (unhide HOWN4) wr.heap.size 1 (by rfl) (unhide HG4) out.length rfl (by omega) (by omega) ?_; intro g5 cap5 w5 hown5 hgrow5 hat5 hlt5))
        have hi := unhide HI
        have hnext : RoI w w5 H O (out ++ [i]) (.slice oa' O.length oc) (.slice (some ⟨g5, 0, none⟩) (out.length + 1) cap5) := ⟨(unhide HOW4).keep (fun g hg => hgrow5.block g ((unhide HOW4).lt hg).2 (fun e => hi.ne g e.symm hg)), hown5, fun g e => by
          cases e
          rcases hat5 with h | h
          · exact hi.ne _ h
          · intro h2; have h3 : g5 < wr.heap.size := (hi.ow.lt h2).2; rw [hs4] at h; omega, (hi.bel.trans ((unhide HB4).mono hzr)).grown hgrow5 (by omega) (fun k e => ((unhide HOWN4).lt e).1)⟩
        have HNEXT := hide hnext
        have hz5 := hgrow5.size
        have hz6 : H ≤ w5.heap.size := by omega
        clear hnext hown5 hgrow5 hat5 hi
        go_roundg g'
        case measure => omega
        case rel => exact ⟨i + 1, _, _, by omega, by go_num, rfl, by simp; omega, hz6, HNEXT, HR2⟩
end Go.Proofs.YtefokfbgpfcbkaaGreat
namespace Go.Proofs.YtefokfbgpfcbkaaGreat
set_option linter.unusedVariables false
set_option linter.unusedSimpArgs false
open Go.RowKit
theorem run_app_none {W : World} {B : Nat} {v : Value} {ns : List P28.Note} (hown : OwnT W B v ns) (ty : TypeId) : (Builtin.append_ #[124, 124] ty #[v, .slice none 0 0]).run Tryz.prog W = .ok v W := by
  obtain ⟨i, hi, hz, hsz, hby⟩ := info_parts diagInfo
  have ht := Tryz.underlying124
  rcases hown.2 with ⟨rfl, h0⟩ | ⟨g, cap, cur, rfl, hbg, hg, hnc, hcm, hcs, htake⟩
  · simp [Builtin.append_, run_underlying ht, sizeOf, typeInfo, hi, Builtin.lenOf, Builtin.firstCells, loadCells, loadCellsFrom]
  · simp [Builtin.append_, run_underlying ht, sizeOf, typeInfo, hi, Builtin.lenOf, Builtin.firstCells, loadCells, loadCellsFrom]
    rw [if_pos hnc]
    simp [storeCells]
theorem run_appT {W : World} {B B2 : Nat} {v u : Value} {ns ms : List P28.Note} (hown : OwnT W B v ns) (hu : OwnT W B2 u ms) (ty : TypeId) (hlen : ns.length + ms.length ≤ 1000000000000) (hB : B ≤ W.heap.size) :
    ∃ v' w', (Builtin.append_ #[124, 124] ty #[v, u]).run Tryz.prog W = .ok v' w' ∧ OwnT w' B v' (ns ++ ms) ∧ W.grownBy w' v.ownBlock := by
  have hu2 := hu
  rcases hu.2 with ⟨rfl, h0⟩ | ⟨g, cap, cur, rfl, hbg, hg, hnc, hcm, hcs, htake⟩
  · have e : ms = [] := List.eq_nil_of_length_eq_zero h0
    subst e
    exact ⟨v, W, run_app_none hown ty, by simpa using hown, ⟨rfl, rfl, rfl, Nat.le_refl _, fun _ _ _ => rfl⟩⟩
  · obtain ⟨i, hi, hz, hsz, hby⟩ := info_parts diagInfo
    obtain ⟨v', w', h1, h2, h3, _⟩ := run_append_own (P := Tryz.prog) W B 124 ty 183 i (.agg #[.int .i64 0, .int .i64 0, .string ⟨#[]⟩]) 3 32 Tryz.underlying124 hi hz hsz hby rfl (by decide) v ns.length (nCells ns) hown
      ⟨g, 0, none⟩ ms.length cap (nCells ms) (nCells_len ms) (fun j x hj => (hu2.cells (g := g) rfl) j x hj) (fun x hx => by
        unfold nCells at hx
        obtain ⟨n, _, hx⟩ := List.mem_flatMap.1 hx
        simp [noteV] at hx
        rcases hx with rfl | rfl | rfl <;> rfl) (by unfold maxLen; omega) (by omega) hB
    refine ⟨v', w', h1, ?_, h3⟩
    unfold OwnT
    rw [List.length_append]
    have e : nCells (ns ++ ms) = nCells ns ++ nCells ms := by unfold nCells; rw [List.flatMap_append]
    rw [e]
    exact h2
theorem wpList_appT {w : World} {B B2 : Nat} {v u : Value} {ns ms : List P28.Note} {ops : Array Oper} {rest : List Oper} {o : Oper} {a : Act} {Q : Exit → Act → World → Prop} (hgd : o.guard = none) (s x : Operand)
    (ho : o.op = .call { callee := .builtin .append, args := #[s, x], argTypes := #[124, 124] })
    (hs : a.eval s = v) (hown : OwnT w B v ns) (hx : a.eval x = u) (hu : OwnT w B2 u ms) (hlen : ns.length + ms.length ≤ 1000000000000) (hB : B ≤ w.heap.size)
    (h : ∀ v' w', OwnT w' B v' (ns ++ ms) → w.grownBy w' v.ownBlock → wpList Tryz.prog ops Q rest (a.put o.dst v') w') :
    wpList Tryz.prog ops Q (o :: rest) a w := by
  obtain ⟨v', w', hr, h2, h3⟩ := run_appT hown hu o.type hlen hB
  refine wpList_plain hgd fun K hK => ?_
  unfold Oper.wp execOp
  simp only [ho, resolve, invoke, builtin, Sem.run_bind, Sem.run_pure, Result.andThen_ok, List.map_toArray, List.map_cons, List.map_nil, hs, hx, hr]
  exact hK _ _ (h v' w' h2 h3)
theorem P28.sort_len (l : List P28.Note) : (P28.sortN l).length ≤ l.length := by
  unfold P28.sortN
  rw [List.length_mergeSort]
  exact P28.once_len l
theorem namesP_len (d : P22.Def) (hl : d.steps.length ≤ 100000) (haf : ∀ s ∈ d.steps, s.after.length ≤ 1000000) : (P28.namesP d).length ≤ 400000000000 := by
  have h1 := P28.nt_le d.steps.isEmpty (-1) 17 []
  have h2 := P28.nt_le (!P28.right d.name) (-1) 18 d.name
  have h3 := stepsN_len (P28.names d) d.steps 0
  have h4 := refsN_len (P28.names d) (P28.refL (P28.names d) 0 (P28.afters d)) []
  have h5 := refL_len_le (P28.names d) 1000000 (P28.afters d) 0 (fun x hx => by
    obtain ⟨s, hs, rfl⟩ := List.mem_map.1 hx
    exact haf s hs)
  have h6 : (P28.afters d).length = d.steps.length := by simp [P28.afters]
  rw [h6] at h5
  have h7 : d.steps.length * 1000000 ≤ 100000 * 1000000 := Nat.mul_le_mul_right _ hl
  unfold P28.namesP
  simp only [List.length_append]
  omega
theorem boundsP_len (d : P22.Def) (hl : d.steps.length ≤ 100000) (haf : ∀ s ∈ d.steps, s.after.length ≤ 1000000) : (P28.boundsP d).length ≤ 400000000000 := by
  have h1 := stepsB_len d.steps 0
  have h2 := undosP_len (P28.undos d) (P28.names d) 1000000 (P28.refs d) 0 (rows_rl _ 1000000 _ 0 (fun a ha => by
    obtain ⟨s, hs, rfl⟩ := List.mem_map.1 ha
    exact haf s hs))
  rw [P28.refs_len] at h2
  have h7 : d.steps.length * 1000000 ≤ 100000 * 1000000 := Nat.mul_le_mul_right _ hl
  unfold P28.boundsP
  simp only [List.length_append]
  omega
theorem cyc_len (d : P22.Def) : (P28.cyc d).length ≤ d.steps.length := by
  unfold P28.cyc P28.round
  rw [List.length_map]
  have := roundFrom_len (P28.order (P28.refs d)) (P28.refs d).length 0
  rw [P28.refs_len] at this ⊢
  exact this
structure RdI (w V : World) (H : Nat) (d : PDef) (rs : List Nat) (ns : List P28.Note) (vr v : Value) : Prop where
  df : V.heap[H]? = some (defO d)
  rw_ : OwnN V (H + 1) vr rs
  own : OwnT V (H + 1) v ns
  ne : ∀ g, v.ownBlock = some g → vr.ownBlock ≠ some g
  bel : Below H w V
  size : H + 1 ≤ V.heap.size
set_option maxRecDepth 100000 in
set_option maxHeartbeats 8000000 in
theorem rounds_any (d : PDef) (w : World) (hin : d.In w) (hl : d.steps.length ≤ 100000) (haf : ∀ s ∈ d.steps, s.after.length ≤ 1000000) :
    Calls Tryz.prog 126 #[d.val] w fun e w' => ∃ v, e = .returned v ∧ OwnT w' w.heap.size v (P28.cyc d.bare) ∧ Below w.heap.size w w' := by
  have hdlt := fun r (hr : d.blk r) => hin.lt hr
  obtain ⟨H, hH⟩ : ∃ H, w.heap.size = H := ⟨_, rfl⟩
  rw [hH] at hdlt ⊢
  obtain ⟨W1, hW1, hb1, g0, hs1⟩ := new1 w (defO d) H hH
  have hin1 := hin.below (by rw [hH]; exact hb1)
  have hrefs := Refs_any d W1 hin1 hl haf
  have hlt : ∀ l ∈ P28.refs d.bare, ∀ x ∈ l, x < d.steps.length := fun l h x hx => by
    have := P28.refs_lt h hx
    simpa [PDef.bare] using this
  have hrn : (P28.refs d.bare).length = d.steps.length := by rw [P28.refs_len]; simp [PDef.bare]
  have hround := fun B b vs V (hg : Grid V B b vs (P28.refs d.bare)) => Round_any B b d.steps.length vs (P28.refs d.bare) V hg hrn hlt hl
  have hcyc : P28.cyc d.bare = (P28.round (P28.refs d.bare)).map fun (i : Nat) => ((i : Int), (16 : Int), (d.steps.map PSt.name).getD i []) := by
    unfold P28.cyc
    simp [P28.names, PDef.bare, PSt.bare, Function.comp_def]
  have hrlt : ∀ x ∈ P28.round (P28.refs d.bare), x < d.steps.length := fun x hx => by
    have := roundFrom_lt _ _ _ _ hx
    omega
  have hrll : (P28.round (P28.refs d.bare)).length ≤ d.steps.length := by
    have := roundFrom_len (P28.order (P28.refs d.bare)) (P28.refs d.bare).length 0
    rw [hrn] at this
    unfold P28.round
    rw [hrn]
    exact this
  obtain ⟨RR, hRR⟩ : ∃ RR, P28.round (P28.refs d.bare) = RR := ⟨_, rfl⟩
  rw [hRR] at hround hcyc hrlt hrll
  rw [hcyc]
  obtain ⟨⟨k0, _⟩, ⟨k1, _⟩, ⟨k2, _⟩⟩ := cell3 g0
  have HW1 := hide hW1
  have HG0 := hide g0
  have HB1 := hide hb1
  have HIN := hide hin
  have HDLT := hide hdlt
  have HREFS := hide hrefs
  have HROUND := hide hround
  have HRLT := hide hrlt
  clear hW1 hb1 g0 hin hin1 hdlt hrefs hround hlt hrn hcyc hrlt hRR haf
  unfold defO at HW1
  obtain ⟨nm, tx, sa, sc, ss⟩ := d
  obtain ⟨M, hM⟩ : ∃ M, ss.length = M := ⟨_, rfl⟩
  unfold PDef.val at HREFS ⊢
  simp only at hl k0 k1 k2 HW1 HREFS HROUND HRLT hrll ⊢
  rw [hM] at hl k2 HW1 HREFS HROUND HRLT hrll ⊢
  have HM := hide hM
  clear hM
  go_enter Tryz.func126, Tryz.ntmps126
  go_upto_region 2 with fail
  try rw [hH]
  rw [unhide HW1]
  go_upto_region 3 with (first | (go_at_call 59; refine (unhide HREFS).mono ?_; rintro e w2 ⟨bR, vs, rfl, hgr, hb2⟩) | (go_at_call 167; refine (unhide HROUND _ _ _ _ hgr).mono ?_; rintro e w3 ⟨vr, rfl, hor, hb3⟩; obtain ⟨ra, rc, rfl, hr1, hr2, _⟩ := hor.slice))
  have hz2 := hb2.size
  have hz3 := hb3.size
  have hI : RdI w w3 H ⟨nm, tx, sa, sc, ss⟩ RR [] (.slice ra RR.length rc) (.slice none 0 0) := ⟨(hb3.block H (by omega)).trans ((hb2.block H (by omega)).trans (unhide HG0)), hor.base (by omega), OwnT.nil _ _, (fun g e => by cases e), ((unhide HB1).trans (hb2.mono (by omega))).trans (hb3.mono (by omega)), by omega⟩
  have HI := hide hI
  clear hI hb2 hb3 hgr hor k0 k1 k2 HG0 HB1
  obtain ⟨NR, hNR⟩ : ∃ NR, RR.length = NR := ⟨_, rfl⟩
  rw [hNR] at HI hrll hr1 ⊢
  have HNR := hide hNR
  clear hNR
  go_wp2
  go_loopg [3, 10] NR (fun g s3 s10 wx => ∃ (i : Nat) (v : Value), i + g = NR ∧ s10 = .int .i64 i ∧ s3 = v ∧ Hid (RdI w wx H ⟨nm, tx, sa, sc, ss⟩ RR ((RR.take i).map fun (i : Nat) => ((i : Int), (16 : Int), (ss.map PSt.name).getD i [])) (.slice ra NR rc) v))
  case atStart => exact ⟨0, _, by omega, by go_num, rfl, by simpa using HI⟩
  case round =>
    obtain ⟨i, v, hig, rfl, rfl, HI2⟩ := hrel
    cases gk with
    | zero =>
      have e1 : (NR : Int) ≤ (i : Int) := by omega
      have j1 : decide ((i : Int) < (NR : Int)) = false := by simp; omega
      have htk : RR.take i = RR := List.take_of_length_le (by rw [unhide HNR]; omega)
      have hi := unhide HI2
      rw [htk] at hi
      have HI3 := hide hi
      clear hi htk
      go_wp2
      go_ret
      exact ⟨_, rfl, (unhide HI3).own.base (by omega), (unhide HI3).bel⟩
    | succ g' =>
      have hlt : (i : Int) < (NR : Int) := by omega
      have hki : IntKind.i64.wrap ((i : Int) + 1) = (i : Int) + 1 := IntWalk.i64_in _ (by omega)
      have hi := unhide HI2
      obtain ⟨x, hx⟩ := nth_of (unhide HNR) (show i < NR by omega)
      have hxM := unhide HRLT x (List.mem_of_getElem? hx)
      obtain ⟨ra', rc', e, _, _, hinn⟩ := hi.rw_.slice
      have e1 : ra' = ra := by injection e with e1 _ _; exact e1.symm
      clear e
      subst e1
      obtain ⟨rb, ro, rfl, cj⟩ := hinn i x hx
      unfold iv at cj
      obtain ⟨s2, hg2⟩ := nth_of (unhide HM) hxM
      have hwa := ((unhide HIN).below (by rw [hH]; exact hi.bel)).steps
      obtain ⟨b2, o2, rfl, c1, hi1⟩ := hwa.get hg2
      obtain ⟨⟨c0, _, _, _⟩, _, _⟩ := step_cells c1
      obtain ⟨⟨k0, _⟩, ⟨k1, _⟩, ⟨k2, _⟩⟩ := cell3 hi.df
      simp only [unhide HM] at k0 k1 k2
      have hnd : (ss.map PSt.name).getD x [] = s2.name := by rw [List.getD_eq_getElem?_getD, List.getElem?_map, hg2]; rfl
      obtain ⟨nm2, hnm2⟩ : ∃ a, s2.name = a := ⟨_, rfl⟩
      rw [hnm2] at c0 hnd
      obtain ⟨L1, hL1⟩ : ∃ L1, ((RR.take i).map fun (i : Nat) => ((i : Int), (16 : Int), (ss.map PSt.name).getD i [])) = L1 := ⟨_, rfl⟩
      have hL2 : ((RR.take (i + 1)).map fun (i : Nat) => ((i : Int), (16 : Int), (ss.map PSt.name).getD i [])) = L1 ++ [((x : Int), (16 : Int), nm2)] := by
        rw [List.take_add_one, hx, List.map_append, hL1]
        show L1 ++ [((x : Int), (16 : Int), (ss.map PSt.name).getD x [])] = _
        rw [hnd]
      have hlen1 : L1.length ≤ 100000 := by rw [← hL1, List.length_map, List.length_take]; omega
      rw [hL1] at hi
      obtain ⟨va, vc, rfl⟩ := hi.own.form
      have hsz := hi.size
      obtain ⟨W4, hW4, hb4, g4, hs4⟩ := new1 wr (.cells #[.int .i64 x, .int .i64 16, .string ⟨nm2.toArray⟩] 183) wr.heap.size rfl
      have hown4 : OwnT W4 (H + 1) (.slice va L1.length vc) L1 := hi.own.keep (fun g hg => hb4.block g (hi.own.lt hg).2)
      have HI3 := hide hi
      have HL2 := hide hL2
      have HW4 := hide hW4
      have HB4 := hide hb4
      have HG4 := hide g4
      have HOWN4 := hide hown4
      clear hi hL1 hL2 hW4 hb4 g4 hown4 hinn hx hwa hi1 hnd hnm2 hg2 c1
      go_wp2_with (rw [unhide HW4]; refine wpList_appNote (p := ((x : Int), (16 : Int), nm2)) (by rfl) _ _ (by rfl) (by rfl) (unhide HOWN4) wr.heap.size 1 (by rfl) (unhide HG4) L1.length rfl (by omega) (by omega) ?_; intro g5 cap5 w5 hown5 hgrow5 hat5 hlt5)
      have hi := unhide HI3
      have hb4 := unhide HB4
      have hvo : ∀ g, (Value.slice va L1.length vc).ownBlock = some g → H + 1 ≤ g ∧ g < wr.heap.size := fun g e => hi.own.lt e
      have hnext : RdI w w5 H ⟨nm, tx, some ⟨b2, o2, none⟩, sc, ss⟩ RR (L1 ++ [((x : Int), (16 : Int), nm2)]) (.slice (some ⟨rb, ro, none⟩) NR rc) (.slice (some ⟨g5, 0, none⟩) (L1.length + 1) cap5) := by
        refine ⟨(hgrow5.block H (by omega) (fun e => by have := (hvo H e.symm).1; omega)).trans ((hb4.block H (by omega)).trans hi.df), (hi.rw_.keep (fun g hg => hb4.block g (hi.rw_.lt hg).2)).keep (fun g hg => hgrow5.block g (by have := (hi.rw_.lt hg).2; omega) (fun e => hi.ne g e.symm hg)), hown5, fun g e => ?_, (hi.bel.trans (hb4.mono (by omega))).grown hgrow5 (by omega) (fun k e => by have := (hvo k e).1; omega), by have := hgrow5.size; omega⟩
        cases e
        rcases hat5 with h | h
        · exact hi.ne _ h
        · intro h2
          have h3 : g5 < wr.heap.size := (hi.rw_.lt h2).2
          omega
      rw [← unhide HL2] at hnext
      have HNEXT := hide hnext
      clear hnext hown5 hgrow5 hat5 hi hb4
      go_roundg g'
      case measure => omega
      case rel => exact ⟨i + 1, _, by omega, by go_num, rfl, HNEXT⟩
end Go.Proofs.YtefokfbgpfcbkaaGreat
namespace Go.Proofs.YtefokfbgpfcbkaaGreat
set_option linter.unusedVariables false
set_option linter.unusedSimpArgs false
open Go.RowKit
def P28.allP (d : P22.Def) : List P28.Note := P28.sortN (P28.sortN (P28.namesP d) ++ P28.sortN (P28.boundsP d) ++ P28.cyc d)
theorem P28.allP_nil (d : P22.Def) : P28.allP d = [] ↔ P28.namesP d = [] ∧ P28.boundsP d = [] ∧ P28.cyc d = [] := by
  unfold P28.allP
  rw [P28.sort_nil, List.append_eq_nil_iff, List.append_eq_nil_iff, P28.sort_nil, P28.sort_nil, and_assoc]
structure PDef.fit (d : PDef) : Prop where
  len : d.steps.length ≤ 100000
  name : d.name.length ≤ maxLen
  st : ∀ s ∈ d.steps, s.name.length ≤ maxLen ∧ s.action.length ≤ maxLen ∧ s.undo.length ≤ maxLen
  af : ∀ s ∈ d.steps, s.after.length ≤ 1000000
set_option maxRecDepth 100000 in
set_option maxHeartbeats 8000000 in
theorem gather_any (d : PDef) (w : World) (g : Nat) (hin : d.In w) (hf : d.fit) (hg : w.heap[g]? = some (.cells #[.func (.func 124) #[] #[], .func (.func 125) #[] #[], .func (.func 126) #[] #[]] 125)) :
    Calls Tryz.prog 123 #[d.val, .slice (some ⟨g, 0, none⟩) 3 3] w fun e w' => ∃ v, e = .returned v ∧ OwnT w' w.heap.size v (P28.allP d.bare) ∧ Below w.heap.size w w' := by
  obtain ⟨H, hH⟩ : ∃ H, w.heap.size = H := ⟨_, rfl⟩
  rw [hH]
  have hafb : ∀ s ∈ d.bare.steps, s.after.length ≤ 1000000 := fun s hs => by
    simp only [PDef.bare, List.mem_map] at hs
    obtain ⟨x, hx, rfl⟩ := hs
    exact hf.af x hx
  have hlb : d.bare.steps.length ≤ 100000 := by simpa [PDef.bare] using hf.len
  have hl1 := Nat.le_trans (P28.sort_len (P28.namesP d.bare)) (namesP_len d.bare hlb hafb)
  have hl2 := Nat.le_trans (P28.sort_len (P28.boundsP d.bare)) (boundsP_len d.bare hlb hafb)
  have hl3 := Nat.le_trans (cyc_len d.bare) hlb
  obtain ⟨W1, hW1, hb1, g0, hs1⟩ := new1 w (defO d) H hH
  have hglt : g < H := by rw [← hH]; exact (Array.getElem?_eq_some_iff.1 hg).1
  have hinV : ∀ V, Below H w V → d.In V := fun V hV => hin.below (by rw [hH]; exact hV)
  have hc1 := fun V (hV : Below H w V) => namesCheck_any d V (hinV V hV) hf.name hf.st hf.len hf.af
  have hc2 := fun V (hV : Below H w V) => boundsCheck_any d V (hinV V hV) hf.len hf.af (fun s hs => (hf.st s hs).1)
  have hc3 := fun V (hV : Below H w V) => rounds_any d V (hinV V hV) hf.len hf.af
  have hall : P28.sortN (P28.sortN (P28.namesP d.bare) ++ P28.sortN (P28.boundsP d.bare) ++ P28.cyc d.bare) = P28.allP d.bare := rfl
  obtain ⟨ALL, hALL⟩ : ∃ A, P28.allP d.bare = A := ⟨_, rfl⟩
  rw [hALL] at hall ⊢
  obtain ⟨L1, hL1⟩ : ∃ L, P28.sortN (P28.namesP d.bare) = L := ⟨_, rfl⟩
  obtain ⟨L2, hL2⟩ : ∃ L, P28.sortN (P28.boundsP d.bare) = L := ⟨_, rfl⟩
  obtain ⟨L3, hL3⟩ : ∃ L, P28.cyc d.bare = L := ⟨_, rfl⟩
  rw [hL1] at hl1 hc1 hall
  rw [hL2] at hl2 hc2 hall
  rw [hL3] at hl3 hc3 hall
  obtain ⟨L12, hL12⟩ : ∃ L, L1 ++ L2 = L := ⟨_, rfl⟩
  obtain ⟨L123, hL123⟩ : ∃ L, L12 ++ L3 = L := ⟨_, rfl⟩
  rw [hL12, hL123] at hall
  have hl12 : L12.length ≤ 800000000000 := by rw [← hL12, List.length_append]; omega
  have hl123 : L123.length ≤ 900000000000 := by rw [← hL123, List.length_append]; omega
  have HL12 := hide hL12
  have HL123 := hide hL123
  have HC1 := hide hc1
  have HC2 := hide hc2
  have HC3 := hide hc3
  have HALL := hide hall
  have HW1 := hide hW1
  have HG0 := hide g0
  have HB1 := hide hb1
  have HG := hide hg
  obtain ⟨⟨k0, _⟩, ⟨k1, _⟩, ⟨k2, _⟩⟩ := cell3 g0
  obtain ⟨⟨f0, _⟩, ⟨f1, _⟩, ⟨f2, _⟩⟩ := cell3 ((hb1.block g hglt).trans hg)
  clear hc1 hc2 hc3 hall hALL hL1 hL2 hL3 hL12 hL123 hW1 g0 hb1 hg hin hinV hf hafb hlb
  unfold defO at HW1 HG0
  obtain ⟨nm, tx, sa, sc, ss⟩ := d
  obtain ⟨M, hM⟩ : ∃ M, ss.length = M := ⟨_, rfl⟩
  unfold PDef.val at HC1 HC2 HC3 ⊢
  simp only at k0 k1 k2 HW1 HG0 HC1 HC2 HC3 ⊢
  rw [hM] at k2 HW1 HG0 HC1 HC2 HC3 ⊢
  clear hM
  go_enter Tryz.func123, Tryz.ntmps123
  go_upto_region 1 with fail
  try rw [hH]
  rw [unhide HW1]
  go_wp2
  refine wp_loop_rounds 4 ?_
  rw [rounds_succ]
  go_wp2_with (first | (go_at_call 124; refine (unhide HC1 _ (unhide HB1)).mono ?_; rintro e w2 ⟨v2, rfl, hT2, hb2⟩; obtain ⟨a2, c2, rfl⟩ := hT2.form) | (refine wpList_appT (B := H + 1) (by rfl) _ _ (by rfl) (by rfl) (OwnT.nil w2 (H + 1)) (by rfl) hT2 (by (try simp only [List.length_append, List.length_nil]); omega) (by have := hb2.size; omega) ?_; intro v3 w3 hT3 hg3; obtain ⟨a3, c3, rfl⟩ := hT3.form))
  rw [List.nil_append] at hT3
  have hbw3 : Below H w w3 := ((unhide HB1).trans (hb2.mono (by omega))).grown hg3 (by have := hb2.size; omega) (fun k e => by cases e)
  have hz2 := hb2.size
  have hz3 := hg3.size
  have hd3 := (hg3.block H (by omega) (by simp [Value.ownBlock])).trans ((hb2.block H (by omega)).trans (unhide HG0))
  have hf3 := (hbw3.block g hglt).trans (unhide HG)
  clear k0 k1 k2 f0 f1 f2
  obtain ⟨⟨k0, _⟩, ⟨k1, _⟩, ⟨k2, _⟩⟩ := cell3 hd3
  obtain ⟨⟨f0, _⟩, ⟨f1, _⟩, ⟨f2, _⟩⟩ := cell3 hf3
  have HT3 := hide hT3
  have HBW3 := hide hbw3
  have HD3 := hide hd3
  clear hT2 hT3 hb2 hg3 hbw3 hd3 hf3
  rw [rounds_succ]
  go_wp2_with (first | (go_at_call 125; refine (unhide HC2 _ (unhide HBW3)).mono ?_; rintro e w4 ⟨v4, rfl, hT4, hb4⟩; obtain ⟨a4, c4, rfl⟩ := hT4.form) | (refine wpList_appT (B := H + 1) (by rfl) _ _ (by rfl) (by rfl) ((unhide HT3).keep (fun k hk => hb4.block k ((unhide HT3).lt hk).2)) (by rfl) hT4 (by (try simp only [List.length_append, List.length_nil]); omega) (by have := hb4.size; omega) ?_; intro v5 w5 hT5 hg5; rw [unhide HL12] at hT5; obtain ⟨a5, c5, rfl⟩ := hT5.form))
  have hv5 : ∀ k, (Value.slice a3 L1.length c3).ownBlock = some k → H + 1 ≤ k := fun k e => ((unhide HT3).lt e).1
  have hz4 := hb4.size
  have hz5 := hg5.size
  have hbw5 : Below H w w5 := ((unhide HBW3).trans (hb4.mono (by omega))).grown hg5 (by omega) (fun k e => by have := hv5 k e; omega)
  have hd5 := (hg5.block H (by omega) (fun e => by have := hv5 H e.symm; omega)).trans ((hb4.block H (by omega)).trans (unhide HD3))
  have hf5 := (hbw5.block g hglt).trans (unhide HG)
  clear k0 k1 k2 f0 f1 f2
  obtain ⟨⟨k0, _⟩, ⟨k1, _⟩, ⟨k2, _⟩⟩ := cell3 hd5
  obtain ⟨⟨f0, _⟩, ⟨f1, _⟩, ⟨f2, _⟩⟩ := cell3 hf5
  have HT5 := hide hT5
  have HBW5 := hide hbw5
  have HD5 := hide hd5
  clear hT4 hT5 hb4 hg5 hbw5 hd5 hf5
  rw [rounds_succ]
  go_wp2_with (first | (go_at_call 126; refine (unhide HC3 _ (unhide HBW5)).mono ?_; rintro e w6 ⟨v6, rfl, hT6, hb6⟩; obtain ⟨a6, c6, rfl⟩ := hT6.form) | (refine wpList_appT (B := H + 1) (by rfl) _ _ (by rfl) (by rfl) ((unhide HT5).keep (fun k hk => hb6.block k ((unhide HT5).lt hk).2)) (by rfl) hT6 (by (try simp only [List.length_append, List.length_nil]); omega) (by have := hb6.size; omega) ?_; intro v7 w7 hT7 hg7; rw [unhide HL123] at hT7; obtain ⟨a7, c7, rfl⟩ := hT7.form))
  have hv7 : ∀ k, (Value.slice a5 L12.length c5).ownBlock = some k → H + 1 ≤ k := fun k e => ((unhide HT5).lt e).1
  have hz6 := hb6.size
  have hz7 := hg7.size
  have hbw7 : Below H w w7 := ((unhide HBW5).trans (hb6.mono (by omega))).grown hg7 (by omega) (fun k e => by have := hv7 k e; omega)
  have hd7 := (hg7.block H (by omega) (fun e => by have := hv7 H e.symm; omega)).trans ((hb6.block H (by omega)).trans (unhide HD5))
  have hf7 := (hbw7.block g hglt).trans (unhide HG)
  clear k0 k1 k2 f0 f1 f2
  obtain ⟨⟨k0, _⟩, ⟨k1, _⟩, ⟨k2, _⟩⟩ := cell3 hd7
  obtain ⟨⟨f0, _⟩, ⟨f1, _⟩, ⟨f2, _⟩⟩ := cell3 hf7
  have HT7 := hide hT7
  have HBW7 := hide hbw7
  have HD7 := hide hd7
  clear hT6 hT7 hb6 hg7 hbw7 hd7 hf7
  rw [rounds_succ]
  have hsort := Sort_any _ _ w7 _ (unhide HT7) (by omega)
  rw [unhide HALL] at hsort
  have HSORT := hide hsort
  clear hsort
  go_wp2_with (go_at_call 162; refine (unhide HSORT).mono ?_; rintro e w8 ⟨v8, rfl, hT8, hb8⟩)
  go_ret
  exact ⟨_, rfl, hT8.base (by omega), (unhide HBW7).trans (hb8.mono (by omega))⟩
set_option maxRecDepth 100000 in
set_option maxHeartbeats 8000000 in
theorem All_any (d : PDef) (w : World) (hin : d.In w) (hf : d.fit) :
    Calls Tryz.prog 79 #[d.val] w fun e w' => ∃ v, e = .returned v ∧ OwnT w' w.heap.size v (P28.allP d.bare) ∧ Below w.heap.size w w' := by
  obtain ⟨H, hH⟩ : ∃ H, w.heap.size = H := ⟨_, rfl⟩
  rw [hH]
  obtain ⟨W1, hW1, hb1, g0, hs1⟩ := new1 w (defO d) H hH
  obtain ⟨W2, hW2, hb2, g1, hs2⟩ := new1 W1 (.cells #[.func (.func 124) #[] #[], .func (.func 125) #[] #[], .func (.func 126) #[] #[]] 125) (H + 1) hs1
  have hbw2 : Below H w W2 := hb1.trans (hb2.mono (by omega))
  have hga := gather_any d W2 (H + 1) (hin.below (by rw [hH]; exact hbw2)) hf g1
  obtain ⟨⟨k0, _⟩, ⟨k1, _⟩, ⟨k2, _⟩⟩ := cell3 g0
  have HGA := hide hga
  have HW1 := hide hW1
  have HW2 := hide hW2
  have HBW2 := hide hbw2
  clear hga hW1 hW2 hb1 hb2 hbw2 g0 g1 hin hf
  unfold defO at HW1
  obtain ⟨nm, tx, sa, sc, ss⟩ := d
  obtain ⟨M, hM⟩ : ∃ M, ss.length = M := ⟨_, rfl⟩
  unfold PDef.val at HGA ⊢
  simp only at k0 k1 k2 HW1 HGA ⊢
  rw [hM] at k2 HW1 HGA ⊢
  clear hM
  go_enter Tryz.func79, Tryz.ntmps79
  go_upto_region 1 with fail
  try rw [hH]
  rw [unhide HW1]
  go_wp2_with (go_at_call 123; rw [unhide HW2]; refine (unhide HGA).mono ?_; rintro e w3 ⟨v3, rfl, hT3, hb3⟩)
  go_ret
  exact ⟨_, rfl, hT3.base (by omega), (unhide HBW2).trans (hb3.mono (by omega))⟩
end Go.Proofs.YtefokfbgpfcbkaaGreat
namespace Go.Proofs.YtefokfbgpfcbkaaGreat
set_option linter.unusedVariables false
set_option linter.unusedSimpArgs false
open Go.RowKit
theorem run_field_fault (w : World) (a b : Value) : (Instr.field 127 (.agg #[a, b]) 0).run Tryz.prog w = .ok a w := by kernel_rfl
attribute [local go_sem] run_field_fault
structure PDef.ok (d : PDef) : Prop where
  fit : d.fit
  short : d.short
theorem clean_all (d : P22.Def) : P28.clean d = (decide ((P28.allP d).length = 0) && decide ((P28.defE d).1 = 0)) := by
  rw [Bool.eq_iff_iff]
  unfold P28.clean
  simp only [Bool.and_eq_true, List.isEmpty_iff, decide_eq_true_eq, beq_iff_eq, List.length_eq_zero_iff, P28.allP_nil]
  constructor
  · rintro ⟨a, b, c, e⟩; exact ⟨⟨a, b, c⟩, e⟩
  · rintro ⟨⟨a, b, c⟩, e⟩; exact ⟨a, b, c, e⟩
set_option maxRecDepth 100000 in
set_option maxHeartbeats 8000000 in
theorem Clean_any (d : PDef) (w : World) (hin : d.In w) (hok : d.ok) :
    Calls Tryz.prog 30 #[d.val] w fun e w' => e = .returned (.bool (P28.clean d.bare)) ∧ Below w.heap.size w w' := by
  obtain ⟨H, hH⟩ : ∃ H, w.heap.size = H := ⟨_, rfl⟩
  rw [hH]
  obtain ⟨W1, hW1, hb1, g0, hs1⟩ := new1 w (defO d) H hH
  have hall := All_any d W1 (hin.below (by rw [hH]; exact hb1)) hok.fit
  have hchk := fun V (hV : Below H w V) => defCheck_any d V (hin.below (by rw [hH]; exact hV)) hok.short
  rw [clean_all]
  obtain ⟨L, hL⟩ : ∃ L, P28.allP d.bare = L := ⟨_, rfl⟩
  obtain ⟨⟨E, EL⟩, hE⟩ : ∃ E, P28.defE d.bare = E := ⟨_, rfl⟩
  rw [hL] at hall ⊢
  rw [hE] at hchk ⊢
  simp only at hchk ⊢
  obtain ⟨⟨k0, _⟩, ⟨k1, _⟩, ⟨k2, _⟩⟩ := cell3 g0
  have HALL := hide hall
  have HCHK := hide hchk
  have HW1 := hide hW1
  have HB1 := hide hb1
  have HG0 := hide g0
  clear hall hchk hW1 hb1 g0 hin hok hL hE
  unfold defO at HW1 HG0
  obtain ⟨nm, tx, sa, sc, ss⟩ := d
  obtain ⟨M, hM⟩ : ∃ M, ss.length = M := ⟨_, rfl⟩
  unfold PDef.val at HALL HCHK ⊢
  simp only at k0 k1 k2 HW1 HG0 HALL HCHK ⊢
  rw [hM] at k2 HW1 HG0 HALL HCHK ⊢
  clear hM
  obtain ⟨N, hN⟩ : ∃ N, L.length = N := ⟨_, rfl⟩
  rw [hN]
  have HN := hide hN
  clear hN
  cases N with
  | zero =>
    by_cases hE : E = 0
    · subst hE
      go_enter Tryz.func30, Tryz.ntmps30
      go_upto_region 1 with fail
      try rw [hH]
      rw [unhide HW1]
      go_wp2_with (first | (go_at_call 79; refine (unhide HALL).mono ?_; rintro e w2 ⟨v2, rfl, hT2, hb2⟩; obtain ⟨a2, c2, rfl⟩ := hT2.form; rw [unhide HN]; obtain ⟨⟨q0, _⟩, ⟨q1, _⟩, ⟨q2, _⟩⟩ := cell3 ((hb2.block H (by omega)).trans (unhide HG0)); have hbw2 := (unhide HB1).trans (hb2.mono (by omega)); have HBW2 := hide hbw2; have hzw2 := hb2.size; clear hbw2 hT2 hb2) | (go_at_call 80; refine (unhide HCHK _ (unhide HBW2)).mono ?_; rintro e w3 ⟨rfl, hb3⟩))
      go_ret
      exact ⟨ret_bool (by simp), (unhide HBW2).trans (hb3.mono (by omega))⟩
    · have d2 : (E == 0) = false := by simpa using hE
      have hEd : decide (E = 0) = false := by simpa using hE
      rw [hEd]
      clear hE hEd
      go_enter Tryz.func30, Tryz.ntmps30
      go_upto_region 1 with fail
      try rw [hH]
      rw [unhide HW1]
      go_wp2_with (first | (go_at_call 79; refine (unhide HALL).mono ?_; rintro e w2 ⟨v2, rfl, hT2, hb2⟩; obtain ⟨a2, c2, rfl⟩ := hT2.form; rw [unhide HN]; obtain ⟨⟨q0, _⟩, ⟨q1, _⟩, ⟨q2, _⟩⟩ := cell3 ((hb2.block H (by omega)).trans (unhide HG0)); have hbw2 := (unhide HB1).trans (hb2.mono (by omega)); have HBW2 := hide hbw2; have hzw2 := hb2.size; clear hbw2 hT2 hb2) | (go_at_call 80; refine (unhide HCHK _ (unhide HBW2)).mono ?_; rintro e w3 ⟨rfl, hb3⟩))
      go_ret
      exact ⟨ret_bool (by simp), (unhide HBW2).trans (hb3.mono (by omega))⟩
  | succ n =>
    have d1 : (((n : Int) + 1) == 0) = false := by simp; omega
    have hd : decide (n + 1 = 0) = false := by simp
    rw [hd]
    clear hd
    go_enter Tryz.func30, Tryz.ntmps30
    go_upto_region 1 with fail
    try rw [hH]
    rw [unhide HW1]
    go_wp2_with (first | (go_at_call 79; refine (unhide HALL).mono ?_; rintro e w2 ⟨v2, rfl, hT2, hb2⟩; obtain ⟨a2, c2, rfl⟩ := hT2.form; rw [unhide HN]; obtain ⟨⟨q0, _⟩, ⟨q1, _⟩, ⟨q2, _⟩⟩ := cell3 ((hb2.block H (by omega)).trans (unhide HG0)); have hbw2 := (unhide HB1).trans (hb2.mono (by omega)); have HBW2 := hide hbw2; have hzw2 := hb2.size; clear hbw2 hT2 hb2) | (go_at_call 80; refine (unhide HCHK _ (unhide HBW2)).mono ?_; rintro e w3 ⟨rfl, hb3⟩))
    go_ret
    exact ⟨ret_bool (by simp), unhide HBW2⟩
end Go.Proofs.YtefokfbgpfcbkaaGreat
