/- Lemmas of this claim (a part of its texts, kept as far as the claim reaches them). -/
import Derived.Test.YtefokfbgpfcbkaaGreatGAZ
import Derived.Test.YtefokfbgpfcbkaaGreatPlain33Z
import Derived.Test.YtefokfbgpfcbkaaGreatPlain32Z
namespace Go.Proofs.YtefokfbgpfcbkaaGreat
set_option linter.unusedVariables false
set_option linter.unusedSimpArgs false
open Go.RowKit
attribute [local go_sem] Oper.semAt_some
theorem Now_any (n : Int) (w : World) : Calls Tryz.prog 150 #[.int .i64 n] w fun e w' => e = .returned (.int .i64 (P31.now n)) ∧ w' = w := by
  go_enter Tryz.func150, Tryz.ntmps150
  go_wp2
  go_ret
  exact ⟨rfl, rfl⟩
theorem waits_any (m f k : Int) (w : World) : Calls Tryz.prog 212 #[.agg #[.int .i64 m, .int .i64 f, .int .i64 k]] w fun e w' => e = .returned (.func (.func 240) #[] #[.pointer (some ⟨w.heap.size, 0, none⟩)]) ∧ w' = w.alloc (.cells #[.int .i64 m, .int .i64 f, .int .i64 k] 58) := by
  go_enter Tryz.func212, Tryz.ntmps212
  go_wp2
  go_ret
  exact ⟨rfl, rfl⟩
def waitL (t : P22.Try) (k : Nat) : List Int := (List.range k).map (P31.waitN t)
theorem waitL_get {t : P22.Try} {k j : Nat} {x : Int} (h : (waitL t k)[j]? = some x) : j < k ∧ x = P31.waitN t j := by
  unfold waitL at h
  rw [List.getElem?_map] at h
  by_cases hj : j < k
  · rw [List.getElem?_range hj] at h
    exact ⟨hj, by simpa using h.symm⟩
  · rw [List.getElem?_eq_none (by simpa using hj)] at h
    cases h
theorem waitL_len (t : P22.Try) (k : Nat) : (waitL t k).length = k := by simp [waitL]
def encI1 (x : Int) : Array Value := #[.int .i64 x]
set_option maxRecDepth 100000 in
set_option maxHeartbeats 4000000 in
theorem waitsIter_seq (n bx k : Nat) (m f c : Int) (R T : Nat → Prop) (W : World) (hbx : W.heap[bx]? = some (.cells #[.int .i64 m, .int .i64 f, .int .i64 c] 58)) (hbR : R bx) (hR : ∀ r, R r → r < W.heap.size) :
    SeqX Fence.wide n Tryz.prog 240 #[.pointer (some ⟨bx, 0, none⟩)] encI1 (waitL ⟨m, f, c⟩ k) (fun i _ => i < k) R T W := by
  intro ly J Jx hJ hJx hM hY hz M0 hT0 h0
  have hM0 : ∀ r, M0 r → r < W.heap.size ∧ ¬ R r := hM 0 M0 W h0
  have hY' : ∀ d q x M V, (waitL ⟨m, f, c⟩ k)[q]? = some x → J q M V → W.heap.size ≤ V.heap.size → YieldAt Fence.wide d Tryz.prog ly (encI1 x) V fun e W' =>
      ∃ M', KeepsM M V M' W' ∧ ((e = .returned (.bool true) ∧ J (q + 1) M' W') ∨ (e = .returned (.bool false) ∧ Jx (q + 1) M' W')) :=
    fun d q x M V hx hj hs => YieldAt.anyD rfl d (hY q x M V hx hj hs)
  obtain ⟨⟨x0, _⟩, ⟨x1, _⟩, ⟨x2, _⟩⟩ := cell3 hbx
  have hme := meant33_any m f c W
  obtain ⟨mo, hmo⟩ : ∃ x, min (max (P28.meant m 1) 0) 10 = x := ⟨_, rfl⟩
  have hfi : min (max f 0) 1000 = P31.first ⟨m, f, c⟩ := rfl
  have hfc : min (max (P28.meant c 1) 0) 1000 = P31.factor ⟨m, f, c⟩ := rfl
  rw [hmo, hfi, hfc] at hme
  have hw0 : P31.waitN ⟨m, f, c⟩ 0 = P31.first ⟨m, f, c⟩ := rfl
  have hws : ∀ j, P31.waitN ⟨m, f, c⟩ (j + 1) = min (P31.waitN ⟨m, f, c⟩ j * P31.factor ⟨m, f, c⟩) 1000 := fun _ => rfl
  have hwl := P31.waitN_le ⟨m, f, c⟩
  have hfl := P31.factor_le ⟨m, f, c⟩
  have hwx := fun j x (h : (waitL ⟨m, f, c⟩ k)[j]? = some x) => waitL_get h
  have hwn : ∀ j, j < k → (waitL ⟨m, f, c⟩ k)[j]? = some (P31.waitN ⟨m, f, c⟩ j) := fun j hj => by
    unfold waitL
    rw [List.getElem?_map, List.getElem?_range hj]
    rfl
  have hlL : (waitL ⟨m, f, c⟩ k).length = k := waitL_len _ _
  obtain ⟨WN, hWN⟩ : ∃ F, P31.waitN ⟨m, f, c⟩ = F := ⟨_, rfl⟩
  obtain ⟨FI, hFI⟩ : ∃ F, P31.first ⟨m, f, c⟩ = F := ⟨_, rfl⟩
  obtain ⟨FC, hFC⟩ : ∃ F, P31.factor ⟨m, f, c⟩ = F := ⟨_, rfl⟩
  rw [hWN] at hwl hwn
  simp only [hWN, hFI, hFC] at hw0 hws
  rw [hFI, hFC] at hme
  rw [hFC] at hfl
  obtain ⟨L, hL⟩ : ∃ L, waitL ⟨m, f, c⟩ k = L := ⟨_, rfl⟩
  rw [hL] at hY' hwn hlL ⊢
  have HME := hide hme
  have HBR := hide hbR
  have HRL := hide hR
  have HM0 := hide hM0
  have HM := hide hM
  have HJ := hide hJ
  have HJX := hide hJx
  have HY := hide hY'
  have HZ := hide hz
  have H0 := hide h0
  have HWS := hide hws
  have HWL := hide hwl
  have HWN := hide hwn
  have HW0 := hide hw0
  have HLL := hide hlL
  clear hbx hbR hR hM0 hM hJ hJx hY hY' hz hT0 h0 hme hws hwl hwn hw0 hlL hwx hWN hFI hFC hL hfi hfc hmo
  refine callsIn_of_wp Tryz.func240 rfl trivial ?_ rfl
  simp only [Tryz.ntmps240, List.size_toArray, List.length_cons, List.length_nil, Nat.reduceAdd, Nat.reduceSub, Array.replicate_succ, Array.replicate_zero, List.push_toArray, List.append_toArray, List.nil_append, List.cons_append]
  gi_wp2
  refine ⟨trivial, fun h => (by cases h), (callsIn_wide.2 (unhide HME)).mono ?_⟩
  rintro e w2 ⟨rfl, b2⟩
  obtain ⟨K, hK⟩ : ∃ K, w2.heap.size = K := ⟨_, rfl⟩
  obtain ⟨W3, hW3, b3, g3, hs3⟩ := new1 w2 (.cells #[.int .i64 mo, .int .i64 FI, .int .i64 FC] 58) K hK
  have hz2 := b2.size
  have hg3 : W.grownBy W3 none := (grown_of_below b2 none).trans (by rw [← hW3]; exact World.grownBy_alloc _ _ none)
  have h3 : J 0 M0 W3 := (unhide HJ) 0 M0 W W3 none (unhide H0) hg3 (fun r e => by cases e)
  have hMK : ¬ M0 K := fun h => by have := ((unhide HM0) K h).1; omega
  have H3 := hide h3
  have HMK := hide hMK
  have HG3 := hide g3
  have HW3 := hide hW3
  have HW0' := hide (show W.heap.size ≤ W3.heap.size by omega)
  clear h3 hMK g3 hW3 hg3 b3 b2
  gi_upto_region 1 with fail
  try rw [hK]
  rw [unhide HW3]
  obtain ⟨⟨y0, _⟩, ⟨y1, _⟩, ⟨y2, _⟩⟩ := cell3 (unhide HG3)
  clear x0 x1 x2
  gi_wp2
  gi_loopg [4] k (fun g s4 wx => ∃ (j : Nat) (M : Nat → Prop), j + g = k ∧ s4 = .int .i64 (WN j) ∧ Hid (KeepsM M0 W3 M wx) ∧ Hid (J j M wx))
  case atStart => exact ⟨0, M0, by omega, by rw [unhide HW0], hide (KeepsM.refl _ _), H3⟩
  case round =>
    obtain ⟨j, M, hjg, rfl, HK, HJI⟩ := hrel
    clear y0 y1 y2
    have hk := unhide HK
    have hzr := hk.size
    cases gk with
    | zero =>
      have hfin := unhide HJI
      rw [show j = L.length by rw [unhide HLL]; omega] at hfin
      exact absurd (unhide HZ _ _ _ hfin) (by rw [unhide HLL]; omega)
    | succ g' =>
      have hx := unhide HWN j (by omega)
      have g3 := (hk.same K (unhide HMK) (by omega)).trans (unhide HG3)
      obtain ⟨⟨y0, _⟩, ⟨y1, _⟩, ⟨y2, _⟩⟩ := cell3 g3
      have hYa := ((unhide HY) (n - 1) _ _ M wr hx (unhide HJI) (by have := unhide HW0'; omega)).mono
        (R' := fun e W' => ∃ bb, e = .returned (.bool bb) ∧ Hid (∃ M', KeepsM M wr M' W' ∧ ((bb = true ∧ J (j + 1) M' W') ∨ (bb = false ∧ Jx (j + 1) M' W')))) (by
          rintro e W' ⟨M', hk, (⟨rfl, h⟩ | ⟨rfl, h⟩)⟩
          · exact ⟨true, rfl, hide ⟨M', hk, .inl ⟨rfl, h⟩⟩⟩
          · exact ⟨false, rfl, hide ⟨M', hk, .inr ⟨rfl, h⟩⟩⟩)
      obtain ⟨fn, tmps, assign, body, hy, hR⟩ := hYa
      replace hy : (Instr.yield ly #[.int .i64 (WN j)]).run Tryz.prog wr = .ok (.round ly fn tmps assign body) wr := hy
      have hjl : j + 1 ≤ L.length := by have := (List.getElem?_eq_some_iff.1 hx).1; omega
      have hMr : ∀ r, M r → r < wr.heap.size := fun r hr => ((unhide HM) j M wr (unhide HJI) r hr).1
      have hMK : ¬ M K := fun h => ((hk.more K h).elim (unhide HMK) (by omega))
      have HMK2 := hide hMK
      have HG4 := hide g3
      clear hk hx g3 hMr hMK
      gi_wp2
      refine ⟨fun h => (by cases h), hR.mono ?_⟩
      rintro e W4 ⟨bb, rfl, HB⟩
      clear hy hR
      cases bb
      · gi_wp2
        go_end0
        obtain ⟨M', hk, (⟨h, _⟩ | ⟨_, h⟩)⟩ := unhide HB
        · cases h
        · exact ⟨⟨_, rfl⟩, M', .inr ⟨_, hjl, h⟩⟩
      · have hJ4 : ∃ M', KeepsM M wr M' W4 ∧ J (j + 1) M' W4 := by
          obtain ⟨M', hk, (⟨_, h⟩ | ⟨h, _⟩)⟩ := unhide HB
          · exact ⟨M', hk, h⟩
          · cases h
        have g4 : W4.heap[K]? = some (.cells #[.int .i64 mo, .int .i64 FI, .int .i64 FC] 58) := by
          obtain ⟨M', hk, _⟩ := hJ4
          exact (hk.same K (unhide HMK2) (by omega)).trans (unhide HG4)
        have HJ4 := hide hJ4
        clear y0 y1 y2
        obtain ⟨⟨y0, _⟩, ⟨y1, _⟩, ⟨y2, _⟩⟩ := cell3 g4
        have hwj := unhide HWL j
        have hpr : IntKind.i64.wrap (WN j * FC) = WN j * FC := IntWalk.i64_in _ (by
          have a : 0 ≤ WN j * FC := Int.mul_nonneg hwj.1 hfl.1
          have b : WN j * FC ≤ 1000 * 1000 := Int.mul_le_mul hwj.2 hfl.2 hfl.1 (by omega)
          omega)
        have hnx := unhide HWS j
        clear hJ4 HB g4 hwj
        gi_wp2
        go_roundg g'
        case measure => omega
        case rel =>
          obtain ⟨M', hk, h⟩ := unhide HJ4
          exact ⟨j + 1, M', by omega, by rw [hnx], hide ((unhide HK).trans hk), hide h⟩
end Go.Proofs.YtefokfbgpfcbkaaGreat
namespace Go.Proofs.YtefokfbgpfcbkaaGreat
set_option linter.unusedVariables false
set_option linter.unusedSimpArgs false
open Go.RowKit
attribute [local go_sem] Oper.semAt_some
structure WaI (w : World) (H : Nat) (rc : Array Value) (o k : Int) (M : Nat → Prop) (V : World) : Prop where
  m : ∀ r, M r ↔ r = H + 1 ∨ r = H + 2
  bx : V.heap[H]? = some (.cells rc 58)
  r1 : V.heap[H + 1]? = some (.cells #[.int .i64 o] 3)
  r2 : V.heap[H + 2]? = some (.cells #[.int .i64 k] 3)
  below : Below H w V
  size : H + 4 ≤ V.heap.size
theorem WaI.abides {w V V' : World} {H : Nat} {rc : Array Value} {o k : Int} {M : Nat → Prop} {row : Option Nat} (h : WaI w H rc o k M V) (hg : V.grownBy V' row) (hr : ∀ r, row = some r → ¬ M r ∧ ¬ (r ≤ H ∨ r = H + 3)) : WaI w H rc o k M V' := by
  have hz := h.size
  refine ⟨h.m, (hg.block _ (by omega) (fun e => ?_)).trans h.bx, (hg.block _ (by omega) (fun e => ?_)).trans h.r1, (hg.block _ (by omega) (fun e => ?_)).trans h.r2, h.below.grown hg (by omega) (fun k e => ?_), Nat.le_trans h.size hg.size⟩
  · exact (hr _ e.symm).2 (.inl (Nat.le_refl _))
  · exact (hr _ e.symm).1 ((h.m _).2 (.inl rfl))
  · exact (hr _ e.symm).1 ((h.m _).2 (.inr rfl))
  · have := (hr k e).2; omega
set_option maxRecDepth 100000 in
set_option maxHeartbeats 4000000 in
theorem Wait_any (m f c t : Int) (w : World) : Calls Tryz.prog 186 #[.agg #[.int .i64 m, .int .i64 f, .int .i64 c], .int .i64 t] w fun e w' => e = .returned (.int .i64 (P31.wait ⟨m, f, c⟩ t)) ∧ Below w.heap.size w w' := by
  obtain ⟨H, hH⟩ : ∃ H, w.heap.size = H := ⟨_, rfl⟩
  rw [hH]
  by_cases h1 : t < 1
  · have e : P31.wait ⟨m, f, c⟩ t = 0 := by unfold P31.wait; rw [if_pos h1]
    rw [e]
    have hb : Below H w (w.alloc (.cells #[.int .i64 m, .int .i64 f, .int .i64 c] 58)) := (Below.refl _ _).alloc (by omega) _
    have HB := hide hb
    clear hb e
    refine (callsIn_wide (n := 40)).1 ?_
    refine callsIn_of_wp_marks Tryz.func186 rfl trivial ?_ rfl
    simp only [Tryz.ntmps186, List.size_toArray, List.length_cons, List.length_nil, Nat.reduceAdd, Nat.reduceSub, Array.replicate_succ, Array.replicate_zero, List.push_toArray, List.append_toArray, List.nil_append, List.cons_append]
    refine wpIn_wide.2 ?_
    go_wp2
    go_step3
    go_wp2
    rw [Exit.noGoto_ret]
    exact ⟨_, results_tmp rfl _ _ _, rfl, unhide HB⟩
  have d1 : decide (t < 1) = false := by simp; omega
  obtain ⟨W1, hW1, hb1, g0, g1, g2, hs1⟩ := new3 w (.cells #[.int .i64 m, .int .i64 f, .int .i64 c] 58) (.cells #[.int .i64 0] 3) (.cells #[.int .i64 (min t 20)] 3) H hH
  obtain ⟨W2, hW2, hb2, g3, hs2⟩ := new1 W1 (.cells #[.int .i64 m, .int .i64 f, .int .i64 c] 58) (H + 1 + 1 + 1) hs1
  have hwt := waits_any m f c W1
  rw [hs1, hW2] at hwt
  obtain ⟨k0, hk0⟩ : ∃ k : Nat, min t 20 = (k : Int) := ⟨(min t 20).toNat, by omega⟩
  have hk1 : 1 ≤ k0 := by omega
  have hk20 : k0 ≤ 20 := by omega
  have hw : P31.wait ⟨m, f, c⟩ t = P31.waitN ⟨m, f, c⟩ (k0 - 1) := by
    unfold P31.wait
    rw [if_neg h1, hk0]
    rfl
  rw [hw]
  rw [hk0] at hW1 g2
  have hbw : Below H w W2 := hb1.trans (hb2.mono (by omega))
  have hit := fun V (hgr : W2.grownBy V none) => waitsIter_seq (40 - 1) (H + 1 + 1 + 1) k0 m f c (fun r => r ≤ H ∨ r = H + 3) (fun _ => False) V ((hgr.block _ (by omega) (by simp)).trans g3) (.inr rfl) (fun r hr => by have := hgr.size; omega)
  have hm0 : WaI w H #[.int .i64 m, .int .i64 f, .int .i64 c] 0 (k0 : Int) (fun r => r = H + 1 ∨ r = H + 2) W2 := ⟨fun r => Iff.rfl, (hb2.block _ (by omega)).trans g0, (hb2.block _ (by omega)).trans g1, (hb2.block _ (by omega)).trans g2, hbw, by omega⟩
  obtain ⟨⟨x0, _⟩, ⟨x1, _⟩, ⟨x2, _⟩⟩ := cell3 g0
  have hmin : ∀ (x : Int), x = t → min x 20 = (k0 : Int) := fun x e => by rw [e]; exact hk0
  have HW1 := hide hW1
  have HWT := hide hwt
  have HIT := hide hit
  have HM0 := hide hm0
  have HK0 := hide hk0
  clear hW1 hW2 hb1 hb2 g0 g1 g2 g3 hwt hbw hit hm0 hw h1 hmin hk0
  refine (callsIn_wide (n := 40)).1 ?_
  refine callsIn_of_wp_marks Tryz.func186 rfl trivial ?_ rfl
  simp only [Tryz.ntmps186, List.size_toArray, List.length_cons, List.length_nil, Nat.reduceAdd, Nat.reduceSub, Array.replicate_succ, Array.replicate_zero, List.push_toArray, List.append_toArray, List.nil_append, List.cons_append]
  refine wpIn_wide.2 ?_
  go_wp2
  go_step3
  go_upto_region 5 with fail
  rw [unhide HK0]
  try rw [hH]
  rw [unhide HW1]
  go_step3
  go_wp2_with (go_at_call 212; refine (unhide HWT).mono ?_; rintro e w' ⟨rfl, hw⟩; have hw := hw.symm; subst hw)
  refine (wpIn_wide (n := 40)).1 ?_
  generalize hA : ({ tmps := _, defers := _ } : Act) = A'
  refine wpIn_rangeFunc_X rfl (by omega) (gf := 240) (lb := #[.pointer (some ⟨H + 1 + 1 + 1, 0, none⟩)]) (by rw [← hA]; rfl) trivial (enters_of Tryz.func240 (by kernel_rfl) rfl)
    (encs := encI1) (waitL ⟨m, f, c⟩ k0) (fun i _ => i < k0) (fun r => r ≤ H ∨ r = H + 3) (fun _ => False) (fun r hr => by omega)
    (fun V hgr _ => unhide HIT V hgr) (fun _ => rfl)
    (fun j M V => j < k0 ∧ ∃ o, WaI w H #[.int .i64 m, .int .i64 f, .int .i64 c] o ((k0 : Int) - (j : Int)) M V)
    (fun c' j M V => c' = .exit 0 ∧ WaI w H #[.int .i64 m, .int .i64 f, .int .i64 c] (P31.waitN ⟨m, f, c⟩ (k0 - 1)) 0 M V)
    (fun j M V V' row hi hg hr => ⟨hi.1, hi.2.choose, hi.2.choose_spec.abides hg hr⟩) (fun c j M V V' row hi hg hr => ⟨hi.1, hi.2.abides hg hr⟩)
    (fun j M V hi r hr => ⟨by have := (hi.2.choose_spec.m r).1 hr; have := hi.2.choose_spec.size; omega, by have := (hi.2.choose_spec.m r).1 hr; omega⟩)
    (fun r => r = H + 1 ∨ r = H + 2) (fun r hr => hr.elim)
    ⟨by omega, 0, by simpa using unhide HM0⟩
    (fun j x M a' V => j < k0 ∧ x = P31.waitN ⟨m, f, c⟩ j ∧ (∃ o, WaI w H #[.int .i64 m, .int .i64 f, .int .i64 c] o ((k0 : Int) - (j : Int)) M V) ∧ a' = (A'.put (some 14) (.int .i64 x)).put (some 7) (.int .i64 x))
    ?hB ?assign ?body (fun i M V h => h.1) (fun D M V _ _ h _ => absurd h.1 (by rw [waitL_len]; omega)) ?stop
  case hB =>
    rintro j x M a' V V' row ⟨hj, hx, ⟨o, hi⟩, rfl⟩ hg hr
    exact ⟨hj, hx, ⟨o, hi.abides hg hr⟩, rfl⟩
  case assign =>
    rintro l2 j x M V K hx ⟨hj, o, hi⟩ hV hK
    subst hA
    unfold encI1
    have hKK := hK M _ V ⟨rfl, rfl, rfl, Nat.le_refl _, fun _ _ _ => rfl⟩ (fun r hr => .inl hr) ⟨hj, (waitL_get hx).2, ⟨o, hi⟩, rfl⟩
    have HK := hide hKK
    clear hKK hK
    gi_wp2
    exact unhide HK
  case body =>
    rintro l2 j x M a' V _ ⟨hj, hx, ⟨o, hi⟩, rfl⟩ hV
    subst hA
    obtain ⟨c1, f1⟩ := cell1 hi.r1
    obtain ⟨c2, f2⟩ := cell1 hi.r2
    have hsub : IntKind.i64.wrap ((k0 : Int) - (j : Int) - 1) = (k0 : Int) - (j : Int) - 1 := IntWalk.i64_in _ (by omega)
    have hg1 := grownBy_setCell' V (H + 1) (.int .i64 x)
    have hg2 := grownBy_setCell' (V.setCell ⟨H + 1, 0, none⟩ (.int .i64 x)) (H + 2) (.int .i64 ((k0 : Int) - (j : Int) - 1))
    have hz := hi.size
    have hm := hi.m
    have hk : KeepsM M V M ((V.setCell ⟨H + 1, 0, none⟩ (.int .i64 x)).setCell ⟨H + 2, 0, none⟩ (.int .i64 ((k0 : Int) - (j : Int) - 1))) := (KeepsM.grown hg1 (fun r e => by cases e; exact .inl ((hi.m _).2 (.inl rfl)))).trans (.grown hg2 (fun r e => by cases e; exact .inl ((hi.m _).2 (.inr rfl))))
    have hi' : WaI w H #[.int .i64 m, .int .i64 f, .int .i64 c] x ((k0 : Int) - (j : Int) - 1) M ((V.setCell ⟨H + 1, 0, none⟩ (.int .i64 x)).setCell ⟨H + 2, 0, none⟩ (.int .i64 ((k0 : Int) - (j : Int) - 1))) := by
      refine ⟨hi.m, ?_, ?_, ?_, ?_, ?_⟩
      · exact (hg2.block _ (by simp; omega) (by simp)).trans ((hg1.block _ (by omega) (by simp)).trans hi.bx)
      · exact (hg2.block _ (by simp; omega) (by simp)).trans (put1 hi.r1 _)
      · exact put1 ((hg1.block _ (by omega) (by simp)).trans hi.r2) _
      · exact (hi.below.grown hg1 (by omega) (fun k e => by cases e; omega)).grown hg2 (by simp; omega) (fun k e => by cases e; omega)
      · simp; omega
    have HE := hide (And.intro hk hi')
    clear hg1 hg2 hk hi' hm hi
    rcases Nat.lt_or_ge (j + 1) k0 with h1 | h1
    · have e0 : ((k0 : Int) - (j : Int) - 1 == 0) = false := by simp; omega
      have HX := hide hx
      clear hx
      gi_wp2
      exact ⟨M, (unhide HE).1, h1, x, by rw [show (k0 : Int) - ((j + 1 : Nat) : Int) = (k0 : Int) - (j : Int) - 1 by omega]; exact (unhide HE).2⟩
    · have e0 : ((k0 : Int) - (j : Int) - 1 == 0) = true := by simp; omega
      have HX := hide hx
      clear hx
      gi_wp2
      refine ⟨M, (unhide HE).1, rfl, ?_⟩
      have h := (unhide HE).2
      rw [show (k0 : Int) - (j : Int) - 1 = 0 by omega] at h ⊢
      rw [show k0 - 1 = j by omega, ← unhide HX]
      exact h
  case stop =>
    rintro D c' j M V rfl hMD hj ⟨rfl, hi⟩ hK
    subst hA
    obtain ⟨c1, f1⟩ := cell1 hi.r1
    have HI := hide hi
    clear hi
    gi_wp2
    go_wp2
    rw [Exit.noGoto_ret]
    refine ⟨by simp, .inl ⟨_, _, rfl, run_takeDeferred hK, _, results_tmp rfl _ _ _, rfl, ?_⟩⟩
    have hz := (unhide HI).size
    exact (unhide HI).below.grown (grownBy_putObj' _ W2.heap.size (.deferred none)) (by omega) (fun k e => by cases e; omega)
end Go.Proofs.YtefokfbgpfcbkaaGreat
namespace Go.Proofs.YtefokfbgpfcbkaaGreat
set_option linter.unusedVariables false
set_option linter.unusedSimpArgs false
open Go.RowKit
def runV (r : P31.Run) : Value := .agg #[.int .u8 (r.phase : Int), .int .i64 r.att, .int .i64 r.til, .bool r.last]
structure R2 (w : World) (B H K : Nat) (a c : P31.Run) (V : World) : Prop where
  r : V.heap[H]? = some (.cells #[.int .u8 (a.phase : Int), .int .i64 a.att, .int .i64 a.til, .bool a.last] 159)
  o : V.heap[K]? = some (.cells #[.int .u8 (c.phase : Int), .int .i64 c.att, .int .i64 c.til, .bool c.last] 159)
  bel : Below B w V
  ne : H ≠ K
  low : B ≤ H ∧ B ≤ K
namespace R2
variable {w V : World} {B H K : Nat} {a c : P31.Run}
theorem cells (h : R2 w B H K a c V) : ((V.cell? ⟨H, 0, none⟩ = some (.int .u8 (a.phase : Int)) ∧ V.frozen? ⟨H, 0, none⟩ = false) ∧ (V.cell? ⟨H, 1, none⟩ = some (.int .i64 a.att) ∧ V.frozen? ⟨H, 1, none⟩ = false) ∧ (V.cell? ⟨H, 2, none⟩ = some (.int .i64 a.til) ∧ V.frozen? ⟨H, 2, none⟩ = false) ∧ (V.cell? ⟨H, 3, none⟩ = some (.bool a.last) ∧ V.frozen? ⟨H, 3, none⟩ = false)) ∧
    ((V.cell? ⟨K, 0, none⟩ = some (.int .u8 (c.phase : Int)) ∧ V.frozen? ⟨K, 0, none⟩ = false) ∧ (V.cell? ⟨K, 1, none⟩ = some (.int .i64 c.att) ∧ V.frozen? ⟨K, 1, none⟩ = false) ∧ (V.cell? ⟨K, 2, none⟩ = some (.int .i64 c.til) ∧ V.frozen? ⟨K, 2, none⟩ = false) ∧ (V.cell? ⟨K, 3, none⟩ = some (.bool c.last) ∧ V.frozen? ⟨K, 3, none⟩ = false)) := by
  have h1 := h.r
  have h2 := h.o
  constructor <;> simp [World.cell?, World.frozen?, h1, h2]
theorem put4 {V : World} {g : Nat} {T : TypeId} {u0 u1 u2 u3 : Value} (h : V.heap[g]? = some (.cells #[u0, u1, u2, u3] T)) (x : Value) :
    (V.setCell ⟨g, 0, none⟩ x).heap[g]? = some (.cells #[x, u1, u2, u3] T) ∧ (V.setCell ⟨g, 1, none⟩ x).heap[g]? = some (.cells #[u0, x, u2, u3] T) ∧ (V.setCell ⟨g, 2, none⟩ x).heap[g]? = some (.cells #[u0, u1, x, u3] T) ∧ (V.setCell ⟨g, 3, none⟩ x).heap[g]? = some (.cells #[u0, u1, u2, x] T) := by
  refine ⟨?_, ?_, ?_, ?_⟩ <;> simp [World.setCell, Array.getElem?_modify, h]
theorem setR {a' : P31.Run} (h : R2 w B H K a c V) (k : Nat) (x : Value) (hx : (V.setCell ⟨H, k, none⟩ x).heap[H]? = some (.cells #[.int .u8 (a'.phase : Int), .int .i64 a'.att, .int .i64 a'.til, .bool a'.last] 159)) : R2 w B H K a' c (V.setCell ⟨H, k, none⟩ x) :=
  ⟨hx, (Below.heap_setCell _ _ _ _ (Ne.symm h.ne)).trans h.o, h.bel.setCell (p := ⟨H, k, none⟩) h.low.1 _, h.ne, h.low⟩
theorem setPhase (h : R2 w B H K a c V) (p : Nat) : R2 w B H K ⟨p, a.att, a.til, a.last⟩ c (V.setCell ⟨H, 0, none⟩ (.int .u8 (p : Int))) := h.setR 0 _ (put4 h.r _).1
theorem setAtt (h : R2 w B H K a c V) (n : Int) : R2 w B H K ⟨a.phase, n, a.til, a.last⟩ c (V.setCell ⟨H, 1, none⟩ (.int .i64 n)) := h.setR 1 _ (put4 h.r _).2.1
theorem setTil (h : R2 w B H K a c V) (n : Int) : R2 w B H K ⟨a.phase, a.att, n, a.last⟩ c (V.setCell ⟨H, 2, none⟩ (.int .i64 n)) := h.setR 2 _ (put4 h.r _).2.2.1
theorem setLast (h : R2 w B H K a c V) (b : Bool) : R2 w B H K ⟨a.phase, a.att, a.til, b⟩ c (V.setCell ⟨H, 3, none⟩ (.bool b)) := h.setR 3 _ (put4 h.r _).2.2.2
theorem out (h : R2 w B H K a c V) (x : P31.Run) : R2 w B H K a x ((((V.setCell ⟨K, 0, none⟩ (.int .u8 (x.phase : Int))).setCell ⟨K, 1, none⟩ (.int .i64 x.att)).setCell ⟨K, 2, none⟩ (.int .i64 x.til)).setCell ⟨K, 3, none⟩ (.bool x.last)) := by
  have hb := fun (V : World) (o : Nat) (v : Value) => Below.heap_setCell V ⟨K, o, none⟩ v H h.ne
  refine ⟨?_, ?_, ?_, h.ne, h.low⟩
  · rw [hb, hb, hb, hb]; exact h.r
  · exact (put4 (put4 (put4 (put4 h.o _).1 _).2.1 _).2.2.1 _).2.2.2
  · exact (((h.bel.setCell (p := ⟨K, 0, none⟩) h.low.2 _).setCell (p := ⟨K, 1, none⟩) h.low.2 _).setCell (p := ⟨K, 2, none⟩) h.low.2 _).setCell (p := ⟨K, 3, none⟩) h.low.2 _
theorem load (h : R2 w B H K a c V) : (loadVar 159 ⟨K, 0, none⟩).run Tryz.prog V = .ok (runV c) V := run_loadVar_row _ _ _ _ _ _ _ h.o Tryz.underlying159 rfl (by kernel_rfl)
theorem below {V' : World} (h : R2 w B H K a c V) (hb : Below V.heap.size V V') : R2 w B H K a c V' := by
  have h1 := (Array.getElem?_eq_some_iff.1 h.r).1
  exact ⟨(hb.block _ h1).trans h.r, (hb.block _ (Array.getElem?_eq_some_iff.1 h.o).1).trans h.o, h.bel.trans (hb.mono (by have := h.low.1; omega)), h.ne, h.low⟩
end R2
def RunB (V : World) (K : Nat) (c : P31.Run) : Prop := V.heap[K]? = some (.cells #[.int .u8 (c.phase : Int), .int .i64 c.att, .int .i64 c.til, .bool c.last] 159)
namespace RunB
variable {V : World} {K : Nat} {c : P31.Run}
theorem cells (h : RunB V K c) : (V.cell? ⟨K, 0, none⟩ = some (.int .u8 (c.phase : Int)) ∧ V.frozen? ⟨K, 0, none⟩ = false) ∧ (V.cell? ⟨K, 1, none⟩ = some (.int .i64 c.att) ∧ V.frozen? ⟨K, 1, none⟩ = false) ∧ (V.cell? ⟨K, 2, none⟩ = some (.int .i64 c.til) ∧ V.frozen? ⟨K, 2, none⟩ = false) ∧ (V.cell? ⟨K, 3, none⟩ = some (.bool c.last) ∧ V.frozen? ⟨K, 3, none⟩ = false) := by
  unfold RunB at h
  simp [World.cell?, World.frozen?, h]
theorem out (h : RunB V K c) (x : P31.Run) : RunB ((((V.setCell ⟨K, 0, none⟩ (.int .u8 (x.phase : Int))).setCell ⟨K, 1, none⟩ (.int .i64 x.att)).setCell ⟨K, 2, none⟩ (.int .i64 x.til)).setCell ⟨K, 3, none⟩ (.bool x.last)) K x :=
  (R2.put4 (R2.put4 (R2.put4 (R2.put4 h _).1 _).2.1 _).2.2.1 _).2.2.2
theorem load (h : RunB V K c) : (loadVar 159 ⟨K, 0, none⟩).run Tryz.prog V = .ok (runV c) V := run_loadVar_row _ _ _ _ _ _ _ h Tryz.underlying159 rfl (by kernel_rfl)
theorem below {V' : World} (h : RunB V K c) (hb : Below V.heap.size V V') : RunB V' K c := (hb.block _ (Array.getElem?_eq_some_iff.1 h).1).trans h
end RunB
theorem Below.set4 {w V : World} {B K : Nat} (h : Below B w V) (hK : B ≤ K) (a b c d : Value) : Below B w ((((V.setCell ⟨K, 0, none⟩ a).setCell ⟨K, 1, none⟩ b).setCell ⟨K, 2, none⟩ c).setCell ⟨K, 3, none⟩ d) :=
  (((h.setCell (p := ⟨K, 0, none⟩) hK _).setCell (p := ⟨K, 1, none⟩) hK _).setCell (p := ⟨K, 2, none⟩) hK _).setCell (p := ⟨K, 3, none⟩) hK _
set_option maxRecDepth 100000 in
set_option maxHeartbeats 2000000 in
theorem end_any (r : P31.Run) (p : Nat) (w : World) : Calls Tryz.prog 144 #[runV r, .int .u8 (p : Int)] w fun e w' => e = .returned (runV (P31.end_ r p)) ∧ Below w.heap.size w w' := by
  obtain ⟨H, hH⟩ : ∃ H, w.heap.size = H := ⟨_, rfl⟩
  rw [hH]
  obtain ⟨W1, hW1, hb1, g0, g1, hs1⟩ := new2 w (.cells #[.int .u8 (r.phase : Int), .int .i64 r.att, .int .i64 r.til, .bool r.last] 159) (.cells #[.int .u8 0, .int .i64 0, .int .i64 0, .bool false] 159) H hH
  have h1 : R2 w H H (H + 1) r P31.Run.zero W1 := ⟨g0, g1, hb1, by omega, by omega⟩
  obtain ⟨⟨⟨a0, b0⟩, ⟨a1, b1⟩, ⟨a2, b2⟩, ⟨a3, b3⟩⟩, ⟨⟨c0, d0⟩, ⟨c1, d1⟩, ⟨c2, d2⟩, ⟨c3, d3⟩⟩⟩ := h1.cells
  have HW1 := hide hW1
  have H1 := hide h1
  clear hW1 hb1 g0 g1 h1
  unfold runV
  go_enter Tryz.func144, Tryz.ntmps144
  go_upto_region 1 with fail
  try rw [hH]
  rw [unhide HW1]
  go_wp2
  have h2 := (((unhide H1).setPhase p).setTil 0).out (P31.end_ r p)
  exact bodyPost_ret (results_c1 rfl _ _ _ (H + 1) _ rfl h2.load) rfl ⟨rfl, h2.bel⟩
end Go.Proofs.YtefokfbgpfcbkaaGreat
namespace Go.Proofs.YtefokfbgpfcbkaaGreat
set_option linter.unusedVariables false
set_option linter.unusedSimpArgs false
open Go.RowKit
theorem run_field_limit (w : World) (a0 a1 a2 a3 a4 a5 a6 a7 a8 a9 a10 a11 a12 : Value) : (Instr.field 63 (.agg #[a0, a1, a2, a3, a4, a5, a6, a7, a8, a9, a10, a11, a12]) 5).run Tryz.prog w = .ok a7 w := by kernel_rfl
attribute [local go_sem] run_field_limit
set_option maxRecDepth 100000 in
set_option maxHeartbeats 4000000 in
theorem try_any (r : P31.Run) (s : PSt) (n : Int) (w : World) (hr : -1000000 ≤ r.att ∧ r.att ≤ 1000000) : Calls Tryz.prog 151 #[runV r, s.val, .int .i64 n] w fun e w' => e = .returned (runV (P31.next s.bare n r)) ∧ Below w.heap.size w w' := by
  obtain ⟨H, hH⟩ : ∃ H, w.heap.size = H := ⟨_, rfl⟩
  rw [hH]
  have hre := fun V => Real_any s V
  have hlim : min (max s.real.limit 0) 10000 = P31.limit s.bare := rfl
  have hll := P31.limit_le s.bare
  obtain ⟨LI, hLI⟩ : ∃ x, P31.limit s.bare = x := ⟨_, rfl⟩
  have hnx : P31.next s.bare n r = ⟨1, r.att + 1, P31.now n + LI, r.last⟩ := by rw [← hLI]; rfl
  rw [hLI] at hlim hll
  rw [hnx]
  have hnow := fun V => Now_any n V
  have hnl := P31.now_le n
  obtain ⟨NW, hNW⟩ : ∃ x, P31.now n = x := ⟨_, rfl⟩
  rw [hNW] at hnl ⊢
  simp only [hNW] at hnow
  obtain ⟨⟨sn, sa, su, saa, sac, saf, sm, sf, sc, sl, ⟨k, t, ka, kc, ks, da, dc, ds, l⟩⟩, hs⟩ : ∃ s', s = s' := ⟨_, rfl⟩
  rw [hs] at hre hlim ⊢
  unfold PSt.real at hre hlim
  simp only [PSt.val_eqn] at hre hlim ⊢
  obtain ⟨M1, hM1⟩ : ∃ x, P28.meant sm 1 = x := ⟨_, rfl⟩
  obtain ⟨M2, hM2⟩ : ∃ x, P28.meant sc 1 = x := ⟨_, rfl⟩
  obtain ⟨M3, hM3⟩ : ∃ x, P28.meant sl 100 = x := ⟨_, rfl⟩
  rw [hM3] at hlim
  rw [hM1, hM2, hM3] at hre
  obtain ⟨N1, hN1⟩ : ∃ N1, saf.length = N1 := ⟨_, rfl⟩
  obtain ⟨N2, hN2⟩ : ∃ N2, ks.length = N2 := ⟨_, rfl⟩
  obtain ⟨N3, hN3⟩ : ∃ N3, ds.length = N3 := ⟨_, rfl⟩
  rw [hN1, hN2, hN3] at hre ⊢
  obtain ⟨W1, hW1, hb1, g0, g1, g2, hs1⟩ := new3 w (.cells #[.int .u8 (r.phase : Int), .int .i64 r.att, .int .i64 r.til, .bool r.last] 159) (.cells #[.string ⟨sn.toArray⟩, .string ⟨sa.toArray⟩, .string ⟨su.toArray⟩, .slice saa N1 sac, .int .i64 sm, .int .i64 sf, .int .i64 sc, .int .i64 sl, .int .u8 k, .string ⟨t.toArray⟩, .slice ka N2 kc, .slice da N3 dc, .int .i64 l] 63) (.cells #[.int .u8 0, .int .i64 0, .int .i64 0, .bool false] 159) H hH
  have h1 : R2 w H H (H + 1 + 1) r P31.Run.zero W1 := ⟨g0, g2, hb1, by omega, by omega⟩
  obtain ⟨⟨a0, b0⟩, ⟨a1, b1⟩, ⟨a2, b2⟩, ⟨a3, b3⟩, ⟨a4, b4⟩, ⟨a5, b5⟩, ⟨a6, b6⟩, ⟨a7, b7⟩, ⟨a8, b8⟩, ⟨a9, b9⟩, ⟨a10, b10⟩, ⟨a11, b11⟩, ⟨a12, b12⟩⟩ := cell13 g1
  have hw1 : IntKind.i64.wrap (r.att + 1) = r.att + 1 := IntWalk.i64_in _ (by omega)
  have hw2 : IntKind.i64.wrap (NW + LI) = NW + LI := IntWalk.i64_in _ (by omega)
  obtain ⟨ph, at_, ti, la⟩ := r
  simp only at hw1 h1 hW1
  have HRE := hide hre
  have HW1 := hide hW1
  have H1 := hide h1
  have HNO := hide hnow
  clear hW1 hb1 g0 g1 g2 h1 hre hnow hLI hNW hnx hM1 hM2 hM3 hN1 hN2 hN3 hs
  unfold runV
  go_enter Tryz.func151, Tryz.ntmps151
  go_upto_region 1 with fail
  try rw [hH]
  rw [unhide HW1]
  go_upto_region 2 with (go_at_call 166; with_reducible refine (unhide HRE _).mono ?_; rintro e w2 ⟨rfl, hb2⟩)
  have h2 := (unhide H1).below hb2
  obtain ⟨⟨⟨x0, y0⟩, ⟨x1, y1⟩, ⟨x2, y2⟩, ⟨x3, y3⟩⟩, ⟨⟨c0, d0⟩, ⟨c1, d1⟩, ⟨c2, d2⟩, ⟨c3, d3⟩⟩⟩ := h2.cells
  simp only at x0 x1 x2 x3
  have H2 := hide h2
  clear h2 a0 b0 a1 b1 a2 b2 a3 b3 a4 b4 a5 b5 a6 b6 a7 b7 a8 b8 a9 b9 a10 b10 a11 b11 a12 b12 hb2
  go_wp2_with (go_at_call 150; refine (unhide HNO _).mono ?_; rintro e w' ⟨rfl, hw⟩; have hw := hw.symm; subst hw)
  have h3 := ((((unhide H2).setPhase 1).setAtt (at_ + 1)).setTil (NW + LI)).out ⟨1, at_ + 1, NW + LI, la⟩
  exact bodyPost_ret (results_c1 rfl _ _ _ (H + 1 + 1) _ rfl h3.load) rfl ⟨rfl, h3.bel⟩
set_option maxRecDepth 100000 in
set_option maxHeartbeats 4000000 in
theorem Begin_any (s : PSt) (n : Int) (w : World) : Calls Tryz.prog 189 #[s.val, .int .i64 n] w fun e w' => e = .returned (runV (P31.begin_ s.bare n)) ∧ Below w.heap.size w w' := by
  obtain ⟨H, hH⟩ : ∃ H, w.heap.size = H := ⟨_, rfl⟩
  rw [hH]
  have htr := fun V => try_any P31.Run.zero s n V ⟨by decide, by decide⟩
  have hbg : P31.next s.bare n P31.Run.zero = P31.begin_ s.bare n := rfl
  rw [hbg] at htr
  obtain ⟨B, hB⟩ : ∃ x, P31.begin_ s.bare n = x := ⟨_, rfl⟩
  rw [hB] at htr ⊢
  obtain ⟨⟨sn, sa, su, saa, sac, saf, sm, sf, sc, sl, ⟨k, t, ka, kc, ks, da, dc, ds, l⟩⟩, hs⟩ : ∃ s', s = s' := ⟨_, rfl⟩
  rw [hs] at htr ⊢
  simp only [PSt.val_eqn] at htr ⊢
  obtain ⟨N1, hN1⟩ : ∃ N1, saf.length = N1 := ⟨_, rfl⟩
  obtain ⟨N2, hN2⟩ : ∃ N2, ks.length = N2 := ⟨_, rfl⟩
  obtain ⟨N3, hN3⟩ : ∃ N3, ds.length = N3 := ⟨_, rfl⟩
  rw [hN1, hN2, hN3] at htr ⊢
  obtain ⟨W1, hW1, hb1, g1, g2, hs1⟩ := new2 w (.cells #[.string ⟨sn.toArray⟩, .string ⟨sa.toArray⟩, .string ⟨su.toArray⟩, .slice saa N1 sac, .int .i64 sm, .int .i64 sf, .int .i64 sc, .int .i64 sl, .int .u8 k, .string ⟨t.toArray⟩, .slice ka N2 kc, .slice da N3 dc, .int .i64 l] 63) (.cells #[.int .u8 0, .int .i64 0, .int .i64 0, .bool false] 159) H hH
  obtain ⟨⟨a0, b0⟩, ⟨a1, b1⟩, ⟨a2, b2⟩, ⟨a3, b3⟩, ⟨a4, b4⟩, ⟨a5, b5⟩, ⟨a6, b6⟩, ⟨a7, b7⟩, ⟨a8, b8⟩, ⟨a9, b9⟩, ⟨a10, b10⟩, ⟨a11, b11⟩, ⟨a12, b12⟩⟩ := cell13 g1
  have htr : ∀ V, Calls Tryz.prog 151 #[.agg #[.int .u8 0, .int .i64 0, .int .i64 0, .bool false], .agg #[.string ⟨sn.toArray⟩, .string ⟨sa.toArray⟩, .string ⟨su.toArray⟩, .slice saa N1 sac, .int .i64 sm, .int .i64 sf, .int .i64 sc, .int .i64 sl, .int .u8 k, .string ⟨t.toArray⟩, .slice ka N2 kc, .slice da N3 dc, .int .i64 l], .int .i64 n] V fun e w' => e = .returned (runV B) ∧ Below V.heap.size V w' := htr
  have HTR := hide htr
  have HW1 := hide hW1
  have HB1 := hide hb1
  have HG2 := hide g2
  clear hW1 hb1 g1 g2 htr hs hN1 hN2 hN3 hB hbg
  go_enter Tryz.func189, Tryz.ntmps189
  go_upto_region 1 with fail
  try rw [hH]
  rw [unhide HW1]
  obtain ⟨bp, ba, bt, bl⟩ := B
  unfold runV at HTR
  go_wp2_with (go_at_call 151; refine (unhide HTR _).mono ?_; rintro e w2 ⟨rfl, hb2⟩; have g3 := RunB.below (c := P31.Run.zero) (unhide HG2) hb2; obtain ⟨⟨x0, y0⟩, ⟨x1, y1⟩, ⟨x2, y2⟩, ⟨x3, y3⟩⟩ := g3.cells; have HG3 := hide g3; have HB2 := hide ((unhide HB1).trans (hb2.mono (by omega))); clear g3 hb2)
  have h3 := (unhide HG3).out ⟨bp, ba, bt, bl⟩
  exact bodyPost_ret (results_c1 rfl _ _ _ (H + 1) _ rfl h3.load) rfl ⟨rfl, Below.set4 (unhide HB2) (Nat.le_succ H) _ _ _ _⟩
end Go.Proofs.YtefokfbgpfcbkaaGreat
namespace Go.Proofs.YtefokfbgpfcbkaaGreat
set_option linter.unusedVariables false
set_option linter.unusedSimpArgs false
open Go.RowKit
theorem results_c1b {fn : Func} {p q : Tmp} {t : TypeId} (h : fn.results = #[.cell p t, .tmp q]) (tmps : Array Value) (P : Program) (w : World) (g : Nat) (v : Value)
    (hp : tmps.getD p undef = .pointer (some ⟨g, 0, none⟩)) (hl : (loadVar t ⟨g, 0, none⟩).run P w = .ok v w) : (results fn tmps).run P w = .ok (.tuple #[v, tmps.getD q undef]) w := by
  have hp' : tmps[p]?.getD undef = .pointer (some ⟨g, 0, none⟩) := by simpa using hp
  simp [results, h, hp', asAddr, Sem.run_bind, Result.andThen, hl]
set_option maxRecDepth 100000 in
set_option maxHeartbeats 8000000 in
theorem fail_any (r : P31.Run) (s : PSt) (n : Int) (w : World) (hr : -1000000 ≤ r.att ∧ r.att ≤ 1000000) : Calls Tryz.prog 145 #[runV r, s.val, .int .i64 n] w fun e w' => e = .returned (runV (P31.fail s.bare n r)) ∧ Below w.heap.size w w' := by
  obtain ⟨H, hH⟩ : ∃ H, w.heap.size = H := ⟨_, rfl⟩
  rw [hH]
  have htr := fun V => try_any r s n V hr
  have hmo := fun V => More_any s.most s.first s.factor r.att V
  have hwt := fun V => Wait_any s.most s.first s.factor r.att V
  have hen := fun V => end_any r 4 V
  have hno := fun V => Now_any n V
  have hnl := P31.now_le n
  have hwl := P31.wait_le s.bare.tries r.att
  have htri : s.bare.tries = ⟨s.most, s.first, s.factor⟩ := rfl
  obtain ⟨MO, hMO⟩ : ∃ x, P33.more s.bare.tries r.att = x := ⟨_, rfl⟩
  obtain ⟨WT, hWT⟩ : ∃ x, P31.wait s.bare.tries r.att = x := ⟨_, rfl⟩
  obtain ⟨NX, hNX⟩ : ∃ x, P31.next s.bare n r = x := ⟨_, rfl⟩
  obtain ⟨EN, hEN⟩ : ∃ x, P31.end_ r 4 = x := ⟨_, rfl⟩
  obtain ⟨NW, hNW⟩ : ∃ x, P31.now n = x := ⟨_, rfl⟩
  obtain ⟨FA, hFA⟩ : ∃ x, P31.fail s.bare n r = x := ⟨_, rfl⟩
  have hfa : (if r.last = true ∨ MO = false then EN else if WT = 0 then NX else ⟨2, r.att, NW + WT, r.last⟩) = FA := by rw [← hFA, ← hMO, ← hWT, ← hNX, ← hEN, ← hNW]; rfl
  rw [htri] at hMO hWT
  rw [hMO] at hmo
  rw [htri, hWT] at hwl
  rw [hWT] at hwt
  rw [hNX] at htr
  rw [hEN] at hen
  rw [hNW] at hnl
  simp only [hNW] at hno
  rw [hFA]
  clear hMO hWT hNX hEN hNW hFA htri
  obtain ⟨⟨sn, sa, su, saa, sac, saf, sm, sf, sc, sl, ⟨k, t, ka, kc, ks, da, dc, ds, l⟩⟩, hs⟩ : ∃ s', s = s' := ⟨_, rfl⟩
  rw [hs] at htr hmo hwt ⊢
  simp only [PSt.val_eqn] at htr hmo hwt ⊢
  obtain ⟨N1, hN1⟩ : ∃ N1, saf.length = N1 := ⟨_, rfl⟩
  obtain ⟨N2, hN2⟩ : ∃ N2, ks.length = N2 := ⟨_, rfl⟩
  obtain ⟨N3, hN3⟩ : ∃ N3, ds.length = N3 := ⟨_, rfl⟩
  rw [hN1, hN2, hN3] at htr ⊢
  clear hs hN1 hN2 hN3
  obtain ⟨ph, at_, ti, la⟩ := r
  obtain ⟨ep, ea, et, el⟩ := EN
  obtain ⟨np, na, nt, nl⟩ := NX
  obtain ⟨fp, fa, ft, fl⟩ := FA
  unfold runV at htr hen
  simp only at htr hmo hwt hen hfa
  obtain ⟨W1, hW1, hb1, g0, g1, g2, hs1⟩ := new3 w (.cells #[.int .u8 (ph : Int), .int .i64 at_, .int .i64 ti, .bool la] 159) (.cells #[.string ⟨sn.toArray⟩, .string ⟨sa.toArray⟩, .string ⟨su.toArray⟩, .slice saa N1 sac, .int .i64 sm, .int .i64 sf, .int .i64 sc, .int .i64 sl, .int .u8 k, .string ⟨t.toArray⟩, .slice ka N2 kc, .slice da N3 dc, .int .i64 l] 63) (.cells #[.int .u8 0, .int .i64 0, .int .i64 0, .bool false] 159) H hH
  obtain ⟨⟨a0, b0⟩, ⟨a1, b1⟩, ⟨a2, b2⟩, ⟨a3, b3⟩, ⟨a4, b4⟩, ⟨a5, b5⟩, ⟨a6, b6⟩, ⟨a7, b7⟩, ⟨a8, b8⟩, ⟨a9, b9⟩, ⟨a10, b10⟩, ⟨a11, b11⟩, ⟨a12, b12⟩⟩ := cell13 g1
  obtain ⟨⟨x0, y0⟩, ⟨x1, y1⟩, ⟨x2, y2⟩, ⟨x3, y3⟩⟩ := RunB.cells (c := ⟨ph, at_, ti, la⟩) g0
  simp only at x0 x1 x2 x3
  have hw2 : IntKind.i64.wrap (NW + WT) = NW + WT := IntWalk.i64_in _ (by omega)
  have HTR := hide htr
  have HMO := hide hmo
  have HWT := hide hwt
  have HEN := hide hen
  have HNO := hide hno
  have HFA := hide hfa
  have HW1 := hide hW1
  have HB1 := hide hb1
  have HG0 := hide g0
  have HG1 := hide g1
  have HG2 := hide g2
  clear htr hmo hwt hen hno hfa hW1 hb1 g0 g1 g2
  unfold runV
  have fin : ∀ (V : World) (q : P31.Run) (c : P31.Run), RunB V (H + 1 + 1) c → Below H w V → RunB ((((V.setCell ⟨H + 1 + 1, 0, none⟩ (.int .u8 (q.phase : Int))).setCell ⟨H + 1 + 1, 1, none⟩ (.int .i64 q.att)).setCell ⟨H + 1 + 1, 2, none⟩ (.int .i64 q.til)).setCell ⟨H + 1 + 1, 3, none⟩ (.bool q.last)) (H + 1 + 1) q ∧ Below H w ((((V.setCell ⟨H + 1 + 1, 0, none⟩ (.int .u8 (q.phase : Int))).setCell ⟨H + 1 + 1, 1, none⟩ (.int .i64 q.att)).setCell ⟨H + 1 + 1, 2, none⟩ (.int .i64 q.til)).setCell ⟨H + 1 + 1, 3, none⟩ (.bool q.last)) :=
    fun V q c h hb => ⟨h.out q, Below.set4 hb (by omega) _ _ _ _⟩
  have FIN := hide fin
  clear fin
  cases la with
  | true =>
    have hf := unhide HFA
    rw [if_pos (.inl rfl)] at hf
    cases hf
    go_enter Tryz.func145, Tryz.ntmps145
    go_upto_region 1 with fail
    try rw [hH]
    rw [unhide HW1]
    go_wp2_with (go_at_call 144; refine (unhide HEN _).mono ?_; rintro e w2 ⟨rfl, hb2⟩; have g3 := RunB.below (c := P31.Run.zero) (unhide HG2) hb2; obtain ⟨⟨z0, z1⟩, ⟨z2, z3⟩, ⟨z4, z5⟩, ⟨z6, z7⟩⟩ := g3.cells; have HG3 := hide g3; have HB2 := hide ((unhide HB1).trans (hb2.mono (by omega))); clear g3 hb2)
    obtain ⟨h3, h4⟩ := unhide FIN _ ⟨ep, ea, et, el⟩ _ (unhide HG3) (unhide HB2)
    exact bodyPost_ret (results_c1 rfl _ _ _ (H + 1 + 1) _ rfl h3.load) rfl ⟨rfl, h4⟩
  | false =>
    cases MO with
    | false =>
      have hf := unhide HFA
      rw [if_pos (.inr rfl)] at hf
      cases hf
      go_enter Tryz.func145, Tryz.ntmps145
      go_upto_region 1 with fail
      try rw [hH]
      rw [unhide HW1]
      go_upto_region 2 with (go_at_call 119; refine (unhide HMO _).mono ?_; rintro e w2 ⟨rfl, hb2⟩)
      have g0' := RunB.below (c := ⟨ph, at_, ti, false⟩) (unhide HG0) hb2
      have g2' := RunB.below (c := P31.Run.zero) (unhide HG2) hb2
      have bb' := (unhide HB1).trans (hb2.mono (by omega))
      clear x0 y0 x1 y1 x2 y2 x3 y3
      obtain ⟨⟨x0, y0⟩, ⟨x1, y1⟩, ⟨x2, y2⟩, ⟨x3, y3⟩⟩ := g0'.cells
      have hz2 := hb2.size
      have G2' := hide g2'
      have BB' := hide bb'
      clear g0' g2' bb' hb2
      go_wp2_with (go_at_call 144; refine (unhide HEN _).mono ?_; rintro e w3 ⟨rfl, hb3⟩; have g3 := RunB.below (c := P31.Run.zero) (unhide G2') hb3; obtain ⟨⟨z0, z1⟩, ⟨z2, z3⟩, ⟨z4, z5⟩, ⟨z6, z7⟩⟩ := g3.cells; have HG3 := hide g3; have HB2 := hide ((unhide BB').trans (hb3.mono (by omega))); clear g3 hb3)
      obtain ⟨h3, h4⟩ := unhide FIN _ ⟨ep, ea, et, el⟩ _ (unhide HG3) (unhide HB2)
      exact bodyPost_ret (results_c1 rfl _ _ _ (H + 1 + 1) _ rfl h3.load) rfl ⟨rfl, h4⟩
    | true =>
      have hf := unhide HFA
      rw [if_neg (by simp)] at hf
      have HF := hide hf
      clear hf HFA
      go_enter Tryz.func145, Tryz.ntmps145
      go_upto_region 1 with fail
      try rw [hH]
      rw [unhide HW1]
      go_upto_region 3 with (go_at_call 119; refine (unhide HMO _).mono ?_; rintro e w2 ⟨rfl, hb2⟩)
      have g0' := RunB.below (c := ⟨ph, at_, ti, false⟩) (unhide HG0) hb2
      have g1' := (hb2.block (H + 1) (by omega)).trans (unhide HG1)
      have g2' := RunB.below (c := P31.Run.zero) (unhide HG2) hb2
      have bb' := (unhide HB1).trans (hb2.mono (by omega))
      have hz2 := hb2.size
      clear x0 y0 x1 y1 x2 y2 x3 y3 a0 b0 a1 b1 a2 b2 a3 b3 a4 b4 a5 b5 a6 b6 a7 b7 a8 b8 a9 b9 a10 b10 a11 b11 a12 b12 HG0 HG1 HG2 HB1 HW1
      obtain ⟨⟨x0, y0⟩, ⟨x1, y1⟩, ⟨x2, y2⟩, ⟨x3, y3⟩⟩ := g0'.cells
      obtain ⟨⟨a0, b0⟩, ⟨a1, b1⟩, ⟨a2, b2⟩, ⟨a3, b3⟩, ⟨a4, b4⟩, ⟨a5, b5⟩, ⟨a6, b6⟩, ⟨a7, b7⟩, ⟨a8, b8⟩, ⟨a9, b9⟩, ⟨a10, b10⟩, ⟨a11, b11⟩, ⟨a12, b12⟩⟩ := cell13 g1'
      have HG0 := hide g0'
      have HG1 := hide g1'
      have HG2 := hide g2'
      have HB1 := hide bb'
      clear g0' g1' g2' bb' hb2
      go_upto_region 4 with (go_at_call 186; refine (unhide HWT _).mono ?_; rintro e w3 ⟨rfl, hb3⟩)
      have g0' := RunB.below (unhide HG0) hb3
      have g1' := (hb3.block (H + 1) (by omega)).trans (unhide HG1)
      have g2' := RunB.below (unhide HG2) hb3
      have bb' := (unhide HB1).trans (hb3.mono (by omega))
      have hz3 := hb3.size
      clear x0 y0 x1 y1 x2 y2 x3 y3 a0 b0 a1 b1 a2 b2 a3 b3 a4 b4 a5 b5 a6 b6 a7 b7 a8 b8 a9 b9 a10 b10 a11 b11 a12 b12 HG0 HG1 HG2 HB1
      obtain ⟨⟨x0, y0⟩, ⟨x1, y1⟩, ⟨x2, y2⟩, ⟨x3, y3⟩⟩ := g0'.cells
      obtain ⟨⟨a0, b0⟩, ⟨a1, b1⟩, ⟨a2, b2⟩, ⟨a3, b3⟩, ⟨a4, b4⟩, ⟨a5, b5⟩, ⟨a6, b6⟩, ⟨a7, b7⟩, ⟨a8, b8⟩, ⟨a9, b9⟩, ⟨a10, b10⟩, ⟨a11, b11⟩, ⟨a12, b12⟩⟩ := cell13 g1'
      have HG0 := hide g0'
      have HG2 := hide g2'
      have HB1 := hide bb'
      clear g0' g1' g2' bb' hb3
      by_cases hw0 : WT = 0
      · subst hw0
        have hf := unhide HF
        rw [if_pos rfl] at hf
        cases hf
        go_wp2_with (go_at_call 151; refine (unhide HTR _).mono ?_; rintro e w4 ⟨rfl, hb4⟩; have g3 := RunB.below (unhide HG2) hb4; obtain ⟨⟨z0, z1⟩, ⟨z2, z3⟩, ⟨z4, z5⟩, ⟨z6, z7⟩⟩ := g3.cells; have HG3 := hide g3; have HB2 := hide ((unhide HB1).trans (hb4.mono (by omega))); clear g3 hb4)
        obtain ⟨h3, h4⟩ := unhide FIN _ ⟨np, na, nt, nl⟩ _ (unhide HG3) (unhide HB2)
        exact bodyPost_ret (results_c1 rfl _ _ _ (H + 1 + 1) _ rfl h3.load) rfl ⟨rfl, h4⟩
      · have hne : (WT == 0) = false := by simpa using hw0
        have hf := unhide HF
        rw [if_neg hw0] at hf
        cases hf
        have hR : R2 w H H (H + 1 + 1) ⟨ph, at_, ti, false⟩ P31.Run.zero w3 := ⟨unhide HG0, unhide HG2, unhide HB1, by omega, by omega⟩
        obtain ⟨⟨z0, z1⟩, ⟨z2, z3⟩, ⟨z4, z5⟩, ⟨z6, z7⟩⟩ := (RunB.cells (unhide HG2))
        have HR := hide hR
        clear hR hw0
        go_wp2_with (go_at_call 150; refine (unhide HNO _).mono ?_; rintro e w' ⟨rfl, hw⟩; have hw := hw.symm; subst hw)
        have h3 := (((unhide HR).setPhase 2).setTil (NW + WT)).out ⟨2, at_, NW + WT, false⟩
        exact bodyPost_ret (results_c1 rfl _ _ _ (H + 1 + 1) _ rfl h3.load) rfl ⟨rfl, h3.bel⟩
set_option maxRecDepth 100000 in
set_option maxHeartbeats 8000000 in
theorem sAnswer_any (r : P31.Run) (s : PSt) (n tr : Int) (oc : Nat) (w : World) (hr : -1000000 ≤ r.att ∧ r.att ≤ 1000000) : Calls Tryz.prog 103 #[runV r, s.val, .int .i64 n, .int .i64 tr, .int .u8 (oc : Int)] w fun e w' => e = .returned (.tuple #[runV (P31.answer s.bare n r tr oc).1, .bool (P31.answer s.bare n r tr oc).2]) ∧ Below w.heap.size w w' := by
  obtain ⟨H, hH⟩ : ∃ H, w.heap.size = H := ⟨_, rfl⟩
  rw [hH]
  have hfl := fun V => fail_any r s n V hr
  have he3 := fun V => end_any r 3 V
  have he4 := fun V => end_any r 4 V
  obtain ⟨E3, hE3⟩ : ∃ x, P31.end_ r 3 = x := ⟨_, rfl⟩
  obtain ⟨E4, hE4⟩ : ∃ x, P31.end_ r 4 = x := ⟨_, rfl⟩
  obtain ⟨FA, hFA⟩ : ∃ x, P31.fail s.bare n r = x := ⟨_, rfl⟩
  obtain ⟨AN, hAN⟩ : ∃ x, P31.answer s.bare n r tr oc = x := ⟨_, rfl⟩
  have han : (if r.phase ≠ 1 ∨ r.att ≠ tr then (r, false) else if oc = 0 then (E3, true) else if oc = 1 then (FA, true) else if oc = 2 then (E4, true) else (r, false)) = AN := by rw [← hAN, ← hE3, ← hE4, ← hFA]; rfl
  rw [hFA] at hfl
  rw [hE3] at he3
  rw [hE4] at he4
  rw [hAN]
  clear hFA hE3 hE4 hAN
  obtain ⟨⟨sn, sa, su, saa, sac, saf, sm, sf, sc, sl, ⟨k, t, ka, kc, ks, da, dc, ds, l⟩⟩, hs⟩ : ∃ s', s = s' := ⟨_, rfl⟩
  rw [hs] at hfl ⊢
  simp only [PSt.val_eqn] at hfl ⊢
  obtain ⟨N1, hN1⟩ : ∃ N1, saf.length = N1 := ⟨_, rfl⟩
  obtain ⟨N2, hN2⟩ : ∃ N2, ks.length = N2 := ⟨_, rfl⟩
  obtain ⟨N3, hN3⟩ : ∃ N3, ds.length = N3 := ⟨_, rfl⟩
  rw [hN1, hN2, hN3] at hfl ⊢
  clear hs hN1 hN2 hN3
  obtain ⟨ph, at_, ti, la⟩ := r
  obtain ⟨ep, ea, et, el⟩ := E3
  obtain ⟨fp, fa, ft, fl⟩ := E4
  obtain ⟨np, na, nt, nl⟩ := FA
  unfold runV at hfl he3 he4
  simp only at hfl he3 he4 han
  obtain ⟨W1, hW1, hb1, g0, g1, g2, hs1⟩ := new3 w (.cells #[.int .u8 (ph : Int), .int .i64 at_, .int .i64 ti, .bool la] 159) (.cells #[.string ⟨sn.toArray⟩, .string ⟨sa.toArray⟩, .string ⟨su.toArray⟩, .slice saa N1 sac, .int .i64 sm, .int .i64 sf, .int .i64 sc, .int .i64 sl, .int .u8 k, .string ⟨t.toArray⟩, .slice ka N2 kc, .slice da N3 dc, .int .i64 l] 63) (.cells #[.int .u8 0, .int .i64 0, .int .i64 0, .bool false] 159) H hH
  obtain ⟨⟨a0, b0⟩, ⟨a1, b1⟩, ⟨a2, b2⟩, ⟨a3, b3⟩, ⟨a4, b4⟩, ⟨a5, b5⟩, ⟨a6, b6⟩, ⟨a7, b7⟩, ⟨a8, b8⟩, ⟨a9, b9⟩, ⟨a10, b10⟩, ⟨a11, b11⟩, ⟨a12, b12⟩⟩ := cell13 g1
  obtain ⟨⟨x0, y0⟩, ⟨x1, y1⟩, ⟨x2, y2⟩, ⟨x3, y3⟩⟩ := RunB.cells (c := ⟨ph, at_, ti, la⟩) g0
  simp only at x0 x1 x2 x3
  obtain ⟨⟨z0, z1⟩, ⟨z2, z3⟩, ⟨z4, z5⟩, ⟨z6, z7⟩⟩ := RunB.cells (c := P31.Run.zero) g2
  have HFL := hide hfl
  have HE3 := hide he3
  have HE4 := hide he4
  have HAN := hide han
  have HW1 := hide hW1
  have HB1 := hide hb1
  have HG2 : Hid (RunB W1 (H + 1 + 1) P31.Run.zero) := hide g2
  clear hfl he3 he4 han hW1 hb1 g0 g1 g2
  unfold runV
  have fin : ∀ (V : World) (q : P31.Run) (c : P31.Run), RunB V (H + 1 + 1) c → Below H w V → RunB ((((V.setCell ⟨H + 1 + 1, 0, none⟩ (.int .u8 (q.phase : Int))).setCell ⟨H + 1 + 1, 1, none⟩ (.int .i64 q.att)).setCell ⟨H + 1 + 1, 2, none⟩ (.int .i64 q.til)).setCell ⟨H + 1 + 1, 3, none⟩ (.bool q.last)) (H + 1 + 1) q ∧ Below H w ((((V.setCell ⟨H + 1 + 1, 0, none⟩ (.int .u8 (q.phase : Int))).setCell ⟨H + 1 + 1, 1, none⟩ (.int .i64 q.att)).setCell ⟨H + 1 + 1, 2, none⟩ (.int .i64 q.til)).setCell ⟨H + 1 + 1, 3, none⟩ (.bool q.last)) :=
    fun V q c h hb => ⟨h.out q, Below.set4 hb (by omega) _ _ _ _⟩
  have FIN := hide fin
  clear fin
  by_cases h1 : ph ≠ 1 ∨ at_ ≠ tr
  · have ha := unhide HAN
    rw [if_pos h1] at ha
    subst ha
    by_cases h2 : ph = 1
    · have h3 : at_ ≠ tr := h1.elim (fun h => absurd h2 h) id
      have hne : (at_ != tr) = true := by simpa using h3
      have hn1 : ((ph : Int) != 1) = false := by rw [h2]; rfl
      clear h1 h3 h2
      go_enter Tryz.func103, Tryz.ntmps103
      go_upto_region 1 with fail
      try rw [hH]
      rw [unhide HW1]
      go_wp2
      (try simp only [Exit.inBlock, Exit.then])
      obtain ⟨h3, h4⟩ := unhide FIN _ ⟨ph, at_, ti, la⟩ _ (unhide HG2) (unhide HB1)
      exact bodyPost_ret (results_c1b rfl _ _ _ (H + 1 + 1) _ rfl h3.load) rfl ⟨rfl, h4⟩
    · have hne : ((ph : Int) != 1) = true := by simp; omega
      clear h1 h2
      go_enter Tryz.func103, Tryz.ntmps103
      go_upto_region 1 with fail
      try rw [hH]
      rw [unhide HW1]
      go_wp2
      (try simp only [Exit.inBlock, Exit.then])
      obtain ⟨h3, h4⟩ := unhide FIN _ ⟨ph, at_, ti, la⟩ _ (unhide HG2) (unhide HB1)
      exact bodyPost_ret (results_c1b rfl _ _ _ (H + 1 + 1) _ rfl h3.load) rfl ⟨rfl, h4⟩
  · obtain ⟨hp1, rfl⟩ : ph = 1 ∧ at_ = tr := by
      refine ⟨?_, ?_⟩
      · by_cases h : ph = 1
        · exact h
        · exact absurd (.inl h) h1
      · by_cases h : at_ = tr
        · exact h
        · exact absurd (.inr h) h1
    have ha := unhide HAN
    rw [if_neg h1] at ha
    have HA := hide ha
    have hn1 : ((ph : Int) != 1) = false := by rw [hp1]; rfl
    clear ha HAN h1 hp1
    have hoc : oc = 0 ∨ oc = 1 ∨ oc = 2 ∨ (oc ≠ 0 ∧ oc ≠ 1 ∧ oc ≠ 2) := by omega
    rcases hoc with rfl | rfl | rfl | ⟨n0, n1, n2⟩
    · have ha := unhide HA
      rw [if_pos rfl] at ha
      subst ha
      go_enter Tryz.func103, Tryz.ntmps103
      go_upto_region 1 with fail
      try rw [hH]
      rw [unhide HW1]
      go_wp2_with (go_at_call 144; refine (unhide HE3 _).mono ?_; rintro e w2 ⟨rfl, hb2⟩; have g3 := RunB.below (c := P31.Run.zero) (unhide HG2) hb2; obtain ⟨⟨z0, z1⟩, ⟨z2, z3⟩, ⟨z4, z5⟩, ⟨z6, z7⟩⟩ := g3.cells; have HG3 := hide g3; have HB2 := hide ((unhide HB1).trans (hb2.mono (by omega))); clear g3 hb2)
      (try simp only [Exit.inBlock, Exit.then])
      obtain ⟨h3, h4⟩ := unhide FIN _ ⟨ep, ea, et, el⟩ _ (unhide HG3) (unhide HB2)
      exact bodyPost_ret (results_c1b rfl _ _ _ (H + 1 + 1) _ rfl h3.load) rfl ⟨rfl, h4⟩
    · have ha := unhide HA
      rw [if_neg (by decide), if_pos rfl] at ha
      subst ha
      go_enter Tryz.func103, Tryz.ntmps103
      go_upto_region 1 with fail
      try rw [hH]
      rw [unhide HW1]
      go_wp2_with (go_at_call 145; refine (unhide HFL _).mono ?_; rintro e w2 ⟨rfl, hb2⟩; have g3 := RunB.below (c := P31.Run.zero) (unhide HG2) hb2; obtain ⟨⟨z0, z1⟩, ⟨z2, z3⟩, ⟨z4, z5⟩, ⟨z6, z7⟩⟩ := g3.cells; have HG3 := hide g3; have HB2 := hide ((unhide HB1).trans (hb2.mono (by omega))); clear g3 hb2)
      (try simp only [Exit.inBlock, Exit.then])
      obtain ⟨h3, h4⟩ := unhide FIN _ ⟨np, na, nt, nl⟩ _ (unhide HG3) (unhide HB2)
      exact bodyPost_ret (results_c1b rfl _ _ _ (H + 1 + 1) _ rfl h3.load) rfl ⟨rfl, h4⟩
    · have ha := unhide HA
      rw [if_neg (by decide), if_neg (by decide), if_pos rfl] at ha
      subst ha
      go_enter Tryz.func103, Tryz.ntmps103
      go_upto_region 1 with fail
      try rw [hH]
      rw [unhide HW1]
      go_wp2_with (go_at_call 144; refine (unhide HE4 _).mono ?_; rintro e w2 ⟨rfl, hb2⟩; have g3 := RunB.below (c := P31.Run.zero) (unhide HG2) hb2; obtain ⟨⟨z0, z1⟩, ⟨z2, z3⟩, ⟨z4, z5⟩, ⟨z6, z7⟩⟩ := g3.cells; have HG3 := hide g3; have HB2 := hide ((unhide HB1).trans (hb2.mono (by omega))); clear g3 hb2)
      (try simp only [Exit.inBlock, Exit.then])
      obtain ⟨h3, h4⟩ := unhide FIN _ ⟨fp, fa, ft, fl⟩ _ (unhide HG3) (unhide HB2)
      exact bodyPost_ret (results_c1b rfl _ _ _ (H + 1 + 1) _ rfl h3.load) rfl ⟨rfl, h4⟩
    · have ha := unhide HA
      rw [if_neg n0, if_neg n1, if_neg n2] at ha
      subst ha
      have m0 : ((oc : Int) == 0) = false := by simp; omega
      have m1 : ((oc : Int) == 1) = false := by simp; omega
      have m2 : ((oc : Int) == 2) = false := by simp; omega
      clear n0 n1 n2
      go_enter Tryz.func103, Tryz.ntmps103
      go_upto_region 1 with fail
      try rw [hH]
      rw [unhide HW1]
      go_wp2
      (try simp only [Exit.inBlock, Exit.then])
      obtain ⟨h3, h4⟩ := unhide FIN _ ⟨ph, at_, ti, la⟩ _ (unhide HG2) (unhide HB1)
      exact bodyPost_ret (results_c1b rfl _ _ _ (H + 1 + 1) _ rfl h3.load) rfl ⟨rfl, h4⟩

set_option maxRecDepth 100000 in
set_option maxHeartbeats 8000000 in
theorem sTick_any (r : P31.Run) (s : PSt) (n : Int) (w : World) (hr : -1000000 ≤ r.att ∧ r.att ≤ 1000000) : Calls Tryz.prog 107 #[runV r, s.val, .int .i64 n] w fun e w' => e = .returned (.tuple #[runV (P31.tick s.bare n r).1, .bool (P31.tick s.bare n r).2]) ∧ Below w.heap.size w w' := by
  obtain ⟨H, hH⟩ : ∃ H, w.heap.size = H := ⟨_, rfl⟩
  rw [hH]
  have hfl := fun V => fail_any r s n V hr
  have htr := fun V => try_any r s n V hr
  have hno := fun V => Now_any n V
  obtain ⟨NX, hNX⟩ : ∃ x, P31.next s.bare n r = x := ⟨_, rfl⟩
  obtain ⟨FA, hFA⟩ : ∃ x, P31.fail s.bare n r = x := ⟨_, rfl⟩
  obtain ⟨NW, hNW⟩ : ∃ x, P31.now n = x := ⟨_, rfl⟩
  obtain ⟨AN, hAN⟩ : ∃ x, P31.tick s.bare n r = x := ⟨_, rfl⟩
  have han : (if NW < r.til then (r, false) else if r.phase = 1 then (FA, true) else if r.phase = 2 then (NX, true) else (r, false)) = AN := by rw [← hAN, ← hNX, ← hNW, ← hFA]; rfl
  rw [hFA] at hfl
  rw [hNX] at htr
  simp only [hNW] at hno
  rw [hAN]
  clear hFA hNX hNW hAN
  obtain ⟨⟨sn, sa, su, saa, sac, saf, sm, sf, sc, sl, ⟨k, t, ka, kc, ks, da, dc, ds, l⟩⟩, hs⟩ : ∃ s', s = s' := ⟨_, rfl⟩
  rw [hs] at hfl htr ⊢
  simp only [PSt.val_eqn] at hfl htr ⊢
  obtain ⟨N1, hN1⟩ : ∃ N1, saf.length = N1 := ⟨_, rfl⟩
  obtain ⟨N2, hN2⟩ : ∃ N2, ks.length = N2 := ⟨_, rfl⟩
  obtain ⟨N3, hN3⟩ : ∃ N3, ds.length = N3 := ⟨_, rfl⟩
  rw [hN1, hN2, hN3] at hfl htr ⊢
  clear hs hN1 hN2 hN3
  obtain ⟨ph, at_, ti, la⟩ := r
  obtain ⟨fp, fa, ft, fl⟩ := NX
  obtain ⟨np, na, nt, nl⟩ := FA
  unfold runV at hfl htr
  simp only at hfl htr han
  obtain ⟨W1, hW1, hb1, g0, g1, g2, hs1⟩ := new3 w (.cells #[.int .u8 (ph : Int), .int .i64 at_, .int .i64 ti, .bool la] 159) (.cells #[.string ⟨sn.toArray⟩, .string ⟨sa.toArray⟩, .string ⟨su.toArray⟩, .slice saa N1 sac, .int .i64 sm, .int .i64 sf, .int .i64 sc, .int .i64 sl, .int .u8 k, .string ⟨t.toArray⟩, .slice ka N2 kc, .slice da N3 dc, .int .i64 l] 63) (.cells #[.int .u8 0, .int .i64 0, .int .i64 0, .bool false] 159) H hH
  have hnq := fun q => hno (W1.drewN q)
  obtain ⟨W0, hW0⟩ : ∃ W0, W1 = W0 := ⟨_, rfl⟩
  have HFL := hide hfl
  have HTR := hide htr
  have HNO := hide hnq
  have HAN := hide han
  have HW1 := hide hW1
  have HB1' := hide hb1
  have HG0' := hide g0
  have HG1' := hide g1
  have HG2' := hide g2
  obtain ⟨⟨x0, y0⟩, ⟨x1, y1⟩, ⟨x2, y2⟩, ⟨x3, y3⟩⟩ := RunB.cells (c := ⟨ph, at_, ti, la⟩) g0
  simp only at x0 x1 x2 x3
  clear hfl htr hno hnq han hW1 hb1 g0 g1 g2 hW0
  unfold runV
  have fin : ∀ (V : World) (q : P31.Run) (c : P31.Run), RunB V (H + 1 + 1) c → Below H w V → RunB ((((V.setCell ⟨H + 1 + 1, 0, none⟩ (.int .u8 (q.phase : Int))).setCell ⟨H + 1 + 1, 1, none⟩ (.int .i64 q.att)).setCell ⟨H + 1 + 1, 2, none⟩ (.int .i64 q.til)).setCell ⟨H + 1 + 1, 3, none⟩ (.bool q.last)) (H + 1 + 1) q ∧ Below H w ((((V.setCell ⟨H + 1 + 1, 0, none⟩ (.int .u8 (q.phase : Int))).setCell ⟨H + 1 + 1, 1, none⟩ (.int .i64 q.att)).setCell ⟨H + 1 + 1, 2, none⟩ (.int .i64 q.til)).setCell ⟨H + 1 + 1, 3, none⟩ (.bool q.last)) :=
    fun V q c h hb => ⟨h.out q, Below.set4 hb (by omega) _ _ _ _⟩
  have FIN := hide fin
  clear fin
  go_enter Tryz.func107, Tryz.ntmps107
  go_upto_region 1 with fail
  try rw [hH]
  rw [unhide HW1]
  refine wp_region_quiet_lit (by kernel_rfl) (by kernel_rfl) ?_
  repeat (go_big_quiet_step (exact Calls.quiet_of_same (unhide HNO _)))
  refine wpQuiet_nil ?_
  intro _ hw'
  obtain ⟨nq, hw''⟩ := hw'
  subst hw''
  have g0 : (W1.drewN nq).heap[H]? = _ := unhide HG0'
  have g1 : (W1.drewN nq).heap[H + 1]? = _ := unhide HG1'
  have g2 : RunB (W1.drewN nq) (H + 1 + 1) P31.Run.zero := unhide HG2'
  have hb1 : Below H w (W1.drewN nq) := (unhide HB1').trans (below_drewN (Below.refl _ _))
  have hs1' : (W1.drewN nq).heap.size = H + 1 + 1 + 1 := hs1
  obtain ⟨V, hV⟩ : ∃ V, W1.drewN nq = V := ⟨_, rfl⟩
  rw [hV] at g0 g1 g2 hb1 hs1' ⊢
  clear hV x0 y0 x1 y1 x2 y2 x3 y3
  obtain ⟨⟨a0, b0⟩, ⟨a1, b1⟩, ⟨a2, b2⟩, ⟨a3, b3⟩, ⟨a4, b4⟩, ⟨a5, b5⟩, ⟨a6, b6⟩, ⟨a7, b7⟩, ⟨a8, b8⟩, ⟨a9, b9⟩, ⟨a10, b10⟩, ⟨a11, b11⟩, ⟨a12, b12⟩⟩ := cell13 g1
  obtain ⟨⟨x0, y0⟩, ⟨x1, y1⟩, ⟨x2, y2⟩, ⟨x3, y3⟩⟩ := RunB.cells (c := ⟨ph, at_, ti, la⟩) g0
  simp only at x0 x1 x2 x3
  obtain ⟨⟨z0, z1⟩, ⟨z2, z3⟩, ⟨z4, z5⟩, ⟨z6, z7⟩⟩ := RunB.cells (c := P31.Run.zero) g2
  have HG2 := hide g2
  have HB1 := hide hb1
  clear g0 g1 g2 hb1
  by_cases hlt : NW < ti
  · have ha := unhide HAN
    rw [if_pos hlt] at ha
    subst ha
    have d1 : decide (ti ≤ NW) = false := by simp; omega
    have d2 : ¬ ti ≤ NW := by omega
    go_wp2
    (try simp only [Exit.inBlock, Exit.then])
    obtain ⟨h3, h4⟩ := unhide FIN _ ⟨ph, at_, ti, la⟩ _ (unhide HG2) (unhide HB1)
    exact bodyPost_ret (results_c1b rfl _ _ _ (H + 1 + 1) _ rfl h3.load) rfl ⟨rfl, h4⟩
  · have d1 : decide (ti ≤ NW) = true := by simp; omega
    have d2 : ti ≤ NW := by omega
    have ha := unhide HAN
    rw [if_neg hlt] at ha
    have HA := hide ha
    clear ha HAN hlt
    have hph : ph = 1 ∨ ph = 2 ∨ (ph ≠ 1 ∧ ph ≠ 2) := by omega
    rcases hph with e1 | e2 | ⟨n1, n2⟩
    · have ha := unhide HA
      rw [if_pos e1] at ha
      subst ha
      have m1 : ((ph : Int) == 1) = true := by rw [e1]; rfl
      clear e1
      go_wp2_with (go_at_call 145; refine (unhide HFL _).mono ?_; rintro e w2 ⟨rfl, hb2⟩; have g3 := RunB.below (c := P31.Run.zero) (unhide HG2) hb2; obtain ⟨⟨z0, z1⟩, ⟨z2, z3⟩, ⟨z4, z5⟩, ⟨z6, z7⟩⟩ := g3.cells; have HG3 := hide g3; have HB2 := hide ((unhide HB1).trans (hb2.mono (by omega))); clear g3 hb2)
      (try simp only [Exit.inBlock, Exit.then])
      obtain ⟨h3, h4⟩ := unhide FIN _ ⟨np, na, nt, nl⟩ _ (unhide HG3) (unhide HB2)
      exact bodyPost_ret (results_c1b rfl _ _ _ (H + 1 + 1) _ rfl h3.load) rfl ⟨rfl, h4⟩
    · have ha := unhide HA
      rw [if_neg (by omega), if_pos e2] at ha
      subst ha
      have m1 : ((ph : Int) == 1) = false := by rw [e2]; rfl
      have m2 : ((ph : Int) == 2) = true := by rw [e2]; rfl
      clear e2
      go_wp2_with (go_at_call 151; refine (unhide HTR _).mono ?_; rintro e w2 ⟨rfl, hb2⟩; have g3 := RunB.below (c := P31.Run.zero) (unhide HG2) hb2; obtain ⟨⟨z0, z1⟩, ⟨z2, z3⟩, ⟨z4, z5⟩, ⟨z6, z7⟩⟩ := g3.cells; have HG3 := hide g3; have HB2 := hide ((unhide HB1).trans (hb2.mono (by omega))); clear g3 hb2)
      (try simp only [Exit.inBlock, Exit.then])
      obtain ⟨h3, h4⟩ := unhide FIN _ ⟨fp, fa, ft, fl⟩ _ (unhide HG3) (unhide HB2)
      exact bodyPost_ret (results_c1b rfl _ _ _ (H + 1 + 1) _ rfl h3.load) rfl ⟨rfl, h4⟩
    · have ha := unhide HA
      rw [if_neg n1, if_neg n2] at ha
      subst ha
      have m1 : ((ph : Int) == 1) = false := by simp; omega
      have m2 : ((ph : Int) == 2) = false := by simp; omega
      clear n1 n2
      go_wp2
      (try simp only [Exit.inBlock, Exit.then])
      obtain ⟨h3, h4⟩ := unhide FIN _ ⟨ph, at_, ti, la⟩ _ (unhide HG2) (unhide HB1)
      exact bodyPost_ret (results_c1b rfl _ _ _ (H + 1 + 1) _ rfl h3.load) rfl ⟨rfl, h4⟩

set_option maxRecDepth 100000 in
set_option maxHeartbeats 8000000 in
theorem Stop_any (r : P31.Run) (w : World) : Calls Tryz.prog 149 #[runV r] w fun e w' => e = .returned (runV (P31.stop r)) ∧ Below w.heap.size w w' := by
  obtain ⟨H, hH⟩ : ∃ H, w.heap.size = H := ⟨_, rfl⟩
  rw [hH]
  have hen := fun V => end_any r 4 V
  obtain ⟨ph, at_, ti, la⟩ := r
  have hE : P31.end_ ⟨ph, at_, ti, la⟩ 4 = ⟨4, at_, 0, la⟩ := rfl
  rw [hE] at hen
  have hst : P31.stop ⟨ph, at_, ti, la⟩ = if ph = 0 ∨ ph = 2 then ⟨4, at_, 0, true⟩ else if ph = 1 then ⟨1, at_, ti, true⟩ else ⟨ph, at_, ti, la⟩ := rfl
  rw [hst]
  unfold runV at hen
  simp only at hen
  obtain ⟨W1, hW1, hb1, g0, g1, hs1⟩ := new2 w (.cells #[.int .u8 (ph : Int), .int .i64 at_, .int .i64 ti, .bool la] 159) (.cells #[.int .u8 0, .int .i64 0, .int .i64 0, .bool false] 159) H hH
  have h1 : R2 w H H (H + 1) ⟨ph, at_, ti, la⟩ P31.Run.zero W1 := ⟨g0, g1, hb1, by omega, by omega⟩
  obtain ⟨⟨⟨a0, b0⟩, ⟨a1, b1⟩, ⟨a2, b2⟩, ⟨a3, b3⟩⟩, ⟨⟨c0, d0⟩, ⟨c1, d1⟩, ⟨c2, d2⟩, ⟨c3, d3⟩⟩⟩ := h1.cells
  simp only at a0 a1 a2 a3
  have HEN := hide hen
  have HW1 := hide hW1
  have H1 := hide h1
  clear hen hW1 hb1 g0 g1 h1 hst hE
  have hph : (ph = 0 ∨ ph = 2) ∨ ph = 1 ∨ (ph ≠ 0 ∧ ph ≠ 1 ∧ ph ≠ 2) := by omega
  rcases hph with h0 | h1 | ⟨n0, n1, n2⟩
  · rw [if_pos h0]
    have fin : ∀ V, R2 w H H (H + 1) ⟨4, at_, 0, la⟩ P31.Run.zero V → R2 w H H (H + 1) ⟨4, at_, 0, true⟩ ⟨4, at_, 0, true⟩ (((((V.setCell ⟨H, 3, none⟩ (.bool true)).setCell ⟨H + 1, 0, none⟩ (.int .u8 4)).setCell ⟨H + 1, 1, none⟩ (.int .i64 at_)).setCell ⟨H + 1, 2, none⟩ (.int .i64 0)).setCell ⟨H + 1, 3, none⟩ (.bool true)) := fun V h => (h.setLast true).out ⟨4, at_, 0, true⟩
    have FIN := hide fin
    clear fin
    unfold runV
    rcases h0 with e0 | e2
    case' inl =>
      have m0 : ((ph : Int) == 0) = true := by rw [e0]; rfl
      clear e0
    case' inr =>
      have m0 : ((ph : Int) == 0) = false := by rw [e2]; rfl
      have m2 : ((ph : Int) == 2) = true := by rw [e2]; rfl
      clear e2
    all_goals
      go_enter Tryz.func149, Tryz.ntmps149
      go_upto_region 1 with fail
      try rw [hH]
      rw [unhide HW1]
      go_upto_region 6 with (go_at_call 144; refine (unhide HEN _).mono ?_; rintro e w2 ⟨rfl, hb2⟩; have h2 := (unhide H1).below hb2; obtain ⟨⟨⟨x0, y0⟩, ⟨x1, y1⟩, ⟨x2, y2⟩, ⟨x3, y3⟩⟩, ⟨⟨z0, z1⟩, ⟨z2, z3⟩, ⟨z4, z5⟩, ⟨z6, z7⟩⟩⟩ := h2.cells; have H2 := hide h2; clear h2)
      have h3 := (((((unhide H2).setPhase 4).setAtt at_).setTil 0).setLast la)
      obtain ⟨W3, hW3⟩ : ∃ W3, (((w2.setCell ⟨H, 0, none⟩ (.int .u8 4)).setCell ⟨H, 1, none⟩ (.int .i64 at_)).setCell ⟨H, 2, none⟩ (.int .i64 0)).setCell ⟨H, 3, none⟩ (.bool la) = W3 := ⟨_, rfl⟩
      have h3' : R2 w H H (H + 1) ⟨4, at_, 0, la⟩ P31.Run.zero W3 := by rw [← hW3]; exact h3
      rw [hW3]
      clear h3 hW3 x0 y0 x1 y1 x2 y2 x3 y3 z0 z1 z2 z3 z4 z5 z6 z7 a0 b0 a1 b1 a2 b2 a3 b3 c0 d0 c1 d1 c2 d2 c3 d3
      obtain ⟨⟨⟨x0, y0⟩, ⟨x1, y1⟩, ⟨x2, y2⟩, ⟨x3, y3⟩⟩, ⟨⟨z0, z1⟩, ⟨z2, z3⟩, ⟨z4, z5⟩, ⟨z6, z7⟩⟩⟩ := h3'.cells
      simp only at x0 x1 x2 x3
      have H3 := hide h3'
      clear h3'
      go_wp2
      (try simp only [Exit.inBlock, Exit.then])
      have h4 := unhide FIN _ (unhide H3)
      exact bodyPost_ret (results_c1 rfl _ _ _ (H + 1) _ rfl h4.load) rfl ⟨rfl, h4.bel⟩
  · rw [if_neg (by omega), if_pos h1, show (⟨1, at_, ti, true⟩ : P31.Run) = ⟨ph, at_, ti, true⟩ by rw [h1]]
    have m0 : ((ph : Int) == 0) = false := by rw [h1]; rfl
    have m2 : ((ph : Int) == 2) = false := by rw [h1]; rfl
    have m1 : ((ph : Int) == 1) = true := by rw [h1]; rfl
    clear h1
    unfold runV
    go_enter Tryz.func149, Tryz.ntmps149
    go_upto_region 1 with fail
    try rw [hH]
    rw [unhide HW1]
    go_wp2
    (try simp only [Exit.inBlock, Exit.then])
    have h4 := ((unhide H1).setLast true).out ⟨ph, at_, ti, true⟩
    exact bodyPost_ret (results_c1 rfl _ _ _ (H + 1) _ rfl h4.load) rfl ⟨rfl, h4.bel⟩
  · rw [if_neg (by omega), if_neg n1]
    have m0 : ((ph : Int) == 0) = false := by simp; omega
    have m1 : ((ph : Int) == 1) = false := by simp; omega
    have m2 : ((ph : Int) == 2) = false := by simp; omega
    clear n0 n1 n2
    unfold runV
    go_enter Tryz.func149, Tryz.ntmps149
    go_upto_region 1 with fail
    try rw [hH]
    rw [unhide HW1]
    go_wp2
    (try simp only [Exit.inBlock, Exit.then])
    have h4 := (unhide H1).out ⟨ph, at_, ti, la⟩
    exact bodyPost_ret (results_c1 rfl _ _ _ (H + 1) _ rfl h4.load) rfl ⟨rfl, h4.bel⟩
end Go.Proofs.YtefokfbgpfcbkaaGreat
