/- Lemmas of this claim (a part of its texts, kept as far as the claim reaches them). -/
import Derived.Test.YtefokfbgpfcbkaaGreatS32mZ
import Derived.Test.YtefokfbgpfcbkaaGreatS32lZ
namespace Go.Proofs.YtefokfbgpfcbkaaGreat
set_option linter.unusedVariables false
set_option linter.unusedSimpArgs false
open Go.RowKit
attribute [local go_sem] run_store_func Oper.semAt_some
open P32 (waysL waysL_len waysL_get waysL_of tickX tickX_next tickX_all tickX_good)
section
variable {w0 W W' : World} {M0 : Nat → Prop} {b bm rb C h1 h2 ob : Nat} {vs : Nat → Value} {d : PDef} {x : P32.S × List P32.Order} {dn un v : Value}
theorem SA.at_ (h : SA w0 M0 b bm rb C h1 h2 ob vs d x W) (k1 : Sg W b bm rb C vs d dn un x.1) (k2 : W.heap[ob]? = some (.cells #[v] 105)) :
    (∀ g, v.ownBlock = some g → ¬ Mb b bm dn un g ∧ g ≠ h1 ∧ g ≠ h2 ∧ g ≠ ob ∧ (M0 g ∨ w0.heap.size ≤ g)) ∧ (∀ g, Mb b bm dn un g → g ≠ h1 ∧ g ≠ h2 ∧ g ≠ ob) ∧ (∀ g, Mb b bm dn un g → M0 g ∨ w0.heap.size ≤ g) := by
  obtain ⟨dn', un', v', q1, q2, q3, q4, q5, q6⟩ := h.ex
  have e2 : v' = v := by
    rw [k2] at q2
    cases q2
    rfl
  have hbx := q1.bx
  rw [k1.bx] at hbx
  unfold sgC at hbx
  have e3 : dn = dn' ∧ un = un' := by
    simp only [Option.some.injEq, Obj.cells.injEq, Array.mk.injEq, List.cons.injEq, and_true, true_and] at hbx
    exact hbx
  obtain ⟨rfl, rfl⟩ := e3
  subst e2
  exact ⟨q4, q5, q6⟩
theorem SA.row {row : Option Nat} (h : SA w0 M0 b bm rb C h1 h2 ob vs d x W) (k1 : Sg W b bm rb C vs d dn un x.1) (k2 : W.heap[ob]? = some (.cells #[v] 105)) (k3 : OwnO W C v x.2) (hM0 : ∀ g, gridB rb vs d.steps.length g ∨ d.blk g → ¬ M0 g)
    (hg : W.grownBy W' row) (hr : ∀ r, row = some r → ¬ MA b bm h1 h2 ob dn un v r ∧ ¬ (r < w0.heap.size ∧ ¬ M0 r)) :
    SA w0 M0 b bm rb C h1 h2 ob vs d x W' ∧ Sg W' b bm rb C vs d dn un x.1 ∧ W'.heap[ob]? = some (.cells #[v] 105) ∧ OwnO W' C v x.2 := by
  obtain ⟨q4, q5, q6⟩ := h.at_ k1 k2
  obtain ⟨l1, l2, l3, l4, l5, l6, l7⟩ := h.low
  have keep : ∀ g, MA b bm h1 h2 ob dn un v g → g < W.heap.size → W'.heap[g]? = W.heap[g]? := fun g hm hl => hg.block g hl (fun e => (hr g e.symm).1 hm)
  have keep2 : ∀ g, gridB rb vs d.steps.length g ∨ d.blk g → W'.heap[g]? = W.heap[g]? := fun g hm => hg.block g (k1.lt (.inr hm)) (fun e => (hr g e.symm).2 ⟨by have := (k1.rest hm).2.2; omega, hM0 g hm⟩)
  have k1' : Sg W' b bm rb C vs d dn un x.1 := k1.keep hg.size (fun g hm => hm.elim (fun e => keep g (.inl e) (k1.lt (.inl e))) (keep2 g))
  have k2' := (keep ob (.inr (.inr (.inr (.inl rfl)))) (Array.getElem?_eq_some_iff.1 k2).1).trans k2
  have k3' : OwnO W' C v x.2 := k3.keep (fun g hm => keep g (.inr (.inr (.inr (.inr hm)))) (k3.lt hm).2)
  refine ⟨⟨⟨dn, un, v, k1', k2', k3', q4, q5, q6⟩, (keep h1 (.inr (.inl rfl)) (Array.getElem?_eq_some_iff.1 h.c1).1).trans h.c1, (keep h2 (.inr (.inr (.inl rfl))) (Array.getElem?_eq_some_iff.1 h.c2).1).trans h.c2, h.kw.grown hg (fun r e => ?_), h.low, h.ne⟩, k1', k2', k3'⟩
  have := (hr r e).2
  by_cases hm : M0 r
  · exact .inl hm
  · exact .inr (Nat.le_of_not_lt (fun q => this ⟨q, hm⟩))
def TkR (w0 : World) (M0 : Nat → Prop) (H P bx : Nat) (r : Nat) : Prop := (r < w0.heap.size ∧ ¬ M0 r) ∨ r = H ∨ r = H + 1 ∨ r = P ∨ r = bx
structure TkI (w0 : World) (M0 : Nat → Prop) (b bm rb C h1 h2 ob H P bx : Nat) (n : Int) (vs : Nat → Value) (d : PDef) (x : P32.S × List P32.Order) (M : Nat → Prop) (V : World) : Prop where
  sa : SA w0 M0 b bm rb C h1 h2 ob vs d x V
  ex : ∃ dn un v, Sg V b bm rb C vs d dn un x.1 ∧ V.heap[ob]? = some (.cells #[v] 105) ∧ OwnO V C v x.2 ∧ ∀ r, M r ↔ MA b bm h1 h2 ob dn un v r
  m0 : ∀ g, gridB rb vs d.steps.length g ∨ d.blk g → ¬ M0 g
  nr : ∀ r, M r → ¬ TkR w0 M0 H P bx r
  bS : V.heap[H]? = some (.cells #[.pointer (some ⟨b, 0, none⟩)] 96)
  bN : V.heap[H + 1]? = some (.cells #[.int .i64 n] 2)
  bP : V.heap[P]? = some (.cells #[.func (.func 146) #[] #[.pointer (some ⟨h1, 0, none⟩), .pointer (some ⟨h2, 0, none⟩)]] 171)
  bB : bx < V.heap.size
namespace TkI
variable {H P bx : Nat} {n : Int} {M : Nat → Prop} {V V' : World}
theorem lt (h : TkI w0 M0 b bm rb C h1 h2 ob H P bx n vs d x M V) {r : Nat} (hr : M r) : r < V.heap.size := by
  obtain ⟨dn, un, v, k1, k2, k3, hm⟩ := h.ex
  rcases (hm r).1 hr with e | rfl | rfl | rfl | e
  · exact k1.lt (.inl e)
  · exact (Array.getElem?_eq_some_iff.1 h.sa.c1).1
  · exact (Array.getElem?_eq_some_iff.1 h.sa.c2).1
  · exact (Array.getElem?_eq_some_iff.1 k2).1
  · exact (k3.lt e).2
theorem abides {row : Option Nat} (h : TkI w0 M0 b bm rb C h1 h2 ob H P bx n vs d x M V) (hg : V.grownBy V' row) (hr : ∀ r, row = some r → ¬ M r ∧ ¬ TkR w0 M0 H P bx r) : TkI w0 M0 b bm rb C h1 h2 ob H P bx n vs d x M V' := by
  obtain ⟨dn, un, v, k1, k2, k3, hm⟩ := h.ex
  obtain ⟨a1, a2, a3, a4⟩ := h.sa.row k1 k2 k3 h.m0 hg (fun r e => ⟨fun q => (hr r e).1 ((hm r).2 q), fun q => (hr r e).2 (.inl q)⟩)
  refine ⟨a1, ⟨dn, un, v, a2, a3, a4, hm⟩, h.m0, h.nr, (hg.block H (Array.getElem?_eq_some_iff.1 h.bS).1 (fun e => (hr H e.symm).2 (.inr (.inl rfl)))).trans h.bS, (hg.block _ (Array.getElem?_eq_some_iff.1 h.bN).1 (fun e => (hr _ e.symm).2 (.inr (.inr (.inl rfl))))).trans h.bN, (hg.block P (Array.getElem?_eq_some_iff.1 h.bP).1 (fun e => (hr P e.symm).2 (.inr (.inr (.inr (.inl rfl)))))).trans h.bP, Nat.lt_of_lt_of_le h.bB hg.size⟩
theorem below (h : TkI w0 M0 b bm rb C h1 h2 ob H P bx n vs d x M V) (hb : Below V.heap.size V V') : TkI w0 M0 b bm rb C h1 h2 ob H P bx n vs d x M V' := h.abides (grown_of_below hb none) (fun r e => by cases e)
theorem base (h : TkI w0 M0 b bm rb C h1 h2 ob H P bx n vs d x M V) : SA V M b bm rb C h1 h2 ob vs d x V := by
  obtain ⟨dn, un, v, k1, k2, k3, hm⟩ := h.ex
  obtain ⟨q4, q5, q6⟩ := h.sa.at_ k1 k2
  obtain ⟨l1, l2, l3, l4, l5, l6, l7⟩ := h.sa.low
  exact ⟨⟨dn, un, v, k1, k2, k3, fun g hg => ⟨(q4 g hg).1, (q4 g hg).2.1, (q4 g hg).2.2.1, (q4 g hg).2.2.2.1, .inl ((hm g).2 (.inr (.inr (.inr (.inr hg)))))⟩, q5, fun g hg => .inl ((hm g).2 (.inl hg))⟩, h.sa.c1, h.sa.c2, KW.refl _ _, ⟨k1.cw, .inl ((hm _).2 (.inr (.inl rfl))), .inl ((hm _).2 (.inr (.inr (.inl rfl)))), .inl ((hm _).2 (.inr (.inr (.inr (.inl rfl))))), l5, l6, l7⟩, h.sa.ne⟩
theorem step {x' : P32.S × List P32.Order} (h : TkI w0 M0 b bm rb C h1 h2 ob H P bx n vs d x M V) (hp : SA V M b bm rb C h1 h2 ob vs d x' V') : ∃ M', KeepsM M V M' V' ∧ TkI w0 M0 b bm rb C h1 h2 ob H P bx n vs d x' M' V' := by
  obtain ⟨dn, un, v, k1, k2, k3, hm⟩ := h.ex
  obtain ⟨dn', un', v', q1, q2, q3, q4, q5, q6⟩ := hp.ex
  have up : ∀ r, MA b bm h1 h2 ob dn' un' v' r → M r ∨ V.heap.size ≤ r := fun r hr => by
    rcases hr with e | e | e | e | e
    · exact q6 r e
    · exact .inl ((hm r).2 (.inr (.inl e)))
    · exact .inl ((hm r).2 (.inr (.inr (.inl e))))
    · exact .inl ((hm r).2 (.inr (.inr (.inr (.inl e)))))
    · exact (q4 r e).2.2.2.2
  have zS := (Array.getElem?_eq_some_iff.1 h.bS).1
  have zN := (Array.getElem?_eq_some_iff.1 h.bN).1
  have zP := (Array.getElem?_eq_some_iff.1 h.bP).1
  have zB := h.bB
  have z0 := h.sa.kw.size
  refine ⟨_, ⟨hp.kw.size, fun r hr hl => hp.kw.same r hr hl, up⟩, ⟨h.sa.debase (fun g hg => ?_) hp, ⟨dn', un', v', q1, q2, q3, fun r => Iff.rfl⟩, h.m0, fun r hr ht => ?_, (hp.kw.same H (fun e => h.nr H e (.inr (.inl rfl))) zS).trans h.bS, (hp.kw.same _ (fun e => h.nr _ e (.inr (.inr (.inl rfl)))) zN).trans h.bN, (hp.kw.same P (fun e => h.nr P e (.inr (.inr (.inr (.inl rfl))))) zP).trans h.bP, Nat.lt_of_lt_of_le zB hp.kw.size⟩⟩
  · have := h.nr g hg
    by_cases hq : M0 g
    · exact .inl hq
    · exact .inr (Nat.le_of_not_lt (fun e => this (.inl ⟨e, hq⟩)))
  · rcases up r hr with e | e
    · exact h.nr r e ht
    · rcases ht with q | q | q | q | q <;> omega
end TkI
end
theorem SE.down {w W1 W : World} {M0 : Nat → Prop} {b bm rb C K : Nat} {vs : Nat → Value} {d : PDef} {x : P32.S × List P32.Order} {V : Value} (h : SE W1 M0 b bm rb C vs d x V W) (hb : Below K w W1) (hK : w.heap.size ≤ K := by omega) : SE w M0 b bm rb C vs d x V W := by
  obtain ⟨dn, un, a1, a2, a3, a4, a5⟩ := h
  have hz := hb.size
  exact ⟨dn, un, a1, a2, fun g hg => ⟨(a3 g hg).1, (a3 g hg).2.imp id (fun e => by omega)⟩, fun g hg => (a4 g hg).imp id (fun e => by omega), (KW.of hb hK).trans a5⟩
set_option maxRecDepth 100000 in
set_option maxHeartbeats 4000000 in
theorem Tick_any {b bm rb C : Nat} {vs : Nat → Value} {d : PDef} {dn un : Value} {s : P32.S} (n : Int) (w : World) (h : Sg w b bm rb C vs d dn un s) (hi : P32.Inv d.bare s) :
    Calls Tryz.prog 63 #[.pointer (some ⟨b, 0, none⟩), .int .i64 n] w fun e w' => ∃ V, e = .returned V ∧ SE w (Mb b bm dn un) b bm rb C vs d (P32.tick d.bare n s) V w' := by
  obtain ⟨H, hH⟩ : ∃ H, w.heap.size = H := ⟨_, rfl⟩
  obtain ⟨W1, hW1, hb1, g0, g1, hz1⟩ := new2 w (.cells #[.pointer (some ⟨b, 0, none⟩)] 96) (.cells #[.int .i64 n] 2) H hH
  have s1 := h.below (by rw [hH]; exact hb1)
  have hmv := smoving_any b bm s.status W1 s1.cells.2.2.1.1 s1.cells.2.2.2.2.2.1
  have hak := asker_any W1 s1 (KW.refl _ W1) s1.cw (fun g hg => .inl hg)
  have hnil := SE.nil' h (by rw [hH]; exact hb1)
  obtain ⟨x0, _⟩ := cell1 g0
  obtain ⟨x1, _⟩ := cell1 g1
  obtain ⟨MV, hMV⟩ : ∃ z, (s.status == 1 || s.status == 2) = z := ⟨_, rfl⟩
  rw [hMV] at hmv
  have HM := hide hmv
  have HAK := hide hak
  have HNIL := hide hnil
  have HW1 := hide hW1
  have HB1 := hide hb1
  have H0 := hide h
  have HI := hide hi
  have HMV := hide hMV
  have HG0 := hide g0
  have HG1 := hide g1
  clear hW1 hmv hak hnil hb1 h hi hMV s1 g0 g1
  cases MV with
  | false =>
    have hst : P32.tick d.bare n s = (s, []) := by
      unfold P32.tick
      exact if_pos (show P32.moving s = false from unhide HMV)
    rw [hst]
    clear hst
    go_enter Tryz.func63, Tryz.ntmps63
    go_upto_region 1 with fail
    try rw [hH]
    rw [unhide HW1]
    go_wp2_with (go_at_call 102; refine (unhide HM).mono ?_; rintro e w' ⟨rfl, hw⟩; have hw := hw.symm; subst hw)
    go_ret
    exact ⟨_, rfl, unhide HNIL⟩
  | true =>
    have hst := tickX_all (d := d.bare) (n := n) (s := s) (unhide HMV)
    have hgx := fun j hj => tickX_good (d := d.bare) (n := n) (unhide HI) (P32.moving_iff.1 (unhide HMV)) j hj
    obtain ⟨X, hX⟩ : ∃ X, P32.tick d.bare n s = X := ⟨_, rfl⟩
    rw [hX] at hst ⊢
    have HST := hide hst
    have HGX := hide hgx
    have hN9 := (unhide H0).nle
    have hC9 := (unhide H0).cw
    have hbC := (unhide H0).bc
    clear hst hgx hX
    refine (callsIn_wide (n := 40)).1 ?_
    refine callsIn_of_wp_marks Tryz.func63 rfl trivial ?_ rfl
    simp only [Tryz.ntmps63, List.size_toArray, List.length_cons, List.length_nil, Nat.reduceAdd, Nat.reduceSub, Array.replicate_succ, Array.replicate_zero, List.push_toArray, List.append_toArray, List.nil_append, List.cons_append]
    refine wpIn_wide.2 ?_
    go_upto_region 1 with fail
    try rw [hH]
    rw [unhide HW1]
    go_upto_region 3 with (go_at_call 102; refine (unhide HM).mono ?_; rintro e w' ⟨rfl, hw⟩; have hw := hw.symm; subst hw)
    go_upto_region 4 with (go_at_call 104; refine (unhide HAK).mono ?_; rintro e w3 ⟨h1, h2, ob, rfl, hsa, hb3⟩; obtain ⟨P, hP⟩ : ∃ P, w3.heap.size = P := ⟨_, rfl⟩; obtain ⟨W4, hW4, hb4, g4, hz4⟩ := new1 w3 (.cells #[.func (.func 146) #[] #[.pointer (some ⟨h1, 0, none⟩), .pointer (some ⟨h2, 0, none⟩)]] 171) P hP; have HW4 := hide hW4; clear hW4)
    try rw [hP]
    rw [unhide HW4]
    have hzw := hsa.kw.size
    obtain ⟨dn3, un3, v3, j1, j2, j3, j4, j5, j6⟩ := hsa.ex
    have hMup : ∀ g, MA b bm h1 h2 ob dn3 un3 v3 g → (Mb b bm dn un g ∨ W1.heap.size ≤ g) ∧ g < P := by
      obtain ⟨l1, l2, l3, l4, _⟩ := hsa.low
      rintro g (e | rfl | rfl | rfl | e)
      · exact ⟨j6 g e, by rw [← hP]; exact j1.lt (.inl e)⟩
      · exact ⟨l2, by rw [← hP]; exact (Array.getElem?_eq_some_iff.1 hsa.c1).1⟩
      · exact ⟨l3, by rw [← hP]; exact (Array.getElem?_eq_some_iff.1 hsa.c2).1⟩
      · exact ⟨l4, by rw [← hP]; exact (Array.getElem?_eq_some_iff.1 j2).1⟩
      · exact ⟨(j4 g e).2.2.2.2, by rw [← hP]; exact (j3.lt e).2⟩
    have g40 : W4.heap[H]? = some (.cells #[.pointer (some ⟨b, 0, none⟩)] 96) := (hb4.block H (by have := hb3.size; omega)).trans ((hb3.block H (by omega)).trans (unhide HG0))
    have g41 : W4.heap[H + 1]? = some (.cells #[.int .i64 n] 2) := (hb4.block (H + 1) (by have := hb3.size; omega)).trans ((hb3.block (H + 1) (by omega)).trans (unhide HG1))
    have hPH : H + 2 ≤ P := by have := hb3.size; omega
    obtain ⟨W5, hW5, hb5, g5, hz5⟩ := new1 W4 (.cells #[.pointer (some ⟨b, 0, none⟩)] 96) (P + 1) hz4
    have hwy := ways_any b W4
    rw [hz4, hW5] at hwy
    have hb35 : Below w3.heap.size w3 W5 := by rw [hP]; exact hb4.trans (hb5.mono (by omega))
    have hm0 : ∀ g, gridB rb vs d.steps.length g ∨ d.blk g → ¬ Mb b bm dn un g := fun g hg hm => by
      have hr := (unhide H0).rest hg
      rcases hm with rfl | rfl | e
      · exact hr.1 rfl
      · exact hr.2.1 rfl
      · have := (unhide H0).ownC e; omega
    have hm1 : ∀ g, Mb b bm dn un g → g < H := fun g hg => by rw [← hH]; exact (unhide H0).lt (.inl hg)
    have hti : TkI W1 (Mb b bm dn un) b bm rb C h1 h2 ob H P (P + 1) n vs d (s, []) (MA b bm h1 h2 ob dn3 un3 v3) W5 := ⟨hsa.below hb35, ⟨dn3, un3, v3, j1.below hb35, (hb35.block ob (by rw [hP]; exact (hMup ob (.inr (.inr (.inr (.inl rfl))))).2)).trans j2, j3.keep (fun g hg => hb35.block g (j3.lt hg).2), fun r => Iff.rfl⟩, hm0, fun r hr ht => by
      obtain ⟨a1, a2⟩ := hMup r hr
      rcases ht with ⟨q1, q2⟩ | rfl | rfl | rfl | rfl
      · exact a1.elim q2 (by omega)
      · exact a1.elim (fun e => by have := hm1 _ e; omega) (by omega)
      · exact a1.elim (fun e => by have := hm1 _ e; omega) (by omega)
      · omega
      · omega, (hb5.block H (by omega)).trans g40, (hb5.block (H + 1) (by omega)).trans g41, (hb5.block P (by omega)).trans g4, by omega⟩
    obtain ⟨y0, _⟩ := cell1 g40
    have hit := fun V (hgr : W5.grownBy V none) => waysIter_seq (40 - 1) b (P + 1) d.steps.length d.sc d.sa (TkR W1 (Mb b bm dn un) H P (P + 1)) (fun _ => False) V ((hgr.block _ (by omega) (by simp)).trans g5) (.inr (.inr (.inr (.inr rfl)))) (fun r hr => by
      have := hgr.size
      rcases hr with ⟨q1, _⟩ | rfl | rfl | rfl | rfl <;> omega) hN9
    have HWY := hide hwy
    have HTI := hide hti
    have HIT := hide hit
    have HM1 := hide hm1
    have HS3 := hide hsa
    clear hsa hb3 hb4 g4 g40 g41 hW5 hb5 g5 hwy hb35 hm0 hm1 hti hit j1 j2 j3 j4 j5 j6 hMup
    go_wp2_with (go_at_call 97; refine (unhide HWY).mono ?_; rintro e w' ⟨rfl, hw⟩; have hw := hw.symm; subst hw)
    refine (wpIn_wide (n := 40)).1 ?_
    generalize hA : ({ tmps := _, defers := _ } : Act) = A
    refine wpIn_rangeFunc_X rfl (by omega) (gf := 139) (lb := #[.pointer (some ⟨P + 1, 0, none⟩)]) (by rw [← hA]; rfl) trivial (enters_of Tryz.func139 (by kernel_rfl) rfl)
      (encs := encW) (waysL d.steps.length) (fun _ V => V.cell? ⟨b, 2, none⟩ = some (.slice d.sa d.steps.length d.sc)) (TkR W1 (Mb b bm dn un) H P (P + 1)) (fun _ => False) (fun r hr => by rcases hr with ⟨q1, _⟩ | rfl | rfl | rfl | rfl <;> omega)
      (fun V hgr _ => unhide HIT V hgr) (fun _ => rfl)
      (fun j M V => TkI W1 (Mb b bm dn un) b bm rb C h1 h2 ob H P (P + 1) n vs d (tickX d.bare n s j) (M) V) (fun _ _ _ _ => False)
      (fun j M V V' row hi hg hr => hi.abides hg hr) (fun c j M V V' row hi hg hr => hi) (fun j M V hi r hr => ⟨hi.lt hr, hi.nr r hr⟩)
      (MA b bm h1 h2 ob dn3 un3 v3) (fun r hr => hr.elim) (unhide HTI)
      (fun j p M' a' V => ∃ M q, (M' = fun r => M r ∨ r = q) ∧ TkI W1 (Mb b bm dn un) b bm rb C h1 h2 ob H P (P + 1) n vs d (tickX d.bare n s j) (M) V ∧ ¬ M q ∧ ¬ TkR W1 (Mb b bm dn un) H P (P + 1) q ∧ V.heap[q]? = some (.cells #[.int .i64 (p.1 : Int), .bool p.2] 157) ∧ a' = (A.put (some 20) (.agg #[.int .i64 (p.1 : Int), .bool p.2])).put (some 7) (.pointer (some ⟨q, 0, none⟩)))
      ?hB ?assign ?body (fun j M V hi => by obtain ⟨_, _, _, k1, _⟩ := hi.ex; exact k1.cells.1.1) ?done ?stop
    case hB =>
      rintro j p M' a' V V' row ⟨M, q, rfl, hi, hMq, hRq, gq, rfl⟩ hg hr
      exact ⟨M, q, rfl, hi.abides hg (fun r e => ⟨fun h => (hr r e).1 (.inl h), (hr r e).2⟩), hMq, hRq, (hg.block q (Array.getElem?_eq_some_iff.1 gq).1 (fun e => (hr q e.symm).1 (.inr rfl))).trans gq, rfl⟩
    case assign =>
      rintro l2 j ⟨i, u⟩ M V K hx hi hV hK
      subst hA
      unfold encW
      obtain ⟨q, hq⟩ : ∃ q, V.heap.size = q := ⟨_, rfl⟩
      obtain ⟨V1, hV1, hbv, gq, hzq⟩ := new1 V (.cells #[.int .i64 (i : Int), .bool u] 157) q hq
      have hMq : ¬ M q := fun h => by have := hi.lt h; omega
      have hKK := hK (fun r => M r ∨ r = q) _ V1 (by rw [← hV1]; exact World.grownBy_alloc _ _ none) (fun r hr => hr.imp id (fun e => by omega)) ⟨M, q, rfl, hi.below (by rw [hq]; exact hbv), hMq, fun h => by rcases h with ⟨q1, _⟩ | q1 | q1 | q1 | q1 <;> omega, gq, rfl⟩
      have HK := hide hKK
      have HV1 := hide hV1
      clear hKK hK hV1 hbv gq
      gi_wp2
      try rw [hq]
      rw [unhide HV1]
      exact unhide HK
    case stop =>
      rintro D c j M V rfl hMD hj hi hK
      exact hi.elim
    case done =>
      rintro D M V rfl hMD hi hK
      subst hA
      obtain ⟨X, hX⟩ : ∃ X, tickX d.bare n s (waysL d.steps.length).length = X := ⟨_, rfl⟩
      have hgx := unhide HGX (waysL d.steps.length).length (by rw [waysL_len, Md.blen]; exact Nat.le_refl _)
      have hst := unhide HST
      rw [show (waysL d.bare.steps.length).length = (waysL d.steps.length).length by rw [Md.blen], hX] at hst
      rw [hX] at hi hgx
      obtain ⟨xS, _⟩ := cell1 hi.bS
      obtain ⟨xN, _⟩ := cell1 hi.bN
      obtain ⟨xP, _⟩ := cell1 hi.bP
      have hon := on_any n V hi.base hgx.1 (by have := hgx.2.2.1; rw [waysL_len] at this; omega)
      rw [← hst] at hon
      have HON := hide hon
      have HI3 := hide hi
      have HMD := hide hMD
      have HDF := hide hK
      clear hon hgx hst hX hi hMD hK
      go_wp2_with (go_at_call 105; refine (unhide HON).mono ?_; rintro e w9 ⟨⟨v9, rfl⟩, hs9⟩; obtain ⟨V9, c9, _⟩ := hs9.out; have HS9 := hide hs9; clear hs9)
      obtain ⟨D, hD⟩ : ∃ D, W5.heap.size = D := ⟨_, rfl⟩
      have hMD := unhide HMD
      have hdf := unhide HDF
      have hs9 := unhide HS9
      rw [hD] at hMD hdf
      have hDV : D < V.heap.size := (Array.getElem?_eq_some_iff.1 hdf).1
      have hd9 := (hs9.kw.same D hMD hDV).trans hdf
      obtain ⟨M', a1, a2⟩ := (unhide HI3).step hs9
      have hD2 : D = P + 1 + 1 := hD.symm.trans hz5
      have a3 := a2.abides (grownBy_putObj' w9 D (.deferred none)) (fun r e => by
        cases e
        refine ⟨fun h => (a1.more D h).elim hMD (by omega), fun h => ?_⟩
        rcases h with ⟨q1, _⟩ | q1 | q1 | q1 | q1 <;> omega)
      obtain ⟨V10, c10, he10⟩ := a3.sa.out
      have hob : ob ≠ D := fun e => by
        obtain ⟨_, _, _, _, _, _, hm⟩ := (unhide HI3).ex
        exact hMD (e ▸ (hm ob).2 (.inr (.inr (.inr (.inl rfl)))))
      have e10 : V10 = V9 := by
        rw [cell_of_block (World.putObj_heap_other hob) 0, c9] at c10
        cases c10
        rfl
      subst e10
      rw [← hD2]
      exact ⟨by simp, .inl ⟨_, _, rfl, run_takeDeferred hd9, _, results_tmp rfl _ _ _, V10, rfl, he10.down (unhide HB1)⟩⟩
    case body =>
      rintro l2 j ⟨i, u⟩ M' a' V hx ⟨M, q, rfl, hi, hMq, hRq, gq, rfl⟩ hV
      subst hA
      obtain ⟨hiN, hju⟩ := waysL_of hx
      have hnx := tickX_next (d := d.bare) (n := n) (s := s) (j := j) (p := (i, u)) (by rw [Md.blen]; exact hx)
      obtain ⟨X, hX⟩ : ∃ X, tickX d.bare n s j = X := ⟨_, rfl⟩
      have hgx := unhide HGX j (by rw [Md.blen]; have := (List.getElem?_eq_some_iff.1 hx).1; rw [waysL_len] at this; omega)
      have hgn := unhide HGX (j + 1) (by rw [Md.blen]; have := (List.getElem?_eq_some_iff.1 hx).1; rw [waysL_len] at this; omega)
      rw [hnx] at hgn
      rw [hX] at hi hnx hgx hgn
      obtain ⟨dn2, un2, v2, k1, k2, k3, hm2⟩ := hi.ex
      obtain ⟨xS, _⟩ := cell1 hi.bS
      obtain ⟨xN, _⟩ := cell1 hi.bN
      obtain ⟨xP, _⟩ := cell1 hi.bP
      obtain ⟨⟨y0, _⟩, ⟨y1, _⟩⟩ := two_cells gq
      obtain ⟨sg, so, hsa, hat⟩ := k1.steps
      have c2 := k1.cells.1.1
      have c4 := k1.cells.2.2.1.1
      rw [hsa] at c2
      obtain ⟨s1, hs1⟩ : ∃ s1, d.steps[i]? = some s1 := ⟨_, List.getElem?_eq_getElem hiN⟩
      obtain ⟨⟨t0, t1, t2, t3⟩, ⟨t4, t5, t6, t7⟩, ⟨t8, t9, t10, t11, t12⟩⟩ := step_cells (hat i s1 hs1)
      obtain ⟨⟨rp, ra, rt, rl⟩, hwr⟩ : ∃ y, X.1.run i u = y := ⟨_, rfl⟩
      have hlk : ∀ W, W.heap[bm]? = V.heap[bm]? → (Instr.lookup 151 (.map (some bm)) (.agg #[.int .i64 (i : Int), .bool u]) false).run Tryz.prog W = .ok (.agg #[.int .u8 (rp : Int), .int .i64 ra, .int .i64 rt, .bool rl]) W := fun W hW => by
        have := (k1.mp.keep hW).look i u
        rw [hwr] at this
        exact this
      have hbl : bm < V.heap.size := k1.mp.lt
      have hok : (⟨rp, ra, rt, rl⟩ : P31.Run).ok := by have := k1.ok i u; rwa [hwr] at this
      have hst2 := fun W => sTick_any ⟨rp, ra, rt, rl⟩ s1 n W ⟨Int.le_trans (by decide) hok.lo, Int.le_trans hok.hi (by decide)⟩
      have hsb : P32.stepAt d.bare i = s1.bare := stepAt_bare d hs1
      obtain ⟨⟨RA, OK⟩, hRA⟩ : ∃ y, P31.tick s1.bare n ⟨rp, ra, rt, rl⟩ = y := ⟨_, rfl⟩
      rw [hRA] at hst2
      have htk : P32.tick1 d.bare n u X i = if OK = true then P32.put i u RA X else X := by unfold P32.tick1; rw [hsb, hwr, hRA]
      simp only at hnx hgn
      rw [htk] at hnx hgn
      unfold runV PSt.val at hst2
      simp only [PSt.aV, Nd.kV, Nd.dV] at hst2 t3 t10 t11
      have hilt : (i : Int) < (d.steps.length : Int) := by omega
      have hsz9 : d.steps.length ≤ 100000 := hN9
      have hj9 : j < 2 * d.steps.length := by have := (List.getElem?_eq_some_iff.1 hx).1; rwa [waysL_len] at this
      have HST2 := hide hst2
      have HNX := hide hnx
      have HGN := hide hgn
      have HGX2 := hide hgx
      have HLK := hide hlk
      have HBM := hide hbl
      have HTK := hide hi
      have HGQ := hide gq
      have HMQ := hide hMq
      have HRQ := hide hRq
      have HIN := hide hiN
      have e107 := enters_of Tryz.func107 (by kernel_rfl) rfl
      clear hst2 hnx hgn hgx hlk hbl hi gq hMq hRq hx hju hX k1 k2 k3 hm2 hat hwr hok hsb hRA htk hiN hs1 hsa
      gi_upto_region 6 with fail
      refine wpIn_region_phaseF hmixed [16, 21] 20 (fun k f aF W => ∃ Bx, aF = { tmps := #[.pointer (some ⟨b, 0, none⟩), .int .i64 n, .pointer (some ⟨H, 0, none⟩), .pointer (some ⟨H + 1, 0, none⟩), .slice none 0 0, .pointer (some ⟨ob, 0, none⟩), .pointer (some ⟨P, 0, none⟩), .pointer (some ⟨q, 0, none⟩), Bx, .bool OK, .pointer (some ⟨b, 0, none⟩), .bool true, .bool false, .tuple #[.pointer (some ⟨ob, 0, none⟩), .func (.func 146) #[] #[.pointer (some ⟨h1, 0, none⟩), .pointer (some ⟨h2, 0, none⟩)]], .pointer (some ⟨b, 0, none⟩), .tuple #[.pointer (some ⟨ob, 0, none⟩), .func (.func 146) #[] #[.pointer (some ⟨h1, 0, none⟩), .pointer (some ⟨h2, 0, none⟩)]], .pointer (some ⟨ob, 0, none⟩), .func (.func 146) #[] #[.pointer (some ⟨h1, 0, none⟩), .pointer (some ⟨h2, 0, none⟩)], .pointer (some ⟨b, 0, none⟩), .func (.func 139) #[] #[.pointer (some ⟨P + 1, 0, none⟩)], .agg #[.int .i64 (i : Int), .bool u], .tuple #[.agg #[.int .u8 (RA.phase : Int), .int .i64 RA.att, .int .i64 RA.til, .bool RA.last], .bool OK], .pointer (some ⟨b, 0, none⟩), .pointer (some ⟨b, 0, none⟩), .pointer (some ⟨b, 4, none⟩), .map (some bm), .agg #[.int .i64 (i : Int), .bool u], .agg #[.int .u8 (rp : Int), .int .i64 ra, .int .i64 rt, .bool rl], .pointer (some ⟨b, 0, none⟩), .pointer (some ⟨b, 0, none⟩), .pointer (some ⟨b, 0, none⟩), .pointer (some ⟨b, 2, none⟩), .slice (some ⟨sg, so, none⟩) d.steps.length d.sc, .pointer (some ⟨q, 0, none⟩), .int .i64 (i : Int), .pointer (some ⟨sg, so + i * 13, none⟩), .agg #[.string ⟨s1.name.toArray⟩, .string ⟨s1.action.toArray⟩, .string ⟨s1.undo.toArray⟩, .slice s1.aa s1.after.length s1.ac, .int .i64 s1.most, .int .i64 s1.first, .int .i64 s1.factor, .int .i64 s1.limit, .int .u8 (s1.note.kind : Int), .string ⟨s1.note.text.toArray⟩, .slice s1.note.ka s1.note.keys.length s1.note.kc, .slice s1.note.da s1.note.kids.length s1.note.dc, .int .i64 s1.note.line], .int .i64 n, .tuple #[.agg #[.int .u8 (RA.phase : Int), .int .i64 RA.att, .int .i64 RA.til, .bool RA.last], .bool OK], .agg #[.int .u8 (RA.phase : Int), .int .i64 RA.att, .int .i64 RA.til, .bool RA.last], .bool OK, undef, undef, undef, undef, undef, undef, undef, undef, undef, undef, undef, undef], defers := [] } ∧ BxPh V.drew RA k f Bx W) (by kernel_rfl) (by kernel_rfl) (by decide) (by decide) (by decide) ⟨undef, rfl, BxPh.start _ _⟩ rfl rfl (same_two 8 2 21 20 (by kernel_rfl) (by kernel_rfl) (by decide) rfl rfl rfl) ?pure ?write ?free ?fin
      case pure =>
        rintro k f aF W ix o ⟨Bx, rfl, hph⟩ ho hni hnf hbe haf hff
        have hbW := hph.1
        have hc := fun g o (h : g < V.heap.size) => cell_of_block (hbW.block g h) o
        have hlW := (unhide HLK) W (hbW.block bm (unhide HBM))
        have v0 := (hc H 0 (cellLt xS)).trans xS
        have v1 := (hc (H + 1) 0 (cellLt xN)).trans xN
        have u0 := (hc q 0 (cellLt y0)).trans y0
        have u1 := (hc q 1 (cellLt y1)).trans y1
        have e2 := (hc b 2 (cellLt c2)).trans c2
        have e4 := (hc b 4 (cellLt c4)).trans c4
        have q0 := (hc sg _ (cellLt t0)).trans t0
        have q1 := (hc sg _ (cellLt t1)).trans t1
        have q2 := (hc sg _ (cellLt t2)).trans t2
        have q3 := (hc sg _ (cellLt t3)).trans t3
        have q4 := (hc sg _ (cellLt t4)).trans t4
        have q5 := (hc sg _ (cellLt t5)).trans t5
        have q6 := (hc sg _ (cellLt t6)).trans t6
        have q7 := (hc sg _ (cellLt t7)).trans t7
        have q8 := (hc sg _ (cellLt t8)).trans t8
        have q9 := (hc sg _ (cellLt t9)).trans t9
        have q10 := (hc sg _ (cellLt t10)).trans t10
        have q11 := (hc sg _ (cellLt t11)).trans t11
        have q12 := (hc sg _ (cellLt t12)).trans t12
        clear hc hbW
        rcases ix with _ | _ | _ | _ | _ | _ | _ | _ | _ | _ | _ | _ | _ | _ | _ | _ | _ | _ | _ | _ | _ | _ | _ | ix
        · have ho' : some _ = some o := ho
          cases ho'
          refine (if_pos (show Region.wanted _ (yielded _ _) = true from rfl)).mpr ?_
          refine ⟨_, _, rfl, rfl, .inl ?_⟩
          go_simp
        · have ho' : some _ = some o := ho
          cases ho'
          refine (if_pos (show Region.wanted _ (yielded _ _) = true from rfl)).mpr ?_
          refine ⟨_, _, rfl, rfl, .inl ?_⟩
          go_simp
        · have ho' : some _ = some o := ho
          cases ho'
          refine (if_pos (show Region.wanted _ (yielded _ _) = true from rfl)).mpr ?_
          refine ⟨_, _, rfl, rfl, .inl ?_⟩
          go_simp
        · have ho' : some _ = some o := ho
          cases ho'
          refine (if_pos (show Region.wanted _ (yielded _ _) = true from rfl)).mpr ?_
          refine ⟨_, _, rfl, rfl, .inl ?_⟩
          go_simp
        · have ho' : some _ = some o := ho
          cases ho'
          refine (if_pos (show Region.wanted _ (yielded _ _) = true from rfl)).mpr ?_
          refine ⟨_, _, rfl, rfl, .inl ?_⟩
          go_simp
        · have ho' : some _ = some o := ho
          cases ho'
          refine (if_pos (show Region.wanted _ (yielded _ _) = true from rfl)).mpr ?_
          refine ⟨_, _, rfl, rfl, .inl ?_⟩
          go_simp
        · have ho' : some _ = some o := ho
          cases ho'
          refine (if_pos (show Region.wanted _ (yielded _ _) = true from rfl)).mpr ?_
          refine ⟨_, _, rfl, rfl, .inl ?_⟩
          go_simp
        · have ho' : some _ = some o := ho
          cases ho'
          refine (if_pos (show Region.wanted _ (yielded _ _) = true from rfl)).mpr ?_
          refine ⟨_, _, rfl, rfl, .inl ?_⟩
          go_simp
        · have ho' : some _ = some o := ho
          cases ho'
          refine (if_pos (show Region.wanted _ (yielded _ _) = true from rfl)).mpr ?_
          refine ⟨_, _, rfl, rfl, .inl ?_⟩
          go_simp
        · have ho' : some _ = some o := ho
          cases ho'
          refine (if_pos (show Region.wanted _ (yielded _ _) = true from rfl)).mpr ?_
          refine ⟨_, _, rfl, rfl, .inl ?_⟩
          go_simp
        · have ho' : some _ = some o := ho
          cases ho'
          refine (if_pos (show Region.wanted _ (yielded _ _) = true from rfl)).mpr ?_
          refine ⟨_, _, rfl, rfl, .inl ?_⟩
          go_simp
        · have ho' : some _ = some o := ho
          cases ho'
          refine (if_pos (show Region.wanted _ (yielded _ _) = true from rfl)).mpr ?_
          refine ⟨_, _, rfl, rfl, .inl ?_⟩
          go_simp
        · have ho' : some _ = some o := ho
          cases ho'
          refine (if_pos (show Region.wanted _ (yielded _ _) = true from rfl)).mpr ?_
          refine ⟨_, _, rfl, rfl, .inl ?_⟩
          go_simp
        · have ho' : some _ = some o := ho
          cases ho'
          refine (if_pos (show Region.wanted _ (yielded _ _) = true from rfl)).mpr ?_
          refine ⟨_, _, rfl, rfl, .inl ?_⟩
          go_simp
        · have ho' : some _ = some o := ho
          cases ho'
          refine (if_pos (show Region.wanted _ (yielded _ _) = true from rfl)).mpr ?_
          refine ⟨_, _, rfl, rfl, .inl ?_⟩
          go_simp
        · have ho' : some _ = some o := ho
          cases ho'
          refine (if_pos (show Region.wanted _ (yielded _ _) = true from rfl)).mpr ?_
          refine ⟨_, _, rfl, rfl, .inl ?_⟩
          go_simp
        · exact absurd (by simp) hni
        · have ho' : some _ = some o := ho
          cases ho'
          refine (if_pos (show Region.wanted _ (yielded _ _) = true from rfl)).mpr ?_
          refine ⟨_, _, rfl, rfl, .inl ?_⟩
          go_simp
        · have ho' : some _ = some o := ho
          cases ho'
          refine (if_pos (show Region.wanted _ (yielded _ _) = true from rfl)).mpr ?_
          refine ⟨_, _, rfl, rfl, .inl ?_⟩
          go_simp
        · have ho' : some _ = some o := ho
          cases ho'
          refine (if_pos (show Region.wanted _ (yielded _ _) = true from rfl)).mpr ?_
          refine ⟨_, _, rfl, rfl, .inl ?_⟩
          go_simp
        · exact absurd rfl hnf
        · exact absurd (by simp) hni
        · have ho' : some _ = some o := ho
          cases ho'
          refine (if_pos (show Region.wanted _ (yielded _ _) = true from rfl)).mpr ?_
          refine ⟨_, _, rfl, rfl, .inl ?_⟩
          go_simp
        · exfalso; simp at ho
      case write =>
        rintro k f aF W ix o ⟨Bx, rfl, hph⟩ hi ho hff
        rcases k with _ | _ | k
        · cases (show some 16 = some ix from hi)
          have ho' : some _ = some o := ho
          cases ho'
          refine ⟨rfl, .inr (.inr ⟨107, #[.agg #[.int .u8 (rp : Int), .int .i64 ra, .int .i64 rt, .bool rl], .agg #[.string ⟨s1.name.toArray⟩, .string ⟨s1.action.toArray⟩, .string ⟨s1.undo.toArray⟩, .slice s1.aa s1.after.length s1.ac, .int .i64 s1.most, .int .i64 s1.first, .int .i64 s1.factor, .int .i64 s1.limit, .int .u8 (s1.note.kind : Int), .string ⟨s1.note.text.toArray⟩, .slice s1.note.ka s1.note.keys.length s1.note.kc, .slice s1.note.da s1.note.kids.length s1.note.dc, .int .i64 s1.note.line], .int .i64 n], W, ?_, ?_⟩)⟩
          · simp [execOp, resolve, invoke, Act.eval, e107, Result.andThen, Deferred.ofValue]
          · refine (unhide HST2 W).mono ?_
            rintro e w4 ⟨rfl, b4⟩
            exact ⟨_, rfl, ⟨Bx, rfl, hph.call b4⟩⟩
        · cases (show some 21 = some ix from hi)
          have ho' : some _ = some o := ho
          cases ho'
          have hf : f = true := hff (by kernel_rfl)
          subst hf
          obtain ⟨p, rfl, hp1, hp2⟩ := hph.2 rfl
          have hp3 : RunB W p P31.Run.zero := hp2
          obtain ⟨⟨z0, f0⟩, ⟨z1, f1⟩, ⟨z2, f2⟩, ⟨z3, f3⟩⟩ := hp3.cells
          refine ⟨rfl, .inr (.inl ⟨_, ?_, ⟨_, rfl, hph.store⟩⟩)⟩
          go_simp
        · simp at hi
      case free =>
        rintro k aF W o ⟨Bx, rfl, hph⟩ ho hbe
        have ho' : some _ = some o := ho
        cases ho'
        have hk : k ≤ 1 := hbe 1 21 rfl (by kernel_rfl)
        refine ⟨rfl, .inl ⟨_, _, ?_, ⟨_, rfl, hph.alloc hk⟩⟩⟩
        go_simp
      case fin =>
        rintro k aF W6 hk ⟨Bx, rfl, hph⟩
        obtain ⟨k, rfl⟩ : ∃ k', k = k' + 2 := ⟨k - 2, by simp at hk; omega⟩
        obtain ⟨p, rfl, hp1, hp2⟩ := hph.2 rfl
        have hp3 : RunB W6 p RA := by rw [if_neg (by omega)] at hp2; exact hp2
        have hb6 : Below V.heap.size V W6 := ((Below.refl _ _).drew).trans hph.1
        have hi6 := (unhide HTK).below hb6
        have hk6 : KeepsM (fun r => M r ∨ r = q) V M W6 := ⟨hb6.size, fun r _ hl => hb6.block r hl, fun r h => .inl (.inl h)⟩
        clear hph hp2 xS xN xP y0 y1 c2 c4 t0 t1 t2 t3 t4 t5 t6 t7 t8 t9 t10 t11 t12
        cases OK with
        | false =>
          have hfin : ∃ M', KeepsM (fun r => M r ∨ r = q) V M' W6 ∧ TkI W1 (Mb b bm dn un) b bm rb C h1 h2 ob H P (P + 1) n vs d (tickX d.bare n s (j + 1)) (M') W6 := ⟨M, hk6, by rw [unhide HNX, if_neg (by simp)]; exact hi6⟩
          have HF := hide hfin
          clear hfin hi6 hk6 hb6 hp3
          gi_wp2
          exact unhide HF
        | true =>
          obtain ⟨⟨u0, _⟩, ⟨u1, _⟩⟩ := two_cells ((hb6.block q (Array.getElem?_eq_some_iff.1 (unhide HGQ)).1).trans (unhide HGQ))
          obtain ⟨⟨v0, _⟩, ⟨v1, _⟩, ⟨v2, _⟩, ⟨v3, _⟩⟩ := RunB.cells hp3
          obtain ⟨xP, _⟩ := cell1 hi6.bP
          have hgn := unhide HGN
          rw [if_pos rfl] at hgn
          have hpu := put_any i u RA W6 hi6.base (unhide HIN) (by have := hgn.1.inv.ok i u; rw [show (P32.put i u RA X).1.run i u = RA from P32.setR_self _ _ _ _] at this; exact this) hgn.1.inv (by have := (unhide HGX2).2.2.1; omega)
          unfold runV at hpu
          have HPU := hide hpu
          have HI6 := hide hi6
          have HK6 := hide hk6
          have he := enter146
          clear hpu hgn hi6 hk6 hb6 hp3
          gi_wp2
          refine ⟨trivial, (CallsIn.inRound l2 (callsIn_wide.2 (unhide HPU))).mono ?_⟩
          rintro e w8 ⟨⟨v8, rfl⟩, hs8⟩
          have hfin : ∃ M', KeepsM (fun r => M r ∨ r = q) V M' w8 ∧ TkI W1 (Mb b bm dn un) b bm rb C h1 h2 ob H P (P + 1) n vs d (tickX d.bare n s (j + 1)) (M') w8 := by
            obtain ⟨M', a1, a2⟩ := (unhide HI6).step hs8
            exact ⟨M', (unhide HK6).trans a1, by rw [unhide HNX, if_pos (by simp)]; exact a2⟩
          have HF := hide hfin
          clear hfin hs8
          gi_wp2
          exact unhide HF
end Go.Proofs.YtefokfbgpfcbkaaGreat
