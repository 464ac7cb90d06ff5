/- Lemmas of this claim (a part of its texts, kept as far as the claim reaches them). -/
import Derived.Test.YtefokfbgpfcbkaaGreatS32uZ
namespace Go.Proofs.YtefokfbgpfcbkaaGreat
set_option linter.unusedVariables false
set_option linter.unusedSimpArgs false
open Go.RowKit
theorem SgE.up {V V1 V' : World} {b : Nat} {D : P22.Def} {x : P32.S × List P32.Order} {M R : Nat → Prop} {v : Value} (h : SgE b D x M R V1 v V') (hb : Below V.heap.size V V1) : SgE b D x M R V v V' := by
  obtain ⟨h1, M', h2, h3, h4, h5⟩ := h
  have hz := hb.size
  exact ⟨h1, M', h2, (KW.of hb (Nat.le_refl _)).trans h3, fun g hg => (h4 g hg).imp id (fun e => by omega), h5⟩
def askC (a : P32.Ask) : List Value := [.int .u8 (a.kind : Int), .int .i64 a.a.step, .int .i64 a.a.attempt, .bool a.a.undo, .int .u8 (a.a.outcome : Int), .int .i64 a.now, .int .u8 (a.pos : Int)]
theorem pick_no {D : P22.Def} {s : P32.S} {a : P32.Ask} (h : a.kind ≠ 4 ∨ P32.open_ D s = []) : P32.pick D s a = a.a := by
  unfold P32.pick
  by_cases h4 : a.kind = 4
  · rw [if_pos h4]
    rcases h with h | h
    · exact absurd h4 h
    · rw [h]; rfl
  · rw [if_neg h4]
theorem pick_yes {D : P22.Def} {s : P32.S} {a : P32.Ask} {o : P32.Order} (h : a.kind = 4) (ho : (P32.open_ D s)[a.pos % (P32.open_ D s).length]? = some o) : P32.pick D s a = ⟨(o.step : Int), o.att, o.undo, a.a.outcome⟩ := by
  unfold P32.pick
  rw [if_pos h, ho]
set_option maxRecDepth 100000 in
set_option maxHeartbeats 8000000 in
theorem give_any {b : Nat} {D : P22.Def} {s : P32.S} {M R : Nat → Prop} {V : World} (a : P32.Ask) (hp : a.pos < 256) (h : SgY b D s M R V) :
    Calls Tryz.prog 60 #[.pointer (some ⟨b, 0, none⟩), .agg #[.int .u8 (a.kind : Int), .int .i64 a.a.step, .int .i64 a.a.attempt, .bool a.a.undo, .int .u8 (a.a.outcome : Int), .int .i64 a.now, .int .u8 (a.pos : Int)]] V fun e V' => ∃ v, e = .returned v ∧ SgE b D (P32.give D s a) M R V v V' := by
  obtain ⟨H, hH⟩ : ∃ H, V.heap.size = H := ⟨_, rfl⟩
  obtain ⟨k, ⟨si, aa, au, ao⟩, n, ps⟩ := a
  have hyes := fun o => pick_yes (D := D) (s := s) (a := ⟨k, ⟨si, aa, au, ao⟩, n, ps⟩) (o := o)
  have hno := pick_no (D := D) (s := s) (a := ⟨k, ⟨si, aa, au, ao⟩, n, ps⟩)
  have hgv : P32.give D s ⟨k, ⟨si, aa, au, ao⟩, n, ps⟩ = if k = 0 ∨ k = 4 then (P32.answer D n (P32.pick D s ⟨k, ⟨si, aa, au, ao⟩, n, ps⟩) s).1 else if k = 1 then P32.tick D n s else if k = 2 then (P32.cancel D n s).1 else P32.start D n s := rfl
  simp only at hyes hno hp
  obtain ⟨W1, hW1, hb1, g0, hz1⟩ := new1 V (.cells #[.int .u8 (k : Int), .int .i64 si, .int .i64 aa, .bool au, .int .u8 (ao : Int), .int .i64 n, .int .u8 (ps : Int)] 103) H hH
  obtain ⟨W2, hW2, hb2, g1, hz2⟩ := new1 W1 (.cells #[.int .i64 si, .int .i64 aa, .bool au, .int .u8 (ao : Int)] 37) (H + 1) hz1
  have g02 := (hb2.block H (by omega)).trans g0
  have hb02 : Below H V W2 := hb1.trans (hb2.mono (by omega))
  have h2 := h.below (by rw [hH]; exact hb02)
  have hop := h2.opens
  obtain ⟨OL, hOL⟩ : ∃ l, P32.open_ D s = l := ⟨_, rfl⟩
  rw [hOL] at hyes hno hop
  obtain ⟨L, hL⟩ : ∃ L, OL.length = L := ⟨_, rfl⟩
  have hcellH : ∀ j v, ([.int .u8 (k : Int), .int .i64 si, .int .i64 aa, .bool au, .int .u8 (ao : Int), .int .i64 n, .int .u8 (ps : Int)] : List Value)[j]? = some v → ∀ W : World, W.heap[H]? = W2.heap[H]? → W.cell? ⟨H, j, none⟩ = some v := fun j v hj W hW => by
    rw [World.cell?, hW, g02]
    simpa using hj
  have hans : ∀ W : World, Below W2.heap.size W2 W → W.heap[H + 1]? = some (.cells #[.int .i64 si, .int .i64 aa, .bool au, .int .u8 (ao : Int)] 37) := fun W hW => (hW.block _ (by omega)).trans g1
  have hbk : ∀ W : World, Below W2.heap.size W2 W → W.heap[H]? = W2.heap[H]? := fun W hW => hW.block _ (by omega)
  have hev : ∀ W : World, Below H V W → SgY b D s M R W := fun W hW => h.below (by rw [hH]; exact hW)
  have hW2s : H + 1 + 1 ≤ W2.heap.size := by omega
  have hcell1 : ∀ j v, ([.int .u8 (k : Int), .int .i64 si, .int .i64 aa, .bool au, .int .u8 (ao : Int), .int .i64 n, .int .u8 (ps : Int)] : List Value)[j]? = some v → W1.cell? ⟨H, j, none⟩ = some v := fun j v hj => by
    rw [World.cell?, g0]
    simpa using hj
  have i1 := hcell1 1 _ rfl
  have i2 := hcell1 2 _ rfl
  have i3 := hcell1 3 _ rfl
  have i4 := hcell1 4 _ rfl
  have hopL : Calls Tryz.prog 56 #[.pointer (some ⟨b, 0, none⟩)] W2 fun e V' => ∃ oa oc, e = .returned (.slice oa L oc) ∧ L ≤ oc ∧ InOr V' oa OL ∧ Below W2.heap.size W2 V' := by
    refine hop.mono ?_
    rintro e V' ⟨v, rfl, ⟨oa, oc, rfl, q1, q2⟩, q3⟩
    rw [hL] at q1 ⊢
    exact ⟨oa, oc, rfl, q1, q2, q3⟩
  have HOP := hide hopL
  have HW1 := hide hW1
  have HW2 := hide hW2
  have HCH := hide hcellH
  have HAN := hide hans
  have HBK := hide hbk
  have HEV := hide hev
  have HB2 := hide hb02
  have HGV := hide hgv
  have HYES := hide hyes
  have HNO := hide hno
  have HL := hide hL
  clear hW1 hW2 hcellH hans hbk hev hb02 hgv hyes hno hL hop hopL g0 g1 g02 hb1 hb2 h h2 hOL hcell1
  by_cases h4 : k = 4
  · have p0 : ((k : Int) == 0) = false := by simp; omega
    have p4 : ((k : Int) == 4) = true := by simp; omega
    have H4 := hide h4
    by_cases hl : L = 0
    · have hol : OL = [] := List.eq_nil_of_length_eq_zero ((unhide HL).trans hl)
      have pk := unhide HNO (.inr hol)
      have HPK := hide pk
      have l1 : (L : Int) ≤ 0 := by omega
      have l2 : decide ((L : Int) > 0) = false := by simp; omega
      clear h4 hl hol pk
      go_enter Tryz.func60, Tryz.ntmps60
      go_upto_region 1 with fail
      try rw [hH]
      rw [unhide HW1]
      go_upto_region 2 with fail
      try rw [hz1]
      rw [unhide HW2]
      clear i1 i2 i3 i4
      go_upto_region 3 with (go_at_call 56; refine (unhide HOP).mono ?_; rintro e V3 ⟨oa, oc, rfl, hoc, hin, hb3⟩; have x0 := unhide HCH 0 _ rfl _ (unhide HBK V3 hb3); have x1 := unhide HCH 1 _ rfl _ (unhide HBK V3 hb3); have x2 := unhide HCH 2 _ rfl _ (unhide HBK V3 hb3); have x3 := unhide HCH 3 _ rfl _ (unhide HBK V3 hb3); have x4 := unhide HCH 4 _ rfl _ (unhide HBK V3 hb3); have x5 := unhide HCH 5 _ rfl _ (unhide HBK V3 hb3); have x6 := unhide HCH 6 _ rfl _ (unhide HBK V3 hb3); obtain ⟨⟨y0, _⟩, ⟨y1, _⟩, ⟨y2, _⟩, ⟨y3, _⟩⟩ := cell4 (unhide HAN V3 hb3); have HB3 := hide hb3; have HIN := hide hin; clear hb3 hin)
      have hb3' : Below H V V3 := (unhide HB2).trans ((unhide HB3).mono (by omega))
      have HB3' := hide hb3'
      clear hb3'
      have HC := hide ((unhide HEV V3 (unhide HB3')).answer n ⟨si, aa, au, ao⟩)
      go_wp2_with (go_at_call 61; refine (unhide HC).mono ?_; rintro e V4 ⟨v4, rfl, h4⟩; have HE := hide h4; clear h4)
      go_ret
      refine ⟨v4, rfl, ?_⟩
      rw [unhide HGV, if_pos (.inr (unhide H4)), unhide HPK]
      exact (unhide HE).up (by rw [hH]; exact unhide HB3')
    · have l1 : (0 : Int) < (L : Int) := by omega
      have l2 : decide ((L : Int) > 0) = true := by simp; omega
      obtain ⟨J, hJ⟩ : ∃ J, ps % L = J := ⟨_, rfl⟩
      have hJL : J < L := by rw [← hJ]; exact Nat.mod_lt _ (by omega)
      have hJi : (J : Int) < (L : Int) := by omega
      obtain ⟨o, ho⟩ := nth_of (unhide HL) hJL
      have pk := unhide HYES o h4 (by rw [unhide HL, hJ]; exact ho)
      have hJ1 : (ps : Int).tmod (L : Int) = (J : Int) := by rw [Int.tmod_eq_emod_of_nonneg (by omega)]; omega
      have hJ2 : (ps : Int) % (L : Int) = (J : Int) := by omega
      have hw : IntKind.i64.wrap (ps : Int) = (ps : Int) := IntWalk.i64_in _ (by omega)
      have HPK := hide pk
      have HO := hide ho
      clear h4 hl pk ho hJ
      go_enter Tryz.func60, Tryz.ntmps60
      go_upto_region 1 with fail
      try rw [hH]
      rw [unhide HW1]
      go_upto_region 2 with fail
      try rw [hz1]
      rw [unhide HW2]
      clear i1 i2 i3 i4
      go_upto_region 3 with (go_at_call 56; refine (unhide HOP).mono ?_; rintro e V3 ⟨oa, oc, rfl, hoc, hin, hb3⟩; have x0 := unhide HCH 0 _ rfl _ (unhide HBK V3 hb3); have x1 := unhide HCH 1 _ rfl _ (unhide HBK V3 hb3); have x2 := unhide HCH 2 _ rfl _ (unhide HBK V3 hb3); have x3 := unhide HCH 3 _ rfl _ (unhide HBK V3 hb3); have x4 := unhide HCH 4 _ rfl _ (unhide HBK V3 hb3); have x5 := unhide HCH 5 _ rfl _ (unhide HBK V3 hb3); have x6 := unhide HCH 6 _ rfl _ (unhide HBK V3 hb3); obtain ⟨⟨y0, _⟩, ⟨y1, _⟩, ⟨y2, _⟩, ⟨y3, _⟩⟩ := cell4 (unhide HAN V3 hb3); have HB3 := hide hb3; have HIN := hide hin; clear hb3 hin)
      have hb3' : Below H V V3 := (unhide HB2).trans ((unhide HB3).mono (by omega))
      have HB3' := hide hb3'
      clear hb3'
      obtain ⟨g, q, rfl, o0, o1, o2, o3⟩ := unhide HIN J o (unhide HO)
      obtain ⟨W5, hW5, hb5, g5, hz5⟩ := new1 V3 (.cells #[.int .i64 (o.step : Int), .int .i64 o.att, .bool o.undo, .int .i64 o.til] 35) V3.heap.size rfl
      have HW5 := hide hW5
      have hz3 := (unhide HB3').size
      have hz32 := (unhide HB3).size
      have hbH := (hb5.block H (by omega)).trans (unhide HBK V3 (unhide HB3))
      have hbA := (hb5.block (H + 1) (by omega)).trans (unhide HAN V3 (unhide HB3))
      have w0 := unhide HCH 0 _ rfl _ hbH
      have w4 := unhide HCH 4 _ rfl _ hbH
      have w5 := unhide HCH 5 _ rfl _ hbH
      obtain ⟨⟨z0, f0⟩, ⟨z1, f1⟩, ⟨z2, f2⟩, ⟨z3, f3⟩⟩ := cell4 hbA
      obtain ⟨⟨v0, _⟩, ⟨v1, _⟩, ⟨v2, _⟩, ⟨v3, _⟩⟩ := cell4 g5
      have hb55 : Below H V W5 := (unhide HB3').trans (hb5.mono (by omega))
      have HB55 := hide hb55
      have HBA := hide hbA
      have HBH := hide hbH
      clear hW5 hb5 g5 hbH hbA hb55
      go_upto_region 5 with fail
      rw [unhide HW5]
      go_upto_region 6 with fail
      obtain ⟨W6, hW6⟩ : ∃ Z, ((((W5.setCell ⟨H + 1, 0, none⟩ (.int .i64 (o.step : Int))).setCell ⟨H + 1, 1, none⟩ (.int .i64 o.att)).setCell ⟨H + 1, 2, none⟩ (.bool o.undo)).setCell ⟨H + 1, 3, none⟩ (.int .u8 (ao : Int))) = Z := ⟨_, rfl⟩
      rw [hW6]
      have g6 : W6.heap[H + 1]? = some (.cells #[.int .i64 (o.step : Int), .int .i64 o.att, .bool o.undo, .int .u8 (ao : Int)] 37) := by rw [← hW6]; exact (R2.put4 (R2.put4 (R2.put4 (R2.put4 (unhide HBA) _).1 _).2.1 _).2.2.1 _).2.2.2
      have hb6 : Below H V W6 := by rw [← hW6]; exact Below.set4 (unhide HB55) (by omega) _ _ _ _
      have hbH6 : W6.heap[H]? = W2.heap[H]? := by
        have hq := fun (Z : World) (j : Nat) (v : Value) => Below.heap_setCell Z ⟨H + 1, j, none⟩ v H (by show H ≠ H + 1; omega)
        rw [← hW6, hq, hq, hq, hq]
        exact unhide HBH
      have hC := (unhide HEV W6 hb6).answer n ⟨(o.step : Int), o.att, o.undo, ao⟩
      have r0 := unhide HCH 0 _ rfl _ hbH6
      have r5 := unhide HCH 5 _ rfl _ hbH6
      clear w0 w4 w5 z0 z1 z2 z3 f0 f1 f2 f3 v0 v1 v2 v3
      obtain ⟨⟨z0, _⟩, ⟨z1, _⟩, ⟨z2, _⟩, ⟨z3, _⟩⟩ := cell4 g6
      have HC := hide hC
      have HB6 := hide hb6
      clear hW6 g6 hb6 hbH6 hC
      go_wp2_with (go_at_call 61; refine (unhide HC).mono ?_; rintro e V4 ⟨v4, rfl, h4⟩; have HE := hide h4; clear h4)
      go_ret
      refine ⟨v4, rfl, ?_⟩
      rw [unhide HGV, if_pos (.inr (unhide H4)), unhide HPK]
      exact (unhide HE).up (by rw [hH]; exact unhide HB6)
  · have p4 : ((k : Int) == 4) = false := by simp; omega
    have pk := unhide HNO (.inl h4)
    have HPK := hide pk
    clear pk
    by_cases h0 : k = 0
    · have p0 : ((k : Int) == 0) = true := by simp; omega
      have H0 := hide h0
      clear h0 h4
      go_enter Tryz.func60, Tryz.ntmps60
      go_upto_region 1 with fail
      try rw [hH]
      rw [unhide HW1]
      go_upto_region 2 with fail
      try rw [hz1]
      rw [unhide HW2]
      clear i1 i2 i3 i4
      go_upto_region 3 with (go_at_call 56; refine (unhide HOP).mono ?_; rintro e V3 ⟨oa, oc, rfl, hoc, hin, hb3⟩; have x0 := unhide HCH 0 _ rfl _ (unhide HBK V3 hb3); have x1 := unhide HCH 1 _ rfl _ (unhide HBK V3 hb3); have x2 := unhide HCH 2 _ rfl _ (unhide HBK V3 hb3); have x3 := unhide HCH 3 _ rfl _ (unhide HBK V3 hb3); have x4 := unhide HCH 4 _ rfl _ (unhide HBK V3 hb3); have x5 := unhide HCH 5 _ rfl _ (unhide HBK V3 hb3); have x6 := unhide HCH 6 _ rfl _ (unhide HBK V3 hb3); obtain ⟨⟨y0, _⟩, ⟨y1, _⟩, ⟨y2, _⟩, ⟨y3, _⟩⟩ := cell4 (unhide HAN V3 hb3); have HB3 := hide hb3; have HIN := hide hin; clear hb3 hin)
      have hb3' : Below H V V3 := (unhide HB2).trans ((unhide HB3).mono (by omega))
      have HB3' := hide hb3'
      clear hb3'
      have HC := hide ((unhide HEV V3 (unhide HB3')).answer n ⟨si, aa, au, ao⟩)
      go_wp2_with (go_at_call 61; refine (unhide HC).mono ?_; rintro e V4 ⟨v4, rfl, h4⟩; have HE := hide h4; clear h4)
      go_ret
      refine ⟨v4, rfl, ?_⟩
      rw [unhide HGV, if_pos (.inl (unhide H0)), unhide HPK]
      exact (unhide HE).up (by rw [hH]; exact unhide HB3')
    · have p0 : ((k : Int) == 0) = false := by simp; omega
      have H04 := hide (show ¬ (k = 0 ∨ k = 4) by omega)
      by_cases h1 : k = 1
      · have p1 : ((k : Int) == 1) = true := by simp; omega
        have H1 := hide h1
        clear h0 h4 h1
        go_enter Tryz.func60, Tryz.ntmps60
        go_upto_region 1 with fail
        try rw [hH]
        rw [unhide HW1]
        go_upto_region 2 with fail
        try rw [hz1]
        rw [unhide HW2]
        clear i1 i2 i3 i4
        go_upto_region 3 with (go_at_call 56; refine (unhide HOP).mono ?_; rintro e V3 ⟨oa, oc, rfl, hoc, hin, hb3⟩; have x0 := unhide HCH 0 _ rfl _ (unhide HBK V3 hb3); have x1 := unhide HCH 1 _ rfl _ (unhide HBK V3 hb3); have x2 := unhide HCH 2 _ rfl _ (unhide HBK V3 hb3); have x3 := unhide HCH 3 _ rfl _ (unhide HBK V3 hb3); have x4 := unhide HCH 4 _ rfl _ (unhide HBK V3 hb3); have x5 := unhide HCH 5 _ rfl _ (unhide HBK V3 hb3); have x6 := unhide HCH 6 _ rfl _ (unhide HBK V3 hb3); obtain ⟨⟨y0, _⟩, ⟨y1, _⟩, ⟨y2, _⟩, ⟨y3, _⟩⟩ := cell4 (unhide HAN V3 hb3); have HB3 := hide hb3; have HIN := hide hin; clear hb3 hin)
        have hb3' : Below H V V3 := (unhide HB2).trans ((unhide HB3).mono (by omega))
        have HB3' := hide hb3'
        clear hb3'
        have HC := hide ((unhide HEV V3 (unhide HB3')).tick n)
        go_wp2_with (go_at_call 63; refine (unhide HC).mono ?_; rintro e V4 ⟨v4, rfl, h4⟩; have HE := hide h4; clear h4)
        go_ret
        refine ⟨v4, rfl, ?_⟩
        rw [unhide HGV, if_neg (unhide H04), if_pos (unhide H1)]
        exact (unhide HE).up (by rw [hH]; exact unhide HB3')
      · have p1 : ((k : Int) == 1) = false := by simp; omega
        have H1 := hide h1
        by_cases h2 : k = 2
        · have p2 : ((k : Int) == 2) = true := by simp; omega
          have H2 := hide h2
          clear h0 h4 h1 h2
          go_enter Tryz.func60, Tryz.ntmps60
          go_upto_region 1 with fail
          try rw [hH]
          rw [unhide HW1]
          go_upto_region 2 with fail
          try rw [hz1]
          rw [unhide HW2]
          clear i1 i2 i3 i4
          go_upto_region 3 with (go_at_call 56; refine (unhide HOP).mono ?_; rintro e V3 ⟨oa, oc, rfl, hoc, hin, hb3⟩; have x0 := unhide HCH 0 _ rfl _ (unhide HBK V3 hb3); have x1 := unhide HCH 1 _ rfl _ (unhide HBK V3 hb3); have x2 := unhide HCH 2 _ rfl _ (unhide HBK V3 hb3); have x3 := unhide HCH 3 _ rfl _ (unhide HBK V3 hb3); have x4 := unhide HCH 4 _ rfl _ (unhide HBK V3 hb3); have x5 := unhide HCH 5 _ rfl _ (unhide HBK V3 hb3); have x6 := unhide HCH 6 _ rfl _ (unhide HBK V3 hb3); obtain ⟨⟨y0, _⟩, ⟨y1, _⟩, ⟨y2, _⟩, ⟨y3, _⟩⟩ := cell4 (unhide HAN V3 hb3); have HB3 := hide hb3; have HIN := hide hin; clear hb3 hin)
          have hb3' : Below H V V3 := (unhide HB2).trans ((unhide HB3).mono (by omega))
          have HB3' := hide hb3'
          clear hb3'
          have HC := hide ((unhide HEV V3 (unhide HB3')).cancel n)
          go_wp2_with (go_at_call 62; refine (unhide HC).mono ?_; rintro e V4 ⟨v4, rfl, h4⟩; have HE := hide h4; clear h4)
          go_ret
          refine ⟨v4, rfl, ?_⟩
          rw [unhide HGV, if_neg (unhide H04), if_neg (unhide H1), if_pos (unhide H2)]
          exact (unhide HE).up (by rw [hH]; exact unhide HB3')
        · have p2 : ((k : Int) == 2) = false := by simp; omega
          have H2 := hide h2
          clear h0 h4 h1 h2
          go_enter Tryz.func60, Tryz.ntmps60
          go_upto_region 1 with fail
          try rw [hH]
          rw [unhide HW1]
          go_upto_region 2 with fail
          try rw [hz1]
          rw [unhide HW2]
          clear i1 i2 i3 i4
          go_upto_region 3 with (go_at_call 56; refine (unhide HOP).mono ?_; rintro e V3 ⟨oa, oc, rfl, hoc, hin, hb3⟩; have x0 := unhide HCH 0 _ rfl _ (unhide HBK V3 hb3); have x1 := unhide HCH 1 _ rfl _ (unhide HBK V3 hb3); have x2 := unhide HCH 2 _ rfl _ (unhide HBK V3 hb3); have x3 := unhide HCH 3 _ rfl _ (unhide HBK V3 hb3); have x4 := unhide HCH 4 _ rfl _ (unhide HBK V3 hb3); have x5 := unhide HCH 5 _ rfl _ (unhide HBK V3 hb3); have x6 := unhide HCH 6 _ rfl _ (unhide HBK V3 hb3); obtain ⟨⟨y0, _⟩, ⟨y1, _⟩, ⟨y2, _⟩, ⟨y3, _⟩⟩ := cell4 (unhide HAN V3 hb3); have HB3 := hide hb3; have HIN := hide hin; clear hb3 hin)
          have hb3' : Below H V V3 := (unhide HB2).trans ((unhide HB3).mono (by omega))
          have HB3' := hide hb3'
          clear hb3'
          have HC := hide ((unhide HEV V3 (unhide HB3')).start n)
          go_wp2_with (go_at_call 64; refine (unhide HC).mono ?_; rintro e V4 ⟨v4, rfl, h4⟩; have HE := hide h4; clear h4)
          go_ret
          refine ⟨v4, rfl, ?_⟩
          rw [unhide HGV, if_neg (unhide H04), if_neg (unhide H1), if_neg (unhide H2)]
          exact (unhide HE).up (by rw [hH]; exact unhide HB3')
end Go.Proofs.YtefokfbgpfcbkaaGreat
namespace Go.Proofs.YtefokfbgpfcbkaaGreat
set_option linter.unusedVariables false
set_option linter.unusedSimpArgs false
open Go.RowKit
structure Ask32 where
  a : P32.Ask
  lt : a.pos < 256
instance : Inhabited Ask32 := ⟨⟨⟨0, ⟨0, 0, false, 0⟩, 0, 0⟩, by decide⟩⟩
def Ask32.cs (z : Ask32) : List Value := askC z.a
theorem nat8lt {n : Int} (h : (Lit.int .u8 n).wf = true) : ∃ m : Nat, n = (m : Int) ∧ m < 256 := by
  simp only [Lit.wf, Bool.and_eq_true, decide_eq_true_eq] at h
  have h1 : (0 : Int) ≤ n := h.1
  have h2 : n ≤ 255 := h.2
  exact ⟨n.toNat, by omega, by omega⟩
set_option maxRecDepth 100000 in
theorem openAsk32 {H : Type} {enc : TypeId × Value → H} {W : World} {fuel : Nat} {cs : List Value} {x : DataW H × List MemPlace} (h : DataW.trod enc Tryz.prog W 0 (fun _ => true) true fuel 103 cs = some x) : ∃ z : Ask32, cs = z.cs := by
  obtain ⟨xs, n, hfu, _, hl, hlen, hf⟩ := DataW.trod_struct Tryz.underlying103 h
  have hc : Tryz.prog.cellsOf 103 = 7 := by kernel_rfl
  have hca : Tryz.prog.cellsOf 37 = 4 := by kernel_rfl
  have hcl : Tryz.prog.cellsOf 5 = 1 := by kernel_rfl
  have hc6 : Tryz.prog.cellsOf 2 = 1 := by kernel_rfl
  rw [hc] at hl
  match cs, hl with
  | [c0, c1, c2, c3, c4, c5, c6], _ =>
    match xs, hlen with
    | [y0, y1, y2, y3], _ =>
      have g0 := hf 0 _ rfl
      have g1 := hf 1 _ rfl
      have g2 := hf 2 _ rfl
      have g3 := hf 3 _ rfl
      simp only [hca, hcl, hc6, List.drop_zero, List.drop_succ_cons, List.take_succ_cons, List.take_zero, List.getElem?_cons_zero, List.getElem?_cons_succ] at g0 g1 g2 g3
      obtain ⟨n0, e0, w0⟩ := DataW.trod_int Tryz.underlying5 g0
      obtain ⟨as_, aa, au, ao, e1⟩ := openAnswer g1
      obtain ⟨n2, e2, _⟩ := DataW.trod_int Tryz.underlying2 g2
      obtain ⟨n3, e3, w3⟩ := DataW.trod_int Tryz.underlying5 g3
      cases e0
      cases e1
      cases e2
      cases e3
      obtain ⟨m0, rfl⟩ := nat8 w0.2
      obtain ⟨m3, rfl, hm⟩ := nat8lt w3.2
      exact ⟨⟨⟨m0, ⟨as_, aa, au, ao⟩, n2, m3⟩, hm⟩, rfl⟩
def Asks32 (W : World) (v : Value) : Prop := ∃ (ad : Option Addr) (l : List Ask32) (cap : Nat), v = .slice ad l.length cap ∧ InR W 7 Ask32.cs ad l ∧ l.length ≤ maxLen
set_option maxRecDepth 100000 in
theorem openAsks32 {H : Type} {enc : TypeId × Value → H} {W : World} {r : Reach} {b0 : Nat} {v : Value} {d : DataW H} {ps : List MemPlace} (hval : Value.okWide Tryz.prog W r b0 95 v)
    (hd : DataW.Trod enc Tryz.prog W 0 (fun _ => true) true 95 v d ps) : Asks32 W v :=
  openRowR (k := 7) (csOf := Ask32.cs) (by decide) (fun z => rfl) Tryz.underlying95 (by kernel_rfl) (by kernel_rfl) (fun h => openAsk32 h) hval hd
end Go.Proofs.YtefokfbgpfcbkaaGreat
namespace Go.Proofs.YtefokfbgpfcbkaaGreat
set_option linter.unusedVariables false
set_option linter.unusedSimpArgs false
open Go.RowKit
theorem cloneI_new (v : Value) (zs : List Int) (w : World) (h : Iv w v zs) (hl : zs.length ≤ 1000000) : Calls Tryz.prog 78 #[v] w fun e w' => ∃ v', e = .returned v' ∧ Iv w' v' zs ∧ Below w.heap.size w w' ∧ ∀ g, v'.ownBlock = some g → w.heap.size ≤ g := by
  obtain ⟨a, c, rfl, _, hc⟩ := h
  match zs, hl, hc with
  | [], hl, hc =>
    cases a with
    | none =>
      refine (Tryz.slices_Clone_int_nil 0 c w).mono ?_
      rintro e w' ⟨rfl, rfl⟩
      exact ⟨_, rfl, ⟨none, 0, rfl, ⟨Nat.le_refl _, Nat.zero_le _⟩, fun j z hj => by simp at hj⟩, Below.refl _ _, fun g hg => by cases hg⟩
    | some a =>
      refine (Tryz.slices_Clone_int_zero a c w).mono ?_
      rintro e w' ⟨v', rfl, hr, _, hb⟩
      exact ⟨v', rfl, .of_row (zs := []) hr, hb, fun g hg => (hr.lt g hg).1⟩
  | z :: zs, hl, hc =>
    obtain ⟨b, o, rfl, _⟩ := hc 0 z rfl
    refine (Tryz.slices_Clone_int b o (z :: zs).length c (z :: zs) w (Nat.le_refl _) (by omega) (fun j hj => ?_)).mono ?_
    · obtain ⟨b', o', e, h1⟩ := hc j _ (List.getElem?_eq_getElem hj)
      cases e
      rw [h1]
      simp [List.getD_eq_getElem?_getD, List.getElem?_eq_getElem hj]
    · rintro e w' ⟨v', rfl, hr, _, hb⟩
      rw [List.take_length] at hr
      exact ⟨v', rfl, .of_row hr, hb, fun g hg => (hr.lt g hg).1⟩
set_option maxRecDepth 100000 in
theorem SDone_new (b bm : Nat) (v : Value) (zs : List Int) (w : World) (h : w.cell? ⟨b, 4, none⟩ = some (.map (some bm))) (hb : w.cell? ⟨b, 5, none⟩ = some v) (hv : Iv w v zs) (hl : zs.length ≤ 1000000) : Calls Tryz.prog 53 #[.pointer (some ⟨b, 0, none⟩)] w fun e w' => ∃ v', e = .returned v' ∧ Iv w' v' zs ∧ Below w.heap.size w w' ∧ ∀ g, v'.ownBlock = some g → w.heap.size ≤ g := by
  have HM := hide (made_any b bm w h)
  have HC := hide (cloneI_new v zs w hv hl)
  obtain ⟨a, c, rfl, _⟩ := hv
  go_enter Tryz.func53, Tryz.ntmps53
  go_wp2_with (first | (go_at_call 96; with_reducible refine (unhide HM).mono ?_; rintro e w' ⟨rfl, hw⟩; have hw := hw.symm; subst hw) | (go_at_call 78; with_reducible refine (unhide HC).mono ?_; rintro e w' ⟨v', rfl, h1, h2, h3⟩))
  go_ret
  exact ⟨_, rfl, h1, h2, h3⟩
structure SgK (w4 w6 : World) (M0 : Nat → Prop) (b : Nat) (D : P22.Def) (s : P32.S) (M R : Nat → Prop) (V : World) : Prop where
  sg : SgY b D s M R V
  up : ∀ g, M g → M0 g ∨ w6.heap.size ≤ g
  kw : KW M0 w6 V
  bel : Below w4.heap.size w4 V
  new : ∀ g, M0 g → w4.heap.size ≤ g
namespace SgK
variable {w4 w6 V V' : World} {M0 : Nat → Prop} {b : Nat} {D : P22.Def} {s : P32.S} {M R : Nat → Prop}
theorem below (h : SgK w4 w6 M0 b D s M R V) (hb : Below V.heap.size V V') : SgK w4 w6 M0 b D s M R V' := ⟨h.sg.below hb, h.up, h.kw.next hb h.kw.size, h.bel.trans (hb.mono h.bel.size), h.new⟩
theorem next {x : P32.S × List P32.Order} {v : Value} (h : SgK w4 w6 M0 b D s M R V) (he : SgE b D x M R V v V') (h46 : w4.heap.size ≤ w6.heap.size) : OrdV V' v x.2 ∧ ∃ M', SgK w4 w6 M0 b D x.1 M' R V' ∧ KW M V V' := by
  obtain ⟨h1, M', h2, h3, h4, h5⟩ := he
  have hz := h.kw.size
  have hM4 : ∀ g, M g → w4.heap.size ≤ g := fun g hg => (h.up g hg).elim (h.new g) (fun e => by omega)
  refine ⟨h1, M', ⟨h2, fun g hg => (h4 g hg).elim (h.up g) (fun e => .inr (by omega)), ⟨h3.os.trans h.kw.os, h3.tape.trans h.kw.tape, h3.output.trans h.kw.output, Nat.le_trans hz h3.size, fun g hg hl => (h3.same g (fun e => ?_) (by omega)).trans (h.kw.same g hg hl)⟩, h3.below h.bel hM4, h.new⟩, h3⟩
  rcases h.up g e with q | q
  · exact hg q
  · omega
theorem done (h : SgK w4 w6 M0 b D s M R V) : Calls Tryz.prog 53 #[.pointer (some ⟨b, 0, none⟩)] V fun e V' => ∃ a c, e = .returned (.slice a s.done.length c) ∧ s.done.length ≤ c ∧ InN V' a s.done ∧ SgK w4 w6 M0 b D s M R V' ∧ Below V.heap.size V V' ∧ ∀ g o, a = some ⟨g, o, none⟩ → ¬ M g := by
  have hl := h.sg.len
  have hlt := fun g (hg : M g) => h.sg.lt (.inl hg)
  obtain ⟨bm, rb, C, vs, d, dn, un, h1, h2, hM, hR⟩ := h.sg.ex
  refine (SDone_new b bm dn _ V h1.cells.2.2.1.1 h1.cells.2.2.2.1.1 (MdX.iv_of h1.odn) (by simp; omega)).mono ?_
  rintro e V' ⟨v, rfl, h6, h7, h8⟩
  obtain ⟨a, c, rfl, hc, h9⟩ := inN_of_iv h6
  exact ⟨a, c, rfl, hc, h9, h.below h7, h7, fun g o e hg => by
    have q1 := h8 g (by rw [e]; rfl)
    have q2 := hlt g hg
    omega⟩
theorem undone (h : SgK w4 w6 M0 b D s M R V) : Calls Tryz.prog 54 #[.pointer (some ⟨b, 0, none⟩)] V fun e V' => ∃ a c, e = .returned (.slice a s.undone.length c) ∧ s.undone.length ≤ c ∧ InN V' a s.undone ∧ SgK w4 w6 M0 b D s M R V' ∧ Below V.heap.size V V' := by
  refine h.sg.undone.mono ?_
  rintro e V' ⟨v, rfl, h1, h2⟩
  obtain ⟨a, c, rfl, hc, h3⟩ := inN_of_iv h1
  exact ⟨a, c, rfl, hc, h3, h.below h2, h2⟩
theorem opens (h : SgK w4 w6 M0 b D s M R V) : Calls Tryz.prog 56 #[.pointer (some ⟨b, 0, none⟩)] V fun e V' => ∃ oa oc, e = .returned (.slice oa (P32.open_ D s).length oc) ∧ (P32.open_ D s).length ≤ oc ∧ InOr V' oa (P32.open_ D s) ∧ SgK w4 w6 M0 b D s M R V' ∧ Below V.heap.size V V' := by
  refine h.sg.opens.mono ?_
  rintro e V' ⟨v, rfl, ⟨oa, oc, rfl, h5, h6⟩, h7⟩
  exact ⟨oa, oc, rfl, h5, h6, h.below h7, h7⟩
theorem give (h : SgK w4 w6 M0 b D s M R V) (a : P32.Ask) (hp : a.pos < 256) (h46 : w4.heap.size ≤ w6.heap.size) : Calls Tryz.prog 60 #[.pointer (some ⟨b, 0, none⟩), .agg #[.int .u8 (a.kind : Int), .int .i64 a.a.step, .int .i64 a.a.attempt, .bool a.a.undo, .int .u8 (a.a.outcome : Int), .int .i64 a.now, .int .u8 (a.pos : Int)]] V fun e V' => ∃ oa oc, e = .returned (.slice oa (P32.give D s a).2.length oc) ∧ (P32.give D s a).2.length ≤ oc ∧ InOr V' oa (P32.give D s a).2 ∧ ∃ M', SgK w4 w6 M0 b D (P32.give D s a).1 M' R V' ∧ KW M V V' := by
  refine (give_any a hp h.sg).mono ?_
  rintro e V' ⟨v, rfl, h5⟩
  obtain ⟨⟨oa, oc, rfl, h6, h7⟩, M', h8, h9⟩ := h.next h5 h46
  exact ⟨oa, oc, rfl, h6, h7, M', h8, h9⟩
end SgK
theorem InN.kw {V V' : World} {M : Nat → Prop} {a : Option Addr} {l : List Nat} (h : InN V a l) (hk : KW M V V') (hM : ∀ g o, a = some ⟨g, o, none⟩ → ¬ M g) : InN V' a l := fun i x hx => by
  obtain ⟨g, o, e, hc⟩ := h i x hx
  exact ⟨g, o, e, (cell_of_block (hk.same g (hM g o e) (cellLt hc)) _).trans hc⟩
theorem refs_cut (d : PDef) : P28.refs (cutD d.bare) = P28.refs d.bare := by
  unfold P28.refs P28.names P28.afters cutD
  simp [List.map_map, Function.comp_def, cutS]
theorem backGo_len (d : P22.Def) (n : Int) : ∀ (f : Nat) (x : P32.S × List P32.Order), (P32.backGo d n f x).2.length ≤ x.2.length + 1
  | 0, x => by simp [P32.backGo]
  | f + 1, x => by
    unfold P32.backGo
    split
    · simp
    · split
      · exact backGo_len d n f _
      · split
        · simp
        · split
          · exact P32.put_len _ _ _ _
          · simp
theorem on_len (d : P22.Def) (n : Int) (x : P32.S × List P32.Order) : (P32.on d n x).2.length ≤ x.2.length + d.steps.length + 1 := by
  have h1 : (P32.on1 d n x).2.length ≤ x.2.length + d.steps.length := by
    unfold P32.on1
    split
    · exact forth_len d n x
    · omega
  unfold P32.on P32.on2
  split
  · unfold P32.back
    split
    · omega
    · have := backGo_len d n ((P32.on1 d n x).1.done.length - (P32.on1 d n x).1.undone.length + 1) (P32.on1 d n x)
      omega
  · omega
theorem give_len {d : P22.Def} {s : P32.S} (h : P32.Inv d s) (a : P32.Ask) : (P32.give d s a).2.length ≤ 3 * d.steps.length + 2 := by
  unfold P32.give
  split
  · unfold P32.answer
    split
    · simp
    · split
      · simp
      · refine Nat.le_trans (on_len d _ _) ?_
        have := P32.put_len (P32.pick d s a).step.toNat (P32.pick d s a).undo (P31.answer (P32.stepAt d (P32.pick d s a).step.toNat) a.now (s.run (P32.pick d s a).step.toNat (P32.pick d s a).undo) (P32.pick d s a).attempt (P32.pick d s a).outcome).1 (s, [])
        simp only [List.length_nil] at this
        omega
  · split
    · cases hm : P32.moving s with
      | false =>
        unfold P32.tick
        rw [if_pos hm]
        simp
      | true =>
        rw [P32.tickX_all hm]
        refine Nat.le_trans (on_len d _ _) ?_
        have := (P32.tickX_good (n := a.now) h (P32.moving_iff.1 hm) (P32.waysL d.steps.length).length (by rw [P32.waysL_len]; exact Nat.le_refl _)).2.2.1
        rw [P32.waysL_len] at this ⊢
        omega
    · split
      · unfold P32.cancel
        split
        · simp
        · refine Nat.le_trans (on_len d _ _) ?_
          simp only [List.length_nil]
          omega
      · unfold P32.start
        split
        · simp
        · refine Nat.le_trans (on_len d _ _) ?_
          simp only [List.length_nil]
          omega
end Go.Proofs.YtefokfbgpfcbkaaGreat
