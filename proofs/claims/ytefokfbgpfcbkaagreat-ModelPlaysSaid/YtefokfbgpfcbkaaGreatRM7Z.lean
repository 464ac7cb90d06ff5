/- Lemmas of this claim (a part of its texts, kept as far as the claim reaches them). -/
import Derived.Test.YtefokfbgpfcbkaaGreatRM1Z
import Derived.Test.YtefokfbgpfcbkaaGreatN26xZ
import Derived.Test.YtefokfbgpfcbkaaGreatN21xZ
import Derived.Test.YtefokfbgpfcbkaaGreatRC1Z
namespace Go.Proofs.YtefokfbgpfcbkaaGreat
set_option linter.unusedVariables false
set_option linter.unusedSimpArgs false
open Go.RowKit
theorem RM.f10 {d : PDef} {C : Nat} {w : World} {b tb ub ob pb rc : Nat} {ra : Option Addr} {vs : List Value} {dn un : Value} {s : P33.S} (h : RM d C w b tb ub ob pb ra rc vs dn un s) : w.frozen? ⟨b, 10, none⟩ = false := by have := h.box; simp [World.frozen?, this]
theorem RM.setFailed {d : PDef} {C : Nat} {W : World} {b tb ub ob pb rc : Nat} {ra : Option Addr} {vs : List Value} {dn un : Value} {s : P33.S} (h : RM d C W b tb ub ob pb ra rc vs dn un s) (v : Bool) : RM d C (W.setCell ⟨b, 10, none⟩ (.bool v)) b tb ub ob pb ra rc vs dn un { s with failed := v } :=
  h.setBox (setH h.box) (fun g hg => Below.heap_setCell _ _ _ _ hg) rfl rfl rfl
theorem RM.sameFailed {d : PDef} {C : Nat} {W : World} {b tb ub ob pb rc : Nat} {ra : Option Addr} {vs : List Value} {dn un : Value} {s : P33.S} (h : RM d C W b tb ub ob pb ra rc vs dn un s) {v : Bool} (hv : s.failed = v) : RM d C (W.setCell ⟨b, 10, none⟩ (.bool v)) b tb ub ob pb ra rc vs dn un s := by
  subst hv
  exact h.setFailed s.failed
theorem moving_iff {s : P33.S} (h1 : 1 ≤ s.status) : P33.moving s = false ↔ 2 < s.status := by
  unfold P33.moving
  simp
  omega
theorem bad_one {d : PDef} {s : P33.S} (h : RInv d s) {i : Nat} {u : Bool} (hi : i < d.steps.length) (ho : (s.w i u).2 = true) : P33.bad d.bare i (s.w i u).1 1 = ((s.w i u).1 == P33.most (P33.triesOf d.bare i)) := by
  obtain ⟨h1, h2, h3⟩ := h.tries i u hi
  have h4 := h3 ho
  unfold P33.bad P33.more
  rw [Bool.eq_iff_iff]
  simp
  omega
set_option maxRecDepth 100000 in
set_option maxHeartbeats 8000000 in
theorem RSays_any {d : PDef} {C b : Nat} {s : P33.S} {M R : Nat → Prop} (a : P33.Ans) (w : World) (h : RMX d C b s M R w) (hi : RInv d s) (hN9 : d.steps.length ≤ 100000) (hC : C ≤ w.heap.size) :
    Calls Tryz.prog 19 #[.pointer (some ⟨b, 0, none⟩), .agg #[.int .i64 a.step, .int .i64 a.attempt, .bool a.undo, .int .u8 (a.outcome : Int)]] w fun e w' => e = .returned (.int .i64 (P33.says d.bare s a).1) ∧ ∃ M', RMX d C b (P33.says d.bare s a).2 M' R w' ∧ KM M w M' w' := by
  obtain ⟨tb, ub, ob, pb, ra, rc, vs, dn, un, h0, rfl, rfl⟩ := h.ex
  obtain ⟨H, hH⟩ : ∃ H, w.heap.size = H := ⟨_, rfl⟩
  obtain ⟨step, att, undo, out⟩ := a
  obtain ⟨W1, hW1, hb1, g0, hs1⟩ := new1 w (.cells #[.int .i64 step, .int .i64 att, .bool undo, .int .u8 (out : Int)] 37) H hH
  have h1 := h0.below (by rw [hH]; exact hb1)
  have hbw : Below w.heap.size w W1 := by rw [hH]; exact hb1
  have k11 : W1.cell? ⟨b, 11, none⟩ = some (.int .u8 s.status) := h1.cell (o := 11) rfl
  have k4 : W1.cell? ⟨b, 4, none⟩ = some (.slice (some ⟨tb, 0, none⟩) d.steps.length d.steps.length) := h1.cell (o := 4) rfl
  have x0 := cellO (o := 0) g0 rfl
  obtain ⟨N, hN⟩ : ∃ N, d.steps.length = N := ⟨_, rfl⟩
  obtain ⟨ST, hST⟩ : ∃ x, s.status = x := ⟨_, rfl⟩
  obtain ⟨R, hR⟩ : ∃ R, P33.says d.bare s ⟨step, att, undo, out⟩ = R := ⟨_, rfl⟩
  have hmv := moving_iff hi.st.1
  rw [hR]
  have hRs := hR
  unfold P33.says at hRs
  simp only at hRs
  rw [hST] at k11 hmv
  rw [hN] at k4
  have hhas : P33.has d.bare step = (decide (0 ≤ step) && decide (step < (N : Int))) := by
    unfold P33.has
    rw [show d.bare.steps.length = N by simpa [PDef.bare] using hN]
  rw [hhas] at hRs
  have HRS := hide hRs
  have HRM0 := hide h0
  have HRM := hide h1
  have HW1 := hide hW1
  have HBW := hide hbw
  have HG0 := hide g0
  have HI := hide hi
  have HN := hide hN
  have HMV := hide hmv
  clear hR hRs hhas h h0 h1 hW1 hbw hb1 g0 hi hST hmv hN
  by_cases h2 : 2 < ST
  · have h2i : (2 : Int) < (ST : Int) := by omega
    have hr := unhide HRS
    rw [if_pos ((unhide HMV).2 h2)] at hr
    subst hr
    clear h2
    go_enter Tryz.func19, Tryz.ntmps19
    go_upto_region 1 with fail
    try rw [hH]
    rw [unhide HW1]
    go_wp2
    go_ret
    exact ⟨rfl, (unhide HRM0).finNo (unhide HBW)⟩
  have h2i : ¬ (2 : Int) < (ST : Int) := by omega
  have h2b : decide ((2 : Int) < (ST : Int)) = false := by simp; omega
  have hr := unhide HRS
  rw [if_neg (fun e => h2 ((unhide HMV).1 e))] at hr
  have HRS := hide hr
  clear hr h2
  rcases (by omega : step < 0 ∨ (0 ≤ step ∧ (N : Int) ≤ step) ∨ (0 ≤ step ∧ step < (N : Int))) with h3 | ⟨h3, h4⟩ | ⟨h3, h4⟩
  · have hr := unhide HRS
    rw [if_pos (by simp; omega)] at hr
    subst hr
    go_enter Tryz.func19, Tryz.ntmps19
    go_upto_region 1 with fail
    try rw [hH]
    rw [unhide HW1]
    go_wp2
    go_ret
    exact ⟨rfl, (unhide HRM0).finNo (unhide HBW)⟩
  · have hr := unhide HRS
    rw [if_pos (by simp; omega)] at hr
    subst hr
    have h3b : ¬ step < 0 := by omega
    have h3c : decide (step < 0) = false := by simp; omega
    go_enter Tryz.func19, Tryz.ntmps19
    go_upto_region 1 with fail
    try rw [hH]
    rw [unhide HW1]
    go_wp2
    go_ret
    exact ⟨rfl, (unhide HRM0).finNo (unhide HBW)⟩
  obtain ⟨i, rfl⟩ : ∃ i : Nat, step = (i : Int) := ⟨step.toNat, by omega⟩
  have hiN : i < d.steps.length := by rw [unhide HN]; omega
  have hr := unhide HRS
  rw [if_neg (by simp; omega), Int.toNat_natCast] at hr
  have HRS := hide hr
  have h3b : ¬ (i : Int) < 0 := by omega
  have h3c : decide ((i : Int) < 0) = false := by simp
  have h4b : decide ((N : Int) ≤ (i : Int)) = false := by simp; omega
  clear hr
  have x1 := cellO (o := 1) (unhide HG0) rfl
  have x2 := cellO (o := 2) (unhide HG0) rfl
  have x3 := cellO (o := 3) (unhide HG0) rfl
  have k6 : W1.cell? ⟨b, 6, none⟩ = some (.slice (some ⟨ob, 0, none⟩) d.steps.length d.steps.length) := (unhide HRM).cell (o := 6) rfl
  have k5 : W1.cell? ⟨b, 5, none⟩ = some (.slice (some ⟨ub, 0, none⟩) d.steps.length d.steps.length) := (unhide HRM).cell (o := 5) rfl
  have k7 : W1.cell? ⟨b, 7, none⟩ = some (.slice (some ⟨pb, 0, none⟩) d.steps.length d.steps.length) := (unhide HRM).cell (o := 7) rfl
  have k10 : W1.cell? ⟨b, 10, none⟩ = some (.bool s.failed) := (unhide HRM).cell (o := 10) rfl
  have cu := (unhide HRM).ut.cell hiN
  have cp := (unhide HRM).up.cell hiN
  have ct := (unhide HRM).tr.cell hiN
  have co := (unhide HRM).op.cell hiN
  have hmo := fun V (hV : Below W1.heap.size W1 V) => RMost_any i V ((unhide HRM).below hV) hiN hN9
  rw [unhide HN] at k5 k6 k7
  cases undo with
  | true =>
    have hbad := fun ho => bad_one (unhide HI) (i := i) (u := true) hiN ho
    obtain ⟨t, ht⟩ : ∃ t, (s.w i true).1 = t := ⟨_, rfl⟩
    obtain ⟨o, ho⟩ : ∃ t, (s.w i true).2 = t := ⟨_, rfl⟩
    have hr := unhide HRS
    obtain ⟨MO, hMO⟩ : ∃ m, P33.most (P33.triesOf d.bare i) = m := ⟨_, rfl⟩
    rw [ht] at cu hbad
    rw [ho] at cp hbad
    rw [hMO] at hbad hmo
    rw [ht, ho] at hr
    have HRS := hide hr
    have HMO := hide hmo
    have HBAD := hide hbad
    have HT := hide ht
    have HO := hide ho
    clear hr hbad hmo hMO ht ho
    go_enter Tryz.func19, Tryz.ntmps19
    go_upto_region 1 with fail
    try rw [hH]
    rw [unhide HW1]
    go_upto_region 6 with fail
    refine wp_region_quiet_lit (by kernel_rfl) (by kernel_rfl) ?_
    repeat (go_big_quiet_step (fail))
    refine wpQuiet_nil ?_
    intro _ hw'
    obtain ⟨nq, hw''⟩ := hw'
    subst hw''
    go_upto_region 8 with fail
    refine wp_region_quiet_lit (by kernel_rfl) (by kernel_rfl) ?_
    repeat (go_big_quiet_step (fail))
    refine wpQuiet_nil ?_
    intro _ hw'
    obtain ⟨nq2, hw''⟩ := hw'
    subst hw''
    have hbn : Below w.heap.size w (W1.drewN (nq + nq2)) := (unhide HBW).trans (below_drewN (Below.refl _ _))
    have HBN := hide hbn
    clear hbn
    cases o with
    | false =>
      have hr := unhide HRS
      rw [if_pos (.inl rfl)] at hr
      subst hr
      go_wp2
      go_ret
      exact ⟨rfl, (unhide HRM0).finNo (unhide HBN)⟩
    | true =>
      by_cases hta : t = att
      · subst hta
        by_cases ho2 : 2 < out
        · have ho2i : (2 : Int) < (out : Int) := by omega
          have hr := unhide HRS
          rw [if_pos (.inr (.inr ho2))] at hr
          subst hr
          clear ho2
          go_wp2
          go_ret
          exact ⟨rfl, (unhide HRM0).finNo (unhide HBN)⟩
        · have ho2i : ¬ (2 : Int) < (out : Int) := by omega
          have ho2b : decide ((2 : Int) < (out : Int)) = false := by simp; omega
          have hr := unhide HRS
          rw [if_neg (by simp; omega)] at hr
          simp only [if_true] at hr
          have hA := ((unhide HRM0).below (unhide HBN)).setUnOpen i hiN false
          rw [unhide HT] at hA
          have fo := (unhide HRM).up.frozen i
          have fb := (unhide HRM).f10
          have hob : ¬ pb = b := fun e => (List.nodup_cons.1 (unhide HRM).nd).1 (by rw [← e]; simp)
          have hbo : ¬ b = pb := fun e => hob e.symm
          have hHb : ¬ H = b := by have := (unhide HRM0).inM (g := b) (by simp); omega
          have hHo : ¬ H = pb := by have := (unhide HRM0).inM (g := pb) (by simp); omega
          have hbH : ¬ b = H := fun e => hHb e.symm
          have hoH : ¬ pb = H := fun e => hHo e.symm
          have HA := hide hA
          clear hA
          rcases (by omega : out = 2 ∨ out = 1 ∨ out = 0) with rfl | rfl | rfl
          · rw [if_pos (show P33.bad d.bare i t 2 = true from rfl)] at hr
            subst hr
            cases hfa : s.failed
            all_goals rw [hfa] at k10
            all_goals go_wp2
            all_goals go_ret
            all_goals exact ⟨rfl, _, ⟨_, _, _, _, _, _, _, _, _, (unhide HA).setFailed true, rfl, rfl⟩, ((keepsBelow (unhide HBN)).trans (keepsSet (.inl (by simp)))).trans ((unhide HA).keepsBox 10 _)⟩
          · have hb := unhide HBAD rfl
            rw [hb] at hr
            have HR1 := hide hr
            clear hr hb
            go_upto_region 12 with (go_at_call 75; refine (unhide HMO _ (below_drewN (Below.refl _ _))).mono ?_; rintro e w4 ⟨rfl, hb4⟩)
            have hbw4 : Below W1.heap.size W1 w4 := (below_drewN (Below.refl _ _)).trans hb4
            have h4 := (unhide HRM).below hbw4
            have k6' : w4.cell? ⟨b, 7, none⟩ = some (.slice (some ⟨pb, 0, none⟩) d.steps.length d.steps.length) := h4.cell (o := 7) rfl
            rw [unhide HN] at k6'
            have k10' : w4.cell? ⟨b, 10, none⟩ = some (.bool s.failed) := h4.cell (o := 10) rfl
            have co' := h4.up.cell hiN
            have fo' := h4.up.frozen i
            have fb' := h4.f10
            have g04 := (hbw4.block H (by omega)).trans (unhide HG0)
            have x2' := cellO (o := 2) g04 rfl
            have x3' := cellO (o := 3) g04 rfl
            have hbwf := (unhide HBW).trans (hbw4.mono (unhide HBW).size)
            have hA4 := ((unhide HRM0).below hbwf).setUnOpen i hiN false
            rw [unhide HT] at hA4
            have HA4 := hide hA4
            have HBF := hide hbwf
            clear hb4 hbw4 h4 g04 hbwf hA4 HA ct co cu cp fo fb k4 k5 k6 k7 k10 k11 x0 x1 x2 x3
            cases hq : (t == MO) with
            | true =>
              have hr := unhide HR1
              rw [hq, if_pos rfl] at hr
              subst hr
              cases hfa : s.failed
              all_goals rw [hfa] at k10'
              all_goals go_wp2
              all_goals go_ret
              all_goals exact ⟨rfl, _, ⟨_, _, _, _, _, _, _, _, _, (unhide HA4).setFailed true, rfl, rfl⟩, ((keepsBelow (unhide HBF)).trans (keepsSet (.inl (by simp)))).trans ((unhide HA4).keepsBox 10 _)⟩
            | false =>
              have hr := unhide HR1
              rw [hq, if_neg (by simp), if_neg (by simp)] at hr
              subst hr
              cases hfa : s.failed
              all_goals rw [hfa] at k10'
              all_goals go_wp2
              all_goals go_ret
              all_goals exact ⟨rfl, _, ⟨_, _, _, _, _, _, _, _, _, (unhide HA4).setFailed _, rfl, rfl⟩, ((keepsBelow (unhide HBF)).trans (keepsSet (.inl (by simp)))).trans ((unhide HA4).keepsBox 10 _)⟩
          · rw [if_neg (show ¬ P33.bad d.bare i t 0 = true from by simp [P33.bad]), if_pos rfl] at hr
            subst hr
            have k9 : W1.cell? ⟨b, 9, none⟩ = some un := (unhide HRM).cell (o := 9) rfl
            obtain ⟨da, dc, hdn, _⟩ := (unhide HRM).uno.slice
            obtain ⟨L, hL⟩ : ∃ L, s.undone.length = L := ⟨_, rfl⟩
            have hL9 := (unhide HI).ul
            rw [hL] at hdn hL9
            subst hdn
            obtain ⟨FA, hFA⟩ : ∃ x, s.failed = x := ⟨_, rfl⟩
            have hB := (unhide HA).sameFailed (v := FA) hFA
            have HKB := hide ((unhide HA).keepsBox 10 (.bool FA))
            rw [hFA] at k10
            obtain ⟨W5, hW5, hb5, g5, hs5⟩ := new1 (((W1.drewN (nq + nq2)).setCell ⟨pb, i, none⟩ (.bool false)).setCell ⟨b, 10, none⟩ (.bool FA)) (.cells #[.int .i64 (i : Int)] 3) (H + 1) (by simp; exact hs1)
            have h5 := hB.below (by simp; rw [hs1]; exact hb5)
            have hCW5 : C ≤ W5.heap.size := by omega
            have hb5n : b < W5.heap.size ∧ some b ≠ (Value.slice da L dc).ownBlock := ⟨h5.inM (by simp), fun e => (h5.fu b e.symm).1 (by simp)⟩
            have h7 : OwnN W5 C (.slice da L dc) s.undone := h5.uno
            have H5 := hide h5
            have H7 := hide h7
            have HB5 := hide hb5
            have HW5 := hide hW5
            have HG5 := hide g5
            have HL := hide hL
            clear h5 h7 hb5 hW5 g5 hL hB hFA
            cases FA
            all_goals (
              go_wp2_with (rw [unhide HW5]; refine wpList_appNat (j := i) (by rfl) _ _ (by rfl) (by rfl) (unhide H7) (H + 1) 1 (by rfl) (unhide HG5) L (unhide HL) (by omega) hCW5 ?_; intro g6 cap6 w6 hown6 hgrow6 hat6 hlt6; have hbx6 := (hgrow6.block b hb5n.1 hb5n.2).trans (unhide H5).box; have k96 : w6.cell? ⟨b, 9, none⟩ = some (.slice da L dc) := cellO (o := 9) hbx6 rfl; have f96 : w6.frozen? ⟨b, 9, none⟩ = false := (by simp [World.frozen?, hbx6]); have HF := hide ((unhide H5).appUndone (un' := .slice (some ⟨g6, 0, none⟩) (L + 1) cap6) (i := i) (g := g6) hgrow6 hown6 rfl (hat6.imp id (fun e => Nat.le_of_eq e.symm))); clear hbx6 hown6 hgrow6 hat6)
              go_ret
              have hf := unhide HF
              exact ⟨rfl, _, ⟨_, _, _, _, _, _, _, _, _, hf.1, rfl, rfl⟩, ((((keepsBelow (unhide HBN)).trans (keepsSet (.inl (by simp)))).trans (unhide HKB)).trans (keepsBelow (by simp; rw [hs1]; exact unhide HB5))).trans hf.2⟩)
      · have hne : (t != att) = true := by simpa using hta
        have hr := unhide HRS
        rw [if_pos (.inr (.inl hta))] at hr
        subst hr
        clear hta
        go_wp2
        go_ret
        exact ⟨rfl, (unhide HRM0).finNo (unhide HBN)⟩
  | false =>
    have hbad := fun ho => bad_one (unhide HI) (i := i) (u := false) hiN ho
    obtain ⟨t, ht⟩ : ∃ t, (s.w i false).1 = t := ⟨_, rfl⟩
    obtain ⟨o, ho⟩ : ∃ t, (s.w i false).2 = t := ⟨_, rfl⟩
    have hr := unhide HRS
    obtain ⟨MO, hMO⟩ : ∃ m, P33.most (P33.triesOf d.bare i) = m := ⟨_, rfl⟩
    rw [ht] at ct hbad
    rw [ho] at co hbad
    rw [hMO] at hbad hmo
    rw [ht, ho] at hr
    have HRS := hide hr
    have HMO := hide hmo
    have HBAD := hide hbad
    have HT := hide ht
    have HO := hide ho
    clear hr hbad hmo hMO ht ho
    go_enter Tryz.func19, Tryz.ntmps19
    go_upto_region 1 with fail
    try rw [hH]
    rw [unhide HW1]
    go_upto_region 6 with fail
    refine wp_region_quiet_lit (by kernel_rfl) (by kernel_rfl) ?_
    repeat (go_big_quiet_step (fail))
    refine wpQuiet_nil ?_
    intro _ hw'
    obtain ⟨nq, hw''⟩ := hw'
    subst hw''
    have hbn : Below w.heap.size w (W1.drewN nq) := (unhide HBW).trans (below_drewN (Below.refl _ _))
    have HBN := hide hbn
    clear hbn
    cases o with
    | false =>
      have hr := unhide HRS
      rw [if_pos (.inl rfl)] at hr
      subst hr
      go_wp2
      go_ret
      exact ⟨rfl, (unhide HRM0).finNo (unhide HBN)⟩
    | true =>
      by_cases hta : t = att
      · subst hta
        by_cases ho2 : 2 < out
        · have ho2i : (2 : Int) < (out : Int) := by omega
          have hr := unhide HRS
          rw [if_pos (.inr (.inr ho2))] at hr
          subst hr
          clear ho2
          go_wp2
          go_ret
          exact ⟨rfl, (unhide HRM0).finNo (unhide HBN)⟩
        · have ho2i : ¬ (2 : Int) < (out : Int) := by omega
          have ho2b : decide ((2 : Int) < (out : Int)) = false := by simp; omega
          have hr := unhide HRS
          rw [if_neg (by simp; omega)] at hr
          simp only [Bool.false_eq_true, if_false] at hr
          have hA := ((unhide HRM0).below (unhide HBN)).setOpen i hiN false
          rw [unhide HT] at hA
          have fo := (unhide HRM).op.frozen i
          have fb := (unhide HRM).f11
          have hob : ¬ ob = b := fun e => (List.nodup_cons.1 (unhide HRM).nd).1 (by rw [← e]; simp)
          have hbo : ¬ b = ob := fun e => hob e.symm
          have hHb : ¬ H = b := by have := (unhide HRM0).inM (g := b) (by simp); omega
          have hHo : ¬ H = ob := by have := (unhide HRM0).inM (g := ob) (by simp); omega
          have hbH : ¬ b = H := fun e => hHb e.symm
          have hoH : ¬ ob = H := fun e => hHo e.symm
          have HA := hide hA
          clear hA
          rcases (by omega : out = 2 ∨ out = 1 ∨ out = 0) with rfl | rfl | rfl
          · rw [if_pos (show P33.bad d.bare i t 2 = true from rfl)] at hr
            subst hr
            go_wp2
            go_ret
            exact ⟨rfl, _, ⟨_, _, _, _, _, _, _, _, _, (unhide HA).status 2, rfl, rfl⟩, ((keepsBelow (unhide HBN)).trans (keepsSet (.inl (by simp)))).trans ((unhide HA).keepsBox 11 _)⟩
          · have hb := unhide HBAD rfl
            rw [hb] at hr
            have HR1 := hide hr
            clear hr hb
            go_upto_region 12 with (go_at_call 75; refine (unhide HMO _ (below_drewN (Below.refl _ _))).mono ?_; rintro e w4 ⟨rfl, hb4⟩)
            have hbw4 : Below W1.heap.size W1 w4 := (below_drewN (Below.refl _ _)).trans hb4
            have h4 := (unhide HRM).below hbw4
            have k6' : w4.cell? ⟨b, 6, none⟩ = some (.slice (some ⟨ob, 0, none⟩) d.steps.length d.steps.length) := h4.cell (o := 6) rfl
            rw [unhide HN] at k6'
            have k11' : w4.cell? ⟨b, 11, none⟩ = some (.int .u8 s.status) := h4.cell (o := 11) rfl
            have co' := h4.op.cell hiN
            have fo' := h4.op.frozen i
            have fb' := h4.f11
            have g04 := (hbw4.block H (by omega)).trans (unhide HG0)
            have x2' := cellO (o := 2) g04 rfl
            have x3' := cellO (o := 3) g04 rfl
            have hbwf := (unhide HBW).trans (hbw4.mono (unhide HBW).size)
            have hA4 := ((unhide HRM0).below hbwf).setOpen i hiN false
            rw [unhide HT] at hA4
            have HA4 := hide hA4
            have HBF := hide hbwf
            clear hb4 hbw4 h4 g04 hbwf hA4 HA ct co fo fb k4 k6 k11 x0 x1 x2 x3
            cases hq : (t == MO) with
            | true =>
              have hr := unhide HR1
              rw [hq, if_pos rfl] at hr
              subst hr
              go_wp2
              go_ret
              exact ⟨rfl, _, ⟨_, _, _, _, _, _, _, _, _, (unhide HA4).status 2, rfl, rfl⟩, ((keepsBelow (unhide HBF)).trans (keepsSet (.inl (by simp)))).trans ((unhide HA4).keepsBox 11 _)⟩
            | false =>
              have hr := unhide HR1
              rw [hq, if_neg (by simp), if_neg (by simp)] at hr
              subst hr
              go_wp2
              go_ret
              exact ⟨rfl, _, ⟨_, _, _, _, _, _, _, _, _, unhide HA4, rfl, rfl⟩, (keepsBelow (unhide HBF)).trans (keepsSet (.inl (by simp)))⟩
          · rw [if_neg (show ¬ P33.bad d.bare i t 0 = true from by simp [P33.bad]), if_pos rfl] at hr
            subst hr
            have k8 : W1.cell? ⟨b, 8, none⟩ = some dn := (unhide HRM).cell (o := 8) rfl
            obtain ⟨da, dc, hdn, _⟩ := (unhide HRM).dno.slice
            obtain ⟨L, hL⟩ : ∃ L, s.done.length = L := ⟨_, rfl⟩
            have hL9 := (unhide HI).dl
            rw [hL] at hdn hL9
            subst hdn
            obtain ⟨W5, hW5, hb5, g5, hs5⟩ := new1 ((W1.drewN nq).setCell ⟨ob, i, none⟩ (.bool false)) (.cells #[.int .i64 (i : Int)] 3) (H + 1) (by simp; exact hs1)
            have h5 := (unhide HA).below (by simp; rw [hs1]; exact hb5)
            have hCW5 : C ≤ W5.heap.size := by omega
            have hb5n : b < W5.heap.size ∧ some b ≠ (Value.slice da L dc).ownBlock := ⟨h5.inM (by simp), fun e => h5.fd b e.symm (by simp)⟩
            have H5 := hide h5
            have HB5 := hide hb5
            have HW5 := hide hW5
            have HG5 := hide g5
            have HL := hide hL
            clear h5 hb5 hW5 g5 hL
            have h7 : OwnN W5 C (.slice da L dc) s.done := (unhide H5).dno
            go_wp2_with (rw [unhide HW5]; refine wpList_appNat (j := i) (by rfl) _ _ (by rfl) (by rfl) h7 (H + 1) 1 (by rfl) (unhide HG5) L (unhide HL) (by omega) hCW5 ?_; intro g6 cap6 w6 hown6 hgrow6 hat6 hlt6; have hbx6 := (hgrow6.block b hb5n.1 hb5n.2).trans (unhide H5).box; have k86 : w6.cell? ⟨b, 8, none⟩ = some (.slice da L dc) := cellO (o := 8) hbx6 rfl; have f86 : w6.frozen? ⟨b, 8, none⟩ = false := (by simp [World.frozen?, hbx6]); have HF := hide ((unhide H5).appDone (dn' := .slice (some ⟨g6, 0, none⟩) (L + 1) cap6) (i := i) (g := g6) hgrow6 hown6 rfl (hat6.imp id (fun e => Nat.le_of_eq e.symm))); clear hbx6 hown6 hgrow6 hat6)
            go_ret
            have hf := unhide HF
            exact ⟨rfl, _, ⟨_, _, _, _, _, _, _, _, _, hf.1, rfl, rfl⟩, (((keepsBelow (unhide HBN)).trans (keepsSet (.inl (by simp)))).trans (keepsBelow (by simp; rw [hs1]; exact unhide HB5))).trans hf.2⟩
      · have hne : (t != att) = true := by simpa using hta
        have hr := unhide HRS
        rw [if_pos (.inr (.inl hta))] at hr
        subst hr
        clear hta
        go_wp2
        go_ret
        exact ⟨rfl, (unhide HRM0).finNo (unhide HBN)⟩
end Go.Proofs.YtefokfbgpfcbkaaGreat
namespace Go.Proofs.YtefokfbgpfcbkaaGreat
set_option linter.unusedVariables false
set_option linter.unusedSimpArgs false
open Go.RowKit
theorem cut_len33 (d : P22.Def) : (cutD d).steps.length = d.steps.length := by simp [cutD]
theorem cut_names (d : P22.Def) : P28.names (cutD d) = P28.names d := by simp [P28.names, cutD, List.map_map, Function.comp_def, cutS]
theorem cut_undos (d : P22.Def) : P28.undos (cutD d) = P28.undos d := by simp [P28.undos, cutD, List.map_map, Function.comp_def, cutS]
theorem cut_afters (d : P22.Def) : P28.afters (cutD d) = P28.afters d := by simp [P28.afters, cutD, List.map_map, Function.comp_def, cutS]
theorem cut_refs (d : P22.Def) : P28.refs (cutD d) = P28.refs d := by unfold P28.refs; rw [cut_names, cut_afters]
theorem cut_undo (d : P22.Def) : P33.undoOf (cutD d) = P33.undoOf d := by funext i; unfold P33.undoOf; rw [cut_undos]
theorem cut_tries (d : P22.Def) : P33.triesOf (cutD d) = P33.triesOf d := by
  funext i
  unfold P33.triesOf
  simp [cutD, List.map_map, Function.comp_def, cutS]
theorem cut_back (d : P22.Def) : P33.back (cutD d) = P33.back d := by funext s i; unfold P33.back; rw [cut_undo]
theorem cut_turn (d : P22.Def) : P33.turn (cutD d) = P33.turn d := by funext s; unfold P33.turn; rw [cut_back]
theorem cut_has (d : P22.Def) : P33.has (cutD d) = P33.has d := by funext i; unfold P33.has; rw [cut_len33]
theorem cut_order (d : P22.Def) : P33.orderE (cutD d) = P33.orderE d := by funext s i u; unfold P33.orderE; rw [cut_turn, cut_refs]
theorem cut_asks (d : P22.Def) : P33.asks (cutD d) = P33.asks d := by funext s o; unfold P33.asks; rw [cut_has, cut_order, cut_tries, cut_len33]
theorem cut_bad (d : P22.Def) : P33.bad (cutD d) = P33.bad d := by funext i t o; unfold P33.bad; rw [cut_tries]
theorem cut_says (d : P22.Def) : P33.says (cutD d) = P33.says d := by funext s o; unfold P33.says; rw [cut_has, cut_bad]
theorem cut_ends (d : P22.Def) : P33.ends (cutD d) = P33.ends d := by
  funext s st
  unfold P33.ends P33.whole P33.lastT
  rw [cut_turn, cut_tries, cut_len33]
theorem stepsB_most : ∀ (ss : List P22.Step) (k : Nat), P28.stepsB k ss = [] → ∀ s ∈ ss, 1 ≤ P33.most s.tries
  | [], _, _, s, hs => absurd hs (by simp)
  | x :: ss, k, h, s, hs => by
    unfold P28.stepsB at h
    obtain ⟨h1, h2⟩ := List.append_eq_nil_iff.1 h
    rcases List.mem_cons.1 hs with rfl | hs
    · unfold P28.stepB at h1
      have h3 := (List.append_eq_nil_iff.1 h1).1
      have h4 : P28.out1 (P28.meant s.tries.most 1) 1 10 = false := by
        cases hq : P28.out1 (P28.meant s.tries.most 1) 1 10 with
        | false => rfl
        | true => rw [hq] at h3; simp [P28.nt] at h3
      unfold P28.out1 at h4
      simp at h4
      unfold P33.most
      omega
    · exact stepsB_most ss (k + 1) h2 s hs
theorem most_clean {d : P22.Def} (hc : P28.clean d = true) (i : Nat) (hi : i < d.steps.length) : 1 ≤ P33.most (P33.triesOf d i) := by
  unfold P28.clean at hc
  simp only [Bool.and_eq_true, List.isEmpty_iff] at hc
  have h1 : P28.stepsB 0 d.steps = [] := by
    have := hc.2.1
    unfold P28.boundsP at this
    exact (List.append_eq_nil_iff.1 this).1
  have h2 := stepsB_most d.steps 0 h1 d.steps[i] (List.getElem_mem hi)
  unfold P33.triesOf
  rw [List.getD_eq_getElem?_getD]
  simpa [hi] using h2
theorem RInv.of {d : PDef} {s : P33.S} (ht : ∀ i u, i < d.steps.length → 0 ≤ (s.w i u).1 ∧ (s.w i u).1 ≤ P33.most (P33.triesOf d.bare i) ∧ ((s.w i u).2 = true → 1 ≤ (s.w i u).1))
    (hm : ∀ i, i < d.steps.length → 1 ≤ P33.most (P33.triesOf d.bare i)) (hs : 1 ≤ s.status ∧ s.status ≤ 5) (hi : P33.Inv d.bare s) (hN : d.steps.length ≤ 100000) : RInv d s := by
  have hl : ∀ i ∈ s.done, i < d.steps.length := fun i h => by have := hi.lt i h; simpa [PDef.bare] using this
  have h1 := P32.len_le d.steps.length s.done hi.nodup hl
  have h2 := hi.len
  have h3 : (P33.todo d.bare s).length ≤ s.done.length := by
    unfold P33.todo
    exact Nat.le_trans (List.length_filter_le _ _) (by simp)
  exact ⟨ht, hm, hs, hl, by omega, by omega⟩
theorem rinv_new {d : PDef} (hc : P28.clean d.bare = true) (hN : d.steps.length ≤ 100000) : RInv d P33.S.new := by
  have hm : ∀ i, i < d.steps.length → 1 ≤ P33.most (P33.triesOf d.bare i) := fun i hi => most_clean hc i (by simpa [PDef.bare] using hi)
  refine RInv.of (fun i u hi => ⟨Int.le_refl _, ?_, fun h => by cases h⟩) hm ⟨Nat.le_refl _, by decide⟩ (P33.inv_new _) hN
  have := hm i hi
  show (0 : Int) ≤ _
  omega
theorem rinv_act {d : PDef} {s : P33.S} (h : RInv d s) (hi : P33.Inv d.bare s) (hN : d.steps.length ≤ 100000) (a : P33.Act) : RInv d (P33.act d.bare s a).2 := by
  have hi2 := P33.inv_act hi a
  suffices hh : (∀ i u, i < d.steps.length → 0 ≤ ((P33.act d.bare s a).2.w i u).1 ∧ ((P33.act d.bare s a).2.w i u).1 ≤ P33.most (P33.triesOf d.bare i) ∧ (((P33.act d.bare s a).2.w i u).2 = true → 1 ≤ ((P33.act d.bare s a).2.w i u).1)) ∧ (1 ≤ (P33.act d.bare s a).2.status ∧ (P33.act d.bare s a).2.status ≤ 5) from RInv.of hh.1 h.most hh.2 hi2 hN
  have hT := h.tries
  have hS := h.st
  unfold P33.act
  split
  · unfold P33.asks
    split
    · exact ⟨hT, hS⟩
    split
    · exact ⟨hT, hS⟩
    rename_i hm hh
    split
    · exact ⟨hT, hS⟩
    split
    · exact ⟨hT, hS⟩
    rename_i hf
    have hlt : a.o.step.toNat < d.steps.length := by
      simp only [P33.has, Bool.not_eq_false, Bool.and_eq_true, decide_eq_true_eq] at hh
      have : d.bare.steps.length = d.steps.length := by simp [PDef.bare]
      omega
    have hat : 1 ≤ a.o.attempt ∧ a.o.attempt ≤ P33.most (P33.triesOf d.bare a.o.step.toNat) := by
      obtain ⟨t1, t2, _⟩ := hT a.o.step.toNat a.o.undo hlt
      have hmo := h.most a.o.step.toNat hlt
      by_cases h0 : 0 < (s.w a.o.step.toNat a.o.undo).1
      · by_cases hmr : P33.more (P33.triesOf d.bare a.o.step.toNat) (s.w a.o.step.toNat a.o.undo).1 = false
        · exact absurd (.inr ⟨h0, hmr⟩) hf
        · have h1 : a.o.attempt = (s.w a.o.step.toNat a.o.undo).1 + 1 := by
            by_cases e : a.o.attempt = (s.w a.o.step.toNat a.o.undo).1 + 1
            · exact e
            · exact absurd (.inl e) hf
          simp only [P33.more, Bool.not_eq_false, Bool.and_eq_true, decide_eq_true_eq] at hmr
          omega
      · have h1 : a.o.attempt = (s.w a.o.step.toNat a.o.undo).1 + 1 := by
          by_cases e : a.o.attempt = (s.w a.o.step.toNat a.o.undo).1 + 1
          · exact e
          · exact absurd (.inl e) hf
        omega
    cases hu : a.o.undo with
    | true =>
      simp only [if_true]
      refine ⟨fun i u hi => ?_, by decide, by decide⟩
      unfold P33.upd
      by_cases e : i = a.o.step.toNat ∧ u = true
      · rw [if_pos e]
        obtain ⟨rfl, rfl⟩ := e
        exact ⟨by have := hat.1; show 0 ≤ a.o.attempt; omega, hat.2, fun _ => hat.1⟩
      · rw [if_neg e]
        unfold P33.shut
        split
        · exact ⟨(hT i u hi).1, (hT i u hi).2.1, fun h => by cases h⟩
        · exact hT i u hi
    | false =>
      simp only [Bool.false_eq_true, if_false]
      refine ⟨fun i u hi => ?_, hS⟩
      unfold P33.upd
      by_cases e : i = a.o.step.toNat ∧ u = false
      · rw [if_pos e]
        obtain ⟨rfl, rfl⟩ := e
        exact ⟨by have := hat.1; show 0 ≤ a.o.attempt; omega, hat.2, fun _ => hat.1⟩
      · rw [if_neg e]
        exact hT i u hi
  split
  · have hup : ∀ i0 u0 i u, i < d.steps.length → 0 ≤ (P33.upd s.w i0 u0 ((s.w i0 u0).1, false) i u).1 ∧ (P33.upd s.w i0 u0 ((s.w i0 u0).1, false) i u).1 ≤ P33.most (P33.triesOf d.bare i) ∧ ((P33.upd s.w i0 u0 ((s.w i0 u0).1, false) i u).2 = true → 1 ≤ (P33.upd s.w i0 u0 ((s.w i0 u0).1, false) i u).1) := fun i0 u0 i u hi => by
      unfold P33.upd
      by_cases e : i = i0 ∧ u = u0
      · rw [if_pos e]
        obtain ⟨rfl, rfl⟩ := e
        exact ⟨(hT i u hi).1, (hT i u hi).2.1, fun h => by cases h⟩
      · rw [if_neg e]
        exact hT i u hi
    unfold P33.says
    split
    · exact ⟨hT, hS⟩
    split
    · exact ⟨hT, hS⟩
    split
    · exact ⟨hT, hS⟩
    split
    · split
      · exact ⟨hup _ _, hS⟩
      · exact ⟨hup _ _, (show 1 ≤ 2 ∧ 2 ≤ 5 from ⟨by decide, by decide⟩)⟩
    split
    · split
      · exact ⟨hup _ _, hS⟩
      · exact ⟨hup _ _, hS⟩
    · exact ⟨hup _ _, hS⟩
  split
  · unfold P33.halts
    split
    · exact ⟨hT, hS⟩
    · exact ⟨hT, (show 1 ≤ 2 ∧ 2 ≤ 5 from ⟨by decide, by decide⟩)⟩
  · unfold P33.ends
    split
    · exact ⟨hT, hS⟩
    split
    · exact ⟨hT, hS⟩
    rename_i hm h5
    generalize (if a.status = 3 then P33.whole d.bare s else if a.status = 4 then !P33.whole d.bare s && (P33.turn d.bare s).isNone else s.failed || P33.lastT d.bare s) = q
    cases q
    · exact ⟨hT, hS⟩
    · refine ⟨hT, ?_⟩
      show 1 ≤ a.status ∧ a.status ≤ 5
      omega
end Go.Proofs.YtefokfbgpfcbkaaGreat
namespace Go.Proofs.YtefokfbgpfcbkaaGreat
set_option linter.unusedVariables false
set_option linter.unusedSimpArgs false
open Go.RowKit
section
variable {d : PDef} {C : Nat} {W W' : World} {b tb ub ob pb rc : Nat} {ra : Option Addr} {vs : List Value} {dn un : Value} {s s' : P33.S}
theorem RM.newOpen (h : RM d C W b tb ub ob pb ra rc vs dn un s) {X : Nat} (hX : W.heap.size = X) (z : Array Value) (hz : (W.alloc (.cells z 4)).rowIs X 4 d.steps.length (fun _ => .bool false)) :
    RM d C ((W.alloc (.cells z 4)).setCell ⟨b, 6, none⟩ (.slice (some ⟨X, 0, none⟩) d.steps.length d.steps.length)) b tb ub X pb ra rc vs dn un { s with w := P33.shut d.steps.length s.w } ∧
    KM (rmB b tb ub ob pb dn un) W (rmB b tb ub X pb dn un) ((W.alloc (.cells z 4)).setCell ⟨b, 6, none⟩ (.slice (some ⟨X, 0, none⟩) d.steps.length d.steps.length)) := by
  have hbW := h.inM (g := b) (by simp)
  have hC := h.low.1
  have h1 := h.below ((Below.refl W.heap.size W).alloc (Nat.le_refl _) (.cells z 4))
  obtain ⟨V, hV⟩ : ∃ V, W.alloc (.cells z 4) = V := ⟨_, rfl⟩
  rw [hV] at h1 hz ⊢
  have hl : ∀ g, g ∈ [b, tb, ub, ob, pb] → g < X := fun g hg => by rw [← hX]; exact h.inM hg
  obtain ⟨⟨a1, a2, a3⟩, ⟨b1, b2⟩, c1⟩ := h.ne
  have hnd := h.nd
  simp only [List.nodup_cons, List.mem_cons, List.not_mem_nil, or_false, not_or] at hnd
  obtain ⟨⟨n1, n2, n3, n4⟩, _⟩ := hnd
  have lb := hl b (by simp)
  have lt := hl tb (by simp)
  have lu := hl ub (by simp)
  have lp := hl pb (by simp)
  have ho : ∀ g, g ≠ b → (V.setCell ⟨b, 6, none⟩ (.slice (some ⟨X, 0, none⟩) d.steps.length d.steps.length)).heap[g]? = V.heap[g]? := fun g hg => Below.heap_setCell _ _ _ _ hg
  have hbx : (V.setCell ⟨b, 6, none⟩ (.slice (some ⟨X, 0, none⟩) d.steps.length d.steps.length)).heap[b]? = some (.cells (rmC d tb ub X pb ra rc dn un s) 51) := setH h1.box
  have hlow := h.low
  refine ⟨⟨h1.din.keep (fun g hg => ho g (by have := h.dlt g hg; omega)), h.dlt, hbx, h1.rows.keepB (fun g hg => ho g (fun e => (h.fr g hg).1 (by rw [e]; simp))), ?_, ?_, ?_, ?_, ?_, ?_, ⟨hlow.1, hlow.2.1, hlow.2.2.1, by omega, hlow.2.2.2.2⟩, ?_, fun g hg hm => ?_, fun g hg => ⟨fun hm => ?_, (h.fu g hg).2⟩, fun g hg => ⟨fun hm => ?_, (h.fr g hg).2⟩⟩, ?_⟩
  · exact (h1.tr.of_block (ho _ (fun e => n1 e.symm))).congr (fun j hj => by simp [P33.shut, hj])
  · exact (h1.ut.of_block (ho _ (fun e => n2 e.symm))).congr (fun j hj => by simp [P33.shut])
  · exact (hz.of_block (ho _ (by omega))).congr (fun j hj => by simp [P33.shut, hj])
  · exact (h1.up.of_block (ho _ (fun e => n4 e.symm))).congr (fun j hj => by simp [P33.shut])
  · exact h1.dno.keep (fun g hg => ho g (fun e => h.fd g hg (by rw [e]; simp)))
  · exact h1.uno.keep (fun g hg => ho g (fun e => (h.fu g hg).1 (by rw [e]; simp)))
  · simp only [List.nodup_cons, List.mem_cons, List.not_mem_nil, or_false, not_or, not_false_eq_true, List.nodup_nil, and_true]
    omega
  · simp only [List.mem_cons, List.not_mem_nil, or_false] at hm
    have h2 := h.fd g hg
    have h3 := (h.dno.lt hg).2
    simp only [List.mem_cons, List.not_mem_nil, or_false, not_or] at h2
    omega
  · simp only [List.mem_cons, List.not_mem_nil, or_false] at hm
    have h2 := (h.fu g hg).1
    have h3 := (h.uno.lt hg).2
    simp only [List.mem_cons, List.not_mem_nil, or_false, not_or] at h2
    omega
  · simp only [List.mem_cons, List.not_mem_nil, or_false] at hm
    have h2 := (h.fr g hg).1
    have h3 := h.inR hg
    simp only [List.mem_cons, List.not_mem_nil, or_false, not_or] at h2
    omega
  · refine ⟨?_, fun g hg hgl => (ho g (fun e => hg (.inl (by rw [e]; simp)))).trans ?_, fun g hg => ?_, ?_, ?_, ?_⟩
    · rw [← hV]; simp
    · rw [← hV]; exact Below.heap_alloc _ _ _ hgl
    · rcases hg with hg | hg
      · simp only [List.mem_cons, List.not_mem_nil, or_false] at hg
        rcases hg with rfl | rfl | rfl | rfl | rfl
        · exact .inl (.inl (by simp))
        · exact .inl (.inl (by simp))
        · exact .inl (.inl (by simp))
        · exact .inr (by omega)
        · exact .inl (.inl (by simp))
      · exact .inl (.inr hg)
    · rw [← hV]; rfl
    · rw [← hV]; rfl
    · rw [← hV]; rfl
end
theorem shut_upd (n i : Nat) (f : Nat → Bool → Int × Bool) (a c : Int × Bool) : P33.shut n (P33.upd (P33.upd f i true a) i true c) = P33.upd (P33.shut n f) i true c := by
  funext j u
  cases u
  · simp [P33.shut, P33.upd]
  · simp only [P33.shut, P33.upd]
    by_cases e : j = i <;> simp [e]
theorem upd_two (f : Nat → Bool → Int × Bool) (i : Nat) (u : Bool) (a c : Int × Bool) : P33.upd (P33.upd f i u a) i u c = P33.upd f i u c := by
  funext j v
  simp only [P33.upd]
  split <;> rfl
theorem upd_at (f : Nat → Bool → Int × Bool) (i : Nat) (u : Bool) (a : Int × Bool) : P33.upd f i u a i u = a := by simp [P33.upd]
theorem any_or (l : List Nat) (p : Nat → Bool) (k : Nat) (x : Nat) (h : l[k]? = some x) : (l.drop k).any p = (p x || (l.drop (k + 1)).any p) := by
  obtain ⟨hl, e⟩ := List.getElem?_eq_some_iff.1 h
  rw [List.drop_eq_getElem_cons hl, e, List.any_cons]
theorem asks_form {d : PDef} {s : P33.S} (hi : RInv d s) {i : Nat} (hN : i < d.steps.length) (u : Bool) (att : Int) (h : att = (s.w i u).1 + 1) : (att ≠ (s.w i u).1 + 1 ∨ (0 < (s.w i u).1 ∧ P33.more (P33.triesOf d.bare i) (s.w i u).1 = false)) ↔ P33.most (P33.triesOf d.bare i) < att := by
  obtain ⟨t1, t2, _⟩ := hi.tries i u hN
  have hm := hi.most i hN
  unfold P33.more
  simp
  omega
set_option maxRecDepth 100000 in
set_option maxHeartbeats 8000000 in
theorem RAsks_any {d : PDef} {C b : Nat} {s : P33.S} {M R : Nat → Prop} (o : P33.Order) (til : Int) (w : World) (h : RMX d C b s M R w) (hi : RInv d s) (hN9 : d.steps.length ≤ 100000) (hrl : ∀ l ∈ P28.refs d.bare, l.length ≤ 1000000) :
    Calls Tryz.prog 17 #[.pointer (some ⟨b, 0, none⟩), .agg #[.int .i64 o.step, .int .i64 o.attempt, .bool o.undo, .int .i64 til]] w fun e w' => e = .returned (.int .i64 (P33.asks d.bare s o).1) ∧ ∃ M', RMX d C b (P33.asks d.bare s o).2 M' R w' ∧ KM M w M' w' := by
  obtain ⟨tb, ub, ob, pb, ra, rc, vs, dn, un, h0, rfl, rfl⟩ := h.ex
  obtain ⟨H, hH⟩ : ∃ H, w.heap.size = H := ⟨_, rfl⟩
  obtain ⟨step, att, undo⟩ := o
  obtain ⟨W1, hW1, hb1, g0, hs1⟩ := new1 w (.cells #[.int .i64 step, .int .i64 att, .bool undo, .int .i64 til] 35) H hH
  have h1 := h0.below (by rw [hH]; exact hb1)
  have hbw : Below w.heap.size w W1 := by rw [hH]; exact hb1
  have k11 : W1.cell? ⟨b, 11, none⟩ = some (.int .u8 s.status) := h1.cell (o := 11) rfl
  have k4 : W1.cell? ⟨b, 4, none⟩ = some (.slice (some ⟨tb, 0, none⟩) d.steps.length d.steps.length) := h1.cell (o := 4) rfl
  have x0 := cellO (o := 0) g0 rfl
  obtain ⟨N, hN⟩ : ∃ N, d.steps.length = N := ⟨_, rfl⟩
  obtain ⟨ST, hST⟩ : ∃ x, s.status = x := ⟨_, rfl⟩
  obtain ⟨R, hR⟩ : ∃ R, P33.asks d.bare s ⟨step, att, undo⟩ = R := ⟨_, rfl⟩
  have hmv := moving_iff hi.st.1
  rw [hR]
  have hRs := hR
  unfold P33.asks at hRs
  simp only at hRs
  rw [hST] at k11 hmv
  rw [hN] at k4
  have hhas : P33.has d.bare step = (decide (0 ≤ step) && decide (step < (N : Int))) := by
    unfold P33.has
    rw [show d.bare.steps.length = N by simpa [PDef.bare] using hN]
  rw [hhas, show d.bare.steps.length = d.steps.length by simp [PDef.bare]] at hRs
  have hRL := hide hrl
  have HRS := hide hRs
  have HRM0 := hide h0
  have HRM := hide h1
  have HW1 := hide hW1
  have HBW := hide hbw
  have HG0 := hide g0
  have HI := hide hi
  have HST := hide hST
  have HN := hide hN
  have HMV := hide hmv
  clear hR hRs hhas h h0 h1 hW1 hbw hb1 g0 hi hST hmv hN hrl
  by_cases h2 : 2 < ST
  · have h2i : (2 : Int) < (ST : Int) := by omega
    have hr := unhide HRS
    rw [if_pos ((unhide HMV).2 h2)] at hr
    subst hr
    clear h2
    go_enter Tryz.func17, Tryz.ntmps17
    go_upto_region 1 with fail
    try rw [hH]
    rw [unhide HW1]
    go_wp2
    go_ret
    exact ⟨rfl, (unhide HRM0).finNo (unhide HBW)⟩
  have h2i : ¬ (2 : Int) < (ST : Int) := by omega
  have h2b : decide ((2 : Int) < (ST : Int)) = false := by simp; omega
  have hr := unhide HRS
  rw [if_neg (fun e => h2 ((unhide HMV).1 e))] at hr
  have HRS := hide hr
  clear hr h2
  rcases (by omega : step < 0 ∨ (0 ≤ step ∧ (N : Int) ≤ step) ∨ (0 ≤ step ∧ step < (N : Int))) with h3 | ⟨h3, h4⟩ | ⟨h3, h4⟩
  · have hr := unhide HRS
    rw [if_pos (by simp; omega)] at hr
    subst hr
    go_enter Tryz.func17, Tryz.ntmps17
    go_upto_region 1 with fail
    try rw [hH]
    rw [unhide HW1]
    go_wp2
    go_ret
    exact ⟨rfl, (unhide HRM0).finNo (unhide HBW)⟩
  · have hr := unhide HRS
    rw [if_pos (by simp; omega)] at hr
    subst hr
    have h3b : ¬ step < 0 := by omega
    have h3c : decide (step < 0) = false := by simp; omega
    go_enter Tryz.func17, Tryz.ntmps17
    go_upto_region 1 with fail
    try rw [hH]
    rw [unhide HW1]
    go_wp2
    go_ret
    exact ⟨rfl, (unhide HRM0).finNo (unhide HBW)⟩
  obtain ⟨i, rfl⟩ : ∃ i : Nat, step = (i : Int) := ⟨step.toNat, by omega⟩
  have hiN : i < d.steps.length := by rw [unhide HN]; omega
  have hr := unhide HRS
  rw [if_neg (by simp; omega), Int.toNat_natCast] at hr
  have HRS := hide hr
  have h3b : ¬ (i : Int) < 0 := by omega
  have h3c : decide ((i : Int) < 0) = false := by simp
  have h4b : decide ((N : Int) ≤ (i : Int)) = false := by simp; omega
  clear hr
  have x1 := cellO (o := 1) (unhide HG0) rfl
  have x2 := cellO (o := 2) (unhide HG0) rfl
  have hfm := asks_form (unhide HI) hiN undo att
  obtain ⟨t, ht⟩ : ∃ t, (s.w i undo).1 = t := ⟨_, rfl⟩
  obtain ⟨MO, hMO⟩ : ∃ m, P33.most (P33.triesOf d.bare i) = m := ⟨_, rfl⟩
  have hmo := fun V (hV : Below W1.heap.size W1 V) => RMost_any i V ((unhide HRM).below hV) hiN hN9
  rw [ht, hMO] at hfm
  rw [hMO] at hmo
  have htr := (unhide HI).tries i undo hiN
  rw [ht, hMO] at htr
  have h10 : MO ≤ 10 := by rw [← hMO]; unfold P33.most; omega
  have hwt : IntKind.i64.wrap (t + 1) = t + 1 := IntWalk.i64_in _ (by omega)
  have hr := unhide HRS
  rw [ht] at hr
  have HRS := hide hr
  have HMO := hide hmo
  have HFM := hide hfm
  have HT := hide ht
  have HTR := hide htr
  clear hr hmo hfm ht hMO htr
  cases undo with
  | true =>
    have htu := RTurn_any W1 (unhide HRM) (unhide HI).lt hN9 (unhide HI).dl (unhide HI).ul
    have hr := unhide HRS
    obtain ⟨T, hT⟩ : ∃ T, P33.turn d.bare s = T := ⟨_, rfl⟩
    have hoe : P33.orderE d.bare s i true = if T = some i then 0 else 8 := by
      unfold P33.orderE
      rw [if_pos rfl, hT]
      cases T with
      | none => simp
      | some j => by_cases e : j = i <;> simp [e]
    rw [hT] at htu
    rw [hoe] at hr
    by_cases hti : T = some i
    · subst hti
      rw [if_pos rfl, if_neg (by simp)] at hr
      simp only [if_true] at hr
      rw [show toV (some i) = (i : Int) from rfl] at htu
      have k5 : W1.cell? ⟨b, 5, none⟩ = some (.slice (some ⟨ub, 0, none⟩) d.steps.length d.steps.length) := (unhide HRM).cell (o := 5) rfl
      have cu : W1.cell? ⟨ub, i, none⟩ = some (.int .i64 t) := ((unhide HRM).ut.cell hiN).trans (by rw [unhide HT])
      rw [unhide HN] at k5
      have HTU := hide htu
      have HR1 := hide hr
      clear hr htu hT hoe
      go_enter Tryz.func17, Tryz.ntmps17
      go_upto_region 1 with fail
      try rw [hH]
      rw [unhide HW1]
      go_upto_region 9 with (go_at_call 29; refine (unhide HTU).mono ?_; rintro e w' ⟨rfl, hw⟩; have hw := hw.symm; subst hw)
      by_cases ha : att = t + 1
      case neg =>
        have hne : (att != t + 1) = true := by simpa using ha
        have hr := unhide HR1
        rw [if_pos (.inl ha)] at hr
        subst hr
        clear ha
        refine wp_region_quiet_lit (by kernel_rfl) (by kernel_rfl) ?_
        repeat (go_big_quiet_step (fail))
        refine wpQuiet_nil ?_
        intro _ hw'
        obtain ⟨nq, hw''⟩ := hw'
        subst hw''
        go_wp2
        go_ret
        exact ⟨rfl, (unhide HRM0).finNo ((unhide HBW).trans (below_drewN (Below.refl _ _)))⟩
      case pos =>
        subst ha
        have hr := unhide HR1
        simp only [unhide HFM rfl] at hr
        have HR2 := hide hr
        have hlb : b < W1.heap.size ∧ ub < W1.heap.size ∧ H < W1.heap.size := ⟨cellLt k5, cellLt cu, by omega⟩
        clear hr HR1
        go_region_held3 (fun w' => w'.cell? ⟨b, 5, none⟩ = some (.slice (some ⟨ub, 0, none⟩) N N) ∧ w'.cell? ⟨ub, i, none⟩ = some (.int .i64 t) ∧ w'.cell? ⟨H, 1, none⟩ = some (.int .i64 (t + 1))) (first | exact ⟨k5, cu, x1⟩ | exact S4) (first
          | (go_at_call 75; ((refine (unhide HMO _ (by first | exact Below.refl _ _ | exact (Below.refl _ _).drew | exact below_drewN (n := 1) (Below.refl _ _))).mono ?_)); rintro e w4 ⟨rfl, hb4⟩; have S4 : w4.cell? ⟨b, 5, none⟩ = some (.slice (some ⟨ub, 0, none⟩) N N) ∧ w4.cell? ⟨ub, i, none⟩ = some (.int .i64 t) ∧ w4.cell? ⟨H, 1, none⟩ = some (.int .i64 (t + 1)) := ⟨(cell_of_block (hb4.block b hlb.1) _).trans k5, (cell_of_block (hb4.block ub hlb.2.1) _).trans cu, (cell_of_block (hb4.block H hlb.2.2) _).trans x1⟩))
        have hb4w : Below W1.heap.size W1 w4 := by
          first
            | exact hb4
            | exact ((Below.refl W1.heap.size W1).drew).trans (hb4.mono (by simp))
        have HB4 := hide hb4w
        clear hb4 k5 cu x0 x1 x2 k4 k11 S4
        by_cases hmt : MO < t + 1
        · have hr := unhide HR2
          rw [if_pos hmt] at hr
          subst hr
          go_wp2
          go_ret
          exact ⟨rfl, (unhide HRM0).finNo ((unhide HBW).trans ((unhide HB4).mono (unhide HBW).size))⟩
        · have hr := unhide HR2
          rw [if_neg hmt] at hr
          subst hr
          have hmd : decide (MO < t + 1) = false := by simpa using hmt
          have h4 := (unhide HRM).below (unhide HB4)
          have f4 := h4.f11
          have k11' : w4.cell? ⟨b, 11, none⟩ = some (.int .u8 s.status) := h4.cell (o := 11) rfl
          have h5 : RM d C (w4.setCell ⟨b, 11, none⟩ (.int .u8 2)) b tb ub ob pb ra rc vs dn un { s with status := 2 } := h4.status 2
          have g05 : (w4.setCell ⟨b, 11, none⟩ (.int .u8 2)).heap[H]? = _ := (Below.heap_setCell _ _ _ _ (by have := (unhide HRM0).inM (g := b) (by simp); show H ≠ b; omega)).trans (((unhide HB4).block H (by omega)).trans (unhide HG0))
          have hb5 : KM (rmB b tb ub ob pb dn un) w (rmB b tb ub ob pb dn un) (w4.setCell ⟨b, 11, none⟩ (.int .u8 2)) := (keepsBelow ((unhide HBW).trans ((unhide HB4).mono (unhide HBW).size))).trans (h4.keepsBox 11 _)
          clear h4
          obtain ⟨W5, hW5⟩ : ∃ W5, w4.setCell ⟨b, 11, none⟩ (.int .u8 2) = W5 := ⟨_, rfl⟩
          rw [hW5] at h5 g05 hb5
          have HW5 := hide hW5
          have H5 := hide h5
          have HB5 := hide hb5
          have k5' : W5.cell? ⟨b, 5, none⟩ = some (.slice (some ⟨ub, 0, none⟩) d.steps.length d.steps.length) := h5.cell (o := 5) rfl
          have k7' : W5.cell? ⟨b, 7, none⟩ = some (.slice (some ⟨pb, 0, none⟩) d.steps.length d.steps.length) := h5.cell (o := 7) rfl
          rw [unhide HN] at k5' k7'
          have x1' := cellO (o := 1) g05 rfl
          have cu' := h5.ut.cell hiN
          have cp' := h5.up.cell hiN
          have fu' := h5.ut.frozen i
          have fp' := h5.up.frozen i
          clear hW5 h5 hb5 g05
          go_upto_region 12 with fail
          try rw [unhide HW5]
          clear k11' f4
          have hmx := hmixed
          have hup : ¬ ub = pb := (unhide HRM0).ne.2.1.2
          have hpu : ¬ pb = ub := fun e => hup e.symm
          go_region
          have h6 : RM d C ((W5.setCell ⟨ub, i, none⟩ (.int .i64 (t + 1))).setCell ⟨pb, i, none⟩ (.bool true)).drew b tb ub ob pb ra rc vs dn un { s with status := 2, w := P33.upd (P33.upd s.w i true (t + 1, (s.w i true).2)) i true (t + 1, true) } := by
            have h := ((unhide H5).setUnTry i hiN (t + 1)).setUnOpen i hiN true
            simp only [upd_at] at h
            exact h.below ((Below.refl _ _).drew)
          have hb6 : KM (rmB b tb ub ob pb dn un) w (rmB b tb ub ob pb dn un) ((W5.setCell ⟨ub, i, none⟩ (.int .i64 (t + 1))).setCell ⟨pb, i, none⟩ (.bool true)).drew := (((unhide HB5).trans (keepsSet (.inl (by simp)))).trans (keepsSet (.inl (by simp)))).trans (keepsBelow ((Below.refl _ _).drew))
          obtain ⟨W6, hW6⟩ : ∃ W6, ((W5.setCell ⟨ub, i, none⟩ (.int .i64 (t + 1))).setCell ⟨pb, i, none⟩ (.bool true)).drew = W6 := ⟨_, rfl⟩
          rw [hW6] at h6 hb6 ⊢
          clear hW6 k5' k7' x1' cu' cp' fu' fp' hup hpu
          have k6 : W6.cell? ⟨b, 6, none⟩ = some (.slice (some ⟨ob, 0, none⟩) d.steps.length d.steps.length) := h6.cell (o := 6) rfl
          have hNN : N ≤ 100000 := by rw [← unhide HN]; exact hN9
          have h7 := h6.newOpen (X := W6.heap.size) rfl (madeCells #[.bool false] d.steps.length) (World.rowIs_made _ _ _ _)
          rw [unhide HN] at h7 k6
          simp only [shut_upd] at h7
          have k6a : (W6.alloc (.cells (madeCells #[.bool false] N) 4)).cell? ⟨b, 6, none⟩ = some (.slice (some ⟨ob, 0, none⟩) N N) := (cell_of_block (Below.heap_alloc _ _ _ (cellLt k6)) _).trans k6
          have f6a : (W6.alloc (.cells (madeCells #[.bool false] N) 4)).frozen? ⟨b, 6, none⟩ = false := by
            have := (h6.below ((Below.refl W6.heap.size W6).alloc (Nat.le_refl _) (.cells (madeCells #[.bool false] N) 4))).box
            simp [World.frozen?, this]
          have hmk := fun V => run_make_row' (P := Tryz.prog) 49 4 (.bool false) 1 Tryz.underlying49 infoBool rfl .i64 .i64 N (by omega) (by omega) V
          have H7 := hide h7
          have HB6 := hide hb6
          clear h7 hb6 h6
          go_wp2
          go_ret
          obtain ⟨g1, g2⟩ := unhide H7
          rw [unhide HN]
          exact ⟨rfl, _, ⟨_, _, _, _, _, _, _, _, _, g1, rfl, rfl⟩, (unhide HB6).trans g2⟩
    · rw [if_neg hti, if_pos (by simp)] at hr
      subst hr
      have hne : (toV T != (i : Int)) = true := by
        cases T with
        | none => simp [toV]
        | some j =>
          simp [toV]
          intro e
          exact hti (by rw [show j = i by omega])
      obtain ⟨tv, htv⟩ : ∃ x, toV T = x := ⟨_, rfl⟩
      rw [htv] at hne htu
      have HTU := hide htu
      clear htu hT hoe hti htv
      go_enter Tryz.func17, Tryz.ntmps17
      go_upto_region 1 with fail
      try rw [hH]
      rw [unhide HW1]
      go_wp2_with (go_at_call 29; refine (unhide HTU).mono ?_; rintro e w' ⟨rfl, hw⟩; have hw := hw.symm; subst hw)
      go_ret
      exact ⟨rfl, (unhide HRM0).finNo (unhide HBW)⟩
  | false =>
    have hr := unhide HRS
    have hoe : P33.orderE d.bare s i false = if ST ≠ 1 then 13 else if ((P28.refs d.bare).getD i []).any (fun j => !decide (j ∈ s.done)) = true then 8 else if i ∈ s.done then 8 else 0 := by
      unfold P33.orderE
      rw [if_neg (by simp), unhide HST]
    rw [hoe] at hr
    clear hoe
    by_cases hs1 : ST = 1
    · subst hs1
      rw [if_neg (show ¬ ((1 : Nat) ≠ 1) by simp)] at hr
      obtain ⟨l, hl⟩ : ∃ l, (P28.refs d.bare)[i]? = some l := nth_of (by rw [P28.refs_len]; simp [PDef.bare]) hiN
      have hgd : (P28.refs d.bare).getD i [] = l := by rw [List.getD_eq_getElem?_getD, hl]; rfl
      rw [hgd] at hr
      have hl9 := unhide hRL l (List.mem_of_getElem? hl)
      obtain ⟨g, va, vc, hra, hc, hin⟩ := (unhide HRM).rows.get hl
      have k3 : W1.cell? ⟨b, 3, none⟩ = some (.slice ra d.steps.length rc) := (unhide HRM).cell (o := 3) rfl
      obtain ⟨da, dc, hdn, _, _, hind⟩ := (unhide HRM).dno.slice
      have k8 : W1.cell? ⟨b, 8, none⟩ = some dn := (unhide HRM).cell (o := 8) rfl
      rw [hra, unhide HN] at k3
      rw [hdn] at k8
      have hhas := fun j V (hV : ∃ q, V = W1.drewN q) => Has_any da dc s.done j V (by obtain ⟨q, rfl⟩ := hV; exact hind) (unhide HI).dl
      obtain ⟨D, hD⟩ : ∃ D, s.done.length = D := ⟨_, rfl⟩
      obtain ⟨L, hL⟩ : ∃ D, l.length = D := ⟨_, rfl⟩
      rw [hD] at k8
      simp only [hD] at hhas
      rw [hL] at hc hl9
      obtain ⟨B0, hB0⟩ : ∃ B, decide (i ∈ s.done) = B := ⟨_, rfl⟩
      have hh0 := hhas i W1 ⟨0, rfl⟩
      rw [hB0] at hh0
      obtain ⟨BAD, hBAD⟩ : ∃ B, (B0 || l.any fun j => !decide (j ∈ s.done)) = B := ⟨_, rfl⟩
      have hor : (if (l.any fun j => !decide (j ∈ s.done)) = true then (8 : Int) else if i ∈ s.done then 8 else 0) = if BAD = true then 8 else 0 := by
        rw [← hBAD, ← hB0]
        cases (l.any fun j => !decide (j ∈ s.done)) <;> by_cases e : i ∈ s.done <;> simp [e]
      rw [hor] at hr
      clear hor
      have HR1 := hide hr
      have HH0 := hide hh0
      have HHAS := hide hhas
      have HIN := hide hin
      have HL := hide hL
      have HB0 := hide hBAD
      have ct : W1.cell? ⟨tb, i, none⟩ = some (.int .i64 t) := ((unhide HRM).tr.cell hiN).trans (by rw [unhide HT])
      clear hr hh0 hhas hin hL hBAD hgd hl hB0 hdn hra hind hD
      go_enter Tryz.func17, Tryz.ntmps17
      go_upto_region 1 with fail
      try rw [hH]
      rw [unhide HW1]
      go_wp2_with (go_at_call 31; with_reducible refine (unhide HH0).mono ?_; rintro e w' ⟨rfl, hw⟩; have hw := hw.symm; subst hw)
      go_loopg [6, 7] L (fun q s6 s7 wx => ∃ (k : Nat) (bb : Bool), k + q = L ∧ s7 = .int .i64 k ∧ s6 = .bool bb ∧ (∃ n, wx = W1.drewN n) ∧ Hid ((bb || (l.drop k).any fun j => !decide (j ∈ s.done)) = BAD))
      case atStart => exact ⟨0, B0, by omega, by go_num, rfl, ⟨0, rfl⟩, hide (by simpa using unhide HB0)⟩
      case round =>
        obtain ⟨k, bb, hkq, rfl, rfl, ⟨nq, rfl⟩, HB⟩ := hrel
        cases gk with
        | zero =>
          have e1 : (L : Int) ≤ (k : Int) := by omega
          have j1 : decide ((k : Int) < (L : Int)) = false := by simp; omega
          have hbb : bb = BAD := by
            have := unhide HB
            rw [List.drop_eq_nil_of_le (by rw [unhide HL]; omega)] at this
            simpa using this
          subst hbb
          cases bb with
          | true =>
            have hr := unhide HR1
            rw [if_pos rfl, if_pos (by simp)] at hr
            subst hr
            go_wp2
            go_ret
            exact ⟨rfl, (unhide HRM0).finNo ((unhide HBW).trans (below_drewN (Below.refl _ _)))⟩
          | false =>
            have hr := unhide HR1
            rw [if_neg (show ¬ ((if (false = true) then (8 : Int) else 0) ≠ 0) by simp)] at hr
            simp only [Bool.false_eq_true, if_false] at hr
            have HR2 := hide hr
            clear hr
            go_upto_region 24 with fail
            have hV : Below W1.heap.size W1 (W1.drewN nq) := below_drewN (Below.refl _ _)
            have ct' : (W1.drewN nq).cell? ⟨tb, i, none⟩ = some (.int .i64 t) := ct
            have k4' : (W1.drewN nq).cell? ⟨b, 4, none⟩ = some (.slice (some ⟨tb, 0, none⟩) N N) := k4
            have x1' : (W1.drewN nq).cell? ⟨H, 1, none⟩ = some (.int .i64 att) := x1
            have hsz : (W1.drewN nq).heap.size = W1.heap.size := rfl
            obtain ⟨V, hVe⟩ : ∃ V, W1.drewN nq = V := ⟨_, rfl⟩
            rw [hVe] at hV ct' k4' x1' hsz ⊢
            have HV := hide hV
            clear hVe hV HB ct k4 x0 x1 x2 k3 k8 k11
            by_cases ha : att = t + 1
            case neg =>
              have hne : (att != t + 1) = true := by simpa using ha
              have hr := unhide HR2
              rw [if_pos (.inl ha)] at hr
              subst hr
              clear ha
              refine wp_region_quiet_lit (by kernel_rfl) (by kernel_rfl) ?_
              repeat (go_big_quiet_step (fail))
              refine wpQuiet_nil ?_
              intro _ hw'
              obtain ⟨nq, hw''⟩ := hw'
              subst hw''
              go_wp2
              go_ret
              exact ⟨rfl, (unhide HRM0).finNo ((unhide HBW).trans (((unhide HV).mono (unhide HBW).size).trans (below_drewN (Below.refl _ _))))⟩
            case pos =>
              subst ha
              have hr := unhide HR2
              simp only [unhide HFM rfl] at hr
              have HR3 := hide hr
              have hlb : b < V.heap.size ∧ tb < V.heap.size ∧ H < V.heap.size := ⟨cellLt k4', cellLt ct', cellLt x1'⟩
              clear hr HR1 HR2
              go_region_held3 (fun w' => w'.cell? ⟨b, 4, none⟩ = some (.slice (some ⟨tb, 0, none⟩) N N) ∧ w'.cell? ⟨tb, i, none⟩ = some (.int .i64 t) ∧ w'.cell? ⟨H, 1, none⟩ = some (.int .i64 (t + 1))) (first | exact ⟨k4', ct', x1'⟩ | exact S4) (first
                | (go_at_call 75; ((refine (unhide HMO _ (by first | exact unhide HV | exact (unhide HV).drew | exact (unhide HV).trans (below_drewN (n := 1) (Below.refl _ _)))).mono ?_)); rintro e w4 ⟨rfl, hb4⟩; have S4 : w4.cell? ⟨b, 4, none⟩ = some (.slice (some ⟨tb, 0, none⟩) N N) ∧ w4.cell? ⟨tb, i, none⟩ = some (.int .i64 t) ∧ w4.cell? ⟨H, 1, none⟩ = some (.int .i64 (t + 1)) := ⟨(cell_of_block (hb4.block b hlb.1) _).trans k4', (cell_of_block (hb4.block tb hlb.2.1) _).trans ct', (cell_of_block (hb4.block H hlb.2.2) _).trans x1'⟩))
              have hb4w : Below W1.heap.size W1 w4 := by
                have := (unhide HV).size
                first
                  | exact (unhide HV).trans (hb4.mono this)
                  | exact (unhide HV).drew.trans (hb4.mono (by simpa using this))
              have HB4 := hide hb4w
              clear hb4 k4' ct' x1' S4
              by_cases hmt : MO < t + 1
              · have hr := unhide HR3
                rw [if_pos hmt] at hr
                subst hr
                go_wp2
                go_ret
                exact ⟨rfl, (unhide HRM0).finNo ((unhide HBW).trans ((unhide HB4).mono (unhide HBW).size))⟩
              · have hr := unhide HR3
                rw [if_neg hmt] at hr
                subst hr
                have hmd : decide (MO < t + 1) = false := by simpa using hmt
                have h4 := (unhide HRM).below (unhide HB4)
                have g04 : w4.heap[H]? = _ := ((unhide HB4).block H (by omega)).trans (unhide HG0)
                have hb5 := keepsBelow (M := rmB b tb ub ob pb dn un) ((unhide HBW).trans ((unhide HB4).mono (unhide HBW).size))
                have H4 := hide h4
                have HB5 := hide hb5
                have k4' : w4.cell? ⟨b, 4, none⟩ = some (.slice (some ⟨tb, 0, none⟩) d.steps.length d.steps.length) := h4.cell (o := 4) rfl
                have k6' : w4.cell? ⟨b, 6, none⟩ = some (.slice (some ⟨ob, 0, none⟩) d.steps.length d.steps.length) := h4.cell (o := 6) rfl
                rw [unhide HN] at k4' k6'
                have x1' := cellO (o := 1) g04 rfl
                have ct' := h4.tr.cell hiN
                have co' := h4.op.cell hiN
                have ft' := h4.tr.frozen i
                have fo' := h4.op.frozen i
                clear h4 hb5 g04
                go_upto_region 26 with fail
                have hmx := hmixed
                have hto : ¬ tb = ob := (unhide HRM0).ne.1.2.1
                have hot : ¬ ob = tb := fun e => hto e.symm
                go_region
                have h6 := ((unhide H4).setTry i hiN (t + 1)).setOpen i hiN true
                simp only [upd_at, upd_two] at h6
                have H6 := hide h6
                clear h6
                go_wp2
                go_ret
                exact ⟨rfl, _, ⟨_, _, _, _, _, _, _, _, _, (unhide H6).below ((Below.refl _ _).drew), rfl, rfl⟩, (((unhide HB5).trans (keepsSet (.inl (by simp)))).trans (keepsSet (.inl (by simp)))).trans (keepsBelow ((Below.refl _ _).drew))⟩
        | succ g' =>
          have hlt : (k : Int) < (L : Int) := by omega
          have hki : IntKind.i64.wrap ((k : Int) + 1) = (k : Int) + 1 := IntWalk.i64_in _ (by omega)
          obtain ⟨x, hx⟩ := nth_of (unhide HL) (show k < L by omega)
          obtain ⟨b2, o2, rfl, cx⟩ := unhide HIN k x hx
          unfold iv at cx
          have hb := unhide HB
          rw [any_or _ _ _ _ hx] at hb
          have hh := fun q => unhide HHAS x ((W1.drewN nq).drewN q) ⟨nq + q, by simp [World.drewN]; omega⟩
          obtain ⟨HX, hHX⟩ : ∃ B, decide (x ∈ s.done) = B := ⟨_, rfl⟩
          rw [hHX] at hb
          simp only [hHX] at hh
          have HH := hide hh
          have HB2 : Hid (((bb || !HX) || (l.drop (k + 1)).any fun j => !decide (j ∈ s.done)) = BAD) := hide (by rw [← hb, Bool.or_assoc])
          clear hb hx hh hHX
          go_upto_region 21 with fail
          have k3u : (W1.drewN nq).cell? ⟨b, 3, none⟩ = _ := k3
          have k8u : (W1.drewN nq).cell? ⟨b, 8, none⟩ = _ := k8
          have hcu : (W1.drewN nq).cell? ⟨g, i, none⟩ = _ := hc
          have cxu : (W1.drewN nq).cell? ⟨b2, o2 + k, none⟩ = _ := cx
          obtain ⟨U, hU⟩ : ∃ U, W1.drewN nq = U := ⟨_, rfl⟩
          have hh := unhide HH
          rw [hU] at k3u k8u hcu cxu hh ⊢
          have HH2 := hide hh
          have HU := hide hU
          clear hh hU HH
          cases bb with
          | true =>
            refine wp_region_quiet_lit (by kernel_rfl) (by kernel_rfl) ?_
            repeat (go_big_quiet_step (fail))
            refine wpQuiet_nil ?_
            intro _ hw'
            obtain ⟨nq2, hw''⟩ := hw'
            subst hw''
            go_wp2
            go_roundg g'
            case measure => omega
            case rel => exact ⟨k + 1, true, by omega, by go_num, rfl, ⟨nq + nq2, by rw [← unhide HU]; simp [World.drewN]; omega⟩, HB2⟩
          | false =>
            refine wp_region_quiet_lit (by kernel_rfl) (by kernel_rfl) ?_
            repeat (go_big_quiet_step (exact Calls.quiet_of_same (unhide HH2 _)))
            refine wpQuiet_nil ?_
            intro _ hw'
            obtain ⟨nq2, hw''⟩ := hw'
            subst hw''
            go_wp2
            go_roundg g'
            case measure => omega
            case rel => exact ⟨k + 1, !HX, by omega, by go_num, rfl, ⟨nq + nq2, by rw [← unhide HU]; simp [World.drewN]; omega⟩, HB2⟩
    · rw [if_pos hs1, if_pos (by simp)] at hr
      subst hr
      have hne : ((ST : Int) != 1) = true := by simp; omega
      clear hs1
      go_enter Tryz.func17, Tryz.ntmps17
      go_upto_region 1 with fail
      try rw [hH]
      rw [unhide HW1]
      go_wp2
      go_ret
      exact ⟨rfl, (unhide HRM0).finNo (unhide HBW)⟩
end Go.Proofs.YtefokfbgpfcbkaaGreat
