/- ModelKeeps: its loops. -/
import Derived.Test.YtefokfbgpfcbkaaGreatM33z
import Derived.Test.YtefokfbgpfcbkaaGreatM33s
import Derived.Test.YtefokfbgpfcbkaaGreatOpenX
namespace Go.Proofs.YtefokfbgpfcbkaaGreat
set_option linter.unusedVariables false
set_option linter.unusedSimpArgs false
open Go.RowKit
theorem inN_of_iv {W : World} {v : Value} {l : List Nat} (h : Iv W v (l.map fun k : Nat => (k : Int))) : ∃ a c, v = .slice a l.length c ∧ l.length ≤ c ∧ InN W a l := by
  obtain ⟨a, c, rfl, ⟨q1, _⟩, h2⟩ := h
  refine ⟨a, c, by simp, by simpa using q1, fun j x hx => ?_⟩
  exact h2 j (x : Int) (by rw [List.getElem?_map, hx]; rfl)
theorem InN.below' {W W' : World} {a : Option Addr} {l : List Nat} (h : InN W a l) (hb : Below W.heap.size W W') : InN W' a l := fun i x hx => by
  obtain ⟨b, o, e, hc⟩ := h i x hx
  exact ⟨b, o, e, (World.cell?_of_block (a := ⟨b, o + i, none⟩) (hb.block b (cellLt hc))).trans hc⟩
/-- a world that has drawn alone -/
def Dr (V W : World) : Prop := ∃ q, W = V.drewN q
theorem Dr.refl (V : World) : Dr V V := ⟨0, rfl⟩
theorem Dr.more {V W : World} (h : Dr V W) (n : Nat) : Dr V (W.drewN n) := by
  obtain ⟨q, rfl⟩ := h
  exact ⟨q + n, by simp [World.drewN]; omega⟩
theorem Dr.cell {V W : World} (h : Dr V W) (a : Addr) : W.cell? a = V.cell? a := by
  obtain ⟨q, rfl⟩ := h
  rfl
theorem Dr.below {V W : World} (h : Dr V W) : Below V.heap.size V W := by
  obtain ⟨q, rfl⟩ := h
  exact below_drewN (Below.refl _ _)
theorem take_rev {l : List Nat} {m x : Nat} (h : l[m]? = some x) : (l.take (m + 1)).reverse = x :: (l.take m).reverse := by
  rw [List.take_add_one, h]
  simp
theorem undo_cut (d : PDef) (i : Nat) : P33.undoOf (cutD d.bare) i = P33.undoOf d.bare i := by
  unfold P33.undoOf P28.undos cutD
  simp [List.map_map, Function.comp_def, cutS]
theorem notin_take {l : List Nat} (hn : l.Nodup) {m x : Nat} (h : l[m]? = some x) : x ∉ l.take m := by
  intro hm
  obtain ⟨i, hi, e⟩ := List.getElem_of_mem hm
  have hi2 : i < m := by simp at hi; omega
  have hml := (List.getElem?_eq_some_iff.1 h).1
  have h2 := (List.getElem?_eq_some_iff.1 h).2
  rw [List.getElem_take] at e
  exact (List.pairwise_iff_getElem.1 hn) i m (by omega) hml hi2 (by rw [e, h2])
/-- a move of the law as the plain model takes it -/
def Act33.act (a : Act33) : P33.Act := ⟨a.kind, ⟨a.os, a.oa, a.ou⟩, ⟨a.as_, a.aa, a.au, a.ao⟩, a.status⟩
set_option maxRecDepth 100000 in
set_option maxHeartbeats 8000000 in
theorem ModelKeeps_any (d : PDef) (ad : Option Addr) (cap : Nat) (l : List Act33) (w : World) (hin : d.In w) (ha : InR w 10 Act33.cs ad l) (hl : l.length ≤ maxLen) :
    Calls Tryz.prog 4 #[d.val, .slice ad l.length cap] w fun e w' => e = .returned (.bool true) ∧ Below w.heap.size w w' := by
  obtain ⟨H, hH⟩ : ∃ H, w.heap.size = H := ⟨_, rfl⟩
  rw [hH]
  obtain ⟨W1, hW1, hb1, g0, hs1⟩ := new1 w (defO d) H hH
  have hlive := live33_any W1
  have hinV : ∀ V, Below H w V → d.In V := fun V hV => hin.below (by rw [hH]; exact hV)
  have haV : ∀ V, Below H w V → InR V 10 Act33.cs ad l := fun V hV => ha.below (by rw [hH]; exact hV)
  have hbox : ∀ V, Below (H + 1) W1 V → V.heap[H]? = some (defO d) := fun V hV => (hV.block H (by omega)).trans g0
  have hsmall := fun V (hV : Below H w V) => Small21_any d V (hinV V hV)
  obtain ⟨SM, hSM⟩ : ∃ x, P21.small d.bare = x := ⟨_, rfl⟩
  rw [hSM] at hsmall
  obtain ⟨CL, hCL⟩ : ∃ x, P28.clean d.bare = x := ⟨_, rfl⟩
  have hclean := fun V (hV : Below H w V) (hs : SM = true) => Clean_any d V (hinV V hV) (smallD_of (hSM.trans hs)).ok
  rw [hCL] at hclean
  have hnew := fun V (hV : Below H w V) (hs : SM = true) (hc : CL = true) => MdX.new d V (hinV V hV) (smallD_of (hSM.trans hs)).ok ((smallD_of (hSM.trans hs)).cp (by have := clean_ne (hCL.trans hc); simpa [PDef.bare] using this)) (hCL.trans hc) (smallD_of (hSM.trans hs)).af
  have hN30 : SM = true → d.steps.length ≤ 30 := fun hs => (smallD_of (hSM.trans hs)).len
  have hund : ∀ V, Below H w V → ∀ i, i < d.steps.length → ∃ g o, d.sa = some ⟨g, o, none⟩ ∧ V.cell? ⟨g, o + i * 13 + 2, none⟩ = some (.string ⟨(P33.undoOf (cutD d.bare) i).toArray⟩) := fun V hV i hi => by
    have hg := List.getElem?_eq_getElem hi
    obtain ⟨⟨b, o, e, hat⟩, _⟩ := (hinV V hV).steps i _ hg
    refine ⟨b, o, e, ?_⟩
    rw [undo_cut, Md.undo_eq d hg]
    exact hat 2 _ rfl
  have hDl : (cutD d.bare).steps.length = d.steps.length := by simp [cutD, PDef.bare]
  obtain ⟨nm, tx, sa, sc, ss⟩ := d
  obtain ⟨N, hN⟩ : ∃ N, ss.length = N := ⟨_, rfl⟩
  obtain ⟨D, hD⟩ : ∃ D, cutD (PDef.bare ⟨nm, tx, sa, sc, ss⟩) = D := ⟨_, rfl⟩
  obtain ⟨NL, hNL⟩ : ∃ NL, l.length = NL := ⟨_, rfl⟩
  rw [hD] at hnew hund hDl
  rw [hNL] at hl
  unfold defO at hW1 hbox
  unfold PDef.val at hsmall hclean hnew
  simp only [hN] at hsmall hclean hnew hund hDl hW1 hbox hN30
  have hv : PDef.val ⟨nm, tx, sa, sc, ss⟩ = .agg #[.string ⟨nm.toArray⟩, .string ⟨tx.toArray⟩, .slice sa N sc] := by unfold PDef.val; simp only [hN]
  rw [hv, hNL]
  have HLV := hide hlive
  have HBX := hide hbox
  have HSM := hide hsmall
  have HCL := hide hclean
  have HNW := hide hnew
  have HUN := hide hund
  have HAV := hide haV
  have HW1 := hide hW1
  have HB1 := hide hb1
  have HNL := hide hNL
  have hl9 : NL ≤ 9223372036854775807 := by unfold maxLen at hl; omega
  clear hlive hinV haV hbox hsmall hclean hnew hund hW1 hb1 g0 hin ha hSM hCL hN hD hNL hv hl
  go_enter Tryz.func4, Tryz.ntmps4
  go_upto_region 1 with fail
  try rw [hH]
  rw [unhide HW1]
  go_upto_region 3 with (go_at_call 11; refine (unhide HLV).mono ?_; rintro e w2 ⟨rfl, b2⟩)
  have hb2 : Below (H + 1) W1 w2 := by rw [← hs1]; exact b2
  have hw2 : Below H w w2 := (unhide HB1).trans (hb2.mono (by omega))
  obtain ⟨⟨k0, _⟩, ⟨k1, _⟩, ⟨k2, _⟩⟩ := cell3 (unhide HBX w2 hb2)
  have hs2 : H + 1 ≤ w2.heap.size := by have := hb2.size; omega
  have HB2 := hide hb2
  have HW2 := hide hw2
  clear b2 hb2 hw2
  cases SM with
  | false =>
    go_wp2_with (go_at_call 12; refine (unhide HSM _ (unhide HW2)).mono ?_; rintro e w3 ⟨rfl, b3⟩)
    go_ret
    exact ⟨rfl, (unhide HW2).trans (b3.mono (by omega))⟩
  | true =>
    by_cases h120 : 120 < NL
    · have h1 : (120 : Int) < (NL : Int) := by omega
      go_wp2_with (go_at_call 12; refine (unhide HSM _ (unhide HW2)).mono ?_; rintro e w3 ⟨rfl, b3⟩)
      go_ret
      exact ⟨rfl, (unhide HW2).trans (b3.mono (by omega))⟩
    · have h1 : (NL : Int) ≤ 120 := by omega
      have hd : decide ((120 : Int) < (NL : Int)) = false := by simp; omega
      cases CL with
      | false =>
        go_wp2_with (first | (go_at_call 12; refine (unhide HSM _ (unhide HW2)).mono ?_; rintro e w3 ⟨rfl, b3⟩; obtain ⟨⟨x0, _⟩, ⟨x1, _⟩, ⟨x2, _⟩⟩ := cell3 (unhide HBX w3 ((unhide HB2).trans (b3.mono (by omega))))) | (go_at_call 30; refine (unhide HCL _ ((unhide HW2).trans (b3.mono (by omega))) (by simp)).mono ?_; rintro e w4 ⟨rfl, b4⟩))
        go_ret
        exact ⟨rfl, ((unhide HW2).trans (b3.mono (by omega))).trans (b4.mono (by have := b3.size; omega))⟩
      | true =>
        go_upto_region 5 with (first | (go_at_call 12; refine (unhide HSM _ (unhide HW2)).mono ?_; rintro e w3 ⟨rfl, b3⟩; obtain ⟨⟨x0, _⟩, ⟨x1, _⟩, ⟨x2, _⟩⟩ := cell3 (unhide HBX w3 ((unhide HB2).trans (b3.mono (by omega))))) | (go_at_call 30; refine (unhide HCL _ ((unhide HW2).trans (b3.mono (by omega))) (by simp)).mono ?_; rintro e w4 ⟨rfl, b4⟩))
        have hb4 : Below (H + 1) W1 w4 := ((unhide HB2).trans (b3.mono (by omega))).trans (b4.mono (by have := b3.size; omega))
        have hw4 : Below H w w4 := (unhide HB1).trans (hb4.mono (by omega))
        have hs4 : H + 1 ≤ w4.heap.size := by have := hb4.size; omega
        clear k0 k1 k2 x0 x1 x2 b3 b4
        obtain ⟨⟨k0, _⟩, ⟨k1, _⟩, ⟨k2, _⟩⟩ := cell3 (unhide HBX w4 hb4)
        have hN9 := hN30 (by simp)
        have HB4 := hide hb4
        have HW4 := hide hw4
        have HNW4 := hide (unhide HNW w4 hw4 (by simp) (by simp))
        clear hb4 hw4 HNW
        go_upto_region 6 with (go_at_call 13; refine (unhide HNW4).mono ?_; rintro e w5 ⟨b, rfl, hmx⟩)
        have HM5 := hide hmx
        clear hmx k0 k1 k2
        go_wp2
        go_loopg [7] NL (fun g s7 wx => ∃ (i : Nat) (s : P33.S), i + g = NL ∧ s7 = .int .i64 i ∧ Hid (MdX w4 b D s wx))
        case atStart => exact ⟨0, _, by omega, by go_num, HM5⟩
        case round =>
          obtain ⟨i, s, hig, rfl, HMI⟩ := hrel
          cases gk with
          | zero =>
            have e1 : (NL : Int) ≤ (i : Int) := by omega
            have j1 : decide ((i : Int) < (NL : Int)) = false := by simp; omega
            go_wp2
            go_ret
            exact ⟨rfl, (unhide HW4).trans ((unhide HMI).bel.mono (by omega))⟩
          | succ g' =>
            have hlt : (i : Int) < (NL : Int) := by omega
            have hkj : IntKind.i64.wrap ((i : Int) + 1) = (i : Int) + 1 := IntWalk.i64_in _ (by omega)
            obtain ⟨a, hai⟩ := nth_of (unhide HNL) (show i < NL by omega)
            have hbw : Below H w wr := (unhide HW4).trans ((unhide HMI).bel.mono (by omega))
            obtain ⟨ab, ao, rfl, hac⟩ := unhide HAV wr hbw i a hai
            obtain ⟨kind, os, oa, ou, ot, as_, aa, au, oc, stt⟩ := a
            have c0 : wr.cell? ⟨ab, ao + i * 10, none⟩ = some (.int .u8 kind) := by have := hac 0 _ rfl; simpa using this
            have c1 := hac 1 _ rfl
            have c2 := hac 2 _ rfl
            have c3 := hac 3 _ rfl
            have c4 := hac 4 _ rfl
            have c5 := hac 5 _ rfl
            have c6 := hac 6 _ rfl
            have c7 := hac 7 _ rfl
            have c8 := hac 8 _ rfl
            have c9 := hac 9 _ rfl
            simp only at c1 c2 c3 c4 c5 c6 c7 c8 c9
            have hst := (unhide HMI).status
            obtain ⟨⟨F, s'⟩, hX⟩ : ∃ X, P33.act D s ⟨kind, ⟨os, oa, ou⟩, ⟨as_, aa, au, oc⟩, stt⟩ = X := ⟨_, rfl⟩
            have hend : 2 < s.status → F ≠ 0 := fun h => by have := P33.act_ended (d := D) h ⟨kind, ⟨os, oa, ou⟩, ⟨as_, aa, au, oc⟩, stt⟩; rw [hX] at this; exact this
            have HST := hide hst
            have HBW := hide hbw
            have HEND := hide hend
            clear hst hac hbw hend hai
            have hkd : kind = 0 ∨ kind = 1 ∨ kind = 2 ∨ (kind ≠ 0 ∧ kind ≠ 1 ∧ kind ≠ 2) := by omega
            rcases hkd with rfl | rfl | rfl | ⟨n0, n1, n2⟩
            case' inl =>
              have hk := (unhide HMI).asks ⟨os, oa, ou⟩ ot
              rw [show P33.asks D s ⟨os, oa, ou⟩ = (F, s') from hX] at hk
              have HK := hide hk
              clear hk hX
              go_upto_region 21 with (first | (go_at_call 25; refine (unhide HST).mono ?_; rintro e w' ⟨rfl, hw⟩; have hw := hw.symm; subst hw) | (go_at_call 16; refine (unhide HK).mono ?_; rintro e V ⟨rfl, hm⟩))
            case' inr.inl =>
              have hk := (unhide HMI).says ⟨as_, aa, au, oc⟩
              rw [show P33.says D s ⟨as_, aa, au, oc⟩ = (F, s') from hX] at hk
              have HK := hide hk
              clear hk hX
              go_upto_region 21 with (first | (go_at_call 25; refine (unhide HST).mono ?_; rintro e w' ⟨rfl, hw⟩; have hw := hw.symm; subst hw) | (go_at_call 18; refine (unhide HK).mono ?_; rintro e V ⟨rfl, hm⟩))
            case' inr.inr.inl =>
              have hk := (unhide HMI).halts
              rw [show P33.halts s = (F, s') from hX] at hk
              have HK := hide hk
              clear hk hX
              go_upto_region 21 with (first | (go_at_call 25; refine (unhide HST).mono ?_; rintro e w' ⟨rfl, hw⟩; have hw := hw.symm; subst hw) | (go_at_call 20; refine (unhide HK).mono ?_; rintro e V ⟨rfl, hm⟩))
            case' inr.inr.inr =>
              have hk := (unhide HMI).ends stt
              have hX2 : P33.ends D s stt = (F, s') := by
                unfold P33.act at hX
                rw [if_neg n0, if_neg n1, if_neg n2] at hX
                exact hX
              rw [hX2] at hk
              have HK := hide hk
              have b0 : ((kind : Int) == 0) = false := by simp; omega
              have b1 : ((kind : Int) == 1) = false := by simp; omega
              have b2 : ((kind : Int) == 2) = false := by simp; omega
              clear hk hX hX2
              go_upto_region 21 with (first | (go_at_call 25; refine (unhide HST).mono ?_; rintro e w' ⟨rfl, hw⟩; have hw := hw.symm; subst hw) | (go_at_call 22; refine (unhide HK).mono ?_; rintro e V ⟨rfl, hm⟩))
            all_goals
              have HM := hide hm
              clear hm c0 c1 c2 c3 c4 c5 c6 c7 c8 c9 HK HST
              rcases Nat.lt_or_ge 2 s.status with he | he
              case' inl =>
                have d1 : decide ((s.status : Int) > 2) = true := by simp; omega
                have hf : (F == 0) = false := by simpa using unhide HEND he
                go_upto_region 23 with fail
              case' inr =>
                have d1 : decide ((s.status : Int) > 2) = false := by simp; omega
                go_upto_region 23 with fail
              all_goals
                clear d1 he
                go_upto_region 24 with (first | (go_at_call 27; refine (unhide HM).done.mono ?_; rintro e V1 ⟨v1, rfl, hv1, hm1, hb1⟩; obtain ⟨a1, c1, rfl, hcap1, hin1⟩ := inN_of_iv hv1; clear hv1) | (go_at_call 28; refine hm1.undone.mono ?_; rintro e V2 ⟨v2, rfl, hv2, hm2, hb2⟩; obtain ⟨a2, c2, rfl, hcap2, hin2⟩ := inN_of_iv hv2; clear hv2))
            all_goals
              have hinv := hm2.inv
              have hkeep := P33.Inv.keeps hinv
              have hnd := hinv.nodup
              have hlt2 := hinv.lt
              rw [hDl] at hlt2
              have hA30 := P32.len_le N s'.done hnd hlt2
              have hU30 : s'.undone.length ≤ s'.done.length := by
                have h1 := hinv.len
                have h2 : (P33.todo D s').length ≤ s'.done.length := by
                  unfold P33.todo
                  exact Nat.le_trans (List.length_filter_le _ _) (by simp)
                omega
              have hin1' := hin1.below' hb2
              have hbV : Below (H + 1) W1 V2 := (unhide HB4).trans (hm2.bel.mono (by omega))
              have hbV2 : Below H w V2 := (unhide HB1).trans (hbV.mono (by omega))
              have kk2 := (cell3 (unhide HBX V2 hbV)).2.2.1
              have hun := unhide HUN V2 hbV2
              obtain ⟨A, hA⟩ : ∃ A, s'.done.length = A := ⟨_, rfl⟩
              obtain ⟨U, hU⟩ : ∃ U, s'.undone.length = U := ⟨_, rfl⟩
              rw [hA] at hA30 hU30 hcap1
              rw [hU] at hU30
              rw [hA, hU]
              have hw0 : IntKind.i64.wrap ((A : Int) - 1) = (A : Int) - 1 := IntWalk.i64_in _ (by omega)
              have HM2 := hide hm2
              have HKEEP := hide hkeep
              have HND := hide hnd
              have HLT2 := hide hlt2
              have HIN1 := hide hin1'
              have HIN2 := hide hin2
              have HUNV := hide hun
              have HKK2 := hide kk2
              have HA := hide hA
              have HU := hide hU
              clear hm2 hm1 hinv hkeep hnd hlt2 hin1 hin1' hin2 hbV hbV2 kk2 hun hA hU hb1 hb2 HM HEND HMI HBW
              go_wp2
              go_loopg [12, 13] U (fun g s12 s13 wx => ∃ (n j : Nat) (kk : Int), n + g = U ∧ s13 = .int .i64 n ∧ s12 = .int .i64 kk ∧ kk + 1 = (j : Int) ∧ j ≤ A ∧ Hid (Dr V2 wx) ∧ Hid (P33.keeps D (s'.done.take j).reverse (s'.undone.drop n) = true))
              case atStart =>
                refine ⟨0, A, (A : Int) - 1, by omega, by go_num, rfl, by omega, Nat.le_refl _, hide (Dr.refl _), hide ?_⟩
                rw [List.take_of_length_le (by rw [unhide HA]; exact Nat.le_refl _), List.drop_zero]
                exact unhide HKEEP
              case round =>
                obtain ⟨n, j, kk, hng, rfl, rfl, hkj1, hjA, HDR, HKP⟩ := hrel
                cases gk with
                | zero =>
                  have e1 : (U : Int) ≤ (n : Int) := by omega
                  have j1 : decide ((n : Int) < (U : Int)) = false := by simp; omega
                  go_wp2
                  go_loopg [14] A (fun g s14 wx => ∃ m : Nat, m + g = A ∧ s14 = .int .i64 m ∧ Hid (Dr V2 wx))
                  case atStart => exact ⟨0, by omega, by go_num, HDR⟩
                  case round =>
                    obtain ⟨m, hmg, rfl, HDR2⟩ := hrel
                    cases gk with
                    | zero =>
                      have e2 : (A : Int) ≤ (m : Int) := by omega
                      have j2 : decide ((m : Int) < (A : Int)) = false := by simp; omega
                      go_wp2
                      go_roundg g'
                      case measure => omega
                      case rel => exact ⟨i + 1, s', by omega, by go_num, hide ((unhide HM2).below (unhide HDR2).below)⟩
                    | succ g3 =>
                      have hlt3 : (m : Int) < (A : Int) := by omega
                      have hmc : (m : Int) ≤ (c1 : Int) := by omega
                      have hkj3 : IntKind.i64.wrap ((m : Int) + 1) = (m : Int) + 1 := IntWalk.i64_in _ (by omega)
                      obtain ⟨x, hx⟩ := nth_of (unhide HA) (show m < A by omega)
                      have hnot := notin_take (unhide HND) hx
                      obtain ⟨rb, ro, rfl, cj⟩ := unhide HIN1 m x hx
                      unfold iv at cj
                      have cj3 := ((unhide HDR2).cell ⟨rb, ro + m, none⟩).trans cj
                      have hc := fun q : Nat => Has_any (some ⟨rb, ro, none⟩) c1 (s'.done.take m) x (wr.drewN q) (fun k y hy => by
                        have hk : k < m := by have := (List.getElem?_eq_some_iff.1 hy).1; simp at this; omega
                        rw [List.getElem?_take_of_lt hk] at hy
                        obtain ⟨b2, o2, e, hc2⟩ := unhide HIN1 k y hy
                        exact ⟨b2, o2, e, (((unhide HDR2).more q).cell _).trans hc2⟩) (by rw [List.length_take, unhide HA]; omega)
                      have hlen : (s'.done.take m).length = m := by rw [List.length_take, unhide HA]; omega
                      simp only [hlen, hnot, decide_false] at hc
                      have HC := hide hc
                      clear hc hx hnot cj
                      go_upto_region 36 with fail
                      go_quiet (exact Calls.quiet_of_same (unhide HC _))
                      go_wp2
                      go_roundg g3
                      case measure => omega
                      case rel => exact ⟨m + 1, by omega, by go_num, hide ((unhide HDR2).more _)⟩
                | succ g1 =>
                  have hltn : (n : Int) < (U : Int) := by omega
                  have hkjn : IntKind.i64.wrap ((n : Int) + 1) = (n : Int) + 1 := IntWalk.i64_in _ (by omega)
                  obtain ⟨u, hu⟩ := nth_of (unhide HU) (show n < U by omega)
                  have hdrop : s'.undone.drop n = u :: s'.undone.drop (n + 1) := by
                    obtain ⟨hl, e⟩ := List.getElem?_eq_some_iff.1 hu
                    rw [List.drop_eq_getElem_cons hl, e]
                  have hkp := unhide HKP
                  rw [hdrop] at hkp
                  obtain ⟨ub, uo, rfl, cu⟩ := unhide HIN2 n u hu
                  unfold iv at cu
                  have HKP2 := hide hkp
                  have HCU := hide cu
                  clear hkp hdrop hu cu HKP
                  go_wp2
                  go_loopg [12] j (fun g2 s12 wx => ∃ kk : Int, s12 = .int .i64 kk ∧ kk + 1 = (g2 : Int) ∧ g2 ≤ A ∧ Hid (Dr V2 wx) ∧ Hid (P33.keeps D (s'.done.take g2).reverse (u :: s'.undone.drop (n + 1)) = true))
                  case atStart => exact ⟨kk, by go_num, hkj1, hjA, HDR, HKP2⟩
                  case round =>
                    obtain ⟨k3, rfl, hk3, hgA, HDR2, HKP3⟩ := hrel
                    cases gk with
                    | zero =>
                      have := unhide HKP3
                      simp [P33.keeps] at this
                    | succ m =>
                      obtain rfl : k3 = (m : Int) := by omega
                      obtain ⟨x, hx⟩ := nth_of (unhide HA) (show m < A by omega)
                      have hkp := unhide HKP3
                      rw [take_rev hx, P33.keeps] at hkp
                      obtain ⟨rb, ro, rfl, cj⟩ := unhide HIN1 m x hx
                      unfold iv at cj
                      have cj3 := ((unhide HDR2).cell ⟨rb, ro + m, none⟩).trans cj
                      have cu3 := ((unhide HDR2).cell ⟨ub, uo + n, none⟩).trans (unhide HCU)
                      have kk3 := ((unhide HDR2).cell ⟨H, 2, none⟩).trans (unhide HKK2)
                      have hxN := unhide HLT2 x (List.mem_of_getElem? hx)
                      have hxN2 : (x : Int) < (N : Int) := by omega
                      have hmA : (m : Int) < (A : Int) := by omega
                      obtain ⟨sg, so, rfl, cs⟩ := unhide HUNV x hxN
                      have cs3 := ((unhide HDR2).cell ⟨sg, so + x * 13 + 2, none⟩).trans cs
                      have hkm : IntKind.i64.wrap ((m : Int) - 1) = (m : Int) - 1 := IntWalk.i64_in _ (by omega)
                      obtain ⟨ud, hud⟩ : ∃ ud, P33.undoOf D x = ud := ⟨_, rfl⟩
                      rw [hud] at cs3 hkp
                      clear cj cs hx hud
                      cases ud with
                      | nil =>
                        have hkp2 : P33.keeps D (s'.done.take m).reverse (u :: s'.undone.drop (n + 1)) = true := by simpa using hkp
                        have HKP4 := hide hkp2
                        clear hkp hkp2
                        go_upto_region 28 with fail
                        go_quiet (fail)
                        go_wp2
                        go_roundg m
                        case measure => omega
                        case rel => exact ⟨(m : Int) - 1, by go_num, by omega, by omega, hide ((unhide HDR2).more _), HKP4⟩
                      | cons uc ur =>
                        simp only [List.isEmpty_cons, Bool.false_eq_true, if_false, Bool.and_eq_true, beq_iff_eq] at hkp
                        obtain ⟨rfl, hkp2⟩ := hkp
                        have HKP4 := hide hkp2
                        clear hkp2
                        go_upto_region 28 with fail
                        go_quiet (fail)
                        go_upto_region 30 with fail
                        go_quiet (fail)
                        go_wp2
                        go_roundg g1
                        case measure => omega
                        case rel => exact ⟨n + 1, m, (m : Int) - 1, by omega, by go_num, rfl, by omega, by omega, hide ((unhide HDR2).more _), HKP4⟩
/-- a definition that is handed in -/
def DefIn (W : World) (v : Value) : Prop := ∃ D : PDef, v = D.val ∧ D.In W ∧ D.name.length ≤ maxLen ∧ D.text.length ≤ maxLen ∧ ∀ s ∈ D.steps, s.fit
theorem ModelKeeps_row (v0 v1 : Value) (w : World) (h0 : DefIn w v0) (h1 : Acts33 w v1) : Calls Tryz.prog 4 #[v0, v1] w fun e w' => e = .returned (.bool true) ∧ Below w.heap.size w w' := by
  obtain ⟨D, rfl, h2, _⟩ := h0
  obtain ⟨ad, l, cap, rfl, h3, h4⟩ := h1
  exact ModelKeeps_any D ad cap l w h2 h3 h4
end Go.Proofs.YtefokfbgpfcbkaaGreat
