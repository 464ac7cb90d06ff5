/- Lemmas of this claim (a part of its texts, kept as far as the claim reaches them). -/
import Derived.Test.YtefokfbgpfcbkaaGreatS32wZ
namespace Go.Proofs.YtefokfbgpfcbkaaGreat
set_option linter.unusedVariables false
set_option linter.unusedSimpArgs false
open Go.RowKit
set_option maxRecDepth 100000 in
set_option maxHeartbeats 8000000 in
theorem SagaOnce_any (d : PDef) (ad : Option Addr) (cap : Nat) (l : List Ask32) (a : P33.Ans) (now : Int) (w : World) (hin : d.In w) (ha : InR w 7 Ask32.cs ad l) (hl : l.length ≤ maxLen) :
    Calls Tryz.prog 10 #[d.val, .slice ad l.length cap, .agg #[.int .i64 a.step, .int .i64 a.attempt, .bool a.undo, .int .u8 (a.outcome : Int)], .int .i64 now] w fun e w' => e = .returned (.bool true) ∧ Below w.heap.size w w' := by
  obtain ⟨H, hH⟩ : ∃ H, w.heap.size = H := ⟨_, rfl⟩
  rw [hH]
  obtain ⟨W1, hW1, hb1, g0, g1, hs1⟩ := new2 w (defO d) (.cells #[.int .i64 a.step, .int .i64 a.attempt, .bool a.undo, .int .u8 (a.outcome : Int)] 37) H hH
  have hlive := live32_any W1
  have hinV : ∀ V, Below H w V → d.In V := fun V hV => hin.below (by rw [hH]; exact hV)
  have haV : ∀ V, Below H w V → InR V 7 Ask32.cs ad l := fun V hV => ha.below (by rw [hH]; exact hV)
  have hbox : ∀ V, Below (H + 1 + 1) W1 V → V.heap[H]? = some (defO d) := fun V hV => (hV.block H (by omega)).trans g0
  have hboxA : ∀ V, Below (H + 1 + 1) W1 V → V.heap[H + 1]? = some (.cells #[.int .i64 a.step, .int .i64 a.attempt, .bool a.undo, .int .u8 (a.outcome : Int)] 37) := fun V hV => (hV.block _ (by omega)).trans g1
  have hsmall := fun V (hV : Below H w V) => Small21_any d V (hinV V hV)
  obtain ⟨SM, hSM⟩ : ∃ x, P21.small d.bare = x := ⟨_, rfl⟩
  rw [hSM] at hsmall
  obtain ⟨CL, hCL⟩ : ∃ x, P28.clean d.bare = x := ⟨_, rfl⟩
  have hclean := fun V (hV : Below H w V) (hs : SM = true) => Clean_any d V (hinV V hV) (smallD_of (hSM.trans hs)).ok
  rw [hCL] at hclean
  have hnew := fun V (hV : Below H w V) (hs : SM = true) (hc : CL = true) => SgB.new d V (hinV V hV) (smallD_of (hSM.trans hs)).ok ((smallD_of (hSM.trans hs)).cp (by have := clean_ne (hCL.trans hc); simpa [PDef.bare] using this)) (hCL.trans hc) (smallD_of (hSM.trans hs)).af
  have hDl : (cutD d.bare).steps.length = d.steps.length := by simp [cutD, PDef.bare]
  obtain ⟨nm, tx, sa, sc, ss⟩ := d
  obtain ⟨N, hN⟩ : ∃ N, ss.length = N := ⟨_, rfl⟩
  obtain ⟨D, hD⟩ : ∃ D, cutD (PDef.bare ⟨nm, tx, sa, sc, ss⟩) = D := ⟨_, rfl⟩
  obtain ⟨NL, hNL⟩ : ∃ NL, l.length = NL := ⟨_, rfl⟩
  rw [hD] at hnew hDl
  rw [hNL] at hl
  unfold defO at hW1 hbox
  unfold PDef.val at hsmall hclean hnew
  simp only [hN] at hsmall hclean hnew hDl hW1 hbox
  have hv : PDef.val ⟨nm, tx, sa, sc, ss⟩ = .agg #[.string ⟨nm.toArray⟩, .string ⟨tx.toArray⟩, .slice sa N sc] := by unfold PDef.val; simp only [hN]
  rw [hv, hNL]
  have HLV := hide hlive
  have HBX := hide hbox
  have HBA := hide hboxA
  have HSM := hide hsmall
  have HCL := hide hclean
  have HNW := hide hnew
  have HAV := hide haV
  have HW1 := hide hW1
  have HB1 := hide hb1
  have HNL := hide hNL
  have HDL := hide hDl
  have hl9 : NL ≤ 9223372036854775807 := by unfold maxLen at hl; omega
  clear hlive hinV haV hbox hboxA hsmall hclean hnew hW1 hb1 g0 g1 hin ha hSM hCL hN hD hNL hv hl hDl
  go_enter Tryz.func10, Tryz.ntmps10
  go_upto_region 1 with fail
  try rw [hH]
  rw [unhide HW1]
  go_upto_region 3 with (go_at_call 48; refine (unhide HLV).mono ?_; rintro e w2 ⟨rfl, b2⟩)
  have hb2 : Below (H + 1 + 1) W1 w2 := by rw [← hs1]; exact b2
  have hw2 : Below H w w2 := (unhide HB1).trans (hb2.mono (by omega))
  obtain ⟨⟨k0, _⟩, ⟨k1, _⟩, ⟨k2, _⟩⟩ := cell3 (unhide HBX w2 hb2)
  have hs2 : H + 1 + 1 ≤ w2.heap.size := by have := hb2.size; omega
  have HB2 := hide hb2
  have HW2 := hide hw2
  clear b2 hb2 hw2
  cases SM with
  | false =>
    go_wp2_with (go_at_call 12; refine (unhide HSM _ (unhide HW2)).mono ?_; rintro e w3 ⟨rfl, b3⟩)
    go_ret
    exact ⟨rfl, (unhide HW2).trans (b3.mono (by omega))⟩
  | true =>
    by_cases h120 : 120 < NL
    · have h1 : (120 : Int) < (NL : Int) := by omega
      go_wp2_with (go_at_call 12; refine (unhide HSM _ (unhide HW2)).mono ?_; rintro e w3 ⟨rfl, b3⟩)
      go_ret
      exact ⟨rfl, (unhide HW2).trans (b3.mono (by omega))⟩
    · have h1 : (NL : Int) ≤ 120 := by omega
      have hd : decide ((120 : Int) < (NL : Int)) = false := by simp; omega
      cases CL with
      | false =>
        go_wp2_with (first | (go_at_call 12; refine (unhide HSM _ (unhide HW2)).mono ?_; rintro e w3 ⟨rfl, b3⟩; obtain ⟨⟨x0, _⟩, ⟨x1, _⟩, ⟨x2, _⟩⟩ := cell3 (unhide HBX w3 ((unhide HB2).trans (b3.mono (by omega))))) | (go_at_call 30; refine (unhide HCL _ ((unhide HW2).trans (b3.mono (by omega))) (by simp)).mono ?_; rintro e w4 ⟨rfl, b4⟩))
        go_ret
        exact ⟨rfl, ((unhide HW2).trans (b3.mono (by omega))).trans (b4.mono (by have := b3.size; omega))⟩
      | true =>
        go_upto_region 5 with (first | (go_at_call 12; refine (unhide HSM _ (unhide HW2)).mono ?_; rintro e w3 ⟨rfl, b3⟩; obtain ⟨⟨x0, _⟩, ⟨x1, _⟩, ⟨x2, _⟩⟩ := cell3 (unhide HBX w3 ((unhide HB2).trans (b3.mono (by omega))))) | (go_at_call 30; refine (unhide HCL _ ((unhide HW2).trans (b3.mono (by omega))) (by simp)).mono ?_; rintro e w4 ⟨rfl, b4⟩))
        have hb4 : Below (H + 1 + 1) W1 w4 := ((unhide HB2).trans (b3.mono (by omega))).trans (b4.mono (by have := b3.size; omega))
        have hw4 : Below H w w4 := (unhide HB1).trans (hb4.mono (by omega))
        have hs4 : H + 1 + 1 ≤ w4.heap.size := by have := hb4.size; omega
        clear k0 k1 k2 x0 x1 x2 b3 b4
        obtain ⟨⟨k0, _⟩, ⟨k1, _⟩, ⟨k2, _⟩⟩ := cell3 (unhide HBX w4 hb4)
        have HB4 := hide hb4
        have HW4 := hide hw4
        have HNW4 := hide (unhide HNW w4 hw4 (by simp) (by simp))
        clear hb4 hw4 HNW
        go_upto_region 6 with (go_at_call 49; refine (unhide HNW4).mono ?_; rintro e w5 ⟨b, rfl, hmx⟩)
        have HM5 := hide hmx
        clear hmx k0 k1 k2
        go_wp2
        go_loopg [11] NL (fun g s11 wx => ∃ (i : Nat) (s : P32.S), i + g = NL ∧ s11 = .int .i64 i ∧ Hid (SgB w4 b D s wx))
        case atStart => exact ⟨0, _, by omega, by go_num, HM5⟩
        case round =>
          obtain ⟨i, s, hig, rfl, HMI⟩ := hrel
          cases gk with
          | succ g' =>
            have hlt : (i : Int) < (NL : Int) := by omega
            have hkj : IntKind.i64.wrap ((i : Int) + 1) = (i : Int) + 1 := IntWalk.i64_in _ (by omega)
            obtain ⟨ak, hai⟩ := nth_of (unhide HNL) (show i < NL by omega)
            have hbw : Below H w wr := (unhide HW4).trans ((unhide HMI).bel.mono (by omega))
            obtain ⟨ab, ao, rfl, hac⟩ := unhide HAV wr hbw i ak hai
            have hgv := (unhide HMI).give ak.a ak.lt
            obtain ⟨⟨kk, ⟨ks, ka, ku, ko⟩, kn, kp⟩, klt⟩ := ak
            have c0 : wr.cell? ⟨ab, ao + i * 7, none⟩ = some (.int .u8 (kk : Int)) := by have := hac 0 _ rfl; simpa using this
            have c1 := hac 1 _ rfl
            have c2 := hac 2 _ rfl
            have c3 := hac 3 _ rfl
            have c4 := hac 4 _ rfl
            have c5 := hac 5 _ rfl
            have c6 := hac 6 _ rfl
            simp only at c1 c2 c3 c4 c5 c6 hgv
            have HGV := hide hgv
            clear hac hbw hai hgv
            go_wp2_with (go_at_call 60; refine (unhide HGV).mono ?_; rintro e V4 ⟨v4, rfl, _, h4⟩; have HE := hide h4; clear h4)
            go_roundg g'
            case measure => omega
            case rel => exact ⟨i + 1, _, by omega, by go_num, HE⟩
          | zero =>
            have e1 : (NL : Int) ≤ (i : Int) := by omega
            have j1 : decide ((i : Int) < (NL : Int)) = false := by simp; omega
            have hinv := (unhide HMI).inv
            have han := (unhide HMI).answer now a
            obtain ⟨s1, hs1'⟩ : ∃ z, (P32.answer D now a s).1.1 = z := ⟨_, rfl⟩
            obtain ⟨OK, hOK⟩ : ∃ z, (P32.answer D now a s).2 = z := ⟨_, rfl⟩
            have htw : OK = true → P32.answer D now a s1 = ((s1, []), false) := fun e => by
              rw [← hs1']
              exact P32.answer_twice (hOK.trans e)
            rw [hs1', hOK] at han
            have hbA := unhide HBA wr ((unhide HB4).trans ((unhide HMI).bel.mono (by omega)))
            obtain ⟨⟨a0, _⟩, ⟨a1, _⟩, ⟨a2, _⟩, ⟨a3, _⟩⟩ := cell4 hbA
            have HAN := hide han
            have HTW := hide htw
            clear hinv han hs1' hOK htw hbA
            go_upto_region 13 with (go_at_call 61; refine (unhide HAN).mono ?_; rintro e V1 ⟨va, vc, rfl, hm1⟩)
            obtain ⟨LX, hLX⟩ : ∃ z, (P32.answer D now a s).1.2.length = z := ⟨_, rfl⟩
            rw [hLX]
            have HM1 := hide hm1
            have hbA := unhide HBA V1 ((unhide HB4).trans (hm1.bel.mono (by omega)))
            clear hLX hm1 a0 a1 a2 a3
            obtain ⟨⟨a0, _⟩, ⟨a1, _⟩, ⟨a2, _⟩, ⟨a3, _⟩⟩ := cell4 hbA
            clear hbA
            cases OK
            case' false =>
              obtain ⟨VX, rfl⟩ : ∃ X, X = V1 := ⟨_, rfl⟩
              have HMX := HM1
              go_upto_region 17 with fail
            case' true =>
              have ha2 := (unhide HM1).answer now a
              rw [unhide HTW (by simp)] at ha2
              simp only [List.length_nil] at ha2
              have HA2 := hide ha2
              clear ha2
              go_upto_region 17 with (go_at_call 61; refine (unhide HA2).mono ?_; rintro e VX ⟨qa, qc, rfl, hmX⟩)
              have HMX := hide hmX
              clear hmX
            all_goals
              have hbx := (unhide HB4).trans ((unhide HMX).bel.mono (by omega))
              have hfin := (unhide HW4).trans ((unhide HMX).bel.mono (by omega))
              have hov := (unhide HMX).over
              have hst := (unhide HMX).status
              have hinv := (unhide HMX).inv
              have HFIN := hide hfin
              obtain ⟨ST, hST⟩ : ∃ z, s1.status = z := ⟨_, rfl⟩
              clear a0 a1 a2 a3 hfin HTW HAN
              by_cases ho : 2 < s1.status
              case' neg =>
                have d1 : decide (2 < s1.status) = false := by simp; omega
                rw [d1] at hov
                rw [hST] at hst
                have l1 : (ST : Int) ≤ 2 := by omega
                have HOV := hide hov
                have HST := hide hst
                clear hov hst hinv hST d1 ho hbx
                go_wp2_with (first | (go_at_call 58; refine (unhide HOV).mono ?_; rintro e w' ⟨rfl, hw⟩; have hw := hw.symm; subst hw) | (go_at_call 52; refine (unhide HST).mono ?_; rintro e w' ⟨rfl, hw⟩; have hw := hw.symm; subst hw))
                go_ret
                exact ⟨rfl, unhide HFIN⟩
              case' pos =>
                have d1 : decide (2 < s1.status) = true := by simp; omega
                rw [d1] at hov
                have hmn := P32.over_means hinv ho
                have hop0 := P32.over_none hinv ho
                have hdn := fun V (hV : SgB w4 b D s1 V) => hV.done
                have hun := fun V (hV : SgB w4 b D s1 V) => hV.undone
                have han := fun V (hV : SgB w4 b D s1 V) => hV.answer now a
                have hca := fun V (hV : SgB w4 b D s1 V) => hV.cancel now
                have hti := fun V (hV : SgB w4 b D s1 V) => hV.tick now
                have hsa := fun V (hV : SgB w4 b D s1 V) => hV.start now
                have hopn := fun V (hV : SgB w4 b D s1 V) => hV.opens
                have hstt := fun V (hV : SgB w4 b D s1 V) => hV.status
                have hbA := fun V (hV : SgB w4 b D s1 V) => cell4 (unhide HBA V ((unhide HB4).trans (hV.bel.mono (by omega))))
                have hbD := fun V (hV : SgB w4 b D s1 V) => cell3 (unhide HBX V ((unhide HB4).trans (hV.bel.mono (by omega))))
                have hbF := fun V (hV : SgB w4 b D s1 V) => (unhide HW4).trans (hV.bel.mono (by omega))
                simp only [P32.over_answer ho, P32.over_cancel ho, P32.over_tick ho, P32.over_start ho, hop0, List.length_nil] at han hca hti hsa hopn
                obtain ⟨DN, hDN⟩ : ∃ z, s1.done.length = z := ⟨_, rfl⟩
                obtain ⟨UN, hUN⟩ : ∃ z, s1.undone.length = z := ⟨_, rfl⟩
                rw [hST] at hstt hmn
                rw [hDN] at hdn hmn
                rw [hUN] at hun hmn
                rw [unhide HDL] at hmn
                have HOV := hide hov
                have HMN := hide hmn
                have HDN := hide hdn
                have HUN := hide hun
                have HANS := hide han
                have HCA := hide hca
                have HTI := hide hti
                have HSA := hide hsa
                have HOPN := hide hopn
                have HSTT := hide hstt
                have HBAA := hide hbA
                have HBDD := hide hbD
                have HBF := hide hbF
                clear hov hst hinv hST d1 ho hbx hmn hop0 hdn hun han hca hti hsa hopn hstt hbA hbD hbF hDN hUN
                go_upto_region 20 with (first
                  | (go_at_call 58; refine (unhide HOV).mono ?_; rintro e w' ⟨rfl, hw⟩; have hw := hw.symm; subst hw)
                  | (go_at_call 53; refine (unhide HDN _ (unhide HMX)).mono ?_; rintro e Y1 ⟨da, dc, rfl, _, _, hy1, _⟩))
                obtain ⟨⟨a0, _⟩, ⟨a1, _⟩, ⟨a2, _⟩, ⟨a3, _⟩⟩ := unhide HBAA Y1 hy1
                have HY1 := hide hy1
                clear hy1
                go_upto_region 22 with (first
                  | (go_at_call 61; refine (unhide HANS _ (unhide HY1)).mono ?_; rintro e Y2 ⟨ya, yc, rfl, hy2⟩; have HY2 := hide hy2; clear hy2)
                  | (go_at_call 62; refine (unhide HCA _ (unhide HY2)).mono ?_; rintro e Y3 ⟨za, zc, rfl, hy3⟩; have HY3 := hide hy3; clear hy3))
                clear a0 a1 a2 a3
                go_upto_region 24 with (first
                  | (go_at_call 63; refine (unhide HTI _ (unhide HY3)).mono ?_; rintro e Y4 ⟨ta, tc, rfl, hy4⟩; have HY4 := hide hy4; clear hy4)
                  | (go_at_call 64; refine (unhide HSA _ (unhide HY4)).mono ?_; rintro e Y5 ⟨ua, uc, rfl, hy5⟩; have HY5 := hide hy5; clear hy5)
                  | (go_at_call 56; refine (unhide HOPN _ (unhide HY5)).mono ?_; rintro e Y6 ⟨oa, oc, rfl, _, hy6, _⟩; have HY6 := hide hy6; clear hy6)
                  | (go_at_call 53; refine (unhide HDN _ (unhide HY6)).mono ?_; rintro e Y7 ⟨ea, ec, rfl, _, _, hy7, _⟩; have HY7 := hide hy7; clear hy7))
                obtain ⟨⟨k0, _⟩, ⟨k1, _⟩, ⟨k2, _⟩⟩ := unhide HBDD Y7 (unhide HY7)
                rcases unhide HMN with ⟨e1, e2, e3⟩ | ⟨e1, e2⟩ | ⟨e1, e2⟩
                case' inl =>
                  have p3 : ((ST : Int) == 3) = true := by simp; omega
                  have p9 : ((DN : Int) == (N : Int)) = true := by simp; omega
                  have p8 : ((UN : Int) == 0) = true := by simp; omega
                case' inr.inl =>
                  have p3 : ((ST : Int) == 3) = false := by simp; omega
                  have p4 : ((ST : Int) == 4) = true := by simp; omega
                  have p8 : ((UN : Int) == (DN : Int)) = true := by simp; omega
                case' inr.inr =>
                  have p3 : ((ST : Int) == 3) = false := by simp; omega
                  have p4 : ((ST : Int) == 4) = false := by simp; omega
                  have p5 : ((ST : Int) == 5) = true := by simp; omega
                  have p8 : (UN : Int) < (DN : Int) := by omega
                  clear e1
                case' inl => clear e1 e2 e3
                case' inr.inl => clear e1 e2
                all_goals
                  have HF7 := hide (unhide HBF Y7 (unhide HY7))
                  go_wp2_with (first
                    | (go_at_call 52; refine (unhide HSTT _ (unhide HY7)).mono ?_; rintro e w' ⟨rfl, hw⟩; have hw := hw.symm; subst hw)
                    | (go_at_call 54; refine (unhide HUN _ (unhide HY7)).mono ?_; rintro e Y8 ⟨ea8, ec8, rfl, _, _, hy8, _⟩; have HF8 := hide (unhide HBF Y8 hy8); clear hy8))
                  go_ret
                  exact ⟨rfl, unhide HF8⟩
theorem SagaOnce_row (v0 v1 v2 : Value) (now : Int) (w : World) (h0 : DefIn w v0) (h1 : Asks32 w v1) (h2 : ∃ a : P33.Ans, v2 = .agg #[.int .i64 a.step, .int .i64 a.attempt, .bool a.undo, .int .u8 (a.outcome : Int)]) : Calls Tryz.prog 10 #[v0, v1, v2, .int .i64 now] w fun e w' => e = .returned (.bool true) ∧ Below w.heap.size w w' := by
  obtain ⟨D, rfl, h3, _⟩ := h0
  obtain ⟨ad, l, cap, rfl, h4, h5⟩ := h1
  obtain ⟨a, rfl⟩ := h2
  exact SagaOnce_any D ad cap l a now w h3 h4 h5
end Go.Proofs.YtefokfbgpfcbkaaGreat
