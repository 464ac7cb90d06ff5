/- Lemmas of this claim (a part of its texts, kept as far as the claim reaches them). -/
import Derived.Test.YtefokfbgpfcbkaaGreatS32wZ
namespace Go.Proofs.YtefokfbgpfcbkaaGreat
set_option linter.unusedVariables false
set_option linter.unusedSimpArgs false
open Go.RowKit
theorem open_len (d : P22.Def) (s : P32.S) : (P32.open_ d s).length ≤ 2 * d.steps.length := by
  have hu : ∀ i u, (P32.openU s i u).length ≤ 1 := fun i u => by
    unfold P32.openU
    split <;> simp
  have : ∀ l : List Nat, (l.flatMap fun i => P32.openU s i false ++ P32.openU s i true).length ≤ 2 * l.length := by
    intro l
    induction l with
    | nil => simp
    | cons i l ih =>
      rw [List.flatMap_cons, List.length_append, List.length_append, List.length_cons]
      have := hu i false
      have := hu i true
      omega
  have := this (List.range d.steps.length)
  rw [List.length_range] at this
  exact this
set_option maxRecDepth 100000 in
set_option maxHeartbeats 8000000 in
theorem SagaAsks_any (d : PDef) (ad : Option Addr) (cap : Nat) (l : List Ask32) (w : World) (hin : d.In w) (ha : InR w 7 Ask32.cs ad l) (hl : l.length ≤ maxLen) :
    Calls Tryz.prog 9 #[d.val, .slice ad l.length cap] w fun e w' => e = .returned (.bool true) ∧ Below w.heap.size w w' := by
  obtain ⟨H, hH⟩ : ∃ H, w.heap.size = H := ⟨_, rfl⟩
  rw [hH]
  obtain ⟨W1, hW1, hb1, g0, hs1⟩ := new1 w (defO d) H hH
  have hlive := live32_any W1
  have hinV : ∀ V, Below H w V → d.In V := fun V hV => hin.below (by rw [hH]; exact hV)
  have haV : ∀ V, Below H w V → InR V 7 Ask32.cs ad l := fun V hV => ha.below (by rw [hH]; exact hV)
  have hbox : ∀ V, Below (H + 1) W1 V → V.heap[H]? = some (defO d) := fun V hV => (hV.block H (by omega)).trans g0
  have hsmall := fun V (hV : Below H w V) => Small21_any d V (hinV V hV)
  obtain ⟨SM, hSM⟩ : ∃ x, P21.small d.bare = x := ⟨_, rfl⟩
  rw [hSM] at hsmall
  obtain ⟨CL, hCL⟩ : ∃ x, P28.clean d.bare = x := ⟨_, rfl⟩
  have hclean := fun V (hV : Below H w V) (hs : SM = true) => Clean_any d V (hinV V hV) (smallD_of (hSM.trans hs)).ok
  rw [hCL] at hclean
  have hnew := fun V (hV : Below H w V) (hs : SM = true) (hc : CL = true) => SgY.new d V (hinV V hV) (smallD_of (hSM.trans hs)).ok ((smallD_of (hSM.trans hs)).cp (by have := clean_ne (hCL.trans hc); simpa [PDef.bare] using this)) (hCL.trans hc) (smallD_of (hSM.trans hs)).af
  have hDl : (cutD d.bare).steps.length = d.steps.length := by simp [cutD, PDef.bare]
  have hrefs := fun V (hV : Below H w V) (hs : SM = true) (hc : CL = true) => Refs_any d V (hinV V hV) ((smallD_of (hSM.trans hs)).cp (by have := clean_ne (hCL.trans hc); simpa [PDef.bare] using this)).len (smallD_of (hSM.trans hs)).af
  have hN30 : SM = true → d.steps.length ≤ 30 := fun hs => (smallD_of (hSM.trans hs)).len
  have hund : ∀ V, Below H w V → ∀ i, i < d.steps.length → ∃ g o, d.sa = some ⟨g, o, none⟩ ∧ V.cell? ⟨g, o + i * 13 + 2, none⟩ = some (.string ⟨(P33.undoOf (cutD d.bare) i).toArray⟩) := fun V hV i hi => by
    have hg := List.getElem?_eq_getElem hi
    obtain ⟨⟨b, o, e, hat⟩, _⟩ := (hinV V hV).steps i _ hg
    refine ⟨b, o, e, ?_⟩
    rw [undo_cut, Md.undo_eq d hg]
    exact hat 2 _ rfl
  have hRS : P28.refs (cutD d.bare) = P28.refs d.bare := refs_cut d
  have hRSl : (P28.refs d.bare).length = d.steps.length := by rw [P28.refs_len, Md.blen]
  obtain ⟨nm, tx, sa, sc, ss⟩ := d
  obtain ⟨N, hN⟩ : ∃ N, ss.length = N := ⟨_, rfl⟩
  obtain ⟨D, hD⟩ : ∃ D, cutD (PDef.bare ⟨nm, tx, sa, sc, ss⟩) = D := ⟨_, rfl⟩
  obtain ⟨NL, hNL⟩ : ∃ NL, l.length = NL := ⟨_, rfl⟩
  obtain ⟨RS, hRSe⟩ : ∃ z, P28.refs (PDef.bare ⟨nm, tx, sa, sc, ss⟩) = z := ⟨_, rfl⟩
  rw [hRSe] at hrefs hRS hRSl
  rw [hD] at hnew hDl hund hRS
  rw [hNL] at hl
  unfold defO at hW1 hbox
  unfold PDef.val at hsmall hclean hnew hrefs
  simp only [hN] at hsmall hclean hnew hDl hW1 hbox hrefs hund hN30 hRSl
  have hv : PDef.val ⟨nm, tx, sa, sc, ss⟩ = .agg #[.string ⟨nm.toArray⟩, .string ⟨tx.toArray⟩, .slice sa N sc] := by unfold PDef.val; simp only [hN]
  rw [hv, hNL]
  have HLV := hide hlive
  have HBX := hide hbox
  have HSM := hide hsmall
  have HCL := hide hclean
  have HNW := hide hnew
  have HRF := hide hrefs
  have HUN := hide hund
  have HRS := hide hRS
  have HRSL := hide hRSl
  have HAV := hide haV
  have HW1 := hide hW1
  have HB1 := hide hb1
  have HNL := hide hNL
  have HDL := hide hDl
  have hl9 : NL ≤ 9223372036854775807 := by unfold maxLen at hl; omega
  clear hlive hinV haV hbox hsmall hclean hnew hrefs hund hRS hRSl hRSe hW1 hb1 g0 hin ha hSM hCL hN hD hNL hv hl hDl
  go_enter Tryz.func9, Tryz.ntmps9
  go_upto_region 1 with fail
  try rw [hH]
  rw [unhide HW1]
  go_upto_region 3 with (go_at_call 48; refine (unhide HLV).mono ?_; rintro e w2 ⟨rfl, b2⟩)
  have hb2 : Below (H + 1) W1 w2 := by rw [← hs1]; exact b2
  have hw2 : Below H w w2 := (unhide HB1).trans (hb2.mono (by omega))
  obtain ⟨⟨k0, _⟩, ⟨k1, _⟩, ⟨k2, _⟩⟩ := cell3 (unhide HBX w2 hb2)
  have hs2 : H + 1 ≤ w2.heap.size := by have := hb2.size; omega
  have HB2 := hide hb2
  have HW2 := hide hw2
  clear b2 hb2 hw2
  cases SM with
  | false =>
    go_wp2_with (go_at_call 12; refine (unhide HSM _ (unhide HW2)).mono ?_; rintro e w3 ⟨rfl, b3⟩)
    go_ret
    exact ⟨rfl, (unhide HW2).trans (b3.mono (by omega))⟩
  | true =>
    by_cases h120 : 120 < NL
    · have h1 : (120 : Int) < (NL : Int) := by omega
      go_wp2_with (go_at_call 12; refine (unhide HSM _ (unhide HW2)).mono ?_; rintro e w3 ⟨rfl, b3⟩)
      go_ret
      exact ⟨rfl, (unhide HW2).trans (b3.mono (by omega))⟩
    · have h1 : (NL : Int) ≤ 120 := by omega
      have hd : decide ((120 : Int) < (NL : Int)) = false := by simp; omega
      cases CL with
      | false =>
        go_wp2_with (first | (go_at_call 12; refine (unhide HSM _ (unhide HW2)).mono ?_; rintro e w3 ⟨rfl, b3⟩; obtain ⟨⟨x0, _⟩, ⟨x1, _⟩, ⟨x2, _⟩⟩ := cell3 (unhide HBX w3 ((unhide HB2).trans (b3.mono (by omega))))) | (go_at_call 30; refine (unhide HCL _ ((unhide HW2).trans (b3.mono (by omega))) (by simp)).mono ?_; rintro e w4 ⟨rfl, b4⟩))
        go_ret
        exact ⟨rfl, ((unhide HW2).trans (b3.mono (by omega))).trans (b4.mono (by have := b3.size; omega))⟩
      | true =>
        go_upto_region 5 with (first | (go_at_call 12; refine (unhide HSM _ (unhide HW2)).mono ?_; rintro e w3 ⟨rfl, b3⟩; obtain ⟨⟨x0, _⟩, ⟨x1, _⟩, ⟨x2, _⟩⟩ := cell3 (unhide HBX w3 ((unhide HB2).trans (b3.mono (by omega))))) | (go_at_call 30; refine (unhide HCL _ ((unhide HW2).trans (b3.mono (by omega))) (by simp)).mono ?_; rintro e w4 ⟨rfl, b4⟩))
        have hb4 : Below (H + 1) W1 w4 := ((unhide HB2).trans (b3.mono (by omega))).trans (b4.mono (by have := b3.size; omega))
        have hw4 : Below H w w4 := (unhide HB1).trans (hb4.mono (by omega))
        have hs4 : H + 1 ≤ w4.heap.size := by have := hb4.size; omega
        clear k0 k1 k2 x0 x1 x2 b3 b4
        obtain ⟨⟨k0, _⟩, ⟨k1, _⟩, ⟨k2, _⟩⟩ := cell3 (unhide HBX w4 hb4)
        have HB4 := hide hb4
        have HW4 := hide hw4
        have HNW4 := hide (unhide HNW w4 hw4 (by simp) (by simp))
        have hN9 := hN30 (by simp)
        clear hb4 hw4 HNW
        go_upto_region 6 with (go_at_call 49; refine (unhide HNW4).mono ?_; rintro e w5 ⟨b, M0, R0, rfl, hmx, hM0, hb5⟩)
        have hw5 : Below H w w5 := (unhide HW4).trans (hb5.mono (by omega))
        have hb45 : Below (H + 1) W1 w5 := (unhide HB4).trans (hb5.mono (by omega))
        clear k0 k1 k2
        obtain ⟨⟨k0, _⟩, ⟨k1, _⟩, ⟨k2, _⟩⟩ := cell3 (unhide HBX w5 hb45)
        have HRF5 := hide (unhide HRF w5 hw5 (by simp) (by simp))
        have HM5 := hide (And.intro hmx (And.intro hM0 hb5))
        clear hmx hM0 hb5 hw5 hb45
        go_upto_region 9 with (go_at_call 59; refine (unhide HRF5).mono ?_; rintro e w6 ⟨rb, vs, rfl, hgr6, hb6⟩)
        have hsk : SgK w4 w6 M0 b D P32.S.new M0 R0 w6 := by
          obtain ⟨q1, q2, q3⟩ := unhide HM5
          exact ⟨q1.below hb6, fun g hg => .inl hg, KW.refl _ _, q3.trans (hb6.mono q3.size), q2⟩
        have hgM : ∀ g, gridB rb vs N g → ¬ M0 g := fun g hg hm => by
          obtain ⟨q1, q2, q3⟩ := unhide HM5
          have h1 := q1.lt (.inl hm)
          have h2 := (hgr6.lt (by rw [unhide HRSL]; exact hg)).1
          omega
        have h46 : w4.heap.size ≤ w6.heap.size := by
          obtain ⟨q1, q2, q3⟩ := unhide HM5
          exact Nat.le_trans q3.size hb6.size
        have HSK := hide hsk
        have HGR := hide hgr6
        have HGM := hide hgM
        clear hsk hgr6 hgM hb6 k0 k1 k2 HM5 HRF5
        go_wp2
        go_loopg [8] NL (fun g s8 wx => ∃ (i : Nat) (s : P32.S) (M : Nat → Prop), i + g = NL ∧ s8 = .int .i64 i ∧ Hid (SgK w4 w6 M0 b D s M R0 wx))
        case atStart => exact ⟨0, _, _, by omega, by go_num, HSK⟩
        case round =>
          obtain ⟨i, s, M, hig, rfl, HMI⟩ := hrel
          cases gk with
          | zero =>
            have e1 : (NL : Int) ≤ (i : Int) := by omega
            have j1 : decide ((i : Int) < (NL : Int)) = false := by simp; omega
            go_wp2
            go_ret
            exact ⟨rfl, (unhide HW4).trans ((unhide HMI).bel.mono (by omega))⟩
          | succ g' =>
            have hlt : (i : Int) < (NL : Int) := by omega
            have hkj : IntKind.i64.wrap ((i : Int) + 1) = (i : Int) + 1 := IntWalk.i64_in _ (by omega)
            obtain ⟨ak, hai⟩ := nth_of (unhide HNL) (show i < NL by omega)
            have hdn := (unhide HMI).done
            obtain ⟨WL, hWL⟩ : ∃ z, s.done.length = z := ⟨_, rfl⟩
            rw [hWL] at hdn
            have hWL9 : WL ≤ 100000 := by have := (unhide HMI).sg.len; omega
            have HDN := hide hdn
            have HWL := hide hWL
            clear hdn hWL
            go_upto_region 13 with (go_at_call 53; refine (unhide HDN).mono ?_; rintro e V1 ⟨wa, wc, rfl, hwc, hwin, hk1, _, hwM⟩)
            have hbw : Below H w V1 := (unhide HW4).trans (hk1.bel.mono (by omega))
            obtain ⟨ab, ao, rfl, hac⟩ := unhide HAV V1 hbw i ak hai
            have hgv := hk1.give ak.a ak.lt h46
            have hgood := P32.good_give hk1.sg.inv ak.a
            have hglen := give_len hk1.sg.inv ak.a
            rw [unhide HDL] at hglen
            obtain ⟨⟨kk, ⟨ks, ka, ku, ko⟩, kn, kp⟩, klt⟩ := ak
            have c0 : V1.cell? ⟨ab, ao + i * 7, none⟩ = some (.int .u8 (kk : Int)) := by have := hac 0 _ rfl; simpa using this
            have c1 := hac 1 _ rfl
            have c2 := hac 2 _ rfl
            have c3 := hac 3 _ rfl
            have c4 := hac 4 _ rfl
            have c5 := hac 5 _ rfl
            have c6 := hac 6 _ rfl
            simp only at c1 c2 c3 c4 c5 c6 hgv hgood hglen
            obtain ⟨⟨s', os⟩, hx⟩ : ∃ x, P32.give D s ⟨kk, ⟨ks, ka, ku, ko⟩, kn, kp⟩ = x := ⟨_, rfl⟩
            rw [hx] at hgv hgood hglen
            simp only at hgv hgood hglen
            obtain ⟨L, hL⟩ : ∃ z, os.length = z := ⟨_, rfl⟩
            rw [hL] at hgv hglen
            have hL9 : L ≤ 1000000 := by omega
            have HGV := hide hgv
            have HGD := hide hgood
            have HWIN := hide (And.intro hwin hwM)
            have HL := hide hL
            clear hac hbw hai hgv hgood hx hk1 hwin hwM hL hglen
            go_upto_region 14 with (go_at_call 60; refine (unhide HGV).mono ?_; rintro e V2 ⟨oa, oc, rfl, hoc, hoin, M2, hk2, hkw2⟩)
            have hwin2 : InN V2 wa s.done := (unhide HWIN).1.kw hkw2 (unhide HWIN).2
            have hdn2 := hk2.done
            have hun2 := fun V (hV : SgK w4 w6 M0 b D s' M2 R0 V) => hV.undone
            have hln2 := hk2.sg.len
            obtain ⟨DL, hDL⟩ : ∃ z, s'.done.length = z := ⟨_, rfl⟩
            obtain ⟨UL, hUL⟩ : ∃ z, s'.undone.length = z := ⟨_, rfl⟩
            rw [hDL] at hdn2 hln2
            rw [hUL] at hun2 hln2
            rw [unhide HDL] at hln2
            obtain ⟨_, hDLN, hUDL⟩ := hln2
            have HDN2 := hide hdn2
            have HUN2 := hide hun2
            have HDLe := hide hDL
            have HULe := hide hUL
            have HW2i := hide hwin2
            have HOIN := hide hoin
            clear hwin2 hdn2 hun2 hDL hUL hoin hkw2 hk2 c0 c1 c2 c3 c4 c5 c6 HWIN HGV HDN
            go_upto_region 15 with (first
              | (go_at_call 53; refine (unhide HDN2).mono ?_; rintro e V3 ⟨da, dc, rfl, hdc, hdin, hk3, hb23, _⟩; have HU3 := hide (unhide HUN2 V3 hk3); have HD3 := hide (And.intro hdin hb23); clear hk3 hdin hb23)
              | (go_at_call 54; refine (unhide HU3).mono ?_; rintro e V4 ⟨ua, uc, rfl, huc, huin, hk4, hb34⟩))
            obtain ⟨hdin, hb23⟩ := unhide HD3
            have hb24 := hb23.trans (hb34.mono hb23.size)
            have hwin4 := (unhide HW2i).below' hb24
            have hdin4 := hdin.below' hb34
            have hoin4 := (unhide HOIN).below hb24
            have hbV4 : Below H w V4 := (unhide HW4).trans (hk4.bel.mono (by omega))
            have hbV41 : Below (H + 1) W1 V4 := (unhide HB4).trans (hk4.bel.mono (by omega))
            have hgr4 : Grid V4 w5.heap.size rb vs RS := (unhide HGR).keep (fun g hg => hk4.kw.same g (unhide HGM g (by rw [← unhide HRSL]; exact hg)) ((unhide HGR).lt hg).2)
            have hun4 := unhide HUN V4 hbV4
            have kk2 := (cell3 (unhide HBX V4 hbV41)).2.2.1
            have HOUT := hide (unhide HGD).1.out
            have HINV := hide (unhide HGD).1.inv
            have HSUB := hide (unhide HGD).2
            have HWI4 := hide hwin4
            have HDI4 := hide hdin4
            have HUI4 := hide huin
            have HOI4 := hide hoin4
            have HGR4 := hide hgr4
            have HUN4 := hide hun4
            have HKK2 := hide kk2
            have HK4 := hide hk4
            clear hwin4 hdin4 huin hoin4 hbV4 hbV41 hgr4 hun4 kk2 hk4 hdin hb23 hb24 hb34 HD3 HU3 HW2i HOIN
            go_wp2
            go_loopg [13] L (fun g s13 wx => ∃ k : Nat, k + g = L ∧ s13 = .int .i64 k ∧ Hid (Below V4.heap.size V4 wx))
            case atStart => exact ⟨0, by omega, by go_num, hide (Below.refl _ _)⟩
            case round =>
              obtain ⟨k, hkg, rfl, HBk⟩ := hrel
              cases gk with
              | zero =>
                have e2 : (L : Int) ≤ (k : Int) := by omega
                have j2 : decide ((k : Int) < (L : Int)) = false := by simp; omega
                have hop := ((unhide HK4).below (unhide HBk)).opens
                have hou := fun o (ho : o ∈ P32.open_ D s') (hu : o.undo = true) => P32.open_undo (unhide HINV) ho hu
                have hol := open_len D s'
                rw [unhide HDL] at hol
                obtain ⟨OL, hOL⟩ : ∃ z, (P32.open_ D s').length = z := ⟨_, rfl⟩
                rw [hOL] at hou hol
                have HOU := hide hou
                have HOLe := hide hOL
                clear hop hou hOL
                go_wp2
                go_loopg [16] UL (fun g s16 wx => ∃ k : Nat, k + g = UL ∧ s16 = .int .i64 k ∧ Hid (Below V4.heap.size V4 wx))
                case atStart => exact ⟨0, by omega, by go_num, HBk⟩
                case round =>
                  obtain ⟨m, hmg, rfl, HBm⟩ := hrel
                  cases gk with
                  | zero =>
                    have e3 : (UL : Int) ≤ (m : Int) := by omega
                    have j3 : decide ((m : Int) < (UL : Int)) = false := by simp; omega
                    have hop := ((unhide HK4).below (unhide HBm)).opens
                    rw [unhide HOLe] at hop
                    have HOP := hide hop
                    clear hop
                    go_upto_region 37 with (go_at_call 56; refine (unhide HOP).mono ?_; rintro e V5 ⟨pa, pc, rfl, hpc, hpin, hk5, hb5⟩)
                    have HPIN := hide hpin
                    have HK5 := hide hk5
                    clear hpin hk5 hb5
                    rcases Nat.lt_or_ge 1 OL with hgt | hle
                    · have d7 : decide ((OL : Int) > 1) = true := by simp; omega
                      have d8 : decide (1 < OL) = true := by simp; omega
                      have hgt' : (1 : Int) < (OL : Int) := by omega
                      go_upto_region 38 with fail
                      go_wp2
                      go_loopg [18] OL (fun g s18 wx => ∃ n : Nat, n + g = OL ∧ s18 = .int .i64 n ∧ Hid (Below V5.heap.size V5 wx))
                      case atStart => exact ⟨0, by omega, by go_num, hide (Below.refl _ _)⟩
                      case round =>
                        obtain ⟨n, hng, rfl, HBn⟩ := hrel
                        cases gk with
                        | zero =>
                          have e4 : (OL : Int) ≤ (n : Int) := by omega
                          have j4 : decide ((n : Int) < (OL : Int)) = false := by simp; omega
                          go_wp2
                          go_roundg g'
                          case measure => omega
                          case rel => exact ⟨i + 1, s', M2, by omega, by go_num, hide ((unhide HK5).below (unhide HBn))⟩
                        | succ g5 =>
                          have hlt5 : (n : Int) < (OL : Int) := by omega
                          have hnn : IntKind.i64.wrap ((n : Int) + 1) = (n : Int) + 1 := IntWalk.i64_in _ (by omega)
                          obtain ⟨o, ho⟩ := nth_of (unhide HOLe) (show n < OL by omega)
                          have hof : o.undo = false := by
                            cases hq : o.undo with
                            | false => rfl
                            | true => have := unhide HOU o (List.mem_of_getElem? ho) hq; omega
                          obtain ⟨og, oq, rfl, o0, o1, o2, o3⟩ := (unhide HPIN).below (unhide HBn) n o ho
                          rw [hof] at o2
                          clear o0 o1 o3
                          go_wp2
                          go_roundg g5
                          case measure => omega
                          case rel => exact ⟨n + 1, by omega, by go_num, HBn⟩
                    · have d7 : decide ((OL : Int) > 1) = false := by simp; omega
                      have d8 : decide (1 < OL) = false := by simp; omega
                      have hle' : (OL : Int) ≤ 1 := by omega
                      go_wp2
                      go_roundg g'
                      case measure => omega
                      case rel => exact ⟨i + 1, s', M2, by omega, by go_num, HK5⟩
                  | succ g4 =>
                    have hlt4 : (m : Int) < (UL : Int) := by omega
                    have hmm : IntKind.i64.wrap ((m : Int) + 1) = (m : Int) + 1 := IntWalk.i64_in _ (by omega)
                    obtain ⟨x, hx⟩ := nth_of (unhide HULe) (show m < UL by omega)
                    have hget := P32.und_get (unhide HINV) hx
                    rw [unhide HDLe] at hget
                    obtain ⟨T, hT⟩ : ∃ T, DL - 1 - m = T := ⟨_, rfl⟩
                    rw [hT] at hget
                    obtain ⟨dg, dq, rfl, cd⟩ := (unhide HDI4).below' (unhide HBm) T x hget
                    obtain ⟨ug, uq, rfl, cu⟩ := (unhide HUI4).below' (unhide HBm) m x hx
                    unfold iv at cd cu
                    have w1 : IntKind.i64.wrap ((DL : Int) - 1) = (DL : Int) - 1 := IntWalk.i64_in _ (by omega)
                    have w2 : IntKind.i64.wrap ((DL : Int) - 1 - (m : Int)) = (T : Int) := by rw [IntWalk.i64_in _ (by omega)]; omega
                    have hTD : (T : Int) < (DL : Int) := by omega
                    have d5 : decide ((UL : Int) > (DL : Int)) = false := by simp; omega
                    have d6 : decide (DL < UL) = false := by simp; omega
                    clear hget hT hx
                    go_upto_region 34 with fail
                    go_quiet (fail)
                    go_wp2
                    go_roundg g4
                    case measure => omega
                    case rel => exact ⟨m + 1, by omega, by go_num, hide (below_drewN (unhide HBm))⟩
              | succ g2 =>
                have hlt2 : (k : Int) < (L : Int) := by omega
                have hkk : IntKind.i64.wrap ((k : Int) + 1) = (k : Int) + 1 := IntWalk.i64_in _ (by omega)
                obtain ⟨o, ho⟩ := nth_of (unhide HL) (show k < L by omega)
                have hout := unhide HOUT o (List.mem_of_getElem? ho)
                obtain ⟨og, oq, rfl, o0, o1, o2, o3⟩ := (unhide HOI4).below (unhide HBk) k o ho
                obtain ⟨Q, hQ⟩ : ∃ Q, wr.heap.size = Q := ⟨_, rfl⟩
                obtain ⟨W8, hW8, hb8, g8, hz8⟩ := new1 wr (.cells #[.int .i64 (o.step : Int), .int .i64 o.att, .bool o.undo, .int .i64 o.til] 35) Q hQ
                have hb48 : Below V4.heap.size V4 W8 := (unhide HBk).trans (hb8.mono (by have := (unhide HBk).size; omega))
                obtain ⟨oi, oatt, ou, otil⟩ := o
                obtain ⟨h1, h2, h3, h4⟩ := hout
                simp only at h1 h2 h3 h4 o0 o1 o2 o3 g8 hW8
                rw [unhide HDL] at h1
                obtain ⟨⟨x0, _⟩, ⟨x1, _⟩, ⟨x2, _⟩, ⟨x3, _⟩⟩ := cell4 g8
                have kq := (cell_of_block (hb48.block H (cellLt (unhide HKK2))) 2).trans (unhide HKK2)
                have d1 : decide ((oi : Int) < 0) = false := by simp
                have d2 : decide ((oi : Int) ≥ (N : Int)) = false := by simp; omega
                have d3 : decide (oatt < 1) = false := by simp; omega
                have d4 : decide (N ≤ oi) = false := by simp; omega
                have hoN : (oi : Int) < (N : Int) := by omega
                have HW8 := hide hW8
                have HB8 := hide hb48
                have HG8 := hide g8
                have HOUT3 := hide h3
                have HOUT4 := hide h4
                clear hW8 hb48 hb8 g8 h3 h4 ho h2
                go_upto_region 19 with fail
                try rw [hQ]
                rw [unhide HW8]
                clear o0 o1 o2 o3
                cases ou with
                | true =>
                  obtain ⟨ht, hu, _⟩ := unhide HOUT4 rfl
                  obtain ⟨hul, hget⟩ := P32.turn_get ht
                  rw [unhide HDLe, unhide HULe] at hul hget
                  obtain ⟨T, hT⟩ : ∃ T, DL - 1 - UL = T := ⟨_, rfl⟩
                  rw [hT] at hget
                  obtain ⟨dg, dq, rfl, cd⟩ := (unhide HDI4).below' (unhide HB8) T oi hget
                  unfold iv at cd
                  obtain ⟨ug, uq, rfl, cu⟩ := unhide HUN4 oi h1
                  have cu8 := (cell_of_block ((unhide HB8).block ug (cellLt cu)) _).trans cu
                  obtain ⟨u0, ur, hud⟩ : ∃ x r, P33.undoOf D oi = x :: r := by
                    cases hq : P33.undoOf D oi with
                    | nil => rw [hq] at hu; cases hu
                    | cons x r => exact ⟨x, r, rfl⟩
                  rw [hud] at cu8
                  have w1 : IntKind.i64.wrap ((DL : Int) - 1) = (DL : Int) - 1 := IntWalk.i64_in _ (by omega)
                  have w2 : IntKind.i64.wrap ((DL : Int) - 1 - (UL : Int)) = (T : Int) := by rw [IntWalk.i64_in _ (by omega)]; omega
                  have hTD : (T : Int) < (DL : Int) := by omega
                  have d5 : decide ((UL : Int) ≥ (DL : Int)) = false := by simp; omega
                  have d6 : decide (DL ≤ UL) = false := by simp; omega
                  clear ht hu hul hget hT cu hud
                  go_upto_region 22 with fail
                  go_quiet (fail)
                  go_wp2
                  go_roundg g2
                  case measure => omega
                  case rel => exact ⟨k + 1, by omega, by go_num, hide (below_drewN (unhide HB8))⟩
                | false =>
                  obtain ⟨hr, hnd⟩ := unhide HOUT3 rfl
                  obtain ⟨rl, hrl⟩ : ∃ rl, RS[oi]? = some rl := nth_of (unhide HRSL) h1
                  have hr2 : ∀ j ∈ rl, j ∈ s'.done := fun j hj => hr j (by unfold P32.R; rw [unhide HRS, List.getD_eq_getElem?_getD, hrl]; exact hj)
                  have hgr8 := (unhide HGR4).below (unhide HB8)
                  obtain ⟨ra, rc, hvk, hrl9, hrc9, hrin⟩ := (hgr8.own oi rl hrl).slice
                  have hrow := hgr8.row.cell (i := oi) (by rw [unhide HRSL]; omega)
                  rw [hvk] at hrow
                  obtain ⟨RL, hRL⟩ : ∃ z, rl.length = z := ⟨_, rfl⟩
                  rw [hRL] at hrow hrl9
                  have hRL9 : RL ≤ maxLen := by omega
                  unfold maxLen at hRL9
                  have hnd2 : oi ∉ s.done := fun e => hnd (unhide HSUB oi e)
                  have hHd := fun V (hV : InN V da s'.done) (x : Nat) => Has_any da dc s'.done x V hV (by rw [unhide HDLe]; omega)
                  have hHw := fun V (hV : InN V wa s.done) (x : Nat) => Has_any wa wc s.done x V hV (by rw [unhide HWL]; omega)
                  rw [unhide HDLe] at hHd
                  rw [unhide HWL] at hHw
                  have HHD := hide hHd
                  have HHW := hide hHw
                  have HR2 := hide hr2
                  have HND := hide hnd
                  have HND2 := hide hnd2
                  have HRIN := hide hrin
                  have HROW := hide hrow
                  have HRLe := hide hRL
                  clear hr hnd hrl hr2 hgr8 hvk hrin hrow hRL hnd2 hHd hHw hrc9 hrl9
                  go_upto_region 24 with fail
                  clear kq
                  go_wp2
                  go_loopg [15] RL (fun g s15 wx => ∃ j : Nat, j + g = RL ∧ s15 = .int .i64 j ∧ Hid (Below W8.heap.size W8 wx))
                  case atStart => exact ⟨0, by omega, by go_num, hide (Below.refl _ _)⟩
                  case round =>
                    obtain ⟨j, hjg, rfl, HBj⟩ := hrel
                    obtain ⟨⟨y0, _⟩, _⟩ := cell4 (((unhide HBj).block Q (by omega)).trans (unhide HG8))
                    have hrow9 := (cell_of_block ((unhide HBj).block _ (cellLt (unhide HROW))) _).trans (unhide HROW)
                    have hbx := (unhide HB8).trans ((unhide HBj).mono (unhide HB8).size)
                    cases gk with
                    | zero =>
                      have e3 : (RL : Int) ≤ (j : Int) := by omega
                      have j3 : decide ((j : Int) < (RL : Int)) = false := by simp; omega
                      have hA := unhide HHD wr ((unhide HDI4).below' hbx) oi
                      have hB := unhide HHW wr ((unhide HWI4).below' hbx) oi
                      rw [show decide (oi ∈ s'.done) = false by simpa using unhide HND] at hA
                      rw [show decide (oi ∈ s.done) = false by simpa using unhide HND2] at hB
                      have HA := hide hA
                      have HB := hide hB
                      have HBX9 := hide hbx
                      clear hA hB hbx
                      go_upto_region 17 with (first | (go_at_call 31; with_reducible refine (unhide HA).mono ?_; rintro e w9 ⟨rfl, hw9⟩; have hw9 := hw9.symm; subst hw9) | (go_at_call 31; with_reducible refine (unhide HB).mono ?_; rintro e w9 ⟨rfl, hw9⟩; have hw9 := hw9.symm; subst hw9))
                      go_wp2
                      go_roundg g2
                      case measure => omega
                      case rel => exact ⟨k + 1, by omega, by go_num, HBX9⟩
                    | succ g3 =>
                      have hlt3 : (j : Int) < (RL : Int) := by omega
                      have hjj : IntKind.i64.wrap ((j : Int) + 1) = (j : Int) + 1 := IntWalk.i64_in _ (by omega)
                      obtain ⟨x, hx⟩ := nth_of (unhide HRLe) (show j < RL by omega)
                      obtain ⟨rg, ro, rfl, cx⟩ := ((unhide HRIN).below' (unhide HBj)) j x hx
                      unfold iv at cx
                      have hA := unhide HHD wr ((unhide HDI4).below' hbx) x
                      rw [show decide (x ∈ s'.done) = true by simpa using unhide HR2 x (List.mem_of_getElem? hx)] at hA
                      have HA := hide hA
                      clear hA hbx hx
                      go_upto_region 26 with (go_at_call 31; with_reducible refine (unhide HA).mono ?_; rintro e w9 ⟨rfl, hw9⟩; have hw9 := hw9.symm; subst hw9)
                      go_wp2
                      go_roundg g3
                      case measure => omega
                      case rel => exact ⟨j + 1, by omega, by go_num, HBj⟩
theorem SagaAsks_row (v0 v1 : Value) (w : World) (h0 : DefIn w v0) (h1 : Asks32 w v1) : Calls Tryz.prog 9 #[v0, v1] w fun e w' => e = .returned (.bool true) ∧ Below w.heap.size w w' := by
  obtain ⟨D, rfl, h3, _⟩ := h0
  obtain ⟨ad, l, cap, rfl, h4, h5⟩ := h1
  exact SagaAsks_any D ad cap l w h3 h4 h5
end Go.Proofs.YtefokfbgpfcbkaaGreat
