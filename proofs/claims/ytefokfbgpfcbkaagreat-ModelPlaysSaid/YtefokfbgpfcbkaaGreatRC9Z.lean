/- Lemmas of this claim (a part of its texts, kept as far as the claim reaches them). -/
import Derived.Test.YtefokfbgpfcbkaaGreatRC1Z
import Derived.Test.YtefokfbgpfcbkaaGreatWR20aZ
import Derived.Test.YtefokfbgpfcbkaaGreatRC8Z
namespace Go.Proofs.YtefokfbgpfcbkaaGreat
set_option linter.unusedVariables false
set_option linter.unusedSimpArgs false
open Go.RowKit
theorem texts_cons (x : List UInt8) (l : List (List UInt8)) : P28.texts (x :: l) = if P03.check x 64 ≠ 0 then P03.check x 64 else P28.texts l := rfl
theorem drop_of {α : Type} {l : List α} {i : Nat} {x : α} (h : l[i]? = some x) : l.drop i = x :: l.drop (i + 1) := by
  obtain ⟨hl, e⟩ := List.getElem?_eq_some_iff.1 h
  rw [List.drop_eq_getElem_cons hl, e]
def fitsL : List Int → Bool
  | [] => true
  | x :: l => P28.fits x && fitsL l
set_option maxRecDepth 100000 in
set_option maxHeartbeats 8000000 in
theorem RStep_any (s : PSt) (w : World) (hin : s.In w) (hl1 : s.name.length ≤ 1000000) (hl2 : s.action.length ≤ 1000000) (hl3 : s.undo.length ≤ 1000000) (hla : s.after.length ≤ 1000000) (hlx : ∀ x ∈ s.after, x.length ≤ 1000000) (hsm : Sm s.note.bare) (hsz : (s.note.bare.size 18).2 ≤ 1000000000) :
    Calls Tryz.prog 117 #[s.val] w fun e w' => e = .returned (.int .i64 (P28.stepE s.bare)) ∧ Below w.heap.size w w' := by
  obtain ⟨H, hH⟩ : ∃ H, w.heap.size = H := ⟨_, rfl⟩
  rw [hH]
  have hdlt := fun r (hr : s.blk r) => hin.lt hr
  rw [hH] at hdlt
  have hinV : ∀ V, Below H w V → s.In V := fun V hV => hin.keep (fun r hr => hV.block r (hdlt r hr))
  have hnone := fun V => RNone_any s.note V
  have hchk := fun V (hV : Below H w V) => RCheck_any s.note V (hinV V hV).note hsm
  have hdep := fun V (hV : Below H w V) => rsize_any s.note 18 V (hinV V hV).note (by omega) hsz
  have hspec : P28.stepE s.bare = if P28.texts [s.name, s.action, s.undo] ≠ 0 then P28.texts [s.name, s.action, s.undo] else if 64 < s.after.length then 2 else if P28.texts s.after ≠ 0 then P28.texts s.after else
    if fitsL [s.most, s.first, s.factor, s.limit] = false then 1 else if P28.noneB s.note.bare then 0 else if s.note.bare.check 1 ≠ 0 then s.note.bare.check 1 else if 13 < (s.note.bare.size 18).1 then 11 else 0 := by
    simp only [fitsL, Bool.and_true]
    rfl
  rw [hspec]
  obtain ⟨TT, hTT⟩ : ∃ T, P28.texts [s.name, s.action, s.undo] = T := ⟨_, rfl⟩
  obtain ⟨TA, hTA⟩ : ∃ T, P28.texts s.after = T := ⟨_, rfl⟩
  obtain ⟨FB, hFB⟩ : ∃ T, fitsL [s.most, s.first, s.factor, s.limit] = T := ⟨_, rfl⟩
  obtain ⟨NB, hNB⟩ : ∃ T, P28.noneB s.note.bare = T := ⟨_, rfl⟩
  obtain ⟨CE, hCE⟩ : ∃ T, s.note.bare.check 1 = T := ⟨_, rfl⟩
  obtain ⟨DP, hDP⟩ : ∃ T, (s.note.bare.size 18).1 = T := ⟨_, rfl⟩
  obtain ⟨DQ, hDQ⟩ : ∃ T, (s.note.bare.size 18).2 = T := ⟨_, rfl⟩
  rw [hNB] at hnone
  rw [hCE] at hchk
  rw [hDP, hDQ] at hdep
  rw [hTT, hTA, hFB, hNB, hCE, hDP]
  obtain ⟨RES, hRES⟩ : ∃ R : Int, (if TT ≠ 0 then TT else if 64 < s.after.length then 2 else if TA ≠ 0 then TA else if FB = false then 1 else if NB then 0 else if CE ≠ 0 then CE else if 13 < DP then 11 else 0) = R := ⟨_, rfl⟩
  rw [hRES]
  have hkeys := fun V hV => (hinV V hV).keys
  obtain ⟨n1, a1, u1, aa1, ac1, af1, q1, fi1, fa1, li1, ⟨k1, t1, ka1, kc1, ks1, da1, dc1, ds1, l1⟩⟩ := s
  rw [PSt.val_eqn]
  unfold Nd.val at hnone hchk hdep
  simp only [Nd.kind, Nd.text, Nd.kV, Nd.dV, Nd.line, Nd.ka, Nd.kc, Nd.keys, Nd.da, Nd.dc, Nd.kids] at hnone hchk hdep
  simp only at hTT hTA hFB hRES hkeys hl1 hl2 hl3 hla hlx
  obtain ⟨N1, hN1⟩ : ∃ N1, af1.length = N1 := ⟨_, rfl⟩
  obtain ⟨N2, hN2⟩ : ∃ N2, ks1.length = N2 := ⟨_, rfl⟩
  obtain ⟨N3, hN3⟩ : ∃ N3, ds1.length = N3 := ⟨_, rfl⟩
  rw [hN1] at hRES hla ⊢
  rw [hN2] at hnone hchk hdep ⊢
  rw [hN3] at hnone hchk hdep ⊢
  obtain ⟨W2, hW2, hb2, g0, g1, hs2⟩ := new2 w (.cells #[.string ⟨n1.toArray⟩, .string ⟨a1.toArray⟩, .string ⟨u1.toArray⟩, .slice aa1 N1 ac1, .int .i64 q1, .int .i64 fi1, .int .i64 fa1, .int .i64 li1, .int .u8 k1, .string ⟨t1.toArray⟩, .slice ka1 N2 kc1, .slice da1 N3 dc1, .int .i64 l1] 63) (.cells #[.string ⟨n1.toArray⟩, .string ⟨a1.toArray⟩, .string ⟨u1.toArray⟩] 9) H hH
  obtain ⟨W3, hW3, hb3, g2, hs3⟩ := new1 W2 (.cells #[.int .i64 q1, .int .i64 fi1, .int .i64 fa1, .int .i64 li1] 3) (H + 1 + 1) hs2
  have hbw3 : Below H w W3 := hb2.trans (hb3.mono (by omega))
  have g03 := (hb3.block H (by omega)).trans g0
  have y3 := cellO (o := 3) g0 rfl
  obtain ⟨⟨m0, _⟩, ⟨m1, _⟩, ⟨m2, _⟩⟩ := cell3 g1
  have hck := fun (x : List UInt8) (hx : x.length ≤ 1000000) V => refCheck_any ⟨x.toArray⟩ 64 V (by simp [ByteArray.size]; omega)
  simp only [List.toList_toArray] at hck
  have HCK := hide hck
  have HL1 := hide (And.intro hl1 (And.intro hl2 hl3))
  have HLX := hide hlx
  have HKEYS := hide hkeys
  have HNONE := hide hnone
  have HCHK := hide hchk
  have HDEP := hide hdep
  have HTT := hide hTT
  have HTA := hide hTA
  have HFB := hide hFB
  have HRES := hide hRES
  have HN1 := hide hN1
  have HW2 := hide hW2
  have HW3 := hide hW3
  have HB2 := hide hb2
  have HB3 := hide hbw3
  have G03 := hide g03
  have G02 := hide g0
  have G2 := hide g2
  clear hck hl1 hl2 hl3 hlx hkeys hnone hchk hdep hTT hTA hFB hRES hN1 hN2 hN3 hNB hCE hDP hDQ hspec hW2 hW3 hb2 hb3 hbw3 g0 g1 g2 g03 hin hdlt hinV hsm hsz hs3
  go_enter Tryz.func117, Tryz.ntmps117
  go_upto_region 2 with fail
  try rw [hH]
  try rw [hs2]
  rw [unhide HW2]
  go_wp2
  go_loopg [4] 3 (fun g s4 wx => ∃ i : Nat, i + g = 3 ∧ s4 = .int .i64 i ∧ W2 = wx ∧ Hid (P28.texts ([n1, a1, u1].drop i) = TT))
  case atStart => exact ⟨0, by omega, by go_num, rfl, HTT⟩
  case round =>
    obtain ⟨i, hig, rfl, hw, HT⟩ := hrel
    subst hw
    cases gk with
    | succ g' =>
      have hlt : (i : Int) < 3 := by omega
      have hki : IntKind.i64.wrap ((i : Int) + 1) = (i : Int) + 1 := IntWalk.i64_in _ (by omega)
      obtain ⟨x, hx, hxl, hcx⟩ : ∃ x, [n1, a1, u1][i]? = some x ∧ x.length ≤ 1000000 ∧ W2.cell? ⟨H + 1, i, none⟩ = some (.string ⟨x.toArray⟩) := by
        obtain ⟨h1, h2, h3⟩ := unhide HL1
        rcases i with _ | _ | _ | i
        · exact ⟨n1, rfl, h1, m0⟩
        · exact ⟨a1, rfl, h2, m1⟩
        · exact ⟨u1, rfl, h3, m2⟩
        · omega
      have ht := unhide HT
      rw [drop_of hx, texts_cons] at ht
      have hck := fun V => unhide HCK x hxl V
      obtain ⟨CX, hCX⟩ : ∃ c, P03.check x 64 = c := ⟨_, rfl⟩
      rw [hCX] at ht hck
      have HCX := hide hck
      by_cases hz : CX = 0
      · subst hz
        have HT2 : Hid (P28.texts ([n1, a1, u1].drop (i + 1)) = TT) := hide (by simpa using ht)
        clear ht hck hCX hx hxl
        go_wp2_with (go_at_call 116; refine (unhide HCX _).mono ?_; rintro e w4 ⟨rfl, hw⟩; have hw := hw.symm; subst hw)
        go_roundg g'
        case measure => omega
        case rel => exact ⟨i + 1, by omega, by go_num, rfl, HT2⟩
      · rw [if_pos hz] at ht
        have hzb : (CX != 0) = true := by simpa using hz
        have e : RES = CX := by rw [← unhide HRES, ← ht, if_pos hz]
        subst e
        clear ht hck hCX hx hxl
        go_wp2_with (go_at_call 116; refine (unhide HCX _).mono ?_; rintro e w4 ⟨rfl, hw⟩; have hw := hw.symm; subst hw)
        go_ret
        exact ⟨rfl, unhide HB2⟩
    | zero =>
      have e1 : (3 : Int) ≤ (i : Int) := by omega
      have j1 : decide ((i : Int) < 3) = false := by simp; omega
      have hT0 : TT = 0 := by
        rw [← unhide HT, List.drop_eq_nil_of_le (by simp; omega)]
        rfl
      subst hT0
      have hr := unhide HRES
      rw [if_neg (by simp)] at hr
      clear HRES
      by_cases h64 : 64 < N1
      · rw [if_pos h64] at hr
        subst hr
        have h6 : (64 : Int) < (N1 : Int) := by omega
        go_wp2
        go_ret
        exact ⟨rfl, unhide HB2⟩
      rw [if_neg h64] at hr
      have h6 : ¬ (64 : Int) < (N1 : Int) := by omega
      have h6b : decide ((64 : Int) < (N1 : Int)) = false := by simp; omega
      have HRES := hide hr
      have HTA0 : Hid (P28.texts (af1.drop 0) = TA) := HTA
      clear hr
      go_wp2
      go_loopg [6] N1 (fun g s6 wx => ∃ i : Nat, i + g = N1 ∧ s6 = .int .i64 i ∧ W2 = wx ∧ Hid (P28.texts (af1.drop i) = TA))
      case atStart => exact ⟨0, by omega, by go_num, rfl, HTA0⟩
      case round =>
        obtain ⟨k, hkg, rfl, hw, HT3⟩ := hrel
        subst hw
        cases gk with
        | succ g' =>
          have hlt2 : (k : Int) < (N1 : Int) := by omega
          have hkk : IntKind.i64.wrap ((k : Int) + 1) = (k : Int) + 1 := IntWalk.i64_in _ (by omega)
          obtain ⟨x, hx⟩ := nth_of (unhide HN1) (show k < N1 by omega)
          have hxl := unhide HLX x (List.mem_of_getElem? hx)
          obtain ⟨rb, ro, rfl, cx⟩ := unhide HKEYS W2 (unhide HB2) k x hx
          have ht := unhide HT3
          rw [drop_of hx, texts_cons] at ht
          have hck := fun V => unhide HCK x hxl V
          obtain ⟨CX, hCX⟩ : ∃ c, P03.check x 64 = c := ⟨_, rfl⟩
          rw [hCX] at ht hck
          have HCX := hide hck
          by_cases hz : CX = 0
          · subst hz
            have HT2 : Hid (P28.texts (af1.drop (k + 1)) = TA) := hide (by simpa using ht)
            clear ht hck hCX hx hxl
            go_wp2_with (go_at_call 116; refine (unhide HCX _).mono ?_; rintro e w4 ⟨rfl, hw⟩; have hw := hw.symm; subst hw)
            go_roundg g'
            case measure => omega
            case rel => exact ⟨k + 1, by omega, by go_num, rfl, HT2⟩
          · rw [if_pos hz] at ht
            have hzb : (CX != 0) = true := by simpa using hz
            have e : RES = CX := by rw [← unhide HRES, ← ht, if_pos hz]
            subst e
            clear ht hck hCX hx hxl
            go_wp2_with (go_at_call 116; refine (unhide HCX _).mono ?_; rintro e w4 ⟨rfl, hw⟩; have hw := hw.symm; subst hw)
            go_ret
            exact ⟨rfl, unhide HB2⟩
        | zero =>
          have e2 : (N1 : Int) ≤ (k : Int) := by omega
          have j2 : decide ((k : Int) < (N1 : Int)) = false := by simp; omega
          have j2b : ¬ k < N1 := by omega
          have hA0 : TA = 0 := by
            rw [← unhide HT3, List.drop_eq_nil_of_le (by rw [unhide HN1]; omega)]
            rfl
          subst hA0
          have hr := unhide HRES
          rw [if_neg (by simp)] at hr
          clear HRES
          have HRES := hide hr
          have HFB0 : Hid (fitsL ([q1, fi1, fa1, li1].drop 0) = FB) := HFB
          obtain ⟨_, _, _, _, ⟨y4, _⟩, ⟨y5, _⟩, ⟨y6, _⟩, ⟨y7, _⟩, _⟩ := cell13 (unhide G02)
          clear hr h6b
          go_upto_region 17 with fail
          try rw [hs2]
          rw [unhide HW3]
          clear y3 y4 y5 y6 y7 m0 m1 m2
          have m0 := cellO (o := 0) (unhide G2) rfl
          have m1 := cellO (o := 1) (unhide G2) rfl
          have m2 := cellO (o := 2) (unhide G2) rfl
          have m3 := cellO (o := 3) (unhide G2) rfl
          go_wp2
          go_loopg [9] 4 (fun g s9 wx => ∃ i : Nat, i + g = 4 ∧ s9 = .int .i64 i ∧ W3 = wx ∧ Hid (fitsL ([q1, fi1, fa1, li1].drop i) = FB))
          case atStart => exact ⟨0, by omega, by go_num, rfl, HFB0⟩
          case round =>
            obtain ⟨n, hng, rfl, hw, HF⟩ := hrel
            subst hw
            cases gk with
            | succ g' =>
              have hlt3 : (n : Int) < 4 := by omega
              have hkn : IntKind.i64.wrap ((n : Int) + 1) = (n : Int) + 1 := IntWalk.i64_in _ (by omega)
              obtain ⟨x, hx, hcx⟩ : ∃ x, [q1, fi1, fa1, li1][n]? = some x ∧ W3.cell? ⟨H + 1 + 1, n, none⟩ = some (.int .i64 x) := by
                rcases n with _ | _ | _ | _ | n
                · exact ⟨q1, rfl, m0⟩
                · exact ⟨fi1, rfl, m1⟩
                · exact ⟨fa1, rfl, m2⟩
                · exact ⟨li1, rfl, m3⟩
                · omega
              have hf := unhide HF
              rw [drop_of hx, show fitsL (x :: [q1, fi1, fa1, li1].drop (n + 1)) = (P28.fits x && fitsL ([q1, fi1, fa1, li1].drop (n + 1))) from rfl] at hf
              rcases (by omega : x < 0 ∨ (0 ≤ x ∧ 999999999 < x) ∨ (0 ≤ x ∧ x ≤ 999999999)) with h1 | ⟨h1, h2⟩ | ⟨h1, h2⟩
              · have e : FB = false := by rw [← hf]; simp [P28.fits]; omega
                have e2 : RES = 1 := by rw [← unhide HRES, e, if_pos rfl]
                subst e2
                clear hf hx e
                go_wp2
                go_ret
                exact ⟨rfl, unhide HB3⟩
              · have e : FB = false := by rw [← hf]; simp [P28.fits]; omega
                have e2 : RES = 1 := by rw [← unhide HRES, e, if_pos rfl]
                have h3 : ¬ x < 0 := by omega
                have j3 : decide (x < 0) = false := by simp; omega
                subst e2
                clear hf hx e
                go_wp2
                go_ret
                exact ⟨rfl, unhide HB3⟩
              · have h3 : ¬ x < 0 := by omega
                have j3 : decide (x < 0) = false := by simp; omega
                have j4 : decide (999999999 < x) = false := by simp; omega
                have HF2 : Hid (fitsL ([q1, fi1, fa1, li1].drop (n + 1)) = FB) := hide (by rw [← hf]; simp [P28.fits, h1, h2])
                clear hf hx
                go_wp2
                go_roundg g'
                case measure => omega
                case rel => exact ⟨n + 1, by omega, by go_num, rfl, HF2⟩
            | zero =>
              have e3 : (4 : Int) ≤ (n : Int) := by omega
              have j5 : decide ((n : Int) < 4) = false := by simp; omega
              have hF1 : FB = true := by
                rw [← unhide HF, List.drop_eq_nil_of_le (by simp; omega)]
                rfl
              subst hF1
              have hr := unhide HRES
              rw [if_neg (by simp)] at hr
              clear HRES
              clear m0 m1 m2 m3
              obtain ⟨_, _, _, _, _, _, _, _, ⟨y8, _⟩, ⟨y9, _⟩, ⟨y10, _⟩, ⟨y11, _⟩, ⟨y12, _⟩⟩ := cell13 (unhide G03)
              cases NB with
              | true =>
                rw [if_pos rfl] at hr
                subst hr
                go_wp2_with (go_at_call 158; refine (unhide HNONE _).mono ?_; rintro e w4 ⟨rfl, hb4⟩)
                go_ret
                exact ⟨rfl, (unhide HB3).trans (hb4.mono (by have := (unhide HB3).size; omega))⟩
              | false =>
                rw [if_neg (by simp)] at hr
                have HR2 := hide hr
                clear hr
                go_upto_region 24 with (go_at_call 158; refine (unhide HNONE _).mono ?_; rintro e w4 ⟨rfl, hb4⟩)
                have hHW3 := (Array.getElem?_eq_some_iff.1 (unhide G03)).1
                have hbw4 := (unhide HB3).trans (hb4.mono (by omega))
                have g04 := (hb4.block H hHW3).trans (unhide G03)
                have hHW4 := (Array.getElem?_eq_some_iff.1 g04).1
                have HBW4 := hide hbw4
                have G04 := hide g04
                clear y8 y9 y10 y11 y12
                obtain ⟨_, _, _, _, _, _, _, _, ⟨y8, _⟩, ⟨y9, _⟩, ⟨y10, _⟩, ⟨y11, _⟩, ⟨y12, _⟩⟩ := cell13 g04
                clear hb4 hbw4 g04
                by_cases hz : CE = 0
                · have hr := unhide HR2
                  subst hz
                  rw [if_neg (by simp)] at hr
                  clear HR2
                  go_upto_region 27 with (go_at_call 159; refine (unhide HCHK _ (unhide HBW4)).mono ?_; rintro e w5 ⟨rfl, hb5⟩)
                  have hbw5 := (unhide HBW4).trans (hb5.mono (by omega))
                  have g05 := (hb5.block H hHW4).trans (unhide G04)
                  have hHW5 := (Array.getElem?_eq_some_iff.1 g05).1
                  have HBW5 := hide hbw5
                  clear y8 y9 y10 y11 y12
                  obtain ⟨_, _, _, _, _, _, _, _, ⟨y8, _⟩, ⟨y9, _⟩, ⟨y10, _⟩, ⟨y11, _⟩, ⟨y12, _⟩⟩ := cell13 g05
                  clear hb5 hbw5 g05
                  by_cases hd : 13 < DP
                  · rw [if_pos hd] at hr
                    subst hr
                    have hd2 : (13 : Int) < (DP : Int) := by omega
                    go_wp2_with (go_at_call 160; refine (unhide HDEP _ (unhide HBW5)).mono ?_; rintro e w6 ⟨rfl, hb6⟩)
                    go_ret
                    exact ⟨rfl, (unhide HBW5).trans (hb6.mono (by omega))⟩
                  · rw [if_neg hd] at hr
                    subst hr
                    have hd2 : ¬ (13 : Int) < (DP : Int) := by omega
                    have hd3 : decide ((13 : Int) < (DP : Int)) = false := by simp; omega
                    go_wp2_with (go_at_call 160; refine (unhide HDEP _ (unhide HBW5)).mono ?_; rintro e w6 ⟨rfl, hb6⟩)
                    go_ret
                    exact ⟨rfl, (unhide HBW5).trans (hb6.mono (by omega))⟩
                · have hr := unhide HR2
                  rw [if_pos hz] at hr
                  have hzb : (CE != 0) = true := by simpa using hz
                  subst hr
                  clear HR2
                  go_wp2_with (go_at_call 159; refine (unhide HCHK _ (unhide HBW4)).mono ?_; rintro e w5 ⟨rfl, hb5⟩)
                  go_ret
                  exact ⟨rfl, (unhide HBW4).trans (hb5.mono (by omega))⟩
end Go.Proofs.YtefokfbgpfcbkaaGreat
namespace Go.Proofs.YtefokfbgpfcbkaaGreat
set_option linter.unusedVariables false
set_option linter.unusedSimpArgs false
open Go.RowKit
structure StOk (s : PSt) : Prop where
  name : s.name.length ≤ 1000000
  action : s.action.length ≤ 1000000
  undo : s.undo.length ≤ 1000000
  after : s.after.length ≤ 1000000
  texts : ∀ x ∈ s.after, x.length ≤ 1000000
  sm : Sm s.note.bare
  size : (s.note.bare.size 18).2 ≤ 1000000000
set_option maxRecDepth 100000 in
set_option maxHeartbeats 8000000 in
theorem RCheck21_any (d : PDef) (w : World) (hin : d.In w) (hn9 : d.name.length ≤ 1000000) (ht9 : d.text.length ≤ 1000000) (hl : d.steps.length ≤ 1000000) (hst : ∀ s ∈ d.steps, StOk s) :
    Calls Tryz.prog 69 #[d.val] w fun e w' => e = .returned (.agg #[.int .i64 (P28.defE d.bare).1, .int .i64 (P28.defE d.bare).2]) ∧ Below w.heap.size w w' := by
  obtain ⟨H, hH⟩ : ∃ H, w.heap.size = H := ⟨_, rfl⟩
  rw [hH]
  have hdlt := fun r (hr : d.blk r) => hin.lt hr
  rw [hH] at hdlt
  have hinV : ∀ V, Below H w V → d.In V := fun V hV => hin.keep (fun r hr => hV.block r (hdlt r hr))
  have hspec : P28.defE d.bare = if P03.check d.name 64 ≠ 0 then (P03.check d.name 64, 0) else if P03.check d.text 4096 ≠ 0 then (P03.check d.text 4096, 0) else if 1024 < d.steps.length then (2, 0) else P28.stepsE 0 (d.steps.map PSt.bare) := by
    unfold P28.defE
    rw [show d.bare.steps = d.steps.map PSt.bare from rfl, List.length_map]
    rfl
  obtain ⟨W1, hW1, hb1, g0, g1, hs1⟩ := new2 w (defO d) (.cells #[.int .i64 0, .int .i64 0] 127) H hH
  have hD1 : DcI w W1 H d := ⟨g0, g1, hb1, by omega⟩
  have hck1 := fun V => refCheck_any ⟨d.name.toArray⟩ 64 V (by simp [ByteArray.size]; omega)
  have hck2 := fun V => refCheck_any ⟨d.text.toArray⟩ 4096 V (by simp [ByteArray.size]; omega)
  simp only [List.toList_toArray] at hck1 hck2
  obtain ⟨TT, hTT⟩ : ∃ T, P03.check d.name 64 = T := ⟨_, rfl⟩
  obtain ⟨TC, hTC⟩ : ∃ T, P03.check d.text 4096 = T := ⟨_, rfl⟩
  obtain ⟨RES, hRES⟩ : ∃ R, P28.defE d.bare = R := ⟨_, rfl⟩
  rw [hTT] at hck1
  rw [hTC] at hck2
  rw [hTT, hTC] at hspec
  rw [hRES] at hspec ⊢
  obtain ⟨⟨k0, _⟩, ⟨k1, _⟩, ⟨k2, _⟩⟩ := cell3 g0
  obtain ⟨⟨p0, pf0⟩, ⟨p1, pf1⟩⟩ := two_cells g1
  have HCK1 := hide hck1
  have HCK2 := hide hck2
  have HR := hide hspec.symm
  have HIN := hide hinV
  have HST := hide hst
  have HW1 := hide hW1
  have HD1 := hide hD1
  clear hck1 hck2 hspec hinV hst hW1 hD1 g0 g1 hb1 hTT hTC hRES hin hdlt hn9 ht9
  unfold defO at HW1
  obtain ⟨nm, tx, sa, sc, ss⟩ := d
  obtain ⟨M, hM⟩ : ∃ M, ss.length = M := ⟨_, rfl⟩
  unfold PDef.val
  simp only at k0 k1 k2 HW1 HCK1 HCK2 HR HST hl ⊢
  rw [hM] at k2 HW1 HR hl ⊢
  have HM := hide hM
  clear hM
  go_enter Tryz.func69, Tryz.ntmps69
  go_upto_region 1 with fail
  try rw [hH]
  rw [unhide HW1]
  by_cases c1 : TT = 0
  rotate_left
  · have d1 : (TT == 0) = false := by simpa using c1
    have d1' : (TT != 0) = true := by simpa using c1
    have hr := unhide HR
    rw [if_pos c1] at hr
    subst hr
    clear HR c1
    go_wp2_with (go_at_call 116; refine (unhide HCK1 _).mono ?_; rintro e w4 ⟨rfl, hw⟩; have hw := hw.symm; subst hw)
    (try simp only [Exit.noGoto_ret, Exit.inBlock, Exit.then])
    have hD := unhide HD1
    refine bodyPost_ret (results_c1 rfl _ _ _ (H + 1) _ rfl (fault_load (two_put hD.fa _ _))) rfl ?_
    exact ⟨rfl, hD.out _ _⟩
  subst c1
  have hr := unhide HR
  rw [if_neg (by simp)] at hr
  have HR := hide hr
  clear hr
  by_cases c2 : TC = 0
  rotate_left
  · have d1 : (TC == 0) = false := by simpa using c2
    have d1' : (TC != 0) = true := by simpa using c2
    have hr := unhide HR
    rw [if_pos c2] at hr
    subst hr
    clear HR c2
    go_upto_region 4 with (go_at_call 116; refine (unhide HCK1 _).mono ?_; rintro e w4 ⟨rfl, hw⟩; have hw := hw.symm; subst hw)
    go_wp2_with (go_at_call 116; refine (unhide HCK2 _).mono ?_; rintro e w4 ⟨rfl, hw⟩; have hw := hw.symm; subst hw)
    (try simp only [Exit.noGoto_ret, Exit.inBlock, Exit.then])
    have hD := unhide HD1
    refine bodyPost_ret (results_c1 rfl _ _ _ (H + 1) _ rfl (fault_load (two_put hD.fa _ _))) rfl ?_
    exact ⟨rfl, hD.out _ _⟩
  subst c2
  have hr := unhide HR
  rw [if_neg (by simp)] at hr
  have HR := hide hr
  clear hr
  go_upto_region 4 with (go_at_call 116; refine (unhide HCK1 _).mono ?_; rintro e w4 ⟨rfl, hw⟩; have hw := hw.symm; subst hw)
  go_upto_region 7 with (go_at_call 116; refine (unhide HCK2 _).mono ?_; rintro e w4 ⟨rfl, hw⟩; have hw := hw.symm; subst hw)
  by_cases c3 : 1024 < M
  · have d1 : (1024 : Int) < (M : Int) := by omega
    have hr := unhide HR
    rw [if_pos c3] at hr
    subst hr
    clear HR c3
    go_wp2
    (try simp only [Exit.noGoto_ret, Exit.inBlock, Exit.then])
    have hD := unhide HD1
    refine bodyPost_ret (results_c1 rfl _ _ _ (H + 1) _ rfl (fault_load (two_put hD.fa _ _))) rfl ?_
    exact ⟨rfl, hD.out _ _⟩
  have d1 : (M : Int) ≤ 1024 := by omega
  have hr := unhide HR
  rw [if_neg c3] at hr
  have HR := hide hr
  clear hr c3
  go_wp2
  go_loopg [5] M (fun g s5 wx => ∃ (i : Nat), i + g = M ∧ s5 = .int .i64 i ∧ Hid (DcI w wx H ⟨nm, tx, sa, sc, ss⟩) ∧ Hid (P28.stepsE i ((ss.map PSt.bare).drop i) = RES))
  case atStart => exact ⟨0, by omega, by go_num, HD1, by simpa using HR⟩
  case round =>
    obtain ⟨i, hig, rfl, HD, HE⟩ := hrel
    clear k0 k1 k2 p0 p1 pf0 pf1
    have hD := unhide HD
    obtain ⟨⟨k0, _⟩, ⟨k1', _⟩, ⟨k2, _⟩⟩ := cell3 hD.df
    obtain ⟨⟨p0, pf0⟩, ⟨p1, pf1⟩⟩ := two_cells hD.fa
    simp only [unhide HM] at k0 k1' k2
    cases gk with
    | zero =>
      have e1 : (M : Int) ≤ (i : Int) := by omega
      have j1 : decide ((i : Int) < (M : Int)) = false := by simp; omega
      have hr := unhide HE
      rw [List.drop_of_length_le (by rw [List.length_map, unhide HM]; omega)] at hr
      have hr : ((0 : Int), (0 : Int)) = RES := hr
      subst hr
      clear HE HR hD
      go_wp2
      (try simp only [Exit.noGoto_ret, Exit.inBlock, Exit.then])
      have hD := unhide HD
      refine bodyPost_ret (results_c1 rfl _ _ _ (H + 1) _ rfl (fault_load (two_put hD.fa _ _))) rfl ?_
      exact ⟨rfl, hD.out _ _⟩
    | succ g' =>
      have hlt : (i : Int) < (M : Int) := by omega
      have hki : IntKind.i64.wrap ((i : Int) + 1) = (i : Int) + 1 := IntWalk.i64_in _ (by omega)
      obtain ⟨s1, hg1⟩ := nth_of (unhide HM) (show i < M by omega)
      have hst1 := unhide HST s1 (List.mem_of_getElem? hg1)
      have hwa := ((unhide HIN) wr hD.bel).steps
      obtain ⟨b1, o1, rfl, c1, hi1⟩ := hwa.get hg1
      have hbr : (ss.map PSt.bare)[i]? = some s1.bare := by rw [List.getElem?_map, hg1]; rfl
      have hee := unhide HE
      rw [stepsE_drop _ i _ hbr] at hee
      have hstep := RStep_any s1 wr hi1 hst1.name hst1.action hst1.undo hst1.after hst1.texts hst1.sm hst1.size
      obtain ⟨EE, hEE⟩ : ∃ E, P28.stepE s1.bare = E := ⟨_, rfl⟩
      rw [hEE] at hee hstep
      obtain ⟨n1, a1, u1, aa1, ac1, af1, q1, fi1, fa1, li1, ⟨kd1, t1, ka1, kc1, ks1, da1, dc1, ds1, l1⟩⟩ := s1
      obtain ⟨⟨c0, c1, c2, c3⟩, ⟨c4, c5, c6, c7⟩, ⟨c8, c9, c10, c11, c12⟩⟩ := step_cells c1
      simp only [PSt.aV, Nd.kind, Nd.text, Nd.kV, Nd.dV, Nd.line, Nd.ka, Nd.kc, Nd.keys, Nd.da, Nd.dc, Nd.kids] at c0 c1 c2 c3 c4 c5 c6 c7 c8 c9 c10 c11 c12
      simp only [PSt.val_eqn] at hstep
      obtain ⟨N1, hN1⟩ : ∃ N1, af1.length = N1 := ⟨_, rfl⟩
      obtain ⟨N2, hN2⟩ : ∃ N2, ks1.length = N2 := ⟨_, rfl⟩
      obtain ⟨N3, hN3⟩ : ∃ N3, ds1.length = N3 := ⟨_, rfl⟩
      rw [hN1] at c3 hstep
      rw [hN2] at c10 hstep
      rw [hN3] at c11 hstep
      have HS2 := hide hstep
      have HEE := hide hee
      clear hee hD hstep hEE hbr hwa hi1 hg1 hst1 hN1 hN2 hN3 HE HR
      go_upto_region 13 with (go_at_call 117; refine (unhide HS2).mono ?_; rintro e w5 ⟨rfl, hb5⟩)
      have hD5 := (unhide HD).keep hb5
      have HD5 := hide hD5
      clear c0 c1 c2 c3 c4 c5 c6 c7 c8 c9 c10 c11 c12 k0 k1' k2 p0 p1 pf0 pf1 hb5
      obtain ⟨⟨p0, pf0⟩, ⟨p1, pf1⟩⟩ := two_cells hD5.fa
      by_cases cE : EE = 0
      · subst cE
        have hee := unhide HEE
        rw [if_neg (by simp)] at hee
        have HE2 := hide hee
        clear hee hD5
        go_wp2
        go_roundg g'
        case measure => omega
        case rel => exact ⟨i + 1, by omega, by go_num, HD5, HE2⟩
      · have hee := unhide HEE
        rw [if_pos cE] at hee
        subst hee
        have d1 : (EE == 0) = false := by simpa using cE
        have d2 : (EE != 0) = true := by simpa using cE
        clear HEE cE hD5
        go_wp2
        (try simp only [Exit.noGoto_ret, Exit.inBlock, Exit.then])
        have hD := unhide HD5
        refine bodyPost_ret (results_c1 rfl _ _ _ (H + 1) _ rfl (fault_load (two_put hD.fa _ _))) rfl ?_
        exact ⟨rfl, hD.out _ _⟩
end Go.Proofs.YtefokfbgpfcbkaaGreat
namespace Go.Proofs.YtefokfbgpfcbkaaGreat
set_option linter.unusedVariables false
set_option linter.unusedSimpArgs false
open Go.RowKit
theorem step_appT {w : World} {B B2 : Nat} {v u : Value} {ns ms : List P28.Note} {ops : Array Oper} {o : Oper} {a : Act} {K : Act → World → Prop} {Q : Exit → Act → World → Prop} {E : Prop} (hgd : o.guard = none) (s x : Operand)
    (ho : o.op = .call { callee := .builtin .append, args := #[s, x], argTypes := #[124, 124] })
    (hs : a.eval s = v) (hown : OwnT w B v ns) (hx : a.eval x = u) (hu : OwnT w B2 u ms) (hlen : ns.length + ms.length ≤ 1000000000000) (hB : B ≤ w.heap.size)
    (h : ∀ v' w', OwnT w' B v' (ns ++ ms) → w.grownBy w' v.ownBlock → K (a.put o.dst v') w') :
    if Region.wanted o (yielded ops a.tmps) = true then Oper.wp Tryz.prog o a w K Q else E := by
  obtain ⟨v', w', hr, h2, h3⟩ := run_appT hown hu o.type hlen hB
  have hw : Region.wanted o (yielded ops a.tmps) = true := by simp [Region.wanted, hgd]
  rw [if_pos hw]
  unfold Oper.wp execOp
  simp only [ho, resolve, invoke, builtin, Sem.run_bind, Sem.run_pure, Result.andThen_ok, List.map_toArray, List.map_cons, List.map_nil, hs, hx, hr]
  exact h v' w' h2 h3
namespace P28
def allR (d : P22.Def) : List Note := sortR (sortR (namesR d) ++ sortR (boundsR d) ++ cyc d)
theorem allR_nil (d : P22.Def) : (decide ((allR d).length = 0) && (defE d).1 == 0) = cleanR d := by
  have h : allR d = [] ↔ namesR d = [] ∧ boundsR d = [] ∧ cyc d = [] := by
    unfold allR
    rw [sortR_nil, List.append_eq_nil_iff, List.append_eq_nil_iff, sortR_nil, sortR_nil, and_assoc]
  unfold cleanR
  rw [Bool.eq_iff_iff]
  simp only [Bool.and_eq_true, List.isEmpty_iff, decide_eq_true_eq, List.length_eq_zero_iff, h, and_assoc]
end P28
theorem namesR_len (d : P22.Def) (hl : d.steps.length ≤ 1000) (haf : ∀ s ∈ d.steps, s.after.length ≤ 1000) : (P28.namesR d).length ≤ 3004002 := by
  unfold P28.namesR
  simp only [List.length_append]
  have h1 := nt_len d.steps.isEmpty (-1) 17 []
  have h2 := nt_len (!P28.right d.name) (-1) 18 d.name
  have h3 := stepsR_len (P28.names d) d.steps 0 haf
  omega
theorem boundsR_len (d : P22.Def) (hl : d.steps.length ≤ 1000) : (P28.boundsR d).length ≤ 1004000 := by
  unfold P28.boundsR
  have h1 := stepsBR_len (P28.undos d) (P28.refs d) d.steps.length d.steps 0
  have h2 : d.steps.length * (4 + d.steps.length) ≤ 1000 * 1004 := Nat.mul_le_mul hl (by omega)
  omega
theorem orderGo_len (RS : List (List Nat)) : ∀ (g : Nat) (th : List Bool) (out : List Nat), (P28.orderGo RS g th out).length ≤ out.length + g
  | 0, th, out => Nat.le_refl _
  | g + 1, th, out => by
    rw [orderGo_succ]
    split
    · omega
    · rename_i i _
      have := orderGo_len RS g (th.set i true) (out ++ [i])
      rw [List.length_append] at this
      simp at this
      omega
theorem order_len (RS : List (List Nat)) : (P28.order RS).length ≤ RS.length := by
  have := orderGo_len RS RS.length (List.replicate RS.length false) []
  unfold P28.order
  simpa using this
structure AlI (W V : World) (S : Nat) (acc : List P28.Note) (v : Value) (ol : List Nat) (vo : Value) : Prop where
  own : OwnT V S v acc
  bel : Below S W V
  size : S ≤ V.heap.size
  ord : OwnN V S vo ol
  ne : ∀ g, vo.ownBlock = some g → v.ownBlock ≠ some g
theorem AlI.alloc {W V V' : World} {S : Nat} {acc : List P28.Note} {v vo : Value} {ol : List Nat} (h : AlI W V S acc v ol vo) (hb : Below V.heap.size V V') : AlI W V' S acc v ol vo :=
  ⟨h.own.keep (fun g hg => hb.block g (h.own.lt hg).2), h.bel.trans (hb.mono h.size), Nat.le_trans h.size hb.size, h.ord.keep (fun g hg => hb.block g (h.ord.lt hg).2), h.ne⟩
theorem AlI.grow {W V V' : World} {S g : Nat} {acc acc' : List P28.Note} {v v' vo : Value} {ol : List Nat} (h : AlI W V S acc v ol vo) (ho : OwnT V' S v' acc') (hg : V.grownBy V' v.ownBlock) (he : v'.ownBlock = some g) (hat : v.ownBlock = some g ∨ g = V.heap.size) : AlI W V' S acc' v' ol vo := by
  refine ⟨ho, h.bel.grown hg h.size (fun k hk => (h.own.lt hk).1), Nat.le_trans h.size hg.size, h.ord.keep (fun k hk => hg.block k (h.ord.lt hk).2 (fun e => h.ne k hk e.symm)), fun k hk e => ?_⟩
  rw [he] at e
  cases e
  rcases hat with h1 | h1
  · exact h.ne _ hk h1
  · have := (h.ord.lt hk).2
    omega
structure ROk (d : PDef) : Prop where
  len : d.steps.length ≤ 1000
  after : ∀ s ∈ d.steps, s.after.length ≤ 1000
  name : d.name.length ≤ 1000000
  text : d.text.length ≤ 1000000
  st : ∀ s ∈ d.steps, StOk s
set_option maxRecDepth 100000 in
set_option maxHeartbeats 16000000 in
theorem RAll_any (d : PDef) (w : World) (hin : d.In w) (hok : ROk d) :
    Calls Tryz.prog 68 #[d.val] w fun e w' => ∃ v, e = .returned v ∧ OwnT w' w.heap.size v (P28.allR d.bare) ∧ Below w.heap.size w w' := by
  have hl := hok.len
  have haf := hok.after
  have hl1 := namesR_len d.bare (by simpa [PDef.bare] using hl) (fun s hs => by
    obtain ⟨q, hq, rfl⟩ := List.mem_map.1 (show s ∈ d.steps.map PSt.bare from hs)
    exact haf q hq)
  have hl2 := boundsR_len d.bare (by simpa [PDef.bare] using hl)
  obtain ⟨H, hH⟩ : ∃ H, w.heap.size = H := ⟨_, rfl⟩
  rw [hH]
  obtain ⟨W1, hW1, hb1, g0, hs1⟩ := new1 w (defO d) H hH
  have hinV : ∀ V, Below (H + 1) W1 V → d.In V := fun V hV => hin.below (by rw [hH]; exact hb1.trans (hV.mono (by omega)))
  have hbx : ∀ V, Below (H + 1) W1 V → V.heap[H]? = some (defO d) := fun V hV => (hV.block H (by omega)).trans g0
  have hc1 := fun (V : World) (hV : Below (H + 1) W1 V) => RCheck25_any d V (hinV V hV) hl haf hok.name (fun s hs => ⟨(hok.st s hs).name, (hok.st s hs).action, (hok.st s hs).undo⟩)
  have hc2 := fun (V : World) (hV : Below (H + 1) W1 V) => RCheck27_any d V (hinV V hV) hl haf
  have hrefs := fun (V : World) (hV : Below (H + 1) W1 V) => RRefs_any d V (hinV V hV) (by omega) (fun s hs => Nat.le_trans (haf s hs) (by omega))
  have hrl : ∀ l ∈ P28.refs d.bare, l.length ≤ 1000 := rows_rl _ 1000 _ 0 (fun a ha => by
    simp only [P28.afters, PDef.bare, List.map_map, List.mem_map, Function.comp] at ha
    obtain ⟨s, hs, rfl⟩ := ha
    exact haf s hs)
  have hlt : ∀ l ∈ P28.refs d.bare, ∀ x ∈ l, x < d.steps.length := fun l h x hx => by
    have := P28.refs_lt h hx
    simpa [PDef.bare] using this
  have hrn : (P28.refs d.bare).length = d.steps.length := by rw [P28.refs_len]; simp [PDef.bare]
  have hng : ∀ (i : Nat) s, d.steps[i]? = some s → (P28.names d.bare).getD i [] = s.name := fun i s hs => by
    rw [List.getD_eq_getElem?_getD]
    simp [P28.names, PDef.bare, PSt.bare, hs]
  have hcyc : P28.cyc d.bare = (P28.roundFrom (P28.order (P28.refs d.bare)) d.steps.length 0).map fun (i : Nat) => ((i : Int), (16 : Int), (P28.names d.bare).getD i []) := by
    unfold P28.cyc P28.round
    rw [hrn]
  unfold P28.allR
  rw [hcyc]
  obtain ⟨RS, hRS⟩ : ∃ RS, P28.refs d.bare = RS := ⟨_, rfl⟩
  obtain ⟨ns, hns⟩ : ∃ ns, P28.names d.bare = ns := ⟨_, rfl⟩
  obtain ⟨L1, hL1⟩ : ∃ l, P28.sortR (P28.namesR d.bare) = l := ⟨_, rfl⟩
  obtain ⟨L2, hL2⟩ : ∃ l, P28.sortR (P28.boundsR d.bare) = l := ⟨_, rfl⟩
  have hm1 : L1.length ≤ 3004002 := by rw [← hL1]; exact Nat.le_trans (P28.sortR_len _) hl1
  have hm2 : L2.length ≤ 1004000 := by rw [← hL2]; exact Nat.le_trans (P28.sortR_len _) hl2
  rw [hL1] at hc1 ⊢
  rw [hL2] at hc2 ⊢
  rw [hns] at hng ⊢
  rw [hRS] at hrefs hrl hlt hrn ⊢
  obtain ⟨ORD, hORD⟩ : ∃ o, P28.order RS = o := ⟨_, rfl⟩
  rw [hORD]
  have hst := hok.st
  obtain ⟨nm, tx, sa, sc, ss⟩ := d
  obtain ⟨N, hN⟩ : ∃ N, ss.length = N := ⟨_, rfl⟩
  unfold defO at hW1 hbx g0
  unfold PDef.val at hc1 hc2 hrefs ⊢
  simp only [hN] at hW1 hbx g0 hl hrn hrefs haf hng hc1 hc2 hlt ⊢
  obtain ⟨acc0, hacc0⟩ : ∃ a, L1 ++ L2 = a := ⟨_, rfl⟩
  have hal : acc0.length ≤ 4008002 := by rw [← hacc0, List.length_append]; omega
  obtain ⟨TOT, hTOT⟩ : ∃ t, acc0 ++ (P28.roundFrom ORD N 0).map (fun (i : Nat) => ((i : Int), (16 : Int), ns.getD i [])) = t := ⟨_, rfl⟩
  rw [hacc0, hTOT]
  obtain ⟨⟨k0, _⟩, ⟨k1, _⟩, ⟨k2, _⟩⟩ := cell3 g0
  have HTOT := hide hTOT
  have HACC0 := hide hacc0
  have HAL0 := hide hal
  clear hTOT hacc0 hal
  have HIN := hide hinV
  have HBX := hide hbx
  have HC1 := hide hc1
  have HC2 := hide hc2
  have HREFS := hide hrefs
  have HW1 := hide hW1
  have HB1 := hide hb1
  have HN := hide hN
  have HRL := hide hrl
  have HRN := hide hrn
  have HLT := hide hlt
  have HNG := hide hng
  have HORD := hide hORD
  have HM1 := hide (And.intro hm1 hm2)
  have HS1 := hide hs1
  clear hinV hbx hc1 hc2 hrefs hW1 hb1 hRS hns hL1 hL2 hN g0 hin haf hrl hrn hlt hng hcyc hORD hm1 hm2 hl1 hl2 hok hst hs1
  go_enter Tryz.func68, Tryz.ntmps68
  go_upto_region 1 with fail
  try rw [hH]
  rw [unhide HW1]
  go_cut [3] from 6 to 10 (fun s3 wx => ∃ v, s3 = v ∧ Hid (CkA W1 wx (H + 1) (L1 ++ L2) v))
  case first =>
    go_region_law (first
      | (refine step_appT (B := H + 1) (by rfl) _ _ (by rfl) (by rfl) (unhide HT2) (by rfl) (unhide HT4) (by have := unhide HM1; omega) (unhide HZ4) ?_; intro v5 w5 hT5 hg5; have HG5 := hide hg5; have HT5 := hide hT5; clear hg5 hT5)
      | (go_simp; go_at_call 112; refine (unhide HC1 _ (Below.refl _ _).drew).mono ?_; rintro e w2 ⟨v2, rfl, hT2, hb2⟩; have hB2 : Below (H + 1) W1 w2 := (Below.refl _ _).drew.trans (hb2.mono (by have := unhide HS1; simp; omega)); have HT2 : Hid (OwnT w2 (H + 1) v2 L1) := hide (hT2.base (by have := unhide HS1; simp; omega)); obtain ⟨⟨j0, _⟩, ⟨j1, _⟩, ⟨j2, _⟩⟩ := cell3 (unhide HBX w2 hB2); have HB2 := hide hB2; clear hT2 hb2 hB2)
      | (go_simp; go_at_call 113; refine (unhide HC2 _ (unhide HB2)).mono ?_; rintro e w4 ⟨v4, rfl, hT4, hb4⟩; have HZ2 := (unhide HB2).size; have HT2 := hide ((unhide HT2).keep (fun g hg => hb4.block g ((unhide HT2).lt hg).2)); have HZ4 : Hid (H + 1 ≤ w4.heap.size) := hide (by have := hb4.size; have := unhide HS1; omega); have HB4 := hide ((unhide HB2).trans (hb4.mono (by have := unhide HS1; omega))); have HT4 := hide hT4; clear hT4 hb4))
    all_goals (
      go_wp2
      go_meet
      exact ⟨_, rfl, hide ⟨unhide HT5, (unhide HB4).grown (unhide HG5) (unhide HZ4) (fun g hg => ((unhide HT2).lt hg).1), Nat.le_trans (unhide HZ4) (unhide HG5).size⟩⟩)
  case rest =>
  obtain ⟨v, rfl, HC⟩ := hcut
  obtain ⟨X, rfl⟩ : ∃ X, X = wc := ⟨_, rfl⟩
  have hc := unhide HC
  rw [unhide HACC0] at hc
  obtain ⟨va, vc, rfl⟩ := hc.own.form
  obtain ⟨NL, hNL⟩ : ∃ NL, acc0.length = NL := ⟨_, rfl⟩
  rw [hNL] at hc ⊢
  obtain ⟨⟨k0, _⟩, ⟨k1, _⟩, ⟨k2, _⟩⟩ := cell3 (unhide HBX X hc.bel)
  have hol : ORD.length ≤ 1000000 := by
    rw [← unhide HORD]
    have h1 := order_len RS
    rw [unhide HRN] at h1
    omega
  have HC := hide hc
  have HOL := hide hol
  clear hc hol hNL
  go_upto_region 3 with (first
    | (go_at_call 70; refine (unhide HREFS _ (unhide HC).bel).mono ?_; rintro e w5 ⟨vr, vs, rfl, hrows, hb5⟩; obtain ⟨ra, rc, hv⟩ := hrows.form; rw [unhide HRN] at hv; subst hv; have hord := ROrder_any _ N rc ra vs RS w5 hrows (unhide HRN) (unhide HLT) (by omega) (fun l hl => Nat.le_trans (unhide HRL l hl) (by omega)); rw [unhide HORD] at hord; have HORDC := hide hord; have HB5 := hide hb5; clear hrows hb5 hord)
    | (go_at_call 114; refine (unhide HORDC).mono ?_; rintro e w6 ⟨vo, rfl, hown6, hb6⟩))
  have HA0 : Hid (AlI W1 w6 (H + 1) acc0 (.slice va NL vc) ORD vo) := hide (by
    have hc := unhide HC
    have hb5 := unhide HB5
    have hsz := hc.size
    have hs5 := hb5.size
    have hb56 : Below X.heap.size X w6 := hb5.trans (hb6.mono hs5)
    exact ⟨hc.own.keep (fun g hg => hb56.block g (hc.own.lt hg).2), hc.bel.trans (hb56.mono hsz), Nat.le_trans hsz hb56.size, hown6.base (by omega), fun g hg e => by have h1 := (hown6.lt hg).1; have h2 := (hc.own.lt e).2; omega⟩)
  obtain ⟨oa, oc, rfl, _⟩ := hown6.slice
  obtain ⟨OL, hOL⟩ : ∃ OL, ORD.length = OL := ⟨_, rfl⟩
  rw [hOL] at HA0 ⊢
  have HOLE := hide hOL
  clear hown6 hb6 hOL k0 k1 k2 HC HB5 HORDC
  go_wp2
  go_loopg [3, 5] N (fun g s3 s5 wx => ∃ (i : Nat) (v : Value) (acc : List P28.Note), i + g = N ∧ s5 = .int .i64 i ∧ s3 = v ∧ Hid (acc ++ (P28.roundFrom ORD g i).map (fun (i : Nat) => ((i : Int), (16 : Int), ns.getD i [])) = TOT) ∧ Hid (acc.length ≤ 4008002 + i) ∧ Hid (AlI W1 wx (H + 1) acc v ORD (.slice oa OL oc)))
  case atStart => exact ⟨0, _, acc0, by omega, by go_num, rfl, HTOT, HAL0, HA0⟩
  case round =>
    obtain ⟨i, v, acc, hig, rfl, rfl, HT, HL, HA⟩ := hrel
    have hbw := (unhide HA).bel
    obtain ⟨⟨k0, _⟩, ⟨k1, _⟩, ⟨k2, _⟩⟩ := cell3 (unhide HBX wr hbw)
    obtain ⟨va1, vc1, hv⟩ := (unhide HA).own.form
    obtain ⟨NL1, hNL⟩ : ∃ NL, acc.length = NL := ⟨_, rfl⟩
    rw [hNL] at hv
    subst hv
    have HNL := hide hNL
    clear hNL HA0
    cases gk with
    | zero =>
      have e1 : (N : Int) ≤ (i : Int) := by omega
      have j1 : decide ((i : Int) < (N : Int)) = false := by simp; omega
      have ht : acc = TOT := by
        have := unhide HT
        rw [show P28.roundFrom ORD 0 i = [] from rfl, List.map_nil, List.append_nil] at this
        exact this
      have hsort := RSort_any acc _ wr (H + 1) (unhide HA).own (by have := unhide HL; omega)
      rw [ht] at hsort
      have HSORT := hide hsort
      clear ht hsort
      go_wp2_with (go_at_call 115; refine (unhide HSORT).mono ?_; rintro e w7 ⟨v7, rfl, hT7, hb7⟩)
      go_ret
      have hz := (unhide HA).size
      exact ⟨_, rfl, hT7.base (by omega), ((unhide HB1).trans (hbw.mono (by omega))).trans (hb7.mono (by omega))⟩
    | succ g' =>
      have hlt : (i : Int) < (N : Int) := by omega
      have hki : IntKind.i64.wrap ((i : Int) + 1) = (i : Int) + 1 := IntWalk.i64_in _ (by omega)
      obtain ⟨a2, c2, ho2, _, _, hin2⟩ := (unhide HA).ord.slice
      rw [unhide HOLE] at ho2
      cases ho2
      have hhas := Has_any oa oc ORD i wr hin2 (unhide HOL)
      rw [unhide HOLE] at hhas
      have ht := unhide HT
      rw [roundFrom_succ] at ht
      by_cases hm : i ∈ ORD
      · rw [decide_eq_true hm] at hhas
        rw [if_pos hm, List.nil_append] at ht
        have HHAS := hide hhas
        have HT2 := hide ht
        clear hm hhas ht hin2 hbw
        go_wp2_with (go_at_call 31; refine (unhide HHAS).mono ?_; rintro e w7 ⟨rfl, hw⟩; have hw := hw.symm; subst hw)
        go_roundg g'
        case measure => omega
        case rel => exact ⟨i + 1, _, acc, by omega, by go_num, rfl, HT2, hide (by have := unhide HL; omega), HA⟩
      · rw [decide_eq_false hm] at hhas
        rw [if_neg hm] at ht
        obtain ⟨s1, hs1⟩ := nth_of (unhide HN) (show i < N by omega)
        have hnm := unhide HNG i s1 hs1
        obtain ⟨⟨b1, o1, hsa, hat⟩, _⟩ := (unhide HIN wr hbw).steps i s1 hs1
        simp only at hsa
        subst hsa
        have c0 := (step_cells hat).1.1
        obtain ⟨n1, hn1⟩ : ∃ n, s1.name = n := ⟨_, rfl⟩
        rw [hn1] at c0 hnm
        have HT2 : Hid ((acc ++ [((i : Int), (16 : Int), n1)]) ++ (P28.roundFrom ORD g' (i + 1)).map (fun (i : Nat) => ((i : Int), (16 : Int), ns.getD i [])) = TOT) := hide (by rw [← ht, List.map_append, List.append_assoc, ← hnm]; rfl)
        obtain ⟨W5, hW5, hb5, g5, hs5⟩ := new1 wr (.cells #[.int .i64 i, .int .i64 16, .string ⟨n1.toArray⟩] 183) wr.heap.size rfl
        have HC5 := hide ((unhide HA).alloc hb5)
        have HW5 := hide hW5
        have HG5 := hide g5
        have HHAS := hide hhas
        have hS5 := (unhide HC5).size
        have hle : NL1 ≤ 4008002 + i := by rw [← unhide HNL]; exact unhide HL
        clear hm hhas ht hin2 hbw hs1 hat hn1 hnm hW5 hb5 g5 hs5
        go_wp2_with (first | (go_at_call 31; refine (unhide HHAS).mono ?_; rintro e w7 ⟨rfl, hw⟩; have hw := hw.symm; subst hw) | (rw [unhide HW5]; refine wpList_appNote (p := (i, 16, n1)) (by rfl) _ _ (by rfl) (by rfl) (unhide HC5).own wr.heap.size 1 (by rfl) (unhide HG5) NL1 (unhide HNL) (by omega) hS5 ?_; intro g6 cap6 w6 hown6 hgrow6 hat6 hlt6; have HC6 := hide ((unhide HC5).grow hown6 hgrow6 rfl hat6); clear hown6 hgrow6 hat6 hlt6))
        go_roundg g'
        case measure => omega
        case rel => exact ⟨i + 1, _, acc ++ [((i : Int), (16 : Int), n1)], by omega, by go_num, rfl, HT2, hide (by have := unhide HL; rw [List.length_append]; simp; omega), HC6⟩
attribute [local go_sem] run_field_fault
set_option maxRecDepth 100000 in
set_option maxHeartbeats 8000000 in
theorem RClean_any (d : PDef) (w : World) (hin : d.In w) (hok : ROk d) :
    Calls Tryz.prog 14 #[d.val] w fun e w' => e = .returned (.bool (P28.clean d.bare)) ∧ Below w.heap.size w w' := by
  rw [← P28.clean_eq, ← P28.allR_nil]
  obtain ⟨H, hH⟩ : ∃ H, w.heap.size = H := ⟨_, rfl⟩
  rw [hH]
  obtain ⟨W1, hW1, hb1, g0, hs1⟩ := new1 w (defO d) H hH
  have hinV : ∀ V, Below (H + 1) W1 V → d.In V := fun V hV => hin.below (by rw [hH]; exact hb1.trans (hV.mono (by omega)))
  have hbx : ∀ V, Below (H + 1) W1 V → V.heap[H]? = some (defO d) := fun V hV => (hV.block H (by omega)).trans g0
  have hall := RAll_any d W1 (hinV W1 (Below.refl _ _)) hok
  have hck := fun (V : World) (hV : Below (H + 1) W1 V) => RCheck21_any d V (hinV V hV) hok.name hok.text (by have := hok.len; omega) hok.st
  obtain ⟨AL, hAL⟩ : ∃ l, P28.allR d.bare = l := ⟨_, rfl⟩
  obtain ⟨DE, hDE⟩ : ∃ l, P28.defE d.bare = l := ⟨_, rfl⟩
  rw [hAL] at hall ⊢
  rw [hDE] at hck ⊢
  rw [hs1] at hall
  obtain ⟨nm, tx, sa, sc, ss⟩ := d
  obtain ⟨N, hN⟩ : ∃ N, ss.length = N := ⟨_, rfl⟩
  unfold defO at hW1 hbx g0
  unfold PDef.val at hall hck ⊢
  simp only [hN] at hW1 hbx g0 hall hck ⊢
  obtain ⟨⟨k0, _⟩, ⟨k1, _⟩, ⟨k2, _⟩⟩ := cell3 g0
  have HBX := hide hbx
  have HALL := hide hall
  have HCK := hide hck
  have HW1 := hide hW1
  have HB1 := hide hb1
  clear hinV hbx hall hck hW1 hb1 hAL hDE hN g0 hin hok
  obtain ⟨NA, hNA⟩ : ∃ n, AL.length = n := ⟨_, rfl⟩
  rw [hNA]
  have HNA := hide hNA
  clear hNA
  go_enter Tryz.func14, Tryz.ntmps14
  go_upto_region 1 with fail
  try rw [hH]
  rw [unhide HW1]
  by_cases h0 : NA = 0
  · have hz : ((NA : Int) == 0) = true := by simp; omega
    have HZ := hide h0
    clear h0
    go_wp2_with (first
      | (go_at_call 68; refine (unhide HALL).mono ?_; rintro e w2 ⟨v2, rfl, hT2, hb2⟩; obtain ⟨va, vc, hv⟩ := hT2.form; rw [unhide HNA] at hv; subst hv; obtain ⟨⟨j0, _⟩, ⟨j1, _⟩, ⟨j2, _⟩⟩ := cell3 (unhide HBX w2 hb2); have HB2 := hide hb2; clear hT2 hb2)
      | (go_at_call 69; refine (unhide HCK _ (unhide HB2)).mono ?_; rintro e w3 ⟨rfl, hb3⟩; have HB3 := hide hb3; clear hb3))
    go_ret
    have hs2 := (unhide HB2).size
    exact ⟨ret_bool (by rw [unhide HZ]; simp), ((unhide HB1).trans ((unhide HB2).mono (by omega))).trans ((unhide HB3).mono (by omega))⟩
  · have hz : ((NA : Int) == 0) = false := by simp; omega
    go_wp2_with (first
      | (go_at_call 68; refine (unhide HALL).mono ?_; rintro e w2 ⟨v2, rfl, hT2, hb2⟩; obtain ⟨va, vc, hv⟩ := hT2.form; rw [unhide HNA] at hv; subst hv; obtain ⟨⟨j0, _⟩, ⟨j1, _⟩, ⟨j2, _⟩⟩ := cell3 (unhide HBX w2 hb2); have HB2 := hide hb2; clear hT2 hb2)
      | (go_at_call 69; refine (unhide HCK _ (unhide HB2)).mono ?_; rintro e w3 ⟨rfl, hb3⟩; have HB3 := hide hb3; clear hb3))
    go_ret
    exact ⟨ret_bool (by simp [h0]), (unhide HB1).trans ((unhide HB2).mono (by omega))⟩
end Go.Proofs.YtefokfbgpfcbkaaGreat
