/- Lemmas of this claim (a part of its texts, kept as far as the claim reaches them). -/
import Derived.Test.YtefokfbgpfcbkaaGreatN26xZ
import Derived.Test.YtefokfbgpfcbkaaGreatShelfDZ
import Derived.Test.YtefokfbgpfcbkaaGreatElZ
import Derived.Test.YtefokfbgpfcbkaaGreatM33zZ
namespace Go.Proofs.YtefokfbgpfcbkaaGreat
set_option linter.unusedVariables false
set_option linter.unusedSimpArgs false
open Go.RowKit
namespace P21
open P22 (Def Step)
def smallS (s : Step) : Bool := decide (s.name.length ≤ 200) && (decide (s.action.length ≤ 200) && (decide (s.undo.length ≤ 200) && (decide (s.after.length ≤ 70) && ((s.note.small 18 150).isSome && s.after.all fun x => decide (x.length ≤ 200)))))
def small (d : Def) : Bool := decide (d.name.length ≤ 200) && (decide (d.text.length ≤ 5000) && (decide (d.steps.length ≤ 30) && d.steps.all smallS))
end P21
set_option maxRecDepth 100000 in
set_option maxHeartbeats 8000000 in
theorem Small21_any (d : PDef) (w : World) (hin : d.In w) : Calls Tryz.prog 12 #[d.val] w fun e w' => e = .returned (.bool (P21.small d.bare)) ∧ Below w.heap.size w w' := by
  obtain ⟨H, hH⟩ : ∃ H, w.heap.size = H := ⟨_, rfl⟩
  rw [hH]
  obtain ⟨W1, hW1, hb1, g0, hs1⟩ := new1 w (defO d) H hH
  have hinV : ∀ V, Below (H + 1) W1 V → d.In V := fun V hV => hin.below (by rw [hH]; exact hb1.trans (hV.mono (by omega)))
  have hbx : ∀ V, Below (H + 1) W1 V → V.heap[H]? = some (defO d) := fun V hV => (hV.block H (by omega)).trans g0
  obtain ⟨nm, tx, sa, sc, ss⟩ := d
  obtain ⟨N, hN⟩ : ∃ N, ss.length = N := ⟨_, rfl⟩
  obtain ⟨RES, hRES⟩ : ∃ RES, P21.small (PDef.bare ⟨nm, tx, sa, sc, ss⟩) = RES := ⟨_, rfl⟩
  rw [hRES]
  unfold defO at hW1 hbx g0
  unfold PDef.val
  simp only [hN] at hW1 hbx g0 ⊢
  unfold P21.small at hRES
  simp only [PDef.bare, List.length_map, hN] at hRES
  obtain ⟨⟨k0, _⟩, ⟨k1, _⟩, ⟨k2, _⟩⟩ := cell3 g0
  have HIN := hide hinV
  have HBX := hide hbx
  have HW1 := hide hW1
  have HB1 := hide hb1
  have HR := hide hRES
  have HN := hide hN
  clear hinV hbx hW1 hb1 hRES hN g0 hin
  by_cases h1 : nm.length ≤ 200
  · by_cases h2 : tx.length ≤ 5000
    · by_cases h3 : N ≤ 30
      · have hr := unhide HR
        simp only [h1, h2, h3, decide_true, Bool.true_and] at hr
        have HR2 := hide hr
        have i1 : (nm.length : Int) ≤ 200 := by omega
        have i2 : (tx.length : Int) ≤ 5000 := by omega
        have i3 : (N : Int) ≤ 30 := by omega
        clear hr HR
        go_enter Tryz.func12, Tryz.ntmps12
        go_upto_region 1 with fail
        try rw [hH]
        rw [unhide HW1]
        go_wp2
        go_loopg [3] N (fun g s3 wx => ∃ i : Nat, i + g = N ∧ s3 = .int .i64 i ∧ Hid (Below (H + 1) W1 wx) ∧ Hid (((ss.drop i).map PSt.bare).all P21.smallS = RES))
        case atStart => exact ⟨0, by omega, by go_num, hide (Below.refl _ _), by simpa using HR2⟩
        case round =>
          obtain ⟨i, hig, rfl, HX, HRI⟩ := hrel
          clear k0 k1 k2
          have hbw := unhide HX
          obtain ⟨⟨k0, _⟩, ⟨k1, _⟩, ⟨k2, _⟩⟩ := cell3 (unhide HBX wr hbw)
          cases gk with
          | zero =>
            have e1 : (N : Int) ≤ (i : Int) := by omega
            have j1 : decide ((i : Int) < (N : Int)) = false := by simp; omega
            have hr := unhide HRI
            rw [List.drop_eq_nil_of_le (by rw [unhide HN]; omega)] at hr
            have HRF := hide hr
            clear hr hbw
            go_wp2
            go_ret
            refine ⟨?_, (unhide HB1).trans ((unhide HX).mono (by omega))⟩
            rw [← unhide HRF]
            rfl
          | succ g' =>
            have hlt : (i : Int) < (N : Int) := by omega
            have hkj : IntKind.i64.wrap ((i : Int) + 1) = (i : Int) + 1 := IntWalk.i64_in _ (by omega)
            obtain ⟨s, hs⟩ := nth_of (unhide HN) (show i < N by omega)
            have hdrop : ss.drop i = s :: ss.drop (i + 1) := by
              obtain ⟨hl, e⟩ := List.getElem?_eq_some_iff.1 hs
              rw [List.drop_eq_getElem_cons hl, e]
            have hr := unhide HRI
            rw [hdrop, List.map_cons, List.all_cons] at hr
            obtain ⟨REST, hREST⟩ : ∃ R, ((ss.drop (i + 1)).map PSt.bare).all P21.smallS = R := ⟨_, rfl⟩
            rw [hREST] at hr
            have hI := unhide HIN wr hbw
            obtain ⟨⟨b1, o1, hsa, hat⟩, hsin⟩ := hI.steps i s hs
            simp only at hsa
            subst hsa
            have hbl : b1 < wr.heap.size := by
              have := (step_cells hat).1.1
              exact cellLt this
            obtain ⟨⟨c0, c1, c2, c3⟩, ⟨c4, c5, c6, c7⟩, ⟨c8, c9, c10, c11, c12⟩⟩ := step_cells hat
            have hbel1 : ∀ o : Obj, Below (H + 1) W1 (wr.alloc o) := fun o => hbw.alloc (by have := hbw.size; omega) o
            obtain ⟨n1, a1, u1, aa1, ac1, af1, q1, fi1, fa1, li1, nt1⟩ := s
            obtain ⟨k, t, ka, kc, ks, da, dc, ds, l⟩ := nt1
            obtain ⟨A, hA⟩ : ∃ A, af1.length = A := ⟨_, rfl⟩
            obtain ⟨KL, hKL⟩ : ∃ x, ks.length = x := ⟨_, rfl⟩
            obtain ⟨DL, hDL⟩ : ∃ x, ds.length = x := ⟨_, rfl⟩
            simp only [PSt.aV, Nd.kind, Nd.text, Nd.kV, Nd.dV, Nd.line, Nd.keys, Nd.kids, Nd.ka, Nd.kc, Nd.da, Nd.dc, hA, hKL, hDL] at c0 c1 c2 c3 c4 c5 c6 c7 c8 c9 c10 c11 c12
            obtain ⟨K, hK⟩ : ∃ K, wr.heap.size = K := ⟨_, rfl⟩
            have hKH : H + 1 ≤ K := by have := hbw.size; omega
            obtain ⟨W2, hW2, hb2, g2, hs2⟩ := new1 wr (.cells #[.string ⟨n1.toArray⟩, .string ⟨a1.toArray⟩, .string ⟨u1.toArray⟩, .slice aa1 A ac1, .int .i64 q1, .int .i64 fi1, .int .i64 fa1, .int .i64 li1, .int .u8 k, .string ⟨t.toArray⟩, .slice ka KL kc, .slice da DL dc, .int .i64 l] 63) K hK
            have hbw2 : Below (H + 1) W1 W2 := hbw.trans (hb2.mono (by have := hbw.size; omega))
            have hsin2 := (hI.below (by rw [hK]; exact hb2)).steps i _ hs
            have hkeys := hsin2.2.keys
            have hsm := Small_any (.mk k t ka kc ks da dc ds l) W2 hsin2.2.note
            unfold Nd.val at hsm
            simp only [Nd.kind, Nd.text, Nd.kV, Nd.dV, Nd.line, Nd.keys, Nd.kids, Nd.ka, Nd.kc, Nd.da, Nd.dc, hKL, hDL, hs2] at hsm
            obtain ⟨SM, hSM⟩ : ∃ SM, ((Nd.mk k t ka kc ks da dc ds l).bare.small 18 150).isSome = SM := ⟨_, rfl⟩
            rw [hSM] at hsm
            unfold P21.smallS at hr
            simp only [PSt.bare, hSM, hA] at hr
            have HRR := hide hr
            have HKEYS := hide hkeys
            have HSM := hide hsm
            have HW2 := hide hW2
            have HBW2 := hide hbw2
            have HA := hide hA
            have HREST := hide hREST
            obtain ⟨⟨y0, _⟩, ⟨y1, _⟩, ⟨y2, _⟩, ⟨y3, _⟩, ⟨y4, _⟩, ⟨y5, _⟩, ⟨y6, _⟩, ⟨y7, _⟩, ⟨y8, _⟩, ⟨y9, _⟩, ⟨y10, _⟩, ⟨y11, _⟩, ⟨y12, _⟩⟩ := cell13 g2
            have G2 := hide g2
            clear hr hbw hI hat hsin hbel1 hkeys hsm hW2 hb2 g2 hbw2 hsin2 hKL hDL hSM hdrop hs hREST
            go_upto_region 7 with fail
            try rw [hK]
            rw [unhide HW2]
            by_cases m1 : n1.length ≤ 200
            · have p1 : (n1.length : Int) ≤ 200 := by omega
              by_cases m2 : a1.length ≤ 200
              · have p2 : (a1.length : Int) ≤ 200 := by omega
                by_cases m3 : u1.length ≤ 200
                · have p3 : (u1.length : Int) ≤ 200 := by omega
                  by_cases m4 : A ≤ 70
                  · have p4 : (A : Int) ≤ 70 := by omega
                    cases SM with
                    | false =>
                      have e : RES = false := by rw [← unhide HRR]; simp []
                      subst e
                      go_wp2_with (go_at_call 66; refine (unhide HSM).mono ?_; rintro e w3 ⟨rfl, b3⟩)
                      go_ret
                      exact ⟨rfl, ((unhide HB1).trans ((unhide HBW2).mono (by omega))).trans (b3.mono (by have := (unhide HBW2).size; omega))⟩
                    | true =>
                      have hr3 := unhide HRR
                      simp only [m1, m2, m3, m4, decide_true, Bool.true_and] at hr3
                      have HR3 := hide hr3
                      clear hr3 HRR
                      go_wp2_with (go_at_call 66; refine (unhide HSM).mono ?_; rintro e w3 ⟨rfl, b3⟩; have g3 := (b3.block K (by omega)).trans (unhide G2); obtain ⟨_, _, _, ⟨x3, _⟩, _⟩ := cell13 g3; have G3 := hide g3; clear g3)
                      go_loopg [5] A (fun g s5 wx => ∃ j : Nat, j + g = A ∧ s5 = .int .i64 j ∧ Hid (Below (K + 1) W2 wx) ∧ Hid (((af1.drop j).all (fun x => decide (x.length ≤ 200)) && REST) = RES))
                      case atStart => exact ⟨0, by omega, by go_num, hide b3, by simpa using HR3⟩
                      case round =>
                        obtain ⟨j, hjg, rfl, HY, HRJ⟩ := hrel
                        clear x3 y0 y1 y2 y3 y4 y5 y6 y7 y8 y9 y10 y11 y12
                        have hby := unhide HY
                        have g4 := (hby.block K (by omega)).trans (unhide G2)
                        obtain ⟨_, _, _, ⟨x3, _⟩, _⟩ := cell13 g4
                        cases gk with
                        | zero =>
                          have e1 : (A : Int) ≤ (j : Int) := by omega
                          have j1 : decide ((j : Int) < (A : Int)) = false := by simp; omega
                          have hr4 := unhide HRJ
                          rw [List.drop_eq_nil_of_le (by rw [unhide HA]; omega)] at hr4
                          simp only [List.all_nil, Bool.true_and] at hr4
                          have HR4 := hide hr4
                          clear hr4 hby g4
                          go_wp2
                          go_roundg g'
                          case measure => omega
                          case rel =>
                            refine ⟨i + 1, by omega, by go_num, hide ((unhide HBW2).trans ((unhide HY).mono (by omega))), hide ?_⟩
                            rw [unhide HREST]
                            exact unhide HR4
                        | succ g2 =>
                          have hlt2 : (j : Int) < (A : Int) := by omega
                          have hkj2 : IntKind.i64.wrap ((j : Int) + 1) = (j : Int) + 1 := IntWalk.i64_in _ (by omega)
                          obtain ⟨x, hx⟩ := nth_of (unhide HA) (show j < A by omega)
                          have hdrop2 : af1.drop j = x :: af1.drop (j + 1) := by
                            obtain ⟨hl, e⟩ := List.getElem?_eq_some_iff.1 hx
                            rw [List.drop_eq_getElem_cons hl, e]
                          have hr4 := unhide HRJ
                          rw [hdrop2, List.all_cons] at hr4
                          have HR4 := hide hr4
                          obtain ⟨rb, ro, rfl, cj⟩ := unhide HKEYS j x hx
                          have cj2 := (World.cell?_of_block (a := ⟨rb, ro + j, none⟩) (hby.block rb (by have := cellLt cj; omega))).trans cj
                          clear hr4 hby g4 cj hdrop2 hx
                          by_cases m5 : x.length ≤ 200
                          · have p5 : (x.length : Int) ≤ 200 := by omega
                            go_wp2
                            go_roundg g2
                            case measure => omega
                            case rel =>
                              refine ⟨j + 1, by omega, by go_num, HY, hide ?_⟩
                              have := unhide HR4
                              simpa [m5] using this
                          · have p5 : (200 : Int) < (x.length : Int) := by omega
                            have e : RES = false := by rw [← unhide HR4]; simp [m5]
                            subst e
                            go_wp2
                            go_ret
                            exact ⟨rfl, ((unhide HB1).trans ((unhide HBW2).mono (by omega))).trans ((unhide HY).mono (by have := (unhide HBW2).size; omega))⟩
                  · have p4 : (70 : Int) < (A : Int) := by omega
                    have e : RES = false := by rw [← unhide HRR]; simp [m4]
                    subst e
                    go_wp2
                    go_ret
                    exact ⟨rfl, (unhide HB1).trans ((unhide HBW2).mono (by omega))⟩
                · have p3 : (200 : Int) < (u1.length : Int) := by omega
                  have e : RES = false := by rw [← unhide HRR]; simp [m3]
                  subst e
                  go_wp2
                  go_ret
                  exact ⟨rfl, (unhide HB1).trans ((unhide HBW2).mono (by omega))⟩
              · have p2 : (200 : Int) < (a1.length : Int) := by omega
                have e : RES = false := by rw [← unhide HRR]; simp [m2]
                subst e
                go_wp2
                go_ret
                exact ⟨rfl, (unhide HB1).trans ((unhide HBW2).mono (by omega))⟩
            · have p1 : (200 : Int) < (n1.length : Int) := by omega
              have e : RES = false := by rw [← unhide HRR]; simp [m1]
              subst e
              go_wp2
              go_ret
              exact ⟨rfl, (unhide HB1).trans ((unhide HBW2).mono (by omega))⟩
      · have i3 : (30 : Int) < (N : Int) := by omega
        have e : RES = false := by rw [← unhide HR]; simp [h3]
        subst e
        have i1 : (nm.length : Int) ≤ 200 := by omega
        have i2 : (tx.length : Int) ≤ 5000 := by omega
        go_enter Tryz.func12, Tryz.ntmps12
        go_upto_region 1 with fail
        try rw [hH]
        rw [unhide HW1]
        go_wp2
        go_ret
        exact ⟨rfl, unhide HB1⟩
    · have i2 : (5000 : Int) < (tx.length : Int) := by omega
      have e : RES = false := by rw [← unhide HR]; simp [h2]
      subst e
      have i1 : (nm.length : Int) ≤ 200 := by omega
      go_enter Tryz.func12, Tryz.ntmps12
      go_upto_region 1 with fail
      try rw [hH]
      rw [unhide HW1]
      go_wp2
      go_ret
      exact ⟨rfl, unhide HB1⟩
  · have i1 : (200 : Int) < (nm.length : Int) := by omega
    have e : RES = false := by rw [← unhide HR]; simp [h1]
    subst e
    go_enter Tryz.func12, Tryz.ntmps12
    go_upto_region 1 with fail
    try rw [hH]
    rw [unhide HW1]
    go_wp2
    go_ret
    exact ⟨rfl, unhide HB1⟩
structure SmallD (d : PDef) : Prop where
  name : d.name.length ≤ 200
  text : d.text.length ≤ 5000
  len : d.steps.length ≤ 30
  st : ∀ s ∈ d.steps, s.name.length ≤ 200 ∧ s.action.length ≤ 200 ∧ s.undo.length ≤ 200 ∧ s.after.length ≤ 70 ∧ (∃ m, s.note.bare.small 18 150 = some m) ∧ ∀ x ∈ s.after, x.length ≤ 200
theorem smallD_of {d : PDef} (h : P21.small d.bare = true) : SmallD d := by
  have h : P21.small ⟨d.name, d.text, d.steps.map PSt.bare⟩ = true := h
  unfold P21.small at h
  simp only [Bool.and_eq_true, decide_eq_true_eq, List.all_eq_true, List.length_map] at h
  refine ⟨h.1, h.2.1, h.2.2.1, fun s hs => ?_⟩
  have h4 : P21.smallS ⟨s.name, s.action, s.undo, s.after, ⟨s.most, s.first, s.factor⟩, s.limit, s.note.bare⟩ = true := h.2.2.2 s.bare (List.mem_map.2 ⟨s, hs, rfl⟩)
  unfold P21.smallS at h4
  simp only [Bool.and_eq_true, decide_eq_true_eq, List.all_eq_true] at h4
  exact ⟨h4.1, h4.2.1, h4.2.2.1, h4.2.2.2.1, Option.isSome_iff_exists.1 h4.2.2.2.2.1, h4.2.2.2.2.2⟩
theorem okn_of {s : PSt} {m : Nat} (h : s.note.bare.small 18 150 = some m) : okT s.note.bare := (P20.T.small_ok _ _ _ _ h (by omega)).2.2.2.1
theorem SmallD.ok {d : PDef} (h : SmallD d) : d.ok where
  fit := ⟨by have := h.len; omega, by have := h.name; unfold maxLen; omega, fun s hs => by obtain ⟨a, b, c, _⟩ := h.st s hs; unfold maxLen; omega, fun s hs => by obtain ⟨_, _, _, a, _⟩ := h.st s hs; omega⟩
  short := ⟨by have := h.name; omega, by have := h.text; omega, by have := h.len; omega, fun s hs => by
    obtain ⟨a, b, c, e, ⟨m, f⟩, g⟩ := h.st s hs
    exact ⟨by omega, by omega, by omega, fun x hx => by have := g x hx; omega, by omega, okn_of f⟩⟩
theorem SmallD.cp {d : PDef} (h : SmallD d) (hn : d.steps ≠ []) : d.cp :=
  ⟨by have := h.len; omega, fun e => absurd e hn, fun s hs => by obtain ⟨_, _, _, a, _⟩ := h.st s hs; omega, fun s hs => by obtain ⟨_, _, _, _, ⟨m, f⟩, _⟩ := h.st s hs; exact okn_of f⟩
theorem SmallD.af {d : PDef} (h : SmallD d) : ∀ s ∈ d.steps, s.after.length ≤ 1000000 := fun s hs => by obtain ⟨_, _, _, a, _⟩ := h.st s hs; omega
theorem clean_ne {d : P22.Def} (h : P28.clean d = true) : d.steps ≠ [] := fun e => by
  unfold P28.clean P28.namesP at h
  simp [e, P28.nt] at h
set_option maxRecDepth 100000 in
theorem Has_any (a : Option Addr) (c : Nat) (l : List Nat) (x : Nat) (w : World) (h : InN w a l) (hl : l.length ≤ 1000000) :
    Calls Tryz.prog 31 #[.slice a l.length c, .int .i64 (x : Int)] w fun e w' => e = .returned (.bool (decide (x ∈ l))) ∧ w' = w := by
  obtain ⟨N, hN⟩ : ∃ N, l.length = N := ⟨_, rfl⟩
  obtain ⟨RES, hR⟩ : ∃ R, decide (x ∈ l) = R := ⟨_, rfl⟩
  rw [hN] at hl ⊢
  rw [hR]
  have HH := hide h
  have HN := hide hN
  have HR := hide hR
  clear h hN hR
  go_enter Tryz.func31, Tryz.ntmps31
  go_wp2
  go_loopg [5] N (fun g s5 wx => ∃ i : Nat, i + g = N ∧ s5 = .int .i64 i ∧ w = wx ∧ Hid (x ∉ l.take i))
  case atStart => exact ⟨0, by omega, by go_num, rfl, hide (by simp)⟩
  case round =>
    obtain ⟨i, hig, rfl, hw, HX⟩ := hrel
    subst hw
    cases gk with
    | zero =>
      have e1 : (N : Int) ≤ (i : Int) := by omega
      have j1 : decide ((i : Int) < (N : Int)) = false := by simp; omega
      have e : RES = false := by
        have h1 := unhide HX
        rw [List.take_of_length_le (by rw [unhide HN]; omega)] at h1
        rw [← unhide HR]
        simpa using h1
      subst e
      go_wp2
      go_ret
      exact ⟨rfl, rfl⟩
    | succ g' =>
      have hlt : (i : Int) < (N : Int) := by omega
      have hkj : IntKind.i64.wrap ((i : Int) + 1) = (i : Int) + 1 := IntWalk.i64_in _ (by omega)
      obtain ⟨y, hy⟩ := nth_of (unhide HN) (show i < N by omega)
      obtain ⟨b, o, rfl, cj⟩ := unhide HH i y hy
      unfold iv at cj
      have HY := hide hy
      clear hy
      by_cases hxy : y = x
      · subst hxy
        have e : RES = true := by
          rw [← unhide HR]
          simpa using List.mem_of_getElem? (unhide HY)
        subst e
        go_wp2
        go_ret
        exact ⟨rfl, rfl⟩
      · have hne : ((y : Int) == (x : Int)) = false := by simp; omega
        go_wp2
        go_roundg g'
        case measure => omega
        case rel =>
          refine ⟨i + 1, by omega, by go_num, rfl, hide ?_⟩
          rw [List.take_add_one, unhide HY]
          intro hm
          rcases List.mem_append.1 hm with hm | hm
          · exact unhide HX hm
          · simp at hm; exact hxy hm.symm
end Go.Proofs.YtefokfbgpfcbkaaGreat
namespace Go.Proofs.YtefokfbgpfcbkaaGreat
set_option linter.unusedVariables false
set_option linter.unusedSimpArgs false
open Go.RowKit Go.Deep Go.ChangeShapes
theorem openKeysC {H : Type} {enc : TypeId × Value → H} {W : World} {fuel : Nat} {cs : List Value} {x : DataW H × List MemPlace} (h : DataW.trod enc Tryz.prog W 0 (fun _ => true) true fuel 56 cs = some x) :
    ∃ (a : Option Addr) (ks : List (List UInt8)) (c : Nat), cs = [.slice a ks.length c] ∧ ks.length ≤ c ∧ c ≤ maxLen ∧ (∀ y ∈ ks, y.length ≤ maxLen) ∧ InS W a ks := by
  rcases open_strs Tryz.underlying56 Tryz.underlying9 (by kernel_rfl) h with ⟨rfl, _⟩ | ⟨a, len, cap, m, Sx, rfl, _, hl, hc, hm, _, hx⟩
  · exact ⟨none, [], 0, rfl, Nat.le_refl _, Nat.zero_le _, fun y hy => by simp at hy, fun i y hy => by simp at hy⟩
  have hlm : len ≤ m := by rw [hm, if_pos rfl]; exact hl
  refine ⟨some a, (List.range len).map (fun i => (Sx i).data.toList), cap, by simp, by simpa using hl, hc, fun y hy => ?_, fun i y hy => ?_⟩
  · obtain ⟨i, hi, rfl⟩ := List.mem_map.1 hy
    have hi := List.mem_range.1 hi
    have := (hx i (by omega)).2
    rw [size_list]
    exact this
  · have hi : i < len := by have := (List.getElem?_eq_some_iff.1 hy).1; simpa using this
    rw [List.getElem?_map, List.getElem?_range hi] at hy
    simp only [Option.map_some, Option.some.injEq] at hy
    subst hy
    have h0 := (hx 0 (by omega)).1
    rw [add_zero20] at h0
    obtain ⟨b, o, rfl⟩ := plain_of_cell h0
    have h1 := (hx i (by omega)).1
    rw [add_plain20] at h1
    exact ⟨b, o, rfl, by rw [h1, bytes_back]⟩
def PSt.fit (s : PSt) : Prop := s.name.length ≤ maxLen ∧ s.action.length ≤ maxLen ∧ s.undo.length ≤ maxLen ∧ ∀ y ∈ s.after, y.length ≤ maxLen
set_option maxRecDepth 100000 in
theorem openStepF {H : Type} {enc : TypeId × Value → H} {W : World} {fuel : Nat} {cs : List Value} {x : DataW H × List MemPlace} (h : DataW.trod enc Tryz.prog W 0 (fun _ => true) true fuel 63 cs = some x) : ∃ s : PSt, cs = s.cs ∧ s.In W ∧ s.fit := by
  obtain ⟨xs, n, hfu, _, hl, hlen, hf⟩ := DataW.trod_struct Tryz.underlying63 h
  have hc13 : Tryz.prog.cellsOf 63 = 13 := by kernel_rfl
  have hc3 : Tryz.prog.cellsOf 58 = 3 := by kernel_rfl
  have hc5 : Tryz.prog.cellsOf 61 = 5 := by kernel_rfl
  have hci : Tryz.prog.cellsOf 3 = 1 := by kernel_rfl
  have hcs : Tryz.prog.cellsOf 9 = 1 := by kernel_rfl
  have hck : Tryz.prog.cellsOf 56 = 1 := by kernel_rfl
  rw [hc13] at hl
  match cs, hl with
  | [c0, c1, c2, c3, c4, c5, c6, c7, c8, c9, c10, c11, c12], _ =>
    match xs, hlen with
    | [y0, y1, y2, y3, y4, y5, y6], _ =>
      have g0 := hf 0 _ rfl
      have g1 := hf 1 _ rfl
      have g2 := hf 2 _ rfl
      have g3 := hf 3 _ rfl
      have g4 := hf 4 _ rfl
      have g5 := hf 5 _ rfl
      have g6 := hf 6 _ rfl
      simp only [hc3, hc5, hci, hcs, hck, List.drop_zero, List.drop_succ_cons, List.take_succ_cons, List.take_zero, List.getElem?_cons_zero, List.getElem?_cons_succ] at g0 g1 g2 g3 g4 g5 g6
      obtain ⟨t0, e0, _, w0⟩ := DataW.trod_string Tryz.underlying9 g0
      obtain ⟨t1, e1, _, w1⟩ := DataW.trod_string Tryz.underlying9 g1
      obtain ⟨t2, e2, _, w2⟩ := DataW.trod_string Tryz.underlying9 g2
      obtain ⟨aa, af, ac, e3, q1, q2, q3, q4⟩ := openKeysC g3
      obtain ⟨zs, n2, _, _, hl2, hlen2, hf2⟩ := DataW.trod_struct Tryz.underlying58 g4
      match zs, hlen2 with
      | [z0, z1, z2], _ =>
        have r0 := hf2 0 _ rfl
        have r1 := hf2 1 _ rfl
        have r2 := hf2 2 _ rfl
        simp only [hci, List.drop_zero, List.drop_succ_cons, List.take_succ_cons, List.take_zero, List.getElem?_cons_zero, List.getElem?_cons_succ] at r0 r1 r2
        obtain ⟨m0, f0, _, _⟩ := DataW.trod_int Tryz.underlying3 r0
        obtain ⟨m1, f1, _, _⟩ := DataW.trod_int Tryz.underlying3 r1
        obtain ⟨m2, f2, _, _⟩ := DataW.trod_int Tryz.underlying3 r2
        obtain ⟨li, e5, _, _⟩ := DataW.trod_int Tryz.underlying3 g5
        obtain ⟨nd, e6, hnd⟩ := openNodeF _ _ _ g6
        injection e0 with e0
        injection e1 with e1
        injection e2 with e2
        injection e3 with e3
        injection f0 with f0
        injection f1 with f1
        injection f2 with f2
        injection e5 with e5
        simp only [Nd.cs, List.cons.injEq, and_true] at e6
        obtain ⟨rfl, rfl, rfl, rfl, rfl⟩ := e6
        subst e0 e1 e2 e3 f0 f1 f2 e5
        refine ⟨⟨t0.data.toList, t1.data.toList, t2.data.toList, aa, ac, af, m0, m1, m2, li, nd⟩, by simp [PSt.cs, PSt.aV, bytes_back], ⟨q4, q1, q2, hnd⟩, by rw [size_list]; exact w0, by rw [size_list]; exact w1, by rw [size_list]; exact w2, q3⟩
theorem choose_sts {p : Nat → PSt → Prop} {n : Nat} (h : ∀ i, i < n → ∃ x, p i x) : ∃ f : Nat → PSt, ∀ i, i < n → p i (f i) := by
  refine ⟨fun i => if hi : i < n then Classical.choose (h i hi) else PSt.zero, fun i hi => ?_⟩
  simp only [hi, dif_pos]
  exact Classical.choose_spec (h i hi)
set_option maxRecDepth 100000 in
theorem openSteps {H : Type} {enc : TypeId × Value → H} {W : World} {fuel : Nat} {cs : List Value} {x : DataW H × List MemPlace} (h : DataW.trod enc Tryz.prog W 0 (fun _ => true) true fuel 22 cs = some x) :
    ∃ (a : Option Addr) (ss : List PSt) (c : Nat), cs = [.slice a ss.length c] ∧ ss.length ≤ c ∧ c ≤ maxLen ∧ stEl.InL W a ss ∧ ∀ s ∈ ss, s.fit := by
  have hc13 : Tryz.prog.cellsOf 63 = 13 := by kernel_rfl
  have hcd : Tryz.prog.cellsOf 22 = 1 := by kernel_rfl
  rcases DataW.trod_slice Tryz.underlying22 h with ⟨e3, _⟩ | ⟨a, len, cap, elems, rest, m, hm, e3, _, _, hlc, hcm, hel, hall, _, _⟩
  · exact ⟨none, [], 0, e3, Nat.le_refl _, Nat.zero_le _, El.InL.nil _ _, fun s hs => by simp at hs⟩
  have each : ∀ i, i < len → ∃ d : PSt, W.cells? 0 (a.add (i * 13)) 13 = some d.cs ∧ d.In W ∧ d.fit := by
    intro i hi
    have h1 := hall i hi
    rw [hc13, List.getElem?_eq_getElem (by omega)] at h1
    obtain ⟨cs', h2, h3⟩ := Option.bind_eq_some_iff.1 h1
    obtain ⟨d, rfl, hd⟩ := openStepF h3
    exact ⟨d, h2, hd⟩
  obtain ⟨f, hf2⟩ := choose_sts each
  refine ⟨some a, (List.range len).map f, cap, by simpa [hcd] using e3, by simpa using hlc, hcm, fun j d hj => ?_, fun s hs => ?_⟩
  · have hi : j < len := by have := (List.getElem?_eq_some_iff.1 hj).1; simpa using this
    rw [List.getElem?_map, List.getElem?_range hi] at hj
    simp only [Option.map_some, Option.some.injEq] at hj
    subst hj
    obtain ⟨h0, hd, _⟩ := hf2 j hi
    obtain ⟨hz, _⟩ := hf2 0 (by omega)
    obtain ⟨_, _, z0⟩ := World.cells?_some hz
    have z1 := z0 0 (by simp [PSt.cs])
    rw [Nat.zero_mul, add_zero20, add_zero20] at z1
    rw [List.getElem?_eq_getElem (by simp [PSt.cs])] at z1
    obtain ⟨b, o, rfl⟩ := plain_of_cell z1
    obtain ⟨_, _, hcell⟩ := World.cells?_some h0
    refine ⟨⟨b, o, rfl, fun i v hv => ?_⟩, hd⟩
    have hil : i < 13 := by have := (List.getElem?_eq_some_iff.1 hv).1; simpa [PSt.cs] using this
    have d0 := hcell i hil
    rw [add_plain20, add_plain20] at d0
    rw [← hv]
    exact d0
  · obtain ⟨i, hi, rfl⟩ := List.mem_map.1 hs
    exact (hf2 i (List.mem_range.1 hi)).2.2
set_option maxRecDepth 100000 in
theorem openDef {H : Type} {enc : TypeId × Value → H} {W : World} {r : Reach} {b0 : Nat} {v : Value} {d : DataW H} {ps : List MemPlace} (hval : Value.okWide Tryz.prog W r b0 24 v)
    (hd : DataW.Trod enc Tryz.prog W 0 (fun _ => true) true 24 v d ps) : ∃ D : PDef, v = D.val ∧ D.In W ∧ D.name.length ≤ maxLen ∧ D.text.length ≤ maxLen ∧ ∀ s ∈ D.steps, s.fit := by
  obtain ⟨fuel, h⟩ := hd
  obtain ⟨cs, rfl, hsz⟩ := Go.WideShapes.okWide_struct Tryz.underlying24 hval
  obtain ⟨xs, n, hfu, _, hl, hlen, hf⟩ := DataW.trod_struct Tryz.underlying24 h
  have hc3 : Tryz.prog.cellsOf 24 = 3 := by kernel_rfl
  have hcs : Tryz.prog.cellsOf 9 = 1 := by kernel_rfl
  have hck : Tryz.prog.cellsOf 22 = 1 := by kernel_rfl
  rw [hc3] at hl
  obtain ⟨l, hcl⟩ : ∃ l, (Value.agg cs).cells.toList = l := ⟨_, rfl⟩
  rw [hcl] at hl hf
  match l, hl with
  | [c0, c1, c2], _ =>
    match xs, hlen with
    | [y0, y1, y2], _ =>
      have g0 := hf 0 _ rfl
      have g1 := hf 1 _ rfl
      have g2 := hf 2 _ rfl
      simp only [hcs, hck, List.drop_zero, List.drop_succ_cons, List.take_succ_cons, List.take_zero, List.getElem?_cons_zero, List.getElem?_cons_succ] at g0 g1 g2
      obtain ⟨t0, e0, _, w0⟩ := DataW.trod_string Tryz.underlying9 g0
      obtain ⟨t1, e1, _, w1⟩ := DataW.trod_string Tryz.underlying9 g1
      obtain ⟨a, ss, c, e2, q1, q2, q3, q4⟩ := openSteps g2
      injection e0 with e0
      injection e1 with e1
      injection e2 with e2
      subst e0 e1 e2
      have hc' : cs.toList = [.string t0, .string t1, .slice a ss.length c] := by simpa [Value.cells] using hcl
      refine ⟨⟨t0.data.toList, t1.data.toList, a, c, ss⟩, ?_, ⟨q3, q1, q2⟩, by rw [size_list]; exact w0, by rw [size_list]; exact w1, q4⟩
      show Value.agg cs = Value.agg _
      congr 1
      rw [← Array.toArray_toList (xs := cs), hc']
      first | done | simp [bytes_back]
end Go.Proofs.YtefokfbgpfcbkaaGreat
namespace Go.Proofs.YtefokfbgpfcbkaaGreat
set_option linter.unusedVariables false
set_option linter.unusedSimpArgs false
open Go.RowKit Go.Deep Go.ChangeShapes
def InR {α : Type} (W : World) (k : Nat) (cs : α → List Value) (ad : Option Addr) (l : List α) : Prop := ∀ i z, l[i]? = some z → ∃ b o, ad = some ⟨b, o, none⟩ ∧ ∀ j u, (cs z)[j]? = some u → W.cell? ⟨b, o + i * k + j, none⟩ = some u
theorem cell_ltR {W : World} {b o : Nat} {v : Value} (h : W.cell? ⟨b, o, none⟩ = some v) : b < W.heap.size := by
  rcases Nat.lt_or_ge b W.heap.size with h1 | h1
  · exact h1
  · have h9 : W.heap[b]? = none := Array.getElem?_eq_none h1
    simp [World.cell?, h9] at h
theorem InR.below {α : Type} {W W' : World} {k : Nat} {cs : α → List Value} {ad : Option Addr} {l : List α} (h : InR W k cs ad l) (hb : Below W.heap.size W W') : InR W' k cs ad l := fun i z hz => by
  obtain ⟨b, o, e, hc⟩ := h i z hz
  exact ⟨b, o, e, fun j u hu => (World.cell?_of_block (a := ⟨b, o + i * k + j, none⟩) (hb.block b (cell_ltR (hc j u hu)))).trans (hc j u hu)⟩
theorem chooseR {α : Type} [Inhabited α] {p : Nat → α → Prop} {n : Nat} (h : ∀ i, i < n → ∃ x, p i x) : ∃ f : Nat → α, ∀ i, i < n → p i (f i) := by
  refine ⟨fun i => if hi : i < n then Classical.choose (h i hi) else default, fun i hi => ?_⟩
  simp only [hi, dif_pos]
  exact Classical.choose_spec (h i hi)
set_option maxRecDepth 100000 in
theorem openRowR {α : Type} [Inhabited α] {tS tE : TypeId} {k : Nat} {csOf : α → List Value} (hk : 0 < k) (hlen : ∀ z, (csOf z).length = k) (hu : Tryz.prog.underlying tS = some (.slice tE)) (hcE : Tryz.prog.cellsOf tE = k) (hcS : Tryz.prog.cellsOf tS = 1)
    {H : Type} {enc : TypeId × Value → H} {W : World} (each : ∀ {fuel : Nat} {cs : List Value} {x : DataW H × List MemPlace}, DataW.trod enc Tryz.prog W 0 (fun _ => true) true fuel tE cs = some x → ∃ z, cs = csOf z)
    {r : Reach} {b0 : Nat} {v : Value} {d : DataW H} {ps : List MemPlace} (hval : Value.okWide Tryz.prog W r b0 tS v)
    (hd : DataW.Trod enc Tryz.prog W 0 (fun _ => true) true tS v d ps) : ∃ (ad : Option Addr) (l : List α) (cap : Nat), v = .slice ad l.length cap ∧ InR W k csOf ad l ∧ l.length ≤ maxLen := by
  obtain ⟨fuel, h⟩ := hd
  obtain ⟨sa, sl, sc, rfl⟩ := Go.WideShapes.okWide_slice hu hval
  rcases DataW.trod_slice hu h with ⟨e3, _⟩ | ⟨a, len, cap, elems, rest, m, hm, e3, _, _, hlc, hcm, hel, hall, _, _⟩
  · simp [Value.cells] at e3
    obtain ⟨rfl, rfl, rfl⟩ := e3
    exact ⟨none, [], 0, rfl, fun i z hz => by simp at hz, Nat.zero_le _⟩
  · simp [Value.cells] at e3
    obtain ⟨rfl, rfl, rfl⟩ := e3
    have each2 : ∀ i, i < sl → ∃ z : α, W.cells? 0 (a.add (i * k)) k = some (csOf z) := by
      intro i hi
      have h1 := hall i hi
      rw [hcE, List.getElem?_eq_getElem (by omega)] at h1
      obtain ⟨cs', h2, h3⟩ := Option.bind_eq_some_iff.1 h1
      obtain ⟨z, rfl⟩ := each h3
      exact ⟨z, h2⟩
    obtain ⟨f, hf2⟩ := chooseR each2
    refine ⟨some a, (List.range sl).map f, sc, by simp, fun j z hj => ?_, by simp; omega⟩
    have hi : j < sl := by have := (List.getElem?_eq_some_iff.1 hj).1; simpa using this
    rw [List.getElem?_map, List.getElem?_range hi] at hj
    simp only [Option.map_some, Option.some.injEq] at hj
    subst hj
    have h0 := hf2 j hi
    have hz := hf2 0 (by omega)
    obtain ⟨_, _, z0⟩ := World.cells?_some hz
    have z1 := z0 0 hk
    rw [Nat.zero_mul, add_zero20, add_zero20] at z1
    rw [List.getElem?_eq_getElem (by rw [hlen]; exact hk)] at z1
    obtain ⟨b, o, rfl⟩ := plain_of_cell z1
    obtain ⟨_, _, hcell⟩ := World.cells?_some h0
    refine ⟨b, o, rfl, fun i v hv => ?_⟩
    have hil : i < k := by have := (List.getElem?_eq_some_iff.1 hv).1; rwa [hlen] at this
    have d0 := hcell i hil
    rw [add_plain20, add_plain20] at d0
    rw [← hv]
    exact d0
theorem nat8 {n : Int} (h : (Lit.int .u8 n).wf = true) : ∃ m : Nat, n = (m : Int) := by
  simp only [Lit.wf, Bool.and_eq_true, decide_eq_true_eq] at h
  have h1 : (0 : Int) ≤ n := h.1
  exact ⟨n.toNat, by omega⟩
set_option maxRecDepth 100000 in
theorem openAnswer {H : Type} {enc : TypeId × Value → H} {W : World} {fuel : Nat} {cs : List Value} {x : DataW H × List MemPlace} (h : DataW.trod enc Tryz.prog W 0 (fun _ => true) true fuel 37 cs = some x) :
    ∃ (s a : Int) (u : Bool) (o : Nat), cs = [.int .i64 s, .int .i64 a, .bool u, .int .u8 o] := by
  obtain ⟨xs, n, hfu, _, hl, hlen, hf⟩ := DataW.trod_struct Tryz.underlying37 h
  have hc : Tryz.prog.cellsOf 37 = 4 := by kernel_rfl
  have hci : Tryz.prog.cellsOf 3 = 1 := by kernel_rfl
  have hcb : Tryz.prog.cellsOf 4 = 1 := by kernel_rfl
  have hcl : Tryz.prog.cellsOf 5 = 1 := by kernel_rfl
  rw [hc] at hl
  match cs, hl with
  | [c0, c1, c2, c3], _ =>
    match xs, hlen with
    | [y0, y1, y2, y3], _ =>
      have g0 := hf 0 _ rfl
      have g1 := hf 1 _ rfl
      have g2 := hf 2 _ rfl
      have g3 := hf 3 _ rfl
      simp only [hci, hcb, hcl, List.drop_zero, List.drop_succ_cons, List.take_succ_cons, List.take_zero, List.getElem?_cons_zero, List.getElem?_cons_succ] at g0 g1 g2 g3
      obtain ⟨n0, e0, _⟩ := DataW.trod_int Tryz.underlying3 g0
      obtain ⟨n1, e1, _⟩ := DataW.trod_int Tryz.underlying3 g1
      obtain ⟨n2, e2, _⟩ := DataW.trod_bool Tryz.underlying4 g2
      obtain ⟨n3, e3, w3⟩ := DataW.trod_int Tryz.underlying5 g3
      injection e0 with e0
      injection e1 with e1
      injection e2 with e2
      injection e3 with e3
      subst e0 e1 e2 e3
      obtain ⟨m, rfl⟩ := nat8 w3.2
      exact ⟨n0, n1, n2, m, rfl⟩
end Go.Proofs.YtefokfbgpfcbkaaGreat
namespace Go.Proofs.YtefokfbgpfcbkaaGreat
set_option linter.unusedVariables false
set_option linter.unusedSimpArgs false
open Go.RowKit
theorem inN_of_iv {W : World} {v : Value} {l : List Nat} (h : Iv W v (l.map fun k : Nat => (k : Int))) : ∃ a c, v = .slice a l.length c ∧ l.length ≤ c ∧ InN W a l := by
  obtain ⟨a, c, rfl, ⟨q1, _⟩, h2⟩ := h
  refine ⟨a, c, by simp, by simpa using q1, fun j x hx => ?_⟩
  exact h2 j (x : Int) (by rw [List.getElem?_map, hx]; rfl)
theorem InN.below' {W W' : World} {a : Option Addr} {l : List Nat} (h : InN W a l) (hb : Below W.heap.size W W') : InN W' a l := fun i x hx => by
  obtain ⟨b, o, e, hc⟩ := h i x hx
  exact ⟨b, o, e, (World.cell?_of_block (a := ⟨b, o + i, none⟩) (hb.block b (cellLt hc))).trans hc⟩
theorem undo_cut (d : PDef) (i : Nat) : P33.undoOf (cutD d.bare) i = P33.undoOf d.bare i := by
  unfold P33.undoOf P28.undos cutD
  simp [List.map_map, Function.comp_def, cutS]
def DefIn (W : World) (v : Value) : Prop := ∃ D : PDef, v = D.val ∧ D.In W ∧ D.name.length ≤ maxLen ∧ D.text.length ≤ maxLen ∧ ∀ s ∈ D.steps, s.fit
end Go.Proofs.YtefokfbgpfcbkaaGreat
