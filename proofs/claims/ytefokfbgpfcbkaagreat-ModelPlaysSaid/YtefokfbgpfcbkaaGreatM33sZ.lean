/- Lemmas of this claim (a part of its texts, kept as far as the claim reaches them). -/
import Derived.Test.YtefokfbgpfcbkaaGreatN26xZ
import Derived.Test.YtefokfbgpfcbkaaGreatGR20Z
namespace Go.Proofs.YtefokfbgpfcbkaaGreat
set_option linter.unusedVariables false
set_option linter.unusedSimpArgs false
open Go.RowKit
namespace P21
open P22 (Def Step)
def smallS (s : Step) : Bool := decide (s.name.length ≤ 200) && (decide (s.action.length ≤ 200) && (decide (s.undo.length ≤ 200) && (decide (s.after.length ≤ 70) && ((s.note.small 18 150).isSome && s.after.all fun x => decide (x.length ≤ 200)))))
def small (d : Def) : Bool := decide (d.name.length ≤ 200) && (decide (d.text.length ≤ 5000) && (decide (d.steps.length ≤ 30) && d.steps.all smallS))
end P21
set_option maxRecDepth 100000 in
set_option maxHeartbeats 8000000 in
theorem Small21_any (d : PDef) (w : World) (hin : d.In w) : Calls Tryz.prog 12 #[d.val] w fun e w' => e = .returned (.bool (P21.small d.bare)) ∧ Below w.heap.size w w' := by
  obtain ⟨H, hH⟩ : ∃ H, w.heap.size = H := ⟨_, rfl⟩
  rw [hH]
  obtain ⟨W1, hW1, hb1, g0, hs1⟩ := new1 w (defO d) H hH
  have hinV : ∀ V, Below (H + 1) W1 V → d.In V := fun V hV => hin.below (by rw [hH]; exact hb1.trans (hV.mono (by omega)))
  have hbx : ∀ V, Below (H + 1) W1 V → V.heap[H]? = some (defO d) := fun V hV => (hV.block H (by omega)).trans g0
  obtain ⟨nm, tx, sa, sc, ss⟩ := d
  obtain ⟨N, hN⟩ : ∃ N, ss.length = N := ⟨_, rfl⟩
  obtain ⟨RES, hRES⟩ : ∃ RES, P21.small (PDef.bare ⟨nm, tx, sa, sc, ss⟩) = RES := ⟨_, rfl⟩
  rw [hRES]
  unfold defO at hW1 hbx g0
  unfold PDef.val
  simp only [hN] at hW1 hbx g0 ⊢
  unfold P21.small at hRES
  simp only [PDef.bare, List.length_map, hN] at hRES
  obtain ⟨⟨k0, _⟩, ⟨k1, _⟩, ⟨k2, _⟩⟩ := cell3 g0
  have HIN := hide hinV
  have HBX := hide hbx
  have HW1 := hide hW1
  have HB1 := hide hb1
  have HR := hide hRES
  have HN := hide hN
  clear hinV hbx hW1 hb1 hRES hN g0 hin
  by_cases h1 : nm.length ≤ 200
  · by_cases h2 : tx.length ≤ 5000
    · by_cases h3 : N ≤ 30
      · have hr := unhide HR
        simp only [h1, h2, h3, decide_true, Bool.true_and] at hr
        have HR2 := hide hr
        have i1 : (nm.length : Int) ≤ 200 := by omega
        have i2 : (tx.length : Int) ≤ 5000 := by omega
        have i3 : (N : Int) ≤ 30 := by omega
        clear hr HR
        go_enter Tryz.func12, Tryz.ntmps12
        go_upto_region 1 with fail
        try rw [hH]
        rw [unhide HW1]
        go_wp2
        go_loopg [3] N (fun g s3 wx => ∃ i : Nat, i + g = N ∧ s3 = .int .i64 i ∧ Hid (Below (H + 1) W1 wx) ∧ Hid (((ss.drop i).map PSt.bare).all P21.smallS = RES))
        case atStart => exact ⟨0, by omega, by go_num, hide (Below.refl _ _), by simpa using HR2⟩
        case round =>
          obtain ⟨i, hig, rfl, HX, HRI⟩ := hrel
          clear k0 k1 k2
          have hbw := unhide HX
          obtain ⟨⟨k0, _⟩, ⟨k1, _⟩, ⟨k2, _⟩⟩ := cell3 (unhide HBX wr hbw)
          cases gk with
          | zero =>
            have e1 : (N : Int) ≤ (i : Int) := by omega
            have j1 : decide ((i : Int) < (N : Int)) = false := by simp; omega
            have hr := unhide HRI
            rw [List.drop_eq_nil_of_le (by rw [unhide HN]; omega)] at hr
            have HRF := hide hr
            clear hr hbw
            go_wp2
            go_ret
            refine ⟨?_, (unhide HB1).trans ((unhide HX).mono (by omega))⟩
            rw [← unhide HRF]
            rfl
          | succ g' =>
            have hlt : (i : Int) < (N : Int) := by omega
            have hkj : IntKind.i64.wrap ((i : Int) + 1) = (i : Int) + 1 := IntWalk.i64_in _ (by omega)
            obtain ⟨s, hs⟩ := nth_of (unhide HN) (show i < N by omega)
            have hdrop : ss.drop i = s :: ss.drop (i + 1) := by
              obtain ⟨hl, e⟩ := List.getElem?_eq_some_iff.1 hs
              rw [List.drop_eq_getElem_cons hl, e]
            have hr := unhide HRI
            rw [hdrop, List.map_cons, List.all_cons] at hr
            obtain ⟨REST, hREST⟩ : ∃ R, ((ss.drop (i + 1)).map PSt.bare).all P21.smallS = R := ⟨_, rfl⟩
            rw [hREST] at hr
            have hI := unhide HIN wr hbw
            obtain ⟨⟨b1, o1, hsa, hat⟩, hsin⟩ := hI.steps i s hs
            simp only at hsa
            subst hsa
            have hbl : b1 < wr.heap.size := by
              have := (step_cells hat).1.1
              exact cellLt this
            obtain ⟨⟨c0, c1, c2, c3⟩, ⟨c4, c5, c6, c7⟩, ⟨c8, c9, c10, c11, c12⟩⟩ := step_cells hat
            have hbel1 : ∀ o : Obj, Below (H + 1) W1 (wr.alloc o) := fun o => hbw.alloc (by have := hbw.size; omega) o
            obtain ⟨n1, a1, u1, aa1, ac1, af1, q1, fi1, fa1, li1, nt1⟩ := s
            obtain ⟨k, t, ka, kc, ks, da, dc, ds, l⟩ := nt1
            obtain ⟨A, hA⟩ : ∃ A, af1.length = A := ⟨_, rfl⟩
            obtain ⟨KL, hKL⟩ : ∃ x, ks.length = x := ⟨_, rfl⟩
            obtain ⟨DL, hDL⟩ : ∃ x, ds.length = x := ⟨_, rfl⟩
            simp only [PSt.aV, Nd.kind, Nd.text, Nd.kV, Nd.dV, Nd.line, Nd.keys, Nd.kids, Nd.ka, Nd.kc, Nd.da, Nd.dc, hA, hKL, hDL] at c0 c1 c2 c3 c4 c5 c6 c7 c8 c9 c10 c11 c12
            obtain ⟨K, hK⟩ : ∃ K, wr.heap.size = K := ⟨_, rfl⟩
            have hKH : H + 1 ≤ K := by have := hbw.size; omega
            obtain ⟨W2, hW2, hb2, g2, hs2⟩ := new1 wr (.cells #[.string ⟨n1.toArray⟩, .string ⟨a1.toArray⟩, .string ⟨u1.toArray⟩, .slice aa1 A ac1, .int .i64 q1, .int .i64 fi1, .int .i64 fa1, .int .i64 li1, .int .u8 k, .string ⟨t.toArray⟩, .slice ka KL kc, .slice da DL dc, .int .i64 l] 63) K hK
            have hbw2 : Below (H + 1) W1 W2 := hbw.trans (hb2.mono (by have := hbw.size; omega))
            have hsin2 := (hI.below (by rw [hK]; exact hb2)).steps i _ hs
            have hkeys := hsin2.2.keys
            have hsm := Small_any (.mk k t ka kc ks da dc ds l) W2 hsin2.2.note
            unfold Nd.val at hsm
            simp only [Nd.kind, Nd.text, Nd.kV, Nd.dV, Nd.line, Nd.keys, Nd.kids, Nd.ka, Nd.kc, Nd.da, Nd.dc, hKL, hDL, hs2] at hsm
            obtain ⟨SM, hSM⟩ : ∃ SM, ((Nd.mk k t ka kc ks da dc ds l).bare.small 18 150).isSome = SM := ⟨_, rfl⟩
            rw [hSM] at hsm
            unfold P21.smallS at hr
            simp only [PSt.bare, hSM, hA] at hr
            have HRR := hide hr
            have HKEYS := hide hkeys
            have HSM := hide hsm
            have HW2 := hide hW2
            have HBW2 := hide hbw2
            have HA := hide hA
            have HREST := hide hREST
            obtain ⟨⟨y0, _⟩, ⟨y1, _⟩, ⟨y2, _⟩, ⟨y3, _⟩, ⟨y4, _⟩, ⟨y5, _⟩, ⟨y6, _⟩, ⟨y7, _⟩, ⟨y8, _⟩, ⟨y9, _⟩, ⟨y10, _⟩, ⟨y11, _⟩, ⟨y12, _⟩⟩ := cell13 g2
            have G2 := hide g2
            clear hr hbw hI hat hsin hbel1 hkeys hsm hW2 hb2 g2 hbw2 hsin2 hKL hDL hSM hdrop hs hREST
            go_upto_region 7 with fail
            try rw [hK]
            rw [unhide HW2]
            by_cases m1 : n1.length ≤ 200
            · have p1 : (n1.length : Int) ≤ 200 := by omega
              by_cases m2 : a1.length ≤ 200
              · have p2 : (a1.length : Int) ≤ 200 := by omega
                by_cases m3 : u1.length ≤ 200
                · have p3 : (u1.length : Int) ≤ 200 := by omega
                  by_cases m4 : A ≤ 70
                  · have p4 : (A : Int) ≤ 70 := by omega
                    cases SM with
                    | false =>
                      have e : RES = false := by rw [← unhide HRR]; simp []
                      subst e
                      go_wp2_with (go_at_call 66; refine (unhide HSM).mono ?_; rintro e w3 ⟨rfl, b3⟩)
                      go_ret
                      exact ⟨rfl, ((unhide HB1).trans ((unhide HBW2).mono (by omega))).trans (b3.mono (by have := (unhide HBW2).size; omega))⟩
                    | true =>
                      have hr3 := unhide HRR
                      simp only [m1, m2, m3, m4, decide_true, Bool.true_and] at hr3
                      have HR3 := hide hr3
                      clear hr3 HRR
                      go_wp2_with (go_at_call 66; refine (unhide HSM).mono ?_; rintro e w3 ⟨rfl, b3⟩; have g3 := (b3.block K (by omega)).trans (unhide G2); obtain ⟨_, _, _, ⟨x3, _⟩, _⟩ := cell13 g3; have G3 := hide g3; clear g3)
                      go_loopg [5] A (fun g s5 wx => ∃ j : Nat, j + g = A ∧ s5 = .int .i64 j ∧ Hid (Below (K + 1) W2 wx) ∧ Hid (((af1.drop j).all (fun x => decide (x.length ≤ 200)) && REST) = RES))
                      case atStart => exact ⟨0, by omega, by go_num, hide b3, by simpa using HR3⟩
                      case round =>
                        obtain ⟨j, hjg, rfl, HY, HRJ⟩ := hrel
                        clear x3 y0 y1 y2 y3 y4 y5 y6 y7 y8 y9 y10 y11 y12
                        have hby := unhide HY
                        have g4 := (hby.block K (by omega)).trans (unhide G2)
                        obtain ⟨_, _, _, ⟨x3, _⟩, _⟩ := cell13 g4
                        cases gk with
                        | zero =>
                          have e1 : (A : Int) ≤ (j : Int) := by omega
                          have j1 : decide ((j : Int) < (A : Int)) = false := by simp; omega
                          have hr4 := unhide HRJ
                          rw [List.drop_eq_nil_of_le (by rw [unhide HA]; omega)] at hr4
                          simp only [List.all_nil, Bool.true_and] at hr4
                          have HR4 := hide hr4
                          clear hr4 hby g4
                          go_wp2
                          go_roundg g'
                          case measure => omega
                          case rel =>
                            refine ⟨i + 1, by omega, by go_num, hide ((unhide HBW2).trans ((unhide HY).mono (by omega))), hide ?_⟩
                            rw [unhide HREST]
                            exact unhide HR4
                        | succ g2 =>
                          have hlt2 : (j : Int) < (A : Int) := by omega
                          have hkj2 : IntKind.i64.wrap ((j : Int) + 1) = (j : Int) + 1 := IntWalk.i64_in _ (by omega)
                          obtain ⟨x, hx⟩ := nth_of (unhide HA) (show j < A by omega)
                          have hdrop2 : af1.drop j = x :: af1.drop (j + 1) := by
                            obtain ⟨hl, e⟩ := List.getElem?_eq_some_iff.1 hx
                            rw [List.drop_eq_getElem_cons hl, e]
                          have hr4 := unhide HRJ
                          rw [hdrop2, List.all_cons] at hr4
                          have HR4 := hide hr4
                          obtain ⟨rb, ro, rfl, cj⟩ := unhide HKEYS j x hx
                          have cj2 := (World.cell?_of_block (a := ⟨rb, ro + j, none⟩) (hby.block rb (by have := cellLt cj; omega))).trans cj
                          clear hr4 hby g4 cj hdrop2 hx
                          by_cases m5 : x.length ≤ 200
                          · have p5 : (x.length : Int) ≤ 200 := by omega
                            go_wp2
                            go_roundg g2
                            case measure => omega
                            case rel =>
                              refine ⟨j + 1, by omega, by go_num, HY, hide ?_⟩
                              have := unhide HR4
                              simpa [m5] using this
                          · have p5 : (200 : Int) < (x.length : Int) := by omega
                            have e : RES = false := by rw [← unhide HR4]; simp [m5]
                            subst e
                            go_wp2
                            go_ret
                            exact ⟨rfl, ((unhide HB1).trans ((unhide HBW2).mono (by omega))).trans ((unhide HY).mono (by have := (unhide HBW2).size; omega))⟩
                  · have p4 : (70 : Int) < (A : Int) := by omega
                    have e : RES = false := by rw [← unhide HRR]; simp [m4]
                    subst e
                    go_wp2
                    go_ret
                    exact ⟨rfl, (unhide HB1).trans ((unhide HBW2).mono (by omega))⟩
                · have p3 : (200 : Int) < (u1.length : Int) := by omega
                  have e : RES = false := by rw [← unhide HRR]; simp [m3]
                  subst e
                  go_wp2
                  go_ret
                  exact ⟨rfl, (unhide HB1).trans ((unhide HBW2).mono (by omega))⟩
              · have p2 : (200 : Int) < (a1.length : Int) := by omega
                have e : RES = false := by rw [← unhide HRR]; simp [m2]
                subst e
                go_wp2
                go_ret
                exact ⟨rfl, (unhide HB1).trans ((unhide HBW2).mono (by omega))⟩
            · have p1 : (200 : Int) < (n1.length : Int) := by omega
              have e : RES = false := by rw [← unhide HRR]; simp [m1]
              subst e
              go_wp2
              go_ret
              exact ⟨rfl, (unhide HB1).trans ((unhide HBW2).mono (by omega))⟩
      · have i3 : (30 : Int) < (N : Int) := by omega
        have e : RES = false := by rw [← unhide HR]; simp [h3]
        subst e
        have i1 : (nm.length : Int) ≤ 200 := by omega
        have i2 : (tx.length : Int) ≤ 5000 := by omega
        go_enter Tryz.func12, Tryz.ntmps12
        go_upto_region 1 with fail
        try rw [hH]
        rw [unhide HW1]
        go_wp2
        go_ret
        exact ⟨rfl, unhide HB1⟩
    · have i2 : (5000 : Int) < (tx.length : Int) := by omega
      have e : RES = false := by rw [← unhide HR]; simp [h2]
      subst e
      have i1 : (nm.length : Int) ≤ 200 := by omega
      go_enter Tryz.func12, Tryz.ntmps12
      go_upto_region 1 with fail
      try rw [hH]
      rw [unhide HW1]
      go_wp2
      go_ret
      exact ⟨rfl, unhide HB1⟩
  · have i1 : (200 : Int) < (nm.length : Int) := by omega
    have e : RES = false := by rw [← unhide HR]; simp [h1]
    subst e
    go_enter Tryz.func12, Tryz.ntmps12
    go_upto_region 1 with fail
    try rw [hH]
    rw [unhide HW1]
    go_wp2
    go_ret
    exact ⟨rfl, unhide HB1⟩
structure SmallD (d : PDef) : Prop where
  name : d.name.length ≤ 200
  text : d.text.length ≤ 5000
  len : d.steps.length ≤ 30
  st : ∀ s ∈ d.steps, s.name.length ≤ 200 ∧ s.action.length ≤ 200 ∧ s.undo.length ≤ 200 ∧ s.after.length ≤ 70 ∧ (∃ m, s.note.bare.small 18 150 = some m) ∧ ∀ x ∈ s.after, x.length ≤ 200
theorem smallD_of {d : PDef} (h : P21.small d.bare = true) : SmallD d := by
  have h : P21.small ⟨d.name, d.text, d.steps.map PSt.bare⟩ = true := h
  unfold P21.small at h
  simp only [Bool.and_eq_true, decide_eq_true_eq, List.all_eq_true, List.length_map] at h
  refine ⟨h.1, h.2.1, h.2.2.1, fun s hs => ?_⟩
  have h4 : P21.smallS ⟨s.name, s.action, s.undo, s.after, ⟨s.most, s.first, s.factor⟩, s.limit, s.note.bare⟩ = true := h.2.2.2 s.bare (List.mem_map.2 ⟨s, hs, rfl⟩)
  unfold P21.smallS at h4
  simp only [Bool.and_eq_true, decide_eq_true_eq, List.all_eq_true] at h4
  exact ⟨h4.1, h4.2.1, h4.2.2.1, h4.2.2.2.1, Option.isSome_iff_exists.1 h4.2.2.2.2.1, h4.2.2.2.2.2⟩
theorem okn_of {s : PSt} {m : Nat} (h : s.note.bare.small 18 150 = some m) : okT s.note.bare := (P20.T.small_ok _ _ _ _ h (by omega)).2.2.2.1
theorem SmallD.ok {d : PDef} (h : SmallD d) : d.ok where
  fit := ⟨by have := h.len; omega, by have := h.name; unfold maxLen; omega, fun s hs => by obtain ⟨a, b, c, _⟩ := h.st s hs; unfold maxLen; omega, fun s hs => by obtain ⟨_, _, _, a, _⟩ := h.st s hs; omega⟩
  short := ⟨by have := h.name; omega, by have := h.text; omega, by have := h.len; omega, fun s hs => by
    obtain ⟨a, b, c, e, ⟨m, f⟩, g⟩ := h.st s hs
    exact ⟨by omega, by omega, by omega, fun x hx => by have := g x hx; omega, by omega, okn_of f⟩⟩
theorem SmallD.cp {d : PDef} (h : SmallD d) (hn : d.steps ≠ []) : d.cp :=
  ⟨by have := h.len; omega, fun e => absurd e hn, fun s hs => by obtain ⟨_, _, _, a, _⟩ := h.st s hs; omega, fun s hs => by obtain ⟨_, _, _, _, ⟨m, f⟩, _⟩ := h.st s hs; exact okn_of f⟩
theorem SmallD.af {d : PDef} (h : SmallD d) : ∀ s ∈ d.steps, s.after.length ≤ 1000000 := fun s hs => by obtain ⟨_, _, _, a, _⟩ := h.st s hs; omega
theorem clean_ne {d : P22.Def} (h : P28.clean d = true) : d.steps ≠ [] := fun e => by
  unfold P28.clean P28.namesP at h
  simp [e, P28.nt] at h
set_option maxRecDepth 100000 in
theorem Has_any (a : Option Addr) (c : Nat) (l : List Nat) (x : Nat) (w : World) (h : InN w a l) (hl : l.length ≤ 1000000) :
    Calls Tryz.prog 31 #[.slice a l.length c, .int .i64 (x : Int)] w fun e w' => e = .returned (.bool (decide (x ∈ l))) ∧ w' = w := by
  obtain ⟨N, hN⟩ : ∃ N, l.length = N := ⟨_, rfl⟩
  obtain ⟨RES, hR⟩ : ∃ R, decide (x ∈ l) = R := ⟨_, rfl⟩
  rw [hN] at hl ⊢
  rw [hR]
  have HH := hide h
  have HN := hide hN
  have HR := hide hR
  clear h hN hR
  go_enter Tryz.func31, Tryz.ntmps31
  go_wp2
  go_loopg [5] N (fun g s5 wx => ∃ i : Nat, i + g = N ∧ s5 = .int .i64 i ∧ w = wx ∧ Hid (x ∉ l.take i))
  case atStart => exact ⟨0, by omega, by go_num, rfl, hide (by simp)⟩
  case round =>
    obtain ⟨i, hig, rfl, hw, HX⟩ := hrel
    subst hw
    cases gk with
    | zero =>
      have e1 : (N : Int) ≤ (i : Int) := by omega
      have j1 : decide ((i : Int) < (N : Int)) = false := by simp; omega
      have e : RES = false := by
        have h1 := unhide HX
        rw [List.take_of_length_le (by rw [unhide HN]; omega)] at h1
        rw [← unhide HR]
        simpa using h1
      subst e
      go_wp2
      go_ret
      exact ⟨rfl, rfl⟩
    | succ g' =>
      have hlt : (i : Int) < (N : Int) := by omega
      have hkj : IntKind.i64.wrap ((i : Int) + 1) = (i : Int) + 1 := IntWalk.i64_in _ (by omega)
      obtain ⟨y, hy⟩ := nth_of (unhide HN) (show i < N by omega)
      obtain ⟨b, o, rfl, cj⟩ := unhide HH i y hy
      unfold iv at cj
      have HY := hide hy
      clear hy
      by_cases hxy : y = x
      · subst hxy
        have e : RES = true := by
          rw [← unhide HR]
          simpa using List.mem_of_getElem? (unhide HY)
        subst e
        go_wp2
        go_ret
        exact ⟨rfl, rfl⟩
      · have hne : ((y : Int) == (x : Int)) = false := by simp; omega
        go_wp2
        go_roundg g'
        case measure => omega
        case rel =>
          refine ⟨i + 1, by omega, by go_num, rfl, hide ?_⟩
          rw [List.take_add_one, unhide HY]
          intro hm
          rcases List.mem_append.1 hm with hm | hm
          · exact unhide HX hm
          · simp at hm; exact hxy hm.symm
end Go.Proofs.YtefokfbgpfcbkaaGreat
