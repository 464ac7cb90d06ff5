/- walk of slices.symMergeCmpFunc, at ints: the two runs cut, turned round, merged by itself -/
import Derived.Test.YtbnheebblicgkaaWStb
namespace Go.Proofs.Ytbnheebblicgkaa
set_option linter.unusedVariables false
set_option linter.unusedSimpArgs false
open Go.Shelf Go.RowKit Go.Lib Go.Sort
/-- what symMerge is to do, at runs of together fewer than f -/
def SymOk (g : Nat) (cb : Array Value) (cf : Z → Z → Int) (w : World) (blk off cap N f : Nat) : Prop :=
  ∀ (p l1 l2 q : List Z) (d : Array Z) (n : Nat) (W : World), W = (putRow encI w blk off d).drewN n → d.size = N → d.toList = p ++ (l1 ++ (l2 ++ q)) → St.Sorted (ltOf cf) l1 → St.Sorted (ltOf cf) l2 →
    0 < l1.length → 0 < l2.length → l1.length + l2.length < f → ∀ a m b : Int, a = (p.length : Int) → m = ((p.length + l1.length : Nat) : Int) → b = ((p.length + l1.length + l2.length : Nat) : Int) →
    Calls Try.prog 34 #[.slice (some ⟨blk, off, none⟩) N cap, .int .i64 a, .int .i64 m, .int .i64 b, .func (.func g) #[] cb] W fun e w' =>
      e = .returned (.tuple #[]) ∧ ∃ n' d', d'.size = N ∧ d'.toList = p ++ (St.merge (ltOf cf) l1 l2 ++ q) ∧ w' = (putRow encI w blk off d').drewN n'
set_option maxHeartbeats 8000000 in
set_option maxRecDepth 1000000 in
theorem symMerge_m (cf : Z → Z → Int) (hwo : St.Wo (ltOf cf)) (g : Nat) (cb : Array Value) (w : World) (blk off cap N : Nat) (d0 : Array Z) (hH : Holds encI w blk off d0) (hN : d0.size = N) (hsz : N < 4611686018427387904)
    (eg : ∀ args w, (callFunc g args).run Try.prog w = .ok (.enter g args) w) (hcmp : CmpOk g cb cf w blk off N) (f : Nat) (ih : SymOk g cb cf w blk off cap N f)
    (p l1 l2 q : List Z) (d : Array Z) (n : Nat) (W : World) (hW : W = (putRow encI w blk off d).drewN n) (hs : d.size = N)
    (hd : d.toList = p ++ (l1 ++ (l2 ++ q))) (s1 : St.Sorted (ltOf cf) l1) (s2 : St.Sorted (ltOf cf) l2) (h1 : 2 ≤ l1.length) (h2 : 2 ≤ l2.length) (hf : l1.length + l2.length ≤ f) (a m b : Int) (ha : a = (p.length : Int)) (hm : m = ((p.length + l1.length : Nat) : Int)) (hb : b = ((p.length + l1.length + l2.length : Nat) : Int)) :
    Calls Try.prog 34 #[.slice (some ⟨blk, off, none⟩) N cap, .int .i64 a, .int .i64 m, .int .i64 b, .func (.func g) #[] cb] W fun e w' =>
      e = .returned (.tuple #[]) ∧ ∃ n' d', d'.size = N ∧ d'.toList = p ++ (St.merge (ltOf cf) l1 l2 ++ q) ∧ w' = (putRow encI w blk off d').drewN n' := by
  have hmx : Try.prog.follows .mixedOrders = true := by kernel_rfl
  obtain ⟨A, hA⟩ : ∃ A, p.length = A := ⟨_, rfl⟩
  obtain ⟨L, hL⟩ : ∃ L, l1.length = L := ⟨_, rfl⟩
  obtain ⟨R, hR⟩ : ∃ R, l2.length = R := ⟨_, rfl⟩
  have hkb : A + L + R + q.length = N := by
    have := congrArg List.length hd
    simp only [List.length_append] at this
    rw [← hs, ← Array.length_toList, this]; omega
  rw [hA] at ha hm hb
  rw [hL] at hm hb h1 hf
  rw [hR] at hb h2 hf
  have hb' : b = ((A : Int) + (L : Int) + (R : Int)) := by omega
  have hm' : m = ((A : Int) + (L : Int)) := by omega
  subst ha hb' hm'
  clear hm hb
  have hAN : A + L + R ≤ N := by omega
  obtain ⟨MD, hMD⟩ : ∃ MD, (A + (A + L + R)) / 2 = MD := ⟨_, rfl⟩
  obtain ⟨S0, R0, hSR⟩ : ∃ S0 R0 : Nat, (MD < A + L ∧ S0 = MD - R ∧ R ≤ MD ∧ R0 = MD) ∨ (A + L ≤ MD ∧ S0 = A ∧ R0 = A + L) := by
    by_cases h : MD < A + L
    · exact ⟨MD - R, MD, .inl ⟨h, rfl, by omega, rfl⟩⟩
    · exact ⟨A, A + L, .inr ⟨by omega, rfl, rfl⟩⟩
  have hmd1 : A < MD := by omega
  have hmd2 : MD < A + L + R := by omega
  have hS1 : A ≤ S0 := by omega
  have hS2 : S0 ≤ R0 := by omega
  have hS3 : R0 ≤ A + L := by omega
  have hS4 : R0 ≤ MD := by omega
  have hS5 : MD ≤ S0 + R := by omega
  have hS6 : S0 = A ∨ MD = S0 + R := by omega
  have hS7 : R0 = A + L ∨ R0 = MD := by omega
  have w0 : IntKind.i64.wrap ((A : Int) + (L : Int) - (A : Int)) = (L : Int) := by rw [show (A : Int) + (L : Int) - (A : Int) = (L : Int) by omega]; exact IntWalk.i64_in _ (by omega)
  have e0 : (A : Int) + (L : Int) - (A : Int) = (L : Int) := by omega
  have e1 : ((L : Int) == 1) = false := by simp; omega
  have e2 : (A : Int) + (L : Int) + (R : Int) - ((A : Int) + (L : Int)) = (R : Int) := by omega
  have e3 : ((R : Int) == 1) = false := by simp; omega
  have wm : IntKind.i64.wrap ((A : Int) + ((A : Int) + (L : Int) + (R : Int))) = (A : Int) + ((A : Int) + (L : Int) + (R : Int)) := IntWalk.i64_in _ (by omega)
  have hmd : ((A : Int) + ((A : Int) + (L : Int) + (R : Int))) / 2 = (MD : Int) := by omega
  have wn : IntKind.i64.wrap ((MD : Int) + ((A : Int) + (L : Int))) = (MD : Int) + ((A : Int) + (L : Int)) := IntWalk.i64_in _ (by omega)
  have HC : Aside _ := hcmp
  have HIH : Aside _ := ih
  have HH := hide hH
  have HN := hide hN
  have HS := hide hs
  have HW := hide hW
  have HA := hide hA
  have HL := hide hL
  have HR := hide hR
  have HD := hide hd
  have HS1 := hide s1
  have HS2 := hide s2
  have HWO := hide hwo
  have HSR := hide hSR
  have HF := hide hf
  have H6 := hide hS6
  have H7 := hide hS7
  clear hcmp ih hH hN hs hW hA hL hR hd s1 s2 hwo hkb hMD hSR hf hS6 hS7
  go_enter Try.func34, Try.ntmps34
  go_upto_if 140 with fail
  clear w0 e0 e1 e2 e3 wm hmd
  go_cut [20, 21] from 141 to 146 (fun s20 s21 wx => s20 = .int .i64 (S0 : Int) ∧ s21 = .int .i64 (R0 : Int) ∧ W = wx)
  case first =>
    rcases unhide HSR with ⟨c1, c2, c3, c4⟩ | ⟨c1, c2, c3⟩
    · have c1' : (MD : Int) < (A : Int) + (L : Int) := by omega
      have c2' : (MD : Int) + ((A : Int) + (L : Int)) - ((A : Int) + (L : Int) + (R : Int)) = (S0 : Int) := by omega
      have c2w : IntKind.i64.wrap ((MD : Int) + ((A : Int) + (L : Int)) - ((A : Int) + (L : Int) + (R : Int))) = (S0 : Int) := by rw [c2']; exact IntWalk.i64_in _ (by omega)
      have HC4 := hide c4
      clear c1 c2 c3 c4
      go_wp2
      go_meet
      exact ⟨by go_num, by rw [unhide HC4], rfl⟩
    · have c1' : (A : Int) + (L : Int) ≤ (MD : Int) := by omega
      have HC2 := hide c2
      have HC3 := hide c3
      clear c1 c2 c3
      go_wp2
      go_meet
      exact ⟨by rw [unhide HC2], by rw [unhide HC3]; congr 1, rfl⟩
  case rest =>
    obtain ⟨rfl, rfl, rfl⟩ := hcut
    clear HSR
    have wp : IntKind.i64.wrap ((MD : Int) + ((A : Int) + (L : Int)) - 1) = (MD : Int) + ((A : Int) + (L : Int)) - 1 := IntWalk.i64_in _ (by omega)
    go_wp2
    go_loopg [20, 21] (R0 - S0 + 1) (fun g1 s20 s21 wx => ∃ (i j nn : Nat), s20 = .int .i64 (i : Int) ∧ s21 = .int .i64 (j : Int) ∧ S0 ≤ i ∧ i ≤ j ∧ j ≤ R0 ∧ j - i ≤ g1 ∧ Hid (i = S0 ∨ ∃ x y, l1[i - A - 1]? = some x ∧ l2[MD - i]? = some y ∧ ltOf cf y x = false) ∧ Hid (j = R0 ∨ ∃ x y, l1[j - A]? = some x ∧ l2[MD - j - 1]? = some y ∧ ltOf cf y x = true) ∧ Hid (wx = (putRow encI w blk off d).drewN nn))
    case atStart => exact ⟨S0, R0, n, rfl, rfl, Nat.le_refl _, hS2, Nat.le_refl _, by omega, hide (.inl rfl), hide (.inl rfl), HW⟩
    case round =>
      obtain ⟨i, j, nn, rfl, rfl, hi1, hij, hjB, hg1, HI, HJ, HWK⟩ := hrel
      by_cases hlt : i < j
      · have hlt2 : (i : Int) < (j : Int) := by omega
        have hjB2 : (j : Int) ≤ (N : Int) := by omega
        have hwij : IntKind.i64.wrap ((i : Int) + (j : Int)) = (i : Int) + (j : Int) := IntWalk.i64_in _ (by omega)
        go_wp2
        obtain ⟨h, hh⟩ : ∃ h, (i + j) / 2 = h := ⟨_, rfl⟩
        have hmid : ((i : Int) + (j : Int)) / 2 = (h : Int) := by omega
        rw [hmid]
        have hih : i ≤ h := by omega
        have hhj : h < j := by omega
        obtain ⟨e, he⟩ : ∃ e, A + L + (MD - 1 - h) = e := ⟨_, rfl⟩
        have hee : (MD : Int) + ((A : Int) + (L : Int)) - 1 - (h : Int) = (e : Int) := by omega
        have hwe : IntKind.i64.wrap ((MD : Int) + ((A : Int) + (L : Int)) - 1 - (h : Int)) = (e : Int) := by rw [hee]; exact IntWalk.i64_in _ (by omega)
        have heN : (e : Int) < (N : Int) := by omega
        have hhj2 : (h : Int) < (N : Int) := by omega
        have hwh : IntKind.i64.wrap ((h : Int) + 1) = (h : Int) + 1 := IntWalk.i64_in _ (by omega)
        clear hh hmid hwij hee
        obtain ⟨x, hx⟩ : ∃ x, l1[h - A]? = some x := ⟨_, List.getElem?_eq_getElem (by rw [unhide HL]; omega)⟩
        obtain ⟨y, hy⟩ : ∃ y, l2[MD - 1 - h]? = some y := ⟨_, List.getElem?_eq_getElem (by rw [unhide HR]; omega)⟩
        have hHk := holds_putRow encI w blk off d0 d (unhide HH) (by rw [unhide HS, unhide HN])
        have hxd : d[h]! = x := St.get_list d _ _ (by
          rw [unhide HD, List.getElem?_append_right (by rw [unhide HA]; omega), unhide HA, List.getElem?_append_left (by rw [unhide HL]; omega)]
          exact hx)
        have hyd : d[e]! = y := St.get_list d _ _ (by
          rw [unhide HD, List.getElem?_append_right (by rw [unhide HA]; omega), unhide HA, List.getElem?_append_right (by rw [unhide HL]; omega), unhide HL, List.getElem?_append_left (by rw [unhide HR]; omega), show e - A - L = MD - 1 - h from by omega]
          exact hy)
        have hsz2 : d.size = N := unhide HS
        obtain ⟨cx, fx⟩ := hHk h (by omega)
        obtain ⟨cy, fy⟩ := hHk e (by omega)
        rw [hxd] at cx
        rw [hyd] at cy
        have cx' : ((putRow encI w blk off d).drewN nn).cell? ⟨blk, off + h, none⟩ = some (.int .i64 x.1) := cx
        have cy' : ((putRow encI w blk off d).drewN nn).cell? ⟨blk, off + e, none⟩ = some (.int .i64 y.1) := cy
        have hc := HC.out d y x hsz2 nn
        rw [← unhide HWK] at cx' cy' hc
        have HX := hide hx
        have HY := hide hy
        clear hx hy hHk hxd hyd hsz2 cx fx cy fy he
        by_cases hlv : cf y x < 0
        · go_quiet_o (first | (go_at_fn g; refine Calls.quiet_of (hc _)))
          have HW2 : Hid (wr.drewN nq = (putRow encI w blk off d).drewN (nn + nq)) := hide (by rw [unhide HWK, World.drewN_drewN])
          clear hc cx' cy' hwe
          generalize wr.drewN nq = wq2 at HW2 ⊢
          go_wp2
          go_roundg (h - i)
          case measure => omega
          case rel => exact ⟨i, h, nn + nq, rfl, rfl, hi1, hih, by omega, Nat.le_refl _, HI, hide (.inr ⟨x, y, unhide HX, by rw [show MD - h - 1 = MD - 1 - h from by omega]; exact unhide HY, decide_eq_true hlv⟩), HW2⟩
        · go_quiet_o (first | (go_at_fn g; refine Calls.quiet_of (hc _)))
          have HW2 : Hid (wr.drewN nq = (putRow encI w blk off d).drewN (nn + nq)) := hide (by rw [unhide HWK, World.drewN_drewN])
          clear hc cx' cy' hwe
          generalize wr.drewN nq = wq2 at HW2 ⊢
          go_wp2
          go_roundg (j - (h + 1))
          case measure => omega
          case rel => exact ⟨h + 1, j, nn + nq, by go_num, rfl, by omega, by omega, hjB, Nat.le_refl _, hide (.inr ⟨x, y, by rw [show h + 1 - A - 1 = h - A from by omega]; exact unhide HX, by rw [show MD - (h + 1) = MD - 1 - h from by omega]; exact unhide HY, decide_eq_false (by omega)⟩), HJ, HW2⟩
      · have hji : i = j := by omega
        subst hji
        have hL := unhide HL
        have hR := unhide HR
        have hmg := St.merge_at (unhide HWO) (unhide HS1) (unhide HS2) (i - A) (MD - i) (by omega) (by omega)
          (by rcases unhide HI with h | ⟨x, y, hx, hy, hxy⟩
              · rcases unhide H6 with h6 | h6
                · exact .inl (by omega)
                · exact .inr (.inl (by omega))
              · exact .inr (.inr ⟨x, y, hx, hy, hxy⟩))
          (by rcases unhide HJ with h | ⟨x, y, hx, hy, hxy⟩
              · rcases unhide H7 with h7 | h7
                · exact .inl (by omega)
                · exact .inr (.inl (by omega))
              · exact .inr (.inr ⟨x, y, hx, hy, hxy⟩))
        obtain ⟨u1, hu1⟩ : ∃ u, l1.take (i - A) = u := ⟨_, rfl⟩
        obtain ⟨u2, hu2⟩ : ∃ u, l1.drop (i - A) = u := ⟨_, rfl⟩
        obtain ⟨v1, hv1⟩ : ∃ u, l2.take (MD - i) = u := ⟨_, rfl⟩
        obtain ⟨v2, hv2⟩ : ∃ u, l2.drop (MD - i) = u := ⟨_, rfl⟩
        have hl1 : l1 = u1 ++ u2 := by rw [← hu1, ← hu2, List.take_append_drop]
        have hl2 : l2 = v1 ++ v2 := by rw [← hv1, ← hv2, List.take_append_drop]
        have n1 : u1.length = i - A := by rw [← hu1, List.length_take]; omega
        have n2 : u2.length = A + L - i := by rw [← hu2, List.length_drop]; omega
        have n3 : v1.length = MD - i := by rw [← hv1, List.length_take]; omega
        have n4 : v2.length = R - (MD - i) := by rw [← hv2, List.length_drop]; omega
        have t1 : St.Sorted (ltOf cf) u1 := by rw [← hu1]; exact St.sorted_take (unhide HS1) _
        have t2 : St.Sorted (ltOf cf) u2 := by rw [← hu2]; exact St.sorted_drop (unhide HS1) _
        have t3 : St.Sorted (ltOf cf) v1 := by rw [← hv1]; exact St.sorted_take (unhide HS2) _
        have t4 : St.Sorted (ltOf cf) v2 := by rw [← hv2]; exact St.sorted_drop (unhide HS2) _
        rw [hu1, hu2, hv1, hv2] at hmg
        have hd2 := unhide HD
        rw [hl1, hl2] at hd2
        have hpA := unhide HA
        have hml : (St.merge (ltOf cf) u1 v1).length = MD - A := by rw [St.merge_length]; omega
        have HMG := hide hmg
        have HD2 := hide hd2
        obtain ⟨EN, hEN⟩ : ∃ EN, MD + (A + L) - i = EN := ⟨_, rfl⟩
        have hen : (MD : Int) + ((A : Int) + (L : Int)) - (i : Int) = (EN : Int) := by omega
        have hwen : IntKind.i64.wrap ((MD : Int) + ((A : Int) + (L : Int)) - (i : Int)) = (EN : Int) := by rw [hen]; exact IntWalk.i64_in _ (by omega)
        have hEN2 : MD + (A + L) = i + EN := by omega
        have HB1 : Hid ((i < A + L ∧ i < MD) → ∀ W', W' = (putRow encI w blk off d).drewN nn → Calls Try.prog 46 #[.slice (some ⟨blk, off, none⟩) N cap, .int .i64 (i : Int), .int .i64 ((A : Int) + (L : Int)), .int .i64 (EN : Int), .func (.func g) #[] cb] W' fun e w' =>
            e = .returned (.tuple #[]) ∧ ∃ n' d', d'.size = N ∧ d'.toList = (p ++ u1) ++ v1 ++ u2 ++ (v2 ++ q) ∧ w' = (putRow encI w blk off d').drewN n') := hide (fun hh W' hW' =>
          rotate_any w blk off cap N _ d0 (unhide HH) (unhide HN) hsz (p ++ u1) u2 v1 (v2 ++ q) d nn W' hW' (unhide HS) (by rw [hd2]; simp) _ _ _ (by rw [List.length_append]; omega) (by rw [List.length_append]; omega) (by rw [List.length_append]; omega) (by omega) (by omega))
        have HB2 : Hid ((A < i ∧ i < MD) → ∀ (dk : Array Z) (nk : Nat) (W' : World), W' = (putRow encI w blk off dk).drewN nk → dk.size = N → dk.toList = p ++ (u1 ++ (v1 ++ (u2 ++ v2 ++ q))) → Calls Try.prog 34 #[.slice (some ⟨blk, off, none⟩) N cap, .int .i64 (A : Int), .int .i64 (i : Int), .int .i64 (MD : Int), .func (.func g) #[] cb] W' fun e w' =>
            e = .returned (.tuple #[]) ∧ ∃ n' d', d'.size = N ∧ d'.toList = p ++ (St.merge (ltOf cf) u1 v1 ++ (u2 ++ v2 ++ q)) ∧ w' = (putRow encI w blk off d').drewN n') := hide (fun hh dk nk W' hW' hs' hd' =>
          HIH.out p u1 v1 (u2 ++ v2 ++ q) dk nk W' hW' hs' hd' t1 t3 (by omega) (by omega) (by have := unhide HF; omega) _ _ _ (by omega) (by omega) (by omega))
        have HB3 : Hid ((MD < EN ∧ EN < A + L + R) → ∀ (dk : Array Z) (nk : Nat) (W' : World), W' = (putRow encI w blk off dk).drewN nk → dk.size = N → dk.toList = (p ++ St.merge (ltOf cf) u1 v1) ++ (u2 ++ (v2 ++ q)) → Calls Try.prog 34 #[.slice (some ⟨blk, off, none⟩) N cap, .int .i64 (MD : Int), .int .i64 (EN : Int), .int .i64 ((A : Int) + (L : Int) + (R : Int)), .func (.func g) #[] cb] W' fun e w' =>
            e = .returned (.tuple #[]) ∧ ∃ n' d', d'.size = N ∧ d'.toList = (p ++ St.merge (ltOf cf) u1 v1) ++ (St.merge (ltOf cf) u2 v2 ++ q) ∧ w' = (putRow encI w blk off d').drewN n') := hide (fun hh dk nk W' hW' hs' hd' =>
          HIH.out (p ++ St.merge (ltOf cf) u1 v1) u2 v2 q dk nk W' hW' hs' hd' t2 t4 (by omega) (by omega) (by have := unhide HF; omega) _ _ _ (by rw [List.length_append]; omega) (by rw [List.length_append]; omega) (by rw [List.length_append]; omega))
        have HN1 := hide n1
        have HN2 := hide n2
        have HN3 := hide n3
        have HN4 := hide n4
        clear hmg hd2 hl1 hl2 hu1 hu2 hv1 hv2 n1 n2 n3 n4 t1 t2 t3 t4 hpA hml hL hR HI HJ hEN hen wn wp hlt hg1 hij
        obtain ⟨B1, hB1⟩ : ∃ B : Bool, B = decide (i < A + L ∧ i < MD) := ⟨_, rfl⟩
        have HBD1 := hide hB1
        clear hB1
        go_upto_region 39 with fail
        go_cut [185] from 178 to 185 (fun c wx => c = .bool B1 ∧ wr = wx)
        case first =>
          by_cases hc1 : i < A + L
          · have c1 : (i : Int) < (A : Int) + (L : Int) := by omega
            by_cases hc2 : i < MD
            · have c2 : (A : Int) + (L : Int) < (EN : Int) := by omega
              have HB := hide ((unhide HBD1).trans (decide_eq_true ⟨hc1, hc2⟩))
              clear hc1 hc2
              go_wp2
              go_meet
              exact ⟨by rw [unhide HB]; try (congr 1; exact decide_eq_false (by omega)), rfl⟩
            · have c2 : (EN : Int) ≤ (A : Int) + (L : Int) := by omega
              have HB := hide ((unhide HBD1).trans (decide_eq_false (fun h => hc2 h.2)))
              clear hc1 hc2
              go_wp2
              go_meet
              exact ⟨by rw [unhide HB]; try (congr 1; exact decide_eq_false (by omega)), rfl⟩
          · have c1 : (A : Int) + (L : Int) ≤ (i : Int) := by omega
            have HB := hide ((unhide HBD1).trans (decide_eq_false (fun h => hc1 h.1)))
            clear hc1
            go_wp2
            go_meet
            exact ⟨by rw [unhide HB]; try (congr 1; exact decide_eq_false (by omega)), rfl⟩
        case rest =>
          obtain ⟨rfl, rfl⟩ := hcut
          go_upto_if 185 with fail
          go_cut [] from 186 to 191 (fun wx => ∃ (nk : Nat) (dk : Array Z), Hid (dk.size = N) ∧ Hid (dk.toList = p ++ (u1 ++ (v1 ++ (u2 ++ v2 ++ q)))) ∧ Hid (wx = (putRow encI w blk off dk).drewN nk))
          case first =>
            by_cases hcc : i < A + L ∧ i < MD
            · have hcl := unhide HB1 hcc _ (unhide HWK)
              have HCL := hide hcl
              have hbt : B1 = true := (unhide HBD1).trans (decide_eq_true hcc)
              subst hbt
              clear hcl hcc
              go_wp2_with (go_at_call 46; refine (unhide HCL).mono ?_; rintro e w1 ⟨rfl, nk, dk, h1, h2, h3⟩; have K1 := hide h1; have K2 := hide h2; have K3 := hide h3; clear h1 h2 h3)
              go_meet
              exact ⟨nk, dk, K1, hide (by rw [unhide K2]; simp), K3⟩
            · have hbt : B1 = false := (unhide HBD1).trans (decide_eq_false hcc)
              subst hbt
              have HV := hide (show u2 ++ v1 = v1 ++ u2 by
                by_cases hc1 : i < A + L
                · have hv : v1 = [] := List.eq_nil_of_length_eq_zero (by rw [unhide HN3]; omega)
                  rw [hv]; simp
                · have hu : u2 = [] := List.eq_nil_of_length_eq_zero (by rw [unhide HN2]; omega)
                  rw [hu]; simp)
              clear hcc
              go_wp2
              go_meet
              exact ⟨nn, d, HS, hide (by
                have h := unhide HD2
                rw [h, List.append_assoc u1, ← List.append_assoc u2 (v1 ++ v2), ← List.append_assoc u2 v1, unhide HV]
                simp), HWK⟩
          case rest =>
            obtain ⟨nk, dk, K1, K2, K3⟩ := hcut
            clear HB1 HWK HD HD2
            obtain ⟨B2, hB2⟩ : ∃ B : Bool, B = decide (A < i ∧ i < MD) := ⟨_, rfl⟩
            have HBD2 := hide hB2
            clear hB2
            go_upto_region 41 with fail
            go_cut [199] from 192 to 199 (fun c wx => c = .bool B2 ∧ wc = wx)
            case first =>
              by_cases hc1 : A < i
              · have c1 : (A : Int) < (i : Int) := by omega
                by_cases hc2 : i < MD
                · have c2 : (i : Int) < (MD : Int) := by omega
                  have HB := hide ((unhide HBD2).trans (decide_eq_true ⟨hc1, hc2⟩))
                  clear hc1 hc2
                  go_wp2
                  go_meet
                  exact ⟨by rw [unhide HB]; try (congr 1; exact decide_eq_false (by omega)), rfl⟩
                · have c2 : (MD : Int) ≤ (i : Int) := by omega
                  have HB := hide ((unhide HBD2).trans (decide_eq_false (fun h => hc2 h.2)))
                  clear hc1 hc2
                  go_wp2
                  go_meet
                  exact ⟨by rw [unhide HB]; try (congr 1; exact decide_eq_false (by omega)), rfl⟩
              · have c1 : (i : Int) ≤ (A : Int) := by omega
                have HB := hide ((unhide HBD2).trans (decide_eq_false (fun h => hc1 h.1)))
                clear hc1
                go_wp2
                go_meet
                exact ⟨by rw [unhide HB]; try (congr 1; exact decide_eq_false (by omega)), rfl⟩
            case rest =>
              obtain ⟨rfl, rfl⟩ := hcut
              go_upto_if 199 with fail
              go_cut [] from 200 to 205 (fun wx => ∃ (nk : Nat) (dk : Array Z), Hid (dk.size = N) ∧ Hid (dk.toList = p ++ (St.merge (ltOf cf) u1 v1 ++ (u2 ++ v2 ++ q))) ∧ Hid (wx = (putRow encI w blk off dk).drewN nk))
              case first =>
                by_cases hcc : A < i ∧ i < MD
                · have hcl := unhide HB2 hcc dk nk _ (unhide K3) (unhide K1) (unhide K2)
                  have HCL := hide hcl
                  have hbt : B2 = true := (unhide HBD2).trans (decide_eq_true hcc)
                  subst hbt
                  clear hcl hcc
                  go_wp2_with (go_at_call 34; refine (unhide HCL).mono ?_; rintro e w1 ⟨rfl, nk2, dk2, h1, h2, h3⟩; have J1 := hide h1; have J2 := hide h2; have J3 := hide h3; clear h1 h2 h3)
                  go_meet
                  exact ⟨nk2, dk2, J1, J2, J3⟩
                · have hbt : B2 = false := (unhide HBD2).trans (decide_eq_false hcc)
                  subst hbt
                  have HV := hide (show St.merge (ltOf cf) u1 v1 = u1 ++ v1 by
                    by_cases hc1 : A < i
                    · have hv : v1 = [] := List.eq_nil_of_length_eq_zero (by rw [unhide HN3]; omega)
                      rw [hv, St.merge_nil_right]; simp
                    · have hu : u1 = [] := List.eq_nil_of_length_eq_zero (by rw [unhide HN1]; omega)
                      rw [hu, St.merge_nil]; simp)
                  clear hcc
                  go_wp2
                  go_meet
                  exact ⟨nk, dk, K1, hide (by rw [unhide K2, unhide HV]; simp), K3⟩
              case rest =>
                obtain ⟨nl, dl, M1, M2, M3⟩ := hcut
                clear HB2 K1 K2 K3
                by_cases hc1 : MD < EN
                · have c1 : (MD : Int) < (EN : Int) := by omega
                  by_cases hc2 : EN < A + L + R
                  · have c2 : (EN : Int) < (A : Int) + (L : Int) + (R : Int) := by omega
                    have hcl := unhide HB3 ⟨hc1, hc2⟩ dl nl _ (unhide M3) (unhide M1) (by rw [unhide M2]; simp)
                    have HCL := hide hcl
                    clear hcl hc1 hc2
                    go_wp2_with (go_at_call 34; refine (unhide HCL).mono ?_; rintro e w1 ⟨rfl, nk2, dk2, h1, h2, h3⟩; have J1 := hide h1; have J2 := hide h2; have J3 := hide h3; clear h1 h2 h3)
                    go_end0
                    exact ⟨rfl, nk2, dk2, unhide J1, by rw [unhide J2, unhide HMG]; simp, unhide J3⟩
                  · have c2 : (A : Int) + (L : Int) + (R : Int) ≤ (EN : Int) := by omega
                    have hv : v2 = [] := List.eq_nil_of_length_eq_zero (by rw [unhide HN4]; omega)
                    have HV := hide hv
                    clear hv hc1 hc2
                    go_wp2
                    go_end0
                    exact ⟨rfl, nl, dl, unhide M1, by rw [unhide M2, unhide HMG, unhide HV, St.merge_nil_right]; simp, unhide M3⟩
                · have c1 : (EN : Int) ≤ (MD : Int) := by omega
                  have hu : u2 = [] := List.eq_nil_of_length_eq_zero (by rw [unhide HN2]; omega)
                  have HU := hide hu
                  clear hu hc1
                  go_wp2
                  go_end0
                  exact ⟨rfl, nl, dl, unhide M1, by rw [unhide M2, unhide HMG, unhide HU, St.merge_nil]; simp, unhide M3⟩
end Go.Proofs.Ytbnheebblicgkaa
