/- walks of slices.stableCmpFunc and SortStableFunc, at ints -/
import Derived.Test.YtbnheebblicgkaaWStc
import Derived.Test.YtbnheebblicgkaaPlainSt3
import Derived.Test.YtbnheebblicgkaaShelf
namespace Go.Proofs.Ytbnheebblicgkaa
set_option linter.unusedVariables false
set_option linter.unusedSimpArgs false
open Go.Shelf Go.RowKit Go.Lib Go.Sort
theorem symMerge_any (cf : Z → Z → Int) (hwo : St.Wo (ltOf cf)) (g : Nat) (cb : Array Value) (w : World) (blk off cap N : Nat) (d0 : Array Z) (hH : Holds encI w blk off d0) (hN : d0.size = N) (hsz : N < 4611686018427387904)
    (eg : ∀ args w, (callFunc g args).run Try.prog w = .ok (.enter g args) w) (hcmp : CmpOk g cb cf w blk off N) : ∀ f, SymOk g cb cf w blk off cap N f
  | 0 => fun p l1 l2 q d n W hW hs hd s1 s2 h1 h2 hf => absurd hf (Nat.not_lt_zero _)
  | f + 1 => fun p l1 l2 q d n W hW hs hd s1 s2 h1 h2 hf a m b ha hm hb => by
    by_cases c1 : l1.length = 1
    · obtain ⟨x, rfl⟩ := List.length_eq_one_iff.1 c1
      have h := symMerge_1 cf hwo g cb w blk off cap N d0 hH hN hsz eg hcmp p l2 q x d n W hW hs (by rw [hd]; rfl) s2 a m b ha (by rw [hm]; rfl) (by rw [hb]; rfl)
      simp only [List.append_assoc] at h
      exact h
    · by_cases c2 : l2.length = 1
      · obtain ⟨y, rfl⟩ := List.length_eq_one_iff.1 c2
        have h := symMerge_2 cf hwo g cb w blk off cap N d0 hH hN hsz eg hcmp p l1 q y d n W hW hs (by rw [hd]; rfl) s1 (by omega) a m b ha hm (by rw [hb]; rfl)
        simp only [List.append_assoc] at h
        exact h
      · exact symMerge_m cf hwo g cb w blk off cap N d0 hH hN hsz eg hcmp f (symMerge_any cf hwo g cb w blk off cap N d0 hH hN hsz eg hcmp f) p l1 l2 q d n W hW hs hd s1 s2 (by omega) (by omega) (by omega) a m b ha hm hb
theorem put_put (w : World) (blk off nn : Nat) (dk d' : Array Z) (h : d'.size = dk.size) : putRow encI ((putRow encI w blk off dk).drewN nn) blk off d' = (putRow encI w blk off d').drewN nn := by
  show (putRow encI (putRow encI w blk off dk) blk off d').drewN nn = _
  rw [putRow_putRow _ _ _ _ _ _ h]
theorem encI_one : OneCell encI := fun x => rfl
theorem ins_at (cf : Z → Z → Int) (hwo : St.Wo (ltOf cf)) (g : Nat) (cb : Array Value) (w : World) (blk off cap N : Nat) (d0 : Array Z) (hH : Holds encI w blk off d0) (hN : d0.size = N) (hsz : N < 4611686018427387904)
    (eg : ∀ args w, (callFunc g args).run Try.prog w = .ok (.enter g args) w) (hcr : ∀ (X : Array Z) (m : Nat), X.size = N → CmpReads Try.prog g cb encI cf blk off N ((putRow encI w blk off X).drewN m))
    (p l q : List Z) (d : Array Z) (n : Nat) (W : World) (hW : W = (putRow encI w blk off d).drewN n) (hs : d.size = N) (hd : d.toList = p ++ (l ++ q)) (a b : Int) (ha : a = (p.length : Int)) (hb : b = ((p.length + l.length : Nat) : Int)) :
    Calls Try.prog 33 #[.slice (some ⟨blk, off, none⟩) N cap, .int .i64 a, .int .i64 b, .func (.func g) #[] cb] W fun e w' =>
      e = .returned (.tuple #[]) ∧ ∃ n' d', d'.size = N ∧ d'.toList = p ++ (St.isort (ltOf cf) l ++ q) ∧ w' = (putRow encI w blk off d').drewN n' := by
  have hlen := congrArg List.length hd
  simp only [List.length_append, Array.length_toList] at hlen
  subst hW ha hb
  have hHk : Holds encI ((putRow encI w blk off d).drewN n) blk off d := holds_putRow encI w blk off d0 d hH (by rw [hs, hN])
  have h := Try.insertionSortCmpFunc_one encI encI_one cf g cb blk off cap p.length (p.length + l.length) d ((putRow encI w blk off d).drewN n) eg (by rw [hs]; exact hcr d n hs) hHk (by omega) (by omega) (by omega)
  rw [hs] at h
  refine h.mono ?_
  rintro e w' ⟨rfl, n', rfl⟩
  have hl := St.insertion_list hwo d p l q p.length (p.length + l.length) (by rw [hd]; simp) rfl rfl
  have hsz2 : (insertionSort (ltOf cf) d p.length (p.length + l.length)).size = N := by
    rw [← Array.length_toList, hl]
    simp only [List.length_append, St.isort_length]
    omega
  refine ⟨rfl, n + n', _, hsz2, by rw [hl]; simp, ?_⟩
  rw [put_put w blk off n d _ (by rw [hsz2, hs]), World.drewN_drewN]
set_option maxHeartbeats 4000000 in
set_option maxRecDepth 1000000 in
theorem stable_any (cf : Z → Z → Int) (hwo : St.Wo (ltOf cf)) (g : Nat) (cb : Array Value) (w : World) (blk off cap N : Nat) (d0 : Array Z) (hH : Holds encI w blk off d0) (hN : d0.size = N) (hsz : N ≤ 1099511627776)
    (eg : ∀ args w, (callFunc g args).run Try.prog w = .ok (.enter g args) w) (hcmp : CmpOk g cb cf w blk off N) (hcr : ∀ (X : Array Z) (m : Nat), X.size = N → CmpReads Try.prog g cb encI cf blk off N ((putRow encI w blk off X).drewN m)) :
    Calls Try.prog 28 #[.slice (some ⟨blk, off, none⟩) N cap, .int .i64 (N : Int), .func (.func g) #[] cb] w fun e w' =>
      e = .returned (.tuple #[]) ∧ ∃ n' d', d'.size = N ∧ d'.toList = St.isort (ltOf cf) d0.toList ∧ w' = (putRow encI w blk off d').drewN n' := by
  have hsy := symMerge_any cf hwo g cb w blk off cap N d0 hH hN (by omega) eg hcmp (N + 1)
  have hin := fun p l q d n W => ins_at cf hwo g cb w blk off cap N d0 hH hN (by omega) eg hcr p l q d n W
  obtain ⟨o, ho⟩ : ∃ o, d0.toList = o := ⟨_, rfl⟩
  have hol : o.length = N := by rw [← ho, Array.length_toList, hN]
  have hw0 : w = (putRow encI w blk off d0).drewN 0 := (putRow_self encI w blk off d0 hH).symm
  rw [ho]
  have HSY : Aside _ := hsy
  have HIN : Aside _ := hin
  have HWO := hide hwo
  have HO := hide ho
  have HOL := hide hol
  have HN := hide hN
  have HW0 := hide hw0
  clear hsy hin hwo ho hol hN hw0 hH hcmp hcr
  go_enter Try.func28, Try.ntmps28
  go_wp2
  go_loopg [7, 8] N (fun g1 s7 s8 wx => ∃ (a nn : Nat) (dk : Array Z) (od oo dn : List Z), s7 = .int .i64 (a : Int) ∧ s8 = .int .i64 ((a : Int) + 20) ∧ a ≤ N ∧ N - a ≤ g1 ∧ Hid (dk.size = N) ∧ Hid (dk.toList = dn ++ oo) ∧ Hid (o = od ++ oo) ∧ Hid (dn.length = a) ∧ Hid (od.length = a) ∧ Hid (St.Done (ltOf cf) 20 od dn) ∧ Hid (wx = (putRow encI w blk off dk).drewN nn))
  case atStart => exact ⟨0, 0, d0, [], o, [], by go_num, by go_num, Nat.zero_le _, Nat.sub_le _ _, HN, hide (by rw [unhide HO]; rfl), rfl, rfl, rfl, hide (St.Done.nil 20), HW0⟩
  case round =>
    obtain ⟨a, nn, dk, od, oo, dn, rfl, rfl, haN, hg1, H1, H2, H3, H4, H5, H6, H7⟩ := hrel
    have hool : oo.length = N - a := by
      have h1 := congrArg List.length (unhide H3)
      have h2 := unhide H5
      have h3 := unhide HOL
      rw [List.length_append] at h1
      omega
    have h4 := unhide H4
    by_cases hlt : a + 20 ≤ N
    · have hlt2 : (a : Int) + 20 ≤ (N : Int) := by omega
      have l1 : (oo.take 20).length = 20 := by rw [List.length_take]; omega
      have hc := HIN.out dn (oo.take 20) (oo.drop 20) dk nn wr (unhide H7) (unhide H1) (by rw [List.take_append_drop]; exact unhide H2) (a : Int) ((a : Int) + 20) (by omega) (by omega)
      have HC := hide hc
      have F3 := hide (show o = (od ++ oo.take 20) ++ oo.drop 20 by rw [List.append_assoc, List.take_append_drop]; exact unhide H3)
      have F4 := hide (show (dn ++ St.isort (ltOf cf) (oo.take 20)).length = a + 20 by rw [List.length_append, St.isort_length]; omega)
      have F5 := hide (show (od ++ oo.take 20).length = a + 20 by rw [List.length_append]; have := unhide H5; omega)
      have F6 := hide ((unhide H6).step l1)
      have ha2 : ((a : Int) + 20) = ((a + 20 : Nat) : Int) := by omega
      have HA2 := hide ha2
      have hw20 : IntKind.i64.wrap ((a : Int) + 20 + 20) = (a : Int) + 20 + 20 := IntWalk.i64_in _ (by omega)
      clear hc hool h4 l1 ha2
      go_wp2_with (go_at_call 33; refine (unhide HC).mono ?_; rintro e w1 ⟨rfl, n1, d1, k1, k2, k3⟩; have K1 := hide k1; have K2 := hide k2; have K3 := hide k3; clear k1 k2 k3)
      go_roundg (gk - 20)
      case measure => omega
      case rel =>
        exact ⟨a + 20, n1, d1, _, _, _, by go_num, by congr 1, by omega, by omega, K1, hide (by rw [unhide K2, List.append_assoc]), F3, F4, F5, F6, K3⟩
    · have hlt2 : (N : Int) < (a : Int) + 20 := by omega
      have hc := HIN.out dn oo [] dk nn wr (unhide H7) (unhide H1) (by rw [List.append_nil]; exact unhide H2) (a : Int) (N : Int) (by omega) (by omega)
      have HC := hide hc
      have hbk := (unhide H6) oo _ (St.Blk.last oo (by omega))
      rw [← unhide H3] at hbk
      have HBK := hide hbk
      clear hc hbk hool h4
      go_wp2_with (go_at_call 33; refine (unhide HC).mono ?_; rintro e w1 ⟨rfl, n1, d1, k1, k2, k3⟩; have K1 := hide k1; have K2 := hide k2; have K3 := hide k3; clear k1 k2 k3)
      have KB := hide (show St.Blk (ltOf cf) 20 o d1.toList by
        have h := unhide HBK
        have h2 := unhide K2
        rw [List.append_nil] at h2
        rw [h2]; exact h)
      clear HBK K2 H1 H2 H3 H4 H5 H6 H7 HC HW0
      go_loopg [6] N (fun g1 s6 wx => ∃ (bs nn : Nat) (dk : Array Z), s6 = .int .i64 (bs : Int) ∧ 20 ≤ bs ∧ bs ≤ 2 * N + 20 ∧ N - bs ≤ g1 ∧ Hid (dk.size = N) ∧ Hid (St.Blk (ltOf cf) bs o dk.toList) ∧ Hid (wx = (putRow encI w blk off dk).drewN nn))
      case atStart => exact ⟨20, n1, d1, by go_num, Nat.le_refl _, by omega, by omega, K1, KB, K3⟩
      case round =>
        obtain ⟨bs, n2, d2, rfl, hb1, hb2, hg2, J1, J2, J3⟩ := hrel
        by_cases hbN : bs < N
        rotate_left
        · have hbN2 : (N : Int) ≤ (bs : Int) := by omega
          have hfin := (unhide J2).small (by have := unhide HOL; omega)
          have HFIN := hide hfin
          clear hfin
          go_wp2
          go_end0
          exact ⟨rfl, n2, d2, unhide J1, unhide HFIN, unhide J3⟩
        have hbN2 : (bs : Int) < (N : Int) := by omega
        have hw2 : IntKind.i64.wrap (2 * (bs : Int)) = 2 * (bs : Int) := IntWalk.i64_in _ (by omega)
        have hw2' : IntKind.i64.wrap ((bs : Int) * 2) = (bs : Int) * 2 := IntWalk.i64_in _ (by omega)
        go_wp2
        go_loopg [7, 8] N (fun g3 s7 s8 wx => ∃ (a nn : Nat) (dk : Array Z) (od oo dn ll : List Z), s7 = .int .i64 (a : Int) ∧ s8 = .int .i64 ((a : Int) + 2 * (bs : Int)) ∧ a ≤ N ∧ N - a ≤ g3 ∧ Hid (dk.size = N) ∧ Hid (dk.toList = dn ++ ll) ∧ Hid (o = od ++ oo) ∧ Hid (dn.length = a) ∧ Hid (od.length = a) ∧ Hid (St.Done (ltOf cf) (2 * bs) od dn) ∧ Hid (St.Blk (ltOf cf) bs oo ll) ∧ Hid (wx = (putRow encI w blk off dk).drewN nn))
        case atStart => exact ⟨0, n2, d2, [], o, [], d2.toList, by go_num, by congr 1; omega, Nat.zero_le _, Nat.sub_le _ _, J1, hide rfl, rfl, rfl, rfl, hide (St.Done.nil _), J2, J3⟩
        case round =>
          obtain ⟨a, nn, dk, od, oo, dn, ll, rfl, rfl, haN, hg3, H1, H2, H3, H4, H5, H6, H6b, H7⟩ := hrel
          have hool : oo.length = N - a := by
            have h1 := congrArg List.length (unhide H3)
            have h2 := unhide H5
            have h3 := unhide HOL
            rw [List.length_append] at h1
            omega
          have h4 := unhide H4
          have hwa : IntKind.i64.wrap ((a : Int) + (bs : Int)) = (a : Int) + (bs : Int) := IntWalk.i64_in _ (by omega)
          by_cases hlt : a + 2 * bs ≤ N
          · have hlt2 : (a : Int) + 2 * (bs : Int) ≤ (N : Int) := by omega
            obtain ⟨o1, o2, o3, l3, he, q1, q2, q3, q4⟩ := (unhide H6b).two (by omega) (by omega)
            have hc := HSY.out dn (St.isort (ltOf cf) o1) (St.isort (ltOf cf) o2) l3 dk nn wr (unhide H7) (unhide H1) (by rw [unhide H2, q3]) (St.isort_sorted (unhide HWO) o1) (St.isort_sorted (unhide HWO) o2)
              (by rw [St.isort_length]; omega) (by rw [St.isort_length]; omega) (by rw [St.isort_length, St.isort_length]; omega) (a : Int) ((a : Int) + (bs : Int)) ((a : Int) + 2 * (bs : Int)) (by omega) (by rw [St.isort_length]; omega) (by rw [St.isort_length, St.isort_length]; omega)
            rw [← St.isort_append (unhide HWO)] at hc
            have HC := hide hc
            have l12 : (o1 ++ o2).length = 2 * bs := by rw [List.length_append]; omega
            have F3 := hide (show o = (od ++ (o1 ++ o2)) ++ o3 by rw [unhide H3, he]; simp)
            have F4 := hide (show (dn ++ St.isort (ltOf cf) (o1 ++ o2)).length = a + 2 * bs by rw [List.length_append, St.isort_length]; omega)
            have F5 := hide (show (od ++ (o1 ++ o2)).length = a + 2 * bs by rw [List.length_append]; have := unhide H5; omega)
            have F6 := hide ((unhide H6).step l12)
            have F7 := hide q4
            have hwb : IntKind.i64.wrap ((a : Int) + 2 * (bs : Int) + 2 * (bs : Int)) = (a : Int) + 2 * (bs : Int) + 2 * (bs : Int) := IntWalk.i64_in _ (by omega)
            clear hc hool h4 l12 he q1 q2 q3 q4
            go_wp2_with (go_at_call 34; refine (unhide HC).mono ?_; rintro e w1 ⟨rfl, n3, d3, k1, k2, k3⟩; have L1 := hide k1; have L2 := hide k2; have L3 := hide k3; clear k1 k2 k3)
            go_roundg (gk - 2 * bs)
            case measure => omega
            case rel =>
              exact ⟨a + 2 * bs, n3, d3, _, _, _, _, by congr 1, by congr 1, by omega, by omega, L1, hide (by rw [unhide L2, List.append_assoc]), F3, F4, F5, F6, F7, L3⟩
          · have hlt2 : (N : Int) < (a : Int) + 2 * (bs : Int) := by omega
            by_cases hm : a + bs < N
            · have hm2 : (a : Int) + (bs : Int) < (N : Int) := by omega
              obtain ⟨o1, o2, he, q1, q2, q3⟩ := (unhide H6b).more (by omega) (by omega)
              have hol2 : oo.length = o1.length + o2.length := by rw [he, List.length_append]
              have hc := HSY.out dn (St.isort (ltOf cf) o1) (St.isort (ltOf cf) o2) [] dk nn wr (unhide H7) (unhide H1) (by rw [unhide H2, q3, List.append_nil]) (St.isort_sorted (unhide HWO) o1) (St.isort_sorted (unhide HWO) o2)
                (by rw [St.isort_length]; omega) (by rw [St.isort_length]; omega) (by rw [St.isort_length, St.isort_length]; omega) (a : Int) ((a : Int) + (bs : Int)) (N : Int) (by omega) (by rw [St.isort_length]; omega) (by rw [St.isort_length, St.isort_length]; omega)
              rw [← St.isort_append (unhide HWO), ← he, List.append_nil] at hc
              have HC := hide hc
              have hbk := (unhide H6) oo _ (St.Blk.last oo (by omega))
              rw [← unhide H3] at hbk
              have HBK := hide hbk
              clear hc hbk hool h4 hol2 he q1 q2 q3
              go_wp2_with (go_at_call 34; refine (unhide HC).mono ?_; rintro e w1 ⟨rfl, n3, d3, k1, k2, k3⟩; have L1 := hide k1; have L2 := hide k2; have L3 := hide k3; clear k1 k2 k3)
              go_roundg (N - 2 * bs)
              case measure => omega
              case rel => exact ⟨2 * bs, n3, d3, by congr 1; omega, by omega, by omega, Nat.le_refl _, L1, hide (by rw [unhide L2]; exact unhide HBK), L3⟩
            · have hm2 : (N : Int) ≤ (a : Int) + (bs : Int) := by omega
              have hsm := (unhide H6b).small (by omega)
              have hbk := (unhide H6) oo _ (St.Blk.last oo (by omega))
              rw [← unhide H3, ← hsm, ← unhide H2] at hbk
              have HBK := hide hbk
              clear hbk hool h4 hsm
              go_wp2
              go_roundg (N - 2 * bs)
              case measure => omega
              case rel => exact ⟨2 * bs, nn, dk, by congr 1; omega, by omega, by omega, Nat.le_refl _, H1, HBK, H7⟩
set_option maxRecDepth 1000000 in
/-- slices.SortStableFunc, at ints: the stable sort -/
theorem SortStable_any (cf : Z → Z → Int) (hwo : St.Wo (ltOf cf)) (g : Nat) (cb : Array Value) (w : World) (blk off cap N : Nat) (d0 : Array Z) (hH : Holds encI w blk off d0) (hN : d0.size = N) (hsz : N ≤ 1099511627776)
    (eg : ∀ args w, (callFunc g args).run Try.prog w = .ok (.enter g args) w) (hcmp : CmpOk g cb cf w blk off N) (hcr : ∀ (X : Array Z) (m : Nat), X.size = N → CmpReads Try.prog g cb encI cf blk off N ((putRow encI w blk off X).drewN m)) :
    Calls Try.prog 22 #[.slice (some ⟨blk, off, none⟩) N cap, .func (.func g) #[] cb] w fun e w' =>
      e = .returned (.tuple #[]) ∧ ∃ n' d', d'.size = N ∧ d'.toList = St.isort (ltOf cf) d0.toList ∧ w' = (putRow encI w blk off d').drewN n' := by
  have hc := stable_any cf hwo g cb w blk off cap N d0 hH hN hsz eg hcmp hcr
  have HC := hide hc
  clear hc hwo hH hN hcmp hcr
  go_enter Try.func22, Try.ntmps22
  go_wp2_with (go_at_call 28; refine (unhide HC).mono ?_; rintro e w1 ⟨rfl, n3, d3, k1, k2, k3⟩; have L1 := hide k1; have L2 := hide k2; have L3 := hide k3; clear k1 k2 k3)
  go_end0
  exact ⟨rfl, n3, d3, unhide L1, unhide L2, unhide L3⟩
end Go.Proofs.Ytbnheebblicgkaa
