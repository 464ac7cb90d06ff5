/- walks of slices.symMergeCmpFunc, at ints -/
import Derived.Test.YtbnheebblicgkaaWSta
namespace Go.Proofs.Ytbnheebblicgkaa
set_option linter.unusedVariables false
set_option linter.unusedSimpArgs false
open Go.Shelf Go.RowKit Go.Lib Go.Sort
/-- what is asked of 'cmp' -/
def CmpOk (g : Nat) (cb : Array Value) (cf : Z → Z → Int) (w : World) (blk off N : Nat) : Prop :=
  ∀ (X : Array Z) (x y : Z), X.size = N → ∀ m n, Calls Try.prog g (#[.int .i64 x.1, .int .i64 y.1] ++ cb) (((putRow encI w blk off X).drewN m).drewN n) fun e w' => e = .returned (.int .i64 (cf x y)) ∧ ∃ q, w' = (((putRow encI w blk off X).drewN m).drewN n).drewN q
theorem half (i j : Nat) : ((i : Int) + (j : Int)) / 2 = (((i + j) / 2 : Nat) : Int) := by omega
set_option maxHeartbeats 4000000 in
set_option maxRecDepth 1000000 in
theorem symMerge_1 (cf : Z → Z → Int) (hwo : St.Wo (ltOf cf)) (g : Nat) (cb : Array Value) (w : World) (blk off cap N : Nat) (d0 : Array Z) (hH : Holds encI w blk off d0) (hN : d0.size = N) (hsz : N < 4611686018427387904)
    (eg : ∀ args w, (callFunc g args).run Try.prog w = .ok (.enter g args) w) (hcmp : CmpOk g cb cf w blk off N)
    (p l2 q : List Z) (x : Z) (d : Array Z) (n : Nat) (W : World) (hW : W = (putRow encI w blk off d).drewN n) (hs : d.size = N)
    (hd : d.toList = p ++ x :: (l2 ++ q)) (s2 : St.Sorted (ltOf cf) l2) (a m b : Int) (ha : a = (p.length : Int)) (hm : m = ((p.length + 1 : Nat) : Int)) (hb : b = ((p.length + 1 + l2.length : Nat) : Int)) :
    Calls Try.prog 34 #[.slice (some ⟨blk, off, none⟩) N cap, .int .i64 a, .int .i64 m, .int .i64 b, .func (.func g) #[] cb] W fun e w' =>
      e = .returned (.tuple #[]) ∧ ∃ n' d', d'.size = N ∧ d'.toList = p ++ St.merge (ltOf cf) [x] l2 ++ q ∧ w' = (putRow encI w blk off d').drewN n' := by
  have hmx : Try.prog.follows .mixedOrders = true := by kernel_rfl
  obtain ⟨A, hA⟩ : ∃ A, p.length = A := ⟨_, rfl⟩
  obtain ⟨L, hL⟩ : ∃ L, l2.length = L := ⟨_, rfl⟩
  have hkb : A + 1 + L + q.length = N := by
    have := congrArg List.length hd
    simp only [List.length_append, List.length_cons] at this
    rw [← hs, ← Array.length_toList, this]; omega
  rw [hA] at ha hm hb
  rw [hL] at hb
  have hb' : b = ((A : Int) + 1 + (L : Int)) := by omega
  have hm' : m = ((A : Int) + 1) := by omega
  subst ha hb' hm'
  clear hm hb
  have e0 : (A : Int) + 1 - (A : Int) = 1 := by omega
  have hAN : A + 1 + L ≤ N := by omega
  have HC : Aside _ := hcmp
  have HH := hide hH
  have HN := hide hN
  have HS := hide hs
  have HW := hide hW
  have HA := hide hA
  have HL := hide hL
  have HD := hide hd
  have HS2 := hide s2
  have HWO := hide hwo
  clear hcmp hH hN hs hW hA hL hd s2 hwo hkb
  go_enter Try.func34, Try.ntmps34
  go_wp2
  go_loopg [10, 11] (L + 1) (fun g1 s10 s11 wx => ∃ (i j nn : Nat), s10 = .int .i64 (i : Int) ∧ s11 = .int .i64 (j : Int) ∧ A + 1 ≤ i ∧ i ≤ j ∧ j ≤ A + 1 + L ∧ j - i ≤ g1 ∧ Hid (i - (A + 1) = 0 ∨ ∃ z, l2[i - (A + 1) - 1]? = some z ∧ ltOf cf z x = true) ∧ Hid (l2.length ≤ j - (A + 1) ∨ ∃ z, l2[j - (A + 1)]? = some z ∧ ltOf cf z x = false) ∧ Hid (wx = (putRow encI w blk off d).drewN nn))
  case atStart => exact ⟨A + 1, A + 1 + L, n, by go_num, by congr 1, Nat.le_refl _, by omega, Nat.le_refl _, by omega, hide (.inl (by omega)), hide (.inl (by rw [unhide HL]; omega)), HW⟩
  case round =>
    obtain ⟨i, j, nn, rfl, rfl, hi1, hij, hjB, hg1, HI, HJ, HWK⟩ := hrel
    by_cases hlt : i < j
    · have hlt2 : (i : Int) < (j : Int) := by omega
      have hjB2 : (j : Int) ≤ (N : Int) := by omega
      have hwij : IntKind.i64.wrap ((i : Int) + (j : Int)) = (i : Int) + (j : Int) := IntWalk.i64_in _ (by omega)
      go_wp2
      obtain ⟨h, hh⟩ : ∃ h, (i + j) / 2 = h := ⟨_, rfl⟩
      have hmid : ((i : Int) + (j : Int)) / 2 = (h : Int) := by omega
      rw [hmid]
      have hih : i ≤ h := by omega
      have hhj : h < j := by omega
      have hhj2 : (h : Int) < (N : Int) := by omega
      have hAN2 : (A : Int) < (N : Int) := by omega
      have hwh : IntKind.i64.wrap ((h : Int) + 1) = (h : Int) + 1 := IntWalk.i64_in _ (by omega)
      clear hh hmid hwij
      obtain ⟨z, hz⟩ : ∃ z, l2[h - (A + 1)]? = some z := ⟨_, List.getElem?_eq_getElem (by rw [unhide HL]; omega)⟩
      have hHk := holds_putRow encI w blk off d0 d (unhide HH) (by rw [unhide HS, unhide HN])
      have hzd : d[h]! = z := St.get_list d _ _ (by
        rw [unhide HD, List.getElem?_append_right (by rw [unhide HA]; omega), unhide HA, List.getElem?_cons, if_neg (by omega), List.getElem?_append_left (by rw [unhide HL]; omega), show h - A - 1 = h - (A + 1) from by omega]
        exact hz)
      have hxd : d[A]! = x := St.get_list d _ _ (by rw [unhide HD, ← unhide HA]; exact St.get_at _ _ _)
      have hsz2 : d.size = N := unhide HS
      obtain ⟨cx, fx⟩ := hHk A (by omega)
      obtain ⟨cz, fz⟩ := hHk h (by omega)
      rw [hxd] at cx
      rw [hzd] at cz
      have cx' : ((putRow encI w blk off d).drewN nn).cell? ⟨blk, off + A, none⟩ = some (.int .i64 x.1) := cx
      have cz' : ((putRow encI w blk off d).drewN nn).cell? ⟨blk, off + h, none⟩ = some (.int .i64 z.1) := cz
      have hc := HC.out d z x hsz2 nn
      rw [← unhide HWK] at cx' cz' hc
      have HZ := hide hz
      clear hz hHk hzd hxd hsz2 cx fx cz fz
      by_cases hlv : cf z x < 0
      · go_quiet_o (first | (go_at_fn g; refine Calls.quiet_of (hc _)))
        have HW2 : Hid (wr.drewN nq = (putRow encI w blk off d).drewN (nn + nq)) := hide (by rw [unhide HWK, World.drewN_drewN])
        clear hc cx' cz'
        generalize wr.drewN nq = wq2 at HW2 ⊢
        go_wp2
        go_roundg (j - (h + 1))
        case measure => omega
        case rel => exact ⟨h + 1, j, nn + nq, by go_num, rfl, by omega, by omega, hjB, Nat.le_refl _, hide (.inr ⟨z, by rw [show h + 1 - (A + 1) - 1 = h - (A + 1) from by omega]; exact unhide HZ, decide_eq_true hlv⟩), HJ, HW2⟩
      · go_quiet_o (first | (go_at_fn g; refine Calls.quiet_of (hc _)))
        have HW2 : Hid (wr.drewN nq = (putRow encI w blk off d).drewN (nn + nq)) := hide (by rw [unhide HWK, World.drewN_drewN])
        clear hc cx' cz'
        generalize wr.drewN nq = wq2 at HW2 ⊢
        go_wp2
        go_roundg (h - i)
        case measure => omega
        case rel => exact ⟨i, h, nn + nq, rfl, rfl, hi1, hih, by omega, Nat.le_refl _, HI, hide (.inr ⟨z, unhide HZ, decide_eq_false (by omega)⟩), HW2⟩
    · have hji : i = j := by omega
      subst hji
      have hmg := St.merge_one_left (unhide HWO) (unhide HS2) (unhide HI) (unhide HJ)
      obtain ⟨K, hK⟩ : ∃ K, i - (A + 1) = K := ⟨_, rfl⟩
      rw [hK] at hmg
      obtain rfl : i = A + 1 + K := by omega
      have hKL : K ≤ L := by omega
      have HMG := hide hmg
      clear hmg HI HJ hK hij hi1 hjB hg1 hlt
      have hk1 : ((A + 1 + K : Nat) : Int) = (A : Int) + 1 + (K : Int) := by omega
      rw [hk1]
      clear hk1
      have wk : IntKind.i64.wrap ((A : Int) + 1 + (K : Int) - 1) = (A : Int) + 1 + (K : Int) - 1 := IntWalk.i64_in _ (by omega)
      go_wp2
      go_loopg [13] K (fun g1 s13 wx => ∃ (t n3 : Nat) (dk : Array Z), t + g1 = K ∧ s13 = .int .i64 ((A + t : Nat) : Int) ∧ Hid (dk.size = N) ∧ Hid (dk.toList = p ++ (l2.take t ++ x :: l2.drop t) ++ q) ∧ Hid (wx = (putRow encI w blk off dk).drewN n3))
      case atStart => exact ⟨0, nn, d, by omega, by congr 1, HS, hide (by rw [unhide HD]; simp), HWK⟩
      case round =>
        obtain ⟨t, n3, dk, htg, rfl, HSK, HDK, HWK3⟩ := hrel
        have hat : ((A + t : Nat) : Int) = (A : Int) + (t : Int) := by omega
        rw [hat]
        clear hat
        cases gk with
        | zero =>
          obtain rfl : t = K := by omega
          have e1 : ¬ (A : Int) + (t : Int) < (A : Int) + 1 + (t : Int) - 1 := by omega
          go_wp2
          refine bodyPost_ret (results_none rfl _ _ _) rfl ?_
          exact ⟨rfl, n3, dk, unhide HSK, by rw [unhide HDK, unhide HMG]; simp, unhide HWK3⟩
        | succ g2 =>
          have e1 : (A : Int) + (t : Int) < (A : Int) + 1 + (K : Int) - 1 := by omega
          have htl : t < l2.length := by rw [unhide HL]; omega
          obtain ⟨z, hz⟩ : ∃ z, l2[t] = z := ⟨_, rfl⟩
          have hdr : l2.drop t = z :: l2.drop (t + 1) := by rw [← hz]; exact List.drop_eq_getElem_cons htl
          have htk : l2.take (t + 1) = l2.take t ++ [z] := by rw [← hz]; exact List.take_succ_eq_append_getElem htl
          have hdl : dk.toList = (p ++ l2.take t) ++ x :: ([] ++ z :: (l2.drop (t + 1) ++ q)) := by rw [unhide HDK, hdr]; simp
          have hul : (p ++ l2.take t).length = A + t := by rw [List.length_append, unhide HA, List.length_take]; omega
          have hsw := St.swp_list dk _ _ _ _ _ (A + t) (A + t + 1) hdl hul.symm (by rw [hul]; rfl)
          have hx1 : dk[A + t]! = x := St.get_list dk _ _ (by rw [hdl, ← hul]; exact St.get_at _ _ _)
          have hz1 : dk[A + t + 1]! = z := St.get_list dk _ _ (by
            rw [show dk.toList = ((p ++ l2.take t) ++ [x]) ++ z :: (l2.drop (t + 1) ++ q) from by rw [hdl]; simp, show A + t + 1 = ((p ++ l2.take t) ++ [x]).length from by rw [List.length_append, hul]; rfl]; exact St.get_at _ _ _)
          have hHk := holds_putRow encI w blk off d0 dk (unhide HH) (by rw [unhide HSK, unhide HN])
          have hsk2 : dk.size = N := unhide HSK
          obtain ⟨cx, fx⟩ := hHk (A + t) (by omega)
          obtain ⟨cz, fz⟩ := hHk (A + t + 1) (by omega)
          have hsk := swap_worldC encI w blk off dk n3 (A + t) (A + t + 1) (by omega) (by omega)
          rw [hx1] at cx hsk
          rw [hz1] at cz hsk
          have cx' : ((putRow encI w blk off dk).drewN n3).cell? ⟨blk, off + (A + t), none⟩ = some (.int .i64 x.1) := cx
          have cz' : ((putRow encI w blk off dk).drewN n3).cell? ⟨blk, off + (A + t + 1), none⟩ = some (.int .i64 z.1) := cz
          have fx' : ((putRow encI w blk off dk).drewN n3).frozen? ⟨blk, off + (A + t), none⟩ = false := fx
          have fz' : ((putRow encI w blk off dk).drewN n3).frozen? ⟨blk, off + (A + t + 1), none⟩ = false := fz
          rw [← unhide HWK3] at cx' cz' fx' fz' hsk
          have HSW := hide hsk
          have HL2 := hide (show (swp dk (A + t) (A + t + 1)).toList = p ++ (l2.take (t + 1) ++ x :: l2.drop (t + 1)) ++ q by rw [hsw, htk]; simp)
          have HSS := hide (show (swp dk (A + t) (A + t + 1)).size = N by rw [size_swp]; exact hsk2)
          obtain ⟨ia, hia⟩ : ∃ ia, ia = A + t := ⟨_, rfl⟩
          obtain ⟨ib, hib⟩ : ∃ ib, ib = A + t + 1 := ⟨_, rfl⟩
          have hwb : IntKind.i64.wrap ((A : Int) + (t : Int) + 1) = (A : Int) + (t : Int) + 1 := IntWalk.i64_in _ (by omega)
          have ea : ((A : Int) + (t : Int)).toNat = ia := by omega
          have eb : ((A : Int) + (t : Int) + 1).toNat = ib := by omega
          have pa : (0 : Int) ≤ (A : Int) + (t : Int) := by omega
          have pb : (0 : Int) ≤ (A : Int) + (t : Int) + 1 := by omega
          have za : (A : Int) + (t : Int) < (N : Int) := by omega
          have zb : (A : Int) + (t : Int) + 1 < (N : Int) := by omega
          have hne : ia ≠ ib := by omega
          rw [← hib] at cz' fz' HSW HL2 HSS
          rw [← hia] at cx' fx' HSW HL2 HSS
          have HIA := hide hia
          have HIB := hide hib
          clear hsk hsw hx1 hz1 cx cz fx fz hHk HDK HSK hia hib hdr htk hdl hul hz htl hsk2
          go_wp2
          go_big_region_o
          all_goals go_wp2
          go_roundg g2
          case measure => omega
          case rel =>
            exact ⟨t + 1, n3 + 1, swp dk ia ib, by omega, by congr 1, HSS, HL2, hide (unhide HSW)⟩
set_option maxHeartbeats 4000000 in
set_option maxRecDepth 1000000 in
theorem symMerge_2 (cf : Z → Z → Int) (hwo : St.Wo (ltOf cf)) (g : Nat) (cb : Array Value) (w : World) (blk off cap N : Nat) (d0 : Array Z) (hH : Holds encI w blk off d0) (hN : d0.size = N) (hsz : N < 4611686018427387904)
    (eg : ∀ args w, (callFunc g args).run Try.prog w = .ok (.enter g args) w) (hcmp : CmpOk g cb cf w blk off N)
    (p l1 q : List Z) (y : Z) (d : Array Z) (n : Nat) (W : World) (hW : W = (putRow encI w blk off d).drewN n) (hs : d.size = N)
    (hd : d.toList = p ++ (l1 ++ y :: q)) (s1 : St.Sorted (ltOf cf) l1) (h2 : 2 ≤ l1.length) (a m b : Int) (ha : a = (p.length : Int)) (hm : m = ((p.length + l1.length : Nat) : Int)) (hb : b = ((p.length + l1.length + 1 : Nat) : Int)) :
    Calls Try.prog 34 #[.slice (some ⟨blk, off, none⟩) N cap, .int .i64 a, .int .i64 m, .int .i64 b, .func (.func g) #[] cb] W fun e w' =>
      e = .returned (.tuple #[]) ∧ ∃ n' d', d'.size = N ∧ d'.toList = p ++ St.merge (ltOf cf) l1 [y] ++ q ∧ w' = (putRow encI w blk off d').drewN n' := by
  have hmx : Try.prog.follows .mixedOrders = true := by kernel_rfl
  obtain ⟨A, hA⟩ : ∃ A, p.length = A := ⟨_, rfl⟩
  obtain ⟨L, hL⟩ : ∃ L, l1.length = L := ⟨_, rfl⟩
  have hkb : A + L + 1 + q.length = N := by
    have := congrArg List.length hd
    simp only [List.length_append, List.length_cons] at this
    rw [← hs, ← Array.length_toList, this]; omega
  rw [hA] at ha hm hb
  rw [hL] at hm hb h2
  have hb' : b = ((A : Int) + (L : Int) + 1) := by omega
  have hm' : m = ((A : Int) + (L : Int)) := by omega
  subst ha hb' hm'
  clear hm hb
  have w0 : IntKind.i64.wrap ((A : Int) + (L : Int) - (A : Int)) = (L : Int) := by rw [show (A : Int) + (L : Int) - (A : Int) = (L : Int) by omega]; exact IntWalk.i64_in _ (by omega)
  have e0 : (A : Int) + (L : Int) - (A : Int) = (L : Int) := by omega
  have e1 : ((L : Int) == 1) = false := by simp; omega
  have e2 : (A : Int) + (L : Int) + 1 - ((A : Int) + (L : Int)) = 1 := by omega
  have hAN : A + L + 1 ≤ N := by omega
  have HC : Aside _ := hcmp
  have HH := hide hH
  have HN := hide hN
  have HS := hide hs
  have HW := hide hW
  have HA := hide hA
  have HL := hide hL
  have HD := hide hd
  have HS1 := hide s1
  have HWO := hide hwo
  clear hcmp hH hN hs hW hA hL hd s1 hwo hkb
  go_enter Try.func34, Try.ntmps34
  go_wp2
  clear w0 e0 e1 e2
  go_loopg [14, 15] (L + 1) (fun g1 s14 s15 wx => ∃ (i j nn : Nat), s14 = .int .i64 (i : Int) ∧ s15 = .int .i64 (j : Int) ∧ A ≤ i ∧ i ≤ j ∧ j ≤ A + L ∧ j - i ≤ g1 ∧ Hid (i - A = 0 ∨ ∃ z, l1[i - A - 1]? = some z ∧ ltOf cf y z = false) ∧ Hid (l1.length ≤ j - A ∨ ∃ z, l1[j - A]? = some z ∧ ltOf cf y z = true) ∧ Hid (wx = (putRow encI w blk off d).drewN nn))
  case atStart => exact ⟨A, A + L, n, rfl, by congr 1, Nat.le_refl _, by omega, Nat.le_refl _, by omega, hide (.inl (by omega)), hide (.inl (by rw [unhide HL]; omega)), HW⟩
  case round =>
    obtain ⟨i, j, nn, rfl, rfl, hi1, hij, hjB, hg1, HI, HJ, HWK⟩ := hrel
    by_cases hlt : i < j
    · have hlt2 : (i : Int) < (j : Int) := by omega
      have hjB2 : (j : Int) ≤ (N : Int) := by omega
      have hwij : IntKind.i64.wrap ((i : Int) + (j : Int)) = (i : Int) + (j : Int) := IntWalk.i64_in _ (by omega)
      go_wp2
      obtain ⟨h, hh⟩ : ∃ h, (i + j) / 2 = h := ⟨_, rfl⟩
      have hmid : ((i : Int) + (j : Int)) / 2 = (h : Int) := by omega
      rw [hmid]
      have hih : i ≤ h := by omega
      have hhj : h < j := by omega
      have hhj2 : (h : Int) < (N : Int) := by omega
      have hAN2 : (A : Int) + (L : Int) < (N : Int) := by omega
      have hAN3 : (0 : Int) ≤ (A : Int) + (L : Int) := by omega
      have hwh : IntKind.i64.wrap ((h : Int) + 1) = (h : Int) + 1 := IntWalk.i64_in _ (by omega)
      clear hh hmid hwij
      obtain ⟨z, hz⟩ : ∃ z, l1[h - A]? = some z := ⟨_, List.getElem?_eq_getElem (by rw [unhide HL]; omega)⟩
      have hHk := holds_putRow encI w blk off d0 d (unhide HH) (by rw [unhide HS, unhide HN])
      have hzd : d[h]! = z := St.get_list d _ _ (by
        rw [unhide HD, List.getElem?_append_right (by rw [unhide HA]; omega), unhide HA, List.getElem?_append_left (by rw [unhide HL]; omega)]
        exact hz)
      have hyd : d[A + L]! = y := St.get_list d _ _ (by rw [unhide HD, ← List.append_assoc, show A + L = (p ++ l1).length from by rw [List.length_append, unhide HA, unhide HL]]; exact St.get_at _ _ _)
      have hsz2 : d.size = N := unhide HS
      obtain ⟨cx, fx⟩ := hHk (A + L) (by omega)
      obtain ⟨cz, fz⟩ := hHk h (by omega)
      rw [hyd] at cx
      rw [hzd] at cz
      have cx' : ((putRow encI w blk off d).drewN nn).cell? ⟨blk, off + (A + L), none⟩ = some (.int .i64 y.1) := cx
      have cz' : ((putRow encI w blk off d).drewN nn).cell? ⟨blk, off + h, none⟩ = some (.int .i64 z.1) := cz
      have hc := HC.out d y z hsz2 nn
      rw [← unhide HWK] at cx' cz' hc
      have HZ := hide hz
      obtain ⟨ia, hia⟩ : ∃ ia, ia = A + L := ⟨_, rfl⟩
      have ea : ((A : Int) + (L : Int)).toNat = ia := by omega
      rw [← hia] at cx'
      clear hz hHk hzd hyd hsz2 cx fx cz fz hia
      by_cases hlv : cf y z < 0
      · go_quiet_o (first | (go_at_fn g; refine Calls.quiet_of (hc _)))
        have HW2 : Hid (wr.drewN nq = (putRow encI w blk off d).drewN (nn + nq)) := hide (by rw [unhide HWK, World.drewN_drewN])
        clear hc cx' cz' ea
        generalize wr.drewN nq = wq2 at HW2 ⊢
        go_wp2
        go_roundg (h - i)
        case measure => omega
        case rel => exact ⟨i, h, nn + nq, rfl, rfl, hi1, hih, by omega, Nat.le_refl _, HI, hide (.inr ⟨z, unhide HZ, decide_eq_true hlv⟩), HW2⟩
      · go_quiet_o (first | (go_at_fn g; refine Calls.quiet_of (hc _)))
        have HW2 : Hid (wr.drewN nq = (putRow encI w blk off d).drewN (nn + nq)) := hide (by rw [unhide HWK, World.drewN_drewN])
        clear hc cx' cz' ea
        generalize wr.drewN nq = wq2 at HW2 ⊢
        go_wp2
        go_roundg (j - (h + 1))
        case measure => omega
        case rel => exact ⟨h + 1, j, nn + nq, by go_num, rfl, by omega, by omega, hjB, Nat.le_refl _, hide (.inr ⟨z, by rw [show h + 1 - A - 1 = h - A from by omega]; exact unhide HZ, decide_eq_false (by omega)⟩), HJ, HW2⟩
    · have hji : i = j := by omega
      subst hji
      have hmg := St.merge_one_right (unhide HWO) (unhide HS1) (unhide HI) (unhide HJ)
      obtain ⟨K, hK⟩ : ∃ K, i - A = K := ⟨_, rfl⟩
      rw [hK] at hmg
      obtain rfl : i = A + K := by omega
      have hKL : K ≤ L := by omega
      have HMG := hide hmg
      clear hmg HI HJ hK hij hi1 hjB hg1 hlt
      have hk1 : ((A + K : Nat) : Int) = (A : Int) + (K : Int) := by omega
      rw [hk1]
      clear hk1
      go_wp2
      go_loopg [17] (L - K) (fun g1 s17 wx => ∃ (t n3 : Nat) (dk : Array Z), t = K + g1 ∧ t ≤ L ∧ s17 = .int .i64 ((A + t : Nat) : Int) ∧ Hid (dk.size = N) ∧ Hid (dk.toList = p ++ (l1.take t ++ y :: l1.drop t) ++ q) ∧ Hid (wx = (putRow encI w blk off dk).drewN n3))
      case atStart => exact ⟨L, nn, d, by omega, Nat.le_refl _, by congr 1, HS, hide (by rw [unhide HD, List.take_of_length_le (Nat.le_of_eq (unhide HL)), List.drop_eq_nil_of_le (Nat.le_of_eq (unhide HL))]; simp), HWK⟩
      case round =>
        obtain ⟨t, n3, dk, htg, htL, rfl, HSK, HDK, HWK3⟩ := hrel
        have hat : ((A + t : Nat) : Int) = (A : Int) + (t : Int) := by omega
        rw [hat]
        clear hat
        cases gk with
        | zero =>
          have HTK := hide (show t = K by omega)
          have e1 : (A : Int) + (t : Int) ≤ (A : Int) + (K : Int) := by omega
          clear htg
          go_wp2
          refine bodyPost_ret (results_none rfl _ _ _) rfl ?_
          exact ⟨rfl, n3, dk, unhide HSK, by rw [unhide HDK, unhide HMG, unhide HTK], unhide HWK3⟩
        | succ g2 =>
          obtain ⟨t', rfl⟩ : ∃ t', t = t' + 1 := ⟨t - 1, by omega⟩
          have ht1 : ((t' + 1 : Nat) : Int) = (t' : Int) + 1 := by omega
          rw [ht1]
          clear ht1
          have e1 : (A : Int) + (K : Int) < (A : Int) + ((t' : Int) + 1) := by omega
          have htl : t' < l1.length := by rw [unhide HL]; omega
          obtain ⟨z, hz⟩ : ∃ z, l1[t'] = z := ⟨_, rfl⟩
          have hdr : l1.drop t' = z :: l1.drop (t' + 1) := by rw [← hz]; exact List.drop_eq_getElem_cons htl
          have htk : l1.take (t' + 1) = l1.take t' ++ [z] := by rw [← hz]; exact List.take_succ_eq_append_getElem htl
          have hdl : dk.toList = (p ++ l1.take t') ++ z :: ([] ++ y :: (l1.drop (t' + 1) ++ q)) := by rw [unhide HDK, htk]; simp
          have hul : (p ++ l1.take t').length = A + t' := by rw [List.length_append, unhide HA, List.length_take]; omega
          have hsw := St.swp_list' dk _ _ _ _ _ (A + t') (A + t' + 1) hdl hul.symm (by rw [hul]; rfl)
          have hz1 : dk[A + t']! = z := St.get_list dk _ _ (by rw [hdl, ← hul]; exact St.get_at _ _ _)
          have hx1 : dk[A + t' + 1]! = y := St.get_list dk _ _ (by
            rw [show dk.toList = ((p ++ l1.take t') ++ [z]) ++ y :: (l1.drop (t' + 1) ++ q) from by rw [hdl]; simp, show A + t' + 1 = ((p ++ l1.take t') ++ [z]).length from by rw [List.length_append, hul]; rfl]; exact St.get_at _ _ _)
          have hHk := holds_putRow encI w blk off d0 dk (unhide HH) (by rw [unhide HSK, unhide HN])
          have hsk2 : dk.size = N := unhide HSK
          obtain ⟨cx, fx⟩ := hHk (A + t' + 1) (by omega)
          obtain ⟨cz, fz⟩ := hHk (A + t') (by omega)
          have hsk := swap_worldC encI w blk off dk n3 (A + t' + 1) (A + t') (by omega) (by omega)
          rw [hx1] at cx hsk
          rw [hz1] at cz hsk
          have cx' : ((putRow encI w blk off dk).drewN n3).cell? ⟨blk, off + (A + t' + 1), none⟩ = some (.int .i64 y.1) := cx
          have cz' : ((putRow encI w blk off dk).drewN n3).cell? ⟨blk, off + (A + t'), none⟩ = some (.int .i64 z.1) := cz
          have fx' : ((putRow encI w blk off dk).drewN n3).frozen? ⟨blk, off + (A + t' + 1), none⟩ = false := fx
          have fz' : ((putRow encI w blk off dk).drewN n3).frozen? ⟨blk, off + (A + t'), none⟩ = false := fz
          rw [← unhide HWK3] at cx' cz' fx' fz' hsk
          have HSW := hide hsk
          have HL2 := hide (show (swp dk (A + t' + 1) (A + t')).toList = p ++ (l1.take t' ++ y :: l1.drop t') ++ q by rw [hsw, hdr]; simp)
          have HSS := hide (show (swp dk (A + t' + 1) (A + t')).size = N by rw [size_swp]; exact hsk2)
          obtain ⟨ia, hia⟩ : ∃ ia, ia = A + t' + 1 := ⟨_, rfl⟩
          obtain ⟨ib, hib⟩ : ∃ ib, ib = A + t' := ⟨_, rfl⟩
          have hw1 : IntKind.i64.wrap ((A : Int) + ((t' : Int) + 1) - 1) = (A : Int) + (t' : Int) := by rw [show (A : Int) + ((t' : Int) + 1) - 1 = (A : Int) + (t' : Int) by omega]; exact IntWalk.i64_in _ (by omega)
          have ew : (A : Int) + ((t' : Int) + 1) - 1 = (A : Int) + (t' : Int) := by omega
          have ea : ((A : Int) + ((t' : Int) + 1)).toNat = ia := by omega
          have eb : ((A : Int) + (t' : Int)).toNat = ib := by omega
          have pa : (0 : Int) ≤ (A : Int) + ((t' : Int) + 1) := by omega
          have pb : (0 : Int) ≤ (A : Int) + (t' : Int) := by omega
          have za : (A : Int) + ((t' : Int) + 1) < (N : Int) := by omega
          have zb : (A : Int) + (t' : Int) < (N : Int) := by omega
          have hne : ia ≠ ib := by omega
          rw [← hia] at cx' fx' HSW HL2 HSS
          rw [← hib] at cz' fz' HSW HL2 HSS
          have HIA := hide hia
          have HIB := hide hib
          clear hsk hsw hx1 hz1 cx cz fx fz hHk HDK HSK hia hib hdr htk hdl hul hz htl hsk2
          go_wp2
          go_big_region_o
          all_goals go_wp2
          go_roundg g2
          case measure => omega
          case rel =>
            exact ⟨t', n3 + 1, swp dk ia ib, by omega, by omega, by congr 1, HSS, HL2, hide (unhide HSW)⟩
end Go.Proofs.Ytbnheebblicgkaa
