/- walks of slices.swapRangeCmpFunc and rotateCmpFunc, at ints -/
import Derived.Test.YtbnheebblicgkaaPlainSt2
import Derived.Shelf.SlSortCmp.Insertion
import Derived.Test.YtbnheebblicgkaaProg
namespace Go.Proofs.Ytbnheebblicgkaa
set_option linter.unusedVariables false
set_option linter.unusedSimpArgs false
open Go.Shelf Go.RowKit Go.Lib Go.Sort
/-- an int as Go has it -/
abbrev Z := { x : Int // (Lit.int .i64 x).wf = true }
instance : Inhabited Z := ⟨⟨0, by decide⟩⟩
def encI (z : Z) : Value := .int .i64 z.1
theorem swapR_step (p x r y q : List Z) (k i : Nat) (hx : x.length = k) (hy : y.length = k) (hi : i < k) (d : Array Z) (a b : Nat) (ha : a = p.length) (hb : b = a + k + r.length)
    (hd : d.toList = p ++ (y.take i ++ x.drop i) ++ r ++ (x.take i ++ y.drop i) ++ q) :
    ∃ xi yi, d[a + i]! = xi ∧ d[b + i]! = yi ∧ a + i < d.size ∧ b + i < d.size ∧ (swp d (a + i) (b + i)).toList = p ++ (y.take (i + 1) ++ x.drop (i + 1)) ++ r ++ (x.take (i + 1) ++ y.drop (i + 1)) ++ q := by
  have hxd : x.drop i = x[i] :: x.drop (i + 1) := List.drop_eq_getElem_cons (by omega)
  have hyd : y.drop i = y[i] :: y.drop (i + 1) := List.drop_eq_getElem_cons (by omega)
  have hxt : x.take (i + 1) = x.take i ++ [x[i]] := List.take_succ_eq_append_getElem (by omega)
  have hyt : y.take (i + 1) = y.take i ++ [y[i]] := List.take_succ_eq_append_getElem (by omega)
  have h1 : d.toList = (p ++ y.take i) ++ x[i] :: ((x.drop (i + 1) ++ r ++ x.take i) ++ y[i] :: (y.drop (i + 1) ++ q)) := by rw [hd, hxd, hyd]; simp only [List.append_assoc, List.cons_append, List.nil_append]
  have l1 : (p ++ y.take i).length = a + i := by rw [List.length_append, List.length_take]; omega
  have l2 : b + i = (p ++ y.take i).length + 1 + (x.drop (i + 1) ++ r ++ x.take i).length := by
    rw [l1]; simp only [List.length_append, List.length_drop, List.length_take]; omega
  have hsz : d.size = d.toList.length := by simp
  have h2 : d.toList = ((p ++ y.take i) ++ x[i] :: (x.drop (i + 1) ++ r ++ x.take i)) ++ y[i] :: (y.drop (i + 1) ++ q) := by rw [h1]; simp
  have l3 : ((p ++ y.take i) ++ x[i] :: (x.drop (i + 1) ++ r ++ x.take i)).length = b + i := by rw [l2]; simp only [List.length_append, List.length_cons]; omega
  refine ⟨x[i], y[i], St.get_list d _ _ (by rw [h1, ← l1]; exact St.get_at _ _ _), St.get_list d _ _ (by rw [h2, ← l3]; exact St.get_at _ _ _), ?_, ?_, ?_⟩
  · rw [hsz, h1, List.length_append, l1, List.length_cons]; omega
  · rw [hsz, h2, List.length_append, l3, List.length_cons]; omega
  · rw [St.swp_list d _ _ _ _ _ (a + i) (b + i) h1 l1.symm l2, hxt, hyt]
    simp only [List.append_assoc, List.cons_append, List.nil_append]
set_option maxHeartbeats 4000000 in
set_option maxRecDepth 1000000 in
theorem swapRange_any (w : World) (blk off cap N a b k : Nat) (cmp : Value) (d0 : Array Z) (hH : Holds encI w blk off d0) (hN : d0.size = N) (p x r y q : List Z) (d : Array Z) (n : Nat) (hs : d.size = N)
    (hd : d.toList = p ++ x ++ r ++ y ++ q) (ha : a = p.length) (hb : b = a + k + r.length) (hx : x.length = k) (hy : y.length = k) (hsz : N < 4611686018427387904) :
    Calls Try.prog 53 #[.slice (some ⟨blk, off, none⟩) N cap, .int .i64 (a : Int), .int .i64 (b : Int), .int .i64 (k : Int), cmp] ((putRow encI w blk off d).drewN n) fun e w' =>
      e = .returned (.tuple #[]) ∧ ∃ n' d', d'.size = N ∧ d'.toList = p ++ y ++ r ++ x ++ q ∧ w' = (putRow encI w blk off d').drewN n' := by
  have hmx : Try.prog.follows .mixedOrders = true := by kernel_rfl
  have hkb : p.length + x.length + r.length + y.length + q.length = N := by
    have := congrArg List.length hd
    simp only [List.length_append] at this
    rw [← hs, ← Array.length_toList, this]
  have HH := hide hH
  have HD := hide (show d.toList = p ++ (y.take 0 ++ x.drop 0) ++ r ++ (x.take 0 ++ y.drop 0) ++ q by rw [hd]; simp)
  have hbN : b + k ≤ N := by omega
  have haN : a + k ≤ b := by omega
  have HA := hide ha
  have HB := hide hb
  have HX := hide hx
  have HY := hide hy
  have HN := hide hN
  have HS := hide hs
  clear hH hd ha hb hx hy hN hkb hs
  obtain ⟨W, hW⟩ : ∃ W, (putRow encI w blk off d).drewN n = W := ⟨_, rfl⟩
  have HW := hide hW.symm
  rw [hW]
  clear hW
  go_enter Try.func53, Try.ntmps53
  go_wp2
  go_loopg [10] k (fun g s10 wx => ∃ (i m : Nat) (dk : Array Z), i + g = k ∧ s10 = .int .i64 (i : Int) ∧ Hid (dk.size = N) ∧ Hid (dk.toList = p ++ (y.take i ++ x.drop i) ++ r ++ (x.take i ++ y.drop i) ++ q) ∧ Hid (wx = (putRow encI w blk off dk).drewN m))
  case atStart => exact ⟨0, n, d, by omega, by go_num, HS, HD, HW⟩
  case round =>
    obtain ⟨i, m, dk, hig, rfl, HSK, HDK, HWK⟩ := hrel
    cases gk with
    | zero =>
      have e1 : (k : Int) = (i : Int) := by omega
      have e2 : i = k := by omega
      subst e2
      go_wp2
      go_end0
      refine ⟨rfl, m, dk, unhide HSK, ?_, unhide HWK⟩
      have hx1 : x.length ≤ i := Nat.le_of_eq (unhide HX)
      have hy1 : y.length ≤ i := Nat.le_of_eq (unhide HY)
      rw [unhide HDK, List.take_of_length_le hx1, List.take_of_length_le hy1, List.drop_eq_nil_of_le hx1, List.drop_eq_nil_of_le hy1]
      simp
    | succ g =>
      obtain ⟨xi, yi, hxi, hyi, l1, l2, hsw⟩ := swapR_step p x r y q k i (unhide HX) (unhide HY) (by omega) dk a b (unhide HA) (unhide HB) (unhide HDK)
      have hHk := holds_putRow encI w blk off d0 dk (unhide HH) (by rw [unhide HSK, unhide HN])
      obtain ⟨cx, fx⟩ := hHk (a + i) l1
      obtain ⟨cy, fy⟩ := hHk (b + i) l2
      have hsk := swap_worldC encI w blk off dk m (a + i) (b + i) l1 l2
      rw [hxi] at cx hsk
      rw [hyi] at cy hsk
      have cx' : ((putRow encI w blk off dk).drewN m).cell? ⟨blk, off + (a + i), none⟩ = some (.int .i64 xi.1) := cx
      have cy' : ((putRow encI w blk off dk).drewN m).cell? ⟨blk, off + (b + i), none⟩ = some (.int .i64 yi.1) := cy
      have fx' : ((putRow encI w blk off dk).drewN m).frozen? ⟨blk, off + (a + i), none⟩ = false := fx
      have fy' : ((putRow encI w blk off dk).drewN m).frozen? ⟨blk, off + (b + i), none⟩ = false := fy
      rw [← unhide HWK] at cx' cy' fx' fy' hsk
      have HSW := hide hsk
      have HL := hide hsw
      have HSS := hide (show (swp dk (a + i) (b + i)).size = N by rw [size_swp]; exact unhide HSK)
      obtain ⟨ia, hia⟩ : ∃ ia, ia = a + i := ⟨_, rfl⟩
      obtain ⟨ib, hib⟩ : ∃ ib, ib = b + i := ⟨_, rfl⟩
      have hwa : IntKind.i64.wrap ((a : Int) + (i : Int)) = (a : Int) + (i : Int) := IntWalk.i64_in _ (by omega)
      have hwb : IntKind.i64.wrap ((b : Int) + (i : Int)) = (b : Int) + (i : Int) := IntWalk.i64_in _ (by omega)
      have hwi : IntKind.i64.wrap ((i : Int) + 1) = (i : Int) + 1 := IntWalk.i64_in _ (by omega)
      have ea : ((a : Int) + (i : Int)).toNat = ia := by omega
      have eb : ((b : Int) + (i : Int)).toNat = ib := by omega
      have pa : (0 : Int) ≤ (a : Int) + (i : Int) := by omega
      have pb : (0 : Int) ≤ (b : Int) + (i : Int) := by omega
      have za : (a : Int) + (i : Int) < (N : Int) := by omega
      have zb : (b : Int) + (i : Int) < (N : Int) := by omega
      have hik : (i : Int) < (k : Int) := by omega
      have hne : ia ≠ ib := by omega
      rw [← hia] at cx' fx' HSW HL HSS
      rw [← hib] at cy' fy' HSW HL HSS
      have HIA := hide hia
      have HIB := hide hib
      clear hsk hsw hxi hyi cx cy fx fy hHk l1 l2 HDK HSK hia hib
      go_wp2
      go_big_region_o
      all_goals go_wp2
      go_roundg g
      case measure => omega
      case rel =>
        refine ⟨i + 1, m + 1, swp dk ia ib, by omega, by go_num, HSS, HL, ?_⟩
        exact unhide HSW
theorem swapRange_at (w : World) (blk off cap N : Nat) (cmp : Value) (d0 : Array Z) (hH : Holds encI w blk off d0) (hN : d0.size = N) (hsz : N < 4611686018427387904) (p x r y q : List Z) (d : Array Z) (n : Nat) (W : World) (hW : W = (putRow encI w blk off d).drewN n) (hs : d.size = N)
    (hd : d.toList = p ++ x ++ r ++ y ++ q) (za zb zk : Int) (hza : za = (p.length : Int)) (hzb : zb = ((p.length + x.length + r.length : Nat) : Int)) (hzk : zk = (x.length : Int)) (hy : y.length = x.length) :
    Calls Try.prog 53 #[.slice (some ⟨blk, off, none⟩) N cap, .int .i64 za, .int .i64 zb, .int .i64 zk, cmp] W fun e w' =>
      e = .returned (.tuple #[]) ∧ ∃ n' d', d'.size = N ∧ d'.toList = p ++ y ++ r ++ x ++ q ∧ w' = (putRow encI w blk off d').drewN n' := by
  subst hW hza hzb hzk
  exact swapRange_any w blk off cap N p.length (p.length + x.length + r.length) x.length cmp d0 hH hN p x r y q d n hs hd rfl rfl rfl hy hsz
set_option maxHeartbeats 4000000 in
set_option maxRecDepth 1000000 in
theorem rotate_any (w : World) (blk off cap N : Nat) (cmp : Value) (d0 : Array Z) (hH : Holds encI w blk off d0) (hN : d0.size = N) (hsz : N < 4611686018427387904) (p x y q : List Z) (d : Array Z) (n : Nat) (W : World) (hW : W = (putRow encI w blk off d).drewN n) (hs : d.size = N)
    (hd : d.toList = p ++ x ++ y ++ q) (a m b : Int) (ha : a = (p.length : Int)) (hm : m = ((p.length + x.length : Nat) : Int)) (hb : b = ((p.length + x.length + y.length : Nat) : Int)) (hx : 0 < x.length) (hy : 0 < y.length) :
    Calls Try.prog 46 #[.slice (some ⟨blk, off, none⟩) N cap, .int .i64 a, .int .i64 m, .int .i64 b, cmp] W fun e w' =>
      e = .returned (.tuple #[]) ∧ ∃ n' d', d'.size = N ∧ d'.toList = p ++ y ++ x ++ q ∧ w' = (putRow encI w blk off d').drewN n' := by
  obtain ⟨M, hM⟩ : ∃ M, p.length + x.length = M := ⟨_, rfl⟩
  have hkb : M + y.length + q.length = N := by
    have := congrArg List.length hd
    simp only [List.length_append] at this
    rw [← hs, ← Array.length_toList, this, ← hM]
  rw [hM] at hm hb
  subst ha hm hb
  have hMN : M ≤ N := by omega
  have hyN : M + y.length ≤ N := by omega
  have hpM : p.length ≤ M := by omega
  have i0 : IntKind.i64.wrap ((M : Int) - (p.length : Int)) = (M : Int) - (p.length : Int) := IntWalk.i64_in _ (by omega)
  obtain ⟨I0, hI⟩ : ∃ I, x.length = I := ⟨_, rfl⟩
  obtain ⟨J0, hJ⟩ : ∃ J, y.length = J := ⟨_, rfl⟩
  have i1 : (M : Int) - (p.length : Int) = (I0 : Int) := by omega
  have i2 : (M : Int) + (J0 : Int) - (M : Int) = (J0 : Int) := by omega
  have HD : Hid (∃ p' x' y' q', x'.length = I0 ∧ y'.length = J0 ∧ p'.length + I0 = M ∧ d.toList = p' ++ x' ++ y' ++ q' ∧ p' ++ y' ++ x' ++ q' = p ++ y ++ x ++ q) := hide ⟨p, x, y, q, hI, hJ, by omega, hd, rfl⟩
  rw [hI] at hM hx
  rw [hJ] at hkb hyN hy ⊢
  obtain ⟨pl, hpl⟩ : ∃ pl, p.length = pl := ⟨_, rfl⟩
  rw [hpl] at i0 i1 hpM hM ⊢
  have HH := hide hH
  have HN := hide hN
  have HS := hide hs
  have HW := hide hW
  clear hH hd hI hJ hN hs hW hpl hkb
  have HM := hide hM
  clear hM
  have hcast : (((M + J0 : Nat)) : Int) = (M : Int) + (J0 : Int) := by omega
  rw [hcast]
  clear hcast
  go_enter Try.func46, Try.ntmps46
  go_wp2
  go_loopg [10, 11] (I0 + J0) (fun g s10 s11 wx => ∃ (i j nn : Nat) (dk : Array Z), s10 = .int .i64 (i : Int) ∧ s11 = .int .i64 (j : Int) ∧ 0 < i ∧ 0 < j ∧ i + j ≤ g ∧ i ≤ M ∧ M + j ≤ N ∧ Hid (dk.size = N) ∧ Hid (∃ p' x' y' q', x'.length = i ∧ y'.length = j ∧ p'.length + i = M ∧ dk.toList = p' ++ x' ++ y' ++ q' ∧ p' ++ y' ++ x' ++ q' = p ++ y ++ x ++ q) ∧ Hid (wx = (putRow encI w blk off dk).drewN nn))
  case atStart => exact ⟨I0, J0, n, d, by go_num, by go_num, hx, hy, Nat.le_refl _, by have := unhide HM; omega, by omega, HS, HD, HW⟩
  case round =>
    obtain ⟨i, j, nn, dk, rfl, rfl, hi0, hj0, hg, hiM, hjN, HSK, HDK, HWK⟩ := hrel
    obtain ⟨p', x', y', q', hx', hy', hp', hd', hf'⟩ := unhide HDK
    have wi : IntKind.i64.wrap ((M : Int) - (i : Int)) = (M : Int) - (i : Int) := IntWalk.i64_in _ (by omega)
    by_cases hij : i = j
    · subst hij
      have hij2 : ((i : Int) != (i : Int)) = false := by simp
      have hc := swapRange_at w blk off cap N cmp d0 (unhide HH) (unhide HN) hsz p' x' [] y' q' dk nn wr (unhide HWK) (unhide HSK) (by rw [hd']; simp) ((M : Int) - (i : Int)) (M : Int) (i : Int) (by omega) (by simp only [List.length_nil]; omega) (by omega) (by omega)
      have HC := hide hc
      have HF := hide (show p' ++ y' ++ [] ++ x' ++ q' = p ++ y ++ x ++ q by rw [← hf']; simp)
      clear hc hd' hf' hx' hy' hp' HDK HSK HWK
      go_wp2_with (go_at_call 53; refine (unhide HC).mono ?_; rintro e w1 ⟨rfl, n1, d1, hs1, hd1, hw1⟩; have HS1 := hide hs1; have HD1 := hide hd1; have HW1 := hide hw1; clear hs1 hd1 hw1)
      go_end0
      exact ⟨rfl, n1, d1, unhide HS1, (unhide HD1).trans (unhide HF), unhide HW1⟩
    · have hij2 : ((i : Int) != (j : Int)) = true := by simp; omega
      by_cases hlt : j < i
      · have hlt2 : (j : Int) < (i : Int) := by omega
        have wj : IntKind.i64.wrap ((i : Int) - (j : Int)) = (i : Int) - (j : Int) := IntWalk.i64_in _ (by omega)
        have lx : (x'.take j).length = j := by rw [List.length_take]; omega
        have lx2 : (x'.drop j).length = i - j := by rw [List.length_drop]; omega
        have hc := swapRange_at w blk off cap N cmp d0 (unhide HH) (unhide HN) hsz p' (x'.take j) (x'.drop j) y' q' dk nn wr (unhide HWK) (unhide HSK) (by rw [hd']; simp) ((M : Int) - (i : Int)) (M : Int) (j : Int) (by omega) (by rw [lx, lx2]; omega) (by rw [lx]) (by omega)
        have HC := hide hc
        have HF := hide (show ∃ p2 x2 y2 q2, x2.length = i - j ∧ y2.length = j ∧ p2.length + (i - j) = M ∧ p' ++ y' ++ x'.drop j ++ x'.take j ++ q' = p2 ++ x2 ++ y2 ++ q2 ∧ p2 ++ y2 ++ x2 ++ q2 = p ++ y ++ x ++ q from
          ⟨p' ++ y', x'.drop j, x'.take j, q', lx2, lx, by rw [List.length_append]; omega, by simp, by rw [← hf']; simp⟩)
        clear hc hd' hf' hx' hy' hp' HDK HSK HWK lx lx2
        go_wp2_with (go_at_call 53; refine (unhide HC).mono ?_; rintro e w1 ⟨rfl, n1, d1, hs1, hd1, hw1⟩; have HS1 := hide hs1; have HD1 := hide hd1; have HW1 := hide hw1; clear hs1 hd1 hw1)
        go_roundg (gk - j)
        case measure => omega
        case rel =>
          refine ⟨i - j, j, n1, d1, by congr 1; omega, rfl, by omega, hj0, by omega, by omega, hjN, HS1, ?_, HW1⟩
          obtain ⟨p2, x2, y2, q2, h1, h2, h3, h4, h5⟩ := unhide HF
          exact hide ⟨p2, x2, y2, q2, h1, h2, h3, (unhide HD1).trans h4, h5⟩
      · have hlt2 : ¬ (j : Int) < (i : Int) := by omega
        have hlt3 : (i : Int) < (j : Int) := by omega
        have wj : IntKind.i64.wrap ((j : Int) - (i : Int)) = (j : Int) - (i : Int) := IntWalk.i64_in _ (by omega)
        have wm : IntKind.i64.wrap ((M : Int) + (j : Int)) = (M : Int) + (j : Int) := IntWalk.i64_in _ (by omega)
        have wm2 : IntKind.i64.wrap ((M : Int) + (j : Int) - (i : Int)) = (M : Int) + (j : Int) - (i : Int) := IntWalk.i64_in _ (by omega)
        have ly : (y'.take (j - i)).length = j - i := by rw [List.length_take]; omega
        have ly2 : (y'.drop (j - i)).length = i := by rw [List.length_drop]; omega
        have hc := swapRange_at w blk off cap N cmp d0 (unhide HH) (unhide HN) hsz p' x' (y'.take (j - i)) (y'.drop (j - i)) q' dk nn wr (unhide HWK) (unhide HSK) (by rw [hd']; simp) ((M : Int) - (i : Int)) ((M : Int) + (j : Int) - (i : Int)) (i : Int) (by omega) (by rw [ly]; omega) (by omega) (by omega)
        have HC := hide hc
        have HF := hide (show ∃ p2 x2 y2 q2, x2.length = i ∧ y2.length = j - i ∧ p2.length + i = M ∧ p' ++ y'.drop (j - i) ++ y'.take (j - i) ++ x' ++ q' = p2 ++ x2 ++ y2 ++ q2 ∧ p2 ++ y2 ++ x2 ++ q2 = p ++ y ++ x ++ q from
          ⟨p', y'.drop (j - i), y'.take (j - i), x' ++ q', ly2, ly, hp', by simp, by rw [← hf']; simp⟩)
        clear hc hd' hf' hx' hy' hp' HDK HSK HWK ly ly2
        go_wp2_with (go_at_call 53; refine (unhide HC).mono ?_; rintro e w1 ⟨rfl, n1, d1, hs1, hd1, hw1⟩; have HS1 := hide hs1; have HD1 := hide hd1; have HW1 := hide hw1; clear hs1 hd1 hw1)
        go_roundg (gk - i)
        case measure => omega
        case rel =>
          refine ⟨i, j - i, n1, d1, rfl, by congr 1; omega, hi0, by omega, by omega, hiM, by omega, HS1, ?_, HW1⟩
          obtain ⟨p2, x2, y2, q2, h1, h2, h3, h4, h5⟩ := unhide HF
          exact hide ⟨p2, x2, y2, q2, h1, h2, h3, (unhide HD1).trans h4, h5⟩
end Go.Proofs.Ytbnheebblicgkaa
