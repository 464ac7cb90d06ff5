/- Lemmas of this claim (a part of its texts, kept as far as the claim reaches them). -/
import Derived.Test.YtefokfbgpfcbkaaGreatS32iZ
import Derived.Test.YtefokfbgpfcbkaaGreatGAZ
import Derived.Test.YtefokfbgpfcbkaaGreatPlain32bZ
namespace Go.Proofs.YtefokfbgpfcbkaaGreat
set_option linter.unusedVariables false
set_option linter.unusedSimpArgs false
open Go.RowKit
attribute [local go_sem] Oper.semAt_some
set_option maxRecDepth 100000 in
theorem ways_any (b : Nat) (w : World) : Calls Tryz.prog 97 #[.pointer (some ⟨b, 0, none⟩)] w fun e w' => e = .returned (.func (.func 139) #[] #[.pointer (some ⟨w.heap.size, 0, none⟩)]) ∧ w' = w.alloc (.cells #[.pointer (some ⟨b, 0, none⟩)] 96) := by
  go_enter Tryz.func97, Tryz.ntmps97
  go_wp2
  go_ret
  exact ⟨rfl, rfl⟩
open P32 (waysL waysL_len waysL_get)
def encW (x : Nat × Bool) : Array Value := #[.agg #[.int .i64 (x.1 : Int), .bool x.2]]
set_option maxRecDepth 100000 in
set_option maxHeartbeats 4000000 in
theorem waysIter_seq (n b bx N sc : Nat) (sa : Option Addr) (R T : Nat → Prop) (W : World) (hbx : W.heap[bx]? = some (.cells #[.pointer (some ⟨b, 0, none⟩)] 96)) (hbR : R bx) (hR : ∀ r, R r → r < W.heap.size) (hN9 : N ≤ 100000) :
    SeqX Fence.wide n Tryz.prog 139 #[.pointer (some ⟨bx, 0, none⟩)] encW (waysL N) (fun _ V => V.cell? ⟨b, 2, none⟩ = some (.slice sa N sc)) R T W := by
  intro ly J Jx hJ hJx hM hY hG M0 hT0 h0
  have hM0 : ∀ r, M0 r → r < W.heap.size ∧ ¬ R r := hM 0 M0 W h0
  have hY' : ∀ d q x M V, (waysL N)[q]? = some x → J q M V → W.heap.size ≤ V.heap.size → YieldAt Fence.wide d Tryz.prog ly (encW x) V fun e W' =>
      ∃ M', KeepsM M V M' W' ∧ ((e = .returned (.bool true) ∧ J (q + 1) M' W') ∨ (e = .returned (.bool false) ∧ Jx (q + 1) M' W')) :=
    fun d q x M V hx hj hs => YieldAt.anyD rfl d (hY q x M V hx hj hs)
  obtain ⟨x0, _⟩ := cell1 hbx
  obtain ⟨K, hK⟩ : ∃ K, W.heap.size = K := ⟨_, rfl⟩
  obtain ⟨W3, hW3, b3, g3, hs3⟩ := new1 W (.cells #[.bool false, .bool true] 4) K hK
  have hg3 : W.grownBy W3 none := by rw [← hW3]; exact World.grownBy_alloc _ _ none
  have h3 : J 0 M0 W3 := hJ 0 M0 W W3 none h0 hg3 (fun r e => by cases e)
  have hMK : ¬ M0 K := fun h => by have := (hM0 K h).1; omega
  have hbl : bx < K := by rw [← hK]; exact hR bx hbR
  have hbM : ¬ M0 bx := fun h => (hM0 bx h).2 hbR
  have g4 := (b3.block bx hbl).trans hbx
  have hgt := fun k i hk hi => waysL_get N k i hk hi
  have hlen := waysL_len N
  obtain ⟨L, hL⟩ : ∃ L, waysL N = L := ⟨_, rfl⟩
  rw [hL] at hY' hgt hlen ⊢
  have HM := hide hM
  have HJ := hide hJ
  have HY := hide hY'
  have HG := hide hG
  have H3 := hide h3
  have HMK := hide hMK
  have HBM := hide hbM
  have HG3 := hide g3
  have HG4 := hide g4
  have HGT := hide hgt
  have HLEN := hide hlen
  have HW3 := hide hW3
  have HKS := hide hK
  clear hbx hbR hR hM0 hM hJ hJx hY hY' hG hT0 h0 h3 hMK hbM g3 g4 hgt hlen hL hW3 hg3 b3
  refine callsIn_of_wp Tryz.func139 rfl trivial ?_ rfl
  simp only [Tryz.ntmps139, List.size_toArray, List.length_cons, List.length_nil, Nat.reduceAdd, Nat.reduceSub, Array.replicate_succ, Array.replicate_zero, List.push_toArray, List.append_toArray, List.nil_append, List.cons_append]
  gi_upto_region 1 with fail
  try rw [hK]
  rw [unhide HW3]
  clear x0
  gi_wp2
  gi_loopg [8] 2 (fun g s8 wx => ∃ (k : Nat) (M : Nat → Prop), k + g = 2 ∧ s8 = .int .i64 k ∧ Hid (KeepsM M0 W3 M wx) ∧ Hid (J (k * N) M wx))
  case atStart => exact ⟨0, M0, by omega, by go_num, hide (KeepsM.refl _ _), hide (by rw [Nat.zero_mul]; exact unhide H3)⟩
  case round =>
    obtain ⟨k, M, hkg, rfl, HK, HJI⟩ := hrel
    have hk := unhide HK
    have hzr := hk.size
    cases gk with
    | zero =>
      have e1 : (2 : Int) ≤ (k : Int) := by omega
      have j1 : decide ((k : Int) < 2) = false := by simp; omega
      have hfin := unhide HJI
      rw [show k * N = L.length by rw [unhide HLEN]; rw [show k = 2 by omega]] at hfin
      have HFIN := hide hfin
      clear hfin hk
      gi_wp2
      go_end0
      exact ⟨⟨_, rfl⟩, M, .inl (unhide HFIN)⟩
    | succ g' =>
      have e1 : (k : Int) < 2 := by omega
      have j1 : decide ((k : Int) < 2) = true := by simp; omega
      have hkk : IntKind.i64.wrap ((k : Int) + 1) = (k : Int) + 1 := IntWalk.i64_in _ (by omega)
      have g3 := (hk.same K (unhide HMK) (by omega)).trans (unhide HG3)
      have g4 := (hk.same bx (unhide HBM) (by omega)).trans (unhide HG4)
      obtain ⟨x0, _⟩ := cell1 g4
      obtain ⟨UD, hUD⟩ : ∃ u, decide (k = 1) = u := ⟨_, rfl⟩
      have cku : wr.cell? ⟨K, k, none⟩ = some (.bool UD) := by
        obtain ⟨⟨q0, _⟩, ⟨q1, _⟩⟩ := two_cells g3
        have h2 : k = 0 ∨ k = 1 := by omega
        rcases h2 with rfl | rfl
        · rw [q0, ← hUD]; rfl
        · rw [q1, ← hUD]; rfl
      have c2 := unhide HG _ _ _ (unhide HJI)
      have hgt := fun i hi => unhide HGT k i (by omega) hi
      rw [hUD] at hgt
      have HGK := hide hgt
      clear hk g3 g4 hgt hUD
      gi_wp2
      gi_loopg [18] N (fun g s18 wx => ∃ (i : Nat) (M : Nat → Prop), i + g = N ∧ s18 = .int .i64 i ∧ Hid (KeepsM M0 W3 M wx) ∧ Hid (J (k * N + i) M wx))
      case atStart => exact ⟨0, M, by omega, by go_num, HK, HJI⟩
      case round =>
        obtain ⟨i, M1, hig, rfl, HK1, HJ1⟩ := hrel
        clear x0 cku c2
        have hk1 := unhide HK1
        have hz1 := hk1.size
        cases gk with
        | zero =>
          have e2 : (N : Int) ≤ (i : Int) := by omega
          have j2 : decide ((i : Int) < (N : Int)) = false := by simp; omega
          clear hk1
          gi_wp2
          go_roundg g'
          case measure => omega
          case rel => exact ⟨k + 1, M1, by omega, by go_num, HK1, hide (by rw [show (k + 1) * N = k * N + i by rw [Nat.succ_mul]; omega]; exact unhide HJ1)⟩
        | succ g2 =>
          have e2 : (i : Int) < (N : Int) := by omega
          have hki : IntKind.i64.wrap ((i : Int) + 1) = (i : Int) + 1 := IntWalk.i64_in _ (by omega)
          have hx := unhide HGK i (by omega)
          have hYa := ((unhide HY) (n - 1) _ _ M1 wr hx (unhide HJ1) (by have := unhide HKS; omega)).mono
            (R' := fun e W' => ∃ bb, e = .returned (.bool bb) ∧ Hid (∃ M', KeepsM M1 wr M' W' ∧ ((bb = true ∧ J (k * N + i + 1) M' W') ∨ (bb = false ∧ Jx (k * N + i + 1) M' W')))) (by
              rintro e W' ⟨M', hk, (⟨rfl, h⟩ | ⟨rfl, h⟩)⟩
              · exact ⟨true, rfl, hide ⟨M', hk, .inl ⟨rfl, h⟩⟩⟩
              · exact ⟨false, rfl, hide ⟨M', hk, .inr ⟨rfl, h⟩⟩⟩)
          obtain ⟨fn, tmps, assign, body, hy, hR⟩ := hYa
          replace hy : (Instr.yield ly #[.agg #[.int .i64 (i : Int), .bool UD]]).run Tryz.prog wr = .ok (.round ly fn tmps assign body) wr := hy
          have hjl : k * N + i + 1 ≤ L.length := by have := (List.getElem?_eq_some_iff.1 hx).1; omega
          clear hk1 hx
          gi_wp2
          refine ⟨fun h => (by cases h), hR.mono ?_⟩
          rintro e W4 ⟨bb, rfl, HB⟩
          clear hy hR
          cases bb
          · gi_wp2
            refine bodyPost_ret (results_none rfl _ _ _) rfl ?_
            obtain ⟨M', hk, (⟨h, _⟩ | ⟨_, h⟩)⟩ := unhide HB
            · cases h
            · exact ⟨⟨_, rfl⟩, M', .inr ⟨_, hjl, h⟩⟩
          · have hJ4 : ∃ M', KeepsM M1 wr M' W4 ∧ J (k * N + i + 1) M' W4 := by
              obtain ⟨M', hk, (⟨_, h⟩ | ⟨h, _⟩)⟩ := unhide HB
              · exact ⟨M', hk, h⟩
              · cases h
            have HJ4 := hide hJ4
            clear hJ4 HB
            gi_wp2
            go_roundg g2
            case measure => omega
            case rel =>
              obtain ⟨M', hk, h⟩ := unhide HJ4
              exact ⟨i + 1, M', by omega, by go_num, hide ((unhide HK1).trans hk), hide h⟩
end Go.Proofs.YtefokfbgpfcbkaaGreat
