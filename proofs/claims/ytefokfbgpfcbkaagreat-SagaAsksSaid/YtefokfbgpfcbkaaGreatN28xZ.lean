/- Lemmas of this claim (a part of its texts, kept as far as the claim reaches them). -/
import Derived.Test.YtefokfbgpfcbkaaGreatElZ
import Derived.Test.YtefokfbgpfcbkaaGreatPlain28Z
import Derived.Test.YtefokfbgpfcbkaaGreatGAZ
import Derived.Lib.OthersKept
import Derived.Carry
import Derived.Sort.LoopGhostIn
import Derived.Maps.OwnIn
import Derived.Deep.CutBlock
import Derived.Deep.OwnRows
import Derived.Test.YtefokfbgpfcbkaaGreatInvZ
import Derived.Laws.StructEq
import Derived.Test.YtefokfbgpfcbkaaGreatGW17Z
import Derived.Test.YtefokfbgpfcbkaaGreatGN20Z
namespace Go.Proofs.YtefokfbgpfcbkaaGreat
set_option linter.unusedVariables false
set_option linter.unusedSimpArgs false
open Go.RowKit
theorem idx_take {ns : List (List UInt8)} {i : Nat} {n : List UInt8} (h : ns[i]? = some n) (x : List UInt8) : P28.idx (ns.take (i + 1)) x = match P28.idx (ns.take i) x with | some j => some j | none => if n = x then some i else none := by
  have hl := (List.getElem?_eq_some_iff.1 h).1
  rw [List.take_add_one, h, show (some n).toList = [n] from rfl, P28.idx_snoc, List.length_take, Nat.min_eq_left (Nat.le_of_lt hl)]
  cases P28.idx (List.take i ns) x <;> rfl
theorem keyS : KeyT Tryz.prog 9 encS := keyT_string Tryz.underlying9
def intV (j : Nat) : Value := .int .i64 (j : Int)
set_option maxRecDepth 100000 in
set_option maxHeartbeats 4000000 in
theorem places_any (d : PDef) (w : World) (hin : d.In w) :
    Calls Tryz.prog 143 #[d.val] w fun e w' => ∃ bm L, e = .returned (.map (some bm)) ∧ w.heap.size ≤ bm ∧ MapG encS w' bm L ∧ (∀ x, lk L x = (P28.idx (d.steps.map PSt.name) x).map intV) ∧ Below w.heap.size w w' := by
  obtain ⟨nm, tx, sa, sc, ss⟩ := d
  obtain ⟨hsa, hla, hca⟩ := hin
  obtain ⟨M, hM⟩ : ∃ M, ss.length = M := ⟨_, rfl⟩
  simp only at hsa hla hca
  unfold PDef.val
  simp only
  rw [hM]
  rw [hM] at hla
  have hM9 : M ≤ maxLen := by omega
  unfold maxLen at hM9
  obtain ⟨H, hH⟩ : ∃ H, w.heap.size = H := ⟨_, rfl⟩
  obtain ⟨W0, hW0, hb0, g0, g1, hs0⟩ := new2 w (.cells #[.string ⟨nm.toArray⟩, .string ⟨tx.toArray⟩, .slice sa M sc] 24) (.map #[] 0) H hH
  have x0 := cell3 g0
  have hmap : MapG encS W0 (H + 1) [] := ⟨#[], 0, g1, ⟨by simp, by simp⟩, rfl⟩
  have HW0 := hide hW0
  have HB0 := hide hb0
  have HSA := hide hsa
  have HM := hide hM
  have HMAP := hide hmap
  clear hW0 hb0 g0 g1 hsa hM hla hca hmap
  have hmm := @run_makeMap Tryz.prog
  go_enter Tryz.func143, Tryz.ntmps143
  go_upto_region 2 with fail
  try rw [hH]
  rw [unhide HW0]
  go_wp2
  go_loopg [12] M (fun g s12 wx => ∃ (i : Nat) (L : List (List UInt8 × Value)), i + g = M ∧ s12 = .int .i64 i ∧ Hid (MapG encS wx (H + 1) L) ∧ Hid (∀ x, lk L x = (P28.idx ((ss.map PSt.name).take i) x).map intV) ∧ Hid (Below H w wx) ∧ H + 1 + 1 ≤ wx.heap.size)
  case atStart => exact ⟨0, [], by omega, by go_num, HMAP, hide (fun x => rfl), HB0, by omega⟩
  case round =>
    obtain ⟨i, L, hig, rfl, HMP, HLK, HBX, hzx⟩ := hrel
    clear x0
    cases gk with
    | zero =>
      have e1 : (M : Int) ≤ (i : Int) := by omega
      have j1 : decide ((i : Int) < (M : Int)) = false := by simp; omega
      go_wp2
      go_ret
      refine ⟨H + 1, L, rfl, by omega, unhide HMP, fun x => ?_, by rw [hH]; exact unhide HBX⟩
      have h := unhide HLK x
      rw [List.take_of_length_le (by rw [List.length_map, unhide HM]; omega)] at h
      exact h
    | succ g' =>
      have hlt : (i : Int) < (M : Int) := by omega
      have hki : IntKind.i64.wrap ((i : Int) + 1) = (i : Int) + 1 := IntWalk.i64_in _ (by omega)
      obtain ⟨s1, hg1⟩ := nth_of (unhide HM) (show i < M by omega)
      have hnm : (ss.map PSt.name)[i]? = some s1.name := by rw [List.getElem?_map, hg1]; rfl
      have hwa := (unhide HSA).below (by rw [hH]; exact unhide HBX)
      obtain ⟨b1, o1, rfl, c1, hi1⟩ := hwa.get hg1
      obtain ⟨n1, a1, u1, aa1, ac1, af1, q1, fi1, fa1, li1, ⟨k1, t1, ka1, kc1, ks1, da1, dc1, ds1, l1⟩⟩ := s1
      obtain ⟨⟨c0, c1, c2, c3⟩, ⟨c4, c5, c6, c7⟩, ⟨c8, c9, c10, c11, c12⟩⟩ := step_cells c1
      simp only [PSt.aV, Nd.kind, Nd.text, Nd.kV, Nd.dV, Nd.line, Nd.ka, Nd.kc, Nd.keys, Nd.da, Nd.dc, Nd.kids] at c0 c1 c2 c3 c4 c5 c6 c7 c8 c9 c10 c11 c12 hnm
      have HNM := hide hnm
      obtain ⟨K, hK⟩ : ∃ K, wr.heap.size = K := ⟨_, rfl⟩
      obtain ⟨W1, hW1⟩ : ∃ W1, wr.alloc (.cells #[.string ⟨n1.toArray⟩, .string ⟨a1.toArray⟩, .string ⟨u1.toArray⟩, .slice aa1 af1.length ac1, .int .i64 q1, .int .i64 fi1, .int .i64 fa1, .int .i64 li1, .int .u8 k1, .string ⟨t1.toArray⟩, .slice ka1 ks1.length kc1, .slice da1 ds1.length dc1, .int .i64 l1] 63) = W1 := ⟨_, rfl⟩
      have r0 : W1.heap[K]? = some (.cells #[.string ⟨n1.toArray⟩, .string ⟨a1.toArray⟩, .string ⟨u1.toArray⟩, .slice aa1 af1.length ac1, .int .i64 q1, .int .i64 fi1, .int .i64 fa1, .int .i64 li1, .int .u8 k1, .string ⟨t1.toArray⟩, .slice ka1 ks1.length kc1, .slice da1 ds1.length dc1, .int .i64 l1] 63) := by rw [← hW1, ← hK]; exact World.alloc_heap_new _ _
      have hb1 : Below K wr W1 := by rw [← hW1, ← hK]; exact (Below.refl _ _).alloc (Nat.le_refl _) _
      have hm1 : MapG encS W1 (H + 1) L := (unhide HMP).keep (hb1.block _ (by omega))
      have hs1 : W1.heap.size = K + 1 := by rw [← hW1, ← hK]; simp
      have y0 := (cell13 r0).1
      have HM1 := hide hm1
      have HB1 := hide ((unhide HBX).trans (hb1.mono (by omega)))
      have HW1 := hide hW1
      clear hnm hg1 hi1 hwa hb1 hm1 r0 hW1 HMP HBX
      go_upto_region 5 with fail
      rw [unhide HW1]
      cases hlk : lk L n1 with
      | none =>
        have HN := hide hlk
        clear hlk
        go_wp2_with (first
          | (at_lookup; refine wpList_lookOk rfl _ _ rfl (unhide HM1) keyS Tryz.underlying205 (zeroI _) rfl n1 rfl (unhide HN) ?_)
          | (at_mapUpdate; refine wpList_putG rfl _ _ _ rfl (unhide HM1) keyS Tryz.underlying205 rfl n1 rfl (.int .i64 (i : Int)) rfl ?_; intro W2 hm2 hg2 hs2 ho2))
        go_roundg g'
        case measure => omega
        case rel =>
          refine ⟨i + 1, _, by omega, by go_num, hide hm2, hide (fun x => ?_), hide ⟨hg2.os.trans (unhide HB1).os, hg2.tape.trans (unhide HB1).tape, hg2.output.trans (unhide HB1).output, Nat.le_trans (unhide HB1).size hg2.size, fun g hg => (ho2 g (by omega)).trans ((unhide HB1).block g hg)⟩, by omega⟩
          rw [lk_put, idx_take (unhide HNM)]
          have h1 := unhide HLK x
          by_cases hx : x = n1
          · subst hx
            have h2 := unhide HLK x
            rw [unhide HN] at h2
            cases hq : P28.idx ((ss.map PSt.name).take i) x with
            | some j => rw [hq] at h2; cases h2
            | none => rw [if_pos rfl]; simp [intV]
          · rw [if_neg hx, h1]
            cases hq : P28.idx ((ss.map PSt.name).take i) x with
            | some j => rfl
            | none =>
              have : ¬ n1 = x := fun e => hx e.symm
              simp [this]
      | some v =>
        have HN := hide hlk
        clear hlk
        go_wp2_with (first
          | (at_lookup; refine wpList_lookOk rfl _ _ rfl (unhide HM1) keyS Tryz.underlying205 (zeroI _) rfl n1 rfl (unhide HN) ?_))
        go_roundg g'
        case measure => omega
        case rel =>
          refine ⟨i + 1, L, by omega, by go_num, HM1, hide (fun x => ?_), HB1, by omega⟩
          rw [idx_take (unhide HNM)]
          have h1 := unhide HLK x
          rw [h1]
          cases hq : P28.idx ((ss.map PSt.name).take i) x with
          | some j => rfl
          | none =>
            have : ¬ n1 = x := by
              rintro rfl
              rw [unhide HN, hq] at h1
              cases h1
            simp [this]
end Go.Proofs.YtefokfbgpfcbkaaGreat
namespace Go.Proofs.YtefokfbgpfcbkaaGreat
set_option linter.unusedVariables false
set_option linter.unusedSimpArgs false
open Go.RowKit
attribute [local go_sem] Oper.semAt_some
def toV : Option Nat → Int
  | some j => (j : Int)
  | none => -1
def encRef (r : P28.Ref) : Array Value := #[.agg #[.int .i64 r.1, .string ⟨r.2.1.toArray⟩, .int .i64 (toV r.2.2)]]
theorem refL_append (ns : List (List UInt8)) : ∀ (a b : List (List (List UInt8))) (k : Nat), P28.refL ns k (a ++ b) = P28.refL ns k a ++ P28.refL ns (k + a.length) b
  | [], b, k => by simp [P28.refL]
  | x :: a, b, k => by
    have e1 : P28.refL ns k ((x :: a) ++ b) = x.map (fun y => (k, y, P28.idx ns y)) ++ P28.refL ns (k + 1) (a ++ b) := rfl
    have e2 : P28.refL ns k (x :: a) = x.map (fun y => (k, y, P28.idx ns y)) ++ P28.refL ns (k + 1) a := rfl
    rw [e1, e2, refL_append ns a b (k + 1), List.append_assoc, List.length_cons, show k + 1 + a.length = k + (a.length + 1) by omega]
def cntR (ns : List (List UInt8)) (af : List (List (List UInt8))) (i : Nat) : Nat := (P28.refL ns 0 (af.take i)).length
theorem refL_at {ns : List (List UInt8)} {af : List (List (List UInt8))} {i : Nat} {a : List (List UInt8)} (h : af[i]? = some a) : P28.refL ns 0 af = P28.refL ns 0 (af.take i) ++ (a.map (fun y => (i, y, P28.idx ns y)) ++ P28.refL ns (i + 1) (af.drop (i + 1))) := by
  obtain ⟨hl, he⟩ := List.getElem?_eq_some_iff.1 h
  have e : af = af.take i ++ a :: af.drop (i + 1) := by rw [← he]; simp
  have e1 : P28.refL ns i (a :: af.drop (i + 1)) = a.map (fun y => (i, y, P28.idx ns y)) ++ P28.refL ns (i + 1) (af.drop (i + 1)) := rfl
  have := refL_append ns (af.take i) (a :: af.drop (i + 1)) 0
  rw [← e, List.length_take, Nat.min_eq_left (Nat.le_of_lt hl), Nat.zero_add, e1] at this
  exact this
theorem refL_get {ns : List (List UInt8)} {af : List (List (List UInt8))} {i j : Nat} {a : List (List UInt8)} {x : List UInt8} (h : af[i]? = some a) (hx : a[j]? = some x) : (P28.refL ns 0 af)[cntR ns af i + j]? = some (i, x, P28.idx ns x) := by
  have hj := (List.getElem?_eq_some_iff.1 hx).1
  rw [refL_at h, List.getElem?_append_right (by unfold cntR; omega), show cntR ns af i + j - (P28.refL ns 0 (af.take i)).length = j by unfold cntR; omega, List.getElem?_append_left (by rw [List.length_map]; exact hj), List.getElem?_map, hx]
  rfl
theorem cntR_next {ns : List (List UInt8)} {af : List (List (List UInt8))} {i : Nat} {a : List (List UInt8)} (h : af[i]? = some a) : cntR ns af (i + 1) = cntR ns af i + a.length := by
  unfold cntR
  have hl := (List.getElem?_eq_some_iff.1 h).1
  have e : af.take (i + 1) = af.take i ++ [a] := by rw [List.take_add_one, h]; rfl
  rw [e, refL_append, List.length_append]
  simp [P28.refL]
theorem cntR_all {ns : List (List UInt8)} {af : List (List (List UInt8))} {n : Nat} (h : af.length ≤ n) : cntR ns af n = (P28.refL ns 0 af).length := by
  unfold cntR
  rw [List.take_of_length_le h]
theorem KeepsM.at {M M' : Nat → Prop} {A B : World} (h : KeepsM M A M' B) {r : Nat} {o : Obj} (hr : ¬ M r) (ho : A.heap[r]? = some o) : B.heap[r]? = some o := (h.same r hr (Array.getElem?_eq_some_iff.1 ho).1).trans ho
theorem refs_any (d : PDef) (w : World) : Calls Tryz.prog 101 #[d.val] w fun e w' => e = .returned (.func (.func 142) #[] #[.pointer (some ⟨w.heap.size, 0, none⟩)]) ∧ w' = w.alloc (.cells #[.string ⟨d.name.toArray⟩, .string ⟨d.text.toArray⟩, .slice d.sa d.steps.length d.sc] 24) := by
  obtain ⟨nm, tx, sa, sc, ss⟩ := d
  unfold PDef.val
  simp only
  have hmf : ∀ (fn : Fn) (first cap : Array Value) (w : World), (Instr.makeFunc fn first cap).run Tryz.prog w = .ok (.func fn first cap) w := fun _ _ _ _ => rfl
  go_enter Tryz.func101, Tryz.ntmps101
  go_wp2
  go_ret
  exact ⟨rfl, rfl⟩
set_option maxRecDepth 100000 in
set_option maxHeartbeats 8000000 in
theorem refsIter_seq (n : Nat) (d : PDef) (bx : Nat) (R T : Nat → Prop) (W : World) (hbx : W.heap[bx]? = some (.cells #[.string ⟨d.name.toArray⟩, .string ⟨d.text.toArray⟩, .slice d.sa d.steps.length d.sc] 24))
    (hin : d.In W) (hblk : ∀ r, d.blk r → R r) (hbR : R bx) (hR : ∀ r, R r → r < W.heap.size) (haf : ∀ s ∈ d.steps, s.after.length ≤ 1000000) :
    SeqM Fence.wide n Tryz.prog 142 #[.pointer (some ⟨bx, 0, none⟩)] encRef (P28.refL (d.steps.map PSt.name) 0 (d.steps.map PSt.after)) R T W := by
  intro l J Jx hJ hJx hM hY M0 hT0 h0
  have hpl := places_any d W hin
  obtain ⟨nm, tx, sa, sc, ss⟩ := d
  obtain ⟨hsa, hla, hca⟩ := id hin
  obtain ⟨N, hN⟩ : ∃ N, ss.length = N := ⟨_, rfl⟩
  simp only at hsa hla hca hbx haf hpl hY ⊢
  rw [hN] at hla hbx
  unfold PDef.val at hpl
  simp only [hN] at hpl
  have hN9 : N ≤ maxLen := by omega
  unfold maxLen at hN9
  obtain ⟨NS, hNS⟩ : ∃ NS, ss.map PSt.name = NS := ⟨_, rfl⟩
  obtain ⟨AF, hAF⟩ : ∃ AF, ss.map PSt.after = AF := ⟨_, rfl⟩
  rw [hNS] at hpl
  rw [hNS, hAF] at hY ⊢
  have hM0 : ∀ r, M0 r → r < W.heap.size ∧ ¬ R r := hM 0 M0 W h0
  have hY' : ∀ m i x M V, (P28.refL NS 0 AF)[i]? = some x → J i M V → W.heap.size ≤ V.heap.size → YieldAt Fence.wide m Tryz.prog l (encRef x) V fun e W' =>
      ∃ M', KeepsM M V M' W' ∧ ((e = .returned (.bool true) ∧ J (i + 1) M' W') ∨ (e = .returned (.bool false) ∧ Jx (i + 1) M' W')) :=
    fun m i x M V hx hj hs => YieldAt.anyD rfl m (hY i x M V hx hj hs)
  obtain ⟨⟨x0, _⟩, ⟨x1, _⟩, ⟨x2, _⟩⟩ := cell3 hbx
  have HPL := hide hpl
  have HBX := hide hbx
  have HIN := hide hsa
  have HBLK := hide hblk
  have HBR := hide hbR
  have HM0 := hide hM0
  have HM := hide hM
  have HJ := hide hJ
  have HJX := hide hJx
  have HY := hide hY'
  have HN := hide hN
  have HNS := hide hNS
  have HAF := hide hAF
  have HAL := hide haf
  have HRL := hide hR
  clear hpl hbx hsa hin hblk hbR hM0 hM hJ hJx hY hY' hN hNS hAF haf hR hT0 hla hca
  refine callsIn_of_wp Tryz.func142 rfl trivial ?_ rfl
  simp only [Tryz.ntmps142, List.size_toArray, List.length_cons, List.length_nil, Nat.reduceAdd, Nat.reduceSub, Array.replicate_succ, Array.replicate_zero, List.push_toArray, List.append_toArray, List.nil_append, List.cons_append]
  gi_upto_region 1 with (refine ⟨trivial, fun h => (by cases h), ?_⟩; gi_at_call 143; refine (callsIn_wide.2 (unhide HPL)).mono ?_; rintro e w1 ⟨bm, LM, rfl, hbm, hmp, hlk, hb1⟩)
  have hbx1 := (hb1.block bx (unhide HRL _ (unhide HBR))).trans (unhide HBX)
  have hin1 := (unhide HIN).below hb1
  have hj1 := (unhide HJ) 0 M0 W w1 none h0 (grown_of_below hb1 none) (fun r e => by cases e)
  have hz1 := hb1.size
  have hbml := hmp.lt
  obtain ⟨⟨y0, _⟩, ⟨y1, _⟩, ⟨y2, _⟩⟩ := cell3 hbx1
  have HMP := hide hmp
  have HLK := hide hlk
  have HBX1 := hide hbx1
  have HIN1 := hide hin1
  have HJ1 := hide hj1
  clear x0 x1 x2 hmp hlk hb1 hbx1 hin1 hj1 h0 HBX HIN HPL
  gi_wp2
  gi_loopg [15] N (fun g s15 wx => ∃ (i : Nat) (M : Nat → Prop), i + g = N ∧ s15 = .int .i64 i ∧ Hid (KeepsM M0 w1 M wx) ∧ Hid (J (cntR NS AF i) M wx))
  case atStart => exact ⟨0, M0, by omega, by go_num, hide (KeepsM.refl _ _), HJ1⟩
  case round =>
    obtain ⟨i, M, hig, rfl, HK, HJI⟩ := hrel
    clear y0 y1 y2
    have hk := unhide HK
    have hM0' : ∀ r, R r → ¬ M0 r := fun r h1 h2 => (unhide HM0 r h2).2 h1
    have hbx2 := hk.at (hM0' bx (unhide HBR)) (unhide HBX1)
    have hmp2 := (unhide HMP).keep (hk.same bm (fun h => by have := (unhide HM0 bm h).1; omega) hbml)
    have hin2 := (unhide HIN1).keep (fun r hr => hk.same r (hM0' r (unhide HBLK r hr)) ((unhide HIN1).lt hr))
    have hzr := hk.size
    obtain ⟨⟨y0, _⟩, ⟨y1, _⟩, ⟨y2, _⟩⟩ := cell3 hbx2
    cases gk with
    | zero =>
      have e1 : (N : Int) ≤ (i : Int) := by omega
      have j1 : decide ((i : Int) < (N : Int)) = false := by simp; omega
      have hfin := unhide HJI
      rw [cntR_all (by rw [← unhide HAF, List.length_map, unhide HN]; omega)] at hfin
      have HFIN := hide hfin
      clear hfin hk hbx2 hmp2 hin2
      gi_wp2
      go_end0
      exact ⟨⟨_, rfl⟩, M, .inl (unhide HFIN)⟩
    | succ g' =>
      have hlt : (i : Int) < (N : Int) := by omega
      have hki : IntKind.i64.wrap ((i : Int) + 1) = (i : Int) + 1 := IntWalk.i64_in _ (by omega)
      obtain ⟨s1, hg1⟩ := nth_of (unhide HN) (show i < N by omega)
      have haf1 : AF[i]? = some s1.after := by rw [← unhide HAF, List.getElem?_map, hg1]; rfl
      have hal1 := unhide HAL s1 (List.mem_of_getElem? hg1)
      have hsb : ∀ r, s1.blk r → R r := fun r hr => unhide HBLK r (.inr ⟨s1, List.mem_of_getElem? hg1, hr⟩)
      obtain ⟨b1, o1, rfl, c1, hi1⟩ := hin2.get hg1
      obtain ⟨n1, a1, u1, aa1, ac1, af1, q1, fi1, fa1, li1, ⟨k1, t1, ka1, kc1, ks1, da1, dc1, ds1, l1⟩⟩ := s1
      obtain ⟨⟨c0, c1, c2, c3⟩, ⟨c4, c5, c6, c7⟩, ⟨c8, c9, c10, c11, c12⟩⟩ := step_cells c1
      simp only [PSt.aV, Nd.kind, Nd.text, Nd.kV, Nd.dV, Nd.line, Nd.ka, Nd.kc, Nd.keys, Nd.da, Nd.dc, Nd.kids] at c0 c1 c2 c3 c4 c5 c6 c7 c8 c9 c10 c11 c12 haf1 hal1
      obtain ⟨A, hA⟩ : ∃ A, af1.length = A := ⟨_, rfl⟩
      rw [hA] at c3 hal1
      have hkeys := hi1.keys
      simp only at hkeys
      obtain ⟨K, hK⟩ : ∃ K, wr.heap.size = K := ⟨_, rfl⟩
      obtain ⟨V, hV, hbv, r0, hsv⟩ := new1 wr (.cells #[.string ⟨n1.toArray⟩, .string ⟨a1.toArray⟩, .string ⟨u1.toArray⟩, .slice aa1 A ac1, .int .i64 q1, .int .i64 fi1, .int .i64 fa1, .int .i64 li1, .int .u8 k1, .string ⟨t1.toArray⟩, .slice ka1 ks1.length kc1, .slice da1 ds1.length dc1, .int .i64 l1] 63) K hK
      have hjv := (unhide HJ) _ M wr V none (unhide HJI) (by rw [← hV]; exact World.grownBy_alloc _ _ _) (fun r e => by cases e)
      have hml := (unhide HM) _ M wr (unhide HJI)
      have hmv := hmp2.keep (hbv.block bm (by have := hmp2.lt; omega))
      have hkv : InS V aa1 af1 := hkeys.keep (fun r hn hr => hbv.block r (by have := hi1.lt (.inl ⟨hn, hr⟩); omega))
      have y0 := (cell13 r0).2.2.2.1
      have hnm : ∀ r, R r → ¬ M r := fun r h1 h2 => (hml r h2).2 h1
      have hbmM : ¬ M bm := fun h => by
        rcases hk.more bm h with h | h
        · have := (unhide HM0 bm h).1; omega
        · omega
      have HK2 := hide (hk.trans (KeepsM.grown (row := none) (show wr.grownBy V none by rw [← hV]; exact World.grownBy_alloc _ _ _) (fun r e => by cases e)))
      have HV := hide hV
      have HJV := hide hjv
      have HMV := hide hmv
      have HKV := hide hkv
      have HAF1 := hide haf1
      have HA := hide hA
      have HNM := hide hnm
      have HBMM := hide hbmM
      have HSB := hide hsb
      clear hk hbx2 hmp2 hin2 hkeys hi1 hg1 haf1 hA hV hbv r0 hjv hml hmv hkv hM0' HJI HK hnm hbmM hsb
      gi_upto_region 4 with fail
      rw [unhide HV]
      gi_wp2
      gi_loopg [23] A (fun g2 s23 wy => ∃ (j : Nat) (M2 : Nat → Prop), j + g2 = A ∧ s23 = .int .i64 j ∧ Hid (KeepsM M V M2 wy) ∧ Hid (J (cntR NS AF i + j) M2 wy))
      case atStart => exact ⟨0, M, by omega, by go_num, hide (KeepsM.refl _ _), HJV⟩
      case round =>
        obtain ⟨j, M2, hjg, rfl, HK3, HJ3⟩ := hrel
        clear y0
        have hk3 := unhide HK3
        have hmp3 := (unhide HMV).keep (hk3.same bm (unhide HBMM) (by omega))
        have hkv3 := (unhide HKV).keep (fun r hn hr => hk3.same r (unhide HNM r (unhide HSB r (.inl ⟨hn, hr⟩))) (by have := unhide HRL r (unhide HSB r (.inl ⟨hn, hr⟩)); omega))
        have hz3 := hk3.size
        cases gk with
        | zero =>
          have e1 : (A : Int) ≤ (j : Int) := by omega
          have j1 : decide ((j : Int) < (A : Int)) = false := by simp; omega
          have hfin := unhide HJ3
          rw [show j = A by omega, ← unhide HA, ← cntR_next (unhide HAF1)] at hfin
          have HFIN := hide hfin
          have HK4 := hide ((unhide HK2).trans hk3)
          clear hfin hk3 hmp3 hkv3
          gi_wp2
          go_roundg g'
          case measure => omega
          case rel => exact ⟨i + 1, M2, by omega, by go_num, HK4, HFIN⟩
        | succ g2' =>
          have hltj : (j : Int) < (A : Int) := by omega
          have hkj : IntKind.i64.wrap ((j : Int) + 1) = (j : Int) + 1 := IntWalk.i64_in _ (by omega)
          obtain ⟨x, hx⟩ := nth_of (unhide HA) (show j < A by omega)
          obtain ⟨b2, o2, rfl, hcx⟩ := hkv3 j x hx
          have hrg := refL_get (ns := NS) (unhide HAF1) hx
          have hlx := unhide HLK x
          have HMP3 := hide hmp3
          obtain ⟨tt, hto⟩ : ∃ tt, P28.idx NS x = tt := ⟨_, rfl⟩
          rw [hto] at hlx hrg
          cases tt with
          | none =>
            have hYa := ((unhide HY) (n - 1) _ _ M2 wr hrg (unhide HJ3) (by omega)).mono
              (R' := fun e W' => ∃ bb, e = .returned (.bool bb) ∧ Hid (∃ M', KeepsM M2 wr M' W' ∧ ((bb = true ∧ J (cntR NS AF i + j + 1) M' W') ∨ (bb = false ∧ Jx (cntR NS AF i + j + 1) M' W')))) (by
                rintro e W' ⟨M', hk, (⟨rfl, h⟩ | ⟨rfl, h⟩)⟩
                · exact ⟨true, rfl, hide ⟨M', hk, .inl ⟨rfl, h⟩⟩⟩
                · exact ⟨false, rfl, hide ⟨M', hk, .inr ⟨rfl, h⟩⟩⟩)
            obtain ⟨fn, tmps, assign, body, hy, hR⟩ := hYa
            replace hy : (Instr.yield l #[.agg #[.int .i64 i, .string ⟨x.toArray⟩, .int .i64 (-1)]]).run Tryz.prog wr = .ok (.round l fn tmps assign body) wr := hy
            have HLX := hide hlx
            have hil : cntR NS AF i + j < (P28.refL NS 0 AF).length := (List.getElem?_eq_some_iff.1 hrg).1
            clear hlx hrg hk3 hmp3 hkv3 hx hto
            gi_wp2_with (refine wpListIn_lookOk rfl _ _ rfl (unhide HMP3) keyS Tryz.underlying205 (zeroI _) rfl x rfl (unhide HLX) ?_)
            refine ⟨fun h => (by cases h), hR.mono ?_⟩
            rintro e W3 ⟨bb, rfl, HB⟩
            clear hy hR
            cases bb
            · gi_wp2
              refine bodyPost_ret (results_none rfl _ _ _) rfl ?_
              obtain ⟨M', hk, (⟨h, _⟩ | ⟨_, h⟩)⟩ := unhide HB
              · cases h
              · exact ⟨⟨_, rfl⟩, M', .inr ⟨_, hil, h⟩⟩
            · have hJ4 : ∃ M', KeepsM M2 wr M' W3 ∧ J (cntR NS AF i + (j + 1)) M' W3 := by
                obtain ⟨M', hk, (⟨_, h⟩ | ⟨h, _⟩)⟩ := unhide HB
                · exact ⟨M', hk, h⟩
                · cases h
              have HJ4 := hide hJ4
              clear hJ4 HB
              gi_wp2
              go_roundg g2'
              case measure => omega
              case rel =>
                obtain ⟨M', hk, h⟩ := unhide HJ4
                exact ⟨j + 1, M', by omega, by go_num, hide ((unhide HK3).trans hk), hide h⟩
          | some q =>
            have hYa := ((unhide HY) (n - 1) _ _ M2 wr hrg (unhide HJ3) (by omega)).mono
              (R' := fun e W' => ∃ bb, e = .returned (.bool bb) ∧ Hid (∃ M', KeepsM M2 wr M' W' ∧ ((bb = true ∧ J (cntR NS AF i + j + 1) M' W') ∨ (bb = false ∧ Jx (cntR NS AF i + j + 1) M' W')))) (by
                rintro e W' ⟨M', hk, (⟨rfl, h⟩ | ⟨rfl, h⟩)⟩
                · exact ⟨true, rfl, hide ⟨M', hk, .inl ⟨rfl, h⟩⟩⟩
                · exact ⟨false, rfl, hide ⟨M', hk, .inr ⟨rfl, h⟩⟩⟩)
            obtain ⟨fn, tmps, assign, body, hy, hR⟩ := hYa
            replace hy : (Instr.yield l #[.agg #[.int .i64 i, .string ⟨x.toArray⟩, .int .i64 (q)]]).run Tryz.prog wr = .ok (.round l fn tmps assign body) wr := hy
            have hlx2 : lk LM x = some (.int .i64 (q : Int)) := hlx
            have HLX := hide hlx2
            clear hlx2
            have hil : cntR NS AF i + j < (P28.refL NS 0 AF).length := (List.getElem?_eq_some_iff.1 hrg).1
            clear hlx hrg hk3 hmp3 hkv3 hx hto
            gi_wp2_with (refine wpListIn_lookOk rfl _ _ rfl (unhide HMP3) keyS Tryz.underlying205 (zeroI _) rfl x rfl (unhide HLX) ?_)
            refine ⟨fun h => (by cases h), hR.mono ?_⟩
            rintro e W3 ⟨bb, rfl, HB⟩
            clear hy hR
            cases bb
            · gi_wp2
              refine bodyPost_ret (results_none rfl _ _ _) rfl ?_
              obtain ⟨M', hk, (⟨h, _⟩ | ⟨_, h⟩)⟩ := unhide HB
              · cases h
              · exact ⟨⟨_, rfl⟩, M', .inr ⟨_, hil, h⟩⟩
            · have hJ4 : ∃ M', KeepsM M2 wr M' W3 ∧ J (cntR NS AF i + (j + 1)) M' W3 := by
                obtain ⟨M', hk, (⟨_, h⟩ | ⟨h, _⟩)⟩ := unhide HB
                · exact ⟨M', hk, h⟩
                · cases h
              have HJ4 := hide hJ4
              clear hJ4 HB
              gi_wp2
              go_roundg g2'
              case measure => omega
              case rel =>
                obtain ⟨M', hk, h⟩ := unhide HJ4
                exact ⟨j + 1, M', by omega, by go_num, hide ((unhide HK3).trans hk), hide h⟩
end Go.Proofs.YtefokfbgpfcbkaaGreat
namespace Go.Proofs.YtefokfbgpfcbkaaGreat
set_option linter.unusedVariables false
set_option linter.unusedSimpArgs false
open Go.RowKit
def iv (j : Nat) : Value := .int .i64 (j : Int)
theorem infoInt : (Tryz.prog.info? 3).map (fun i => (i.zero, i.size, i.bytes)) = some (some (.int .i64 0), 1, 8) := by kernel_rfl
theorem infoRow : (Tryz.prog.info? 48).map (fun i => (i.zero, i.size, i.bytes)) = some (some (.slice none 0 0), 1, 24) := by kernel_rfl
def OwnN (W : World) (B : Nat) (v : Value) (l : List Nat) : Prop := W.ownsRow B 3 1 v l.length (l.map iv)
theorem OwnN.nil (W : World) (B : Nat) : OwnN W B (.slice none 0 0) [] := World.ownsRow_nil W B 3 1
theorem OwnN.keep {W W' : World} {B : Nat} {v : Value} {l : List Nat} (h : OwnN W B v l) (hk : ∀ g, v.ownBlock = some g → W'.heap[g]? = W.heap[g]?) : OwnN W' B v l := own_keep h hk
theorem OwnN.lt {W : World} {B : Nat} {v : Value} {l : List Nat} (h : OwnN W B v l) {g : Nat} (hg : v.ownBlock = some g) : B ≤ g ∧ g < W.heap.size := own_block_lt h g hg
theorem OwnN.base {W : World} {B B' : Nat} {v : Value} {l : List Nat} (h : OwnN W B v l) (hB : B' ≤ B) : OwnN W B' v l := by
  refine ⟨h.1, ?_⟩
  rcases h.2 with h2 | ⟨g, cap, cur, e1, e2, e3⟩
  · exact .inl h2
  · exact .inr ⟨g, cap, cur, e1, Nat.le_trans hB e2, e3⟩
def InN (W : World) (a : Option Addr) (l : List Nat) : Prop := ∀ i x, l[i]? = some x → ∃ b o, a = some ⟨b, o, none⟩ ∧ W.cell? ⟨b, o + i, none⟩ = some (iv x)
theorem OwnN.slice {W : World} {B : Nat} {v : Value} {l : List Nat} (h : OwnN W B v l) : ∃ a c, v = .slice a l.length c ∧ l.length ≤ c ∧ c ≤ maxLen ∧ InN W a l := by
  rcases h.2 with ⟨rfl, h0⟩ | ⟨g, cap, cur, rfl, hb, hh, hc, hm, hsz, htk⟩
  · have : l = [] := List.eq_nil_of_length_eq_zero h0
    subst this
    exact ⟨none, 0, rfl, Nat.le_refl _, Nat.zero_le _, fun i x hx => by simp at hx⟩
  · refine ⟨_, cap, rfl, hc, hm, fun i x hx => ⟨g, 0, rfl, ?_⟩⟩
    have hil := (List.getElem?_eq_some_iff.1 hx).1
    have h1 : (l.map iv)[i]? = some (iv x) := by rw [List.getElem?_map, hx]; rfl
    rw [← htk, List.getElem?_take_of_lt (by omega)] at h1
    rw [Nat.zero_add, cell_of_row W g i cur _ (0, 0) hh]
    simpa using h1
structure Grid (W : World) (B b : Nat) (vs : Nat → Value) (R : List (List Nat)) : Prop where
  row : W.rowIs b 48 R.length vs
  base : B ≤ b
  own : ∀ i l, R[i]? = some l → OwnN W B (vs i) l
  apart : ∀ i, i < R.length → (vs i).ownBlock ≠ some b
  sep : ∀ i j g, i < R.length → j < R.length → i ≠ j → (vs i).ownBlock = some g → (vs j).ownBlock ≠ some g
def gridB (b : Nat) (vs : Nat → Value) (n : Nat) (g : Nat) : Prop := g = b ∨ ∃ i, i < n ∧ (vs i).ownBlock = some g
theorem Grid.keep {W W' : World} {B b : Nat} {vs : Nat → Value} {R : List (List Nat)} (h : Grid W B b vs R) (hk : ∀ g, gridB b vs R.length g → W'.heap[g]? = W.heap[g]?) : Grid W' B b vs R :=
  ⟨h.row.of_block (hk b (.inl rfl)), h.base, fun i l hi => (h.own i l hi).keep (fun g hg => hk g (.inr ⟨i, (List.getElem?_eq_some_iff.1 hi).1, hg⟩)), h.apart, h.sep⟩
theorem Grid.lt {W : World} {B b : Nat} {vs : Nat → Value} {R : List (List Nat)} (h : Grid W B b vs R) {g : Nat} (hg : gridB b vs R.length g) : B ≤ g ∧ g < W.heap.size := by
  rcases hg with rfl | ⟨i, hi, hg⟩
  · exact ⟨h.base, h.row.lt⟩
  · exact (h.own i _ (List.getElem?_eq_getElem hi)).lt hg
theorem Grid.below {W W' : World} {B b : Nat} {vs : Nat → Value} {R : List (List Nat)} (h : Grid W B b vs R) (hb : Below W.heap.size W W') : Grid W' B b vs R := h.keep (fun g hg => hb.block g (h.lt hg).2)
theorem Grid.low {W : World} {B B' b : Nat} {vs : Nat → Value} {R : List (List Nat)} (h : Grid W B b vs R) (hB : B' ≤ B) : Grid W B' b vs R := ⟨h.row, Nat.le_trans hB h.base, fun i l hi => (h.own i l hi).base hB, h.apart, h.sep⟩
theorem Grid.put {W W1 : World} {B b : Nat} {vs : Nat → Value} {R : List (List Nat)} (h : Grid W B b vs R) {i : Nat} (hi : i < R.length) {l' : List Nat} {v' : Value} (ho : OwnN W1 B v' l') (hg : W.grownBy W1 (vs i).ownBlock) (hat : v'.ownBlock = (vs i).ownBlock ∨ ∃ g, v'.ownBlock = some g ∧ W.heap.size ≤ g) :
    Grid (W1.setCell ⟨b, i, none⟩ v') B b (fun j => if j = i then v' else vs j) (R.set i l') := by
  have hnb : v'.ownBlock ≠ some b := fun e => by
    rcases hat with h1 | ⟨g, h1, h2⟩
    · rw [h1] at e; exact h.apart i hi e
    · rw [h1] at e; cases e; have := h.row.lt; omega
  have hb1 : W1.heap[b]? = W.heap[b]? := hg.block b h.row.lt (fun e => h.apart i hi e.symm)
  have hot : ∀ j, j < R.length → j ≠ i → ∀ g, (vs j).ownBlock = some g → v'.ownBlock ≠ some g ∧ g ≠ b ∧ W1.heap[g]? = W.heap[g]? := fun j hj hji g hg1 => by
    have hl := ((h.own j _ (List.getElem?_eq_getElem hj)).lt hg1).2
    refine ⟨fun e => ?_, fun e => h.apart j hj (by rw [hg1, e]), hg.block g hl (fun e => h.sep j i g hj hi hji hg1 e.symm)⟩
    rcases hat with h1 | ⟨g2, h1, h2⟩
    · rw [h1] at e; exact h.sep j i g hj hi hji hg1 e
    · rw [h1] at e; cases e; omega
  refine ⟨?_, h.base, fun j l hj => ?_, fun j hj => ?_, fun j k g hj hk hjk hg1 => ?_⟩
  · rw [List.length_set]
    exact (h.row.of_block hb1).set i v'
  · rw [List.getElem?_set] at hj
    by_cases hji : i = j
    · subst hji
      rw [if_pos rfl, if_pos hi] at hj
      cases hj
      simp only [if_true]
      exact ho.keep (fun g hg1 => Below.heap_setCell _ _ _ _ (fun e => hnb (by rw [hg1]; exact congrArg some e)))
    · rw [if_neg hji] at hj
      have hjl := (List.getElem?_eq_some_iff.1 hj).1
      simp only [if_neg (Ne.symm hji)]
      refine (h.own j l hj).keep (fun g hg1 => ?_)
      obtain ⟨_, q2, q3⟩ := hot j hjl (Ne.symm hji) g hg1
      exact (Below.heap_setCell _ _ _ _ q2).trans q3
  · rw [List.length_set] at hj
    by_cases hji : j = i
    · simp only [if_pos hji]; exact hnb
    · simp only [if_neg hji]; exact h.apart j hj
  · rw [List.length_set] at hj hk
    by_cases hji : j = i
    · have hki : k ≠ i := fun e => hjk (hji.trans e.symm)
      simp only [if_pos hji] at hg1
      simp only [if_neg hki]
      intro e
      exact (hot k hk hki g e).1 hg1
    · simp only [if_neg hji] at hg1
      by_cases hki : k = i
      · simp only [if_pos hki]
        exact (hot j hj hji g hg1).1
      · simp only [if_neg hki]
        exact h.sep j k g hj hk hjk hg1
theorem grid_made {W : World} {B b n : Nat} (h : W.rowIs b 48 n (fun _ => .slice none 0 0)) (hB : B ≤ b) : Grid W B b (fun _ => .slice none 0 0) (List.replicate n []) where
  row := by rw [List.length_replicate]; exact h
  base := hB
  own := fun i l hi => by
    have : l = [] := by
      have := List.mem_of_getElem? hi
      exact (List.mem_replicate.1 this).2
    subst this
    exact OwnN.nil W B
  apart := fun i _ e => by cases e
  sep := fun i j g _ _ _ e => by cases e
end Go.Proofs.YtefokfbgpfcbkaaGreat
namespace Go.Proofs.YtefokfbgpfcbkaaGreat
set_option linter.unusedVariables false
set_option linter.unusedSimpArgs false
open Go.RowKit
attribute [local go_sem] Oper.semAt_some
theorem inN_cells {W : World} {a : Option Addr} {l : List Nat} (h : InN W a l) (hn : l ≠ []) : ∃ b o, a = some ⟨b, o, none⟩ ∧ ∀ j, j < (l.map (fun x : Nat => (x : Int))).length → W.cell? ⟨b, o + j, none⟩ = some (.int .i64 ((l.map (fun x : Nat => (x : Int))).getD j 0)) := by
  obtain ⟨x, r, rfl⟩ : ∃ x r, l = x :: r := by cases l with | nil => exact absurd rfl hn | cons x r => exact ⟨x, r, rfl⟩
  obtain ⟨b, o, rfl, _⟩ := h 0 x rfl
  refine ⟨b, o, rfl, fun j hj => ?_⟩
  rw [List.length_map] at hj
  obtain ⟨b', o', e, hc⟩ := h j _ (List.getElem?_eq_getElem hj)
  cases e
  rw [hc]
  unfold iv
  congr 2
  rw [List.getD_eq_getElem?_getD, List.getElem?_map, List.getElem?_eq_getElem hj]
  rfl
theorem containsN_any (a : Option Addr) (c : Nat) (l : List Nat) (x : Int) (w : World) (h : InN w a l) (hl : l.length ≤ maxLen) :
    Calls Tryz.prog 77 #[.slice a l.length c, .int .i64 x] w fun e w' => e = .returned (.bool (decide (x ∈ l.map (fun y : Nat => (y : Int))))) ∧ w' = w := by
  unfold maxLen at hl
  by_cases hn : l = []
  · subst hn
    exact Tryz.slices_Contains_int_empty a c x w
  · obtain ⟨b, o, rfl, hc⟩ := inN_cells h hn
    refine (Tryz.slices_Contains_int b o l.length c (l.map (fun y : Nat => (y : Int))) x w (by simp) (by omega) hc).mono ?_
    rintro e w' ⟨rfl, rfl⟩
    refine ⟨ret_bool ?_, rfl⟩
    rw [List.take_of_length_le (by simp), Bool.eq_iff_iff, List.contains_iff_mem, decide_eq_true_eq]
def rowsAt (L : List P28.Ref) (N i : Nat) : List (List Nat) := (L.take i).foldl P28.addRef (List.replicate N [])
theorem rowsAt_next {L : List P28.Ref} {N i : Nat} {r : P28.Ref} (h : L[i]? = some r) : rowsAt L N (i + 1) = P28.addRef (rowsAt L N i) r := by
  unfold rowsAt
  rw [List.take_add_one, h, show (some r).toList = [r] from rfl, List.foldl_append]
  rfl
theorem foldl_addRef_len : ∀ (L : List P28.Ref) (o : List (List Nat)), (L.foldl P28.addRef o).length = o.length
  | [], o => rfl
  | r :: L, o => by rw [List.foldl_cons, foldl_addRef_len L]; simp [P28.addRef]
theorem rowsAt_len (L : List P28.Ref) (N i : Nat) : (rowsAt L N i).length = N := by unfold rowsAt; rw [foldl_addRef_len]; simp
theorem addTo_len (i : Nat) (l : List Nat) (tt : Option Nat) : (P28.addTo i l tt).length ≤ l.length + 1 := by
  unfold P28.addTo
  split
  · split <;> simp
  · omega
theorem foldl_addRef_rl : ∀ (L : List P28.Ref) (o : List (List Nat)) (k : Nat), (∀ (j : Nat) (l : List Nat), o[j]? = some l → l.length ≤ k) → ∀ (j : Nat) (l : List Nat), (L.foldl P28.addRef o)[j]? = some l → l.length ≤ k + L.length
  | [], o, k, h, j, l, hj => h j l hj
  | r :: L, o, k, h, j, l, hj => by
    rw [List.foldl_cons] at hj
    have := foldl_addRef_rl L (P28.addRef o r) (k + 1) (fun j' l' h' => by
      unfold P28.addRef at h'
      rw [List.getElem?_set] at h'
      split at h'
      · split at h'
        · cases h'
          refine Nat.le_trans (addTo_len _ _ _) ?_
          rw [List.getD_eq_getElem?_getD]
          cases hq : o[r.1]? with
          | none => simp
          | some q => have := h _ _ hq; simp; omega
        · cases h'
      · have := h j' l' h'; omega) j l hj
    simp only [List.length_cons]
    omega
theorem refL_len_le (ns : List (List UInt8)) (c : Nat) : ∀ (a : List (List (List UInt8))) (k : Nat), (∀ x ∈ a, x.length ≤ c) → (P28.refL ns k a).length ≤ a.length * c
  | [], k, h => by simp [P28.refL]
  | x :: a, k, h => by
    have e : P28.refL ns k (x :: a) = x.map (fun y => (k, y, P28.idx ns y)) ++ P28.refL ns (k + 1) a := rfl
    have h1 := refL_len_le ns c a (k + 1) (fun y hy => h y (by simp [hy]))
    have h2 := h x (by simp)
    rw [e, List.length_append, List.length_map, List.length_cons, Nat.add_mul]
    omega
theorem refL_fst (ns : List (List UInt8)) : ∀ (a : List (List (List UInt8))) (k : Nat) (r : P28.Ref), r ∈ P28.refL ns k a → r.1 < k + a.length
  | [], k, r, h => by simp [P28.refL] at h
  | x :: a, k, r, h => by
    have e : P28.refL ns k (x :: a) = x.map (fun y => (k, y, P28.idx ns y)) ++ P28.refL ns (k + 1) a := rfl
    rw [e] at h
    rcases List.mem_append.1 h with h | h
    · obtain ⟨y, _, rfl⟩ := List.mem_map.1 h
      simp
    · have := refL_fst ns a (k + 1) r h
      simp
      omega
theorem addRef_same {o : List (List Nat)} {i : Nat} {x : List UInt8} {tt : Option Nat} {l : List Nat} (h : o[i]? = some l) (hs : P28.addTo i l tt = l) : P28.addRef o (i, x, tt) = o := by
  unfold P28.addRef
  simp only
  have e : o.getD i [] = l := by rw [List.getD_eq_getElem?_getD, h]; rfl
  rw [e, hs]
  obtain ⟨h1, h2⟩ := List.getElem?_eq_some_iff.1 h
  rw [← h2]
  simp
theorem addRef_more {o : List (List Nat)} {i : Nat} {x : List UInt8} {j : Nat} {l : List Nat} (h : o[i]? = some l) (hj : j ≠ i) (hl : j ∉ l) : P28.addRef o (i, x, some j) = o.set i (l ++ [j]) := by
  unfold P28.addRef
  simp only
  have e : o.getD i [] = l := by rw [List.getD_eq_getElem?_getD, h]; rfl
  rw [e]
  unfold P28.addTo
  simp only
  rw [if_pos ⟨hj, hl⟩]
structure RfI (w : World) (H N : Nat) (Rw : List (List Nat)) (X M : Nat → Prop) (V : World) : Prop where
  grid : ∃ vs, Grid V H (H + 1) vs Rw ∧ (∀ g, gridB (H + 1) vs N g → M g ∧ ¬ X g)
  len : Rw.length = N
  box : V.heap[H + 1 + 1]? = some (.cells #[.slice (some ⟨H + 1, 0, none⟩) N N] 47)
  below : Below H w V
  size : H + 4 ≤ V.heap.size
  ms : ∀ g, M g → H ≤ g ∧ g ≠ H + 1 + 1 ∧ g ≠ H + 1 + 1 + 1 ∧ g < V.heap.size
theorem RfI.abides {w : World} {H N : Nat} {Rw : List (List Nat)} {X M : Nat → Prop} {V V' : World} {row : Option Nat} (h : RfI w H N Rw X M V) (hg : V.grownBy V' row) (hr : ∀ r, row = some r → ¬ M r ∧ ¬ (r < H ∨ r = H + 1 + 1 ∨ r = H + 1 + 1 + 1)) : RfI w H N Rw X M V' := by
  obtain ⟨⟨vs, hgr, hgM⟩, hl, hb, hbl, hs, hm⟩ := h
  refine ⟨⟨vs, hgr.keep (fun g hgb => hg.block g (hgr.lt hgb).2 (fun e => ?_)), hgM⟩, hl, (hg.block _ (by omega) (fun e => ?_)).trans hb, hbl.grown hg (by omega) (fun k e => ?_), Nat.le_trans hs hg.size, fun g hg1 => ?_⟩
  · exact (hr g e.symm).1 (hgM g (by rw [← hl]; exact hgb)).1
  · exact (hr _ e.symm).2 (.inr (.inl rfl))
  · have := (hr k e).2; omega
  · have := hm g hg1; have := hg.size; omega
theorem same_mid {ops : Array Oper} {xs ys : List Value} (n m : Nat) (hd : ((List.range' n m).all fun t => ops.any fun o => o.dst == some t) = true) (h1 : xs.take n = ys.take n) (h2 : xs.drop (n + m) = ys.drop (n + m)) (t : Nat) : (∃ (i : Nat) (o : Oper), ops[i]? = some o ∧ o.dst = some t) ∨ xs.toArray[t]? = ys.toArray[t]? := by
  by_cases ha : t < n
  · right
    have := congrArg (fun l : List Value => l[t]?) h1
    simpa [List.getElem?_take, ha] using this
  · by_cases hb : t < n + m
    · left
      have h3 := List.all_eq_true.1 hd t (List.mem_range'_1.2 ⟨by omega, by omega⟩)
      obtain ⟨o, ho, h4⟩ := Array.any_eq_true'.1 h3
      obtain ⟨i, hi, rfl⟩ := Array.mem_iff_getElem.1 ho
      exact ⟨i, _, Array.getElem?_eq_getElem hi, beq_iff_eq.1 h4⟩
    · right
      have := congrArg (fun l : List Value => l[t - (n + m)]?) h2
      simp only [List.getElem?_drop, show n + m + (t - (n + m)) = t by omega] at this
      simpa using this
def RfPh (U : World) (H xi : Nat) (v : Value) (l : List Nat) (j : Nat) : Nat → Value → Value → World → Prop
  | 0, _, _, W => W = U
  | 1, x3, _, W => W = U.alloc (.cells #[.int .i64 j] 3) ∧ x3 = .slice (some ⟨U.heap.size, 0, none⟩) 1 1
  | 2, _, x4, W => OwnN W H x4 (l ++ [j]) ∧ (U.alloc (.cells #[.int .i64 j] 3)).grownBy W v.ownBlock ∧ (v.ownBlock = x4.ownBlock ∨ ∃ g, x4.ownBlock = some g ∧ U.heap.size + 1 ≤ g)
  | _, _, x4, W => ∃ W1, OwnN W1 H x4 (l ++ [j]) ∧ (U.alloc (.cells #[.int .i64 j] 3)).grownBy W1 v.ownBlock ∧ (v.ownBlock = x4.ownBlock ∨ ∃ g, x4.ownBlock = some g ∧ U.heap.size + 1 ≤ g) ∧ W = W1.setCell ⟨H + 1, xi, none⟩ x4
theorem RfPh.keep {U : World} {H xi : Nat} {v : Value} {l : List Nat} {j k : Nat} {x3 x4 : Value} {W : World} (h : RfPh U H xi v l j k x3 x4 W) (hk : k ≤ 2) {b : Nat} (hb : b < U.heap.size) (hv : some b ≠ v.ownBlock) : W.heap[b]? = U.heap[b]? := by
  match k, hk with
  | 0, _ => rw [show W = U from h]
  | 1, _ => rw [h.1]; exact heap_alloc_old U _ hb
  | 2, _ => exact (h.2.1.block b (by simp; omega) hv).trans (heap_alloc_old U _ hb)
theorem app_int {W : World} {B : Nat} {v : Value} {l : List Nat} {j : Nat} {g cap ty : Nat} (hown : OwnN W B v l) (hnew : W.cell? ⟨g, 0, none⟩ = some (.int .i64 j)) (hlen : l.length + 1 ≤ 1000000000000) (hB : B ≤ W.heap.size) :
    ∃ g' cap' w', (Builtin.append_ #[48, 48] ty #[v, .slice (some ⟨g, 0, none⟩) 1 cap]).run Tryz.prog W = .ok (.slice (some ⟨g', 0, none⟩) (l.length + 1) cap') w' ∧ OwnN w' B (.slice (some ⟨g', 0, none⟩) (l.length + 1) cap') (l ++ [j]) ∧ W.grownBy w' v.ownBlock ∧ (v.ownBlock = some g' ∨ g' = W.heap.size) := by
  obtain ⟨i, hi, hz, hsz, hby⟩ := info_parts infoInt
  obtain ⟨g', cap', w', h1, h2, h3, h4, _⟩ := run_append_lies (P := Tryz.prog) W 48 ty B 3 i (.int .i64 0) 1 8 Tryz.underlying48 hi hz hsz hby rfl (by decide) v l.length (l.map iv) hown
    ⟨g, 0, none⟩ 1 cap [.int .i64 j] rfl (by intro k u hk; match k, hk with | 0, hk => simp at hk; subst hk; exact hnew) (by intro u hu; simp at hu; subst hu; rfl) (by decide) (by unfold maxLen; omega) (by omega) hB _ rfl
  refine ⟨g', cap', w', h1, ?_, h3, h4⟩
  unfold OwnN
  rw [List.length_append, List.map_append]
  exact h2
set_option maxRecDepth 100000 in
set_option maxHeartbeats 8000000 in
theorem Refs_any (d : PDef) (w : World) (hin : d.In w) (hl : d.steps.length ≤ 100000) (haf : ∀ s ∈ d.steps, s.after.length ≤ 1000000) :
    Calls Tryz.prog 59 #[d.val] w fun e w' => ∃ b vs, e = .returned (.slice (some ⟨b, 0, none⟩) d.steps.length d.steps.length) ∧ Grid w' w.heap.size b vs (P28.refs d.bare) ∧ Below w.heap.size w w' := by
  have hfold := P28.refs_fold d.bare
  have hns : P28.names d.bare = d.steps.map PSt.name := by simp [P28.names, PDef.bare, PSt.bare]
  have has : P28.afters d.bare = d.steps.map PSt.after := by simp [P28.afters, PDef.bare, PSt.bare]
  have hbl : d.bare.steps.length = d.steps.length := by simp [PDef.bare]
  rw [hns, has, hbl] at hfold
  obtain ⟨L, hL⟩ : ∃ L, P28.refL (d.steps.map PSt.name) 0 (d.steps.map PSt.after) = L := ⟨_, rfl⟩
  have hrefs := refs_any d
  obtain ⟨RS, hRS⟩ : ∃ RS, P28.refs d.bare = RS := ⟨_, rfl⟩
  have hdlt := fun r (hr : d.blk r) => hin.lt hr
  rw [hL, hRS] at hfold
  rw [hRS]
  obtain ⟨H, hH⟩ : ∃ H, w.heap.size = H := ⟨_, rfl⟩
  rw [hH] at hdlt ⊢
  have hseq0 := fun (V : World) (bx : Nat) (R T : Nat → Prop) (n : Nat) h1 (h2 : d.In V) h3 h4 h5 => refsIter_seq n d bx R T V h1 h2 h3 h4 h5 haf
  rw [hL] at hseq0
  have HIN := hide hin
  have HDLT := hide hdlt
  have HSEQ := hide hseq0
  have HREFS := hide hrefs
  have HL := hide hL
  have HFOLD := hide hfold
  have hLlt : ∀ (i : Nat) (r : P28.Ref), L[i]? = some r → r.1 < d.steps.length := fun i r h => by
    have := refL_fst _ _ _ r (by rw [hL]; exact List.mem_of_getElem? h)
    simpa using this
  have hLn : L.length ≤ 100000000000 := by
    have h1 := refL_len_le (d.steps.map PSt.name) 1000000 (d.steps.map PSt.after) 0 (fun x hx => by
      obtain ⟨s, hs, rfl⟩ := List.mem_map.1 hx
      exact haf s hs)
    rw [unhide HL, List.length_map] at h1
    have h2 : d.steps.length * 1000000 ≤ 100000 * 1000000 := Nat.mul_le_mul_right _ hl
    omega
  have HLN := hide hLn
  have HLLT := hide hLlt
  clear hin hdlt hseq0 hrefs hL hfold hRS hns has hbl haf hLlt hLn
  obtain ⟨nm, tx, sa, sc, ss⟩ := d
  obtain ⟨N, hN⟩ : ∃ N, ss.length = N := ⟨_, rfl⟩
  simp only at hl HREFS HSEQ HFOLD HLLT ⊢
  unfold PDef.val at HREFS ⊢
  simp only at HREFS ⊢
  rw [hN] at hl HREFS HSEQ HFOLD HLLT ⊢
  have hmk := fun V => run_make_row' (P := Tryz.prog) 47 48 (.slice none 0 0) 24 Tryz.underlying47 infoRow rfl .i64 .i64 N (by omega) (by omega) V
  obtain ⟨W1, hW1, hb1, g0, g1, g2, hs1⟩ := new3 w (.cells #[.string ⟨nm.toArray⟩, .string ⟨tx.toArray⟩, .slice sa N sc] 24) (.cells (madeCells #[.slice none 0 0] N) 48) (.cells #[.slice (some ⟨H + 1, 0, none⟩) N N] 47) H hH
  have x0 := cell3 (World.alloc_heap_new w (.cells #[.string ⟨nm.toArray⟩, .string ⟨tx.toArray⟩, .slice sa N sc] 24))
  rw [hH] at x0
  have HW1 := hide hW1
  clear hW1
  refine (callsIn_wide (n := 40)).1 ?_
  refine callsIn_of_wp_marks Tryz.func59 rfl trivial ?_ rfl
  simp only [Tryz.ntmps59, List.size_toArray, List.length_cons, List.length_nil, Nat.reduceAdd, Nat.reduceSub, Array.replicate_succ, Array.replicate_zero, List.push_toArray, List.append_toArray, List.nil_append, List.cons_append]
  gi_upto_region 1 with fail
  try rw [hH]
  gi_upto_region 2 with fail
  rw [unhide HW1]
  have y0 := cell3 g0
  gi_upto_region 3 with (refine ⟨trivial, ?_⟩; gi_at_call 101; refine (callsIn_wide.2 (unhide HREFS _)).mono ?_; rintro e w2 ⟨rfl, rfl⟩)
  obtain ⟨W2, hW2, hb2, g3, hs2⟩ := new1 W1 (.cells #[.string ⟨nm.toArray⟩, .string ⟨tx.toArray⟩, .slice sa N sc] 24) (H + 1 + 1 + 1) hs1
  rw [hW2]
  have hbw2 : Below H w W2 := hb1.trans (hb2.mono (by omega))
  have hin2 := (unhide HIN).below (by rw [hH]; exact hbw2)
  have r1 : W2.rowIs (H + 1) 48 N (fun _ => .slice none 0 0) := by
    have h := (hb2.block (H + 1) (by omega)).trans g1
    exact ⟨_, h, size_madeCells _ _, fun i hi => by simp [madeCells, hi, Nat.mod_one]⟩
  have r2 := (hb2.block (H + 1 + 1) (by omega)).trans g2
  clear hW2 x0 y0 hb1 hb2 g0 g1 g2 hs1
  refine wpIn_rangeFunc_MA rfl (by omega) (gf := 142) (lb := #[.pointer (some ⟨H + 1 + 1 + 1, 0, none⟩)]) rfl trivial (enters_of Tryz.func142 (by kernel_rfl) rfl)
    (encs := encRef) L (fun r => r < H ∨ r = H + 1 + 1 ∨ r = H + 1 + 1 + 1) (fun _ => False) (fun r hr => by omega)
    (fun V hg _ => (unhide HSEQ) V (H + 1 + 1 + 1) _ _ _ ((hg.block _ (by omega) (by simp)).trans g3) (hin2.keep (fun r hr => hg.block r (by have := unhide HDLT r hr; omega) (by simp))) (fun r hr => .inl (unhide HDLT r hr)) (.inr (.inr rfl)) (fun r hr => by have := hg.size; omega)) (fun _ => rfl)
    (fun i M V => RfI w H N (rowsAt L N i) (fun _ => False) M V) (fun c i M V => False)
    (fun i M V V' row hi hg hr => hi.abides hg hr) (fun c i M V V' row hi hg hr => hi)
    (fun i M V hi r hr => ⟨(hi.ms r hr).2.2.2, by have := hi.ms r hr; omega⟩)
    (fun r => gridB (H + 1) (fun _ => .slice none 0 0) N r) (fun r hr => hr.elim)
    ⟨⟨_, grid_made r1 (by omega), fun g hg => ⟨hg, fun h => h⟩⟩, rowsAt_len L N 0, r2, hbw2, by omega, fun g hg => by
      rcases hg with rfl | ⟨i, _, hg⟩
      · omega
      · cases hg⟩
    (fun i x M a' V => ∃ p, RfI w H N (rowsAt L N i) (fun g => g = p) M V ∧ M p ∧ V.heap[p]? = some (.cells #[.int .i64 x.1, .string ⟨x.2.1.toArray⟩, .int .i64 (toV x.2.2)] 167) ∧
      a' = { tmps := #[(.agg #[.string ⟨nm.toArray⟩, .string ⟨tx.toArray⟩, .slice sa N sc]), .pointer (some ⟨H, 0, none⟩), .slice none 0 0, .pointer (some ⟨H + 1 + 1, 0, none⟩), .pointer (some ⟨p, 0, none⟩), .pointer (some ⟨H, 2, none⟩), .slice sa N sc, .int .i64 N, .slice (some ⟨H + 1, 0, none⟩) N N, (.agg #[.string ⟨nm.toArray⟩, .string ⟨tx.toArray⟩, .slice sa N sc]), .func (.func 142) #[] #[.pointer (some ⟨H + 1 + 1 + 1, 0, none⟩)], .agg #[.int .i64 x.1, .string ⟨x.2.1.toArray⟩, .int .i64 (toV x.2.2)], undef, undef, undef, undef, undef, undef, undef, undef, undef, undef, undef, undef, undef, undef, undef, undef, undef, undef, undef, undef, undef, undef, undef, undef, undef, undef, undef, undef, undef, undef, undef, undef, undef, undef, undef], defers := [] })
    ?hB ?assign ?body ?done ?stop
  case hB =>
    rintro i x M a' V V' row ⟨p, hi, hp1, hp3, rfl⟩ hg hr
    exact ⟨p, hi.abides hg hr, hp1, (hg.block p (Array.getElem?_eq_some_iff.1 hp3).1 (fun e => (hr p e.symm).1 hp1)).trans hp3, rfl⟩
  case assign =>
    rintro l2 i ⟨xi, xn, xt⟩ M V K hx hi hV hK
    unfold encRef
    have hgr := World.grownBy_alloc V (.cells #[.int .i64 xi, .string ⟨xn.toArray⟩, .int .i64 (toV xt)] 167) none
    have hKK := hK (fun r => M r ∨ r = V.heap.size) _ (V.alloc (.cells #[.int .i64 xi, .string ⟨xn.toArray⟩, .int .i64 (toV xt)] 167)) hgr (fun r hr => hr.imp id (fun e => by omega))
      ⟨V.heap.size, by
        obtain ⟨⟨vs, h1, h2⟩, h3, h4, h5, h6, h7⟩ := hi
        refine ⟨⟨vs, h1.below ((Below.refl _ _).alloc (Nat.le_refl _) _), fun g hg => ⟨.inl (h2 g hg).1, fun e => ?_⟩⟩, h3, (Below.heap_alloc _ _ _ (by omega)).trans h4, h5.alloc (by omega) _, by simp; omega, fun g hg => ?_⟩
        · have := (h7 g (h2 g hg).1).2.2.2; omega
        · rcases hg with hg | rfl
          · have := h7 g hg; simp; omega
          · simp; omega, .inr rfl, World.alloc_heap_new V _, rfl⟩
    have HK := hide hKK
    clear hKK hK hgr
    gi_wp2
    exact unhide HK
  case body =>
    rintro l2 i ⟨xi, xn, xt⟩ M a' V hx ⟨p, hi, hMp, hpc, rfl⟩ hV
    have hlt := unhide HLLT i _ hx
    simp only at hlt hpc
    obtain ⟨⟨vs, hgr, hgM⟩, hlen, hbox, hbel, hsz, hms⟩ := id hi
    have hnext := rowsAt_next (N := N) hx
    obtain ⟨Rw, hRw⟩ : ∃ Rw, rowsAt L N i = Rw := ⟨_, rfl⟩
    rw [hRw] at hi hgr hlen hnext
    obtain ⟨rl, hrl⟩ : ∃ rl, Rw[xi]? = some rl := ⟨_, List.getElem?_eq_getElem (by omega)⟩
    have hown := hgr.own xi rl hrl
    obtain ⟨ra, rc, hvx, hlc, hcm, hinN⟩ := hown.slice
    have rcell := hgr.row.cell (i := xi) (by omega)
    rw [hvx] at rcell
    obtain ⟨b0, f0⟩ := cell1 hbox
    have hsame : ∀ V', Below V.heap.size V V' → P28.addRef Rw (xi, xn, xt) = Rw → ∃ M', KeepsM M V M' V' ∧ RfI w H N (rowsAt L N (i + 1)) (fun _ => False) M' V' := fun V' hb he => by
      rw [hnext, he]
      have h := hi.abides (grown_of_below hb none) (fun r e => by cases e)
      exact ⟨M, .grown (grown_of_below hb none) (fun r e => by cases e), ⟨h.grid.elim fun vs hv => ⟨vs, hv.1, fun g hg => ⟨(hv.2 g hg).1, fun h => h⟩⟩, h.len, h.box, h.below, h.size, h.ms⟩⟩
    have HSAME := hide hsame
    have HRW := hide hRw
    have HI := hide hi
    have HGR := hide hgr
    have HGM := hide hgM
    have HRL := hide hrl
    have HNX := hide hnext
    have HX := hide hx
    have HMS := hide hms
    have hmx := hmixed
    have hfw : Fence.wide.fn 77 := trivial
    clear hsame hi hgr hgM hrl hnext hx hms hRw
    cases xt with
    | none =>
      have hpc2 : V.heap[p]? = some (.cells #[.int .i64 xi, .string ⟨xn.toArray⟩, .int .i64 (-1)] 167) := hpc
      obtain ⟨⟨p0, _⟩, ⟨p1, _⟩, ⟨p2, _⟩⟩ := cell3 hpc2
      clear hpc hpc2
      gi_wp2
      refine wpIn_region_quiet_lit (by kernel_rfl) (by kernel_rfl) (by kernel_rfl) ?_
      repeat (go_big_quiet_step (fail))
      refine wpQuiet_nil ?_
      intro _ hw'
      obtain ⟨nq, hw''⟩ := hw'
      subst hw''
      gi_wp2
      exact unhide HSAME _ (below_drewN (Below.refl _ _)) (addRef_same (unhide HRL) rfl)
    | some j =>
      have hpc2 : V.heap[p]? = some (.cells #[.int .i64 xi, .string ⟨xn.toArray⟩, .int .i64 j] 167) := hpc
      obtain ⟨⟨p0, _⟩, ⟨p1, _⟩, ⟨p2, _⟩⟩ := cell3 hpc2
      have j0 : (0 : Int) ≤ (j : Int) := by omega
      clear hpc
      by_cases hj : j = xi
      · subst hj
        clear hpc2
        have jn : ((j : Int) != (j : Int)) = false := by simp
        gi_wp2
        refine wpIn_region_quiet_lit (by kernel_rfl) (by kernel_rfl) (by kernel_rfl) ?_
        repeat (go_big_quiet_step (fail))
        refine wpQuiet_nil ?_
        intro _ hw'
        obtain ⟨nq, hw''⟩ := hw'
        subst hw''
        gi_wp2
        exact unhide HSAME _ (below_drewN (Below.refl _ _)) (addRef_same (unhide HRL) (by simp [P28.addTo]))
      · have jn : ((j : Int) != (xi : Int)) = true := by simp; omega
        have hct := fun q => containsN_any ra rc rl j (V.drewN q) (fun i x h => by obtain ⟨b, o, e1, e2⟩ := hinN i x h; exact ⟨b, o, e1, by simpa using e2⟩) (by omega)
        have HCT := hide hct
        have HPC := hide hpc2
        clear hct hpc2
        by_cases hc : j ∈ rl
        · have hcd : decide ((j : Int) ∈ rl.map (fun y : Nat => (y : Int))) = true := decide_eq_true (List.mem_map.2 ⟨j, hc, rfl⟩)
          have hct2 := (unhide HCT)
          simp only [hcd] at hct2
          have HC2 := hide hct2
          clear hct2 hcd HCT
          gi_wp2
          refine wpIn_region_quiet_lit (by kernel_rfl) (by kernel_rfl) (by kernel_rfl) ?_
          repeat (go_big_quiet_step (exact Calls.quiet_of_same ((unhide HC2) _)))
          refine wpQuiet_nil ?_
          intro _ hw'
          obtain ⟨nq, hw''⟩ := hw'
          subst hw''
          gi_wp2
          exact unhide HSAME _ (below_drewN (Below.refl _ _)) (addRef_same (unhide HRL) (by simp [P28.addTo, hc]))
        · have hcd : decide ((j : Int) ∈ rl.map (fun y : Nat => (y : Int))) = false := decide_eq_false (fun h => hc (by obtain ⟨y, hy, e⟩ := List.mem_map.1 h; have e2 : y = j := (by omega); rw [← e2]; exact hy))
          have hct2 := (unhide HCT)
          simp only [hcd] at hct2
          have HC2 := hide hct2
          clear hct2 hcd HCT
          gi_wp2
          refine wpIn_region_quiet_lit (by kernel_rfl) (by kernel_rfl) (by kernel_rfl) ?_
          repeat (go_big_quiet_step (exact Calls.quiet_of_same ((unhide HC2) _)))
          refine wpQuiet_nil ?_
          intro _ hw'
          obtain ⟨nq, hw''⟩ := hw'
          subst hw''
          gi_wp2
          have hp1 : some p ≠ (vs xi).ownBlock := fun e => ((unhide HGM) p (.inr ⟨xi, hlt, e.symm⟩)).2 rfl
          have hp2 : some (H + 1 + 1) ≠ (vs xi).ownBlock := fun e => ((unhide HMS) _ ((unhide HGM) _ (.inr ⟨xi, hlt, e.symm⟩)).1).2.1 rfl
          have hp3 : some (H + 1) ≠ (vs xi).ownBlock := fun e => (unhide HGR).apart xi (by omega) e.symm
          have hp4 : p < V.heap.size := ((unhide HMS) p hMp).2.2.2
          have hrln : rl.length ≤ 100000000000 := by
            have h1 := foldl_addRef_rl (L.take i) (List.replicate N []) 0 (fun j l h => by rw [List.getElem?_replicate] at h; split at h <;> cases h; simp) xi rl (by have := unhide HRL; rw [← unhide HRW] at this; exact this)
            have h2 := unhide HLN
            rw [List.length_take] at h1
            omega
          obtain ⟨U, hU⟩ : ∃ U, (V.drewN nq).drew = U := ⟨_, rfl⟩
          have hbU : Below V.heap.size V U := by rw [← hU]; exact (below_drewN (Below.refl _ _)).drew
          have hsU : U.heap.size = V.heap.size := by rw [← hU]; rfl
          have hgU := (unhide HGR).below hbU
          have hcell : ∀ (b o : Nat), b < V.heap.size → U.cell? ⟨b, o, none⟩ = V.cell? ⟨b, o, none⟩ := fun b o hb => World.cell?_of_block (hbU.block b hb)
          have hS : ∀ k x3 x4 W, RfPh U H xi (vs xi) rl j k x3 x4 W → k ≤ 2 → W.cell? ⟨H + 1 + 1, 0, none⟩ = some (.slice (some ⟨H + 1, 0, none⟩) N N) ∧ W.cell? ⟨p, 0, none⟩ = some (.int .i64 xi) ∧ W.cell? ⟨p, 2, none⟩ = some (.int .i64 j) ∧ W.cell? ⟨H + 1, xi, none⟩ = some (.slice ra rl.length rc) := fun k x3 x4 W h hk =>
            ⟨(World.cell?_of_block (h.keep (b := H + 1 + 1) hk (by omega) hp2)).trans ((hcell _ _ (by omega)).trans b0), (World.cell?_of_block (h.keep (b := p) hk (by omega) hp1)).trans ((hcell _ _ hp4).trans p0), (World.cell?_of_block (h.keep (b := p) hk (by omega) hp1)).trans ((hcell _ _ hp4).trans p2), (World.cell?_of_block (h.keep (b := H + 1) hk (by omega) hp3)).trans ((hcell _ _ (by omega)).trans rcell)⟩
          have hfz : ∀ k x3 x4 W, RfPh U H xi (vs xi) rl j k x3 x4 W → k ≤ 2 → W.frozen? ⟨H + 1, xi, none⟩ = false := fun k x3 x4 W h hk => by
            have h1 := hgU.row.frozen xi
            rw [World.frozen?_of_block (h.keep (b := H + 1) hk (by omega) hp3)]; exact h1
          refine wpIn_region_phase hmx [10, 11, 13] (fun k aF W => ∃ x3 x4, aF = { tmps := #[(.agg #[.string ⟨nm.toArray⟩, .string ⟨tx.toArray⟩, .slice sa N sc]), .pointer (some ⟨H, 0, none⟩), .slice none 0 0, .pointer (some ⟨H + 1 + 1, 0, none⟩), .pointer (some ⟨p, 0, none⟩), .pointer (some ⟨H, 2, none⟩), .slice sa N sc, .int .i64 N, .slice (some ⟨H + 1, 0, none⟩) N N, (.agg #[.string ⟨nm.toArray⟩, .string ⟨tx.toArray⟩, .slice sa N sc]), .func (.func 142) #[] #[.pointer (some ⟨H + 1 + 1 + 1, 0, none⟩)], .agg #[.int .i64 xi, .string ⟨xn.toArray⟩, .int .i64 (toV (some j))], .pointer (some ⟨p, 2, none⟩), .int .i64 j, .bool true, .bool true, .pointer (some ⟨p, 2, none⟩), .int .i64 j, .pointer (some ⟨p, 0, none⟩), .int .i64 xi, .bool true, .bool true, .bool true, .slice (some ⟨H + 1, 0, none⟩) N N, .pointer (some ⟨p, 0, none⟩), .int .i64 xi, .pointer (some ⟨H + 1, xi, none⟩), .slice ra rl.length rc, .pointer (some ⟨p, 2, none⟩), .int .i64 j, .bool false, .bool true, .bool true, .slice (some ⟨H + 1, 0, none⟩) N N, .pointer (some ⟨p, 0, none⟩), .int .i64 xi, .slice (some ⟨H + 1, 0, none⟩) N N, .pointer (some ⟨p, 0, none⟩), .int .i64 xi, .pointer (some ⟨H + 1, xi, none⟩), .slice ra rl.length rc, .pointer (some ⟨p, 2, none⟩), .int .i64 j, x3, x4, .pointer (some ⟨H + 1, xi, none⟩), undef], defers := [] } ∧ RfPh U H xi (vs xi) rl j k x3 x4 W) (aF := (fun x3 x4 => { tmps := #[(.agg #[.string ⟨nm.toArray⟩, .string ⟨tx.toArray⟩, .slice sa N sc]), .pointer (some ⟨H, 0, none⟩), .slice none 0 0, .pointer (some ⟨H + 1 + 1, 0, none⟩), .pointer (some ⟨p, 0, none⟩), .pointer (some ⟨H, 2, none⟩), .slice sa N sc, .int .i64 N, .slice (some ⟨H + 1, 0, none⟩) N N, (.agg #[.string ⟨nm.toArray⟩, .string ⟨tx.toArray⟩, .slice sa N sc]), .func (.func 142) #[] #[.pointer (some ⟨H + 1 + 1 + 1, 0, none⟩)], .agg #[.int .i64 xi, .string ⟨xn.toArray⟩, .int .i64 (toV (some j))], .pointer (some ⟨p, 2, none⟩), .int .i64 j, .bool true, .bool true, .pointer (some ⟨p, 2, none⟩), .int .i64 j, .pointer (some ⟨p, 0, none⟩), .int .i64 xi, .bool true, .bool true, .bool true, .slice (some ⟨H + 1, 0, none⟩) N N, .pointer (some ⟨p, 0, none⟩), .int .i64 xi, .pointer (some ⟨H + 1, xi, none⟩), .slice ra rl.length rc, .pointer (some ⟨p, 2, none⟩), .int .i64 j, .bool false, .bool true, .bool true, .slice (some ⟨H + 1, 0, none⟩) N N, .pointer (some ⟨p, 0, none⟩), .int .i64 xi, .slice (some ⟨H + 1, 0, none⟩) N N, .pointer (some ⟨p, 0, none⟩), .int .i64 xi, .pointer (some ⟨H + 1, xi, none⟩), .slice ra rl.length rc, .pointer (some ⟨p, 2, none⟩), .int .i64 j, x3, x4, .pointer (some ⟨H + 1, xi, none⟩), undef], defers := [] }) undef undef) (by kernel_rfl) (by kernel_rfl) (by simp) ⟨undef, undef, rfl, hU⟩ rfl rfl (same_mid 33 13 (by kernel_rfl) rfl rfl) ?pure ?write ?fin
          case pure =>
            rintro k aF W i o ⟨x3, x4, rfl, hph⟩ ho hni hanc
            rcases i with _ | _ | _ | _ | _ | _ | _ | _ | _ | _ | _ | _ | _ | _ | i
            · have ho' : some _ = some o := ho
              cases ho'
              obtain ⟨c1, c2, c3, c4⟩ := hS k x3 x4 W hph (hanc 2 13 rfl (by kernel_rfl))
              refine (if_pos (show Region.wanted _ (yielded _ _) = true from rfl)).mpr ?_
              refine ⟨_, _, rfl, rfl, .inl ?_⟩
              go_simp
            · have ho' : some _ = some o := ho
              cases ho'
              obtain ⟨c1, c2, c3, c4⟩ := hS k x3 x4 W hph (hanc 2 13 rfl (by kernel_rfl))
              refine (if_pos (show Region.wanted _ (yielded _ _) = true from rfl)).mpr ?_
              refine ⟨_, _, rfl, rfl, .inl ?_⟩
              go_simp
            · have ho' : some _ = some o := ho
              cases ho'
              obtain ⟨c1, c2, c3, c4⟩ := hS k x3 x4 W hph (hanc 2 13 rfl (by kernel_rfl))
              refine (if_pos (show Region.wanted _ (yielded _ _) = true from rfl)).mpr ?_
              refine ⟨_, _, rfl, rfl, .inl ?_⟩
              go_simp
            · have ho' : some _ = some o := ho
              cases ho'
              obtain ⟨c1, c2, c3, c4⟩ := hS k x3 x4 W hph (hanc 2 13 rfl (by kernel_rfl))
              refine (if_pos (show Region.wanted _ (yielded _ _) = true from rfl)).mpr ?_
              refine ⟨_, _, rfl, rfl, .inl ?_⟩
              go_simp
            · have ho' : some _ = some o := ho
              cases ho'
              obtain ⟨c1, c2, c3, c4⟩ := hS k x3 x4 W hph (hanc 2 13 rfl (by kernel_rfl))
              refine (if_pos (show Region.wanted _ (yielded _ _) = true from rfl)).mpr ?_
              refine ⟨_, _, rfl, rfl, .inl ?_⟩
              go_simp
            · have ho' : some _ = some o := ho
              cases ho'
              obtain ⟨c1, c2, c3, c4⟩ := hS k x3 x4 W hph (hanc 2 13 rfl (by kernel_rfl))
              refine (if_pos (show Region.wanted _ (yielded _ _) = true from rfl)).mpr ?_
              refine ⟨_, _, rfl, rfl, .inl ?_⟩
              go_simp
            · have ho' : some _ = some o := ho
              cases ho'
              obtain ⟨c1, c2, c3, c4⟩ := hS k x3 x4 W hph (hanc 2 13 rfl (by kernel_rfl))
              refine (if_pos (show Region.wanted _ (yielded _ _) = true from rfl)).mpr ?_
              refine ⟨_, _, rfl, rfl, .inl ?_⟩
              go_simp
            · have ho' : some _ = some o := ho
              cases ho'
              obtain ⟨c1, c2, c3, c4⟩ := hS k x3 x4 W hph (hanc 2 13 rfl (by kernel_rfl))
              refine (if_pos (show Region.wanted _ (yielded _ _) = true from rfl)).mpr ?_
              refine ⟨_, _, rfl, rfl, .inl ?_⟩
              go_simp
            · have ho' : some _ = some o := ho
              cases ho'
              obtain ⟨c1, c2, c3, c4⟩ := hS k x3 x4 W hph (hanc 2 13 rfl (by kernel_rfl))
              refine (if_pos (show Region.wanted _ (yielded _ _) = true from rfl)).mpr ?_
              refine ⟨_, _, rfl, rfl, .inl ?_⟩
              go_simp
            · have ho' : some _ = some o := ho
              cases ho'
              obtain ⟨c1, c2, c3, c4⟩ := hS k x3 x4 W hph (hanc 2 13 rfl (by kernel_rfl))
              refine (if_pos (show Region.wanted _ (yielded _ _) = true from rfl)).mpr ?_
              refine ⟨_, _, rfl, rfl, .inl ?_⟩
              go_simp
            · exfalso; simp at hni
            · exfalso; simp at hni
            · have ho' : some _ = some o := ho
              cases ho'
              obtain ⟨c1, c2, c3, c4⟩ := hS k x3 x4 W hph (hanc 2 13 rfl (by kernel_rfl))
              refine (if_pos (show Region.wanted _ (yielded _ _) = true from rfl)).mpr ?_
              refine ⟨_, _, rfl, rfl, .inl ?_⟩
              go_simp
            · exfalso; simp at hni
            · exfalso; simp at ho
          case write =>
            rintro k aF W i o ⟨x3, x4, rfl, hph⟩ hi ho
            rcases k with _ | _ | _ | k
            · cases (show some 10 = some i from hi)
              have ho' : some _ = some o := ho
              cases ho'
              refine ⟨rfl, .inl ⟨.slice (some ⟨U.heap.size, 0, none⟩) 1 1, U.alloc (.cells #[.int .i64 j] 3), ?_, ⟨_, x4, rfl, rfl, rfl⟩⟩⟩
              rw [show W = U from hph]
              go_simp
            · cases (show some 11 = some i from hi)
              have ho' : some _ = some o := ho
              cases ho'
              obtain ⟨rfl, rfl⟩ := hph
              obtain ⟨g', cap', w', h1, h2, h3, h4⟩ := app_int (W := U.alloc (.cells #[.int .i64 j] 3)) (B := H) (v := vs xi) (l := rl) (j := j) (g := U.heap.size) (cap := 1) (ty := 48) ((hown.keep (fun g hg => hbU.block g (hown.lt hg).2)).keep (fun g hg => heap_alloc_old U _ (show g < U.heap.size by have := (hown.lt hg).2; omega))) (by simp) (by unfold maxLen at hcm; omega) (by simp; omega)
              refine ⟨rfl, .inl ⟨_, w', ?_, ⟨_, _, rfl, h2, h3, h4.imp id (fun e => ⟨g', rfl, by rw [e]; simp⟩)⟩⟩⟩
              rw [hvx] at h1
              simp [execOp, resolve, invoke, builtin, Act.eval, h1, Result.andThen]
            · cases (show some 13 = some i from hi)
              have ho' : some _ = some o := ho
              cases ho'
              have hf := hfz 2 x3 x4 W hph (Nat.le_refl _)
              obtain ⟨c1, c2, c3, c4⟩ := hS 2 x3 x4 W hph (Nat.le_refl _)
              obtain ⟨h2, h3, h4⟩ := id hph
              obtain ⟨b4, o4, n4, k4, rfl⟩ : ∃ b o n k, x4 = .slice (some ⟨b, o, none⟩) n k := by
                obtain ⟨a4, k4, e4, _, _, hi4⟩ := h2.slice
                obtain ⟨b, o, e5, _⟩ := hi4 rl.length j (by simp)
                exact ⟨b, o, _, _, by rw [e4, e5]⟩
              refine ⟨rfl, .inr (.inl ⟨W.setCell ⟨H + 1, xi, none⟩ (.slice (some ⟨b4, o4, none⟩) n4 k4), ?_, ⟨_, _, rfl, W, h2, h3, h4, rfl⟩⟩)⟩
              go_simp
            · simp at hi
          case fin =>
            rintro k aF W hk ⟨x3, x4, rfl, hph⟩
            obtain ⟨k, rfl⟩ : ∃ k', k = k' + 3 := ⟨k - 3, by simp at hk; omega⟩
            obtain ⟨W1, hown1, hgr, hat, rfl⟩ := id hph
            have hU1 := hgU.below ((Below.refl U.heap.size U).alloc (Nat.le_refl _) (.cells #[.int .i64 j] 3))
            have hput := hU1.put (i := xi) (by omega) hown1 hgr (hat.imp Eq.symm (fun ⟨g, e, h⟩ => ⟨g, e, by simpa using h⟩))
            have hz1 := hgr.size
            simp at hz1
            have hown2 : ∀ g, x4.ownBlock = some g → (M g ∧ ¬ g = p) ∨ V.heap.size ≤ g := fun g e => by
              rcases hat with h | ⟨g', e', h⟩
              · exact .inl ((unhide HGM) g (.inr ⟨xi, hlt, h.trans e⟩))
              · rw [e] at e'; cases e'; exact .inr (by omega)
            have hgb : ∀ g, gridB (H + 1) (fun j => if j = xi then x4 else vs j) N g → (M g ∧ ¬ g = p) ∨ V.heap.size ≤ g := fun g hg => by
              rcases hg with rfl | ⟨i', hi', hg⟩
              · exact .inl ((unhide HGM) _ (.inl rfl))
              · by_cases e : i' = xi
                · simp only [if_pos e] at hg; exact hown2 g hg
                · simp only [if_neg e] at hg; exact .inl ((unhide HGM) g (.inr ⟨i', hi', hg⟩))
            have hold : ∀ r, r < V.heap.size → r ≠ H + 1 → some r ≠ (vs xi).ownBlock → (W1.setCell ⟨H + 1, xi, none⟩ x4).heap[r]? = V.heap[r]? := fun r h1 h2 h3 =>
              (Below.heap_setCell _ _ _ _ h2).trans ((hgr.block r (by simp; omega) h3).trans ((heap_alloc_old U _ (show r < U.heap.size by omega)).trans (hbU.block r h1)))
            have hbel2 : Below H w U := by rw [← hU]; exact (below_drewN hbel).drew
            have hbel3 : Below H w (W1.setCell ⟨H + 1, xi, none⟩ x4) := ((hbel2.alloc (by omega) (.cells #[.int .i64 j] 3)).grown hgr (by simp; omega) (fun k e => ((unhide HMS) k ((unhide HGM) k (.inr ⟨xi, hlt, e⟩)).1).1)).setCell (by simp) _
            have HFIN : ∃ M', KeepsM M V M' (W1.setCell ⟨H + 1, xi, none⟩ x4) ∧ RfI w H N (rowsAt L N (i + 1)) (fun _ => False) M' (W1.setCell ⟨H + 1, xi, none⟩ x4) := by
              refine ⟨fun g => gridB (H + 1) (fun j => if j = xi then x4 else vs j) N g, ⟨by simp; omega, fun r hr hl => hold r hl (fun e => hr (e ▸ ((unhide HGM) _ (.inl rfl)).1)) (fun e => hr ((unhide HGM) r (.inr ⟨xi, hlt, e.symm⟩)).1), fun g hg => (hgb g hg).imp (fun h => h.1) id⟩, ?_⟩
              rw [unhide HNX, addRef_more (unhide HRL) hj hc]
              refine ⟨⟨_, hput, fun g hg => ⟨hg, fun h => h⟩⟩, by simpa using hlen, (hold _ (by omega) (by omega) hp2).trans hbox, hbel3, by simp; omega, fun g hg => ?_⟩
              have hl := hput.lt (by simpa [hlen] using hg)
              refine ⟨hl.1, ?_, ?_, hl.2⟩
              · rintro rfl
                rcases hgb _ hg with h | h
                · exact ((unhide HMS) _ h.1).2.1 rfl
                · omega
              · rintro rfl
                rcases hgb _ hg with h | h
                · exact ((unhide HMS) _ h.1).2.2.1 rfl
                · omega
            have HF := hide HFIN
            clear HFIN hput hown1 hgr hat hown2 hgb hold hbel2 hbel3 hph hU1
            gi_wp2
            exact unhide HF
  case done =>
    rintro D M V rfl hMD hi hK
    obtain ⟨⟨vs, h1, h2⟩, h3, h4, h5, h6, h7⟩ := hi
    have hbox := cell1 h4
    have hfin : rowsAt L N L.length = RS := by unfold rowsAt; rw [List.take_of_length_le (Nat.le_refl _)]; exact unhide HFOLD
    rw [hfin] at h1
    have hfl : (rowsAt L N L.length).length = RS.length := by rw [hfin]
    have H1 := hide h1
    have H5 := hide h5
    clear hfin h1 h4 h5
    gi_wp2
    refine ⟨by simp, .inl ⟨_, _, rfl, run_takeDeferred hK, ?_⟩⟩
    refine ⟨_, results_tmp rfl _ _ _, H + 1, vs, rfl, ?_, ?_⟩
    · have hb := grownBy_putObj' V W2.heap.size (.deferred none)
      exact (unhide H1).keep (fun g hg => hb.block g ((unhide H1).lt hg).2 (fun e => by cases e; have := (h2 _ (by rw [← h3, hfl]; exact hg)).1; exact hMD this))
    · exact (unhide H5).grown (grownBy_putObj' V W2.heap.size (.deferred none)) (by omega) (fun k e => by cases e; omega)
  case stop =>
    rintro D c i M V rfl hMD hi h hK
    exact h.elim
end Go.Proofs.YtefokfbgpfcbkaaGreat
namespace Go.Proofs.YtefokfbgpfcbkaaGreat
set_option linter.unusedVariables false
set_option linter.unusedSimpArgs false
open Go.RowKit
def encOwn (k : Int × List UInt8) : Value := .agg #[.int .i64 k.1, .string ⟨k.2.toArray⟩]
def encDiag (k : P28.Note) : Value := .agg #[.int .i64 k.1, .int .i64 k.2.1, .string ⟨k.2.2.toArray⟩]
theorem tl_bytes (l : List UInt8) : (ByteArray.mk l.toArray).toList = l := by rw [Lib.toList_data]
theorem eq_own (a c : Int) (s t : ByteArray) (w : World) : (Op.equalIn 10000 224 (.agg #[.int .i64 a, .string s]) (.agg #[.int .i64 c, .string t])).run Tryz.prog w = .ok (a == c && s.toList == t.toList) w := by
  have u1 := Tryz.underlying3
  have u2 := Tryz.underlying9
  have hS : Tryz.prog.underlying 224 = some (.struct (Tryz.prog.fieldsOf 224)) := by kernel_rfl
  rw [show (10000 : Nat) = 9999 + 1 from rfl, run_equalIn_agg w 9999 224 _ _ hS (by kernel_rfl)]
  simp only [Program.fieldsOf, Tryz.underlying224]
  go_simp
  by_cases h1 : a = c <;> by_cases h2 : s.toList = t.toList <;> simp [h1, h2]
theorem chk_own (e : Bool) (a : Int) (s : ByteArray) (w : World) : (Instr.checkKey e 10000 224 (.agg #[.int .i64 a, .string s])).run Tryz.prog w = .ok () w := by
  have u1 := Tryz.underlying3
  have u2 := Tryz.underlying9
  have b1 : ∀ (n : Nat) (W : World) (e : Bool) (a : Int), (Instr.checkKey e (n + 1) 3 (.int .i64 a)).run Tryz.prog W = .ok () W := fun n W e a => by simp [Instr.checkKey, run_underlying u1]
  have b2 : ∀ (n : Nat) (W : World) (e : Bool) (s : ByteArray), (Instr.checkKey e (n + 1) 9 (.string s)).run Tryz.prog W = .ok () W := fun n W e s => by simp [Instr.checkKey, run_underlying u2]
  have c1 : ∀ (W : World) (e : Bool) (a : Int), (Instr.checkKey e 9999 3 (.int .i64 a)).run Tryz.prog W = .ok () W := fun W e a => b1 9998 W e a
  have c2 : ∀ (W : World) (e : Bool) (s : ByteArray), (Instr.checkKey e 9999 9 (.string s)).run Tryz.prog W = .ok () W := fun W e s => b2 9998 W e s
  clear b1 b2
  unfold Instr.checkKey
  simp only [Sem.run_bind, run_underlying Tryz.underlying224, Result.andThen_ok]
  go_simp
set_option maxRecDepth 100000 in
theorem key_own : KeyT Tryz.prog 224 encOwn := by
  refine .wide (by rw [Tryz.underlying224]) (fun x e W => chk_own e _ _ W) (fun x y W => ?_) (fun x => ?_)
  · have h := eq_own x.1 y.1 ⟨x.2.toArray⟩ ⟨y.2.toArray⟩ W
    rw [tl_bytes, tl_bytes] at h
    have e : Op.equal 224 (encOwn x) (encOwn y) = Op.equalIn 10000 224 (encOwn x) (encOwn y) := by unfold Op.equal Op.maxDepth; rfl
    rw [e]
    refine Eq.trans h ?_
    congr 1
    obtain ⟨x1, x2⟩ := x
    obtain ⟨y1, y2⟩ := y
    rw [Bool.eq_iff_iff]
    simp
  · have b1 : ∀ (n : Nat) (a : Int), Instr.sameBits (n + 1) (.int .i64 a) (.int .i64 a) = true := fun n a => by simp [Instr.sameBits]
    have b2 : ∀ (n : Nat) (s : ByteArray), Instr.sameBits (n + 1) (.string s) (.string s) = true := fun n s => by simp [Instr.sameBits, Go.MapKept.bytes_beq]
    have h1 := b1 9998 x.1
    have h2 := b2 9998 ⟨x.2.toArray⟩
    simp only [encOwn, Instr.sameBits]
    simp
    exact ⟨h1, h2⟩
theorem eq_diag (a c a2 c2 : Int) (s t : ByteArray) (w : World) : (Op.equalIn 10000 183 (.agg #[.int .i64 a, .int .i64 a2, .string s]) (.agg #[.int .i64 c, .int .i64 c2, .string t])).run Tryz.prog w = .ok (a == c && (a2 == c2 && s.toList == t.toList)) w := by
  have u1 := Tryz.underlying3
  have u2 := Tryz.underlying9
  have u3 := Tryz.underlying29
  have hS : Tryz.prog.underlying 183 = some (.struct (Tryz.prog.fieldsOf 183)) := by kernel_rfl
  rw [show (10000 : Nat) = 9999 + 1 from rfl, run_equalIn_agg w 9999 183 _ _ hS (by kernel_rfl)]
  simp only [Program.fieldsOf, Tryz.underlying183]
  go_simp
  by_cases h1 : a = c <;> by_cases h3 : a2 = c2 <;> by_cases h2 : s.toList = t.toList <;> simp [h1, h2, h3]
theorem chk_diag (e : Bool) (a a2 : Int) (s : ByteArray) (w : World) : (Instr.checkKey e 10000 183 (.agg #[.int .i64 a, .int .i64 a2, .string s])).run Tryz.prog w = .ok () w := by
  have u1 := Tryz.underlying3
  have u2 := Tryz.underlying9
  have u3 := Tryz.underlying29
  have b1 : ∀ (n : Nat) (W : World) (e : Bool) (a : Int), (Instr.checkKey e (n + 1) 3 (.int .i64 a)).run Tryz.prog W = .ok () W := fun n W e a => by simp [Instr.checkKey, run_underlying u1]
  have b2 : ∀ (n : Nat) (W : World) (e : Bool) (s : ByteArray), (Instr.checkKey e (n + 1) 9 (.string s)).run Tryz.prog W = .ok () W := fun n W e s => by simp [Instr.checkKey, run_underlying u2]
  have b3 : ∀ (n : Nat) (W : World) (e : Bool) (a : Int), (Instr.checkKey e (n + 1) 29 (.int .i64 a)).run Tryz.prog W = .ok () W := fun n W e a => by simp [Instr.checkKey, run_underlying u3]
  have c3 : ∀ (W : World) (e : Bool) (a : Int), (Instr.checkKey e 9999 29 (.int .i64 a)).run Tryz.prog W = .ok () W := fun W e a => b3 9998 W e a
  have c1 : ∀ (W : World) (e : Bool) (a : Int), (Instr.checkKey e 9999 3 (.int .i64 a)).run Tryz.prog W = .ok () W := fun W e a => b1 9998 W e a
  have c2 : ∀ (W : World) (e : Bool) (s : ByteArray), (Instr.checkKey e 9999 9 (.string s)).run Tryz.prog W = .ok () W := fun W e s => b2 9998 W e s
  clear b1 b2 b3
  unfold Instr.checkKey
  simp only [Sem.run_bind, run_underlying Tryz.underlying183, Result.andThen_ok]
  go_simp
set_option maxRecDepth 100000 in
theorem key_diag : KeyT Tryz.prog 183 encDiag := by
  refine .wide (by rw [Tryz.underlying183]) (fun x e W => chk_diag e _ _ _ W) (fun x y W => ?_) (fun x => ?_)
  · have h := eq_diag x.1 y.1 x.2.1 y.2.1 ⟨x.2.2.toArray⟩ ⟨y.2.2.toArray⟩ W
    rw [tl_bytes, tl_bytes] at h
    have e : Op.equal 183 (encDiag x) (encDiag y) = Op.equalIn 10000 183 (encDiag x) (encDiag y) := by unfold Op.equal Op.maxDepth; rfl
    rw [e]
    refine Eq.trans h ?_
    congr 1
    obtain ⟨x1, x2, x3⟩ := x
    obtain ⟨y1, y2, y3⟩ := y
    rw [Bool.eq_iff_iff]
    simp
  · have b1 : ∀ (n : Nat) (a : Int), Instr.sameBits (n + 1) (.int .i64 a) (.int .i64 a) = true := fun n a => by simp [Instr.sameBits]
    have b2 : ∀ (n : Nat) (s : ByteArray), Instr.sameBits (n + 1) (.string s) (.string s) = true := fun n s => by simp [Instr.sameBits, Go.MapKept.bytes_beq]
    have h1 := b1 9998 x.1
    have h3 := b1 9998 x.2.1
    have h2 := b2 9998 ⟨x.2.2.toArray⟩
    simp only [encDiag, Instr.sameBits]
    simp
    exact ⟨h1, h3, h2⟩
end Go.Proofs.YtefokfbgpfcbkaaGreat
namespace Go.Proofs.YtefokfbgpfcbkaaGreat
set_option linter.unusedVariables false
set_option linter.unusedSimpArgs false
open Go.RowKit
theorem Right_any (s : List UInt8) (w : World) (h : s.length ≤ maxLen) : Calls Tryz.prog 85 #[.string ⟨s.toArray⟩] w fun e w' => e = .returned (.bool (P28.right s)) ∧ w' = w := by
  have hp := Plain_any ⟨s.toArray⟩ w (by simpa [ByteArray.size] using h)
  have hsz : (ByteArray.mk s.toArray).size = s.length := by simp [ByteArray.size]
  simp only [List.toList_toArray] at hp
  have e : P28.right s = (P18.plain s && decide (s.length ≤ 64)) := rfl
  unfold maxLen at h
  cases hq : P18.plain s with
  | false =>
    rw [hq] at hp e
    rw [e]
    have HP := hide hp
    clear hp e
    go_enter Tryz.func85, Tryz.ntmps85
    go_wp2_with (go_at_call 130; refine (unhide HP).mono ?_; rintro e w' ⟨rfl, rfl⟩)
    all_goals go_ret
    all_goals exact ⟨ret_bool (by simp), rfl⟩
  | true =>
    rw [hq] at hp e
    rw [e]
    have HP := hide hp
    clear hp e
    go_enter Tryz.func85, Tryz.ntmps85
    go_wp2_with (go_at_call 130; refine (unhide HP).mono ?_; rintro e w' ⟨rfl, rfl⟩)
    all_goals go_ret
    all_goals exact ⟨ret_bool (by simp [hsz]; omega), rfl⟩
theorem P28.nt_le (c : Bool) (i e : Int) (t : List UInt8) : (P28.nt c i e t).length ≤ 1 := by cases c <;> simp [P28.nt]
def defO (d : PDef) : Obj := .cells #[.string ⟨d.name.toArray⟩, .string ⟨d.text.toArray⟩, .slice d.sa d.steps.length d.sc] 24
structure NS (w W : World) (H f : Nat) (d : PDef) (ns : List P28.Note) (v : Value) : Prop where
  nb : NB W (H + 3) (H + 1) ns v
  df : W.heap[H]? = some (defO d)
  fn : W.heap[H + 2]? = some (.cells #[.func (.func f) #[] #[.pointer (some ⟨H + 1, 0, none⟩)]] 221)
  bel : Below H w W
  size : H + 3 ≤ W.heap.size
theorem NS.gr {w W W' : World} {H f : Nat} {d : PDef} {ns ns' : List P28.Note} {v v' : Value} (h : NS w W H f d ns v) (hn : NB W' (H + 3) (H + 1) ns' v') (hg : Gr W W' (H + 1) v.ownBlock) : NS w W' H f d ns' v' := by
  have ho : ∀ g, v.ownBlock = some g → H + 3 ≤ g := fun g e => (h.nb.own.lt e).1
  have hz := h.size
  refine ⟨hn, (hg.block H (by omega) (by omega) (fun e => by have := ho _ e.symm; omega)).trans h.df, (hg.block (H + 2) (by omega) (by omega) (fun e => by have := ho _ e.symm; omega)).trans h.fn, hg.below h.bel (by omega) (by omega) (fun g e => by have := ho g e; omega), Nat.le_trans h.size hg.size⟩
theorem NS.keep {w W W' : World} {H f : Nat} {d : PDef} {ns : List P28.Note} {v : Value} (h : NS w W H f d ns v) (hb : Below W.heap.size W W') : NS w W' H f d ns v := by
  have hz := h.size
  exact ⟨h.nb.below hb, (hb.block _ (by omega)).trans h.df, (hb.block _ (by omega)).trans h.fn, h.bel.trans (hb.mono (by omega)), Nat.le_trans h.size hb.size⟩
theorem NS.drewN {w W : World} {H f : Nat} {d : PDef} {ns : List P28.Note} {v : Value} (h : NS w W H f d ns v) (n : Nat) : NS w (W.drewN n) H f d ns v := h.keep (below_drewN (Below.refl _ _))
theorem NS.cells {w W : World} {H f : Nat} {d : PDef} {ns : List P28.Note} {v : Value} (h : NS w W H f d ns v) : W.cell? ⟨H, 0, none⟩ = some (.string ⟨d.name.toArray⟩) ∧ W.cell? ⟨H, 1, none⟩ = some (.string ⟨d.text.toArray⟩) ∧ W.cell? ⟨H, 2, none⟩ = some (.slice d.sa d.steps.length d.sc) ∧ W.cell? ⟨H + 2, 0, none⟩ = some (.func (.func f) #[] #[.pointer (some ⟨H + 1, 0, none⟩)]) := by
  obtain ⟨⟨a, _⟩, ⟨b, _⟩, ⟨c, _⟩⟩ := cell3 h.df
  exact ⟨a, b, c, (cell1 h.fn).1⟩
theorem NS.note {w W : World} {H f : Nat} {d : PDef} {ns : List P28.Note} {v : Value} (hf : NotesTo f (H + 1)) (h : NS w W H f d ns v) (c : Bool) (i e : Int) (t : List UInt8) (hl : ns.length ≤ 100000000000 * 9) :
    Calls Tryz.prog f #[.bool c, .int .i64 i, .int .i64 e, .string ⟨t.toArray⟩, .pointer (some ⟨H + 1, 0, none⟩)] W fun x W' => x = .returned (.tuple #[]) ∧ ∃ v', NS w W' H f d (ns ++ P28.nt c i e t) v' ∧ Gr W W' (H + 1) v.ownBlock ∧ (v'.ownBlock = v.ownBlock ∨ ∃ g, v'.ownBlock = some g ∧ W.heap.size ≤ g) := by
  refine (hf c i e t W (H + 3) ns v h.nb h.size hl).mono ?_
  rintro x W' ⟨rfl, v', h1, h2, h3⟩
  exact ⟨rfl, v', h.gr h1 h2, h2, h3⟩
def ownKs (L : List P28.Ref) : List (Int × List UInt8) := L.map fun r => ((r.1 : Int), r.2.1)
structure CkI (w : World) (H f R : Nat) (d : PDef) (ns : List P28.Note) (ks : List (Int × List UInt8)) (X M : Nat → Prop) (V : World) : Prop where
  st : ∃ v Lm, NS w V H f d ns v ∧ MapG encOwn V R Lm ∧ (∀ k, 0 < (match lk Lm k with | some (.int _ n) => n | _ => 0) ↔ k ∈ ks) ∧ (∀ k u, lk Lm k = some u → ∃ n : Nat, u = .int .i64 n ∧ n ≤ ks.length) ∧ (∀ g, v.ownBlock = some g → (g < R ∨ R + 3 ≤ g) ∧ M g ∧ ¬ X g)
  box : V.heap[R + 1]? = some (.cells #[.map (some R)] 222)
  own : M (H + 1) ∧ ¬ X (H + 1) ∧ M R ∧ ¬ X R
  low : H + 3 ≤ R
  size : R + 3 ≤ V.heap.size
  ms : ∀ g, M g → (g = H + 1 ∨ H + 3 ≤ g) ∧ g ≠ R + 1 ∧ g ≠ R + 2 ∧ g < V.heap.size
theorem CkI.abides {w : World} {H f R : Nat} {d : PDef} {ns : List P28.Note} {ks : List (Int × List UInt8)} {X M : Nat → Prop} {V V' : World} {row : Option Nat} (h : CkI w H f R d ns ks X M V) (hg : V.grownBy V' row) (hr : ∀ r, row = some r → ¬ M r ∧ ¬ (r < H ∨ r = H ∨ r = H + 2 ∨ r = R + 1 ∨ r = R + 2)) : CkI w H f R d ns ks X M V' := by
  obtain ⟨⟨v, Lm, h1, h2, h3, h4, h5⟩, h6, h7, h8, h9, h10⟩ := h
  have hk : ∀ g, g < V.heap.size → (M g ∨ g = H ∨ g = H + 2 ∨ g = R + 1) → V'.heap[g]? = V.heap[g]? := fun g hg1 hg2 => hg.block g hg1 (fun e => by
    obtain ⟨a, b⟩ := hr g e.symm
    rcases hg2 with q | q
    · exact a q
    · exact b (by omega))
  refine ⟨⟨v, Lm, ⟨h1.nb.keep (hk _ (by omega) (.inl h7.1)) (fun g e => hk g (h1.nb.own.lt e).2 (.inl (h5 g e).2.1)), (hk _ (by omega) (by omega)).trans h1.df, (hk _ (by omega) (by omega)).trans h1.fn, h1.bel.grown hg (by omega) (fun k e => by have := (hr k e).2; omega), Nat.le_trans h1.size hg.size⟩, h2.keep (hk R (by omega) (.inl h7.2.2.1)), h3, h4, h5⟩, (hk _ (by omega) (by omega)).trans h6, h7, h8, Nat.le_trans h9 hg.size, fun g hg1 => ?_⟩
  have := h10 g hg1
  have := hg.size
  omega
theorem CkI.alloc {w : World} {H f R : Nat} {d : PDef} {ns : List P28.Note} {ks : List (Int × List UInt8)} {M : Nat → Prop} {V : World} (h : CkI w H f R d ns ks (fun _ => False) M V) (o : Obj) : CkI w H f R d ns ks (fun g => g = V.heap.size) (fun r => M r ∨ r = V.heap.size) (V.alloc o) := by
  obtain ⟨⟨v, Lm, h1, h2, h3, h4, h5⟩, h6, h7, h8, h9, h10⟩ := h
  have hb : Below V.heap.size V (V.alloc o) := (Below.refl _ _).alloc (Nat.le_refl _) _
  refine ⟨⟨v, Lm, h1.keep hb, h2.keep (hb.block R (by omega)), h3, h4, fun g e => ⟨(h5 g e).1, .inl (h5 g e).2.1, fun q => by have := (h1.nb.own.lt e).2; omega⟩⟩, (hb.block _ (by omega)).trans h6, ⟨.inl h7.1, by omega, .inl h7.2.2.1, by omega⟩, h8, by simp; omega, fun g hg => ?_⟩
  rcases hg with hg | rfl
  · have := h10 g hg; simp; omega
  · simp; omega
theorem stepsN_take (ns : List (List UInt8)) : ∀ (ss : List P22.Step) (k i : Nat) (s : P22.Step), ss[i]? = some s → P28.stepsN ns k (ss.take (i + 1)) = P28.stepsN ns k (ss.take i) ++ P28.stepN ns (k + i) s
  | [], k, i, s, h => by simp at h
  | x :: ss, k, 0, s, h => by simp at h; subst h; simp [P28.stepsN]
  | x :: ss, k, i + 1, s, h => by
    have ih := stepsN_take ns ss (k + 1) i s (by simpa using h)
    rw [List.take_succ_cons, List.take_succ_cons]
    show P28.stepN ns k x ++ P28.stepsN ns (k + 1) (ss.take (i + 1)) = P28.stepN ns k x ++ P28.stepsN ns (k + 1) (ss.take i) ++ _
    rw [ih, List.append_assoc, show k + 1 + i = k + (i + 1) by omega]
theorem gr_safe {W W' : World} {b k : Nat} {v v' : Value} (hg : Gr W W' b v.ownBlock) (ho : v'.ownBlock = v.ownBlock ∨ ∃ g, v'.ownBlock = some g ∧ W.heap.size ≤ g) (h1 : k < W.heap.size) (h2 : k ≠ b) (h3 : v.ownBlock ≠ some k) : W'.heap[k]? = W.heap[k]? ∧ v'.ownBlock ≠ some k ∧ k < W'.heap.size := by
  refine ⟨hg.block k h1 h2 (fun e => h3 e.symm), fun e => ?_, Nat.lt_of_lt_of_le h1 hg.size⟩
  rcases ho with h | ⟨g, h, h4⟩
  · exact h3 (h.symm.trans e)
  · rw [h] at e; cases e; omega
theorem stepsN_len (ns : List (List UInt8)) : ∀ (ss : List P22.Step) (k : Nat), (P28.stepsN ns k ss).length ≤ ss.length * 4
  | [], k => by simp [P28.stepsN]
  | x :: ss, k => by
    have ih := stepsN_len ns ss (k + 1)
    have h1 := P28.nt_le (!P28.right x.name) (k : Int) 18 x.name
    have h2 := P28.nt_le (!P28.right x.action) (k : Int) 18 x.action
    have h3 := P28.nt_le (!x.undo.isEmpty && !P28.right x.undo) (k : Int) 18 x.undo
    have h4 := P28.nt_le (decide ((P28.idx ns x.name).getD 0 < k)) (k : Int) 6 x.name
    show (P28.stepN ns k x ++ P28.stepsN ns (k + 1) ss).length ≤ _
    simp only [P28.stepN, List.length_append, List.length_cons] at *
    omega
theorem app_le {acc : List P28.Note} {n : Nat} {c : Bool} {i e : Int} {t : List UInt8} (h : acc.length ≤ n) : (acc ++ P28.nt c i e t).length ≤ n + 1 := by
  have := P28.nt_le c i e t
  rw [List.length_append]
  omega
theorem nt_len (c : Bool) (i e : Int) (t : List UInt8) : (P28.nt c i e t).length ≤ 1 := by cases c <;> simp [P28.nt]
theorem refsN_take (ns : List (List UInt8)) {L : List P28.Ref} {q : Nat} {r : P28.Ref} (h : L[q]? = some r) : P28.refsN ns [] (L.take (q + 1)) = P28.refsN ns [] (L.take q) ++ P28.refN ns (L.take q) r := by
  rw [List.take_add_one, h, show (some r).toList = [r] from rfl, P28.refsN_append]
  simp [P28.refsN]
theorem refsN_len (ns : List (List UInt8)) : ∀ (L seen : List P28.Ref), (P28.refsN ns seen L).length ≤ L.length * 3
  | [], seen => by simp [P28.refsN]
  | r :: L, seen => by
    have ih := refsN_len ns L (seen ++ [r])
    have e : P28.refsN ns seen (r :: L) = P28.refN ns seen r ++ P28.refsN ns (seen ++ [r]) L := rfl
    have h1 := P28.nt_le r.2.2.isNone r.1 5 r.2.1
    have h2 := P28.nt_le (decide (r.2.1 = ns.getD r.1 [])) r.1 8 r.2.1
    have h3 := P28.nt_le (decide ((r.1, r.2.1) ∈ seen.map fun q => (q.1, q.2.1))) r.1 6 r.2.1
    rw [e]
    simp only [P28.refN, List.length_append, List.length_cons]
    omega
theorem ownKs_mem (L : List P28.Ref) (xi : Nat) (xn : List UInt8) : ((xi : Int), xn) ∈ ownKs L ↔ (xi, xn) ∈ L.map fun q => (q.1, q.2.1) := by
  unfold ownKs
  simp only [List.mem_map, Prod.mk.injEq]
  constructor
  · rintro ⟨r, h, e1, e2⟩; exact ⟨r, h, by omega, e2⟩
  · rintro ⟨r, h, e1, e2⟩; exact ⟨r, h, by omega, e2⟩
theorem ownKs_take {L : List P28.Ref} {q : Nat} {r : P28.Ref} (h : L[q]? = some r) : ownKs (L.take (q + 1)) = ownKs (L.take q) ++ [((r.1 : Int), r.2.1)] := by
  unfold ownKs
  rw [List.take_add_one, h]
  simp
theorem gr_trans {V x y : World} {b n : Nat} {v v1 v2 : Value} (g1 : Gr V x b v.ownBlock) (o1 : v1.ownBlock = v.ownBlock ∨ ∃ g, v1.ownBlock = some g ∧ V.heap.size ≤ g)
    (g2 : Gr (x.drewN n) y b v1.ownBlock) (o2 : v2.ownBlock = v1.ownBlock ∨ ∃ g, v2.ownBlock = some g ∧ (x.drewN n).heap.size ≤ g) : Gr V y b v.ownBlock ∧ (v2.ownBlock = v.ownBlock ∨ ∃ g, v2.ownBlock = some g ∧ V.heap.size ≤ g) := by
  have s1 := g1.size
  have s2 : x.heap.size ≤ y.heap.size := g2.size
  refine ⟨⟨g2.os.trans g1.os, g2.tape.trans g1.tape, g2.output.trans g1.output, Nat.le_trans s1 s2, fun k hk hb hv => (g2.block k (show k < x.heap.size by omega) hb (fun e => ?_)).trans (g1.block k hk hb hv)⟩, ?_⟩
  · rcases o1 with o | ⟨g, o, ho⟩
    · exact hv (e.trans o)
    · rw [o] at e; cases e; omega
  · rcases o2 with o | ⟨g, o, ho⟩
    · rw [o]; exact o1
    · exact .inr ⟨g, o, Nat.le_trans s1 ho⟩
theorem CkI.next {w V x U W3 : World} {H f R cn : Nat} {d : PDef} {ns ns' : List P28.Note} {ks : List (Int × List UInt8)} {k : Int × List UInt8} {X M : Nat → Prop} {v v' : Value} {Lm : List ((Int × List UInt8) × Value)}
    (h : CkI w H f R d ns ks X M V) (hcnt : ∀ k, 0 < (match lk Lm k with | some (.int _ n) => n | _ => 0) ↔ k ∈ ks) (hcn2 : ∀ k u, lk Lm k = some u → ∃ n : Nat, u = .int .i64 n ∧ n ≤ ks.length)
    (hown : ∀ g, v.ownBlock = some g → (g < R ∨ R + 3 ≤ g) ∧ M g ∧ ¬ X g) (hN : NS w x H f d ns' v') (hG : Gr V x (H + 1) v.ownBlock) (hO : v'.ownBlock = v.ownBlock ∨ ∃ g, v'.ownBlock = some g ∧ V.heap.size ≤ g)
    (hU : x.drew = U) (hmp : MapG encOwn W3 R (putL Lm k (.int .i64 ((cn : Int) + 1)))) (hcn : (lk Lm k).getD (.int .i64 0) = .int .i64 cn) (hg : U.grownBy W3 (some R)) :
    ∃ M', KeepsM M V M' W3 ∧ CkI w H f R d ns' (ks ++ [k]) (fun _ => False) M' W3 := by
  subst hU
  obtain ⟨_, hbx, hM4, hlow, hsz, hms⟩ := h
  have hz1 := hG.size
  have hz2 : x.heap.size ≤ W3.heap.size := hg.size
  have hsame : ∀ r, r < x.heap.size → r ≠ R → W3.heap[r]? = x.heap[r]? := fun r h1 h2 => hg.block r h1 (fun e => h2 (by cases e; rfl))
  have hvo : ∀ g, v'.ownBlock = some g → M g ∨ V.heap.size ≤ g := fun g e => by
    rcases hO with o | ⟨g', o, ho⟩
    · exact .inl (hown g (o.symm.trans e)).2.1
    · rw [e] at o; cases o; exact .inr ho
  have hvR : ∀ g, v'.ownBlock = some g → g < R ∨ R + 3 ≤ g := fun g e => by
    rcases hO with o | ⟨g', o, ho⟩
    · exact (hown g (o.symm.trans e)).1
    · rw [e] at o; cases o; exact .inr (by omega)
  have hcl : cn ≤ ks.length := by
    cases hq : lk Lm k with
    | none => rw [hq] at hcn; simp at hcn; omega
    | some u =>
      obtain ⟨n, rfl, hn⟩ := hcn2 k u hq
      rw [hq] at hcn
      simp at hcn
      omega
  refine ⟨fun r => r = H + 1 ∨ r = R ∨ v'.ownBlock = some r, ⟨by omega, fun r hr hl => ?_, fun r hr => ?_⟩, ⟨v', _, ?_, hmp, fun k' => ?_, fun k' u hu => ?_, fun g e => ⟨hvR g e, .inr (.inr e), id⟩⟩, ?_, ⟨.inl rfl, id, .inr (.inl rfl), id⟩, hlow, by omega, fun g hg1 => ?_⟩
  · have h1 : r ≠ H + 1 := fun e => hr (e ▸ hM4.1)
    have h2 : r ≠ R := fun e => hr (e ▸ hM4.2.2.1)
    have h3 : some r ≠ v.ownBlock := fun e => hr (hown r e.symm).2.1
    exact (hsame r (by omega) h2).trans (hG.block r hl h1 h3)
  · rcases hr with rfl | rfl | e
    · exact .inl hM4.1
    · exact .inl hM4.2.2.1
    · exact hvo r e
  · have hl := hN.size
    have hb2 : Below H w x := hN.bel
    exact ⟨hN.nb.keep (hsame _ (by omega) (by omega)) (fun g e => hsame g (hN.nb.own.lt e).2 (fun q => by have := hvR g e; omega)), (hsame _ (by omega) (by omega)).trans hN.df, (hsame _ (by omega) (by omega)).trans hN.fn, (hb2.drew).grown hg (by show H ≤ x.heap.size; omega) (fun q e => by cases e; omega), by omega⟩
  · rw [lk_put, List.mem_append, List.mem_singleton]
    by_cases e : k' = k
    · subst e
      rw [if_pos rfl]
      refine ⟨fun _ => .inr rfl, fun _ => ?_⟩
      show (0 : Int) < (cn : Int) + 1
      omega
    · rw [if_neg e]
      simp only [e, or_false]
      exact hcnt k'
  · rw [lk_put] at hu
    by_cases e : k' = k
    · rw [if_pos e] at hu
      cases hu
      exact ⟨cn + 1, by simp, by simp; omega⟩
    · rw [if_neg e] at hu
      obtain ⟨n, e1, e2⟩ := hcn2 k' u hu
      exact ⟨n, e1, by simp; omega⟩
  · exact (hsame _ (by omega) (by omega)).trans ((hG.block _ (by omega) (by omega) (fun e => by have := (hown _ e.symm).1; omega)).trans hbx)
  · rcases hg1 with rfl | rfl | e
    · omega
    · omega
    · have h1 := hvR g e
      have h2 := (hN.nb.own.lt e)
      refine ⟨.inr h2.1, by omega, by omega, by omega⟩
end Go.Proofs.YtefokfbgpfcbkaaGreat
