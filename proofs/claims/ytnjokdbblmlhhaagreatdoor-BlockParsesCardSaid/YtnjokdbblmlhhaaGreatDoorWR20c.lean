/- The reference's parser of tokens: Value. -/
import Derived.Test.YtnjokdbblmlhhaaGreatDoorWR20v
namespace Go.Proofs.YtnjokdbblmlhhaaGreatDoor
set_option linter.unusedVariables false
set_option linter.unusedSimpArgs false
open Go.RowKit
attribute [local go_sem] tokField1 tokField2
theorem RPr.k8h {W : World} {B rb k : Nat} {all r : List Tk} {x : List UInt8} {n c : Int} (h : RPr W B rb all ((k, x, n, c) :: r)) : k < 8 := by
  obtain ⟨⟨a, c', k', g, hi, h1, h2, h3, h4, h5, h6⟩, hlt, hne, k8, hl⟩ := h
  exact (k8 (k, x, n, c) (List.mem_of_mem_drop (i := k') (by rw [h3]; simp))).1
theorem RPr.lenH {W : World} {B rb : Nat} {all r : List Tk} (h : RPr W B rb all r) : r.length ≤ 1000000 := by
  obtain ⟨⟨a, c', k', g, hi, h1, h2, h3, h4, h5, h6⟩, hlt, hne, k8, hl⟩ := h
  rw [← h3, List.length_drop]
  omega
theorem RPr.textL {W : World} {B rb k : Nat} {all r : List Tk} {x : List UInt8} {n c : Int} (h : RPr W B rb all ((k, x, n, c) :: r)) : x.length ≤ maxLen := by
  obtain ⟨⟨a, c', k', g, hi, h1, h2, h3, h4, h5, h6⟩, hlt, hne, k8, hl⟩ := h
  exact (k8 (k, x, n, c) (List.mem_of_mem_drop (i := k') (by rw [h3]; simp))).2
set_option maxRecDepth 100000 in
set_option maxHeartbeats 8000000 in
theorem rvalue_plain (last : Int) (f : Nat) (hV : ∀ g, g ≤ f → RValC last g) (hWi : ∀ g, g ≤ f → RWiC last g) (lv : Nat) (ts : List Tk) (B rb : Nat) (all : List Tk) (o : P20.Out P20.T) (w : World) (h : RPr w B rb all ts) (hB : B ≤ w.heap.size) (hla : lastLn all = last) (hlv : lv ≤ 17) (hd : P20.Val last (f + 1) lv ts o) (hkk : P20.kindOf ts ≠ 3 ∧ P20.kindOf ts ≠ 4) :
    Calls Tryz.prog 35 #[.pointer (some ⟨rb, 0, none⟩), .int .i64 lv] w (RValPost w B rb all o) := by
  obtain ⟨W0, hW0, hb0, g0, g1, hs0⟩ := two_pair w (.cells #[.int .u8 0, .string ⟨#[]⟩, .slice none 0 0, .slice none 0 0, .int .i64 0] 26) (.cells #[.int .i64 0, .int .i64 0] 29)
  obtain ⟨H, hH⟩ : ∃ H, w.heap.size = H := ⟨_, rfl⟩
  have hR0 : RPr W0 B rb all ts := h.keep hB hb0
  have hG0 := grown_of_below hb0 (some rb)
  have hrb := hR0.lt
  rw [hH] at g0 g1 hs0 hb0
  obtain ⟨⟨r0, s0⟩, ⟨r1, s1⟩, ⟨r2, s2⟩, ⟨r3, s3⟩, ⟨r4, s4⟩⟩ := five_cell g0
  obtain ⟨⟨t0, u0⟩, ⟨t1, u1⟩⟩ := two_cell g1
  have HW0 := hide hW0
  have HG0 := hide g0
  have HG1 := hide g1
  have HLA := hide hla
  have HH := hide hH
  have HD := hide hd
  have HV := hide hV
  have HWI := hide hWi
  have hmx := hmx0
  have HKK := hide hkk
  clear hkk
  clear hW0 g0 g1 h hla hb0 hd hV hWi
  by_cases hlv : 16 < lv
  · have hd := unhide HD
    have ho : o = .bad 11 (P20.hereL last ts) := by
      cases hd with
      | deep h => rfl
      | _ => omega
    subst ho
    have hE := rfault_any B rb all ts 11 W0 hR0
    rw [unhide HLA] at hE
    have HE := hide hE
    have jl : (16 : Int) < (lv : Int) := by omega
    clear hd HD hE hR0
    go_enter Tryz.func35, Tryz.ntmps35
    go_upto_region 1 with fail
    try rw [unhide HH]
    rw [unhide HW0]
    go_wp2_with (go_at_call 36; refine (unhide HE).mono ?_; rintro e w5 ⟨rfl, hb5⟩; have k5 := (hb5.block H (by omega)).trans (unhide HG0); have m5 := (hb5.block (H + 1) (by omega)).trans (unhide HG1); obtain ⟨⟨r0, s0⟩, ⟨r1, s1⟩, ⟨r2, s2⟩, ⟨r3, s3⟩, ⟨r4, s4⟩⟩ := five_cell k5; obtain ⟨⟨t0, u0⟩, ⟨t1, u1⟩⟩ := two_cell m5; have HK5 := hide k5; have HM5 := hide m5; clear k5 m5)
    have hT := (two_b (unhide HK5) (unhide HM5) (.int .u8 0) (.string ⟨#[]⟩) (.slice none 0 0) (.slice none 0 0) (.int .i64 0) (.int .i64 11) (.int .i64 (P20.hereL last ts))).undrew
    exact bodyPost_ret (two_ret rfl _ rfl rfl hT.h0 hT.h1) rfl ⟨0, [], none, 0, 0, none, 0, 0, 0, rfl, hide (two_grown hT (grown_trans1 hG0 (grown_of_below hb5 _)) (by have := unhide HH; omega))⟩
  have jl : (lv : Int) ≤ 16 := by omega
  have hlw : IntKind.i64.wrap ((lv : Int) + 1) = (lv : Int) + 1 := IntWalk.i64_in _ (by omega)
  have HLV := hide hlv
  clear hlv
  obtain ⟨b, ot, c, k0, m0, p0, hm, hml, hkl, q2⟩ := hR0.here
  obtain ⟨hl0, hhl⟩ : ∃ z, P20.hereL (lastLn all) ts = z := ⟨_, rfl⟩
  rw [hhl] at q2
  have hl1M := hR0.len
  have hz : IntKind.i64.wrap ((all.length : Int) - 1) = (all.length : Int) - 1 := IntWalk.i64_in _ (by omega)
  obtain ⟨⟨x0, _⟩, ⟨x1, _⟩⟩ := two_cell p0
  have hbl := cellLt q2
  have hrl : rb < W0.heap.size := by omega
  have hal : ∀ r o, r < W0.heap.size → (W0.alloc (.cells #[.int .u8 0, .string ⟨#[]⟩, .slice none 0 0, .slice none 0 0, .int .i64 0] 26)).cell? ⟨r, o, none⟩ = W0.cell? ⟨r, o, none⟩ := fun r o h => cell_of_block (Below.heap_alloc _ _ _ h) o
  have x0a := (hal rb 0 hrl).trans x0
  have x1a := (hal rb 1 hrl).trans x1
  have q2a := (hal b (ot + m0 * 4 + 2) hbl).trans q2
  clear hal
  have HHL := hide hhl
  have HR0 := hide hR0
  clear p0 hhl hR0
  go_enter Tryz.func35, Tryz.ntmps35
  go_upto_region 1 with fail
  try rw [unhide HH]
  rw [unhide HW0]
  go_wp2
  go_region
  obtain ⟨W1, hW1⟩ : ∃ W1, (W0.alloc (.cells #[.int .u8 0, .string ⟨#[]⟩, .slice none 0 0, .slice none 0 0, .int .i64 hl0] 26)).drew = W1 := ⟨_, rfl⟩
  have hR1 : RPr W1 B rb all ts := by rw [← hW1]; exact ((unhide HR0).alloc (by have := unhide HH; omega) _).drew
  have hG1 : w.grownBy W1 (some rb) := by rw [← hW1]; exact grown_drew (grown_trans1 hG0 (World.grownBy_alloc W0 _ _))
  have hs1 : W1.heap.size = H + 1 + 1 + 1 := by rw [← hW1]; simp [World.drew]; omega
  have a0 := (show W1.heap[H]? = W0.heap[H]? by rw [← hW1]; exact Below.heap_alloc _ _ _ (by omega)).trans (unhide HG0)
  have a1 := (show W1.heap[H + 1]? = W0.heap[H + 1]? by rw [← hW1]; exact Below.heap_alloc _ _ _ (by omega)).trans (unhide HG1)
  have a2 : W1.heap[H + 1 + 1]? = some (.cells #[.int .u8 0, .string ⟨#[]⟩, .slice none 0 0, .slice none 0 0, .int .i64 hl0] 26) := by rw [← hW1, ← hs0]; exact World.alloc_heap_new W0 _
  rw [hW1]
  obtain ⟨kq, hkq⟩ : ∃ kq : Int, ((P20.kindOf ts : Nat) : Int) = kq := ⟨_, rfl⟩
  clear hW1 x0 x1 x0a x1a q2 q2a hm hml hkl hz hl1M hbl hrl r0 s0 r1 s1 r2 s2 r3 s3 r4 s4 t0 u0 t1 u1 HG0 HG1 HR0 hG0 hs0 HW0
  have HK0 := hide a0
  have HK1 := hide a1
  have HK2 := hide a2
  clear a0 a1 a2
  go_upto_region 6 with (go_at_call 73; refine (rkind_lit B rb all ts kq _ hR1 hkq).mono ?_; rintro e w' ⟨rfl, q, rfl⟩)
  obtain ⟨W2, hW2⟩ : ∃ W2, W1.drewN q = W2 := ⟨_, rfl⟩
  have hR2 : RPr W2 B rb all ts := by rw [← hW2]; exact hR1.drewN q
  have hG2 : w.grownBy W2 (some rb) := by rw [← hW2]; exact grown_trans1 hG1 (grown_drewN _ q _)
  have a0 := (show W2.heap[H]? = W1.heap[H]? by rw [← hW2]; rfl).trans (unhide HK0)
  have a1 := (show W2.heap[H + 1]? = W1.heap[H + 1]? by rw [← hW2]; rfl).trans (unhide HK1)
  have a2 := (show W2.heap[H + 1 + 1]? = W1.heap[H + 1 + 1]? by rw [← hW2]; rfl).trans (unhide HK2)
  have hs2 : W2.heap.size = H + 1 + 1 + 1 := by rw [← hW2]; exact hs1
  have hBH : B ≤ H := by have := unhide HH; omega
  rw [hW2]
  have HK0 := hide a0
  have HK1 := hide a1
  have HKQ := hide hkq
  have HN := hide a2
  clear a0 a1 a2 hW2 hR1 hG1 hs1 HK2 hkq
  have hd := (unhide HD).w
  clear HD
  cases hd with
  | deep h => exact absurd h (unhide HLV)
  | none_ h =>
    obtain rfl : kq = 0 := by have := unhide HKQ; rw [← this]; rfl
    obtain rfl : hl0 = last := by rw [← unhide HLA]; exact (unhide HHL).symm
    obtain ⟨⟨x0, f0⟩, ⟨x1, f1⟩, ⟨x2, f2⟩, ⟨x3, f3⟩, ⟨x4, f4⟩⟩ := five_cell (unhide HN)
    have hE := rfault_any B rb all _ 3 W2.drew hR2.drew
    rw [unhide HHL] at hE
    have HE := hide hE
    clear hE
    go_wp2
    go_region_with_o (go_at_call 36; refine (unhide HE).mono ?_; rintro e w5 ⟨rfl, hb5⟩; have k5 := (hb5.block H (by show H < W2.heap.size; omega)).trans (unhide HK0); have m5 := (hb5.block (H + 1) (by show H + 1 < W2.heap.size; omega)).trans (unhide HK1); have n5 := (hb5.block (H + 1 + 1) (by show H + 1 + 1 < W2.heap.size; omega)).trans (unhide HN); obtain ⟨⟨r0, s0⟩, ⟨r1, s1⟩, ⟨r2, s2⟩, ⟨r3, s3⟩, ⟨r4, s4⟩⟩ := five_cell k5; obtain ⟨⟨t0, u0⟩, ⟨t1, u1⟩⟩ := two_cell m5; obtain ⟨⟨z0, _⟩, ⟨z1, _⟩, ⟨z2, _⟩, ⟨z3, _⟩, ⟨z4, _⟩⟩ := five_cell n5; have HK5 := hide k5; have HM5 := hide m5; clear k5 m5 n5)
    all_goals go_wp2
    all_goals
      have hT := (two_b (unhide HK5) (unhide HM5) (.int .u8 0) (.string ⟨#[]⟩) (.slice none 0 0) (.slice none 0 0) (.int .i64 hl0) (.int .i64 3) (.int .i64 hl0)).undrew
      exact bodyPost_ret (two_ret rfl _ rfl rfl hT.h0 hT.h1) rfl ⟨0, [], none, 0, 0, none, 0, 0, hl0, rfl, hide (two_grown hT (grown_trans1 (grown_drew hG2) (grown_of_below hb5 _)) (by have := unhide HH; omega))⟩
  | @word x n c r h =>
    obtain rfl : kq = 5 := by have := unhide HKQ; rw [← this]; rfl
    obtain rfl : hl0 = n := (unhide HHL).symm
    obtain ⟨b1, o1, c1, k1, p1, hk1, hk2, hb1, hb2, cc0, cc1, _, _⟩ := hR2.cons
    obtain ⟨⟨y0, _⟩, ⟨y1, _⟩⟩ := two_cell p1
    obtain ⟨⟨x0, f0⟩, ⟨x1, f1⟩, ⟨x2, f2⟩, ⟨x3, f3⟩, ⟨x4, f4⟩⟩ := five_cell (unhide HN)
    have hki : (k1 : Int) < (all.length : Int) := by omega
    have hxl := hR2.textL
    clear p1 h
    go_wp2
    go_region
    obtain ⟨V, hV⟩ : ∃ V, ((W2.setCell ⟨H + 1 + 1, 0, none⟩ (.int .u8 1)).setCell ⟨H + 1 + 1, 1, none⟩ (.string ⟨x.toArray⟩)).drew = V := ⟨_, rfl⟩
    have hRV : RPr V B rb all ((5, x, hl0, c) :: r) := by rw [← hV]; exact ((hR2.setCell (by omega) _ _).setCell (by omega) _ _).drew
    have hGV : w.grownBy V (some rb) := by rw [← hV]; exact grown_drew (grown_new (grown_new hG2 (by have := unhide HH; omega) _) (by have := unhide HH; omega) _)
    have hsV : ∀ g, g ≠ H + 1 + 1 → g ≠ rb → V.heap[g]? = W2.heap[g]? := fun g hg hr => by rw [← hV]; exact (Below.heap_setCell _ _ _ _ (by exact hg)).trans (Below.heap_setCell _ _ _ _ (by exact hg))
    have nV : V.heap[H + 1 + 1]? = some (.cells #[.int .u8 1, .string ⟨x.toArray⟩, .slice none 0 0, .slice none 0 0, .int .i64 hl0] 26) := by rw [← hV]; exact put5_1 (put5_0 (unhide HN) _) _
    have mV := (hsV H (by omega) (by omega)).trans (unhide HK0)
    have lV := (hsV (H + 1) (by omega) (by omega)).trans (unhide HK1)
    rw [hV]
    have HN := hide nV
    have HK0 := hide mV
    have HK1 := hide lV
    clear hV hsV nV mV lV
    clear y0 y1 x0 f0 x1 f1 x2 f2 x3 f3 x4 f4 cc0 cc1 hR2 hG2
    obtain ⟨a5, c5, k5, p5, hk5, hR5, hg5⟩ := hRV.step
    obtain ⟨⟨y0, e0⟩, ⟨y1, e1⟩⟩ := two_cell p5
    go_upto_region 43 with fail
    obtain ⟨V2, hV2⟩ : ∃ V2, V.setCell ⟨rb, 1, none⟩ (.int .i64 ((k5 : Int) + 1)) = V2 := ⟨_, rfl⟩
    have hRV2 : RPr V2 B rb all r := by rw [← hV2]; exact hR5
    have hGV2 : w.grownBy V2 (some rb) := by rw [← hV2]; exact grown_trans1 hGV hg5
    have hsV2 : ∀ g, g ≠ H + 1 + 1 → g ≠ rb → V2.heap[g]? = V.heap[g]? := fun g hg hr => by rw [← hV2]; exact Below.heap_setCell _ _ _ _ (by exact hr)
    have nV2 : V2.heap[H + 1 + 1]? = some (.cells #[.int .u8 1, .string ⟨x.toArray⟩, .slice none 0 0, .slice none 0 0, .int .i64 hl0] 26) := by rw [← hV2]; exact (Below.heap_setCell _ _ _ _ (by show H + 1 + 1 ≠ rb; omega)).trans (unhide HN)
    have mV2 := (hsV2 H (by omega) (by omega)).trans (unhide HK0)
    have lV2 := (hsV2 (H + 1) (by omega) (by omega)).trans (unhide HK1)
    rw [hV2]
    have HN := hide nV2
    have HK0 := hide mV2
    have HK1 := hide lV2
    clear hV2 hsV2 nV2 mV2 lV2
    clear p5 y0 e0 y1 e1 hk5 hR5 hg5 hGV hRV
    obtain ⟨⟨x0, f0⟩, ⟨x1, f1⟩, ⟨x2, f2⟩, ⟨x3, f3⟩, ⟨x4, f4⟩⟩ := five_cell (unhide HN)
    obtain ⟨⟨r0, s0⟩, ⟨r1, s1⟩, ⟨r2, s2⟩, ⟨r3, s3⟩, ⟨r4, s4⟩⟩ := five_cell (unhide HK0)
    obtain ⟨⟨t0, u0⟩, ⟨t1, u1⟩⟩ := two_cell (unhide HK1)
    go_wp2
    have hT := (two_b (unhide HK0) (unhide HK1) (.int .u8 1) (.string ⟨x.toArray⟩) (.slice none 0 0) (.slice none 0 0) (.int .i64 hl0) (.int .i64 0) (.int .i64 0)).undrew
    exact bodyPost_ret (two_ret rfl _ rfl rfl hT.h0 hT.h1) rfl ⟨1, x, none, 0, [], none, 0, [], hl0, rfl, hide (two_nd hT rfl (fit_leaf _ 1 x hl0 (by omega) hxl) (fun g hg => absurd hg (leaf_blk _ _ _ g)) hRV2 hGV2 (by have := unhide HH; omega) hB)⟩
  | @noseq x n c r h =>
    obtain rfl : kq = 6 := by have := unhide HKQ; rw [← this]; rfl
    obtain rfl : hl0 = n := (unhide HHL).symm
    obtain ⟨⟨x0, f0⟩, ⟨x1, f1⟩, ⟨x2, f2⟩, ⟨x3, f3⟩, ⟨x4, f4⟩⟩ := five_cell (unhide HN)
    clear h
    go_upto_region 11 with fail
    obtain ⟨V, hV⟩ : ∃ V, W2.setCell ⟨H + 1 + 1, 0, none⟩ (.int .u8 2) = V := ⟨_, rfl⟩
    have hRV : RPr V B rb all ((6, x, hl0, c) :: r) := by rw [← hV]; exact hR2.setCell (by omega) _ _
    have hGV : w.grownBy V (some rb) := by rw [← hV]; exact grown_new hG2 (by have := unhide HH; omega) _
    have hsV : ∀ g, g ≠ H + 1 + 1 → g ≠ rb → V.heap[g]? = W2.heap[g]? := fun g hg hr => by rw [← hV]; exact Below.heap_setCell _ _ _ _ (by exact hg)
    have nV : V.heap[H + 1 + 1]? = some (.cells #[.int .u8 2, .string ⟨#[]⟩, .slice none 0 0, .slice none 0 0, .int .i64 hl0] 26) := by rw [← hV]; exact put5_0 (unhide HN) _
    have mV := (hsV H (by omega) (by omega)).trans (unhide HK0)
    have lV := (hsV (H + 1) (by omega) (by omega)).trans (unhide HK1)
    rw [hV]
    have HN := hide nV
    have HK0 := hide mV
    have HK1 := hide lV
    clear hV hsV nV mV lV
    clear x0 f0 x1 f1 x2 f2 x3 f3 x4 f4 hR2 hG2
    obtain ⟨a5, c5, k5, p5, hk5, hR5, hg5⟩ := hRV.step
    obtain ⟨⟨y0, e0⟩, ⟨y1, e1⟩⟩ := two_cell p5
    go_upto_region 43 with fail
    obtain ⟨V2, hV2⟩ : ∃ V2, V.setCell ⟨rb, 1, none⟩ (.int .i64 ((k5 : Int) + 1)) = V2 := ⟨_, rfl⟩
    have hRV2 : RPr V2 B rb all r := by rw [← hV2]; exact hR5
    have hGV2 : w.grownBy V2 (some rb) := by rw [← hV2]; exact grown_trans1 hGV hg5
    have hsV2 : ∀ g, g ≠ H + 1 + 1 → g ≠ rb → V2.heap[g]? = V.heap[g]? := fun g hg hr => by rw [← hV2]; exact Below.heap_setCell _ _ _ _ (by exact hr)
    have nV2 : V2.heap[H + 1 + 1]? = some (.cells #[.int .u8 2, .string ⟨#[]⟩, .slice none 0 0, .slice none 0 0, .int .i64 hl0] 26) := by rw [← hV2]; exact (Below.heap_setCell _ _ _ _ (by show H + 1 + 1 ≠ rb; omega)).trans (unhide HN)
    have mV2 := (hsV2 H (by omega) (by omega)).trans (unhide HK0)
    have lV2 := (hsV2 (H + 1) (by omega) (by omega)).trans (unhide HK1)
    rw [hV2]
    have HN := hide nV2
    have HK0 := hide mV2
    have HK1 := hide lV2
    clear hV2 hsV2 nV2 mV2 lV2
    clear p5 y0 e0 y1 e1 hk5 hR5 hg5 hGV hRV
    obtain ⟨⟨x0, f0⟩, ⟨x1, f1⟩, ⟨x2, f2⟩, ⟨x3, f3⟩, ⟨x4, f4⟩⟩ := five_cell (unhide HN)
    obtain ⟨⟨r0, s0⟩, ⟨r1, s1⟩, ⟨r2, s2⟩, ⟨r3, s3⟩, ⟨r4, s4⟩⟩ := five_cell (unhide HK0)
    obtain ⟨⟨t0, u0⟩, ⟨t1, u1⟩⟩ := two_cell (unhide HK1)
    go_wp2
    have hT := (two_b (unhide HK0) (unhide HK1) (.int .u8 2) (.string ⟨#[]⟩) (.slice none 0 0) (.slice none 0 0) (.int .i64 hl0) (.int .i64 0) (.int .i64 0)).undrew
    exact bodyPost_ret (two_ret rfl _ rfl rfl hT.h0 hT.h1) rfl ⟨2, [], none, 0, [], none, 0, [], hl0, rfl, hide (two_nd hT rfl (fit_leaf _ 2 [] hl0 (by omega) (Nat.zero_le _)) (fun g hg => absurd hg (leaf_blk _ _ _ g)) hRV2 hGV2 (by have := unhide HH; omega) hB)⟩
  | @nomap x n c r h =>
    obtain rfl : kq = 7 := by have := unhide HKQ; rw [← this]; rfl
    obtain rfl : hl0 = n := (unhide HHL).symm
    obtain ⟨⟨x0, f0⟩, ⟨x1, f1⟩, ⟨x2, f2⟩, ⟨x3, f3⟩, ⟨x4, f4⟩⟩ := five_cell (unhide HN)
    clear h
    go_upto_region 14 with fail
    obtain ⟨V, hV⟩ : ∃ V, W2.setCell ⟨H + 1 + 1, 0, none⟩ (.int .u8 3) = V := ⟨_, rfl⟩
    have hRV : RPr V B rb all ((7, x, hl0, c) :: r) := by rw [← hV]; exact hR2.setCell (by omega) _ _
    have hGV : w.grownBy V (some rb) := by rw [← hV]; exact grown_new hG2 (by have := unhide HH; omega) _
    have hsV : ∀ g, g ≠ H + 1 + 1 → g ≠ rb → V.heap[g]? = W2.heap[g]? := fun g hg hr => by rw [← hV]; exact Below.heap_setCell _ _ _ _ (by exact hg)
    have nV : V.heap[H + 1 + 1]? = some (.cells #[.int .u8 3, .string ⟨#[]⟩, .slice none 0 0, .slice none 0 0, .int .i64 hl0] 26) := by rw [← hV]; exact put5_0 (unhide HN) _
    have mV := (hsV H (by omega) (by omega)).trans (unhide HK0)
    have lV := (hsV (H + 1) (by omega) (by omega)).trans (unhide HK1)
    rw [hV]
    have HN := hide nV
    have HK0 := hide mV
    have HK1 := hide lV
    clear hV hsV nV mV lV
    clear x0 f0 x1 f1 x2 f2 x3 f3 x4 f4 hR2 hG2
    obtain ⟨a5, c5, k5, p5, hk5, hR5, hg5⟩ := hRV.step
    obtain ⟨⟨y0, e0⟩, ⟨y1, e1⟩⟩ := two_cell p5
    go_upto_region 43 with fail
    obtain ⟨V2, hV2⟩ : ∃ V2, V.setCell ⟨rb, 1, none⟩ (.int .i64 ((k5 : Int) + 1)) = V2 := ⟨_, rfl⟩
    have hRV2 : RPr V2 B rb all r := by rw [← hV2]; exact hR5
    have hGV2 : w.grownBy V2 (some rb) := by rw [← hV2]; exact grown_trans1 hGV hg5
    have hsV2 : ∀ g, g ≠ H + 1 + 1 → g ≠ rb → V2.heap[g]? = V.heap[g]? := fun g hg hr => by rw [← hV2]; exact Below.heap_setCell _ _ _ _ (by exact hr)
    have nV2 : V2.heap[H + 1 + 1]? = some (.cells #[.int .u8 3, .string ⟨#[]⟩, .slice none 0 0, .slice none 0 0, .int .i64 hl0] 26) := by rw [← hV2]; exact (Below.heap_setCell _ _ _ _ (by show H + 1 + 1 ≠ rb; omega)).trans (unhide HN)
    have mV2 := (hsV2 H (by omega) (by omega)).trans (unhide HK0)
    have lV2 := (hsV2 (H + 1) (by omega) (by omega)).trans (unhide HK1)
    rw [hV2]
    have HN := hide nV2
    have HK0 := hide mV2
    have HK1 := hide lV2
    clear hV2 hsV2 nV2 mV2 lV2
    clear p5 y0 e0 y1 e1 hk5 hR5 hg5 hGV hRV
    obtain ⟨⟨x0, f0⟩, ⟨x1, f1⟩, ⟨x2, f2⟩, ⟨x3, f3⟩, ⟨x4, f4⟩⟩ := five_cell (unhide HN)
    obtain ⟨⟨r0, s0⟩, ⟨r1, s1⟩, ⟨r2, s2⟩, ⟨r3, s3⟩, ⟨r4, s4⟩⟩ := five_cell (unhide HK0)
    obtain ⟨⟨t0, u0⟩, ⟨t1, u1⟩⟩ := two_cell (unhide HK1)
    go_wp2
    have hT := (two_b (unhide HK0) (unhide HK1) (.int .u8 3) (.string ⟨#[]⟩) (.slice none 0 0) (.slice none 0 0) (.int .i64 hl0) (.int .i64 0) (.int .i64 0)).undrew
    exact bodyPost_ret (two_ret rfl _ rfl rfl hT.h0 hT.h1) rfl ⟨3, [], none, 0, [], none, 0, [], hl0, rfl, hide (two_nd hT rfl (fit_leaf _ 3 [] hl0 (by omega) (Nat.zero_le _)) (fun g hg => absurd hg (leaf_blk _ _ _ g)) hRV2 hGV2 (by have := unhide HH; omega) hB)⟩
  | @form k x n c r h hk =>
    obtain rfl : hl0 = n := (unhide HHL).symm
    have h8 := hR2.k8h
    have hkk : (k : Int) = kq := unhide HKQ
    have j5 : (kq == 5) = false := by rw [beq_eq_false_iff_ne]; omega
    have j6 : (kq == 6) = false := by rw [beq_eq_false_iff_ne]; omega
    have j7 : (kq == 7) = false := by rw [beq_eq_false_iff_ne]; omega
    have j3 : (kq == 3) = false := by rw [beq_eq_false_iff_ne]; omega
    have j4 : (kq == 4) = false := by rw [beq_eq_false_iff_ne]; omega
    clear h8 hkk hk h
    obtain ⟨⟨x0, f0⟩, ⟨x1, f1⟩, ⟨x2, f2⟩, ⟨x3, f3⟩, ⟨x4, f4⟩⟩ := five_cell (unhide HN)
    have hE := rfault_any B rb all _ 3 W2.drew hR2.drew
    rw [unhide HHL] at hE
    have HE := hide hE
    clear hE
    go_wp2
    go_region_with_o (go_at_call 36; refine (unhide HE).mono ?_; rintro e w5 ⟨rfl, hb5⟩; have k5 := (hb5.block H (by show H < W2.heap.size; omega)).trans (unhide HK0); have m5 := (hb5.block (H + 1) (by show H + 1 < W2.heap.size; omega)).trans (unhide HK1); have n5 := (hb5.block (H + 1 + 1) (by show H + 1 + 1 < W2.heap.size; omega)).trans (unhide HN); obtain ⟨⟨r0, s0⟩, ⟨r1, s1⟩, ⟨r2, s2⟩, ⟨r3, s3⟩, ⟨r4, s4⟩⟩ := five_cell k5; obtain ⟨⟨t0, u0⟩, ⟨t1, u1⟩⟩ := two_cell m5; obtain ⟨⟨z0, _⟩, ⟨z1, _⟩, ⟨z2, _⟩, ⟨z3, _⟩, ⟨z4, _⟩⟩ := five_cell n5; have HK5 := hide k5; have HM5 := hide m5; clear k5 m5 n5)
    all_goals go_wp2
    all_goals
      have hT := (two_b (unhide HK5) (unhide HM5) (.int .u8 0) (.string ⟨#[]⟩) (.slice none 0 0) (.slice none 0 0) (.int .i64 hl0) (.int .i64 3) (.int .i64 hl0)).undrew
      exact bodyPost_ret (two_ret rfl _ rfl rfl hT.h0 hT.h1) rfl ⟨0, [], none, 0, 0, none, 0, 0, hl0, rfl, hide (two_grown hT (grown_trans1 (grown_drew hG2) (grown_of_below hb5 _)) (by have := unhide HH; omega))⟩
  | seq h hs => exact absurd (unhide HKK) (by simp [P20.kindOf])
  | keys h hs => exact absurd (unhide HKK) (by simp [P20.kindOf])
end Go.Proofs.YtnjokdbblmlhhaaGreatDoor
