/- The reference's parser of tokens: Value. -/
import Derived.Test.YtnjokdbblmlhhaaGreatDoorWR20c
namespace Go.Proofs.YtnjokdbblmlhhaaGreatDoor
set_option linter.unusedVariables false
set_option linter.unusedSimpArgs false
open Go.RowKit
attribute [local go_sem] tokField1 tokField2
set_option maxRecDepth 100000 in
set_option maxHeartbeats 8000000 in
theorem rvalue_seq (last : Int) (f : Nat) (hV : ∀ g, g ≤ f → RValC last g) (hWi : ∀ g, g ≤ f → RWiC last g) (lv : Nat) (ts : List Tk) (B rb : Nat) (all : List Tk) (o : P20.Out P20.T) (w : World) (h : RPr w B rb all ts) (hB : B ≤ w.heap.size) (hla : lastLn all = last) (hlv : lv ≤ 17) (hd : P20.Val last (f + 1) lv ts o) (hkk : P20.kindOf ts = 3) (hl6 : ¬ 16 < lv) :
    Calls Tryz.prog 35 #[.pointer (some ⟨rb, 0, none⟩), .int .i64 lv] w (RValPost w B rb all o) := by
  obtain ⟨W0, hW0, hb0, g0, g1, hs0⟩ := two_pair w (.cells #[.int .u8 0, .string ⟨#[]⟩, .slice none 0 0, .slice none 0 0, .int .i64 0] 26) (.cells #[.int .i64 0, .int .i64 0] 29)
  obtain ⟨H, hH⟩ : ∃ H, w.heap.size = H := ⟨_, rfl⟩
  have hR0 : RPr W0 B rb all ts := h.keep hB hb0
  have hG0 := grown_of_below hb0 (some rb)
  have hrb := hR0.lt
  rw [hH] at g0 g1 hs0 hb0
  obtain ⟨⟨r0, s0⟩, ⟨r1, s1⟩, ⟨r2, s2⟩, ⟨r3, s3⟩, ⟨r4, s4⟩⟩ := five_cell g0
  obtain ⟨⟨t0, u0⟩, ⟨t1, u1⟩⟩ := two_cell g1
  have HW0 := hide hW0
  have HG0 := hide g0
  have HG1 := hide g1
  have HLA := hide hla
  have HH := hide hH
  have HD := hide hd
  have HV := hide hV
  have HWI := hide hWi
  have hmx := hmx0
  have HKK := hide hkk
  clear hkk
  clear hW0 g0 g1 h hla hb0 hd hV hWi
  have hlv := hl6
  clear hl6
  have jl : (lv : Int) ≤ 16 := by omega
  have hlw : IntKind.i64.wrap ((lv : Int) + 1) = (lv : Int) + 1 := IntWalk.i64_in _ (by omega)
  have HLV := hide hlv
  clear hlv
  obtain ⟨b, ot, c, k0, m0, p0, hm, hml, hkl, q2⟩ := hR0.here
  obtain ⟨hl0, hhl⟩ : ∃ z, P20.hereL (lastLn all) ts = z := ⟨_, rfl⟩
  rw [hhl] at q2
  have hl1M := hR0.len
  have hz : IntKind.i64.wrap ((all.length : Int) - 1) = (all.length : Int) - 1 := IntWalk.i64_in _ (by omega)
  obtain ⟨⟨x0, _⟩, ⟨x1, _⟩⟩ := two_cell p0
  have hbl := cellLt q2
  have hrl : rb < W0.heap.size := by omega
  have hal : ∀ r o, r < W0.heap.size → (W0.alloc (.cells #[.int .u8 0, .string ⟨#[]⟩, .slice none 0 0, .slice none 0 0, .int .i64 0] 26)).cell? ⟨r, o, none⟩ = W0.cell? ⟨r, o, none⟩ := fun r o h => cell_of_block (Below.heap_alloc _ _ _ h) o
  have x0a := (hal rb 0 hrl).trans x0
  have x1a := (hal rb 1 hrl).trans x1
  have q2a := (hal b (ot + m0 * 4 + 2) hbl).trans q2
  clear hal
  have HHL := hide hhl
  have HR0 := hide hR0
  clear p0 hhl hR0
  go_enter Tryz.func35, Tryz.ntmps35
  go_upto_region 1 with fail
  try rw [unhide HH]
  rw [unhide HW0]
  go_wp2
  go_region
  obtain ⟨W1, hW1⟩ : ∃ W1, (W0.alloc (.cells #[.int .u8 0, .string ⟨#[]⟩, .slice none 0 0, .slice none 0 0, .int .i64 hl0] 26)).drew = W1 := ⟨_, rfl⟩
  have hR1 : RPr W1 B rb all ts := by rw [← hW1]; exact ((unhide HR0).alloc (by have := unhide HH; omega) _).drew
  have hG1 : w.grownBy W1 (some rb) := by rw [← hW1]; exact grown_drew (grown_trans1 hG0 (World.grownBy_alloc W0 _ _))
  have hs1 : W1.heap.size = H + 1 + 1 + 1 := by rw [← hW1]; simp [World.drew]; omega
  have a0 := (show W1.heap[H]? = W0.heap[H]? by rw [← hW1]; exact Below.heap_alloc _ _ _ (by omega)).trans (unhide HG0)
  have a1 := (show W1.heap[H + 1]? = W0.heap[H + 1]? by rw [← hW1]; exact Below.heap_alloc _ _ _ (by omega)).trans (unhide HG1)
  have a2 : W1.heap[H + 1 + 1]? = some (.cells #[.int .u8 0, .string ⟨#[]⟩, .slice none 0 0, .slice none 0 0, .int .i64 hl0] 26) := by rw [← hW1, ← hs0]; exact World.alloc_heap_new W0 _
  rw [hW1]
  obtain ⟨kq, hkq⟩ : ∃ kq : Int, ((P20.kindOf ts : Nat) : Int) = kq := ⟨_, rfl⟩
  clear hW1 x0 x1 x0a x1a q2 q2a hm hml hkl hz hl1M hbl hrl r0 s0 r1 s1 r2 s2 r3 s3 r4 s4 t0 u0 t1 u1 HG0 HG1 HR0 hG0 hs0 HW0
  have HK0 := hide a0
  have HK1 := hide a1
  have HK2 := hide a2
  clear a0 a1 a2
  go_upto_region 6 with (go_at_call 73; refine (rkind_lit B rb all ts kq _ hR1 hkq).mono ?_; rintro e w' ⟨rfl, q, rfl⟩)
  obtain ⟨W2, hW2⟩ : ∃ W2, W1.drewN q = W2 := ⟨_, rfl⟩
  have hR2 : RPr W2 B rb all ts := by rw [← hW2]; exact hR1.drewN q
  have hG2 : w.grownBy W2 (some rb) := by rw [← hW2]; exact grown_trans1 hG1 (grown_drewN _ q _)
  have a0 := (show W2.heap[H]? = W1.heap[H]? by rw [← hW2]; rfl).trans (unhide HK0)
  have a1 := (show W2.heap[H + 1]? = W1.heap[H + 1]? by rw [← hW2]; rfl).trans (unhide HK1)
  have a2 := (show W2.heap[H + 1 + 1]? = W1.heap[H + 1 + 1]? by rw [← hW2]; rfl).trans (unhide HK2)
  have hs2 : W2.heap.size = H + 1 + 1 + 1 := by rw [← hW2]; exact hs1
  have hBH : B ≤ H := by have := unhide HH; omega
  rw [hW2]
  have HK0 := hide a0
  have HK1 := hide a1
  have HKQ := hide hkq
  have HN := hide a2
  clear a0 a1 a2 hW2 hR1 hG1 hs1 HK2 hkq
  have hd := (unhide HD).w
  clear HD
  cases hd with
  | deep h => exact absurd h (unhide HLV)
  | none_ h => exact absurd (unhide HKK) (by simp [P20.kindOf])
  | word h => exact absurd (unhide HKK) (by simp [P20.kindOf])
  | noseq h => exact absurd (unhide HKK) (by simp [P20.kindOf])
  | nomap h => exact absurd (unhide HKK) (by simp [P20.kindOf])
  | form h hk => exact absurd (unhide HKK) (by simp [P20.kindOf]; omega)
  | @seq x n c r o2 h hs =>
    obtain rfl : kq = 3 := by have := unhide HKQ; rw [← this]; rfl
    obtain rfl : hl0 = n := (unhide HHL).symm
    have hvi : VI w H B rb all hl0 0 [] [] (.slice none 0 0) (.slice none 0 0) ((3, x, hl0, c) :: r) W2 := ⟨unhide HH, hBH, KS.nil _ _, hR2, hG2, unhide HK0, unhide HK1, unhide HN⟩
    obtain ⟨⟨x0, f0⟩, ⟨x1, f1⟩, ⟨x2, f2⟩, ⟨x3, f3⟩, ⟨x4, f4⟩⟩ := five_cell (unhide HN)
    have hlen0 := hR2.lenH
    have HS0 := hide hs
    have HVI0 := hide (hvi.kind 2)
    clear h hs hvi HK0 HK1 HN hR2 hG2
    go_wp2
    obtain ⟨V0, hV0⟩ : ∃ V0, W2.setCell ⟨H + 1 + 1, 0, none⟩ (.int .u8 2) = V0 := ⟨_, rfl⟩
    rw [show ((2 : Nat) : Int) = 2 from rfl, hV0] at HVI0
    rw [hV0]
    clear hV0 x0 f0 x1 f1 x2 f2 x3 f3 x4 f4
    go_loopg [] f (fun g wx => ∃ (ds : List Nd) (us : List Tk) (dv : Value), g ≤ f ∧ Hid (P20.Sq last g (lv + 1) (bareL ds) us o2) ∧ Hid (VI w H B rb all hl0 2 [] ds (.slice none 0 0) dv us wx) ∧ us.length + ds.length ≤ 1000000)
    case atStart => exact ⟨[], _, _, Nat.le_refl _, HS0, HVI0, by simpa using hlen0⟩
    case round =>
      obtain ⟨ds, us, dv, hgf, HS, HVI, hlen⟩ := hrel
      obtain ⟨da, dc, rfl, _⟩ := (unhide HVI).own.kids.slice
      have hs := unhide HS
      clear HS HS0 HVI0 hlen0
      cases hs with
      | done hk =>
        have jk2 : (((P20.kindOf us : Nat) : Int) == 3) = false := by
          have : ((P20.kindOf us : Nat) : Int) ≠ 3 := by omega
          simpa using this
        obtain ⟨⟨x0, f0⟩, ⟨x1, f1⟩, ⟨x2, f2⟩, ⟨x3, f3⟩, ⟨x4, f4⟩⟩ := five_cell (unhide HVI).b2
        obtain ⟨⟨r0, s0⟩, ⟨r1, s1⟩, ⟨r2, s2⟩, ⟨r3, s3⟩, ⟨r4, s4⟩⟩ := five_cell (unhide HVI).b0
        obtain ⟨⟨t0, u0⟩, ⟨t1, u1⟩⟩ := two_cell (unhide HVI).b1
        clear hk
        go_wp2_with (go_at_call 73; refine (rkind_any B rb all us _ (unhide HVI).rpr).mono ?_; rintro e w' ⟨rfl, q, rfl⟩)
        have hT := (two_b (W1 := wr.drewN q) (unhide HVI).b0 (unhide HVI).b1 (.int .u8 2) (.string ⟨#[]⟩) (.slice none 0 0) (.slice da ds.length dc) (.int .i64 hl0) (.int .i64 0) (.int .i64 0)).undrew
        exact bodyPost_ret (two_ret rfl _ rfl rfl hT.h0 hT.h1) rfl ⟨2, [], none, 0, [], da, dc, ds, hl0, rfl, hide (((unhide HVI).drewN q).done (ka := none) (kc := 0) (ks := []) hT (by omega) (by simp))⟩
      | @next g' _ _ x n c r r' d _ hw hs =>
        have hlw := (P20.less last g').2.1 _ _ _ _ _ hw
        have HS := hide hs
        clear hs
        simp only [List.length_cons] at hlen
        obtain ⟨b1, o1, c1, k1, p1, hk1, hk2, hb1, hb2, cc0, cc1, cc2, _⟩ := (unhide HVI).rpr.cons
        obtain ⟨⟨y0, _⟩, ⟨y1, _⟩⟩ := two_cell p1
        have hki : (k1 : Int) < (all.length : Int) := by omega
        clear p1 hk2
        go_upto_region 18 with (go_at_call 73; refine (rkind_lit B rb all _ 3 _ (unhide HVI).rpr rfl).mono ?_; rintro e w' ⟨rfl, q, rfl⟩)
        go_region
        obtain ⟨X, hX⟩ : ∃ X, wr.drewN (q + 1) = X := ⟨_, rfl⟩
        have hvx := (unhide HVI).drewN (q + 1)
        rw [hX] at hvx
        rw [hX]
        clear hX y0 y1 cc0 cc1 cc2 hb1 hb2 hk1 hki HVI
        obtain ⟨a5, c5, k5, p5, hk5, hvy⟩ := hvx.step
        obtain ⟨⟨z0, v0⟩, ⟨z1, v1⟩⟩ := two_cell p5
        clear p5 hvx
        go_upto_region 20 with fail
        obtain ⟨Y, hY⟩ : ∃ Y, X.setCell ⟨rb, 1, none⟩ (.int .i64 ((k5 : Int) + 1)) = Y := ⟨_, rfl⟩
        rw [hY] at hvy
        rw [hY]
        clear hY z0 v0 z1 v1 hk5
        have hly := hvy.lt
        have hwc := unhide HWI g' (by omega) (lv + 1) n r B rb all _ Y hvy.rpr (by omega) (unhide HLA) (by omega) hw
        rw [show (((lv + 1 : Nat)) : Int) = (lv : Int) + 1 from by omega] at hwc
        have HWC := hide hwc
        clear hwc hw
        go_upto_region 21 with (go_at_call 74; refine (unhide HWC).mono ?_; rintro e w2 ⟨k, t, ka, kc, ks, da2, dc2, es, l, rfl, HNW⟩)
        obtain ⟨hbare, hin, hnew, hR6, hg6⟩ := unhide HNW
        have hv6 := hvy.old hg6 hR6
        obtain ⟨W3, hW3, hb3, d0, d1, hs3⟩ := two_pair w2 (.cells #[.int .u8 k, .string ⟨t.toArray⟩, .slice ka ks.length kc, .slice da2 es.length dc2, .int .i64 l] 26) (.cells #[.int .i64 0, .int .i64 0] 29)
        have hv3 := hv6.below hb3
        obtain ⟨D, hD⟩ : ∃ D, w2.heap.size = D := ⟨_, rfl⟩
        rw [hD] at d0 d1 hs3
        have h6l := hv6.lt
        have hly6 := hg6.size
        have hDH : H + 1 + 1 < D := by omega
        have hin3 := hin.below hb3
        have hnew3 : ∀ g, (Nd.mk k t ka kc ks da2 dc2 es l).blk g → H + 1 + 1 + 1 ≤ g := fun g hg => by have := hnew g hg; omega
        have hsep3 : ∀ g, (Nd.mk k t ka kc ks da2 dc2 es l).blk g → (Value.slice da ds.length dc).ownBlock ≠ some g := fun g hg e => by have := hnew g hg; have := (own_block_lt hvy.own.kids.own g e).2; omega
        try rw [hD]
        rw [hW3]
        obtain ⟨⟨x0, e0⟩, ⟨x1, e1⟩, ⟨x2, e2⟩, ⟨x3, e3⟩, ⟨x4, e4⟩⟩ := five_cell d0
        obtain ⟨⟨y0, f0⟩, ⟨y1, f1⟩⟩ := two_cell d1
        obtain ⟨⟨z0, v0⟩, ⟨z1, v1⟩, ⟨z2, v2⟩, ⟨z3, v3⟩, ⟨z4, v4⟩⟩ := five_cell hv3.b2
        have HBA := hide hbare
        clear hW3 d0 d1 hb3 hs3 hD hbare hin hnew HNW hR6 hg6 hv6 hvy
        go_wp2_with (at_builtin; refine wpList_appNode (v := .slice da ds.length dc) (B := H + 1 + 1 + 1) (nd := .mk k t ka kc ks da2 dc2 es l) rfl _ _ rfl rfl hv3.own.kids rfl hin3 hnew3 hsep3 rfl (by omega) (by have := hv3.lt; omega) ?_; intro v8 w8 hK8 hg8 hat8; obtain ⟨da8, dc8, he8, _⟩ := hK8.slice; rw [List.length_append, List.length_singleton] at he8; subst he8; obtain ⟨e8, hv8⟩ := hv3.kid hK8 hg8 hat8 (fun g _ e => by cases e); obtain ⟨⟨j0, i0⟩, ⟨j1, i1⟩, ⟨j2, i2⟩, ⟨j3, i3⟩, ⟨j4, i4⟩⟩ := five_cell e8)
        go_roundg g'
        case measure => omega
        case rel => exact ⟨ds ++ [.mk k t ka kc ks da2 dc2 es l], r', _, by omega, hide (by rw [bareL_append]; simp only [bareL]; rw [unhide HBA]; exact unhide HS), hide hv8, by simp; omega⟩
      | @bad _ _ _ x n c e l r hw =>
        have he0 : (e != 0) = true := by have := (P20.bad_ne last _).2.1 _ _ _ _ _ hw; simpa using this
        simp only [List.length_cons] at hlen
        obtain ⟨b1, o1, c1, k1, p1, hk1, hk2, hb1, hb2, cc0, cc1, cc2, _⟩ := (unhide HVI).rpr.cons
        obtain ⟨⟨y0, _⟩, ⟨y1, _⟩⟩ := two_cell p1
        have hki : (k1 : Int) < (all.length : Int) := by omega
        clear p1 hk2
        go_upto_region 18 with (go_at_call 73; refine (rkind_lit B rb all _ 3 _ (unhide HVI).rpr rfl).mono ?_; rintro e w' ⟨rfl, q, rfl⟩)
        go_region
        obtain ⟨X, hX⟩ : ∃ X, wr.drewN (q + 1) = X := ⟨_, rfl⟩
        have hvx := (unhide HVI).drewN (q + 1)
        rw [hX] at hvx
        rw [hX]
        clear hX y0 y1 cc0 cc1 cc2 hb1 hb2 hk1 hki HVI
        obtain ⟨a5, c5, k5, p5, hk5, hvy⟩ := hvx.step
        obtain ⟨⟨z0, v0⟩, ⟨z1, v1⟩⟩ := two_cell p5
        clear p5 hvx
        go_upto_region 20 with fail
        obtain ⟨Y, hY⟩ : ∃ Y, X.setCell ⟨rb, 1, none⟩ (.int .i64 ((k5 : Int) + 1)) = Y := ⟨_, rfl⟩
        rw [hY] at hvy
        rw [hY]
        clear hY z0 v0 z1 v1 hk5
        have hly := hvy.lt
        have hwc := unhide HWI _ (by omega) (lv + 1) n r B rb all _ Y hvy.rpr (by omega) (unhide HLA) (by omega) hw
        rw [show (((lv + 1 : Nat)) : Int) = (lv : Int) + 1 from by omega] at hwc
        have HWC := hide hwc
        clear hwc hw
        go_upto_region 21 with (go_at_call 74; refine (unhide HWC).mono ?_; rintro e' w2 ⟨k, t, ka, kn, kc, da2, dn, dc2, l2, rfl, HNW⟩)
        have hg6 := unhide HNW
        obtain ⟨W3, hW3, hb3, d0, d1, hs3⟩ := two_pair w2 (.cells #[.int .u8 k, .string ⟨t.toArray⟩, .slice ka kn kc, .slice da2 dn dc2, .int .i64 l2] 26) (.cells #[.int .i64 e, .int .i64 l] 29)
        obtain ⟨hgw, q0, q1, q2⟩ := hvy.rest (grown_trans1 hg6 (grown_of_below hb3 (some rb)))
        obtain ⟨D, hD⟩ : ∃ D, w2.heap.size = D := ⟨_, rfl⟩
        rw [hD] at d0 d1 hs3
        have hly6 := hg6.size
        have hDH : H + 1 + 1 < D := by omega
        try rw [hD]
        rw [hW3]
        obtain ⟨⟨x0, e0⟩, ⟨x1, e1⟩, ⟨x2, e2⟩, ⟨x3, e3⟩, ⟨x4, e4⟩⟩ := five_cell d0
        obtain ⟨⟨y0, f0⟩, ⟨y1, f1⟩⟩ := two_cell d1
        obtain ⟨⟨z0, v0⟩, ⟨z1, v1⟩, ⟨z2, v2⟩, ⟨z3, v3⟩, ⟨z4, v4⟩⟩ := five_cell q2
        obtain ⟨⟨r0, s0⟩, ⟨r1, s1⟩, ⟨r2, s2⟩, ⟨r3, s3⟩, ⟨r4, s4⟩⟩ := five_cell q0
        obtain ⟨⟨t0, u0⟩, ⟨t1, u1⟩⟩ := two_cell q1
        have HQ0 := hide q0
        have HQ1 := hide q1
        clear hW3 d0 d1 hb3 hs3 hD HNW hg6 hvy q0 q1 q2
        go_wp2
        go_region_with_o (fail)
        all_goals go_wp2
        all_goals
          have hT := two_b (unhide HQ0) (unhide HQ1) (.int .u8 2) (.string ⟨#[]⟩) (.slice none 0 0) (.slice da ds.length dc) (.int .i64 hl0) (.int .i64 e) (.int .i64 l)
          exact bodyPost_ret (two_ret rfl _ rfl rfl hT.h0 hT.h1) rfl ⟨2, [], none, 0, 0, da, ds.length, dc, hl0, rfl, hide (two_grown hT hgw (by have := unhide HH; omega))⟩
  | keys h hs => exact absurd (unhide HKK) (by simp [P20.kindOf])
end Go.Proofs.YtnjokdbblmlhhaaGreatDoor
