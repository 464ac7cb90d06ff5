/- The reference's parser of tokens: within. -/
import Derived.Test.YtnjokdbblmlhhaaGreatDoorWR20a
import Derived.Test.YtnjokdbblmlhhaaGreatDoorGP20
namespace Go.Proofs.YtnjokdbblmlhhaaGreatDoor
set_option linter.unusedVariables false
set_option linter.unusedSimpArgs false
open Go.RowKit
namespace P20
/-- what is wrong is something -/
theorem bad_ne (last : Int) : ∀ f : Nat, (∀ lv ts e l, Val last f lv ts (.bad e l) → e ≠ 0) ∧ (∀ lv n ts e l, Wi last f lv n ts (.bad e l) → e ≠ 0) ∧ (∀ lv acc ts e l, Sq last f lv acc ts (.bad e l) → e ≠ 0) ∧ (∀ lv ks ds ts e l, Ky last f lv ks ds ts (.bad e l) → e ≠ 0)
  | 0 => ⟨fun _ _ _ _ h => (by cases h), fun _ _ _ _ _ h => (by cases h), fun _ _ _ _ _ h => (by cases h), fun _ _ _ _ _ _ h => (by cases h)⟩
  | f + 1 => by
    obtain ⟨hv, hw, hs, hk⟩ := bad_ne last f
    refine ⟨fun lv ts e l h => ?_, fun lv n ts e l h => ?_, fun lv acc ts e l h => ?_, fun lv ks ds ts e l h => ?_⟩
    · cases h with
      | deep h => decide
      | none_ h => decide
      | seqbad h h2 => exact hs _ _ _ _ _ h2
      | keysbad h h2 => exact hk _ _ _ _ _ _ h2
      | form h h2 => decide
    · cases h with
      | empty h => decide
      | form h h2 => decide
      | bad h => exact hv _ _ _ _ h
    · cases h with
      | next h h2 => exact hs _ _ _ _ _ h2
      | bad h => exact hw _ _ _ _ _ h
    · cases h with
      | long h => decide
      | twice h h2 => decide
      | inl h h2 h3 h4 h5 => exact hk _ _ _ _ _ _ h5
      | inlbad h h2 h3 h4 => exact hv _ _ _ _ h4
      | wi h h2 h3 h4 h5 => exact hk _ _ _ _ _ _ h5
      | wibad h h2 h3 h4 => exact hw _ _ _ _ _ h4
end P20
/-- one token on -/
theorem RPr.step {W : World} {B rb : Nat} {all r : List Tk} {t : Tk} (h : RPr W B rb all (t :: r)) : ∃ (a : Option Addr) (c k : Nat), W.heap[rb]? = some (.cells #[.slice a all.length c, .int .i64 k] 61) ∧ IntKind.i64.wrap ((k : Int) + 1) = (k : Int) + 1 ∧
    RPr (W.setCell ⟨rb, 1, none⟩ (.int .i64 ((k : Int) + 1))) B rb all r ∧ W.grownBy (W.setCell ⟨rb, 1, none⟩ (.int .i64 ((k : Int) + 1))) (some rb) := by
  obtain ⟨⟨a, c, k, g, hi, h1, h2, h3, h4, h5, h6⟩, hlt, hne, k8, hl⟩ := h
  have hll := congrArg List.length h3
  simp only [List.length_drop, List.length_cons] at hll
  refine ⟨a, c, k, g, IntWalk.i64_in _ (by omega), ⟨⟨a, c, k + 1, ?_, ?_, h1, h2, ?_, by omega, h5, h6⟩, hlt, hne, k8, hl⟩, ?_⟩
  · simp [World.setCell, Array.getElem?_modify, g]
  · exact hi.keep (fun q _ hq => Below.heap_setCell _ _ _ _ (by show q ≠ rb; rintro rfl; exact h5 hq))
  · rw [← List.drop_drop, h3]; rfl
  · exact ⟨rfl, rfl, rfl, by simp, fun i hi hne => Below.heap_setCell _ _ _ _ (by show i ≠ rb; rintro rfl; exact hne rfl)⟩
/-- a node that was read, and the parser behind it -/
def RNdOk (w : World) (B rb : Nat) (all r : List Tk) (d : P20.T) (nd : Nd) (w' : World) : Prop := nd.bare = d ∧ nd.In w' ∧ (∀ g, nd.blk g → w.heap.size ≤ g) ∧ RPr w' B rb all r ∧ w.grownBy w' (some rb)
def RValPost (w : World) (B rb : Nat) (all : List Tk) : P20.Out P20.T → Ending → World → Prop
  | .ok d r, e, w' => ∃ (k : Nat) (t : List UInt8) (ka : Option Addr) (kc : Nat) (ks : List (List UInt8)) (da : Option Addr) (dc : Nat) (ds : List Nd) (l : Int),
      e = .returned (.tuple #[.agg #[.int .u8 k, .string ⟨t.toArray⟩, .slice ka ks.length kc, .slice da ds.length dc, .int .i64 l], .agg #[.int .i64 0, .int .i64 0]]) ∧ Hid (RNdOk w B rb all r d (.mk k t ka kc ks da dc ds l) w')
  | .bad x ln, e, w' => ∃ (k : Nat) (t : List UInt8) (ka : Option Addr) (kn kc : Nat) (da : Option Addr) (dn dc : Nat) (l : Int),
      e = .returned (.tuple #[.agg #[.int .u8 k, .string ⟨t.toArray⟩, .slice ka kn kc, .slice da dn dc, .int .i64 l], .agg #[.int .i64 x, .int .i64 ln]]) ∧ Hid (w.grownBy w' (some rb))
def RValC (last : Int) (f : Nat) : Prop := ∀ (lv : Nat) (ts : List Tk) (B rb : Nat) (all : List Tk) (o : P20.Out P20.T) (w : World), RPr w B rb all ts → B ≤ w.heap.size → lastLn all = last → lv ≤ 17 → P20.Val last f lv ts o →
  Calls Tryz.prog 35 #[.pointer (some ⟨rb, 0, none⟩), .int .i64 lv] w (RValPost w B rb all o)
def RWiC (last : Int) (f : Nat) : Prop := ∀ (lv : Nat) (line : Int) (ts : List Tk) (B rb : Nat) (all : List Tk) (o : P20.Out P20.T) (w : World), RPr w B rb all ts → B ≤ w.heap.size → lastLn all = last → lv ≤ 17 → P20.Wi last f lv line ts o →
  Calls Tryz.prog 74 #[.pointer (some ⟨rb, 0, none⟩), .int .i64 lv, .int .i64 line] w (RValPost w B rb all o)
/-- two results are stored -/
theorem two_grown {w W w' : World} {H rb : Nat} {a b : Obj} (hT : Two W w' H a b) (hg : w.grownBy W (some rb)) (hH : w.heap.size ≤ H) : w.grownBy w' (some rb) :=
  ⟨hT.os.trans hg.os, hT.tape.trans hg.tape, hT.output.trans hg.output, Nat.le_trans hg.size hT.size, fun i hi hne => (hT.same i (by omega) (by omega) (Nat.lt_of_lt_of_le hi hg.size)).trans (hg.block i hi hne)⟩
theorem two_nd {w W w' : World} {H B rb : Nat} {a b : Obj} {all r : List Tk} {d : P20.T} {nd : Nd} (hT : Two W w' H a b) (h1 : nd.bare = d) (h2 : nd.In W) (h3 : ∀ g, nd.blk g → H + 1 < g) (h4 : RPr W B rb all r) (hg : w.grownBy W (some rb)) (hH : w.heap.size ≤ H) (hB : B ≤ w.heap.size) : RNdOk w B rb all r d nd w' := by
  have hz := hg.size
  refine ⟨h1, h2.keep (fun g hb => hT.same g (by have := h3 g hb; omega) (by have := h3 g hb; omega) (h2.lt hb)), fun g hb => by have := h3 g hb; omega, h4.far (fun g hl => hT.same g (by omega) (by omega) (by omega)), two_grown hT hg hH⟩
theorem grown_drewN (W : World) (n : Nat) (row : Option Nat) : W.grownBy (W.drewN n) row := ⟨rfl, rfl, rfl, Nat.le_refl _, fun _ _ _ => rfl⟩
theorem two_pair (w : World) (o1 o2 : Obj) : ∃ W, (w.alloc o1).alloc o2 = W ∧ Below w.heap.size w W ∧ W.heap[w.heap.size]? = some o1 ∧ W.heap[w.heap.size + 1]? = some o2 ∧ W.heap.size = w.heap.size + 1 + 1 := by
  have e2 := World.alloc_heap_new (w.alloc o1) o2
  rw [World.size_alloc] at e2
  exact ⟨_, rfl, ((Below.refl _ w).alloc (Nat.le_refl _) _).alloc (by simp) _, (Below.heap_alloc _ _ _ (by simp)).trans (World.alloc_heap_new w _), e2, by simp⟩
theorem two_ret {fn : Func} {p q : Tmp} (h : fn.results = #[.cell p 26, .cell q 29]) (tmps : Array Value) {w : World} {H : Nat} {v0 v1 v2 v3 v4 u0 u1 : Value}
    (hp : tmps.getD p undef = .pointer (some ⟨H, 0, none⟩)) (hq : tmps.getD q undef = .pointer (some ⟨H + 1, 0, none⟩)) (h0 : w.heap[H]? = some (.cells #[v0, v1, v2, v3, v4] 26)) (h1 : w.heap[H + 1]? = some (.cells #[u0, u1] 29)) :
    (results fn tmps).run Tryz.prog w = .ok (.tuple #[.agg #[v0, v1, v2, v3, v4], .agg #[u0, u1]]) w :=
  results_two h tmps _ _ _ _ _ _ hp (run_loadVar_row _ _ _ _ _ _ _ h0 Tryz.underlying26 rfl (by kernel_rfl)) hq (run_loadVar_row _ _ _ _ _ _ _ h1 Tryz.underlying29 rfl (by kernel_rfl))
theorem two_b {W1 : World} {H : Nat} {T S : TypeId} {c0 c1 c2 c3 c4 d0 d1 : Value} (h0 : W1.heap[H]? = some (.cells #[c0, c1, c2, c3, c4] T)) (h1 : W1.heap[H + 1]? = some (.cells #[d0, d1] S)) (v0 v1 v2 v3 v4 u0 u1 : Value) :
    Two W1 (((((((W1.setCell ⟨H, 0, none⟩ v0).setCell ⟨H, 1, none⟩ v1).setCell ⟨H, 2, none⟩ v2).setCell ⟨H, 3, none⟩ v3).setCell ⟨H, 4, none⟩ v4).setCell ⟨H + 1, 0, none⟩ u0).setCell ⟨H + 1, 1, none⟩ u1).drew H (.cells #[v0, v1, v2, v3, v4] T) (.cells #[u0, u1] S) := two_a (Below.refl _ W1) h0 h1 _ _ _ _ _ _ _
set_option maxRecDepth 100000 in
set_option maxHeartbeats 4000000 in
theorem rwithin_step (last : Int) (f : Nat) (hV : RValC last f) : RWiC last (f + 1) := by
  intro lv line ts B rb all o w h hB hla hlv hd
  obtain ⟨W0, hW0, hb0, g0, g1, hs0⟩ := two_pair w (.cells #[.int .u8 0, .string ⟨#[]⟩, .slice none 0 0, .slice none 0 0, .int .i64 0] 26) (.cells #[.int .i64 0, .int .i64 0] 29)
  obtain ⟨H, hH⟩ : ∃ H, w.heap.size = H := ⟨_, rfl⟩
  have hR0 : RPr W0 B rb all ts := h.keep hB hb0
  have hG0 := grown_of_below hb0 (some rb)
  have hrb := hR0.lt
  rw [hH] at g0 g1 hs0 hb0
  obtain ⟨⟨r0, s0⟩, ⟨r1, s1⟩, ⟨r2, s2⟩, ⟨r3, s3⟩, ⟨r4, s4⟩⟩ := five_cell g0
  obtain ⟨⟨t0, u0⟩, ⟨t1, u1⟩⟩ := two_cell g1
  have HW0 := hide hW0
  have HS0 := hide hs0
  have HG0 := hide g0
  have HG1 := hide g1
  have HLA := hide hla
  have HH := hide hH
  have hmx := hmx0
  clear hW0 g0 g1 h hs0 hla hb0
  cases hd with
  | empty hk =>
    have jk2 : (((P20.kindOf ts : Nat) : Int) != 1) = true := by
      have : ((P20.kindOf ts : Nat) : Int) ≠ 1 := by omega
      simpa using this
    have HR0 := hide hR0
    clear hk hR0 hH
    go_enter Tryz.func74, Tryz.ntmps74
    go_upto_region 1 with fail
    try rw [unhide HH]
    rw [unhide HW0]
    go_wp2_with (go_at_call 73; refine (rkind_any B rb all ts _ (unhide HR0)).mono ?_; rintro e w' ⟨rfl, q, rfl⟩)
    have hT := (two_b (W1 := W0.drewN q) (unhide HG0) (unhide HG1) (.int .u8 0) (.string ⟨#[]⟩) (.slice none 0 0) (.slice none 0 0) (.int .i64 0) (.int .i64 17) (.int .i64 line)).undrew
    exact bodyPost_ret (two_ret rfl _ rfl rfl hT.h0 hT.h1) rfl ⟨0, [], none, 0, 0, none, 0, 0, 0, rfl, hide (two_grown hT (grown_trans1 hG0 (grown_drewN _ q _)) (by have := unhide HH; omega))⟩
  | @ok _ _ _ n c n' c' x x' ts r d hv =>
    go_enter Tryz.func74, Tryz.ntmps74
    go_upto_region 1 with fail
    try rw [unhide HH]
    rw [unhide HW0]
    go_upto_region 3 with (go_at_call 73; refine (rkind_lit B rb all _ 1 _ hR0 rfl).mono ?_; rintro e w' ⟨rfl, q, rfl⟩)
    obtain ⟨a1, c1, k1, p1, hk1, hR1, hg1⟩ := (hR0.drewN q).step
    obtain ⟨⟨x0, e0⟩, ⟨x1, e1⟩⟩ := two_cell p1
    clear r0 s0 r1 s1 r2 s2 r3 s3 r4 s4 t0 u0 t1 u1 hR0
    go_upto_region 4 with fail
    obtain ⟨W1, hW1⟩ : ∃ W1, (W0.drewN q).setCell ⟨rb, 1, none⟩ (.int .i64 ((k1 : Int) + 1)) = W1 := ⟨_, rfl⟩
    rw [hW1] at hR1 hg1 ⊢
    have k0 := (show W1.heap[H]? = W0.heap[H]? by rw [← hW1]; exact Below.heap_setCell _ _ _ _ (by show H ≠ rb; omega)).trans (unhide HG0)
    have m0 := (show W1.heap[H + 1]? = W0.heap[H + 1]? by rw [← hW1]; exact Below.heap_setCell _ _ _ _ (by show H + 1 ≠ rb; omega)).trans (unhide HG1)
    have hG1 := grown_trans1 hG0 (grown_trans1 (grown_drewN _ q _) hg1)
    have hz1 := hG1.size
    have HK0 := hide k0
    have HM0 := hide m0
    have hHl := (Array.getElem?_eq_some_iff.1 m0).1
    clear hW1 x0 e0 x1 e1 p1 hk1 hg1 k0 m0
    go_upto_region 5 with (go_at_call 35; refine (hV lv ts B rb all _ W1 hR1 (by omega) (unhide HLA) hlv hv).mono ?_; rintro e w2 ⟨k, t, ka, kc, ks, da, dc, ds, l, rfl, HN⟩)
    obtain ⟨hbare, hin, hnew, hR2, hg2⟩ := unhide HN
    obtain ⟨W3, hW3, hb3, d0, d1, hs3⟩ := two_pair w2 (.cells #[.int .u8 k, .string ⟨t.toArray⟩, .slice ka ks.length kc, .slice da ds.length dc, .int .i64 l] 26) (.cells #[.int .i64 0, .int .i64 0] 29)
    have hz2 := hg2.size
    obtain ⟨D, hD⟩ : ∃ D, w2.heap.size = D := ⟨_, rfl⟩
    rw [hD] at d0 d1 hs3
    have HD := hide hD
    have k3 := (hb3.block H (by omega)).trans ((hg2.block H (by omega) (fun e => by injection e; omega)).trans (unhide HK0))
    have m3 := (hb3.block (H + 1) (by omega)).trans ((hg2.block (H + 1) (by omega) (fun e => by injection e; omega)).trans (unhide HM0))
    have hG3 := grown_trans1 (grown_trans1 hG1 hg2) (grown_of_below hb3 (some rb))
    have hR3 := hR2.keep (by omega) hb3
    have hin3 := hin.below hb3
    have hnew3 : ∀ g, (Nd.mk k t ka kc ks da dc ds l).blk g → H + 1 < g := fun g hg => by have := hnew g hg; omega
    have HK3 := hide k3
    have HM3 := hide m3
    obtain ⟨⟨x0, e0⟩, ⟨x1, e1⟩, ⟨x2, e2⟩, ⟨x3, e3⟩, ⟨x4, e4⟩⟩ := five_cell d0
    obtain ⟨⟨y0, f0⟩, ⟨y1, f1⟩⟩ := two_cell d1
    try rw [hD]
    rw [hW3]
    have hDH : H + 1 < D := by omega
    have HIN := hide hin3
    have HNEW := hide hnew3
    have HBARE := hide hbare
    have HD0 := hide d0
    have HD1 := hide d1
    clear hW3 hbare hin hnew hR2 hR1 hG1 hg2 d0 d1 k3 m3 hb3 hin3 hnew3 HN hD
    go_upto_region 9 with (go_at_call 73; refine (rkind_lit B rb all _ 2 _ hR3 rfl).mono ?_; rintro e w' ⟨rfl, q2, rfl⟩)
    obtain ⟨a2, c2, k2, p2, hk2, hR4, hg4⟩ := (hR3.drewN q2).step
    obtain ⟨⟨z0, v0⟩, ⟨z1, v1⟩⟩ := two_cell p2
    clear x0 e0 x1 e1 x2 e2 x3 e3 x4 e4 y0 f0 y1 f1 hR3
    go_upto_region 10 with fail
    obtain ⟨W4, hW4⟩ : ∃ W4, (W3.drewN q2).setCell ⟨rb, 1, none⟩ (.int .i64 ((k2 : Int) + 1)) = W4 := ⟨_, rfl⟩
    rw [hW4] at hR4 hg4 ⊢
    have hsame : ∀ g, g ≠ rb → W4.heap[g]? = W3.heap[g]? := fun g hg => by rw [← hW4]; exact Below.heap_setCell _ _ _ _ (by exact hg)
    have k4 := (hsame H (by omega)).trans (unhide HK3)
    have m4 := (hsame (H + 1) (by omega)).trans (unhide HM3)
    have n4 := (hsame D (by omega)).trans (unhide HD0)
    have l4 := (hsame (D + 1) (by omega)).trans (unhide HD1)
    obtain ⟨⟨x0, e0⟩, ⟨x1, e1⟩, ⟨x2, e2⟩, ⟨x3, e3⟩, ⟨x4, e4⟩⟩ := five_cell n4
    obtain ⟨⟨y0, f0⟩, ⟨y1, f1⟩⟩ := two_cell l4
    obtain ⟨⟨r0, s0⟩, ⟨r1, s1⟩, ⟨r2, s2⟩, ⟨r3, s3⟩, ⟨r4, s4⟩⟩ := five_cell k4
    obtain ⟨⟨t0, u0⟩, ⟨t1, u1⟩⟩ := two_cell m4
    have HK4 := hide k4
    have HM4 := hide m4
    have hG4 := grown_trans1 hG3 (grown_trans1 (grown_drewN _ q2 _) hg4)
    have hin4 := (unhide HIN).keep (fun g hg => hsame g (by have := unhide HNEW g hg; omega))
    have HIN4 := hide hin4
    clear hW4 z0 v0 z1 v1 p2 hk2 hg4 k4 m4 n4 l4 hsame hin4 hG3
    go_region_with_o (fail)
    all_goals go_wp2
    all_goals
      have hT := two_b (unhide HK4) (unhide HM4) (.int .u8 k) (.string ⟨t.toArray⟩) (.slice ka ks.length kc) (.slice da ds.length dc) (.int .i64 l) (.int .i64 0) (.int .i64 0)
      exact bodyPost_ret (two_ret rfl _ rfl rfl hT.h0 hT.h1) rfl ⟨k, t, ka, kc, ks, da, dc, ds, l, rfl, hide (two_nd hT (unhide HBARE) (unhide HIN4) (unhide HNEW) hR4 hG4 (by have := unhide HH; omega) hB)⟩
  | @form _ _ _ n c x ts r d hv hk =>
    have jk2 : (((P20.kindOf r : Nat) : Int) != 2) = true := by
      have : ((P20.kindOf r : Nat) : Int) ≠ 2 := by omega
      simpa using this
    clear hk
    go_enter Tryz.func74, Tryz.ntmps74
    go_upto_region 1 with fail
    try rw [unhide HH]
    rw [unhide HW0]
    go_upto_region 3 with (go_at_call 73; refine (rkind_lit B rb all _ 1 _ hR0 rfl).mono ?_; rintro e w' ⟨rfl, q, rfl⟩)
    obtain ⟨a1, c1, k1, p1, hk1, hR1, hg1⟩ := (hR0.drewN q).step
    obtain ⟨⟨x0, e0⟩, ⟨x1, e1⟩⟩ := two_cell p1
    clear r0 s0 r1 s1 r2 s2 r3 s3 r4 s4 t0 u0 t1 u1 hR0
    go_upto_region 4 with fail
    obtain ⟨W1, hW1⟩ : ∃ W1, (W0.drewN q).setCell ⟨rb, 1, none⟩ (.int .i64 ((k1 : Int) + 1)) = W1 := ⟨_, rfl⟩
    rw [hW1] at hR1 hg1 ⊢
    have k0 := (show W1.heap[H]? = W0.heap[H]? by rw [← hW1]; exact Below.heap_setCell _ _ _ _ (by show H ≠ rb; omega)).trans (unhide HG0)
    have m0 := (show W1.heap[H + 1]? = W0.heap[H + 1]? by rw [← hW1]; exact Below.heap_setCell _ _ _ _ (by show H + 1 ≠ rb; omega)).trans (unhide HG1)
    have hG1 := grown_trans1 hG0 (grown_trans1 (grown_drewN _ q _) hg1)
    have hz1 := hG1.size
    have HK0 := hide k0
    have HM0 := hide m0
    have hHl := (Array.getElem?_eq_some_iff.1 m0).1
    clear hW1 x0 e0 x1 e1 p1 hk1 hg1 k0 m0
    go_upto_region 5 with (go_at_call 35; refine (hV lv ts B rb all _ W1 hR1 (by omega) (unhide HLA) hlv hv).mono ?_; rintro e w2 ⟨k, t, ka, kc, ks, da, dc, ds, l, rfl, HN⟩)
    obtain ⟨hbare, hin, hnew, hR2, hg2⟩ := unhide HN
    obtain ⟨W3, hW3, hb3, d0, d1, hs3⟩ := two_pair w2 (.cells #[.int .u8 k, .string ⟨t.toArray⟩, .slice ka ks.length kc, .slice da ds.length dc, .int .i64 l] 26) (.cells #[.int .i64 0, .int .i64 0] 29)
    have hz2 := hg2.size
    obtain ⟨D, hD⟩ : ∃ D, w2.heap.size = D := ⟨_, rfl⟩
    rw [hD] at d0 d1 hs3
    have HD := hide hD
    have k3 := (hb3.block H (by omega)).trans ((hg2.block H (by omega) (fun e => by injection e; omega)).trans (unhide HK0))
    have m3 := (hb3.block (H + 1) (by omega)).trans ((hg2.block (H + 1) (by omega) (fun e => by injection e; omega)).trans (unhide HM0))
    have hG3 := grown_trans1 (grown_trans1 hG1 hg2) (grown_of_below hb3 (some rb))
    have hR3 := hR2.keep (by omega) hb3
    have HK3 := hide k3
    have HM3 := hide m3
    obtain ⟨⟨x0, e0⟩, ⟨x1, e1⟩, ⟨x2, e2⟩, ⟨x3, e3⟩, ⟨x4, e4⟩⟩ := five_cell d0
    obtain ⟨⟨y0, f0⟩, ⟨y1, f1⟩⟩ := two_cell d1
    try rw [hD]
    rw [hW3]
    have hDH : H + 1 < D := by omega
    have HD0 := hide d0
    clear hW3 hbare hin hnew hR2 hR1 hG1 hg2 d0 d1 k3 m3 hb3 HN hD
    go_upto_region 8 with (go_at_call 73; refine (rkind_any B rb all _ _ hR3).mono ?_; rintro e w' ⟨rfl, q2, rfl⟩)
    have hE := rfault_any B rb all r 3 ((W3.drewN q2).drew) ((hR3.drewN q2).drew)
    rw [unhide HLA] at hE
    have HE := hide hE
    have hDl : D + 1 < W3.heap.size := by omega
    clear hR3 hE
    go_region_with_o (go_at_call 36; refine (unhide HE).mono ?_; rintro e w5 ⟨rfl, hb5⟩; have k5 := (hb5.block H (by show H < W3.heap.size; omega)).trans (unhide HK3); have m5 := (hb5.block (H + 1) (by show H + 1 < W3.heap.size; omega)).trans (unhide HM3); have n5 := (hb5.block D (by show D < W3.heap.size; omega)).trans (unhide HD0); obtain ⟨⟨r0, s0⟩, ⟨r1, s1⟩, ⟨r2, s2⟩, ⟨r3, s3⟩, ⟨r4, s4⟩⟩ := five_cell k5; obtain ⟨⟨t0, u0⟩, ⟨t1, u1⟩⟩ := two_cell m5; obtain ⟨⟨z0, _⟩, ⟨z1, _⟩, ⟨z2, _⟩, ⟨z3, _⟩, ⟨z4, _⟩⟩ := five_cell n5; have HK5 := hide k5; have HM5 := hide m5; clear k5 m5 n5)
    all_goals go_wp2
    all_goals
      have hT := (two_b (unhide HK5) (unhide HM5) (.int .u8 k) (.string ⟨t.toArray⟩) (.slice ka ks.length kc) (.slice da ds.length dc) (.int .i64 l) (.int .i64 3) (.int .i64 (P20.hereL last r))).undrew
      exact bodyPost_ret (two_ret rfl _ rfl rfl hT.h0 hT.h1) rfl ⟨k, t, ka, ks.length, kc, da, ds.length, dc, l, rfl, hide (two_grown hT (grown_trans1 hG3 (grown_trans1 (grown_drew (grown_drewN _ q2 _)) (grown_of_below hb5 _))) (by have := unhide HH; omega))⟩
  | @bad _ _ _ n c e l0 x ts hv =>
    have he0 : (e != 0) = true := by have := (P20.bad_ne last f).1 _ _ _ _ hv; simpa using this
    go_enter Tryz.func74, Tryz.ntmps74
    go_upto_region 1 with fail
    try rw [unhide HH]
    rw [unhide HW0]
    go_upto_region 3 with (go_at_call 73; refine (rkind_lit B rb all _ 1 _ hR0 rfl).mono ?_; rintro e w' ⟨rfl, q, rfl⟩)
    obtain ⟨a1, c1, k1, p1, hk1, hR1, hg1⟩ := (hR0.drewN q).step
    obtain ⟨⟨x0, e0⟩, ⟨x1, e1⟩⟩ := two_cell p1
    clear r0 s0 r1 s1 r2 s2 r3 s3 r4 s4 t0 u0 t1 u1 hR0
    go_upto_region 4 with fail
    obtain ⟨W1, hW1⟩ : ∃ W1, (W0.drewN q).setCell ⟨rb, 1, none⟩ (.int .i64 ((k1 : Int) + 1)) = W1 := ⟨_, rfl⟩
    rw [hW1] at hR1 hg1 ⊢
    have k0 := (show W1.heap[H]? = W0.heap[H]? by rw [← hW1]; exact Below.heap_setCell _ _ _ _ (by show H ≠ rb; omega)).trans (unhide HG0)
    have m0 := (show W1.heap[H + 1]? = W0.heap[H + 1]? by rw [← hW1]; exact Below.heap_setCell _ _ _ _ (by show H + 1 ≠ rb; omega)).trans (unhide HG1)
    have hG1 := grown_trans1 hG0 (grown_trans1 (grown_drewN _ q _) hg1)
    have hz1 := hG1.size
    have HK0 := hide k0
    have HM0 := hide m0
    have hHl := (Array.getElem?_eq_some_iff.1 m0).1
    clear hW1 x0 e0 x1 e1 p1 hk1 hg1 k0 m0
    go_upto_region 5 with (go_at_call 35; refine (hV lv ts B rb all _ W1 hR1 (by omega) (unhide HLA) hlv hv).mono ?_; rintro e' w2 ⟨k, t, ka, kn, kc, da, dn, dc, l, rfl, HN⟩)
    have hg2 := unhide HN
    obtain ⟨W3, hW3, hb3, d0, d1, hs3⟩ := two_pair w2 (.cells #[.int .u8 k, .string ⟨t.toArray⟩, .slice ka kn kc, .slice da dn dc, .int .i64 l] 26) (.cells #[.int .i64 e, .int .i64 l0] 29)
    have hz2 := hg2.size
    obtain ⟨D, hD⟩ : ∃ D, w2.heap.size = D := ⟨_, rfl⟩
    rw [hD] at d0 d1 hs3
    have HD := hide hD
    have k3 := (hb3.block H (by omega)).trans ((hg2.block H (by omega) (fun e => by injection e; omega)).trans (unhide HK0))
    have m3 := (hb3.block (H + 1) (by omega)).trans ((hg2.block (H + 1) (by omega) (fun e => by injection e; omega)).trans (unhide HM0))
    have hG3 := grown_trans1 (grown_trans1 hG1 hg2) (grown_of_below hb3 (some rb))
    have HK3 := hide k3
    have HM3 := hide m3
    obtain ⟨⟨x0, e0⟩, ⟨x1, e1⟩, ⟨x2, e2⟩, ⟨x3, e3⟩, ⟨x4, e4⟩⟩ := five_cell d0
    obtain ⟨⟨y0, f0⟩, ⟨y1, f1⟩⟩ := two_cell d1
    try rw [hD]
    rw [hW3]
    have hDH : H + 1 < D := by omega
    obtain ⟨⟨r0, s0⟩, ⟨r1, s1⟩, ⟨r2, s2⟩, ⟨r3, s3⟩, ⟨r4, s4⟩⟩ := five_cell k3
    obtain ⟨⟨t0, u0⟩, ⟨t1, u1⟩⟩ := two_cell m3
    clear hW3 hR1 hG1 hg2 d0 d1 k3 m3 hb3 HN hD
    go_upto_region 6 with fail
    go_region_with_o (fail)
    all_goals go_wp2
    all_goals
      have hT := two_b (unhide HK3) (unhide HM3) (.int .u8 k) (.string ⟨t.toArray⟩) (.slice ka kn kc) (.slice da dn dc) (.int .i64 l) (.int .i64 e) (.int .i64 l0)
      exact bodyPost_ret (two_ret rfl _ rfl rfl hT.h0 hT.h1) rfl ⟨k, t, ka, kn, kc, da, dn, dc, l, rfl, hide (two_grown hT hG3 (by have := unhide HH; omega))⟩
end Go.Proofs.YtnjokdbblmlhhaaGreatDoor
