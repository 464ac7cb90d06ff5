/- The reference's Parse, by what its Value does. -/
import Derived.Test.YtnjokdbblmlhhaaGreatDoorWR20v
import Derived.Test.YtnjokdbblmlhhaaGreatDoorWR19f
namespace Go.Proofs.YtnjokdbblmlhhaaGreatDoor
set_option linter.unusedVariables false
set_option linter.unusedSimpArgs false
open Go.RowKit
theorem refTok_any (s : ByteArray) (w : World) (hs : s.size ≤ 100000) :
    Calls Tryz.prog 34 #[.string s] w fun e w' => ∃ v, e = .returned (.tuple #[v, faultV (P19.all s.data.toList).2]) ∧ OwnT w' w.heap.size v (P19.all s.data.toList).1 ∧ Below w.heap.size w w' := by
  unfold P19.all
  by_cases hf : (check17 s.data.toList).1 = 0
  · rw [if_neg (by simpa using hf)]
    exact refTokAll_good s w hs hf
  · rw [if_pos hf]
    exact (refTokAll_bad s w hs hf).mono fun e w' ⟨h1, h2⟩ => ⟨_, h1, World.ownsRow_nil _ _ _ _, h2⟩
/-- a block of two numbers is no token's -/
theorem two_no {W : World} {D : Nat} {x y : Int} {T : TypeId} {a : Option Addr} {all : List Tk} (hD : W.heap[D]? = some (.cells #[.int .i64 x, .int .i64 y] T)) (hi : InT W a all) (hne : all ≠ []) : ¬ blockOf a D := by
  rintro ⟨o, rfl⟩
  cases all with
  | nil => exact hne rfl
  | cons t r =>
    obtain ⟨b, o2, e, h0, _⟩ := hi 0 t rfl
    injection e with e
    injection e with e1 e2
    subst e1
    subst e2
    simp only [World.cell?, hD] at h0
    rw [show o + 0 * 4 = o from by omega] at h0
    match o, h0 with
    | 0, h0 => simp at h0
    | 1, h0 => simp at h0
    | o + 2, h0 => simp at h0
theorem RPr.two {W : World} {B rb D : Nat} {x y v0 v1 : Int} {T : TypeId} {all ts : List Tk} (h : RPr W B rb all ts) (hD : W.heap[D]? = some (.cells #[.int .i64 x, .int .i64 y] T)) (hr : D ≠ rb) : RPr ((W.setCell ⟨D, 0, none⟩ (.int .i64 v0)).setCell ⟨D, 1, none⟩ (.int .i64 v1)) B rb all ts := by
  obtain ⟨⟨a, c, k, g, hi, h1, h2, h3, h4, h5, h6⟩, hlt, hne, k8, hl⟩ := h
  have hb := two_no hD hi hne
  exact ⟨⟨a, c, k, (two_other (by omega) _ _).trans g, hi.keep (fun r _ hr' => two_other (by rintro rfl; exact hb hr') _ _), h1, h2, h3, h4, h5, h6⟩, hlt, hne, k8, hl⟩
theorem RPr.end_ {W : World} {B rb : Nat} {all ts : List Tk} (h : RPr W B rb all ts) : ∃ (a : Option Addr) (c k : Nat), W.heap[rb]? = some (.cells #[.slice a all.length c, .int .i64 k] 61) ∧ all.length = k + ts.length := by
  obtain ⟨⟨a, c, k, g, hi, h1, h2, h3, h4, h5, h6⟩, hlt, hne, k8, hl⟩ := h
  have := congrArg List.length h3
  rw [List.length_drop] at this
  exact ⟨a, c, k, g, by omega⟩
set_option maxRecDepth 100000 in
set_option maxHeartbeats 16000000 in
theorem RParse_of (hVal : ∀ last f, RValC last f) (s : ByteArray) (o : Except (Int × Int) P20.T) (w : World) (hs : s.size ≤ 3000) (ho : P20.PaR s.data.toList o) :
    Calls Tryz.prog 11 #[.string s] w (ReadPost w o) := by
  have hta := refTok_any s
  have hln := P20.all_len20 s.data.toList
  have hok := P20.all_ok s.data.toList
  rw [← Lib.size_eq] at hln
  unfold P20.PaR at ho
  obtain ⟨⟨ts, e, l⟩, hp⟩ : ∃ p, P19.all s.data.toList = p := ⟨_, rfl⟩
  rw [hp] at ho hln hok
  simp only [hp] at hta
  unfold faultV at hta
  simp only at ho hln hok hta
  obtain ⟨H, hH⟩ : ∃ H, w.heap.size = H := ⟨_, rfl⟩
  obtain ⟨W0, hW0, hb0, g0, g1, hs0⟩ := two_pair w (.cells #[.int .u8 0, .string ⟨#[]⟩, .slice none 0 0, .slice none 0 0, .int .i64 0] 26) (.cells #[.int .i64 0, .int .i64 0] 29)
  rw [hH] at g0 g1 hs0 hb0
  have hta0 := hta W0 (by omega)
  have HT := hide hta0
  have HW0 := hide hW0
  have HG0 := hide g0
  have HG1 := hide g1
  have HB0 := hide hb0
  have hmx := hmx0
  clear hta hta0 hW0 g0 g1 hp hb0
  go_enter Tryz.func11, Tryz.ntmps11
  go_upto_region 1 with fail
  try rw [hH]
  rw [unhide HW0]
  go_upto_region 2 with (go_at_call 34; refine (unhide HT).mono ?_; rintro e' w1 ⟨v, rfl, hown, hb1⟩)
  obtain ⟨a, c, rfl, hc1, hc2, hint, hab⟩ := own_int hown
  obtain ⟨W2, hW2⟩ : ∃ W2, w1.alloc (.cells #[.int .i64 e, .int .i64 l] 29) = W2 := ⟨_, rfl⟩
  have hs1 := hb1.size
  have hs2 : W2.heap.size = w1.heap.size + 1 := by rw [← hW2]; simp
  have hb2 : Below w.heap.size w W2 := by rw [← hW2, hH]; exact ((unhide HB0).trans (hb1.mono (by omega))).alloc (by omega) _
  have k0 : W2.heap[H]? = some (.cells #[.int .u8 0, .string ⟨#[]⟩, .slice none 0 0, .slice none 0 0, .int .i64 0] 26) := by rw [← hW2]; exact (Below.heap_alloc _ _ _ (by omega)).trans ((hb1.block _ (by omega)).trans (unhide HG0))
  have k1 : W2.heap[H + 1]? = some (.cells #[.int .i64 0, .int .i64 0] 29) := by rw [← hW2]; exact (Below.heap_alloc _ _ _ (by omega)).trans ((hb1.block _ (by omega)).trans (unhide HG1))
  have k2 : W2.heap[w1.heap.size]? = some (.cells #[.int .i64 e, .int .i64 l] 29) := by rw [← hW2]; exact World.alloc_heap_new w1 _
  have hint2 : InT W2 a ts := by rw [← hW2]; exact hint.keep (fun r hn hr => Below.heap_alloc _ _ _ (hab r hn hr))
  rw [hW2]
  have y0 := five_cell k0
  have z0 := two_cell k1
  have HK0 := hide k0
  have HK1 := hide k1
  have hab2 : ∀ g, ts ≠ [] → blockOf a g → g < w1.heap.size := fun g hn hg => hab g hn hg
  obtain ⟨D, hD⟩ : ∃ D, w1.heap.size = D := ⟨_, rfl⟩
  rw [hD] at k2 hs2 hab2
  try rw [hD]
  have x0 := two_cell k2
  have HK2 := hide k2
  have hDw : H + 1 < D := by omega
  clear hW2 k0 k1 k2 hint hab hown hD hb1 hs1 HT HG0 HG1 HB0 HW0
  by_cases he : e = 0
  rotate_left
  · rw [if_pos he] at ho
    subst ho
    have jn : (e != 0) = true := by simpa using he
    clear he
    go_upto_region 3 with fail
    go_region_with_o (fail)
    all_goals go_wp2
    all_goals
      have hT := two_a hb2 (unhide HK0) (unhide HK1) (.int .u8 0) (.string ⟨#[]⟩) (.slice none 0 0) (.slice none 0 0) (.int .i64 0) (.int .i64 e) (.int .i64 l)
      exact bodyPost_ret (results_two rfl _ _ _ _ _ _ _ rfl (run_loadVar_row _ _ _ _ _ _ _ hT.h0 Tryz.underlying26 rfl (by kernel_rfl)) rfl (run_loadVar_row _ _ _ _ _ _ _ hT.h1 Tryz.underlying29 rfl (by kernel_rfl))) rfl ⟨rfl, by subst hH; exact hT.below⟩
  subst he
  rw [if_neg (by simp)] at ho
  by_cases hn : ts = []
  · rw [if_pos hn] at ho
    subst ho
    subst hn
    go_wp2
    have hT := (two_a hb2 (unhide HK0) (unhide HK1) (.int .u8 0) (.string ⟨#[]⟩) (.slice none 0 0) (.slice none 0 0) (.int .i64 0) (.int .i64 17) (.int .i64 0)).undrew
    exact bodyPost_ret (results_two rfl _ _ _ _ _ _ _ rfl (run_loadVar_row _ _ _ _ _ _ _ hT.h0 Tryz.underlying26 rfl (by kernel_rfl)) rfl (run_loadVar_row _ _ _ _ _ _ _ hT.h1 Tryz.underlying29 rfl (by kernel_rfl))) rfl ⟨rfl, by subst hH; exact hT.below⟩
  rw [if_neg hn] at ho
  obtain ⟨f, hrd⟩ := ho
  have jn : ((ts.length : Int) == 0) = false := by rw [beq_eq_false_iff_ne]; have := List.length_pos_iff.2 hn; omega
  -- the parser's box
  obtain ⟨W3, hW3⟩ : ∃ W3, W2.alloc (.cells #[.slice a ts.length c, .int .i64 0] 61) = W3 := ⟨_, rfl⟩
  have hb23 : Below W2.heap.size W2 W3 := by rw [← hW3]; exact (Below.refl _ _).alloc (Nat.le_refl _) _
  have kp : W3.heap[D + 1]? = some (.cells #[.slice a ts.length c, .int .i64 0] 61) := by rw [← hW3, ← hs2]; exact World.alloc_heap_new _ _
  have hs3 : W3.heap.size = D + 1 + 1 := by rw [← hW3]; simp; omega
  have hR : RPr W3 (D + 1 + 1) (D + 1) ts ts := ⟨⟨a, c, 0, kp, hint2.keep (fun r hn hr => hb23.block r (by have := hab2 r hn hr; omega)), hc1, hc2, rfl, by omega, fun hb => by have := hab2 _ hn hb; omega, fun g hg => by have := hab2 g hn hg; omega⟩, by omega, hn, fun t ht => ⟨(hok t ht).1, by have := (hok t ht).len; unfold maxLen; omega⟩, by omega⟩
  have m0 := (hb23.block H (by omega)).trans (unhide HK0)
  have m1 := (hb23.block (H + 1) (by omega)).trans (unhide HK1)
  have m2 := (hb23.block D (by omega)).trans (unhide HK2)
  have hb3 : Below H w W3 := by rw [← hH]; exact hb2.trans (hb23.mono (by omega))
  have HM0 := hide m0
  have HM1 := hide m1
  have HM2 := hide m2
  have HB3 := hide hb3
  have hll : lastLn ts = P20.lastL ts := rfl
  have HW3 := hide hW3
  have HRD := hide hrd
  clear hW3 hb23 kp hint2 hab2 hok hn m0 m1 m2 hb3 hb2 HK0 HK1 HK2 hrd hln
  have hcl : ∀ q, P20.Val (P20.lastL ts) f 1 ts q → Calls Tryz.prog 35 #[.pointer (some ⟨D + 1, 0, none⟩), .int .i64 1] W3 (RValPost W3 (D + 1 + 1) (D + 1) ts q) := fun q hq => hVal (P20.lastL ts) f 1 ts (D + 1 + 1) (D + 1) ts q W3 hR (by omega) hll (by omega) hq
  have HCL := hide hcl
  clear hcl hR hll
  go_upto_region 7 with fail
  try rw [hs2]
  rw [unhide HW3]
  clear x0 y0 z0 HW3
  cases unhide HRD with
  | @bad x ln h =>
    have hx0 : (x != 0) = true := by have := (P20.bad_ne _ _).1 _ _ _ _ h; simpa using this
    have hx1 : (x == 0) = false := by have := (P20.bad_ne _ _).1 _ _ _ _ h; simpa using this
    have HC := hide (unhide HCL _ h)
    clear h
    go_upto_region 8 with (go_at_call 35; refine (unhide HC).mono ?_; rintro e' w4 ⟨k, t, ka, kn, kc, da, dn, dc, l2, rfl, HG⟩; have q2 := ((unhide HG).block D (by omega) (fun e => by injection e; omega)).trans (unhide HM2); have x0 := two_cell q2; have hsz4 := (unhide HG).size; have hDl : D < w4.heap.size := by omega)
    obtain ⟨V4, hV4⟩ : ∃ V4, (w4.setCell ⟨D, 0, none⟩ (.int .i64 x)).setCell ⟨D, 1, none⟩ (.int .i64 ln) = V4 := ⟨_, rfl⟩
    have v2 : V4.heap[D]? = some (.cells #[.int .i64 x, .int .i64 ln] 29) := by rw [← hV4]; exact two_set q2 _ _
    have vo : ∀ g, g ≠ D → V4.heap[g]? = w4.heap[g]? := fun g hg => by rw [← hV4]; exact two_other hg _ _
    have vs : V4.heap.size = w4.heap.size := by rw [← hV4]; simp
    obtain ⟨W4, hW4⟩ : ∃ W4, V4.alloc (.cells #[.int .u8 k, .string ⟨t.toArray⟩, .slice ka kn kc, .slice da dn dc, .int .i64 l2] 26) = W4 := ⟨_, rfl⟩
    have wo : ∀ g, g < w4.heap.size → W4.heap[g]? = V4.heap[g]? := fun g hg => by rw [← hW4]; exact Below.heap_alloc _ _ _ (by omega)
    have p2 := (wo D hDl).trans v2
    have p0 := ((wo H (by omega)).trans (vo H (by omega))).trans (((unhide HG).block H (by omega) (fun e => by injection e; omega)).trans (unhide HM0))
    have p1 := ((wo (H + 1) (by omega)).trans (vo (H + 1) (by omega))).trans (((unhide HG).block (H + 1) (by omega) (fun e => by injection e; omega)).trans (unhide HM1))
    have hb4 : Below w.heap.size w W4 := by
      rw [← hW4, hH]
      have h1 := unhide HB3
      have h2 := (unhide HG)
      have h3 : Below H w w4 := ⟨h2.os.trans h1.os, h2.tape.trans h1.tape, h2.output.trans h1.output, by have := h1.size; omega, fun i hi => (h2.block i (by omega) (fun e => by injection e; omega)).trans (h1.block i hi)⟩
      have h4 : Below H w V4 := by rw [← hV4]; exact (h3.setCell (p := ⟨D, 0, none⟩) (by show H ≤ D; omega) _).setCell (p := ⟨D, 1, none⟩) (by show H ≤ D; omega) _
      exact h4.alloc (by omega) _
    have hW4s : D + 1 < W4.heap.size := by rw [← hW4]; simp; omega
    rw [hV4]
    try rw [vs]
    rw [hW4]
    clear x0 q2 v2 vo wo hV4 hW4
    have x0 := two_cell p2
    have y0 := five_cell p0
    have z0 := two_cell p1
    have HP0 := hide p0
    have HP1 := hide p1
    go_upto_region 11 with fail
    go_region_with_o (fail)
    all_goals go_wp2
    all_goals
      have hT := two_a hb4 (unhide HP0) (unhide HP1) (.int .u8 0) (.string ⟨#[]⟩) (.slice none 0 0) (.slice none 0 0) (.int .i64 0) (.int .i64 x) (.int .i64 ln)
      exact bodyPost_ret (results_two rfl _ _ _ _ _ _ _ rfl (run_loadVar_row _ _ _ _ _ _ _ hT.h0 Tryz.underlying26 rfl (by kernel_rfl)) rfl (run_loadVar_row _ _ _ _ _ _ _ hT.h1 Tryz.underlying29 rfl (by kernel_rfl))) rfl ⟨rfl, by subst hH; exact hT.below⟩
  | @left d tk r h =>
    have HC := hide (unhide HCL _ h)
    clear h
    go_upto_region 8 with (go_at_call 35; refine (unhide HC).mono ?_; rintro e' w4 ⟨k, t, ka, kc, ks, da, dc, ds, l2, rfl, HG⟩; have q2 := ((unhide HG).2.2.2.2.block D (by omega) (fun e => by injection e; omega)).trans (unhide HM2); have x0 := two_cell q2; have hsz4 := (unhide HG).2.2.2.2.size; have hDl : D < w4.heap.size := by omega)
    obtain ⟨V4, hV4⟩ : ∃ V4, (w4.setCell ⟨D, 0, none⟩ (.int .i64 0)).setCell ⟨D, 1, none⟩ (.int .i64 0) = V4 := ⟨_, rfl⟩
    have v2 : V4.heap[D]? = some (.cells #[.int .i64 0, .int .i64 0] 29) := by rw [← hV4]; exact two_set q2 _ _
    have vo : ∀ g, g ≠ D → V4.heap[g]? = w4.heap[g]? := fun g hg => by rw [← hV4]; exact two_other hg _ _
    have vs : V4.heap.size = w4.heap.size := by rw [← hV4]; simp
    obtain ⟨W4, hW4⟩ : ∃ W4, V4.alloc (.cells #[.int .u8 k, .string ⟨t.toArray⟩, .slice ka ks.length kc, .slice da ds.length dc, .int .i64 l2] 26) = W4 := ⟨_, rfl⟩
    have wo : ∀ g, g < w4.heap.size → W4.heap[g]? = V4.heap[g]? := fun g hg => by rw [← hW4]; exact Below.heap_alloc _ _ _ (by omega)
    have p2 := (wo D hDl).trans v2
    have p0 := ((wo H (by omega)).trans (vo H (by omega))).trans (((unhide HG).2.2.2.2.block H (by omega) (fun e => by injection e; omega)).trans (unhide HM0))
    have p1 := ((wo (H + 1) (by omega)).trans (vo (H + 1) (by omega))).trans (((unhide HG).2.2.2.2.block (H + 1) (by omega) (fun e => by injection e; omega)).trans (unhide HM1))
    have hR4 : RPr W4 (D + 1 + 1) (D + 1) ts (tk :: r) := by rw [← hW4]; exact RPr.alloc (by rw [← hV4]; exact (unhide HG).2.2.2.1.two q2 (by omega)) (by omega) _
    have hb4 : Below w.heap.size w W4 := by
      rw [← hW4, hH]
      have h1 := unhide HB3
      have h2 := (unhide HG).2.2.2.2
      have h3 : Below H w w4 := ⟨h2.os.trans h1.os, h2.tape.trans h1.tape, h2.output.trans h1.output, by have := h1.size; omega, fun i hi => (h2.block i (by omega) (fun e => by injection e; omega)).trans (h1.block i hi)⟩
      have h4 : Below H w V4 := by rw [← hV4]; exact (h3.setCell (p := ⟨D, 0, none⟩) (by show H ≤ D; omega) _).setCell (p := ⟨D, 1, none⟩) (by show H ≤ D; omega) _
      exact h4.alloc (by omega) _
    have hW4s : D + 1 < W4.heap.size := by rw [← hW4]; simp; omega
    rw [hV4]
    try rw [vs]
    rw [hW4]
    obtain ⟨a5, c5, k5, g5, hk5⟩ := hR4.end_
    simp only [List.length_cons] at hk5
    have j5 : (k5 : Int) < (ts.length : Int) := by omega
    clear x0 q2 v2 vo wo hV4 hW4
    have x0 := two_cell p2
    have y0 := five_cell p0
    have z0 := two_cell p1
    have u0 := two_cell g5
    have hE := rfault_any (D + 1 + 1) (D + 1) ts (tk :: r) 3 W4 hR4
    rw [show P20.hereL (lastLn ts) (tk :: r) = tk.2.2.1 from rfl] at hE
    obtain ⟨tl, htl⟩ : ∃ z, tk.2.2.1 = z := ⟨_, rfl⟩
    rw [htl] at hE
    have HTL := hide htl
    have HE := hide hE
    have HP0 := hide p0
    have HP1 := hide p1
    have HP2 := hide p2
    have HB4 := hide hb4
    clear hE g5 hk5 p0 p1 p2 hb4 hR4 htl
    go_upto_region 10 with (go_at_call 36; refine (unhide HE).mono ?_; rintro e5 w5 ⟨rfl, hb5⟩; have q5 := (hb5.block D (by omega)).trans (unhide HP2); have xx0 := two_cell q5)
    have hl5 := hb5.size
    obtain ⟨W6, hW6⟩ : ∃ W6, (w5.setCell ⟨D, 0, none⟩ (.int .i64 3)).setCell ⟨D, 1, none⟩ (.int .i64 tl) = W6 := ⟨_, rfl⟩
    have p2 : W6.heap[D]? = some (.cells #[.int .i64 3, .int .i64 tl] 29) := by rw [← hW6]; exact two_set q5 _ _
    have p0 : W6.heap[H]? = some (.cells #[.int .u8 0, .string ⟨#[]⟩, .slice none 0 0, .slice none 0 0, .int .i64 0] 26) := by rw [← hW6]; exact (two_other (by omega) _ _).trans ((hb5.block H (by omega)).trans (unhide HP0))
    have p1 : W6.heap[H + 1]? = some (.cells #[.int .i64 0, .int .i64 0] 29) := by rw [← hW6]; exact (two_other (by omega) _ _).trans ((hb5.block (H + 1) (by omega)).trans (unhide HP1))
    have hb6 : Below w.heap.size w W6 := by
      rw [← hW6]
      exact ((((unhide HB4).trans (hb5.mono (by omega))).setCell (p := ⟨D, 0, none⟩) (by show w.heap.size ≤ D; omega) _).setCell (p := ⟨D, 1, none⟩) (by show w.heap.size ≤ D; omega) _)
    rw [hW6]
    clear x0 y0 z0 u0 xx0 q5 hW6 hb5
    have x0 := two_cell p2
    have y0 := five_cell p0
    have z0 := two_cell p1
    have HP0 := hide p0
    have HP1 := hide p1
    clear p0 p1 p2
    go_upto_region 11 with fail
    go_region_with_o (fail)
    all_goals go_wp2
    all_goals
      have hT := two_a hb6 (unhide HP0) (unhide HP1) (.int .u8 0) (.string ⟨#[]⟩) (.slice none 0 0) (.slice none 0 0) (.int .i64 0) (.int .i64 3) (.int .i64 tl)
      exact bodyPost_ret (results_two rfl _ _ _ _ _ _ _ rfl (run_loadVar_row _ _ _ _ _ _ _ hT.h0 Tryz.underlying26 rfl (by kernel_rfl)) rfl (run_loadVar_row _ _ _ _ _ _ _ hT.h1 Tryz.underlying29 rfl (by kernel_rfl))) rfl ⟨by show _ = Ending.returned (.tuple #[.agg #[.int .u8 0, .string ⟨#[]⟩, .slice none 0 0, .slice none 0 0, .int .i64 0], .agg #[.int .i64 3, .int .i64 tk.2.2.1]]); rw [unhide HTL], by subst hH; exact hT.below⟩
  | @ok d h =>
    have HC := hide (unhide HCL _ h)
    clear h
    go_upto_region 8 with (go_at_call 35; refine (unhide HC).mono ?_; rintro e' w4 ⟨k, t, ka, kc, ks, da, dc, ds, l2, rfl, HG⟩; have q2 := ((unhide HG).2.2.2.2.block D (by omega) (fun e => by injection e; omega)).trans (unhide HM2); have x0 := two_cell q2; have hsz4 := (unhide HG).2.2.2.2.size; have hDl : D < w4.heap.size := by omega)
    obtain ⟨V4, hV4⟩ : ∃ V4, (w4.setCell ⟨D, 0, none⟩ (.int .i64 0)).setCell ⟨D, 1, none⟩ (.int .i64 0) = V4 := ⟨_, rfl⟩
    have v2 : V4.heap[D]? = some (.cells #[.int .i64 0, .int .i64 0] 29) := by rw [← hV4]; exact two_set q2 _ _
    have vo : ∀ g, g ≠ D → V4.heap[g]? = w4.heap[g]? := fun g hg => by rw [← hV4]; exact two_other hg _ _
    have vs : V4.heap.size = w4.heap.size := by rw [← hV4]; simp
    obtain ⟨W4, hW4⟩ : ∃ W4, V4.alloc (.cells #[.int .u8 k, .string ⟨t.toArray⟩, .slice ka ks.length kc, .slice da ds.length dc, .int .i64 l2] 26) = W4 := ⟨_, rfl⟩
    have wo : ∀ g, g < w4.heap.size → W4.heap[g]? = V4.heap[g]? := fun g hg => by rw [← hW4]; exact Below.heap_alloc _ _ _ (by omega)
    have p2 := (wo D hDl).trans v2
    have p0 := ((wo H (by omega)).trans (vo H (by omega))).trans (((unhide HG).2.2.2.2.block H (by omega) (fun e => by injection e; omega)).trans (unhide HM0))
    have p1 := ((wo (H + 1) (by omega)).trans (vo (H + 1) (by omega))).trans (((unhide HG).2.2.2.2.block (H + 1) (by omega) (fun e => by injection e; omega)).trans (unhide HM1))
    have hR4 : RPr W4 (D + 1 + 1) (D + 1) ts [] := by rw [← hW4]; exact RPr.alloc (by rw [← hV4]; exact (unhide HG).2.2.2.1.two q2 (by omega)) (by omega) _
    obtain ⟨B7, hB7⟩ : ∃ B7, w4.heap.size = B7 := ⟨_, rfl⟩
    have pn : W4.heap[B7]? = some (.cells #[.int .u8 k, .string ⟨t.toArray⟩, .slice ka ks.length kc, .slice da ds.length dc, .int .i64 l2] 26) := by rw [← hW4, ← hB7, ← vs]; exact World.alloc_heap_new V4 _
    have hin4 : (Nd.mk k t ka kc ks da dc ds l2).In W4 :=
      (unhide HG).2.1.keep (fun g hg => (wo g ((unhide HG).2.1.lt hg)).trans (vo g (by have := (unhide HG).2.2.1 g hg; omega)))
    have hb4 : Below w.heap.size w W4 := by
      rw [← hW4, hH]
      have h1 := unhide HB3
      have h2 := (unhide HG).2.2.2.2
      have h3 : Below H w w4 := ⟨h2.os.trans h1.os, h2.tape.trans h1.tape, h2.output.trans h1.output, by have := h1.size; omega, fun i hi => (h2.block i (by omega) (fun e => by injection e; omega)).trans (h1.block i hi)⟩
      have h4 : Below H w V4 := by rw [← hV4]; exact (h3.setCell (p := ⟨D, 0, none⟩) (by show H ≤ D; omega) _).setCell (p := ⟨D, 1, none⟩) (by show H ≤ D; omega) _
      exact h4.alloc (by omega) _
    have hW4s : D + 1 < W4.heap.size := by rw [← hW4]; simp; omega
    rw [hV4]
    try rw [vs]
    rw [hW4]
    try rw [hB7]
    obtain ⟨a5, c5, k5, g5, hk5⟩ := hR4.end_
    simp only [List.length_nil] at hk5
    have j5 : (k5 : Int) = (ts.length : Int) := by omega
    have hba := (unhide HG).1
    have hnw := (unhide HG).2.2.1
    clear x0 q2 v2 vo wo hV4 hW4
    have x0 := two_cell p2
    have y0 := five_cell p0
    have z0 := two_cell p1
    have u0 := two_cell g5
    have v0 := five_cell pn
    have HP0 := hide p0
    have HP1 := hide p1
    have HB4 := hide hb4
    have HIN := hide hin4
    have HBA := hide hba
    have HNW := hide hnw
    clear g5 hk5 p0 p1 p2 pn hb4 hR4 hin4 hba hnw
    go_upto_region 12 with fail
    go_region_with_o (fail)
    all_goals go_wp2
    all_goals
      have hT := two_a (unhide HB4) (unhide HP0) (unhide HP1) (.int .u8 k) (.string ⟨t.toArray⟩) (.slice ka ks.length kc) (.slice da ds.length dc) (.int .i64 l2) (.int .i64 0) (.int .i64 0)
      refine bodyPost_ret (results_two rfl _ _ _ _ _ _ _ rfl (run_loadVar_row _ _ _ _ _ _ _ hT.h0 Tryz.underlying26 rfl (by kernel_rfl)) rfl (run_loadVar_row _ _ _ _ _ _ _ hT.h1 Tryz.underlying29 rfl (by kernel_rfl))) rfl ⟨k, t, ka, kc, ks, da, dc, ds, l2, rfl, hide ⟨unhide HBA, ?_, fun g hg => by have := unhide HNW g hg; omega⟩, by subst hH; exact hT.below⟩
      exact (unhide HIN).keep (fun g hg => drewH ((two_other (by have := unhide HNW g hg; omega) _ _).trans (five_other (by have := unhide HNW g hg; omega) _ _ _ _ _)))
end Go.Proofs.YtnjokdbblmlhhaaGreatDoor
