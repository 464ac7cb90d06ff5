/- Lemmas of this claim (a part of its texts, kept as far as the claim reaches them). -/
import Derived.Test.YtefokfbgpfcbkaaGreatM33jZ
import Derived.Test.YtefokfbgpfcbkaaGreatM33yZ
namespace Go.Proofs.YtefokfbgpfcbkaaGreat
set_option linter.unusedVariables false
set_option linter.unusedSimpArgs false
open Go.RowKit
theorem copy33 (d : PDef) (w : World) (hin : d.In w) (hcp : d.cp) : Calls Tryz.prog 67 #[d.val] w (CopyR w d) := by
  obtain ⟨nm, tx, sa, sc, ss⟩ := d
  by_cases h : ss = []
  · subst h
    have := hcp.none_ rfl
    simp only at this
    subst this
    exact Copy_none nm tx sc w
  · obtain ⟨x, r, rfl⟩ : ∃ x r, ss = x :: r := by cases ss with | nil => exact absurd rfl h | cons x r => exact ⟨x, r, rfl⟩
    obtain ⟨⟨b, o, e, _⟩, _⟩ := hin.steps 0 x rfl
    simp only at e
    subst e
    exact Copy_some nm tx b o sc (x :: r) w hin hcp h
theorem set_same33 {L : Array Bool} {i : Nat} (h : L.getD i true = false) : (L.setIfInBounds i true).getD i false = true := by
  obtain ⟨hl, _⟩ := getD_of h
  simp [Array.getD, hl]
theorem set_other33 {L : Array Bool} {i j : Nat} (h : j ≠ i) (hj : (L.setIfInBounds i true).getD j false = true) : L.getD j false = true := by
  rwa [getD_set_ne false (Ne.symm h)] at hj
theorem set_up33 {L : Array Bool} {i j : Nat} (h : L.getD i true = false) (hj : L.getD j false = true) : (L.setIfInBounds i true).getD j false = true := by
  by_cases e : j = i
  · rw [e]; exact set_same33 h
  · rwa [getD_set_ne false (Ne.symm e)]
theorem call33 {f : FuncId} {args : Array Value} {w : World} {o : Oper} {a : Act} {K : Act → World → Prop} {Q : Exit → Act → World → Prop} {R : Ending → World → Prop}
    (hex : (execOp a.eval o).run Tryz.prog w = .ok (.enter f args) w) (h : Calls Tryz.prog f args w R) (hk : ∀ e w', R e w' → ∃ v, e = .returned v ∧ K (a.put o.dst v) w') : Oper.wp Tryz.prog o a w K Q := by
  unfold Oper.wp
  rw [hex, Oper.upon_enter]
  refine h.mono (fun e w' hr => ?_)
  obtain ⟨v, rfl, hkv⟩ := hk e w' hr
  exact hkv
structure NJ (w : World) (H : Nat) (dv : Value) (dc : Array Value) (N : Nat) (RS : List (List Nat)) (CD : P22.Def) (L : Array Bool) (V : World) (d' : PDef) (rb : Nat) (vs : Nat → Value) (bm : Nat) (v2 v3 v7 v8 v9 v10 v11 v12 v13 : Value) : Prop where
  sz : L.size = 9
  bel : Below H w V
  hsz : H + 1 ≤ V.heap.size
  bx : V.heap[H]? = some (.cells dc 24)
  f0 : L.getD 0 false = true → v7 = dv
  f1 : L.getD 1 false = true → v8 = d'.val ∧ d'.In V ∧ d'.bare = CD ∧ ∀ g, d'.blk g → H + 1 ≤ g
  f2 : L.getD 2 false = true → v9 = dv
  f3 : L.getD 3 false = true → v10 = .slice (some ⟨rb, 0, none⟩) N N ∧ Grid V 0 rb vs RS ∧ ∀ g, gridB rb vs N g → H + 1 ≤ g
  f4 : L.getD 4 false = true → v11 = .map (some bm) ∧ H + 1 ≤ bm ∧ V.heap[bm]? = some (.map #[] 0)
  s1 : L.getD 1 false = true → L.getD 4 false = true → ¬ d'.blk bm
  s3 : L.getD 3 false = true → L.getD 4 false = true → ¬ gridB rb vs N bm
  f5 : L.getD 5 false = true → v12 = .agg #[.string ⟨d'.name.toArray⟩, .string ⟨d'.text.toArray⟩, .slice d'.sa d'.steps.length d'.sc, .slice (some ⟨rb, 0, none⟩) N N, .map (some bm), .slice none 0 0, .slice none 0 0, .bool false, .int .u8 1]
  f6 : L.getD 6 false = true → ∃ b, v13 = .pointer (some ⟨b, 0, none⟩) ∧ Md V b bm rb H (b + 1) vs d' (.slice none 0 0) (.slice none 0 0) P33.S.new
  f7 : L.getD 7 false = true → v2 = v13
  f8 : L.getD 8 false = true → v3 = .int .i64 0
  g5 : L.getD 5 false = true → L.getD 1 false = true ∧ L.getD 3 false = true ∧ L.getD 4 false = true
  g6 : L.getD 6 false = true → L.getD 5 false = true
  g7 : L.getD 7 false = true → L.getD 6 false = true
set_option maxRecDepth 100000 in
set_option maxHeartbeats 8000000 in
theorem New_good (d : PDef) (w : World) (hin : d.In w) (hok : d.ok) (hcp : d.cp) (hc : P28.clean d.bare = true) (haf : ∀ s ∈ d.steps, s.after.length ≤ 1000000) : Calls Tryz.prog 13 #[d.val] w fun e w' =>
    ∃ (b bm rb C : Nat) (vs : Nat → Value) (d' : PDef), e = .returned (.tuple #[.pointer (some ⟨b, 0, none⟩), .int .i64 0]) ∧ (Md w' b bm rb w.heap.size C vs d' (.slice none 0 0) (.slice none 0 0) P33.S.new ∧ d'.bare = cutD d.bare) ∧ Below w.heap.size w w' := by
  obtain ⟨H, hH⟩ : ∃ H, w.heap.size = H := ⟨_, rfl⟩
  rw [hH]
  obtain ⟨W1, hW1, hb1, g0, hs1⟩ := new1 w (defO d) H hH
  have hinV : ∀ V, Below H w V → d.In V := fun V hV => hin.below (by rw [hH]; exact hV)
  have hcl := Clean_any d W1 (hinV W1 hb1) hok
  rw [hc] at hcl
  have hcopy := fun V (hV : Below H w V) => copy33 d V (hinV V hV) hcp
  have hrefs := fun V (hV : Below H w V) => Refs_any d V (hinV V hV) hcp.len haf
  have hmm := @run_makeMap Tryz.prog
  have hne : d.steps ≠ [] := fun e => by
    have h9 : P28.clean d.bare = true := hc
    unfold P28.clean P28.namesP at h9
    simp [PDef.bare, e, P28.nt] at h9
  have hcut : (cutD d.bare).steps.length = d.steps.length := by simp [cutD, PDef.bare]
  have hrefc : P28.refs (cutD d.bare) = P28.refs d.bare := by
    unfold P28.refs P28.names P28.afters cutD
    simp [List.map_map, Function.comp_def, cutS]
  have hnl := hcp.len
  have g1 := g0
  unfold defO at g1
  obtain ⟨⟨q0, r0⟩, ⟨q1, r1⟩, ⟨q2, r2⟩⟩ := cell3 g1
  obtain ⟨CD, hCD⟩ : ∃ CD, cutD d.bare = CD := ⟨_, rfl⟩
  obtain ⟨RS, hRS⟩ : ∃ RS, P28.refs d.bare = RS := ⟨_, rfl⟩
  rw [hCD] at hcut hrefc
  rw [hRS] at hrefs hrefc
  rw [hCD]
  unfold CopyR at hcopy
  rw [hCD] at hcopy
  have HC := hide hcl
  have HW1 := hide hW1
  have HB1 := hide hb1
  have HG0 := hide g1
  have HCP := hide hcopy
  have HRF := hide hrefs
  obtain ⟨nm, tx, sa, sc, ss⟩ := d
  obtain ⟨N, hN⟩ : ∃ N, ss.length = N := ⟨_, rfl⟩
  have hN0 : N ≠ 0 := by
    rw [← hN]
    intro e
    exact hne (List.length_eq_zero_iff.1 e)
  unfold defO at HW1
  unfold PDef.val at HC
  simp only [hN] at HC HW1 HG0 q2 hcut hnl
  have HCP : Hid (∀ V, Below H w V → Calls Tryz.prog 67 #[.agg #[.string ⟨nm.toArray⟩, .string ⟨tx.toArray⟩, .slice sa N sc]] V fun e w' => ∃ d' : PDef, e = .returned d'.val ∧ d'.In w' ∧ (∀ g, d'.blk g → V.heap.size ≤ g) ∧ d'.bare = CD ∧ Below V.heap.size V w') := by
    have h := unhide HCP
    unfold PDef.val at h
    simp only [hN] at h
    exact hide h
  have HRF : Hid (∀ V, Below H w V → Calls Tryz.prog 59 #[.agg #[.string ⟨nm.toArray⟩, .string ⟨tx.toArray⟩, .slice sa N sc]] V fun e w' => ∃ b vs, e = .returned (.slice (some ⟨b, 0, none⟩) N N) ∧ Grid w' V.heap.size b vs RS ∧ Below V.heap.size V w') := by
    have h := unhide HRF
    unfold PDef.val at h
    simp only [hN] at h
    exact hide h
  simp only [PDef.val, hN]
  have hmx := hmixed
  have hRSl : RS.length = N := by rw [← hRS, P28.refs_len, Md.blen]; exact hN
  clear hcl hW1 hb1 g0 g1 hin hok hcp hc haf hinV hcopy hrefs hCD hRS hne
  go_enter Tryz.func13, Tryz.ntmps13
  go_upto_region 1 with fail
  try rw [hH]
  rw [unhide HW1]
  go_upto_region 3 with (go_at_call 30; with_reducible refine (unhide HC).mono ?_; rintro e w2 ⟨rfl, b2⟩)
  have hb2 : Below H w w2 := (unhide HB1).trans (b2.mono (by omega))
  have g2 := (b2.block H (by omega)).trans (unhide HG0)
  have hz2 : H + 1 ≤ w2.heap.size := by have := b2.size; omega
  have e67 := enters_of Tryz.func67 (by kernel_rfl) rfl
  have e59 := enters_of Tryz.func59 (by kernel_rfl) rfl
  refine wp_region_inv hmx (fun L a V => ∃ (v2 v3 v7 v8 v9 v10 v11 v12 v13 : Value) (d' : PDef) (rb bm : Nat) (vs : Nat → Value), a = ⟨#[.agg #[.string ⟨nm.toArray⟩, .string ⟨tx.toArray⟩, .slice sa N sc], .pointer (some ⟨H, 0, none⟩), v2, v3, .agg #[.string ⟨nm.toArray⟩, .string ⟨tx.toArray⟩, .slice sa N sc], .bool true, .bool false, (v7), (v8), (v9), (v10), (v11), (v12), (v13)], []⟩ ∧ NJ w H (.agg #[.string ⟨nm.toArray⟩, .string ⟨tx.toArray⟩, .slice sa N sc]) #[.string ⟨nm.toArray⟩, .string ⟨tx.toArray⟩, .slice sa N sc] N RS CD L V d' rb vs bm v2 v3 v7 v8 v9 v10 v11 v12 v13) (by kernel_rfl) ?_ ?_ ?_
  · refine ⟨_, _, _, _, _, _, _, _, _, PDef.zero, 0, 0, fun _ => undef, rfl, by kernel_rfl, hb2.drew, hz2, g2, ?_, ?_, ?_, ?_, ?_, ?_, ?_, ?_, ?_, ?_, ?_, ?_, ?_, ?_⟩
    all_goals (intro h; exact absurd h (by decide))
  · rintro L a V i o ⟨v2, v3, v7, v8, v9, v10, v11, v12, v13, d', rb, bm, vs, rfl, h⟩ ho hi hdep
    have so : ∀ j, j ≠ i → (L.setIfInBounds i true).getD j false = true → L.getD j false = true := fun j hj q => set_other33 hj q
    have up : ∀ j, L.getD j false = true → (L.setIfInBounds i true).getD j false = true := fun j q => set_up33 hi q
    have hi2 := (getD_of hi).2
    match i, ho with
    | 0, ho =>
      cases ho
      refine wpOp_of rfl rfl ?_
      obtain ⟨⟨y0, _⟩, ⟨y1, _⟩, ⟨y2, _⟩⟩ := cell3 h.bx
      refine Oper.wp_mono (K := fun a2 w2 => a2 = ⟨#[.agg #[.string ⟨nm.toArray⟩, .string ⟨tx.toArray⟩, .slice sa N sc], .pointer (some ⟨H, 0, none⟩), v2, v3, .agg #[.string ⟨nm.toArray⟩, .string ⟨tx.toArray⟩, .slice sa N sc], .bool true, .bool false, (.agg #[.string ⟨nm.toArray⟩, .string ⟨tx.toArray⟩, .slice sa N sc]), (v8), (v9), (v10), (v11), (v12), (v13)], []⟩ ∧ w2 = V) (fun a2 w2 he => ?_) (by simp [Oper.wp, go_sem, y0, y1, y2])
      obtain ⟨rfl, rfl⟩ := he
      exact ⟨v2, v3, _, v8, v9, v10, v11, v12, v13, d', rb, bm, vs, rfl, ⟨by simpa using h.sz, h.bel, h.hsz, h.bx, fun _ => rfl, fun q => h.f1 (so 1 (by omega) q), fun q => h.f2 (so 2 (by omega) q), fun q => h.f3 (so 3 (by omega) q), fun q => h.f4 (so 4 (by omega) q), fun q r => h.s1 (so 1 (by omega) q) (so 4 (by omega) r), fun q r => h.s3 (so 3 (by omega) q) (so 4 (by omega) r), fun q => h.f5 (so 5 (by omega) q), fun q => h.f6 (so 6 (by omega) q), fun q => h.f7 (so 7 (by omega) q), fun q => h.f8 (so 8 (by omega) q), fun q => ⟨up 1 (h.g5 (so 5 (by omega) q)).1, up 3 (h.g5 (so 5 (by omega) q)).2.1, up 4 (h.g5 (so 5 (by omega) q)).2.2⟩, fun q => up 5 (h.g6 (so 6 (by omega) q)), fun q => up 6 (h.g7 (so 7 (by omega) q))⟩⟩
    | 1, ho =>
      cases ho
      refine wpOp_of rfl rfl ?_
      obtain rfl := h.f0 (hdep ⟨0, .data⟩ (by simp) rfl)
      refine call33 (f := 67) (args := #[.agg #[.string ⟨nm.toArray⟩, .string ⟨tx.toArray⟩, .slice sa N sc]]) (by simp [execOp, go_sem, e67]) (unhide HCP V h.bel) ?_
      rintro e W ⟨d2, rfl, k1, k2, k3, k4⟩
      have hz := h.hsz
      refine ⟨_, rfl, v2, v3, _, d2.val, v9, v10, v11, v12, v13, d2, rb, bm, vs, rfl, ⟨by simpa using h.sz, h.bel.trans (k4.mono (by omega)), Nat.le_trans hz k4.size, (k4.block H (by omega)).trans h.bx, fun q => h.f0 (so 0 (by omega) q), fun _ => ⟨rfl, k1, k3, fun g hg => Nat.le_trans hz (k2 g hg)⟩, fun q => h.f2 (so 2 (by omega) q), fun q => ⟨(h.f3 (so 3 (by omega) q)).1, (h.f3 (so 3 (by omega) q)).2.1.below k4, (h.f3 (so 3 (by omega) q)).2.2⟩, fun q => ⟨(h.f4 (so 4 (by omega) q)).1, (h.f4 (so 4 (by omega) q)).2.1, (k4.block bm (Array.getElem?_eq_some_iff.1 (h.f4 (so 4 (by omega) q)).2.2).1).trans (h.f4 (so 4 (by omega) q)).2.2⟩, fun _ r hb => by have h1 := (Array.getElem?_eq_some_iff.1 (h.f4 (so 4 (by omega) r)).2.2).1; have := k2 bm hb; omega, fun q r => h.s3 (so 3 (by omega) q) (so 4 (by omega) r), fun q => absurd ((h.g5 (so 5 (by omega) q)).1) (by rw [hi2]; decide), fun q => absurd ((h.g5 (h.g6 (so 6 (by omega) q))).1) (by rw [hi2]; decide), fun q => h.f7 (so 7 (by omega) q), fun q => h.f8 (so 8 (by omega) q), fun q => ⟨up 1 (h.g5 (so 5 (by omega) q)).1, up 3 (h.g5 (so 5 (by omega) q)).2.1, up 4 (h.g5 (so 5 (by omega) q)).2.2⟩, fun q => up 5 (h.g6 (so 6 (by omega) q)), fun q => up 6 (h.g7 (so 7 (by omega) q))⟩⟩
    | 2, ho =>
      cases ho
      refine wpOp_of rfl rfl ?_
      obtain ⟨⟨y0, _⟩, ⟨y1, _⟩, ⟨y2, _⟩⟩ := cell3 h.bx
      refine Oper.wp_mono (K := fun a2 w2 => a2 = ⟨#[.agg #[.string ⟨nm.toArray⟩, .string ⟨tx.toArray⟩, .slice sa N sc], .pointer (some ⟨H, 0, none⟩), v2, v3, .agg #[.string ⟨nm.toArray⟩, .string ⟨tx.toArray⟩, .slice sa N sc], .bool true, .bool false, (v7), (v8), (.agg #[.string ⟨nm.toArray⟩, .string ⟨tx.toArray⟩, .slice sa N sc]), (v10), (v11), (v12), (v13)], []⟩ ∧ w2 = V) (fun a2 w2 he => ?_) (by simp [Oper.wp, go_sem, y0, y1, y2])
      obtain ⟨rfl, rfl⟩ := he
      exact ⟨v2, v3, v7, v8, _, v10, v11, v12, v13, d', rb, bm, vs, rfl, ⟨by simpa using h.sz, h.bel, h.hsz, h.bx, fun q => h.f0 (so 0 (by omega) q), fun q => h.f1 (so 1 (by omega) q), fun _ => rfl, fun q => h.f3 (so 3 (by omega) q), fun q => h.f4 (so 4 (by omega) q), fun q r => h.s1 (so 1 (by omega) q) (so 4 (by omega) r), fun q r => h.s3 (so 3 (by omega) q) (so 4 (by omega) r), fun q => h.f5 (so 5 (by omega) q), fun q => h.f6 (so 6 (by omega) q), fun q => h.f7 (so 7 (by omega) q), fun q => h.f8 (so 8 (by omega) q), fun q => ⟨up 1 (h.g5 (so 5 (by omega) q)).1, up 3 (h.g5 (so 5 (by omega) q)).2.1, up 4 (h.g5 (so 5 (by omega) q)).2.2⟩, fun q => up 5 (h.g6 (so 6 (by omega) q)), fun q => up 6 (h.g7 (so 7 (by omega) q))⟩⟩
    | 3, ho =>
      cases ho
      refine wpOp_of rfl rfl ?_
      obtain rfl := h.f2 (hdep ⟨2, .data⟩ (by simp) rfl)
      refine call33 (f := 59) (args := #[.agg #[.string ⟨nm.toArray⟩, .string ⟨tx.toArray⟩, .slice sa N sc]]) (by simp [execOp, go_sem, e59]) (unhide HRF V h.bel) ?_
      rintro e W ⟨rb2, vs2, rfl, k1, k4⟩
      have hz := h.hsz
      refine ⟨_, rfl, v2, v3, v7, v8, _, .slice (some ⟨rb2, 0, none⟩) N N, v11, v12, v13, d', rb2, bm, vs2, rfl, ⟨by simpa using h.sz, h.bel.trans (k4.mono (by omega)), Nat.le_trans hz k4.size, (k4.block H (by omega)).trans h.bx, fun q => h.f0 (so 0 (by omega) q), fun q => ⟨(h.f1 (so 1 (by omega) q)).1, (h.f1 (so 1 (by omega) q)).2.1.below k4, (h.f1 (so 1 (by omega) q)).2.2⟩, fun q => h.f2 (so 2 (by omega) q), fun _ => ⟨rfl, k1.low (Nat.zero_le _), fun g hg => Nat.le_trans hz (k1.lt (by rw [hRSl]; exact hg)).1⟩, fun q => ⟨(h.f4 (so 4 (by omega) q)).1, (h.f4 (so 4 (by omega) q)).2.1, (k4.block bm (Array.getElem?_eq_some_iff.1 (h.f4 (so 4 (by omega) q)).2.2).1).trans (h.f4 (so 4 (by omega) q)).2.2⟩, fun q r => h.s1 (so 1 (by omega) q) (so 4 (by omega) r), fun _ r hb => by have h1 := (Array.getElem?_eq_some_iff.1 (h.f4 (so 4 (by omega) r)).2.2).1; have := (k1.lt (by rw [hRSl]; exact hb)).1; omega, fun q => absurd ((h.g5 (so 5 (by omega) q)).2.1) (by rw [hi2]; decide), fun q => absurd ((h.g5 (h.g6 (so 6 (by omega) q))).2.1) (by rw [hi2]; decide), fun q => h.f7 (so 7 (by omega) q), fun q => h.f8 (so 8 (by omega) q), fun q => ⟨up 1 (h.g5 (so 5 (by omega) q)).1, up 3 (h.g5 (so 5 (by omega) q)).2.1, up 4 (h.g5 (so 5 (by omega) q)).2.2⟩, fun q => up 5 (h.g6 (so 6 (by omega) q)), fun q => up 6 (h.g7 (so 7 (by omega) q))⟩⟩
    | 4, ho =>
      cases ho
      refine wpOp_of rfl rfl ?_
      refine Oper.wp_mono (K := fun a2 w2 => a2 = ⟨#[.agg #[.string ⟨nm.toArray⟩, .string ⟨tx.toArray⟩, .slice sa N sc], .pointer (some ⟨H, 0, none⟩), v2, v3, .agg #[.string ⟨nm.toArray⟩, .string ⟨tx.toArray⟩, .slice sa N sc], .bool true, .bool false, (v7), (v8), (v9), (v10), (.map (some V.heap.size)), (v12), (v13)], []⟩ ∧ w2 = V.alloc (.map #[] 0)) (fun a2 w2 he => ?_) (by simp [Oper.wp, go_sem, hmm])
      obtain ⟨rfl, rfl⟩ := he
      have hz := h.hsz
      have k4 : Below V.heap.size V (V.alloc (.map #[] 0)) := (Below.refl _ V).alloc (Nat.le_refl _) _
      exact ⟨v2, v3, v7, v8, v9, v10, _, v12, v13, d', rb, V.heap.size, vs, rfl, ⟨by simpa using h.sz, h.bel.trans (k4.mono (by omega)), Nat.le_trans hz k4.size, (k4.block H (by omega)).trans h.bx, fun q => h.f0 (so 0 (by omega) q), fun q => ⟨(h.f1 (so 1 (by omega) q)).1, (h.f1 (so 1 (by omega) q)).2.1.below k4, (h.f1 (so 1 (by omega) q)).2.2⟩, fun q => h.f2 (so 2 (by omega) q), fun q => ⟨(h.f3 (so 3 (by omega) q)).1, (h.f3 (so 3 (by omega) q)).2.1.below k4, (h.f3 (so 3 (by omega) q)).2.2⟩, fun _ => ⟨rfl, hz, World.alloc_heap_new _ _⟩, fun q _ hb => by have := (h.f1 (so 1 (by omega) q)).2.1.lt hb; omega, fun q _ hb => by have := ((h.f3 (so 3 (by omega) q)).2.1.lt (by rw [hRSl]; exact hb)).2; omega, fun q => absurd ((h.g5 (so 5 (by omega) q)).2.2) (by rw [hi2]; decide), fun q => absurd ((h.g5 (h.g6 (so 6 (by omega) q))).2.2) (by rw [hi2]; decide), fun q => h.f7 (so 7 (by omega) q), fun q => h.f8 (so 8 (by omega) q), fun q => ⟨up 1 (h.g5 (so 5 (by omega) q)).1, up 3 (h.g5 (so 5 (by omega) q)).2.1, up 4 (h.g5 (so 5 (by omega) q)).2.2⟩, fun q => up 5 (h.g6 (so 6 (by omega) q)), fun q => up 6 (h.g7 (so 7 (by omega) q))⟩⟩
    | 5, ho =>
      cases ho
      refine wpOp_of rfl rfl ?_
      have l1 := hdep ⟨1, .data⟩ (by simp) rfl
      have l3 := hdep ⟨3, .data⟩ (by simp) rfl
      have l4 := hdep ⟨4, .data⟩ (by simp) rfl
      have e8 := (h.f1 l1).1
      have e10 := (h.f3 l3).1
      have e11 := (h.f4 l4).1
      unfold PDef.val at e8
      subst e8
      subst e10
      subst e11
      refine Oper.wp_mono (K := fun a2 w2 => a2 = ⟨#[.agg #[.string ⟨nm.toArray⟩, .string ⟨tx.toArray⟩, .slice sa N sc], .pointer (some ⟨H, 0, none⟩), v2, v3, .agg #[.string ⟨nm.toArray⟩, .string ⟨tx.toArray⟩, .slice sa N sc], .bool true, .bool false, (v7), (.agg #[.string ⟨d'.name.toArray⟩, .string ⟨d'.text.toArray⟩, .slice d'.sa d'.steps.length d'.sc]), (v9), (.slice (some ⟨rb, 0, none⟩) N N), (.map (some bm)), ((.agg #[.string ⟨d'.name.toArray⟩, .string ⟨d'.text.toArray⟩, .slice d'.sa d'.steps.length d'.sc, .slice (some ⟨rb, 0, none⟩) N N, .map (some bm), .slice none 0 0, .slice none 0 0, .bool false, .int .u8 1])), (v13)], []⟩ ∧ w2 = V) (fun a2 w2 he => ?_) (by simp [Oper.wp, go_sem]; try exact ⟨rfl, rfl⟩)
      obtain ⟨rfl, rfl⟩ := he
      exact ⟨v2, v3, v7, _, v9, _, _, _, v13, d', rb, bm, vs, rfl, ⟨by simpa using h.sz, h.bel, h.hsz, h.bx, fun q => h.f0 (so 0 (by omega) q), fun q => h.f1 (so 1 (by omega) q), fun q => h.f2 (so 2 (by omega) q), fun q => h.f3 (so 3 (by omega) q), fun q => h.f4 (so 4 (by omega) q), fun q r => h.s1 (so 1 (by omega) q) (so 4 (by omega) r), fun q r => h.s3 (so 3 (by omega) q) (so 4 (by omega) r), fun _ => rfl, fun q => absurd (h.g6 (so 6 (by omega) q)) (by rw [hi2]; decide), fun q => h.f7 (so 7 (by omega) q), fun q => h.f8 (so 8 (by omega) q), fun _ => ⟨up 1 l1, up 3 l3, up 4 l4⟩, fun q => up 5 (h.g6 (so 6 (by omega) q)), fun q => up 6 (h.g7 (so 7 (by omega) q))⟩⟩
    | 6, ho =>
      cases ho
      refine wpOp_of rfl rfl ?_
      have l5 := hdep ⟨5, .data⟩ (by simp) rfl
      obtain ⟨l1, l3, l4⟩ := h.g5 l5
      obtain rfl := h.f5 l5
      obtain ⟨k1, k2, k3, k4⟩ := h.f1 l1
      obtain ⟨m1, m2, m3⟩ := h.f3 l3
      obtain ⟨n1, n2, n3⟩ := h.f4 l4
      have hs1' := h.s1 l1 l4
      have hs3' := h.s3 l3 l4
      have hz := h.hsz
      have hb4 : ∀ o : Obj, Below V.heap.size V (V.alloc o) := fun o => (Below.refl _ V).alloc (Nat.le_refl _) o
      have hdN : d'.steps.length = N := by
        have h7 : d'.bare.steps.length = N := by rw [k3]; exact hcut
        rw [Md.blen] at h7
        exact h7
      have hbml := (Array.getElem?_eq_some_iff.1 n3).1
      have hmd : Md (V.alloc (.cells #[.string ⟨d'.name.toArray⟩, .string ⟨d'.text.toArray⟩, .slice d'.sa d'.steps.length d'.sc, .slice (some ⟨rb, 0, none⟩) N N, .map (some bm), .slice none 0 0, .slice none 0 0, .bool false, .int .u8 1] 123)) V.heap.size bm rb H (V.heap.size + 1) vs d' (.slice none 0 0) (.slice none 0 0) P33.S.new := {
        bx := (World.alloc_heap_new _ _).trans (by simp [P33.S.new, hdN]),
        mp := ⟨[], ⟨#[], 0, ((hb4 _).block bm hbml).trans n3, ⟨by simp, by simp⟩, rfl⟩, fun i u => rfl⟩,
        odn := OwnN.nil _ _,
        oun := OwnN.nil _ _,
        apart := fun g hg => (by cases hg),
        df := k2.below (hb4 _),
        dlt := fun g hg => by
          have q1 := k2.lt hg
          exact ⟨by omega, fun e => hs1' (e ▸ hg), by omega⟩,
        gr := by rw [k3, hrefc]; exact m2.below (hb4 _),
        glt := fun g hg => by
          rw [hdN] at hg
          have q1 := (m2.lt (by rw [hRSl]; exact hg)).2
          exact ⟨by omega, fun e => hs3' (e ▸ hg), by omega⟩,
        gb := by omega,
        gm := by omega,
        bne := by omega,
        bc := by omega,
        mc := by omega,
        cw := by simp,
        tr := fun i u => by simp [P33.S.new],
        nd := List.nodup_nil,
        dl := fun i hi => (by cases hi),
        ul := Nat.le_refl _,
        ne := fun e => hN0 (by rw [← hdN, e]; rfl),
        nle := by rw [hdN]; exact hnl }
      refine Oper.wp_mono (K := fun a2 w2 => a2 = ⟨#[.agg #[.string ⟨nm.toArray⟩, .string ⟨tx.toArray⟩, .slice sa N sc], .pointer (some ⟨H, 0, none⟩), v2, v3, .agg #[.string ⟨nm.toArray⟩, .string ⟨tx.toArray⟩, .slice sa N sc], .bool true, .bool false, (v7), (v8), (v9), (v10), (v11), ((.agg #[.string ⟨d'.name.toArray⟩, .string ⟨d'.text.toArray⟩, .slice d'.sa d'.steps.length d'.sc, .slice (some ⟨rb, 0, none⟩) N N, .map (some bm), .slice none 0 0, .slice none 0 0, .bool false, .int .u8 1])), (.pointer (some ⟨V.heap.size, 0, none⟩))], []⟩ ∧ w2 = V.alloc (.cells #[.string ⟨d'.name.toArray⟩, .string ⟨d'.text.toArray⟩, .slice d'.sa d'.steps.length d'.sc, .slice (some ⟨rb, 0, none⟩) N N, .map (some bm), .slice none 0 0, .slice none 0 0, .bool false, .int .u8 1] 123)) (fun a2 w2 he => ?_) (by simp [Oper.wp, go_sem])
      obtain ⟨rfl, rfl⟩ := he
      exact ⟨v2, v3, v7, v8, v9, v10, v11, _, _, d', rb, bm, vs, rfl, ⟨by simpa using h.sz, h.bel.trans ((hb4 _).mono (by omega)), Nat.le_trans hz (hb4 _).size, ((hb4 _).block H (by omega)).trans h.bx, fun q => h.f0 (so 0 (by omega) q), fun _ => ⟨k1, k2.below (hb4 _), k3, k4⟩, fun q => h.f2 (so 2 (by omega) q), fun _ => ⟨m1, m2.below (hb4 _), m3⟩, fun _ => ⟨n1, n2, ((hb4 _).block bm hbml).trans n3⟩, fun q r => h.s1 (so 1 (by omega) q) (so 4 (by omega) r), fun q r => h.s3 (so 3 (by omega) q) (so 4 (by omega) r), fun _ => rfl, fun _ => ⟨V.heap.size, rfl, hmd⟩, fun q => absurd (h.g7 (so 7 (by omega) q)) (by rw [hi2]; decide), fun q => h.f8 (so 8 (by omega) q), fun q => ⟨up 1 (h.g5 (so 5 (by omega) q)).1, up 3 (h.g5 (so 5 (by omega) q)).2.1, up 4 (h.g5 (so 5 (by omega) q)).2.2⟩, fun _ => up 5 l5, fun q => up 6 (h.g7 (so 7 (by omega) q))⟩⟩
    | 7, ho =>
      cases ho
      refine wpOp_of rfl rfl ?_
      have l6 := hdep ⟨6, .data⟩ (by simp) rfl
      refine Oper.wp_mono (K := fun a2 w2 => a2 = ⟨#[.agg #[.string ⟨nm.toArray⟩, .string ⟨tx.toArray⟩, .slice sa N sc], .pointer (some ⟨H, 0, none⟩), v13, v3, .agg #[.string ⟨nm.toArray⟩, .string ⟨tx.toArray⟩, .slice sa N sc], .bool true, .bool false, (v7), (v8), (v9), (v10), (v11), (v12), (v13)], []⟩ ∧ w2 = V) (fun a2 w2 he => ?_) (by simp [Oper.wp, go_sem])
      obtain ⟨rfl, rfl⟩ := he
      exact ⟨_, v3, v7, v8, v9, v10, v11, v12, v13, d', rb, bm, vs, rfl, ⟨by simpa using h.sz, h.bel, h.hsz, h.bx, fun q => h.f0 (so 0 (by omega) q), fun q => h.f1 (so 1 (by omega) q), fun q => h.f2 (so 2 (by omega) q), fun q => h.f3 (so 3 (by omega) q), fun q => h.f4 (so 4 (by omega) q), fun q r => h.s1 (so 1 (by omega) q) (so 4 (by omega) r), fun q r => h.s3 (so 3 (by omega) q) (so 4 (by omega) r), fun q => h.f5 (so 5 (by omega) q), fun q => h.f6 (so 6 (by omega) q), fun _ => rfl, fun q => h.f8 (so 8 (by omega) q), fun q => ⟨up 1 (h.g5 (so 5 (by omega) q)).1, up 3 (h.g5 (so 5 (by omega) q)).2.1, up 4 (h.g5 (so 5 (by omega) q)).2.2⟩, fun q => up 5 (h.g6 (so 6 (by omega) q)), fun _ => up 6 l6⟩⟩
    | 8, ho =>
      cases ho
      refine wpOp_of rfl rfl ?_
      refine Oper.wp_mono (K := fun a2 w2 => a2 = ⟨#[.agg #[.string ⟨nm.toArray⟩, .string ⟨tx.toArray⟩, .slice sa N sc], .pointer (some ⟨H, 0, none⟩), v2, .int .i64 0, .agg #[.string ⟨nm.toArray⟩, .string ⟨tx.toArray⟩, .slice sa N sc], .bool true, .bool false, (v7), (v8), (v9), (v10), (v11), (v12), (v13)], []⟩ ∧ w2 = V) (fun a2 w2 he => ?_) (by simp [Oper.wp, go_sem])
      obtain ⟨rfl, rfl⟩ := he
      exact ⟨v2, _, v7, v8, v9, v10, v11, v12, v13, d', rb, bm, vs, rfl, ⟨by simpa using h.sz, h.bel, h.hsz, h.bx, fun q => h.f0 (so 0 (by omega) q), fun q => h.f1 (so 1 (by omega) q), fun q => h.f2 (so 2 (by omega) q), fun q => h.f3 (so 3 (by omega) q), fun q => h.f4 (so 4 (by omega) q), fun q r => h.s1 (so 1 (by omega) q) (so 4 (by omega) r), fun q r => h.s3 (so 3 (by omega) q) (so 4 (by omega) r), fun q => h.f5 (so 5 (by omega) q), fun q => h.f6 (so 6 (by omega) q), fun q => h.f7 (so 7 (by omega) q), fun _ => rfl, fun q => ⟨up 1 (h.g5 (so 5 (by omega) q)).1, up 3 (h.g5 (so 5 (by omega) q)).2.1, up 4 (h.g5 (so 5 (by omega) q)).2.2⟩, fun q => up 5 (h.g6 (so 6 (by omega) q)), fun q => up 6 (h.g7 (so 7 (by omega) q))⟩⟩
    | n + 9, ho => simp at ho
  · rintro L a V ⟨v2, v3, v7, v8, v9, v10, v11, v12, v13, d', rb, bm, vs, rfl, h⟩ hall
    have al : ∀ i, i < 9 → L.getD i false = true := fun i hi => by
      have h1 := hall i
      have hs := h.sz
      simp only [Array.getD_eq_getD_getElem?] at h1 ⊢
      rw [Array.getElem?_eq_getElem (by omega)] at h1 ⊢
      exact h1
    obtain ⟨b, rfl, hmd⟩ := h.f6 (al 6 (by omega))
    obtain rfl := h.f7 (al 7 (by omega))
    obtain rfl := h.f8 (al 8 (by omega))
    have hend := And.intro (And.intro hmd (h.f1 (al 1 (by omega))).2.2.1) h.bel
    have HE := hide hend
    clear hend hmd h
    go_wp2
    exact bodyPost_ret (results_tmp2 rfl _ _ _) rfl ⟨b, bm, rb, b + 1, vs, d', rfl, (unhide HE).1, (unhide HE).2⟩
end Go.Proofs.YtefokfbgpfcbkaaGreat
namespace Go.Proofs.YtefokfbgpfcbkaaGreat
set_option linter.unusedVariables false
set_option linter.unusedSimpArgs false
open Go.RowKit
def st1 (l : Int) : PSt := { PSt.zero with name := [97], action := [120], undo := [117], limit := l }
def st2 (ga : Nat) (u : List UInt8) (l : Int) : PSt := { PSt.zero with name := [98], action := [121], undo := u, aa := some ⟨ga, 0, none⟩, ac := 1, after := [[97]], limit := l }
def df2 (g ga : Nat) (u : List UInt8) (l : Int) : PDef := ⟨[116], [], some ⟨g, 0, none⟩, 2, [st1 l, st2 ga u l]⟩
theorem nt_ok2 : okT PSt.zero.note.bare := ⟨Nat.zero_le _, Nat.zero_le _, (fun x hx => nomatch hx), Nat.zero_le _, trivial⟩
theorem st1_in (l : Int) (W : World) : (st1 l).In W := ⟨fun i x h => by simp [st1, PSt.zero] at h, Nat.le_refl _, Nat.zero_le _, Nd.zero_in W⟩
theorem st2_in {W : World} {ga : Nat} {u : List UInt8} {l : Int} (h : W.heap[ga]? = some (.cells #[.string ⟨#[97]⟩] 9)) : (st2 ga u l).In W where
  keys := fun i x hx => by
    match i, hx with
    | 0, hx =>
      cases (show some [97] = some x from hx)
      exact ⟨ga, 0, rfl, (cell1 h).1⟩
  len := Nat.le_refl _
  cap := by show 1 ≤ maxLen; unfold maxLen; omega
  note := Nd.zero_in W
theorem df2_in {W : World} {g ga : Nat} {u : List UInt8} {l : Int} (h : W.heap[g]? = some (.cells ((st1 l).cs ++ (st2 ga u l).cs).toArray 63)) (h2 : W.heap[ga]? = some (.cells #[.string ⟨#[97]⟩] 9)) : (df2 g ga u l).In W where
  steps := fun j s hj => by
    match j, hj with
    | 0, hj =>
      cases (show some (st1 l) = some s from hj)
      refine ⟨⟨g, 0, rfl, fun k v hk => ?_⟩, st1_in l W⟩
      have hk13 : k < 13 := (List.getElem?_eq_some_iff.1 hk).1
      simp only [Nat.zero_mul, Nat.zero_add, Nat.add_zero]
      simp only [World.cell?, h, Option.bind_some]
      refine (List.getElem?_toArray ..).trans ?_
      rw [List.getElem?_append_left (by show k < 13; exact hk13)]
      exact hk
    | 1, hj =>
      cases (show some (st2 ga u l) = some s from hj)
      refine ⟨⟨g, 0, rfl, fun k v hk => ?_⟩, st2_in h2⟩
      simp only [Nat.one_mul, Nat.zero_add]
      simp only [World.cell?, h, Option.bind_some]
      refine (List.getElem?_toArray ..).trans ?_
      rw [List.getElem?_append_right (by show 13 ≤ 13 + k; omega)]
      have e : 13 + k - (st1 l).cs.length = k := by show 13 + k - 13 = k; omega
      rw [e]
      exact hk
  len := Nat.le_refl _
  cap := by show 2 ≤ maxLen; unfold maxLen; omega
theorem two_mem {α : Type} {a b x : α} (h : x ∈ [a, b]) : x = a ∨ x = b := by simpa using h
theorem df2_ok (g ga : Nat) (u : List UInt8) (l : Int) (hu : u.length ≤ 1) : (df2 g ga u l).ok where
  fit := ⟨by show 2 ≤ 100000; omega, by show 1 ≤ maxLen; unfold maxLen; omega, fun s hs => by
    rcases two_mem (show s ∈ [st1 l, st2 ga u l] from hs) with rfl | rfl
    · exact ⟨by show 1 ≤ maxLen; unfold maxLen; omega, by show 1 ≤ maxLen; unfold maxLen; omega, by show 1 ≤ maxLen; unfold maxLen; omega⟩
    · exact ⟨by show 1 ≤ maxLen; unfold maxLen; omega, by show 1 ≤ maxLen; unfold maxLen; omega, by show u.length ≤ maxLen; unfold maxLen; omega⟩, fun s hs => by
    rcases two_mem (show s ∈ [st1 l, st2 ga u l] from hs) with rfl | rfl
    · exact Nat.zero_le _
    · show 1 ≤ _; omega⟩
  short := ⟨by show 1 ≤ 1000000; omega, Nat.zero_le _, by show 2 ≤ 100000; omega, fun s hs => by
    rcases two_mem (show s ∈ [st1 l, st2 ga u l] from hs) with rfl | rfl
    · exact ⟨by show 1 ≤ 1000000; omega, by show 1 ≤ 1000000; omega, by show 1 ≤ 1000000; omega, (fun x hx => nomatch hx), Nat.zero_le _, nt_ok2⟩
    · exact ⟨by show 1 ≤ 1000000; omega, by show 1 ≤ 1000000; omega, by show u.length ≤ 1000000; omega, (fun x hx => by
        have hx : x ∈ [[97]] := hx
        rw [List.mem_singleton] at hx
        subst hx
        show 1 ≤ 1000000; omega), by show 1 ≤ _; omega, nt_ok2⟩⟩
theorem df2_cp (g ga : Nat) (u : List UInt8) (l : Int) : (df2 g ga u l).cp :=
  ⟨by show 2 ≤ 100000; omega, (fun h => nomatch h), fun s hs => by
    rcases two_mem (show s ∈ [st1 l, st2 ga u l] from hs) with rfl | rfl
    · exact Nat.zero_le _
    · show 1 ≤ _; omega, fun s hs => by
    rcases two_mem (show s ∈ [st1 l, st2 ga u l] from hs) with rfl | rfl <;> exact nt_ok2⟩
set_option maxRecDepth 100000 in
set_option maxHeartbeats 2000000 in
theorem pair33_any (w : World) : Calls Tryz.prog 65 #[] w fun e w' => ∃ g ga, e = .returned (df2 g ga [] 0).val ∧ (df2 g ga [] 0).In w' ∧ Below w.heap.size w w' := by
  obtain ⟨H, hH⟩ : ∃ H, w.heap.size = H := ⟨_, rfl⟩
  rw [hH]
  obtain ⟨W, hW, hb, g0, g1, g2, hs⟩ := new3 w (.cells #[.string ⟨#[116]⟩, .string ⟨#[]⟩, .slice (some ⟨H + 1 + 1, 0, none⟩) 2 2] 24) (.cells #[.string ⟨#[97]⟩] 9) (.cells #[.string ⟨#[97]⟩, .string ⟨#[120]⟩, .string ⟨#[117]⟩, .slice none 0 0, .int .i64 0, .int .i64 0, .int .i64 0, .int .i64 0, .int .u8 0, .string ⟨#[]⟩, .slice none 0 0, .slice none 0 0, .int .i64 0, .string ⟨#[98]⟩, .string ⟨#[121]⟩, .string ⟨#[]⟩, .slice (some ⟨H + 1, 0, none⟩) 1 1, .int .i64 0, .int .i64 0, .int .i64 0, .int .i64 0, .int .u8 0, .string ⟨#[]⟩, .slice none 0 0, .slice none 0 0, .int .i64 0] 63) H hH
  have hin : (df2 (H + 1 + 1) (H + 1) [] 0).In W := df2_in g2 g1
  have HIN := hide hin
  have HW := hide hW
  have HB := hide hb
  clear hW hb g1 g2 hin
  go_enter Tryz.func65, Tryz.ntmps65
  go_upto_region 1 with fail
  try rw [hH]
  go_wp2
  rw [unhide HW]
  refine bodyPost_ret (results_c1 rfl _ _ _ H _ rfl (cellDef g0)) rfl ?_
  exact ⟨H + 1 + 1, H + 1, rfl, unhide HIN, unhide HB⟩
structure MdX (w : World) (b : Nat) (D : P22.Def) (s : P33.S) (V : World) : Prop where
  ex : ∃ (bm rb C : Nat) (vs : Nat → Value) (d : PDef) (dn un : Value), Md V b bm rb w.heap.size C vs d dn un s ∧ d.bare = D
  inv : P33.Inv D s
  bel : Below w.heap.size w V
namespace MdX
variable {w V : World} {b : Nat} {D : P22.Def} {s : P33.S}
theorem below {V' : World} (h : MdX w b D s V) (hb : Below V.heap.size V V') : MdX w b D s V' := by
  obtain ⟨⟨bm, rb, C, vs, d, dn, un, h1, h2⟩, h3, h4⟩ := h
  exact ⟨⟨bm, rb, C, vs, d, dn, un, h1.below hb, h2⟩, h3, h4.trans (hb.mono h4.size)⟩
theorem asks (h : MdX w b D s V) (o : P33.Order) (til : Int) : Calls Tryz.prog 16 #[.pointer (some ⟨b, 0, none⟩), .agg #[.int .i64 o.step, .int .i64 o.attempt, .bool o.undo, .int .i64 til]] V fun e V' => e = .returned (.int .i64 (P33.asks D s o).1) ∧ MdX w b D (P33.asks D s o).2 V' := by
  obtain ⟨⟨bm, rb, C, vs, d, dn, un, h1, rfl⟩, h3, h4⟩ := h
  refine (Asks_any o til V h1).mono ?_
  rintro e V' ⟨rfl, h5, h6⟩
  exact ⟨rfl, ⟨bm, rb, C, vs, d, dn, un, h5, rfl⟩, P33.inv_asks h3 o, h4.trans (h1.belowG h6)⟩
theorem says (h : MdX w b D s V) (a : P33.Ans) : Calls Tryz.prog 18 #[.pointer (some ⟨b, 0, none⟩), .agg #[.int .i64 a.step, .int .i64 a.attempt, .bool a.undo, .int .u8 a.outcome]] V fun e V' => e = .returned (.int .i64 (P33.says D s a).1) ∧ MdX w b D (P33.says D s a).2 V' := by
  obtain ⟨⟨bm, rb, C, vs, d, dn, un, h1, rfl⟩, h3, h4⟩ := h
  refine (Says_any a V h1 h3).mono ?_
  rintro e V' ⟨rfl, ⟨dn2, un2, h5, _⟩, h6⟩
  exact ⟨rfl, ⟨bm, rb, C, vs, d, dn2, un2, h5, rfl⟩, P33.inv_says h3 a, h4.trans (h1.belowG h6)⟩
theorem ends (h : MdX w b D s V) (st : Nat) : Calls Tryz.prog 22 #[.pointer (some ⟨b, 0, none⟩), .int .u8 st] V fun e V' => e = .returned (.int .i64 (P33.ends D s st).1) ∧ MdX w b D (P33.ends D s st).2 V' := by
  obtain ⟨⟨bm, rb, C, vs, d, dn, un, h1, rfl⟩, h3, h4⟩ := h
  refine (Ends_any st V h1).mono ?_
  rintro e V' ⟨rfl, h5, h6⟩
  have h7 : P33.Inv d.bare (P33.act d.bare s ⟨3, ⟨0, 0, false⟩, ⟨0, 0, false, 0⟩, st⟩).2 := P33.inv_act h3 _
  exact ⟨rfl, ⟨bm, rb, C, vs, d, dn, un, h5, rfl⟩, h7, h4.trans (h1.belowG h6)⟩
theorem halts (h : MdX w b D s V) : Calls Tryz.prog 20 #[.pointer (some ⟨b, 0, none⟩)] V fun e V' => e = .returned (.int .i64 (P33.halts s).1) ∧ MdX w b D (P33.halts s).2 V' := by
  obtain ⟨⟨bm, rb, C, vs, d, dn, un, h1, rfl⟩, h3, h4⟩ := h
  have h7 : P33.Inv d.bare (P33.act d.bare s ⟨2, ⟨0, 0, false⟩, ⟨0, 0, false, 0⟩, 0⟩).2 := P33.inv_act h3 _
  have h7 : P33.Inv d.bare (P33.halts s).2 := h7
  obtain ⟨c8, f8⟩ := h1.cells.2.2.2.2.2.2
  refine (Halts_any b s.status V c8 f8).mono ?_
  intro e V' he
  unfold P33.halts at h7 ⊢
  by_cases hs : s.status = 1
  · rw [if_pos (by omega)] at he
    obtain ⟨rfl, rfl⟩ := he
    rw [if_neg (by omega)] at h7 ⊢
    exact ⟨rfl, ⟨bm, rb, C, vs, d, dn, un, h1.setBox 8 (md_set8 h1.bx 2) rfl rfl rfl, rfl⟩, h7, h4.setCell (p := ⟨b, 8, none⟩) h1.gb _⟩
  · rw [if_neg (by omega)] at he
    obtain ⟨rfl, rfl⟩ := he
    rw [if_pos hs] at h7 ⊢
    exact ⟨rfl, ⟨bm, rb, C, vs, d, dn, un, h1, rfl⟩, h3, h4⟩
theorem turn (h : MdX w b D s V) : Calls Tryz.prog 24 #[.pointer (some ⟨b, 0, none⟩)] V fun e V' => e = .returned (.tuple #[.int .i64 ((P33.turn D s).getD 0 : Nat), .bool (P33.turn D s).isSome]) ∧ MdX w b D s V' := by
  obtain ⟨⟨bm, rb, C, vs, d, dn, un, h1, rfl⟩, h3, h4⟩ := h
  refine h1.turn.mono ?_
  rintro e V' ⟨rfl, h6⟩
  exact ⟨rfl, ⟨bm, rb, C, vs, d, dn, un, h1.below h6, rfl⟩, h3, h4.trans (h6.mono h4.size)⟩
theorem status (h : MdX w b D s V) : Calls Tryz.prog 25 #[.pointer (some ⟨b, 0, none⟩)] V fun e V' => e = .returned (.int .u8 s.status) ∧ V' = V := by
  obtain ⟨⟨bm, rb, C, vs, d, dn, un, h1, rfl⟩, h3, h4⟩ := h
  exact Status_any b s.status V h1.cells.2.2.2.2.2.2.1
theorem iv_of {v : Value} {l : List Nat} {B : Nat} (h : OwnN V B v l) : Iv V v (l.map fun k : Nat => (k : Int)) := by
  obtain ⟨a, c, rfl, q1, q2, h2⟩ := h.slice
  refine ⟨a, c, by simp, ⟨by simpa using q1, q2⟩, fun j z hj => ?_⟩
  rw [List.getElem?_map] at hj
  cases hk : l[j]? with
  | none => rw [hk] at hj; cases hj
  | some k =>
    rw [hk] at hj
    simp only [Option.map_some, Option.some.injEq] at hj
    subst hj
    obtain ⟨b, o, e, hc⟩ := h2 j k hk
    exact ⟨b, o, e, hc⟩
theorem undone (h : MdX w b D s V) : Calls Tryz.prog 28 #[.pointer (some ⟨b, 0, none⟩)] V fun e V' => ∃ v', e = .returned v' ∧ Iv V' v' (s.undone.map fun k : Nat => (k : Int)) ∧ MdX w b D s V' ∧ Below V.heap.size V V' := by
  have hx := h
  obtain ⟨⟨bm, rb, C, vs, d, dn, un, h1, rfl⟩, h3, h4⟩ := h
  refine (Undone_any b un _ V h1.cells.2.2.2.2.1.1 (iv_of h1.oun) (by have := h1.ulen; have := h1.nle; simp; omega)).mono ?_
  rintro e V' ⟨v', rfl, h6, h7⟩
  exact ⟨v', rfl, h6, hx.below h7, h7⟩
theorem new (d : PDef) (w : World) (hin : d.In w) (hok : d.ok) (hcp : d.cp) (hc : P28.clean d.bare = true) (haf : ∀ s ∈ d.steps, s.after.length ≤ 1000000) : Calls Tryz.prog 13 #[d.val] w fun e w' => ∃ b, e = .returned (.tuple #[.pointer (some ⟨b, 0, none⟩), .int .i64 0]) ∧ MdX w b (cutD d.bare) P33.S.new w' := by
  refine (New_good d w hin hok hcp hc haf).mono ?_
  rintro e w' ⟨b, bm, rb, C, vs, d', rfl, ⟨h1, h2⟩, h3⟩
  exact ⟨b, rfl, ⟨bm, rb, C, vs, d', _, _, h1, h2⟩, P33.inv_new _, h3⟩
end MdX
theorem Asks_nil (args : Value) (w : World) (ha : ∃ a b c d, args = .agg #[a, b, c, d]) : Calls Tryz.prog 16 #[.pointer none, args] w fun e w' => e = .returned (.int .i64 13) ∧ Below w.heap.size w w' := by
  obtain ⟨x0, x1, x2, x3, rfl⟩ := ha
  have hst := fun V => Status_nil V
  have hmv : ∀ V, Calls Tryz.prog 71 #[.pointer none] V fun e w' => e = .returned (.bool false) ∧ w' = V := fun V => by
    go_enter Tryz.func71, Tryz.ntmps71
    go_wp2_with (go_at_call 25; refine (hst _).mono ?_; rintro e w' ⟨rfl, hw⟩; have hw := hw.symm; subst hw)
    go_ret
    exact ⟨rfl, rfl⟩
  go_enter Tryz.func16, Tryz.ntmps16
  go_wp2_with (go_at_call 71; refine (hmv _).mono ?_; rintro e w' ⟨rfl, hw⟩; have hw := hw.symm; subst hw)
  go_ret
  exact ⟨rfl, (Below.refl _ w).alloc (Nat.le_refl _) _⟩
theorem Halts_nil (w : World) : Calls Tryz.prog 20 #[.pointer none] w fun e w' => e = .returned (.int .i64 13) ∧ w' = w := by
  have hst := fun V => Status_nil V
  go_enter Tryz.func20, Tryz.ntmps20
  go_wp2_with (go_at_call 25; refine (hst _).mono ?_; rintro e w' ⟨rfl, hw⟩; have hw := hw.symm; subst hw)
  go_ret
  exact ⟨rfl, rfl⟩
end Go.Proofs.YtefokfbgpfcbkaaGreat
namespace Go.Proofs.YtefokfbgpfcbkaaGreat
set_option linter.unusedVariables false
set_option linter.unusedSimpArgs false
open Go.RowKit
namespace Lv33
def D : P22.Def := cutD (df2 0 0 [] 0).bare
theorem D_eq (g ga : Nat) : cutD (df2 g ga [] 0).bare = D := rfl
theorem clean (g ga : Nat) : P28.clean (df2 g ga [] 0).bare = true := by kernel_rfl
def s0 : P33.S := P33.S.new
theorem a0 : P33.asks D s0 ⟨0, 1, true⟩ = (8, s0) := by kernel_rfl
theorem b0 : P33.asks D s0 ⟨1, 1, false⟩ = (8, s0) := by kernel_rfl
theorem c0 : P33.asks D s0 ⟨0, 2, false⟩ = (3, s0) := by kernel_rfl
def s1 : P33.S := (P33.asks D s0 ⟨0, 1, false⟩).2
theorem d0 : (P33.asks D s0 ⟨0, 1, false⟩).1 = 0 := by kernel_rfl
def s2 : P33.S := (P33.says D s1 ⟨0, 1, false, 0⟩).2
theorem e1 : (P33.says D s1 ⟨0, 1, false, 0⟩).1 = 0 := by kernel_rfl
theorem f2 : P33.ends D s2 3 = (8, s2) := by kernel_rfl
def s3 : P33.S := (P33.halts s2).2
theorem g2 : (P33.halts s2).1 = 0 := by kernel_rfl
theorem t3 : P33.turn D s3 = some 0 := by kernel_rfl
def s4 : P33.S := (P33.asks D s3 ⟨0, 1, true⟩).2
theorem h3 : (P33.asks D s3 ⟨0, 1, true⟩).1 = 0 := by kernel_rfl
def s5 : P33.S := (P33.says D s4 ⟨0, 1, true, 0⟩).2
theorem i4 : (P33.says D s4 ⟨0, 1, true, 0⟩).1 = 0 := by kernel_rfl
def s6 : P33.S := (P33.ends D s5 4).2
theorem j5 : (P33.ends D s5 4).1 = 0 := by kernel_rfl
theorem st6 : s6.status = 4 := by kernel_rfl
theorem un6 : s6.undone = [0] := by kernel_rfl
variable {w V : World} {b : Nat}
theorem ka (h : MdX w b D s0 V) : Calls Tryz.prog 16 #[.pointer (some ⟨b, 0, none⟩), .agg #[.int .i64 0, .int .i64 1, .bool true, .int .i64 0]] V fun e V' => e = .returned (.int .i64 8) ∧ MdX w b D s0 V' := by
  have := h.asks ⟨0, 1, true⟩ 0
  rw [a0] at this
  exact this
theorem kb (h : MdX w b D s0 V) : Calls Tryz.prog 16 #[.pointer (some ⟨b, 0, none⟩), .agg #[.int .i64 1, .int .i64 1, .bool false, .int .i64 0]] V fun e V' => e = .returned (.int .i64 8) ∧ MdX w b D s0 V' := by
  have := h.asks ⟨1, 1, false⟩ 0
  rw [b0] at this
  exact this
theorem kc (h : MdX w b D s0 V) : Calls Tryz.prog 16 #[.pointer (some ⟨b, 0, none⟩), .agg #[.int .i64 0, .int .i64 2, .bool false, .int .i64 0]] V fun e V' => e = .returned (.int .i64 3) ∧ MdX w b D s0 V' := by
  have := h.asks ⟨0, 2, false⟩ 0
  rw [c0] at this
  exact this
theorem kd (h : MdX w b D s0 V) : Calls Tryz.prog 16 #[.pointer (some ⟨b, 0, none⟩), .agg #[.int .i64 0, .int .i64 1, .bool false, .int .i64 0]] V fun e V' => e = .returned (.int .i64 0) ∧ MdX w b D s1 V' := by
  have := h.asks ⟨0, 1, false⟩ 0
  rw [d0] at this
  exact this
theorem ke (h : MdX w b D s1 V) : Calls Tryz.prog 18 #[.pointer (some ⟨b, 0, none⟩), .agg #[.int .i64 0, .int .i64 1, .bool false, .int .u8 0]] V fun e V' => e = .returned (.int .i64 0) ∧ MdX w b D s2 V' := by
  have := h.says ⟨0, 1, false, 0⟩
  rw [e1] at this
  exact this
theorem kf (h : MdX w b D s2 V) : Calls Tryz.prog 22 #[.pointer (some ⟨b, 0, none⟩), .int .u8 3] V fun e V' => e = .returned (.int .i64 8) ∧ MdX w b D s2 V' := by
  have := h.ends 3
  rw [f2] at this
  exact this
theorem kg (h : MdX w b D s2 V) : Calls Tryz.prog 20 #[.pointer (some ⟨b, 0, none⟩)] V fun e V' => e = .returned (.int .i64 0) ∧ MdX w b D s3 V' := by
  have := h.halts
  rw [g2] at this
  exact this
theorem kt (h : MdX w b D s3 V) : Calls Tryz.prog 24 #[.pointer (some ⟨b, 0, none⟩)] V fun e V' => e = .returned (.tuple #[.int .i64 0, .bool true]) ∧ MdX w b D s3 V' := by
  have := h.turn
  rw [t3] at this
  exact this
theorem kh (h : MdX w b D s3 V) : Calls Tryz.prog 16 #[.pointer (some ⟨b, 0, none⟩), .agg #[.int .i64 0, .int .i64 1, .bool true, .int .i64 0]] V fun e V' => e = .returned (.int .i64 0) ∧ MdX w b D s4 V' := by
  have := h.asks ⟨0, 1, true⟩ 0
  rw [h3] at this
  exact this
theorem ki (h : MdX w b D s4 V) : Calls Tryz.prog 18 #[.pointer (some ⟨b, 0, none⟩), .agg #[.int .i64 0, .int .i64 1, .bool true, .int .u8 0]] V fun e V' => e = .returned (.int .i64 0) ∧ MdX w b D s5 V' := by
  have := h.says ⟨0, 1, true, 0⟩
  rw [i4] at this
  exact this
theorem kj (h : MdX w b D s5 V) : Calls Tryz.prog 22 #[.pointer (some ⟨b, 0, none⟩), .int .u8 4] V fun e V' => e = .returned (.int .i64 0) ∧ MdX w b D s6 V' := by
  have := h.ends 4
  rw [j5] at this
  exact this
theorem ks (h : MdX w b D s6 V) : Calls Tryz.prog 25 #[.pointer (some ⟨b, 0, none⟩)] V fun e V' => e = .returned (.int .u8 4) ∧ V' = V := by
  have := h.status
  rw [st6] at this
  exact this
theorem ku (h : MdX w b D s6 V) : Calls Tryz.prog 28 #[.pointer (some ⟨b, 0, none⟩)] V fun e V' => ∃ a c, e = .returned (.slice a 1 c) ∧ MdX w b D s6 V' := by
  refine h.undone.mono ?_
  rintro e V' ⟨v, rfl, ⟨a, c, rfl, _, _⟩, h2, _⟩
  rw [un6]
  exact ⟨a, c, rfl, h2⟩
end Lv33
theorem zero_ok33 : PDef.zero.ok where
  fit := ⟨Nat.zero_le _, Nat.zero_le _, (fun s hs => nomatch hs), (fun s hs => nomatch hs)⟩
  short := ⟨Nat.zero_le _, Nat.zero_le _, Nat.zero_le _, (fun s hs => nomatch hs)⟩
theorem new_zero33 (w : World) : Calls Tryz.prog 13 #[.agg #[.string ⟨#[]⟩, .string ⟨#[]⟩, .slice none 0 0]] w fun e w' => e = .returned (.tuple #[.pointer none, .int .i64 3]) ∧ Below w.heap.size w w' :=
  New_bad PDef.zero w (PDef.zero_in w) zero_ok33 (by kernel_rfl)
set_option maxRecDepth 100000 in
set_option maxHeartbeats 8000000 in
theorem live33_any (w : World) : Calls Tryz.prog 11 #[] w fun e w' => e = .returned (.bool true) ∧ Below w.heap.size w w' := by
  have hpr := pair33_any w
  have HPR := hide hpr
  clear hpr
  go_enter Tryz.func11, Tryz.ntmps11
  go_upto_region 2 with (first | (go_at_call 65; refine (unhide HPR).mono ?_; rintro e W1 ⟨g, ga, rfl, hin, hb1⟩) | (go_at_call 13; refine (MdX.new (df2 g ga [] 0) _ hin (df2_ok g ga [] 0 (Nat.zero_le _)) (df2_cp g ga [] 0) (Lv33.clean g ga) (fun s hs => by rcases two_mem (show s ∈ [st1 0, st2 ga [] 0] from hs) with rfl | rfl; exact Nat.zero_le _; show 1 ≤ _; omega)).mono ?_; rintro e W2 ⟨b, rfl, hm⟩))
  rw [Lv33.D_eq] at hm
  have HM := hide hm
  have HB1 := hide hb1
  clear hm hin hb1
  go_upto_region 3 with (go_at_call 13; refine (new_zero33 _).mono ?_; rintro e W3 ⟨rfl, hb3⟩)
  have H3 := hide ((unhide HM).below hb3)
  clear hb3 HM
  go_upto_region 6 with (go_at_call 16; refine (Lv33.ka (unhide H3)).mono ?_; rintro e W4 ⟨rfl, h4⟩)
  have H4 := hide h4
  clear h4 H3
  go_upto_region 7 with (go_at_call 16; refine (Lv33.kb (unhide H4)).mono ?_; rintro e W5 ⟨rfl, h5⟩)
  have H5 := hide h5
  clear h5 H4
  go_upto_region 8 with (go_at_call 16; refine (Lv33.kc (unhide H5)).mono ?_; rintro e W6 ⟨rfl, h6⟩)
  have H6 := hide h6
  clear h6 H5
  go_upto_region 9 with (go_at_call 16; refine (Lv33.kd (unhide H6)).mono ?_; rintro e W7 ⟨rfl, h7⟩)
  have H7 := hide h7
  clear h7 H6
  go_upto_region 10 with (go_at_call 18; refine (Lv33.ke (unhide H7)).mono ?_; rintro e W8 ⟨rfl, h8⟩)
  have H8 := hide h8
  clear h8 H7
  go_upto_region 11 with (go_at_call 22; refine (Lv33.kf (unhide H8)).mono ?_; rintro e W9 ⟨rfl, h9⟩)
  have H9 := hide h9
  clear h9 H8
  go_upto_region 12 with (go_at_call 20; refine (Lv33.kg (unhide H9)).mono ?_; rintro e W10 ⟨rfl, h10⟩)
  have H10 := hide h10
  clear h10 H9
  go_upto_region 13 with (go_at_call 24; refine (Lv33.kt (unhide H10)).mono ?_; rintro e W11 ⟨rfl, h11⟩)
  have H11 := hide h11
  clear h11 H10
  go_upto_region 14 with (go_at_call 16; refine (Lv33.kh (unhide H11)).mono ?_; rintro e W12 ⟨rfl, h12⟩)
  have H12 := hide h12
  clear h12 H11
  go_upto_region 15 with (go_at_call 18; refine (Lv33.ki (unhide H12)).mono ?_; rintro e W13 ⟨rfl, h13⟩)
  have H13 := hide h13
  clear h13 H12
  go_upto_region 16 with (go_at_call 22; refine (Lv33.kj (unhide H13)).mono ?_; rintro e W14 ⟨rfl, h14⟩)
  have H14 := hide h14
  clear h14 H13
  go_wp2_with (first
    | (go_at_call 28; refine (Lv33.ku (unhide H14)).mono ?_; rintro e W15 ⟨ua, uc, rfl, h15⟩)
    | (go_at_call 16; refine (Asks_nil _ _ ⟨_, _, _, _, rfl⟩).mono ?_; rintro e W16 ⟨rfl, h16⟩)
    | (go_at_call 20; refine (Halts_nil _).mono ?_; rintro e w' ⟨rfl, hw⟩; have hw := hw.symm; subst hw)
    | (go_at_call 25; first | (with_reducible refine (Status_nil _).mono ?_; rintro e w' ⟨rfl, hw⟩; have hw := hw.symm; subst hw) | (with_reducible refine (Lv33.ks (unhide H14)).mono ?_; rintro e w' ⟨rfl, hw⟩; have hw := hw.symm; subst hw)))
  go_ret
  have h17 := h15.bel.trans (h16.mono h15.bel.size)
  exact ⟨rfl, (unhide HB1).trans (h17.mono (unhide HB1).size)⟩
end Go.Proofs.YtefokfbgpfcbkaaGreat
