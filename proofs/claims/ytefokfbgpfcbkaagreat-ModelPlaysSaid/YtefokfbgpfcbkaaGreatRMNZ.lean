/- Lemmas of this claim (a part of its texts, kept as far as the claim reaches them). -/
import Derived.Test.YtefokfbgpfcbkaaGreatRM7Z
import Derived.Test.YtefokfbgpfcbkaaGreatM33zZ
namespace Go.Proofs.YtefokfbgpfcbkaaGreat
set_option linter.unusedVariables false
set_option linter.unusedSimpArgs false
open Go.RowKit
structure Fr (H : Nat) (L : Array Bool) (n : Nat) (B : Nat → Nat → Prop) : Prop where
  ap : ∀ k k' g, k ≠ k' → L.getD k false = true → L.getD k' false = true → B k g → ¬ B k' g
  lt : ∀ k g, L.getD k false = true → B k g → H ≤ g ∧ g < n
theorem Fr.add {H n n' i : Nat} {L : Array Bool} {B : Nat → Nat → Prop} (h : Fr H L n B) (hn : n ≤ n') (hH : H ≤ n) (P : Nat → Prop) (hP : ∀ g, P g → n ≤ g ∧ g < n') : Fr H (L.setIfInBounds i true) n' (fun k g => if k = i then P g else B k g) := by
  refine ⟨fun k k' g hne q q' h1 h2 => ?_, fun k g q h1 => ?_⟩
  · by_cases e : k = i
    · by_cases e' : k' = i
      · exact hne (e.trans e'.symm)
      · rw [if_pos e] at h1
        rw [if_neg e'] at h2
        have a := hP g h1
        have b := h.lt k' g (set_other33 e' q') h2
        omega
    · rw [if_neg e] at h1
      by_cases e' : k' = i
      · rw [if_pos e'] at h2
        have a := hP g h2
        have b := h.lt k g (set_other33 e q) h1
        omega
      · rw [if_neg e'] at h2
        exact h.ap k k' g hne (set_other33 e q) (set_other33 e' q') h1 h2
  · by_cases e : k = i
    · rw [if_pos e] at h1
      have := hP g h1
      omega
    · rw [if_neg e] at h1
      have := h.lt k g (set_other33 e q) h1
      omega
theorem rowsB_lt {W : World} {B n rc : Nat} {ra : Option Addr} {vs : List Value} {RS : List (List Nat)} (h : RowsN W B (.slice ra n rc) vs RS) {g : Nat} (hg : rowsB ra vs g) : B ≤ g ∧ g < W.heap.size := by
  rcases hg with ⟨o, rfl⟩ | ⟨u, hu, hg⟩
  · exact own_block_lt h.own g rfl
  · obtain ⟨i, hi⟩ := List.mem_iff_getElem?.1 hu
    obtain ⟨l, _, ho⟩ := h.at hi
    exact ho.lt hg
structure RJ (w : World) (H : Nat) (dv : Value) (dc : Array Value) (nm tx : List UInt8) (sa : Option Addr) (sc : Nat) (ss : List PSt) (N : Nat) (RS : List (List Nat)) (L : Array Bool) (V : World) (t u o p : Nat) (ra : Option Addr) (rc : Nat) (vs : List Value) (B : Nat → Nat → Prop) (v2 v7 v8 v9 v10 v11 v12 v13 v14 v15 v16 v17 v18 v19 : Value) : Prop where
  sz : L.size = 14
  bel : Below H w V
  hsz : H + 1 ≤ V.heap.size
  bx : V.heap[H]? = some (.cells dc 24)
  fr : Fr (H + 1) L V.heap.size B
  f0 : L.getD 0 false = true → v7 = dv
  f1 : L.getD 1 false = true → v8 = dv
  f2 : L.getD 2 false = true → v9 = .slice ra N rc ∧ RowsN V (H + 1) (.slice ra N rc) vs RS ∧ ∀ g, rowsB ra vs g → B 2 g
  f3 : L.getD 3 false = true → v10 = .int .i64 (N : Int)
  f4 : L.getD 4 false = true → v11 = .slice (some ⟨t, 0, none⟩) N N ∧ V.rowIs t 3 N (fun _ => .int .i64 0) ∧ B 4 t
  f5 : L.getD 5 false = true → v12 = .int .i64 (N : Int)
  f6 : L.getD 6 false = true → v13 = .slice (some ⟨u, 0, none⟩) N N ∧ V.rowIs u 3 N (fun _ => .int .i64 0) ∧ B 6 u
  f7 : L.getD 7 false = true → v14 = .int .i64 (N : Int)
  f8 : L.getD 8 false = true → v15 = .slice (some ⟨o, 0, none⟩) N N ∧ V.rowIs o 4 N (fun _ => .bool false) ∧ B 8 o
  f9 : L.getD 9 false = true → v16 = .int .i64 (N : Int)
  f10 : L.getD 10 false = true → v17 = .slice (some ⟨p, 0, none⟩) N N ∧ V.rowIs p 4 N (fun _ => .bool false) ∧ B 10 p
  f11 : L.getD 11 false = true → v18 = .agg #[.string ⟨nm.toArray⟩, .string ⟨tx.toArray⟩, .slice sa N sc, .slice ra N rc, .slice (some ⟨t, 0, none⟩) N N, .slice (some ⟨u, 0, none⟩) N N, .slice (some ⟨o, 0, none⟩) N N, .slice (some ⟨p, 0, none⟩) N N, .slice none 0 0, .slice none 0 0, .bool false, .int .u8 1]
  f12 : L.getD 12 false = true → ∃ b, v19 = .pointer (some ⟨b, 0, none⟩) ∧ RM ⟨nm, tx, sa, sc, ss⟩ (H + 1) V b t u o p ra rc vs (.slice none 0 0) (.slice none 0 0) P33.S.new
  f13 : L.getD 13 false = true → v2 = v19
  g11 : L.getD 11 false = true → L.getD 0 false = true ∧ L.getD 2 false = true ∧ L.getD 4 false = true ∧ L.getD 6 false = true ∧ L.getD 8 false = true ∧ L.getD 10 false = true
  g12 : L.getD 12 false = true → L.getD 11 false = true
  g13 : L.getD 13 false = true → L.getD 12 false = true
set_option maxRecDepth 100000 in
set_option maxHeartbeats 8000000 in
theorem RNew_any (d : PDef) (w : World) (hin : d.In w) (hl : d.steps.length ≤ 100000) (haf : ∀ s ∈ d.steps, s.after.length ≤ 1000000) : Calls Tryz.prog 15 #[d.val] w fun e w' =>
    ∃ (b : Nat) (M R : Nat → Prop), e = .returned (.pointer (some ⟨b, 0, none⟩)) ∧ RMX d (w.heap.size + 1) b P33.S.new M R w' ∧ (∀ g, M g ∨ R g → w.heap.size + 1 ≤ g) ∧ Below w.heap.size w w' := by
  obtain ⟨H, hH⟩ : ∃ H, w.heap.size = H := ⟨_, rfl⟩
  rw [hH]
  obtain ⟨W1, hW1, hb1, g0, hs1⟩ := new1 w (defO d) H hH
  have hinV : ∀ V, Below H w V → d.In V := fun V hV => hin.below (by rw [hH]; exact hV)
  have hrefs := fun V (hV : Below H w V) => RRefs_any d V (hinV V hV) hl haf
  have hdlt : ∀ g, d.blk g → g < H + 1 := fun g hg => by have := hin.lt hg; omega
  have g1 := g0
  unfold defO at g1
  obtain ⟨⟨q0, r0⟩, ⟨q1, r1⟩, ⟨q2, r2⟩⟩ := cell3 g1
  obtain ⟨RS, hRS⟩ : ∃ RS, P28.refs d.bare = RS := ⟨_, rfl⟩
  rw [hRS] at hrefs
  have hRSl : RS.length = d.steps.length := by rw [← hRS, P28.refs_len, Md.blen]
  have HRS := hide hRS
  have HW1 := hide hW1
  have HB1 := hide hb1
  have HG0 := hide g1
  have HRF := hide hrefs
  have HINV := hide hinV
  have HDLT := hide hdlt
  obtain ⟨nm, tx, sa, sc, ss⟩ := d
  obtain ⟨N, hN⟩ : ∃ N, ss.length = N := ⟨_, rfl⟩
  have hmi := fun V => run_make_row' (P := Tryz.prog) 48 3 (.int .i64 0) 8 Tryz.underlying48 infoInt rfl .i64 .i64 N (by simp only [hN] at hl; omega) (by simp only [hN] at hl; omega) V
  have hmb := fun V => run_make_row' (P := Tryz.prog) 49 4 (.bool false) 1 Tryz.underlying49 infoBool rfl .i64 .i64 N (by simp only [hN] at hl; omega) (by simp only [hN] at hl; omega) V
  unfold defO at HW1
  simp only [hN] at HW1 HG0 q2 hRSl hl
  have HRF : Hid (∀ V, Below H w V → Calls Tryz.prog 70 #[.agg #[.string ⟨nm.toArray⟩, .string ⟨tx.toArray⟩, .slice sa N sc]] V fun e w' => ∃ ra rc vs, e = .returned (.slice ra N rc) ∧ RowsN w' V.heap.size (.slice ra N rc) vs RS ∧ Below V.heap.size V w') := by
    have h := unhide HRF
    unfold PDef.val at h
    simp only [hN] at h
    refine hide (fun V hV => (h V hV).mono ?_)
    rintro e w' ⟨v, vs, rfl, k1, k2⟩
    obtain ⟨ra, rc, rfl⟩ := k1.form
    rw [hRSl] at k1 ⊢
    exact ⟨ra, rc, vs, rfl, k1, k2⟩
  simp only [PDef.val, hN]
  have hmx := hmixed
  clear hW1 hb1 g0 g1 hin haf hinV hrefs hRS hdlt
  go_enter Tryz.func15, Tryz.ntmps15
  go_upto_region 1 with fail
  try rw [hH]
  rw [unhide HW1]
  go_upto_region 2 with fail
  have hb2 := unhide HB1
  have g2 := unhide HG0
  have e70 := enters_of Tryz.func70 (by kernel_rfl) rfl
  refine wp_region_inv hmx (fun L a V => ∃ (v2 v7 v8 v9 v10 v11 v12 v13 v14 v15 v16 v17 v18 v19 : Value) (t u o p : Nat) (ra : Option Addr) (rc : Nat) (vs : List Value) (B : Nat → Nat → Prop), a = ⟨#[.agg #[.string ⟨nm.toArray⟩, .string ⟨tx.toArray⟩, .slice sa N sc], .pointer (some ⟨H, 0, none⟩), v2, .int .i64 (N : Int), .pointer (some ⟨H, 2, none⟩), .slice sa N sc, .int .i64 (N : Int), (v7), (v8), (v9), (v10), (v11), (v12), (v13), (v14), (v15), (v16), (v17), (v18), (v19)], []⟩ ∧ RJ w H (.agg #[.string ⟨nm.toArray⟩, .string ⟨tx.toArray⟩, .slice sa N sc]) #[.string ⟨nm.toArray⟩, .string ⟨tx.toArray⟩, .slice sa N sc] nm tx sa sc ss N RS L V t u o p ra rc vs B v2 v7 v8 v9 v10 v11 v12 v13 v14 v15 v16 v17 v18 v19) (by kernel_rfl) ?_ ?_ ?_
  · refine ⟨_, _, _, _, _, _, _, _, _, _, _, _, _, _, 0, 0, 0, 0, none, 0, [], fun _ _ => False, rfl, by kernel_rfl, hb2.drew, (by rw [show W1.drew.heap.size = W1.heap.size from rfl, hs1]; exact Nat.le_refl _), g2, ⟨fun _ _ _ _ _ _ h => h.elim, fun _ _ _ h => h.elim⟩, ?_, ?_, ?_, ?_, ?_, ?_, ?_, ?_, ?_, ?_, ?_, ?_, ?_, ?_, ?_, ?_, ?_⟩
    all_goals (intro h; exact absurd h (by decide))
  · rintro L a V i o' ⟨v2, v7, v8, v9, v10, v11, v12, v13, v14, v15, v16, v17, v18, v19, t, u, o, p, ra, rc, vs, B, rfl, h⟩ ho hi hdep
    have so : ∀ j, j ≠ i → (L.setIfInBounds i true).getD j false = true → L.getD j false = true := fun j hj q => set_other33 hj q
    have up : ∀ j, L.getD j false = true → (L.setIfInBounds i true).getD j false = true := fun j q => set_up33 hi q
    have hi2 := (getD_of hi).2
    match i, ho with
    | 0, ho =>
      cases ho
      refine wpOp_of rfl rfl ?_
      obtain ⟨⟨y0, _⟩, ⟨y1, _⟩, ⟨y2, _⟩⟩ := cell3 h.bx
      refine Oper.wp_mono (K := fun a2 w2 => a2 = ⟨#[.agg #[.string ⟨nm.toArray⟩, .string ⟨tx.toArray⟩, .slice sa N sc], .pointer (some ⟨H, 0, none⟩), v2, .int .i64 (N : Int), .pointer (some ⟨H, 2, none⟩), .slice sa N sc, .int .i64 (N : Int), (.agg #[.string ⟨nm.toArray⟩, .string ⟨tx.toArray⟩, .slice sa N sc]), (v8), (v9), (v10), (v11), (v12), (v13), (v14), (v15), (v16), (v17), (v18), (v19)], []⟩ ∧ w2 = V) (fun a2 w2 he => ?_) (by simp [Oper.wp, go_sem, y0, y1, y2])
      obtain ⟨rfl, rfl⟩ := he
      exact ⟨v2, _, v8, v9, v10, v11, v12, v13, v14, v15, v16, v17, v18, v19, t, u, o, p, ra, rc, vs, _, rfl, ⟨by simpa using h.sz, h.bel, h.hsz, h.bx, h.fr.add (i := 0) (Nat.le_refl _) h.hsz (fun _ => False) (fun g hg => hg.elim), fun _ => rfl, fun q => h.f1 (so 1 (by omega) q), fun q => ⟨(h.f2 (so 2 (by omega) q)).1, (h.f2 (so 2 (by omega) q)).2.1, fun g hg => by simpa using (h.f2 (so 2 (by omega) q)).2.2 g hg⟩, fun q => h.f3 (so 3 (by omega) q), fun q => ⟨(h.f4 (so 4 (by omega) q)).1, (h.f4 (so 4 (by omega) q)).2.1, by simpa using (h.f4 (so 4 (by omega) q)).2.2⟩, fun q => h.f5 (so 5 (by omega) q), fun q => ⟨(h.f6 (so 6 (by omega) q)).1, (h.f6 (so 6 (by omega) q)).2.1, by simpa using (h.f6 (so 6 (by omega) q)).2.2⟩, fun q => h.f7 (so 7 (by omega) q), fun q => ⟨(h.f8 (so 8 (by omega) q)).1, (h.f8 (so 8 (by omega) q)).2.1, by simpa using (h.f8 (so 8 (by omega) q)).2.2⟩, fun q => h.f9 (so 9 (by omega) q), fun q => ⟨(h.f10 (so 10 (by omega) q)).1, (h.f10 (so 10 (by omega) q)).2.1, by simpa using (h.f10 (so 10 (by omega) q)).2.2⟩, fun q => h.f11 (so 11 (by omega) q), fun q => h.f12 (so 12 (by omega) q), fun q => h.f13 (so 13 (by omega) q), fun q => ⟨up 0 (h.g11 (so 11 (by omega) q)).1, up 2 (h.g11 (so 11 (by omega) q)).2.1, up 4 (h.g11 (so 11 (by omega) q)).2.2.1, up 6 (h.g11 (so 11 (by omega) q)).2.2.2.1, up 8 (h.g11 (so 11 (by omega) q)).2.2.2.2.1, up 10 (h.g11 (so 11 (by omega) q)).2.2.2.2.2⟩, fun q => up 11 (h.g12 (so 12 (by omega) q)), fun q => up 12 (h.g13 (so 13 (by omega) q))⟩⟩
    | 1, ho =>
      cases ho
      refine wpOp_of rfl rfl ?_
      obtain ⟨⟨y0, _⟩, ⟨y1, _⟩, ⟨y2, _⟩⟩ := cell3 h.bx
      refine Oper.wp_mono (K := fun a2 w2 => a2 = ⟨#[.agg #[.string ⟨nm.toArray⟩, .string ⟨tx.toArray⟩, .slice sa N sc], .pointer (some ⟨H, 0, none⟩), v2, .int .i64 (N : Int), .pointer (some ⟨H, 2, none⟩), .slice sa N sc, .int .i64 (N : Int), (v7), (.agg #[.string ⟨nm.toArray⟩, .string ⟨tx.toArray⟩, .slice sa N sc]), (v9), (v10), (v11), (v12), (v13), (v14), (v15), (v16), (v17), (v18), (v19)], []⟩ ∧ w2 = V) (fun a2 w2 he => ?_) (by simp [Oper.wp, go_sem, y0, y1, y2])
      obtain ⟨rfl, rfl⟩ := he
      exact ⟨v2, v7, _, v9, v10, v11, v12, v13, v14, v15, v16, v17, v18, v19, t, u, o, p, ra, rc, vs, _, rfl, ⟨by simpa using h.sz, h.bel, h.hsz, h.bx, h.fr.add (i := 1) (Nat.le_refl _) h.hsz (fun _ => False) (fun g hg => hg.elim), fun q => h.f0 (so 0 (by omega) q), fun _ => rfl, fun q => ⟨(h.f2 (so 2 (by omega) q)).1, (h.f2 (so 2 (by omega) q)).2.1, fun g hg => by simpa using (h.f2 (so 2 (by omega) q)).2.2 g hg⟩, fun q => h.f3 (so 3 (by omega) q), fun q => ⟨(h.f4 (so 4 (by omega) q)).1, (h.f4 (so 4 (by omega) q)).2.1, by simpa using (h.f4 (so 4 (by omega) q)).2.2⟩, fun q => h.f5 (so 5 (by omega) q), fun q => ⟨(h.f6 (so 6 (by omega) q)).1, (h.f6 (so 6 (by omega) q)).2.1, by simpa using (h.f6 (so 6 (by omega) q)).2.2⟩, fun q => h.f7 (so 7 (by omega) q), fun q => ⟨(h.f8 (so 8 (by omega) q)).1, (h.f8 (so 8 (by omega) q)).2.1, by simpa using (h.f8 (so 8 (by omega) q)).2.2⟩, fun q => h.f9 (so 9 (by omega) q), fun q => ⟨(h.f10 (so 10 (by omega) q)).1, (h.f10 (so 10 (by omega) q)).2.1, by simpa using (h.f10 (so 10 (by omega) q)).2.2⟩, fun q => h.f11 (so 11 (by omega) q), fun q => h.f12 (so 12 (by omega) q), fun q => h.f13 (so 13 (by omega) q), fun q => ⟨up 0 (h.g11 (so 11 (by omega) q)).1, up 2 (h.g11 (so 11 (by omega) q)).2.1, up 4 (h.g11 (so 11 (by omega) q)).2.2.1, up 6 (h.g11 (so 11 (by omega) q)).2.2.2.1, up 8 (h.g11 (so 11 (by omega) q)).2.2.2.2.1, up 10 (h.g11 (so 11 (by omega) q)).2.2.2.2.2⟩, fun q => up 11 (h.g12 (so 12 (by omega) q)), fun q => up 12 (h.g13 (so 13 (by omega) q))⟩⟩
    | 2, ho =>
      cases ho
      refine wpOp_of rfl rfl ?_
      obtain rfl := h.f1 (hdep ⟨1, .data⟩ (by simp) rfl)
      refine call33 (f := 70) (args := #[.agg #[.string ⟨nm.toArray⟩, .string ⟨tx.toArray⟩, .slice sa N sc]]) (by simp [execOp, go_sem, e70]) (unhide HRF V h.bel) ?_
      rintro e W ⟨ra2, rc2, vs2, rfl, k1, k4⟩
      have hz := h.hsz
      refine ⟨_, rfl, v2, v7, _, _, v10, v11, v12, v13, v14, v15, v16, v17, v18, v19, t, u, o, p, ra2, rc2, vs2, _, rfl, ⟨by simpa using h.sz, h.bel.trans (k4.mono (by omega)), Nat.le_trans hz k4.size, (k4.block H (by omega)).trans h.bx, h.fr.add (i := 2) k4.size hz (rowsB ra2 vs2) (fun g hg => rowsB_lt k1 hg), fun q => h.f0 (so 0 (by omega) q), fun q => h.f1 (so 1 (by omega) q), fun _ => ⟨rfl, k1.base hz, fun g hg => by simpa using hg⟩, fun q => h.f3 (so 3 (by omega) q), fun q => ⟨(h.f4 (so 4 (by omega) q)).1, (h.f4 (so 4 (by omega) q)).2.1.of_block (k4.block _ (h.f4 (so 4 (by omega) q)).2.1.lt), by simpa using (h.f4 (so 4 (by omega) q)).2.2⟩, fun q => h.f5 (so 5 (by omega) q), fun q => ⟨(h.f6 (so 6 (by omega) q)).1, (h.f6 (so 6 (by omega) q)).2.1.of_block (k4.block _ (h.f6 (so 6 (by omega) q)).2.1.lt), by simpa using (h.f6 (so 6 (by omega) q)).2.2⟩, fun q => h.f7 (so 7 (by omega) q), fun q => ⟨(h.f8 (so 8 (by omega) q)).1, (h.f8 (so 8 (by omega) q)).2.1.of_block (k4.block _ (h.f8 (so 8 (by omega) q)).2.1.lt), by simpa using (h.f8 (so 8 (by omega) q)).2.2⟩, fun q => h.f9 (so 9 (by omega) q), fun q => ⟨(h.f10 (so 10 (by omega) q)).1, (h.f10 (so 10 (by omega) q)).2.1.of_block (k4.block _ (h.f10 (so 10 (by omega) q)).2.1.lt), by simpa using (h.f10 (so 10 (by omega) q)).2.2⟩, fun q => absurd ((h.g11 (so 11 (by omega) q)).2.1) (by rw [hi2]; decide), fun q => absurd ((h.g11 (h.g12 (so 12 (by omega) q))).2.1) (by rw [hi2]; decide), fun q => h.f13 (so 13 (by omega) q), fun q => ⟨up 0 (h.g11 (so 11 (by omega) q)).1, up 2 (h.g11 (so 11 (by omega) q)).2.1, up 4 (h.g11 (so 11 (by omega) q)).2.2.1, up 6 (h.g11 (so 11 (by omega) q)).2.2.2.1, up 8 (h.g11 (so 11 (by omega) q)).2.2.2.2.1, up 10 (h.g11 (so 11 (by omega) q)).2.2.2.2.2⟩, fun q => up 11 (h.g12 (so 12 (by omega) q)), fun q => up 12 (h.g13 (so 13 (by omega) q))⟩⟩
    | 3, ho =>
      cases ho
      refine wpOp_of rfl rfl ?_
      refine Oper.wp_mono (K := fun a2 w2 => a2 = ⟨#[.agg #[.string ⟨nm.toArray⟩, .string ⟨tx.toArray⟩, .slice sa N sc], .pointer (some ⟨H, 0, none⟩), v2, .int .i64 (N : Int), .pointer (some ⟨H, 2, none⟩), .slice sa N sc, .int .i64 (N : Int), (v7), (v8), (v9), (.int .i64 (N : Int)), (v11), (v12), (v13), (v14), (v15), (v16), (v17), (v18), (v19)], []⟩ ∧ w2 = V) (fun a2 w2 he => ?_) (by simp [Oper.wp, go_sem])
      obtain ⟨rfl, rfl⟩ := he
      exact ⟨v2, v7, v8, v9, _, v11, v12, v13, v14, v15, v16, v17, v18, v19, t, u, o, p, ra, rc, vs, _, rfl, ⟨by simpa using h.sz, h.bel, h.hsz, h.bx, h.fr.add (i := 3) (Nat.le_refl _) h.hsz (fun _ => False) (fun g hg => hg.elim), fun q => h.f0 (so 0 (by omega) q), fun q => h.f1 (so 1 (by omega) q), fun q => ⟨(h.f2 (so 2 (by omega) q)).1, (h.f2 (so 2 (by omega) q)).2.1, fun g hg => by simpa using (h.f2 (so 2 (by omega) q)).2.2 g hg⟩, fun _ => rfl, fun q => ⟨(h.f4 (so 4 (by omega) q)).1, (h.f4 (so 4 (by omega) q)).2.1, by simpa using (h.f4 (so 4 (by omega) q)).2.2⟩, fun q => h.f5 (so 5 (by omega) q), fun q => ⟨(h.f6 (so 6 (by omega) q)).1, (h.f6 (so 6 (by omega) q)).2.1, by simpa using (h.f6 (so 6 (by omega) q)).2.2⟩, fun q => h.f7 (so 7 (by omega) q), fun q => ⟨(h.f8 (so 8 (by omega) q)).1, (h.f8 (so 8 (by omega) q)).2.1, by simpa using (h.f8 (so 8 (by omega) q)).2.2⟩, fun q => h.f9 (so 9 (by omega) q), fun q => ⟨(h.f10 (so 10 (by omega) q)).1, (h.f10 (so 10 (by omega) q)).2.1, by simpa using (h.f10 (so 10 (by omega) q)).2.2⟩, fun q => h.f11 (so 11 (by omega) q), fun q => h.f12 (so 12 (by omega) q), fun q => h.f13 (so 13 (by omega) q), fun q => ⟨up 0 (h.g11 (so 11 (by omega) q)).1, up 2 (h.g11 (so 11 (by omega) q)).2.1, up 4 (h.g11 (so 11 (by omega) q)).2.2.1, up 6 (h.g11 (so 11 (by omega) q)).2.2.2.1, up 8 (h.g11 (so 11 (by omega) q)).2.2.2.2.1, up 10 (h.g11 (so 11 (by omega) q)).2.2.2.2.2⟩, fun q => up 11 (h.g12 (so 12 (by omega) q)), fun q => up 12 (h.g13 (so 13 (by omega) q))⟩⟩
    | 4, ho =>
      cases ho
      refine wpOp_of rfl rfl ?_
      obtain rfl := h.f3 (hdep ⟨3, .data⟩ (by simp) rfl)
      refine Oper.wp_mono (K := fun a2 w2 => a2 = ⟨#[.agg #[.string ⟨nm.toArray⟩, .string ⟨tx.toArray⟩, .slice sa N sc], .pointer (some ⟨H, 0, none⟩), v2, .int .i64 (N : Int), .pointer (some ⟨H, 2, none⟩), .slice sa N sc, .int .i64 (N : Int), (v7), (v8), (v9), (.int .i64 (N : Int)), (.slice (some ⟨V.heap.size, 0, none⟩) N N), (v12), (v13), (v14), (v15), (v16), (v17), (v18), (v19)], []⟩ ∧ w2 = V.alloc (.cells (madeCells #[.int .i64 0] N) 3)) (fun a2 w2 he => ?_) (by simp [Oper.wp, go_sem, hmi, hmb])
      obtain ⟨rfl, rfl⟩ := he
      have hz := h.hsz
      have k4 : Below V.heap.size V (V.alloc (.cells (madeCells #[.int .i64 0] N) 3)) := (Below.refl _ V).alloc (Nat.le_refl _) _
      exact ⟨v2, v7, v8, v9, _, _, v12, v13, v14, v15, v16, v17, v18, v19, V.heap.size, u, o, p, ra, rc, vs, _, rfl, ⟨by simpa using h.sz, h.bel.trans (k4.mono (by omega)), Nat.le_trans hz k4.size, (k4.block H (by omega)).trans h.bx, h.fr.add (i := 4) k4.size hz (fun g => g = V.heap.size) (fun g hg => by subst hg; exact ⟨Nat.le_refl _, by simp⟩), fun q => h.f0 (so 0 (by omega) q), fun q => h.f1 (so 1 (by omega) q), fun q => ⟨(h.f2 (so 2 (by omega) q)).1, (h.f2 (so 2 (by omega) q)).2.1.keep (fun g hg => k4.block g hg), fun g hg => by simpa using (h.f2 (so 2 (by omega) q)).2.2 g hg⟩, fun q => h.f3 (so 3 (by omega) q), fun _ => ⟨rfl, World.rowIs_made V (.int .i64 0) N 3, by simp⟩, fun q => h.f5 (so 5 (by omega) q), fun q => ⟨(h.f6 (so 6 (by omega) q)).1, (h.f6 (so 6 (by omega) q)).2.1.of_block (k4.block _ (h.f6 (so 6 (by omega) q)).2.1.lt), by simpa using (h.f6 (so 6 (by omega) q)).2.2⟩, fun q => h.f7 (so 7 (by omega) q), fun q => ⟨(h.f8 (so 8 (by omega) q)).1, (h.f8 (so 8 (by omega) q)).2.1.of_block (k4.block _ (h.f8 (so 8 (by omega) q)).2.1.lt), by simpa using (h.f8 (so 8 (by omega) q)).2.2⟩, fun q => h.f9 (so 9 (by omega) q), fun q => ⟨(h.f10 (so 10 (by omega) q)).1, (h.f10 (so 10 (by omega) q)).2.1.of_block (k4.block _ (h.f10 (so 10 (by omega) q)).2.1.lt), by simpa using (h.f10 (so 10 (by omega) q)).2.2⟩, fun q => absurd ((h.g11 (so 11 (by omega) q)).2.2.1) (by rw [hi2]; decide), fun q => absurd ((h.g11 (h.g12 (so 12 (by omega) q))).2.2.1) (by rw [hi2]; decide), fun q => h.f13 (so 13 (by omega) q), fun q => ⟨up 0 (h.g11 (so 11 (by omega) q)).1, up 2 (h.g11 (so 11 (by omega) q)).2.1, up 4 (h.g11 (so 11 (by omega) q)).2.2.1, up 6 (h.g11 (so 11 (by omega) q)).2.2.2.1, up 8 (h.g11 (so 11 (by omega) q)).2.2.2.2.1, up 10 (h.g11 (so 11 (by omega) q)).2.2.2.2.2⟩, fun q => up 11 (h.g12 (so 12 (by omega) q)), fun q => up 12 (h.g13 (so 13 (by omega) q))⟩⟩
    | 5, ho =>
      cases ho
      refine wpOp_of rfl rfl ?_
      refine Oper.wp_mono (K := fun a2 w2 => a2 = ⟨#[.agg #[.string ⟨nm.toArray⟩, .string ⟨tx.toArray⟩, .slice sa N sc], .pointer (some ⟨H, 0, none⟩), v2, .int .i64 (N : Int), .pointer (some ⟨H, 2, none⟩), .slice sa N sc, .int .i64 (N : Int), (v7), (v8), (v9), (v10), (v11), (.int .i64 (N : Int)), (v13), (v14), (v15), (v16), (v17), (v18), (v19)], []⟩ ∧ w2 = V) (fun a2 w2 he => ?_) (by simp [Oper.wp, go_sem])
      obtain ⟨rfl, rfl⟩ := he
      exact ⟨v2, v7, v8, v9, v10, v11, _, v13, v14, v15, v16, v17, v18, v19, t, u, o, p, ra, rc, vs, _, rfl, ⟨by simpa using h.sz, h.bel, h.hsz, h.bx, h.fr.add (i := 5) (Nat.le_refl _) h.hsz (fun _ => False) (fun g hg => hg.elim), fun q => h.f0 (so 0 (by omega) q), fun q => h.f1 (so 1 (by omega) q), fun q => ⟨(h.f2 (so 2 (by omega) q)).1, (h.f2 (so 2 (by omega) q)).2.1, fun g hg => by simpa using (h.f2 (so 2 (by omega) q)).2.2 g hg⟩, fun q => h.f3 (so 3 (by omega) q), fun q => ⟨(h.f4 (so 4 (by omega) q)).1, (h.f4 (so 4 (by omega) q)).2.1, by simpa using (h.f4 (so 4 (by omega) q)).2.2⟩, fun _ => rfl, fun q => ⟨(h.f6 (so 6 (by omega) q)).1, (h.f6 (so 6 (by omega) q)).2.1, by simpa using (h.f6 (so 6 (by omega) q)).2.2⟩, fun q => h.f7 (so 7 (by omega) q), fun q => ⟨(h.f8 (so 8 (by omega) q)).1, (h.f8 (so 8 (by omega) q)).2.1, by simpa using (h.f8 (so 8 (by omega) q)).2.2⟩, fun q => h.f9 (so 9 (by omega) q), fun q => ⟨(h.f10 (so 10 (by omega) q)).1, (h.f10 (so 10 (by omega) q)).2.1, by simpa using (h.f10 (so 10 (by omega) q)).2.2⟩, fun q => h.f11 (so 11 (by omega) q), fun q => h.f12 (so 12 (by omega) q), fun q => h.f13 (so 13 (by omega) q), fun q => ⟨up 0 (h.g11 (so 11 (by omega) q)).1, up 2 (h.g11 (so 11 (by omega) q)).2.1, up 4 (h.g11 (so 11 (by omega) q)).2.2.1, up 6 (h.g11 (so 11 (by omega) q)).2.2.2.1, up 8 (h.g11 (so 11 (by omega) q)).2.2.2.2.1, up 10 (h.g11 (so 11 (by omega) q)).2.2.2.2.2⟩, fun q => up 11 (h.g12 (so 12 (by omega) q)), fun q => up 12 (h.g13 (so 13 (by omega) q))⟩⟩
    | 6, ho =>
      cases ho
      refine wpOp_of rfl rfl ?_
      obtain rfl := h.f5 (hdep ⟨5, .data⟩ (by simp) rfl)
      refine Oper.wp_mono (K := fun a2 w2 => a2 = ⟨#[.agg #[.string ⟨nm.toArray⟩, .string ⟨tx.toArray⟩, .slice sa N sc], .pointer (some ⟨H, 0, none⟩), v2, .int .i64 (N : Int), .pointer (some ⟨H, 2, none⟩), .slice sa N sc, .int .i64 (N : Int), (v7), (v8), (v9), (v10), (v11), (.int .i64 (N : Int)), (.slice (some ⟨V.heap.size, 0, none⟩) N N), (v14), (v15), (v16), (v17), (v18), (v19)], []⟩ ∧ w2 = V.alloc (.cells (madeCells #[.int .i64 0] N) 3)) (fun a2 w2 he => ?_) (by simp [Oper.wp, go_sem, hmi, hmb])
      obtain ⟨rfl, rfl⟩ := he
      have hz := h.hsz
      have k4 : Below V.heap.size V (V.alloc (.cells (madeCells #[.int .i64 0] N) 3)) := (Below.refl _ V).alloc (Nat.le_refl _) _
      exact ⟨v2, v7, v8, v9, v10, v11, _, _, v14, v15, v16, v17, v18, v19, t, V.heap.size, o, p, ra, rc, vs, _, rfl, ⟨by simpa using h.sz, h.bel.trans (k4.mono (by omega)), Nat.le_trans hz k4.size, (k4.block H (by omega)).trans h.bx, h.fr.add (i := 6) k4.size hz (fun g => g = V.heap.size) (fun g hg => by subst hg; exact ⟨Nat.le_refl _, by simp⟩), fun q => h.f0 (so 0 (by omega) q), fun q => h.f1 (so 1 (by omega) q), fun q => ⟨(h.f2 (so 2 (by omega) q)).1, (h.f2 (so 2 (by omega) q)).2.1.keep (fun g hg => k4.block g hg), fun g hg => by simpa using (h.f2 (so 2 (by omega) q)).2.2 g hg⟩, fun q => h.f3 (so 3 (by omega) q), fun q => ⟨(h.f4 (so 4 (by omega) q)).1, (h.f4 (so 4 (by omega) q)).2.1.of_block (k4.block _ (h.f4 (so 4 (by omega) q)).2.1.lt), by simpa using (h.f4 (so 4 (by omega) q)).2.2⟩, fun q => h.f5 (so 5 (by omega) q), fun _ => ⟨rfl, World.rowIs_made V (.int .i64 0) N 3, by simp⟩, fun q => h.f7 (so 7 (by omega) q), fun q => ⟨(h.f8 (so 8 (by omega) q)).1, (h.f8 (so 8 (by omega) q)).2.1.of_block (k4.block _ (h.f8 (so 8 (by omega) q)).2.1.lt), by simpa using (h.f8 (so 8 (by omega) q)).2.2⟩, fun q => h.f9 (so 9 (by omega) q), fun q => ⟨(h.f10 (so 10 (by omega) q)).1, (h.f10 (so 10 (by omega) q)).2.1.of_block (k4.block _ (h.f10 (so 10 (by omega) q)).2.1.lt), by simpa using (h.f10 (so 10 (by omega) q)).2.2⟩, fun q => absurd ((h.g11 (so 11 (by omega) q)).2.2.2.1) (by rw [hi2]; decide), fun q => absurd ((h.g11 (h.g12 (so 12 (by omega) q))).2.2.2.1) (by rw [hi2]; decide), fun q => h.f13 (so 13 (by omega) q), fun q => ⟨up 0 (h.g11 (so 11 (by omega) q)).1, up 2 (h.g11 (so 11 (by omega) q)).2.1, up 4 (h.g11 (so 11 (by omega) q)).2.2.1, up 6 (h.g11 (so 11 (by omega) q)).2.2.2.1, up 8 (h.g11 (so 11 (by omega) q)).2.2.2.2.1, up 10 (h.g11 (so 11 (by omega) q)).2.2.2.2.2⟩, fun q => up 11 (h.g12 (so 12 (by omega) q)), fun q => up 12 (h.g13 (so 13 (by omega) q))⟩⟩
    | 7, ho =>
      cases ho
      refine wpOp_of rfl rfl ?_
      refine Oper.wp_mono (K := fun a2 w2 => a2 = ⟨#[.agg #[.string ⟨nm.toArray⟩, .string ⟨tx.toArray⟩, .slice sa N sc], .pointer (some ⟨H, 0, none⟩), v2, .int .i64 (N : Int), .pointer (some ⟨H, 2, none⟩), .slice sa N sc, .int .i64 (N : Int), (v7), (v8), (v9), (v10), (v11), (v12), (v13), (.int .i64 (N : Int)), (v15), (v16), (v17), (v18), (v19)], []⟩ ∧ w2 = V) (fun a2 w2 he => ?_) (by simp [Oper.wp, go_sem])
      obtain ⟨rfl, rfl⟩ := he
      exact ⟨v2, v7, v8, v9, v10, v11, v12, v13, _, v15, v16, v17, v18, v19, t, u, o, p, ra, rc, vs, _, rfl, ⟨by simpa using h.sz, h.bel, h.hsz, h.bx, h.fr.add (i := 7) (Nat.le_refl _) h.hsz (fun _ => False) (fun g hg => hg.elim), fun q => h.f0 (so 0 (by omega) q), fun q => h.f1 (so 1 (by omega) q), fun q => ⟨(h.f2 (so 2 (by omega) q)).1, (h.f2 (so 2 (by omega) q)).2.1, fun g hg => by simpa using (h.f2 (so 2 (by omega) q)).2.2 g hg⟩, fun q => h.f3 (so 3 (by omega) q), fun q => ⟨(h.f4 (so 4 (by omega) q)).1, (h.f4 (so 4 (by omega) q)).2.1, by simpa using (h.f4 (so 4 (by omega) q)).2.2⟩, fun q => h.f5 (so 5 (by omega) q), fun q => ⟨(h.f6 (so 6 (by omega) q)).1, (h.f6 (so 6 (by omega) q)).2.1, by simpa using (h.f6 (so 6 (by omega) q)).2.2⟩, fun _ => rfl, fun q => ⟨(h.f8 (so 8 (by omega) q)).1, (h.f8 (so 8 (by omega) q)).2.1, by simpa using (h.f8 (so 8 (by omega) q)).2.2⟩, fun q => h.f9 (so 9 (by omega) q), fun q => ⟨(h.f10 (so 10 (by omega) q)).1, (h.f10 (so 10 (by omega) q)).2.1, by simpa using (h.f10 (so 10 (by omega) q)).2.2⟩, fun q => h.f11 (so 11 (by omega) q), fun q => h.f12 (so 12 (by omega) q), fun q => h.f13 (so 13 (by omega) q), fun q => ⟨up 0 (h.g11 (so 11 (by omega) q)).1, up 2 (h.g11 (so 11 (by omega) q)).2.1, up 4 (h.g11 (so 11 (by omega) q)).2.2.1, up 6 (h.g11 (so 11 (by omega) q)).2.2.2.1, up 8 (h.g11 (so 11 (by omega) q)).2.2.2.2.1, up 10 (h.g11 (so 11 (by omega) q)).2.2.2.2.2⟩, fun q => up 11 (h.g12 (so 12 (by omega) q)), fun q => up 12 (h.g13 (so 13 (by omega) q))⟩⟩
    | 8, ho =>
      cases ho
      refine wpOp_of rfl rfl ?_
      obtain rfl := h.f7 (hdep ⟨7, .data⟩ (by simp) rfl)
      refine Oper.wp_mono (K := fun a2 w2 => a2 = ⟨#[.agg #[.string ⟨nm.toArray⟩, .string ⟨tx.toArray⟩, .slice sa N sc], .pointer (some ⟨H, 0, none⟩), v2, .int .i64 (N : Int), .pointer (some ⟨H, 2, none⟩), .slice sa N sc, .int .i64 (N : Int), (v7), (v8), (v9), (v10), (v11), (v12), (v13), (.int .i64 (N : Int)), (.slice (some ⟨V.heap.size, 0, none⟩) N N), (v16), (v17), (v18), (v19)], []⟩ ∧ w2 = V.alloc (.cells (madeCells #[.bool false] N) 4)) (fun a2 w2 he => ?_) (by simp [Oper.wp, go_sem, hmi, hmb])
      obtain ⟨rfl, rfl⟩ := he
      have hz := h.hsz
      have k4 : Below V.heap.size V (V.alloc (.cells (madeCells #[.bool false] N) 4)) := (Below.refl _ V).alloc (Nat.le_refl _) _
      exact ⟨v2, v7, v8, v9, v10, v11, v12, v13, _, _, v16, v17, v18, v19, t, u, V.heap.size, p, ra, rc, vs, _, rfl, ⟨by simpa using h.sz, h.bel.trans (k4.mono (by omega)), Nat.le_trans hz k4.size, (k4.block H (by omega)).trans h.bx, h.fr.add (i := 8) k4.size hz (fun g => g = V.heap.size) (fun g hg => by subst hg; exact ⟨Nat.le_refl _, by simp⟩), fun q => h.f0 (so 0 (by omega) q), fun q => h.f1 (so 1 (by omega) q), fun q => ⟨(h.f2 (so 2 (by omega) q)).1, (h.f2 (so 2 (by omega) q)).2.1.keep (fun g hg => k4.block g hg), fun g hg => by simpa using (h.f2 (so 2 (by omega) q)).2.2 g hg⟩, fun q => h.f3 (so 3 (by omega) q), fun q => ⟨(h.f4 (so 4 (by omega) q)).1, (h.f4 (so 4 (by omega) q)).2.1.of_block (k4.block _ (h.f4 (so 4 (by omega) q)).2.1.lt), by simpa using (h.f4 (so 4 (by omega) q)).2.2⟩, fun q => h.f5 (so 5 (by omega) q), fun q => ⟨(h.f6 (so 6 (by omega) q)).1, (h.f6 (so 6 (by omega) q)).2.1.of_block (k4.block _ (h.f6 (so 6 (by omega) q)).2.1.lt), by simpa using (h.f6 (so 6 (by omega) q)).2.2⟩, fun q => h.f7 (so 7 (by omega) q), fun _ => ⟨rfl, World.rowIs_made V (.bool false) N 4, by simp⟩, fun q => h.f9 (so 9 (by omega) q), fun q => ⟨(h.f10 (so 10 (by omega) q)).1, (h.f10 (so 10 (by omega) q)).2.1.of_block (k4.block _ (h.f10 (so 10 (by omega) q)).2.1.lt), by simpa using (h.f10 (so 10 (by omega) q)).2.2⟩, fun q => absurd ((h.g11 (so 11 (by omega) q)).2.2.2.2.1) (by rw [hi2]; decide), fun q => absurd ((h.g11 (h.g12 (so 12 (by omega) q))).2.2.2.2.1) (by rw [hi2]; decide), fun q => h.f13 (so 13 (by omega) q), fun q => ⟨up 0 (h.g11 (so 11 (by omega) q)).1, up 2 (h.g11 (so 11 (by omega) q)).2.1, up 4 (h.g11 (so 11 (by omega) q)).2.2.1, up 6 (h.g11 (so 11 (by omega) q)).2.2.2.1, up 8 (h.g11 (so 11 (by omega) q)).2.2.2.2.1, up 10 (h.g11 (so 11 (by omega) q)).2.2.2.2.2⟩, fun q => up 11 (h.g12 (so 12 (by omega) q)), fun q => up 12 (h.g13 (so 13 (by omega) q))⟩⟩
    | 9, ho =>
      cases ho
      refine wpOp_of rfl rfl ?_
      refine Oper.wp_mono (K := fun a2 w2 => a2 = ⟨#[.agg #[.string ⟨nm.toArray⟩, .string ⟨tx.toArray⟩, .slice sa N sc], .pointer (some ⟨H, 0, none⟩), v2, .int .i64 (N : Int), .pointer (some ⟨H, 2, none⟩), .slice sa N sc, .int .i64 (N : Int), (v7), (v8), (v9), (v10), (v11), (v12), (v13), (v14), (v15), (.int .i64 (N : Int)), (v17), (v18), (v19)], []⟩ ∧ w2 = V) (fun a2 w2 he => ?_) (by simp [Oper.wp, go_sem])
      obtain ⟨rfl, rfl⟩ := he
      exact ⟨v2, v7, v8, v9, v10, v11, v12, v13, v14, v15, _, v17, v18, v19, t, u, o, p, ra, rc, vs, _, rfl, ⟨by simpa using h.sz, h.bel, h.hsz, h.bx, h.fr.add (i := 9) (Nat.le_refl _) h.hsz (fun _ => False) (fun g hg => hg.elim), fun q => h.f0 (so 0 (by omega) q), fun q => h.f1 (so 1 (by omega) q), fun q => ⟨(h.f2 (so 2 (by omega) q)).1, (h.f2 (so 2 (by omega) q)).2.1, fun g hg => by simpa using (h.f2 (so 2 (by omega) q)).2.2 g hg⟩, fun q => h.f3 (so 3 (by omega) q), fun q => ⟨(h.f4 (so 4 (by omega) q)).1, (h.f4 (so 4 (by omega) q)).2.1, by simpa using (h.f4 (so 4 (by omega) q)).2.2⟩, fun q => h.f5 (so 5 (by omega) q), fun q => ⟨(h.f6 (so 6 (by omega) q)).1, (h.f6 (so 6 (by omega) q)).2.1, by simpa using (h.f6 (so 6 (by omega) q)).2.2⟩, fun q => h.f7 (so 7 (by omega) q), fun q => ⟨(h.f8 (so 8 (by omega) q)).1, (h.f8 (so 8 (by omega) q)).2.1, by simpa using (h.f8 (so 8 (by omega) q)).2.2⟩, fun _ => rfl, fun q => ⟨(h.f10 (so 10 (by omega) q)).1, (h.f10 (so 10 (by omega) q)).2.1, by simpa using (h.f10 (so 10 (by omega) q)).2.2⟩, fun q => h.f11 (so 11 (by omega) q), fun q => h.f12 (so 12 (by omega) q), fun q => h.f13 (so 13 (by omega) q), fun q => ⟨up 0 (h.g11 (so 11 (by omega) q)).1, up 2 (h.g11 (so 11 (by omega) q)).2.1, up 4 (h.g11 (so 11 (by omega) q)).2.2.1, up 6 (h.g11 (so 11 (by omega) q)).2.2.2.1, up 8 (h.g11 (so 11 (by omega) q)).2.2.2.2.1, up 10 (h.g11 (so 11 (by omega) q)).2.2.2.2.2⟩, fun q => up 11 (h.g12 (so 12 (by omega) q)), fun q => up 12 (h.g13 (so 13 (by omega) q))⟩⟩
    | 10, ho =>
      cases ho
      refine wpOp_of rfl rfl ?_
      obtain rfl := h.f9 (hdep ⟨9, .data⟩ (by simp) rfl)
      refine Oper.wp_mono (K := fun a2 w2 => a2 = ⟨#[.agg #[.string ⟨nm.toArray⟩, .string ⟨tx.toArray⟩, .slice sa N sc], .pointer (some ⟨H, 0, none⟩), v2, .int .i64 (N : Int), .pointer (some ⟨H, 2, none⟩), .slice sa N sc, .int .i64 (N : Int), (v7), (v8), (v9), (v10), (v11), (v12), (v13), (v14), (v15), (.int .i64 (N : Int)), (.slice (some ⟨V.heap.size, 0, none⟩) N N), (v18), (v19)], []⟩ ∧ w2 = V.alloc (.cells (madeCells #[.bool false] N) 4)) (fun a2 w2 he => ?_) (by simp [Oper.wp, go_sem, hmi, hmb])
      obtain ⟨rfl, rfl⟩ := he
      have hz := h.hsz
      have k4 : Below V.heap.size V (V.alloc (.cells (madeCells #[.bool false] N) 4)) := (Below.refl _ V).alloc (Nat.le_refl _) _
      exact ⟨v2, v7, v8, v9, v10, v11, v12, v13, v14, v15, _, _, v18, v19, t, u, o, V.heap.size, ra, rc, vs, _, rfl, ⟨by simpa using h.sz, h.bel.trans (k4.mono (by omega)), Nat.le_trans hz k4.size, (k4.block H (by omega)).trans h.bx, h.fr.add (i := 10) k4.size hz (fun g => g = V.heap.size) (fun g hg => by subst hg; exact ⟨Nat.le_refl _, by simp⟩), fun q => h.f0 (so 0 (by omega) q), fun q => h.f1 (so 1 (by omega) q), fun q => ⟨(h.f2 (so 2 (by omega) q)).1, (h.f2 (so 2 (by omega) q)).2.1.keep (fun g hg => k4.block g hg), fun g hg => by simpa using (h.f2 (so 2 (by omega) q)).2.2 g hg⟩, fun q => h.f3 (so 3 (by omega) q), fun q => ⟨(h.f4 (so 4 (by omega) q)).1, (h.f4 (so 4 (by omega) q)).2.1.of_block (k4.block _ (h.f4 (so 4 (by omega) q)).2.1.lt), by simpa using (h.f4 (so 4 (by omega) q)).2.2⟩, fun q => h.f5 (so 5 (by omega) q), fun q => ⟨(h.f6 (so 6 (by omega) q)).1, (h.f6 (so 6 (by omega) q)).2.1.of_block (k4.block _ (h.f6 (so 6 (by omega) q)).2.1.lt), by simpa using (h.f6 (so 6 (by omega) q)).2.2⟩, fun q => h.f7 (so 7 (by omega) q), fun q => ⟨(h.f8 (so 8 (by omega) q)).1, (h.f8 (so 8 (by omega) q)).2.1.of_block (k4.block _ (h.f8 (so 8 (by omega) q)).2.1.lt), by simpa using (h.f8 (so 8 (by omega) q)).2.2⟩, fun q => h.f9 (so 9 (by omega) q), fun _ => ⟨rfl, World.rowIs_made V (.bool false) N 4, by simp⟩, fun q => absurd ((h.g11 (so 11 (by omega) q)).2.2.2.2.2) (by rw [hi2]; decide), fun q => absurd ((h.g11 (h.g12 (so 12 (by omega) q))).2.2.2.2.2) (by rw [hi2]; decide), fun q => h.f13 (so 13 (by omega) q), fun q => ⟨up 0 (h.g11 (so 11 (by omega) q)).1, up 2 (h.g11 (so 11 (by omega) q)).2.1, up 4 (h.g11 (so 11 (by omega) q)).2.2.1, up 6 (h.g11 (so 11 (by omega) q)).2.2.2.1, up 8 (h.g11 (so 11 (by omega) q)).2.2.2.2.1, up 10 (h.g11 (so 11 (by omega) q)).2.2.2.2.2⟩, fun q => up 11 (h.g12 (so 12 (by omega) q)), fun q => up 12 (h.g13 (so 13 (by omega) q))⟩⟩
    | 11, ho =>
      cases ho
      refine wpOp_of rfl rfl ?_
      have l0 := hdep ⟨0, .data⟩ (by simp) rfl
      have l2 := hdep ⟨2, .data⟩ (by simp) rfl
      have l4 := hdep ⟨4, .data⟩ (by simp) rfl
      have l6 := hdep ⟨6, .data⟩ (by simp) rfl
      have l8 := hdep ⟨8, .data⟩ (by simp) rfl
      have l10 := hdep ⟨10, .data⟩ (by simp) rfl
      have e7 := h.f0 l0
      have e9 := (h.f2 l2).1
      have e11 := (h.f4 l4).1
      have e13 := (h.f6 l6).1
      have e15 := (h.f8 l8).1
      have e17 := (h.f10 l10).1
      subst e7
      subst e9
      subst e11
      subst e13
      subst e15
      subst e17
      refine Oper.wp_mono (K := fun a2 w2 => a2 = ⟨#[.agg #[.string ⟨nm.toArray⟩, .string ⟨tx.toArray⟩, .slice sa N sc], .pointer (some ⟨H, 0, none⟩), v2, .int .i64 (N : Int), .pointer (some ⟨H, 2, none⟩), .slice sa N sc, .int .i64 (N : Int), (.agg #[.string ⟨nm.toArray⟩, .string ⟨tx.toArray⟩, .slice sa N sc]), (v8), (.slice ra N rc), (v10), (.slice (some ⟨t, 0, none⟩) N N), (v12), (.slice (some ⟨u, 0, none⟩) N N), (v14), (.slice (some ⟨o, 0, none⟩) N N), (v16), (.slice (some ⟨p, 0, none⟩) N N), (.agg #[.string ⟨nm.toArray⟩, .string ⟨tx.toArray⟩, .slice sa N sc, .slice ra N rc, .slice (some ⟨t, 0, none⟩) N N, .slice (some ⟨u, 0, none⟩) N N, .slice (some ⟨o, 0, none⟩) N N, .slice (some ⟨p, 0, none⟩) N N, .slice none 0 0, .slice none 0 0, .bool false, .int .u8 1]), (v19)], []⟩ ∧ w2 = V) (fun a2 w2 he => ?_) (by simp [Oper.wp, go_sem]; try exact ⟨rfl, rfl⟩)
      obtain ⟨rfl, rfl⟩ := he
      exact ⟨v2, _, v8, _, v10, _, v12, _, v14, _, v16, _, _, v19, t, u, o, p, ra, rc, vs, _, rfl, ⟨by simpa using h.sz, h.bel, h.hsz, h.bx, h.fr.add (i := 11) (Nat.le_refl _) h.hsz (fun _ => False) (fun g hg => hg.elim), fun q => h.f0 (so 0 (by omega) q), fun q => h.f1 (so 1 (by omega) q), fun q => ⟨(h.f2 (so 2 (by omega) q)).1, (h.f2 (so 2 (by omega) q)).2.1, fun g hg => by simpa using (h.f2 (so 2 (by omega) q)).2.2 g hg⟩, fun q => h.f3 (so 3 (by omega) q), fun q => ⟨(h.f4 (so 4 (by omega) q)).1, (h.f4 (so 4 (by omega) q)).2.1, by simpa using (h.f4 (so 4 (by omega) q)).2.2⟩, fun q => h.f5 (so 5 (by omega) q), fun q => ⟨(h.f6 (so 6 (by omega) q)).1, (h.f6 (so 6 (by omega) q)).2.1, by simpa using (h.f6 (so 6 (by omega) q)).2.2⟩, fun q => h.f7 (so 7 (by omega) q), fun q => ⟨(h.f8 (so 8 (by omega) q)).1, (h.f8 (so 8 (by omega) q)).2.1, by simpa using (h.f8 (so 8 (by omega) q)).2.2⟩, fun q => h.f9 (so 9 (by omega) q), fun q => ⟨(h.f10 (so 10 (by omega) q)).1, (h.f10 (so 10 (by omega) q)).2.1, by simpa using (h.f10 (so 10 (by omega) q)).2.2⟩, fun _ => rfl, fun q => absurd (h.g12 (so 12 (by omega) q)) (by rw [hi2]; decide), fun q => h.f13 (so 13 (by omega) q), fun _ => ⟨up 0 l0, up 2 l2, up 4 l4, up 6 l6, up 8 l8, up 10 l10⟩, fun q => up 11 (h.g12 (so 12 (by omega) q)), fun q => up 12 (h.g13 (so 13 (by omega) q))⟩⟩
    | 12, ho =>
      cases ho
      refine wpOp_of rfl rfl ?_
      have l11 := hdep ⟨11, .data⟩ (by simp) rfl
      obtain ⟨l0, l2, l4, l6, l8, l10⟩ := h.g11 l11
      obtain rfl := h.f11 l11
      obtain ⟨_, k2, kb⟩ := h.f2 l2
      obtain ⟨_, kt, bt⟩ := h.f4 l4
      obtain ⟨_, ku, bu⟩ := h.f6 l6
      obtain ⟨_, ko, bo⟩ := h.f8 l8
      obtain ⟨_, kp, bp⟩ := h.f10 l10
      have hz := h.hsz
      have k4 : Below V.heap.size V (V.alloc (.cells #[.string ⟨nm.toArray⟩, .string ⟨tx.toArray⟩, .slice sa N sc, .slice ra N rc, .slice (some ⟨t, 0, none⟩) N N, .slice (some ⟨u, 0, none⟩) N N, .slice (some ⟨o, 0, none⟩) N N, .slice (some ⟨p, 0, none⟩) N N, .slice none 0 0, .slice none 0 0, .bool false, .int .u8 1] 51)) := (Below.refl _ V).alloc (Nat.le_refl _) _
      have hfr := h.fr
      have ltt := hfr.lt 4 t l4 bt
      have ltu := hfr.lt 6 u l6 bu
      have lto := hfr.lt 8 o l8 bo
      have ltp := hfr.lt 10 p l10 bp
      have ntu : t ≠ u := fun e => hfr.ap 4 6 t (by decide) l4 l6 bt (e ▸ bu)
      have nto : t ≠ o := fun e => hfr.ap 4 8 t (by decide) l4 l8 bt (e ▸ bo)
      have ntp : t ≠ p := fun e => hfr.ap 4 10 t (by decide) l4 l10 bt (e ▸ bp)
      have nuo : u ≠ o := fun e => hfr.ap 6 8 u (by decide) l6 l8 bu (e ▸ bo)
      have nup : u ≠ p := fun e => hfr.ap 6 10 u (by decide) l6 l10 bu (e ▸ bp)
      have nop : o ≠ p := fun e => hfr.ap 8 10 o (by decide) l8 l10 bo (e ▸ bp)
      have hrm : RM ⟨nm, tx, sa, sc, ss⟩ (H + 1) (V.alloc (.cells #[.string ⟨nm.toArray⟩, .string ⟨tx.toArray⟩, .slice sa N sc, .slice ra N rc, .slice (some ⟨t, 0, none⟩) N N, .slice (some ⟨u, 0, none⟩) N N, .slice (some ⟨o, 0, none⟩) N N, .slice (some ⟨p, 0, none⟩) N N, .slice none 0 0, .slice none 0 0, .bool false, .int .u8 1] 51)) V.heap.size t u o p ra rc vs (.slice none 0 0) (.slice none 0 0) P33.S.new := by
        refine ⟨unhide HINV _ (h.bel.trans (k4.mono (by omega))), unhide HDLT, ?_, ?_, ?_, ?_, ?_, ?_, OwnN.nil _ _, OwnN.nil _ _, ⟨hz, ltt.1, ltu.1, lto.1, ltp.1⟩, ?_, fun g hg => (by cases hg), fun g hg => (by cases hg), fun g hg => ⟨fun hm => ?_, fun e => (by cases e), fun e => (by cases e)⟩⟩
        · rw [World.alloc_heap_new]
          unfold rmC
          simp only [hN]
          rfl
        · simp only [hN]
          rw [unhide HRS]
          exact k2.keep (fun g hg => k4.block g hg)
        · simp only [hN]
          exact kt.of_block (k4.block _ kt.lt)
        · simp only [hN]
          exact ku.of_block (k4.block _ ku.lt)
        · simp only [hN]
          exact ko.of_block (k4.block _ ko.lt)
        · simp only [hN]
          exact kp.of_block (k4.block _ kp.lt)
        · simp only [List.nodup_cons, List.mem_cons, List.not_mem_nil, or_false, not_or, not_false_eq_true, List.nodup_nil, and_true]
          omega
        · have hb := kb g hg
          have hl2 := hfr.lt 2 g l2 hb
          simp only [List.mem_cons, List.not_mem_nil, or_false] at hm
          rcases hm with e | e | e | e | e
          · omega
          · exact hfr.ap 2 4 g (by decide) l2 l4 hb (e ▸ bt)
          · exact hfr.ap 2 6 g (by decide) l2 l6 hb (e ▸ bu)
          · exact hfr.ap 2 8 g (by decide) l2 l8 hb (e ▸ bo)
          · exact hfr.ap 2 10 g (by decide) l2 l10 hb (e ▸ bp)
      refine Oper.wp_mono (K := fun a2 w2 => a2 = ⟨#[.agg #[.string ⟨nm.toArray⟩, .string ⟨tx.toArray⟩, .slice sa N sc], .pointer (some ⟨H, 0, none⟩), v2, .int .i64 (N : Int), .pointer (some ⟨H, 2, none⟩), .slice sa N sc, .int .i64 (N : Int), (v7), (v8), (v9), (v10), (v11), (v12), (v13), (v14), (v15), (v16), (v17), (.agg #[.string ⟨nm.toArray⟩, .string ⟨tx.toArray⟩, .slice sa N sc, .slice ra N rc, .slice (some ⟨t, 0, none⟩) N N, .slice (some ⟨u, 0, none⟩) N N, .slice (some ⟨o, 0, none⟩) N N, .slice (some ⟨p, 0, none⟩) N N, .slice none 0 0, .slice none 0 0, .bool false, .int .u8 1]), (.pointer (some ⟨V.heap.size, 0, none⟩))], []⟩ ∧ w2 = V.alloc (.cells #[.string ⟨nm.toArray⟩, .string ⟨tx.toArray⟩, .slice sa N sc, .slice ra N rc, .slice (some ⟨t, 0, none⟩) N N, .slice (some ⟨u, 0, none⟩) N N, .slice (some ⟨o, 0, none⟩) N N, .slice (some ⟨p, 0, none⟩) N N, .slice none 0 0, .slice none 0 0, .bool false, .int .u8 1] 51)) (fun a2 w2 he => ?_) (by simp [Oper.wp, go_sem])
      obtain ⟨rfl, rfl⟩ := he
      exact ⟨v2, v7, v8, v9, v10, v11, v12, v13, v14, v15, v16, v17, _, _, t, u, o, p, ra, rc, vs, _, rfl, ⟨by simpa using h.sz, h.bel.trans (k4.mono (by omega)), Nat.le_trans hz k4.size, (k4.block H (by omega)).trans h.bx, h.fr.add (i := 12) k4.size hz (fun _ => False) (fun g hg => hg.elim), fun q => h.f0 (so 0 (by omega) q), fun q => h.f1 (so 1 (by omega) q), fun q => ⟨(h.f2 (so 2 (by omega) q)).1, (h.f2 (so 2 (by omega) q)).2.1.keep (fun g hg => k4.block g hg), fun g hg => by simpa using (h.f2 (so 2 (by omega) q)).2.2 g hg⟩, fun q => h.f3 (so 3 (by omega) q), fun q => ⟨(h.f4 (so 4 (by omega) q)).1, (h.f4 (so 4 (by omega) q)).2.1.of_block (k4.block _ (h.f4 (so 4 (by omega) q)).2.1.lt), by simpa using (h.f4 (so 4 (by omega) q)).2.2⟩, fun q => h.f5 (so 5 (by omega) q), fun q => ⟨(h.f6 (so 6 (by omega) q)).1, (h.f6 (so 6 (by omega) q)).2.1.of_block (k4.block _ (h.f6 (so 6 (by omega) q)).2.1.lt), by simpa using (h.f6 (so 6 (by omega) q)).2.2⟩, fun q => h.f7 (so 7 (by omega) q), fun q => ⟨(h.f8 (so 8 (by omega) q)).1, (h.f8 (so 8 (by omega) q)).2.1.of_block (k4.block _ (h.f8 (so 8 (by omega) q)).2.1.lt), by simpa using (h.f8 (so 8 (by omega) q)).2.2⟩, fun q => h.f9 (so 9 (by omega) q), fun q => ⟨(h.f10 (so 10 (by omega) q)).1, (h.f10 (so 10 (by omega) q)).2.1.of_block (k4.block _ (h.f10 (so 10 (by omega) q)).2.1.lt), by simpa using (h.f10 (so 10 (by omega) q)).2.2⟩, fun q => h.f11 (so 11 (by omega) q), fun _ => ⟨V.heap.size, rfl, hrm⟩, fun q => absurd (h.g13 (so 13 (by omega) q)) (by rw [hi2]; decide), fun q => ⟨up 0 (h.g11 (so 11 (by omega) q)).1, up 2 (h.g11 (so 11 (by omega) q)).2.1, up 4 (h.g11 (so 11 (by omega) q)).2.2.1, up 6 (h.g11 (so 11 (by omega) q)).2.2.2.1, up 8 (h.g11 (so 11 (by omega) q)).2.2.2.2.1, up 10 (h.g11 (so 11 (by omega) q)).2.2.2.2.2⟩, fun _ => up 11 l11, fun q => up 12 (h.g13 (so 13 (by omega) q))⟩⟩
    | 13, ho =>
      cases ho
      refine wpOp_of rfl rfl ?_
      have l12 := hdep ⟨12, .data⟩ (by simp) rfl
      refine Oper.wp_mono (K := fun a2 w2 => a2 = ⟨#[.agg #[.string ⟨nm.toArray⟩, .string ⟨tx.toArray⟩, .slice sa N sc], .pointer (some ⟨H, 0, none⟩), v19, .int .i64 (N : Int), .pointer (some ⟨H, 2, none⟩), .slice sa N sc, .int .i64 (N : Int), (v7), (v8), (v9), (v10), (v11), (v12), (v13), (v14), (v15), (v16), (v17), (v18), (v19)], []⟩ ∧ w2 = V) (fun a2 w2 he => ?_) (by simp [Oper.wp, go_sem])
      obtain ⟨rfl, rfl⟩ := he
      exact ⟨_, v7, v8, v9, v10, v11, v12, v13, v14, v15, v16, v17, v18, v19, t, u, o, p, ra, rc, vs, _, rfl, ⟨by simpa using h.sz, h.bel, h.hsz, h.bx, h.fr.add (i := 13) (Nat.le_refl _) h.hsz (fun _ => False) (fun g hg => hg.elim), fun q => h.f0 (so 0 (by omega) q), fun q => h.f1 (so 1 (by omega) q), fun q => ⟨(h.f2 (so 2 (by omega) q)).1, (h.f2 (so 2 (by omega) q)).2.1, fun g hg => by simpa using (h.f2 (so 2 (by omega) q)).2.2 g hg⟩, fun q => h.f3 (so 3 (by omega) q), fun q => ⟨(h.f4 (so 4 (by omega) q)).1, (h.f4 (so 4 (by omega) q)).2.1, by simpa using (h.f4 (so 4 (by omega) q)).2.2⟩, fun q => h.f5 (so 5 (by omega) q), fun q => ⟨(h.f6 (so 6 (by omega) q)).1, (h.f6 (so 6 (by omega) q)).2.1, by simpa using (h.f6 (so 6 (by omega) q)).2.2⟩, fun q => h.f7 (so 7 (by omega) q), fun q => ⟨(h.f8 (so 8 (by omega) q)).1, (h.f8 (so 8 (by omega) q)).2.1, by simpa using (h.f8 (so 8 (by omega) q)).2.2⟩, fun q => h.f9 (so 9 (by omega) q), fun q => ⟨(h.f10 (so 10 (by omega) q)).1, (h.f10 (so 10 (by omega) q)).2.1, by simpa using (h.f10 (so 10 (by omega) q)).2.2⟩, fun q => h.f11 (so 11 (by omega) q), fun q => h.f12 (so 12 (by omega) q), fun _ => rfl, fun q => ⟨up 0 (h.g11 (so 11 (by omega) q)).1, up 2 (h.g11 (so 11 (by omega) q)).2.1, up 4 (h.g11 (so 11 (by omega) q)).2.2.1, up 6 (h.g11 (so 11 (by omega) q)).2.2.2.1, up 8 (h.g11 (so 11 (by omega) q)).2.2.2.2.1, up 10 (h.g11 (so 11 (by omega) q)).2.2.2.2.2⟩, fun q => up 11 (h.g12 (so 12 (by omega) q)), fun _ => up 12 l12⟩⟩
    | n + 14, ho => simp at ho
  · rintro L a V ⟨v2, v7, v8, v9, v10, v11, v12, v13, v14, v15, v16, v17, v18, v19, t, u, o, p, ra, rc, vs, B, rfl, h⟩ hall
    have al : ∀ i, i < 14 → L.getD i false = true := fun i hi => by
      have h1 := hall i
      have hs := h.sz
      simp only [Array.getD_eq_getD_getElem?] at h1 ⊢
      rw [Array.getElem?_eq_getElem (by omega)] at h1 ⊢
      exact h1
    obtain ⟨b, rfl, hmd⟩ := h.f12 (al 12 (by omega))
    obtain rfl := h.f13 (al 13 (by omega))
    obtain ⟨_, _, kb⟩ := h.f2 (al 2 (by omega))
    have hlow : ∀ g, rmB b t u o p (.slice none 0 0) (.slice none 0 0) g ∨ rowsB ra vs g → H + 1 ≤ g := fun g hg => by
      obtain ⟨l1, l2, l3, l4, l5⟩ := hmd.low
      rcases hg with (hg | hg | hg) | hg
      · simp only [List.mem_cons, List.not_mem_nil, or_false] at hg
        omega
      · cases hg
      · cases hg
      · exact (h.fr.lt 2 g (al 2 (by omega)) (kb g hg)).1
    have hend := And.intro (And.intro hmd hlow) h.bel
    have HE := hide hend
    clear hend hmd h hlow
    go_wp2
    refine bodyPost_ret (results_tmp rfl _ _ _) rfl ?_
    exact ⟨b, rfl, _, _, ⟨t, u, o, p, ra, rc, vs, _, _, (unhide HE).1.1, rfl, rfl⟩, (unhide HE).1.2, (unhide HE).2⟩
end Go.Proofs.YtefokfbgpfcbkaaGreat
