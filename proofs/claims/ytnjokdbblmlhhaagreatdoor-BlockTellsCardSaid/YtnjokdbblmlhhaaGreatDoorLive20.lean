/- live of layer 20. -/
import Derived.Test.YtnjokdbblmlhhaaGreatDoorGL20
namespace Go.Proofs.YtnjokdbblmlhhaaGreatDoor
set_option linter.unusedVariables false
set_option linter.unusedSimpArgs false
open Go.RowKit
/-- a region of a function's code -/
def regionOf (id : Nat) : Code → Option Code
  | .region i ops b => if i = id then some (.region i ops b) else none
  | .seq a b => match regionOf id a with
    | some c => some c
    | none => regionOf id b
  | .block _ c => regionOf id c
  | .scope c => regionOf id c
  | .loop c => regionOf id c
  | .cond _ a b => match regionOf id a with
    | some c => some c
    | none => regionOf id b
  | _ => none
noncomputable def liveReg : Code := match Tryz.f9.body with
  | some c => (regionOf 7 c).getD .skip
  | none => .skip
/-- what stays while live looks at its tree -/
structure St (n : Value) (B1 H : Nat) (w : World) (cs : Array Value) (V : World) : Prop where
  is : TIs n V
  box : V.heap[B1]? = some (.cells cs 26)
  far : Below H w V
theorem St.next {n : Value} {B1 H : Nat} {w : World} {cs : Array Value} {V V' : World} (h : St n B1 H w cs V) (hH : w.heap.size = H) (hb : Below V.heap.size V V') : St n B1 H w cs V' :=
  ⟨h.is.below hb, (hb.block B1 (Array.getElem?_eq_some_iff.1 h.box).1).trans h.box, h.far.trans (hb.mono (by have := h.far.size; omega))⟩
theorem cells_stay {ka : Option Addr} {kc b o dc B1 B2 B3 B4 X6 : Nat} {V V' : World} (hb : Below V.heap.size V V') (h : V.cell? ⟨B1, 0, none⟩ = some (.int .u8 3) ∧ V.cell? ⟨B1, 1, none⟩ = some (.string ⟨#[]⟩) ∧ V.cell? ⟨B1, 2, none⟩ = some (.slice ka 2 kc) ∧ V.cell? ⟨B1, 3, none⟩ = some (.slice (some ⟨b, o, none⟩) 2 dc) ∧ V.cell? ⟨B1, 4, none⟩ = some (.int .i64 1) ∧ V.cell? ⟨B1 + 1, 0, none⟩ = some (.int .i64 0) ∧ V.cell? ⟨B1 + 1, 1, none⟩ = some (.int .i64 0) ∧ V.cell? ⟨B2 + 1, 0, none⟩ = some (.int .i64 17) ∧ V.cell? ⟨B2 + 1, 1, none⟩ = some (.int .i64 1) ∧ V.cell? ⟨B3 + 1, 0, none⟩ = some (.int .i64 17) ∧ V.cell? ⟨B3 + 1, 1, none⟩ = some (.int .i64 0) ∧ V.cell? ⟨B4 + 1, 0, none⟩ = some (.int .i64 6) ∧ V.cell? ⟨B4 + 1, 1, none⟩ = some (.int .i64 2) ∧ V.cell? ⟨b, o, none⟩ = some (.int .u8 2) ∧ V.cell? ⟨b, o + 4, none⟩ = some (.int .i64 2) ∧ V.cell? ⟨X6, 1, none⟩ = some (.string ⟨#[49]⟩)) : V'.cell? ⟨B1, 0, none⟩ = some (.int .u8 3) ∧ V'.cell? ⟨B1, 1, none⟩ = some (.string ⟨#[]⟩) ∧ V'.cell? ⟨B1, 2, none⟩ = some (.slice ka 2 kc) ∧ V'.cell? ⟨B1, 3, none⟩ = some (.slice (some ⟨b, o, none⟩) 2 dc) ∧ V'.cell? ⟨B1, 4, none⟩ = some (.int .i64 1) ∧ V'.cell? ⟨B1 + 1, 0, none⟩ = some (.int .i64 0) ∧ V'.cell? ⟨B1 + 1, 1, none⟩ = some (.int .i64 0) ∧ V'.cell? ⟨B2 + 1, 0, none⟩ = some (.int .i64 17) ∧ V'.cell? ⟨B2 + 1, 1, none⟩ = some (.int .i64 1) ∧ V'.cell? ⟨B3 + 1, 0, none⟩ = some (.int .i64 17) ∧ V'.cell? ⟨B3 + 1, 1, none⟩ = some (.int .i64 0) ∧ V'.cell? ⟨B4 + 1, 0, none⟩ = some (.int .i64 6) ∧ V'.cell? ⟨B4 + 1, 1, none⟩ = some (.int .i64 2) ∧ V'.cell? ⟨b, o, none⟩ = some (.int .u8 2) ∧ V'.cell? ⟨b, o + 4, none⟩ = some (.int .i64 2) ∧ V'.cell? ⟨X6, 1, none⟩ = some (.string ⟨#[49]⟩) := by
  obtain ⟨x0, x1, x2, x3, x4, p0, p1, q0, q1, r0, r1, s0, s1, k0, k4, z1⟩ := h
  exact ⟨(cell_of_block (hb.block _ (cellLt x0)) _).trans x0, (cell_of_block (hb.block _ (cellLt x1)) _).trans x1, (cell_of_block (hb.block _ (cellLt x2)) _).trans x2, (cell_of_block (hb.block _ (cellLt x3)) _).trans x3, (cell_of_block (hb.block _ (cellLt x4)) _).trans x4, (cell_of_block (hb.block _ (cellLt p0)) _).trans p0, (cell_of_block (hb.block _ (cellLt p1)) _).trans p1, (cell_of_block (hb.block _ (cellLt q0)) _).trans q0, (cell_of_block (hb.block _ (cellLt q1)) _).trans q1, (cell_of_block (hb.block _ (cellLt r0)) _).trans r0, (cell_of_block (hb.block _ (cellLt r1)) _).trans r1, (cell_of_block (hb.block _ (cellLt s0)) _).trans s0, (cell_of_block (hb.block _ (cellLt s1)) _).trans s1, (cell_of_block (hb.block _ (cellLt k0)) _).trans k0, (cell_of_block (hb.block _ (cellLt k4)) _).trans k4, (cell_of_block (hb.block _ (cellLt z1)) _).trans z1⟩
set_option maxRecDepth 100000 in
set_option maxHeartbeats 8000000 in
theorem live20_any (w : World) : Calls Tryz.prog 9 #[] w fun e w' => e = .returned (.bool true) ∧ Below w.heap.size w w' := by
  obtain ⟨H, hH⟩ : ∃ H, w.heap.size = H := ⟨_, rfl⟩
  go_enter Tryz.func9, Tryz.ntmps9
  go_upto_region 2 with (go_at_call 10; refine (parse_a _).mono ?_; rintro e w1 ⟨ka, kc, b, o, dc, rfl, HD, HC, hb1⟩)
  obtain ⟨W1, hW1, hc1, g10, g11, hs1⟩ := two_box w1 (.cells #[.int .u8 3, .string ⟨#[]⟩, .slice ka 2 kc, .slice (some ⟨b, o, none⟩) 2 dc, .int .i64 1] 26) (.cells #[.int .i64 0, .int .i64 0] 29)
  obtain ⟨B1, hB1⟩ : ∃ B, w1.heap.size = B := ⟨_, rfl⟩
  rw [hB1] at g10 g11 hs1 hc1
  try rw [hB1]
  rw [hW1]
  obtain ⟨qa1, hqa1⟩ : ∃ q : Value, Value.tuple #[.agg #[.int .u8 3, .string ⟨#[]⟩, .slice ka 2 kc, .slice (some ⟨b, o, none⟩) 2 dc, .int .i64 1], .agg #[.int .i64 0, .int .i64 0]] = q := ⟨_, rfl⟩
  rw [hqa1]
  clear hqa1
  obtain ⟨qb1, hqb1⟩ : ∃ q : Value, Value.agg #[.int .u8 3, .string ⟨#[]⟩, .slice ka 2 kc, .slice (some ⟨b, o, none⟩) 2 dc, .int .i64 1] = q := ⟨_, rfl⟩
  rw [hqb1]
  clear hqb1
  obtain ⟨qc1, hqc1⟩ : ∃ q : Value, Value.agg #[.int .i64 0, .int .i64 0] = q := ⟨_, rfl⟩
  rw [hqc1]
  clear hqc1
  have HX1 := hide (show Below H w W1 from (hb1.mono (by omega)).trans (hc1.mono (by have := hb1.size; omega)))
  have HD1 := hide ((unhide HD).below (by rw [hB1]; exact hc1))
  obtain ⟨c0, c4⟩ := unhide HC
  have hbl := cellLt c0
  have c01 := (cell_of_block (hc1.block b (by omega)) _).trans c0
  have c41 := (cell_of_block (hc1.block b (by omega)) _).trans c4
  have hb1l : b < W1.heap.size := by omega
  clear hW1 hc1 hb1 HD HC c0 c4 hbl
  go_upto_region 3 with (go_at_call 10; refine (parse_b _).mono ?_; rintro e w2 ⟨rfl, hb2⟩)
  obtain ⟨W2, hW2, hc2, g20, g21, hs2⟩ := two_box w2 (.cells #[.int .u8 0, .string ⟨#[]⟩, .slice none 0 0, .slice none 0 0, .int .i64 0] 26) (.cells #[.int .i64 17, .int .i64 1] 29)
  obtain ⟨B2, hB2⟩ : ∃ B, w2.heap.size = B := ⟨_, rfl⟩
  rw [hB2] at g20 g21 hs2 hc2
  try rw [hB2]
  rw [hW2]
  obtain ⟨qa2, hqa2⟩ : ∃ q : Value, Value.tuple #[.agg #[.int .u8 0, .string ⟨#[]⟩, .slice none 0 0, .slice none 0 0, .int .i64 0], .agg #[.int .i64 17, .int .i64 1]] = q := ⟨_, rfl⟩
  rw [hqa2]
  clear hqa2
  obtain ⟨qb2, hqb2⟩ : ∃ q : Value, Value.agg #[.int .u8 0, .string ⟨#[]⟩, .slice none 0 0, .slice none 0 0, .int .i64 0] = q := ⟨_, rfl⟩
  rw [hqb2]
  clear hqb2
  obtain ⟨qc2, hqc2⟩ : ∃ q : Value, Value.agg #[.int .i64 17, .int .i64 1] = q := ⟨_, rfl⟩
  rw [hqc2]
  clear hqc2
  have hd2 : Below W1.heap.size W1 W2 := hb2.trans (hc2.mono (by have := hb2.size; omega))
  have hl2 := hd2.size
  clear hW2 hc2 hb2
  go_upto_region 4 with (go_at_call 10; refine (parse_c _).mono ?_; rintro e w3 ⟨rfl, hb3⟩)
  obtain ⟨W3, hW3, hc3, g30, g31, hs3⟩ := two_box w3 (.cells #[.int .u8 0, .string ⟨#[]⟩, .slice none 0 0, .slice none 0 0, .int .i64 0] 26) (.cells #[.int .i64 17, .int .i64 0] 29)
  obtain ⟨B3, hB3⟩ : ∃ B, w3.heap.size = B := ⟨_, rfl⟩
  rw [hB3] at g30 g31 hs3 hc3
  try rw [hB3]
  rw [hW3]
  obtain ⟨qa3, hqa3⟩ : ∃ q : Value, Value.tuple #[.agg #[.int .u8 0, .string ⟨#[]⟩, .slice none 0 0, .slice none 0 0, .int .i64 0], .agg #[.int .i64 17, .int .i64 0]] = q := ⟨_, rfl⟩
  rw [hqa3]
  clear hqa3
  obtain ⟨qb3, hqb3⟩ : ∃ q : Value, Value.agg #[.int .u8 0, .string ⟨#[]⟩, .slice none 0 0, .slice none 0 0, .int .i64 0] = q := ⟨_, rfl⟩
  rw [hqb3]
  clear hqb3
  obtain ⟨qc3, hqc3⟩ : ∃ q : Value, Value.agg #[.int .i64 17, .int .i64 0] = q := ⟨_, rfl⟩
  rw [hqc3]
  clear hqc3
  have hd3 : Below W2.heap.size W2 W3 := hb3.trans (hc3.mono (by have := hb3.size; omega))
  have hl3 := hd3.size
  clear hW3 hc3 hb3
  go_upto_region 5 with (go_at_call 10; refine (parse_d _).mono ?_; rintro e w4 ⟨rfl, hb4⟩)
  obtain ⟨W4, hW4, hc4, g40, g41, hs4⟩ := two_box w4 (.cells #[.int .u8 0, .string ⟨#[]⟩, .slice none 0 0, .slice none 0 0, .int .i64 0] 26) (.cells #[.int .i64 6, .int .i64 2] 29)
  obtain ⟨B4, hB4⟩ : ∃ B, w4.heap.size = B := ⟨_, rfl⟩
  rw [hB4] at g40 g41 hs4 hc4
  try rw [hB4]
  rw [hW4]
  obtain ⟨qa4, hqa4⟩ : ∃ q : Value, Value.tuple #[.agg #[.int .u8 0, .string ⟨#[]⟩, .slice none 0 0, .slice none 0 0, .int .i64 0], .agg #[.int .i64 6, .int .i64 2]] = q := ⟨_, rfl⟩
  rw [hqa4]
  clear hqa4
  obtain ⟨qb4, hqb4⟩ : ∃ q : Value, Value.agg #[.int .u8 0, .string ⟨#[]⟩, .slice none 0 0, .slice none 0 0, .int .i64 0] = q := ⟨_, rfl⟩
  rw [hqb4]
  clear hqb4
  obtain ⟨qc4, hqc4⟩ : ∃ q : Value, Value.agg #[.int .i64 6, .int .i64 2] = q := ⟨_, rfl⟩
  rw [hqc4]
  clear hqc4
  have hd4 : Below W3.heap.size W3 W4 := hb4.trans (hc4.mono (by have := hb4.size; omega))
  have hl4 := hd4.size
  clear hW4 hc4 hb4
  have e14 : Below W1.heap.size W1 W4 := hd2.trans ((hd3.mono hl2).trans (hd4.mono (by omega)))
  have k10 := (e14.block B1 (by omega)).trans g10
  have k11 := (e14.block (B1 + 1) (by omega)).trans g11
  have k21 := ((hd3.trans (hd4.mono hl3)).block (B2 + 1) (by omega)).trans g21
  have k31 := (hd4.block (B3 + 1) (by omega)).trans g31
  have c04 := (cell_of_block (e14.block b hb1l) _).trans c01
  have c44 := (cell_of_block (e14.block b hb1l) _).trans c41
  have HX4 := hide (show Below H w W4 from (unhide HX1).trans (e14.mono (unhide HX1).size |> fun h => by exact e14.mono (by have := (unhide HX1).size; omega)))
  have HD4 := hide ((unhide HD1).below e14)
  have hs4' := hs4
  have hl14 : W1.heap.size ≤ W4.heap.size := e14.size
  obtain ⟨⟨x0, _⟩, ⟨x1, _⟩, ⟨x2, _⟩, ⟨x3, _⟩, ⟨x4, _⟩⟩ := five_cell k10
  clear e14 hd2 hd3 hd4 c01 c41 g10 g11 g21 g31 HD1 HX1
  go_upto_region 6 with (go_at_call 14; refine (print_a (unhide HD4)).mono ?_; rintro e w5 ⟨rfl, hb5⟩)
  have m5 := (hb5.block B1 (by omega)).trans k10
  obtain ⟨⟨y0, _⟩, ⟨y1, _⟩, ⟨y2, _⟩, ⟨y3, _⟩, ⟨y4, _⟩⟩ := five_cell m5
  have hs5 := hb5.size
  have hba : Below w5.heap.size w5 (w5.alloc (.cells #[.string ⟨#[97]⟩, .string ⟨#[48]⟩] 9)) := (Below.refl _ w5).alloc (Nat.le_refl _) _
  have hps : InS (w5.alloc (.cells #[.string ⟨#[97]⟩, .string ⟨#[48]⟩] 9)) (some ⟨w5.heap.size, 0, none⟩) [[97], [48]] := by
    have hn := World.alloc_heap_new w5 (.cells #[.string ⟨#[97]⟩, .string ⟨#[48]⟩] 9)
    intro i x hx
    refine ⟨_, _, rfl, ?_⟩
    match i, hx with
    | 0, hx => simp at hx; subst hx; exact (two_cell hn).1.1
    | 1, hx => simp at hx; subst hx; exact (two_cell hn).2.1
  have hat := at_a (((unhide HD4).below hb5).below hba) _ 2 hps
  have HAT := hide hat
  clear x0 x1 x2 x3 x4 hps hat
  go_upto_region 7 with (go_at_call 24; refine (unhide HAT).mono ?_; rintro e w6 ⟨kx, a2, a3, n2, n3, c2, c3, lx, rfl, hb6⟩)
  have hb46 : Below W4.heap.size W4 w6 := (hb5.trans (hba.mono hs5)).trans (hb6.mono (by simp; omega))
  obtain ⟨W6, hW6⟩ : ∃ W6, w6.alloc (.cells #[.int .u8 kx, .string ⟨#[49]⟩, .slice a2 n2 c2, .slice a3 n3 c3, .int .i64 lx] 26) = W6 := ⟨_, rfl⟩
  have g6 : W6.heap[w6.heap.size]? = some (.cells #[.int .u8 kx, .string ⟨#[49]⟩, .slice a2 n2 c2, .slice a3 n3 c3, .int .i64 lx] 26) := by rw [← hW6]; exact World.alloc_heap_new _ _
  have hb4W : Below W4.heap.size W4 W6 := by rw [← hW6]; exact hb46.alloc hb46.size _
  have hs46 := hb4W.size
  rw [hW6]
  obtain ⟨qa6, hqa6⟩ : ∃ q : Value, Value.tuple #[.agg #[.int .u8 kx, .string ⟨#[49]⟩, .slice a2 n2 c2, .slice a3 n3 c3, .int .i64 lx], .bool true] = q := ⟨_, rfl⟩
  rw [hqa6]
  clear hqa6
  obtain ⟨qb6, hqb6⟩ : ∃ q : Value, Value.agg #[.int .u8 kx, .string ⟨#[49]⟩, .slice a2 n2 c2, .slice a3 n3 c3, .int .i64 lx] = q := ⟨_, rfl⟩
  rw [hqb6]
  clear hqb6
  obtain ⟨qd6, hqd6⟩ : ∃ q : Value, Value.agg #[.int .u8 3, .string ⟨#[]⟩, .slice ka 2 kc, .slice (some ⟨b, o, none⟩) 2 dc, .int .i64 1] = q := ⟨_, rfl⟩
  rw [hqd6]
  clear hqd6
  have n1 := (hb4W.block B1 (by omega)).trans k10
  have n11 := (hb4W.block (B1 + 1) (by omega)).trans k11
  have n21 := (hb4W.block (B2 + 1) (by omega)).trans k21
  have n31 := (hb4W.block (B3 + 1) (by omega)).trans k31
  have n41 := (hb4W.block (B4 + 1) (by omega)).trans g41
  have c06 := (cell_of_block (hb4W.block b (by omega)) _).trans c04
  have c46 := (cell_of_block (hb4W.block b (by omega)) _).trans c44
  have HD6 := (unhide HD4).below hb4W
  have HX6 := (unhide HX4).trans (hb4W.mono (by have := (unhide HX4).size; omega))
  obtain ⟨⟨x0, _⟩, ⟨x1, _⟩, ⟨x2, _⟩, ⟨x3, _⟩, ⟨x4, _⟩⟩ := five_cell n1
  obtain ⟨⟨z0, _⟩, ⟨z1, _⟩, ⟨z2, _⟩, ⟨z3, _⟩, ⟨z4, _⟩⟩ := five_cell g6
  obtain ⟨⟨p0, _⟩, ⟨p1, _⟩⟩ := two_cell n11
  obtain ⟨⟨q0, _⟩, ⟨q1, _⟩⟩ := two_cell n21
  obtain ⟨⟨r0, _⟩, ⟨r1, _⟩⟩ := two_cell n31
  obtain ⟨⟨s0, _⟩, ⟨s1, _⟩⟩ := two_cell n41
  have hst : St (.agg #[.int .u8 3, .string ⟨#[]⟩, .slice ka 2 kc, .slice (some ⟨b, o, none⟩) 2 dc, .int .i64 1]) B1 H w #[.int .u8 3, .string ⟨#[]⟩, .slice ka 2 kc, .slice (some ⟨b, o, none⟩) 2 dc, .int .i64 1] W6.drew :=
    ⟨HD6.below (below_drewN (n := 1) (Below.refl _ W6)), n1, below_drewN (n := 1) HX6⟩
  obtain ⟨X6, hX6⟩ : ∃ X6, w6.heap.size = X6 := ⟨_, rfl⟩
  rw [hX6] at z0 z1 z2 z3 z4
  try rw [hX6]
  have k0 := c06
  have k4 := c46
  have hmx : Tryz.prog.follows .mixedOrders = true := by kernel_rfl
  have h6 := hst
  have H6 := hide h6
  clear h6 hst hb46 hW6 g6 hb4W hs46 n1 n11 n21 n31 n41 HD6 HX6 c06 c46 hX6 hba hs5 hb5 HAT m5 y0 y1 y2 y3 y4 hb6 k10 k11 k21 k31 g40 g41 c04 c44 HX4 HD4
  have S6 : W6.drew.cell? ⟨B1, 0, none⟩ = some (.int .u8 3) ∧ W6.drew.cell? ⟨B1, 1, none⟩ = some (.string ⟨#[]⟩) ∧ W6.drew.cell? ⟨B1, 2, none⟩ = some (.slice ka 2 kc) ∧ W6.drew.cell? ⟨B1, 3, none⟩ = some (.slice (some ⟨b, o, none⟩) 2 dc) ∧ W6.drew.cell? ⟨B1, 4, none⟩ = some (.int .i64 1) ∧ W6.drew.cell? ⟨B1 + 1, 0, none⟩ = some (.int .i64 0) ∧ W6.drew.cell? ⟨B1 + 1, 1, none⟩ = some (.int .i64 0) ∧ W6.drew.cell? ⟨B2 + 1, 0, none⟩ = some (.int .i64 17) ∧ W6.drew.cell? ⟨B2 + 1, 1, none⟩ = some (.int .i64 1) ∧ W6.drew.cell? ⟨B3 + 1, 0, none⟩ = some (.int .i64 17) ∧ W6.drew.cell? ⟨B3 + 1, 1, none⟩ = some (.int .i64 0) ∧ W6.drew.cell? ⟨B4 + 1, 0, none⟩ = some (.int .i64 6) ∧ W6.drew.cell? ⟨B4 + 1, 1, none⟩ = some (.int .i64 2) ∧ W6.drew.cell? ⟨b, o, none⟩ = some (.int .u8 2) ∧ W6.drew.cell? ⟨b, o + 4, none⟩ = some (.int .i64 2) ∧ W6.drew.cell? ⟨X6, 1, none⟩ = some (.string ⟨#[49]⟩) := ⟨x0, x1, x2, x3, x4, p0, p1, q0, q1, r0, r1, s0, s1, k0, k4, z1⟩
  simp only [List.append_eq, List.cons_append, List.nil_append]
  go_region_held3 (fun w' => w'.cell? ⟨B1, 0, none⟩ = some (.int .u8 3) ∧ w'.cell? ⟨B1, 1, none⟩ = some (.string ⟨#[]⟩) ∧ w'.cell? ⟨B1, 2, none⟩ = some (.slice ka 2 kc) ∧ w'.cell? ⟨B1, 3, none⟩ = some (.slice (some ⟨b, o, none⟩) 2 dc) ∧ w'.cell? ⟨B1, 4, none⟩ = some (.int .i64 1) ∧ w'.cell? ⟨B1 + 1, 0, none⟩ = some (.int .i64 0) ∧ w'.cell? ⟨B1 + 1, 1, none⟩ = some (.int .i64 0) ∧ w'.cell? ⟨B2 + 1, 0, none⟩ = some (.int .i64 17) ∧ w'.cell? ⟨B2 + 1, 1, none⟩ = some (.int .i64 1) ∧ w'.cell? ⟨B3 + 1, 0, none⟩ = some (.int .i64 17) ∧ w'.cell? ⟨B3 + 1, 1, none⟩ = some (.int .i64 0) ∧ w'.cell? ⟨B4 + 1, 0, none⟩ = some (.int .i64 6) ∧ w'.cell? ⟨B4 + 1, 1, none⟩ = some (.int .i64 2) ∧ w'.cell? ⟨b, o, none⟩ = some (.int .u8 2) ∧ w'.cell? ⟨b, o + 4, none⟩ = some (.int .i64 2) ∧ w'.cell? ⟨X6, 1, none⟩ = some (.string ⟨#[49]⟩)) (first | exact S6 | exact S7 | exact S8 | exact S9 | exact S10 | exact S11) (first
    | (go_at_call 16; refine (check_a (unhide H6).is).mono ?_; rintro e w7 ⟨rfl, hb⟩; have H7 := hide ((unhide H6).next hH hb); have S7 := cells_stay hb S6; clear hb)
    | (go_at_call 21; refine (depth_a (unhide H7).is).mono ?_; rintro e w8 ⟨rfl, hb⟩; have H8 := hide ((unhide H7).next hH hb); have S8 := cells_stay hb S7; clear hb)
    | (go_at_call 22; refine (count_a (unhide H8).is).mono ?_; rintro e w9 ⟨rfl, hb⟩; have H9 := hide ((unhide H8).next hH hb); have S9 := cells_stay hb S8; clear hb)
    | (go_at_call 23; refine (copy_a (unhide H9).is).mono ?_; rintro e w10 ⟨m, rfl, HM, hb⟩; have H10 := hide ((unhide H9).next hH hb); have S10 := cells_stay hb S9; clear hb)
    | (go_at_call 19; refine (same_a (unhide HM) (unhide H10).is).mono ?_; rintro e w11 ⟨rfl, hb⟩; have H11 := hide ((unhide H10).next hH hb).far; have S11 := cells_stay hb S10; clear hb))
  all_goals go_wp2
  all_goals
    refine bodyPost_ret (results_tmp rfl _ _ _) rfl ⟨rfl, by rw [hH]; exact unhide H11⟩
end Go.Proofs.YtnjokdbblmlhhaaGreatDoor
