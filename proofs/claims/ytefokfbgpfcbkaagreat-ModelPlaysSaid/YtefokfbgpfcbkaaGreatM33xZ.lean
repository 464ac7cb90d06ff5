/- Lemmas of this claim (a part of its texts, kept as far as the claim reaches them). -/
import Derived.Test.YtefokfbgpfcbkaaGreatN26xZ
import Derived.Test.YtefokfbgpfcbkaaGreatN21xZ
import Derived.Test.YtefokfbgpfcbkaaGreatPlain33Z
import Derived.Test.YtefokfbgpfcbkaaGreatShelfZ
namespace Go.Proofs.YtefokfbgpfcbkaaGreat
set_option linter.unusedVariables false
set_option linter.unusedSimpArgs false
open Go.RowKit
abbrev mdC (d : PDef) (rf : Value) (bm : Nat) (dn un : Value) (fl : Bool) (st : Int) : Obj :=
  .cells #[.string ⟨d.name.toArray⟩, .string ⟨d.text.toArray⟩, .slice d.sa d.steps.length d.sc, rf, .map (some bm), dn, un, .bool fl, .int .u8 st] 123
theorem md_cell {W : World} {b k : Nat} {cs : Array Value} {T : TypeId} {v : Value} (h : W.heap[b]? = some (.cells cs T)) (hk : cs[k]? = some v) : W.cell? ⟨b, k, none⟩ = some v := by
  simp only [World.cell?, h, Option.bind_some]
  exact hk
theorem Status_any (b : Nat) (st : Int) (w : World) (h : w.cell? ⟨b, 8, none⟩ = some (.int .u8 st)) : Calls Tryz.prog 25 #[.pointer (some ⟨b, 0, none⟩)] w fun e w' => e = .returned (.int .u8 st) ∧ w' = w := by
  go_enter Tryz.func25, Tryz.ntmps25
  go_wp2
  go_ret
  exact ⟨rfl, rfl⟩
theorem Status_nil (w : World) : Calls Tryz.prog 25 #[.pointer none] w fun e w' => e = .returned (.int .u8 0) ∧ w' = w := by
  go_enter Tryz.func25, Tryz.ntmps25
  go_wp2
  go_ret
  exact ⟨rfl, rfl⟩
theorem moving_any (b : Nat) (st : Int) (w : World) (h : w.cell? ⟨b, 8, none⟩ = some (.int .u8 st)) : Calls Tryz.prog 71 #[.pointer (some ⟨b, 0, none⟩)] w fun e w' => e = .returned (.bool (decide (st = 1) || decide (st = 2))) ∧ w' = w := by
  have hs := Status_any b st w h
  have HS := hide hs
  clear h hs
  by_cases h1 : st = 1
  · subst h1
    go_enter Tryz.func71, Tryz.ntmps71
    go_wp2_with (go_at_call 25; refine (unhide HS).mono ?_; rintro e w' ⟨rfl, hw⟩; have hw := hw.symm; subst hw)
    go_ret
    exact ⟨rfl, rfl⟩
  · go_enter Tryz.func71, Tryz.ntmps71
    go_wp2_with (go_at_call 25; refine (unhide HS).mono ?_; rintro e w' ⟨rfl, hw⟩; have hw := hw.symm; subst hw)
    go_ret
    exact ⟨ret_bool (by by_cases h2 : st = 2 <;> simp [h1, h2]), rfl⟩
theorem mhas_any (b n sc : Nat) (sa : Option Addr) (x : Int) (w : World) (h : w.cell? ⟨b, 2, none⟩ = some (.slice sa n sc)) : Calls Tryz.prog 72 #[.pointer (some ⟨b, 0, none⟩), .int .i64 x] w fun e w' => e = .returned (.bool (decide (0 ≤ x) && decide (x < (n : Int)))) ∧ w' = w := by
  by_cases h0 : 0 ≤ x
  · go_enter Tryz.func72, Tryz.ntmps72
    go_wp2
    go_ret
    exact ⟨ret_bool (by simp [h0]), rfl⟩
  · have h1 : x < 0 := by omega
    go_enter Tryz.func72, Tryz.ntmps72
    go_wp2
    go_ret
    exact ⟨ret_bool (by simp [h0]; try omega), rfl⟩
theorem Halts_any (b : Nat) (st : Int) (w : World) (h : w.cell? ⟨b, 8, none⟩ = some (.int .u8 st)) (hf : w.frozen? ⟨b, 8, none⟩ = false) : Calls Tryz.prog 20 #[.pointer (some ⟨b, 0, none⟩)] w fun e w' => if st = 1 then e = .returned (.int .i64 0) ∧ w' = w.setCell ⟨b, 8, none⟩ (.int .u8 2) else e = .returned (.int .i64 13) ∧ w' = w := by
  have hs := Status_any b st w h
  have HS := hide hs
  clear hs
  by_cases h1 : st = 1
  · subst h1
    simp only [if_true]
    go_enter Tryz.func20, Tryz.ntmps20
    go_wp2_with (go_at_call 25; refine (unhide HS).mono ?_; rintro e w' ⟨rfl, hw⟩; have hw := hw.symm; subst hw)
    go_ret
    exact ⟨rfl, rfl⟩
  · simp only [if_neg h1]
    have h2 : (st != 1) = true := by simpa using h1
    go_enter Tryz.func20, Tryz.ntmps20
    go_wp2_with (go_at_call 25; refine (unhide HS).mono ?_; rintro e w' ⟨rfl, hw⟩; have hw := hw.symm; subst hw)
    go_ret
    exact ⟨rfl, rfl⟩
end Go.Proofs.YtefokfbgpfcbkaaGreat
namespace Go.Proofs.YtefokfbgpfcbkaaGreat
set_option linter.unusedVariables false
set_option linter.unusedSimpArgs false
open Go.RowKit
def stT (m f k : Int) : PSt := { PSt.zero with most := m, first := f, factor := k }
theorem run_field_tries (w : World) (a0 a1 a2 a3 a4 a5 a6 a7 a8 a9 a10 a11 a12 : Value) : (Instr.field 63 (.agg #[a0, a1, a2, a3, a4, a5, a6, a7, a8, a9, a10, a11, a12]) 4).run Tryz.prog w = .ok (.agg #[a4, a5, a6]) w := by kernel_rfl
attribute [local go_sem] run_field_tries
theorem real33 (m f k : Int) (V : World) : Calls Tryz.prog 166 #[.agg #[.string ⟨#[]⟩, .string ⟨#[]⟩, .string ⟨#[]⟩, .slice none 0 0, .int .i64 m, .int .i64 f, .int .i64 k, .int .i64 0, .int .u8 0, .string ⟨#[]⟩, .slice none 0 0, .slice none 0 0, .int .i64 0]] V fun e w' => e = .returned (.agg #[.string ⟨#[]⟩, .string ⟨#[]⟩, .string ⟨#[]⟩, .slice none 0 0, .int .i64 (P28.meant m 1), .int .i64 f, .int .i64 (P28.meant k 1), .int .i64 (P28.meant 0 100), .int .u8 0, .string ⟨#[]⟩, .slice none 0 0, .slice none 0 0, .int .i64 0]) ∧ Below V.heap.size V w' := Real_any (stT m f k) V
theorem put3a {W : World} {g : Nat} {T : TypeId} {a b c : Value} (h : W.heap[g]? = some (.cells #[a, b, c] T)) (x : Value) : (W.setCell ⟨g, 0, none⟩ x).heap[g]? = some (.cells #[x, b, c] T) := by simp [World.setCell, Array.getElem?_modify, h]
theorem put3b {W : World} {g : Nat} {T : TypeId} {a b c : Value} (h : W.heap[g]? = some (.cells #[a, b, c] T)) (x : Value) : (W.setCell ⟨g, 1, none⟩ x).heap[g]? = some (.cells #[a, x, c] T) := by simp [World.setCell, Array.getElem?_modify, h]
theorem put3c {W : World} {g : Nat} {T : TypeId} {a b c : Value} (h : W.heap[g]? = some (.cells #[a, b, c] T)) (x : Value) : (W.setCell ⟨g, 2, none⟩ x).heap[g]? = some (.cells #[a, b, x] T) := by simp [World.setCell, Array.getElem?_modify, h]
set_option maxRecDepth 100000 in
set_option maxHeartbeats 2000000 in
theorem meant33_any (m f k : Int) (w : World) : Calls Tryz.prog 161 #[.agg #[.int .i64 m, .int .i64 f, .int .i64 k]] w fun e w' => e = .returned (.agg #[.int .i64 (min (max (P28.meant m 1) 0) 10), .int .i64 (min (max f 0) 1000), .int .i64 (min (max (P28.meant k 1) 0) 1000)]) ∧ Below w.heap.size w w' := by
  obtain ⟨H, hH⟩ : ∃ H, w.heap.size = H := ⟨_, rfl⟩
  rw [hH]
  have hr := fun V => real33 m f k V
  obtain ⟨M, hM⟩ : ∃ x, P28.meant m 1 = x := ⟨_, rfl⟩
  obtain ⟨K, hK⟩ : ∃ x, P28.meant k 1 = x := ⟨_, rfl⟩
  obtain ⟨Li, hLi⟩ : ∃ x, P28.meant 0 100 = x := ⟨_, rfl⟩
  rw [hM, hK, hLi] at hr
  rw [hM, hK]
  obtain ⟨M2, hM2⟩ : ∃ x, min (max M 0) 10 = x := ⟨_, rfl⟩
  obtain ⟨F2, hF2⟩ : ∃ x, min (max f 0) 1000 = x := ⟨_, rfl⟩
  obtain ⟨K2, hK2⟩ : ∃ x, min (max K 0) 1000 = x := ⟨_, rfl⟩
  rw [hM2, hF2, hK2]
  have HM2 := hide hM2
  have HF2 := hide hF2
  have HK2 := hide hK2
  clear hM2 hF2 hK2
  obtain ⟨W1, hW1, hb1, g0, g1, hs1⟩ := new2 w (.cells #[.int .i64 m, .int .i64 f, .int .i64 k] 58) (.cells #[.int .i64 0, .int .i64 0, .int .i64 0] 58) H hH
  have HR := hide hr
  have HW1 := hide hW1
  have HB1 := hide hb1
  have HG0 := hide g0
  have HG1 := hide g1
  obtain ⟨⟨k0, f0⟩, ⟨k1, f1⟩, ⟨k2, f2⟩⟩ := cell3 g0
  clear hr hM hK hLi hW1 hb1 g0 g1
  go_enter Tryz.func161, Tryz.ntmps161
  go_upto_region 1 with fail
  try rw [hH]
  rw [unhide HW1]
  go_upto_region 2 with (go_at_call 166; with_reducible refine (unhide HR _).mono ?_; rintro e w2 ⟨rfl, b2⟩; have hg := (b2.block H (by omega)).trans (unhide HG0); obtain ⟨⟨q0, r0⟩, ⟨q1, r1⟩, ⟨q2, r2⟩⟩ := cell3 hg; have HG := hide hg; clear hg)
  obtain ⟨W3, hW3⟩ : ∃ W3, ((w2.setCell ⟨H, 0, none⟩ (.int .i64 M)).setCell ⟨H, 1, none⟩ (.int .i64 f)).setCell ⟨H, 2, none⟩ (.int .i64 K) = W3 := ⟨_, rfl⟩
  rw [hW3]
  have hz := b2.size
  have hb3 : Below H w W3 := by
    rw [← hW3]
    exact ((((unhide HB1).trans (b2.mono (by omega))).setCell (p := ⟨H, 0, none⟩) (Nat.le_refl H) _).setCell (p := ⟨H, 1, none⟩) (Nat.le_refl H) _).setCell (p := ⟨H, 2, none⟩) (Nat.le_refl H) _
  have g3 : W3.heap[H]? = some (.cells #[.int .i64 M, .int .i64 f, .int .i64 K] 58) := by rw [← hW3]; exact put3c (put3b (put3a (unhide HG) _) _) _
  have h3 : W3.heap[H + 1]? = some (.cells #[.int .i64 0, .int .i64 0, .int .i64 0] 58) := by
    rw [← hW3, Below.heap_setCell _ _ _ _ (by show H + 1 ≠ H; omega), Below.heap_setCell _ _ _ _ (by show H + 1 ≠ H; omega), Below.heap_setCell _ _ _ _ (by show H + 1 ≠ H; omega)]
    exact (b2.block (H + 1) (by omega)).trans (unhide HG1)
  clear hW3 q0 r0 q1 r1 q2 r2 b2 k0 f0 k1 f1 k2 f2 HG0 HG1 HG HB1 HR
  have HB3 := hide hb3
  have HG3 := hide g3
  have HH3 := hide h3
  obtain ⟨⟨q0, r0⟩, ⟨q1, r1⟩, ⟨q2, r2⟩⟩ := cell3 g3
  clear hb3 g3 h3
  go_upto_region 3 with fail
  try rw [unhide HM2]
  obtain ⟨W4, hW4⟩ : ∃ W4, W3.setCell ⟨H, 0, none⟩ (.int .i64 M2) = W4 := ⟨_, rfl⟩
  rw [hW4]
  have g4 : W4.heap[H]? = some (.cells #[.int .i64 M2, .int .i64 f, .int .i64 K] 58) := by rw [← hW4]; exact put3a (unhide HG3) _
  have b4 : Below H w W4 := by rw [← hW4]; exact (unhide HB3).setCell (p := ⟨H, 0, none⟩) (Nat.le_refl H) _
  have i4 : W4.heap[H + 1]? = some (.cells #[.int .i64 0, .int .i64 0, .int .i64 0] 58) := by rw [← hW4, Below.heap_setCell _ _ _ _ (by show H + 1 ≠ H; omega)]; exact unhide HH3
  clear q0 r0 q1 r1 q2 r2 hW4 HG3 HB3 HH3
  obtain ⟨⟨q0, r0⟩, ⟨q1, r1⟩, ⟨q2, r2⟩⟩ := cell3 g4
  have HG4 := hide g4
  have HB4 := hide b4
  have HI4 := hide i4
  clear g4 b4 i4
  go_upto_region 4 with fail
  try rw [unhide HF2]
  obtain ⟨W5, hW5⟩ : ∃ W5, W4.setCell ⟨H, 1, none⟩ (.int .i64 F2) = W5 := ⟨_, rfl⟩
  rw [hW5]
  have g5 : W5.heap[H]? = some (.cells #[.int .i64 M2, .int .i64 F2, .int .i64 K] 58) := by rw [← hW5]; exact put3b (unhide HG4) _
  have b5 : Below H w W5 := by rw [← hW5]; exact (unhide HB4).setCell (p := ⟨H, 1, none⟩) (Nat.le_refl H) _
  have i5 : W5.heap[H + 1]? = some (.cells #[.int .i64 0, .int .i64 0, .int .i64 0] 58) := by rw [← hW5, Below.heap_setCell _ _ _ _ (by show H + 1 ≠ H; omega)]; exact unhide HI4
  clear q0 r0 q1 r1 q2 r2 hW5 HG4 HB4 HI4
  obtain ⟨⟨q0, r0⟩, ⟨q1, r1⟩, ⟨q2, r2⟩⟩ := cell3 g5
  have HG5 := hide g5
  have HB5 := hide b5
  have HI5 := hide i5
  clear g5 b5 i5
  go_upto_region 5 with fail
  try rw [unhide HK2]
  obtain ⟨W6, hW6⟩ : ∃ W6, W5.setCell ⟨H, 2, none⟩ (.int .i64 K2) = W6 := ⟨_, rfl⟩
  rw [hW6]
  have g6 : W6.heap[H]? = some (.cells #[.int .i64 M2, .int .i64 F2, .int .i64 K2] 58) := by rw [← hW6]; exact put3c (unhide HG5) _
  have b6 : Below H w W6 := by rw [← hW6]; exact (unhide HB5).setCell (p := ⟨H, 2, none⟩) (Nat.le_refl H) _
  have i6 : W6.heap[H + 1]? = some (.cells #[.int .i64 0, .int .i64 0, .int .i64 0] 58) := by rw [← hW6, Below.heap_setCell _ _ _ _ (by show H + 1 ≠ H; omega)]; exact unhide HI5
  clear q0 r0 q1 r1 q2 r2 hW6 HG5 HB5 HI5
  obtain ⟨⟨q0, r0⟩, ⟨q1, r1⟩, ⟨q2, r2⟩⟩ := cell3 g6
  obtain ⟨⟨x0, y0⟩, ⟨x1, y1⟩, ⟨x2, y2⟩⟩ := cell3 i6
  have HB6 := hide b6
  have HI6 := hide i6
  clear g6 b6 i6
  go_wp2
  (try simp only [Exit.inBlock, Exit.then])
  have g7 := put3c (put3b (put3a (unhide HI6) (.int .i64 M2)) (.int .i64 F2)) (.int .i64 K2)
  refine bodyPost_ret (results_c1 rfl _ _ _ (H + 1) _ rfl (run_loadVar_row _ _ _ _ _ _ _ g7 Tryz.underlying58 rfl (by kernel_rfl)) ) rfl ?_
  refine ⟨rfl, ?_⟩
  exact (((unhide HB6).setCell (p := ⟨H + 1, 0, none⟩) (Nat.le_succ H) _).setCell (p := ⟨H + 1, 1, none⟩) (Nat.le_succ H) _).setCell (p := ⟨H + 1, 2, none⟩) (Nat.le_succ H) _
theorem run_field_most (w : World) (a b c : Value) : (Instr.field 58 (.agg #[a, b, c]) 0).run Tryz.prog w = .ok a w := by kernel_rfl
attribute [local go_sem] run_field_most
theorem More_any (m f k n : Int) (w : World) : Calls Tryz.prog 119 #[.agg #[.int .i64 m, .int .i64 f, .int .i64 k], .int .i64 n] w fun e w' => e = .returned (.bool (P33.more ⟨m, f, k⟩ n)) ∧ Below w.heap.size w w' := by
  obtain ⟨H, hH⟩ : ∃ H, w.heap.size = H := ⟨_, rfl⟩
  rw [hH]
  obtain ⟨M, hM⟩ : ∃ x, min (max (P28.meant m 1) 0) 10 = x := ⟨_, rfl⟩
  have hr := fun V => meant33_any m f k V
  rw [show P33.more ⟨m, f, k⟩ n = (decide (1 ≤ n) && decide (n < M)) by rw [← hM]; rfl]
  rw [hM] at hr
  obtain ⟨W1, hW1, hb1, g0, hs1⟩ := new1 w (.cells #[.int .i64 m, .int .i64 f, .int .i64 k] 58) H hH
  obtain ⟨⟨q0, r0⟩, ⟨q1, r1⟩, ⟨q2, r2⟩⟩ := cell3 g0
  have HR := hide hr
  have HW1 := hide hW1
  have HB1 := hide hb1
  clear hr hM hW1 hb1 g0
  by_cases h1 : 1 ≤ n
  · go_enter Tryz.func119, Tryz.ntmps119
    go_upto_region 1 with fail
    try rw [hH]
    rw [unhide HW1]
    go_wp2_with (go_at_call 161; with_reducible refine (unhide HR _).mono ?_; rintro e w2 ⟨rfl, b2⟩)
    go_ret
    exact ⟨ret_bool (by simp [h1]), (unhide HB1).trans (b2.mono (by omega))⟩
  · have h2 : n < 1 := by omega
    go_enter Tryz.func119, Tryz.ntmps119
    go_upto_region 1 with fail
    try rw [hH]
    rw [unhide HW1]
    go_wp2
    go_ret
    exact ⟨ret_bool (by simp; omega), unhide HB1⟩
end Go.Proofs.YtefokfbgpfcbkaaGreat
namespace Go.Proofs.YtefokfbgpfcbkaaGreat
set_option linter.unusedVariables false
set_option linter.unusedSimpArgs false
open Go.RowKit
set_option maxRecDepth 100000 in
set_option maxHeartbeats 2000000 in
theorem last_any (b g o n sc i : Nat) (m f k t : Int) (w : World) (h2 : w.cell? ⟨b, 2, none⟩ = some (.slice (some ⟨g, o, none⟩) n sc)) (hi : (i : Int) < (n : Int))
    (c4 : w.cell? ⟨g, o + i * 13 + 4, none⟩ = some (.int .i64 m)) (c5 : w.cell? ⟨g, o + i * 13 + 5, none⟩ = some (.int .i64 f)) (c6 : w.cell? ⟨g, o + i * 13 + 6, none⟩ = some (.int .i64 k)) :
    Calls Tryz.prog 74 #[.pointer (some ⟨b, 0, none⟩), .int .i64 i, .int .i64 t] w fun e w' => e = .returned (.bool (!P33.more ⟨m, f, k⟩ t)) ∧ Below w.heap.size w w' := by
  have hm := More_any m f k t w
  obtain ⟨R, hR⟩ : ∃ R, P33.more ⟨m, f, k⟩ t = R := ⟨_, rfl⟩
  rw [hR] at hm ⊢
  have HM := hide hm
  clear hm hR
  go_enter Tryz.func74, Tryz.ntmps74
  go_wp2_with (go_at_call 119; refine (unhide HM).mono ?_; rintro e w1 ⟨rfl, b1⟩)
  go_ret
  exact ⟨rfl, b1⟩
end Go.Proofs.YtefokfbgpfcbkaaGreat
namespace Go.Proofs.YtefokfbgpfcbkaaGreat
set_option linter.unusedVariables false
set_option linter.unusedSimpArgs false
open Go.RowKit Go.Shelf
def Iv (W : World) (v : Value) (zs : List Int) : Prop := ∃ a c, v = .slice a zs.length c ∧ (zs.length ≤ c ∧ c ≤ maxLen) ∧ ∀ (j : Nat) z, zs[j]? = some z → ∃ b o, a = some ⟨b, o, none⟩ ∧ W.cell? ⟨b, o + j, none⟩ = some (.int .i64 z)
theorem Iv.of_row {W : World} {B : Nat} {v : Value} {zs : List Int} (h : W.ownsRow B 3 1 v zs.length (zs.map (Value.int .i64))) : Iv W v zs := by
  rcases h.2 with ⟨rfl, h0⟩ | ⟨g, cap, cur, rfl, hb, hh, hc, hm, hsz, htk⟩
  · have : zs = [] := List.eq_nil_of_length_eq_zero h0
    subst this
    exact ⟨none, 0, rfl, ⟨Nat.le_refl _, Nat.zero_le _⟩, fun j z hj => by simp at hj⟩
  · refine ⟨_, cap, rfl, ⟨hc, hm⟩, fun j z hj => ⟨g, 0, rfl, ?_⟩⟩
    have hil := (List.getElem?_eq_some_iff.1 hj).1
    have h1 : (zs.map (Value.int .i64))[j]? = some (.int .i64 z) := by rw [List.getElem?_map, hj]; rfl
    rw [← htk, List.getElem?_take_of_lt (by omega)] at h1
    rw [Nat.zero_add, cell_of_row W g j cur _ (0, 0) hh]
    simpa using h1
theorem cloneI_any (v : Value) (zs : List Int) (w : World) (h : Iv w v zs) (hl : zs.length ≤ 1000000) : Calls Tryz.prog 78 #[v] w fun e w' => ∃ v', e = .returned v' ∧ Iv w' v' zs ∧ Below w.heap.size w w' := by
  obtain ⟨a, c, rfl, _, hc⟩ := h
  match zs, hl, hc with
  | [], hl, hc =>
    cases a with
    | none =>
      refine (Tryz.slices_Clone_int_nil 0 c w).mono ?_
      rintro e w' ⟨rfl, rfl⟩
      exact ⟨_, rfl, ⟨none, 0, rfl, ⟨Nat.le_refl _, Nat.zero_le _⟩, fun j z hj => by simp at hj⟩, Below.refl _ _⟩
    | some a =>
      refine (Tryz.slices_Clone_int_zero a c w).mono ?_
      rintro e w' ⟨v', rfl, hr, _, hb⟩
      exact ⟨v', rfl, .of_row (zs := []) hr, hb⟩
  | z :: zs, hl, hc =>
    obtain ⟨b, o, rfl, _⟩ := hc 0 z rfl
    refine (Tryz.slices_Clone_int b o (z :: zs).length c (z :: zs) w (Nat.le_refl _) (by omega) (fun j hj => ?_)).mono ?_
    · obtain ⟨b', o', e, h1⟩ := hc j _ (List.getElem?_eq_getElem hj)
      cases e
      rw [h1]
      simp [List.getD_eq_getElem?_getD, List.getElem?_eq_getElem hj]
    · rintro e w' ⟨v', rfl, hr, _, hb⟩
      rw [List.take_length] at hr
      exact ⟨v', rfl, .of_row hr, hb⟩
theorem Done_any (b : Nat) (v : Value) (zs : List Int) (w : World) (hb : w.cell? ⟨b, 5, none⟩ = some v) (h : Iv w v zs) (hl : zs.length ≤ 1000000) : Calls Tryz.prog 27 #[.pointer (some ⟨b, 0, none⟩)] w fun e w' => ∃ v', e = .returned v' ∧ Iv w' v' zs ∧ Below w.heap.size w w' := by
  have hc := cloneI_any v zs w h hl
  have HC := hide hc
  clear hc
  go_enter Tryz.func27, Tryz.ntmps27
  go_wp2_with (go_at_call 78; with_reducible refine (unhide HC).mono ?_; rintro e w1 ⟨v', rfl, h1, b1⟩)
  go_ret
  exact ⟨_, rfl, h1, b1⟩
theorem Undone_any (b : Nat) (v : Value) (zs : List Int) (w : World) (hb : w.cell? ⟨b, 6, none⟩ = some v) (h : Iv w v zs) (hl : zs.length ≤ 1000000) : Calls Tryz.prog 28 #[.pointer (some ⟨b, 0, none⟩)] w fun e w' => ∃ v', e = .returned v' ∧ Iv w' v' zs ∧ Below w.heap.size w w' := by
  have hc := cloneI_any v zs w h hl
  have HC := hide hc
  clear hc
  go_enter Tryz.func28, Tryz.ntmps28
  go_wp2_with (go_at_call 78; with_reducible refine (unhide HC).mono ?_; rintro e w1 ⟨v', rfl, h1, b1⟩)
  go_ret
  exact ⟨_, rfl, h1, b1⟩
end Go.Proofs.YtefokfbgpfcbkaaGreat
namespace Go.Proofs.YtefokfbgpfcbkaaGreat
set_option linter.unusedVariables false
set_option linter.unusedSimpArgs false
open Go.RowKit
theorem Backward_any (v : Value) (w : World) (hv : v.oneCell' = true) (s0 : Option Addr) (n c : Nat) (he : v = .slice s0 n c) : Calls Tryz.prog 76 #[v] w fun e w' => e = .returned (.func (.func 121) #[] #[.pointer (some ⟨w.heap.size, 0, none⟩)]) ∧ w' = w.alloc (.cells #[v] 48) := by
  subst he
  go_enter Tryz.func76, Tryz.ntmps76
  go_wp2
  go_ret
  exact ⟨rfl, rfl⟩
end Go.Proofs.YtefokfbgpfcbkaaGreat
namespace Go.Proofs.YtefokfbgpfcbkaaGreat
set_option linter.unusedVariables false
set_option linter.unusedSimpArgs false
open Go.RowKit
set_option maxRecDepth 100000 in
set_option maxHeartbeats 2000000 in
theorem New_bad (d : PDef) (w : World) (hin : d.In w) (hok : d.ok) (hc : P28.clean d.bare = false) : Calls Tryz.prog 13 #[d.val] w fun e w' => e = .returned (.tuple #[.pointer none, .int .i64 3]) ∧ Below w.heap.size w w' := by
  obtain ⟨H, hH⟩ : ∃ H, w.heap.size = H := ⟨_, rfl⟩
  rw [hH]
  obtain ⟨W1, hW1, hb1, g0, hs1⟩ := new1 w (defO d) H hH
  have hcl := Clean_any d W1 (hin.below (by rw [hH]; exact hb1)) hok
  rw [hc] at hcl
  have g1 := g0
  unfold defO at g1
  obtain ⟨⟨q0, r0⟩, ⟨q1, r1⟩, ⟨q2, r2⟩⟩ := cell3 g1
  have HC := hide hcl
  have HW1 := hide hW1
  have HB1 := hide hb1
  obtain ⟨nm, tx, sa, sc, ss⟩ := d
  obtain ⟨N, hN⟩ : ∃ N, ss.length = N := ⟨_, rfl⟩
  unfold defO at HW1
  unfold PDef.val at HC ⊢
  simp only [hN] at HC HW1 q2 ⊢
  clear hcl hW1 hb1 g0 g1 hin hok hc hN
  go_enter Tryz.func13, Tryz.ntmps13
  go_upto_region 1 with fail
  try rw [hH]
  rw [unhide HW1]
  go_wp2_with (go_at_call 30; with_reducible refine (unhide HC).mono ?_; rintro e w2 ⟨rfl, b2⟩)
  exact bodyPost_ret (results_tmp2 rfl _ _ _) rfl ⟨rfl, (unhide HB1).trans (b2.mono (by omega))⟩
end Go.Proofs.YtefokfbgpfcbkaaGreat
namespace Go.Proofs.YtefokfbgpfcbkaaGreat
set_option linter.unusedVariables false
set_option linter.unusedSimpArgs false
open Go.RowKit
attribute [local go_sem] Oper.semAt_some
def encBI (p : Nat × Nat) : Array Value := #[.int .i64 (p.1 : Int), .int .i64 (p.2 : Int)]
def backL (l : List Nat) : List (Nat × Nat) := (l.zipIdx.map fun p => (p.2, p.1)).reverse
theorem backL_len (l : List Nat) : (backL l).length = l.length := by simp [backL]
theorem backL_get {l : List Nat} {j : Nat} {p : Nat × Nat} (h : (backL l)[j]? = some p) : p.1 + j + 1 = l.length ∧ l[p.1]? = some p.2 ∧ l.reverse[j]? = some p.2 := by
  have hj : j < l.length := by have := (List.getElem?_eq_some_iff.1 h).1; simpa [backL] using this
  unfold backL at h
  rw [List.getElem?_reverse (by simpa using hj)] at h
  simp only [List.length_map, List.length_zipIdx, List.getElem?_map, List.getElem?_zipIdx, Nat.zero_add] at h
  have hk : l.length - 1 - j < l.length := by omega
  rw [List.getElem?_eq_getElem hk] at h
  simp only [Option.map_some, Option.some.injEq] at h
  subst h
  refine ⟨by simp only; omega, List.getElem?_eq_getElem hk, ?_⟩
  rw [List.getElem?_reverse hj, List.getElem?_eq_getElem hk]
theorem find_take {α : Type} {q : α → Bool} : ∀ {l : List α} {j : Nat} {x : α}, l[j]? = some x → (∀ y ∈ l.take j, q y = false) → q x = true → l.find? q = some x
  | [], j, x, h, _, _ => by simp at h
  | y :: l, 0, x, h, _, hx => by
    simp only [List.getElem?_cons_zero, Option.some.injEq] at h
    subst h
    rw [List.find?_cons, hx]
  | y :: l, j + 1, x, h, h0, hx => by
    rw [List.find?_cons, h0 y (by simp)]
    exact find_take (by simpa using h) (fun z hz => h0 z (by simp [hz])) hx
theorem containsNat_any (a : Option Addr) (c : Nat) (l : List Nat) (x : Nat) (w : World) (h : InN w a l) (hl : l.length ≤ maxLen) :
    Calls Tryz.prog 77 #[.slice a l.length c, .int .i64 (x : Int)] w fun e w' => e = .returned (.bool (decide (x ∈ l))) ∧ w' = w := by
  refine (containsN_any a c l x w h hl).mono ?_
  rintro e w' ⟨rfl, rfl⟩
  refine ⟨ret_bool ?_, rfl⟩
  rw [Bool.eq_iff_iff, decide_eq_true_eq, decide_eq_true_eq, List.mem_map]
  exact ⟨fun ⟨k, hk, e⟩ => by have e : k = x := by omega
                              exact e ▸ hk, fun h => ⟨x, h, rfl⟩⟩
set_option maxRecDepth 100000 in
set_option maxHeartbeats 4000000 in
theorem backIter_seq (n bx c A : Nat) (a : Option Addr) (l : List Nat) (R T : Nat → Prop) (W : World) (hbx : W.heap[bx]? = some (.cells #[.slice a A c] 48)) (hA : l.length = A)
    (hin : InN W a l) (hblk : ∀ r, l ≠ [] → blockOf a r → R r) (hbR : R bx) (hR : ∀ r, R r → r < W.heap.size) (hA9 : A ≤ 1000000) :
    SeqM Fence.wide n Tryz.prog 121 #[.pointer (some ⟨bx, 0, none⟩)] encBI (backL l) R T W := by
  intro ly J Jx hJ hJx hM hY M0 hT0 h0
  have hM0 : ∀ r, M0 r → r < W.heap.size ∧ ¬ R r := hM 0 M0 W h0
  have hY' : ∀ m q x M V, (backL l)[q]? = some x → J q M V → W.heap.size ≤ V.heap.size → YieldAt Fence.wide m Tryz.prog ly (encBI x) V fun e W' =>
      ∃ M', KeepsM M V M' W' ∧ ((e = .returned (.bool true) ∧ J (q + 1) M' W') ∨ (e = .returned (.bool false) ∧ Jx (q + 1) M' W')) :=
    fun m q x M V hx hj hs => YieldAt.anyD rfl m (hY q x M V hx hj hs)
  obtain ⟨x0, _⟩ := cell1 hbx
  have hw0 : IntKind.i64.wrap ((A : Int) - 1) = (A : Int) - 1 := IntWalk.i64_in _ (by omega)
  have hlL : (backL l).length = A := by rw [backL_len]; exact hA
  have HBX := hide hbx
  have HIN := hide hin
  have HBLK := hide hblk
  have HBR := hide hbR
  have HRL := hide hR
  have HM0 := hide hM0
  have HM := hide hM
  have HJ := hide hJ
  have HJX := hide hJx
  have HY := hide hY'
  have HA := hide hA
  have HLL := hide hlL
  have H0 := hide h0
  clear hbx hin hblk hbR hR hM0 hM hJ hJx hY hY' hA hlL hT0 h0
  refine callsIn_of_wp Tryz.func121 rfl trivial ?_ rfl
  simp only [Tryz.ntmps121, List.size_toArray, List.length_cons, List.length_nil, Nat.reduceAdd, Nat.reduceSub, Array.replicate_succ, Array.replicate_zero, List.push_toArray, List.append_toArray, List.nil_append, List.cons_append]
  gi_wp2
  gi_loopg [3] A (fun g s3 wx => ∃ (j : Nat) (i : Int) (M : Nat → Prop), j + g = A ∧ s3 = .int .i64 i ∧ i + 1 + (j : Int) = (A : Int) ∧ Hid (KeepsM M0 W M wx) ∧ Hid (J j M wx))
  case atStart => exact ⟨0, (A : Int) - 1, M0, by omega, by go_num, by omega, hide (KeepsM.refl _ _), H0⟩
  case round =>
    obtain ⟨j, i, M, hjg, rfl, hij, HK, HJI⟩ := hrel
    clear x0 hw0
    have hk := unhide HK
    have hM0' : ∀ r, R r → ¬ M0 r := fun r h1 h2 => (unhide HM0 r h2).2 h1
    have hzr := hk.size
    cases gk with
    | zero =>
      obtain rfl : i = -1 := by omega
      have hfin := unhide HJI
      rw [show j = (backL l).length by rw [unhide HLL]; omega] at hfin
      have HFIN := hide hfin
      clear hfin hk
      gi_wp2
      go_end0
      exact ⟨⟨_, rfl⟩, M, .inl (unhide HFIN)⟩
    | succ g' =>
      obtain ⟨k, rfl⟩ : ∃ k : Nat, i = (k : Int) := ⟨i.toNat, by omega⟩
      have hkA : (k : Int) < (A : Int) := by omega
      have hkA2 : k < A := by omega
      have hkj : IntKind.i64.wrap ((k : Int) - 1) = (k : Int) - 1 := IntWalk.i64_in _ (by omega)
      have d1 : decide ((k : Int) ≥ 0) = true := by simp
      obtain ⟨⟨k2, x⟩, hx⟩ := nth_of (unhide HLL) (show j < A by omega)
      obtain ⟨e1, e2, e3⟩ := backL_get hx
      simp only at e1 e2 e3
      obtain rfl : k2 = k := by have := unhide HA; omega
      obtain ⟨rb, ro, rfl, cj⟩ := unhide HIN k2 x e2
      unfold iv at cj
      have hne : l ≠ [] := fun e => by rw [e] at e2; simp at e2
      have hrb := unhide HBLK rb hne ⟨ro, rfl⟩
      have hcl : wr.cell? ⟨rb, ro + k2, none⟩ = some (.int .i64 (x : Int)) := (World.cell?_of_block (a := ⟨rb, ro + k2, none⟩) (hk.same rb (hM0' rb hrb) (unhide HRL rb hrb))).trans cj
      have hbx2 := hk.at (hM0' bx (unhide HBR)) (unhide HBX)
      obtain ⟨y0, _⟩ := cell1 hbx2
      have hYa := ((unhide HY) (n - 1) _ _ M wr hx (unhide HJI) (by omega)).mono
        (R' := fun e W' => ∃ bb, e = .returned (.bool bb) ∧ Hid (∃ M', KeepsM M wr M' W' ∧ ((bb = true ∧ J (j + 1) M' W') ∨ (bb = false ∧ Jx (j + 1) M' W')))) (by
          rintro e W' ⟨M', hk, (⟨rfl, h⟩ | ⟨rfl, h⟩)⟩
          · exact ⟨true, rfl, hide ⟨M', hk, .inl ⟨rfl, h⟩⟩⟩
          · exact ⟨false, rfl, hide ⟨M', hk, .inr ⟨rfl, h⟩⟩⟩)
      obtain ⟨fn, tmps, assign, body, hy, hR⟩ := hYa
      replace hy : (Instr.yield ly #[.int .i64 k2, .int .i64 x]).run Tryz.prog wr = .ok (.round ly fn tmps assign body) wr := hy
      have hjl : j < (backL l).length := (List.getElem?_eq_some_iff.1 hx).1
      clear hk hbx2 hx e1 e2 e3 cj
      gi_wp2
      refine ⟨fun h => (by cases h), hR.mono ?_⟩
      rintro e W3 ⟨bb, rfl, HB⟩
      clear hy hR
      cases bb
      · gi_wp2
        refine bodyPost_ret (results_none rfl _ _ _) rfl ?_
        obtain ⟨M', hk, (⟨h, _⟩ | ⟨_, h⟩)⟩ := unhide HB
        · cases h
        · exact ⟨⟨_, rfl⟩, M', .inr ⟨_, hjl, h⟩⟩
      · have hJ4 : ∃ M', KeepsM M wr M' W3 ∧ J (j + 1) M' W3 := by
          obtain ⟨M', hk, (⟨_, h⟩ | ⟨h, _⟩)⟩ := unhide HB
          · exact ⟨M', hk, h⟩
          · cases h
        have HJ4 := hide hJ4
        clear hJ4 HB
        gi_wp2
        go_roundg g'
        case measure => omega
        case rel =>
          obtain ⟨M', hk, h⟩ := unhide HJ4
          exact ⟨j + 1, (k2 : Int) - 1, M', by omega, by go_num, by omega, hide ((unhide HK).trans hk), hide h⟩
theorem results_33 {fn : Func} {p q : Tmp} {tp tq : TypeId} (h : fn.results = #[.cell p tp, .cell q tq]) (tmps : Array Value) (P : Program) (w : World) (g1 g2 : Nat) (v1 v2 : Value)
    (hp : tmps.getD p undef = .pointer (some ⟨g1, 0, none⟩)) (hl : (loadVar tp ⟨g1, 0, none⟩).run P w = .ok v1 w)
    (hq : tmps.getD q undef = .pointer (some ⟨g2, 0, none⟩)) (hm : (loadVar tq ⟨g2, 0, none⟩).run P w = .ok v2 w) :
    (results fn tmps).run P w = .ok (.tuple #[v1, v2]) w := by
  have hp' : tmps[p]?.getD undef = .pointer (some ⟨g1, 0, none⟩) := by simpa using hp
  have hq' : tmps[q]?.getD undef = .pointer (some ⟨g2, 0, none⟩) := by simpa using hq
  simp [results, h, hp', hq', asAddr, Sem.run_bind, Result.andThen, hl, hm]
structure TuI (w : World) (H : Nat) (p x y : Value) (M : Nat → Prop) (V : World) : Prop where
  m : ∀ r, M r ↔ r = H + 1 ∨ r = H + 2
  bx : V.heap[H]? = some (.cells #[p] 28)
  r1 : V.heap[H + 1]? = some (.cells #[x] 3)
  r2 : V.heap[H + 2]? = some (.cells #[y] 4)
  below : Below H w V
  size : H + 4 ≤ V.heap.size
theorem TuI.abides {w V V' : World} {H : Nat} {p x y : Value} {M : Nat → Prop} {row : Option Nat} (h : TuI w H p x y M V) (hg : V.grownBy V' row) (hr : ∀ r, row = some r → ¬ M r ∧ ¬ (r ≤ H ∨ r = H + 3)) : TuI w H p x y M V' := by
  have hz := h.size
  refine ⟨h.m, (hg.block _ (by omega) (fun e => ?_)).trans h.bx, (hg.block _ (by omega) (fun e => ?_)).trans h.r1, (hg.block _ (by omega) (fun e => ?_)).trans h.r2, h.below.grown hg (by omega) (fun k e => ?_), Nat.le_trans h.size hg.size⟩
  · exact (hr _ e.symm).2 (.inl (Nat.le_refl _))
  · exact (hr _ e.symm).1 ((h.m _).2 (.inl rfl))
  · exact (hr _ e.symm).1 ((h.m _).2 (.inr rfl))
  · have := (hr k e).2; omega
set_option maxRecDepth 100000 in
set_option maxHeartbeats 4000000 in
theorem Turn_any (d : P22.Def) (s : P33.S) (b g o N sc A dc U uc : Nat) (da ua : Option Addr) (w : World) (h2 : w.cell? ⟨b, 2, none⟩ = some (.slice (some ⟨g, o, none⟩) N sc)) (h5 : w.cell? ⟨b, 5, none⟩ = some (.slice da A dc)) (h6 : w.cell? ⟨b, 6, none⟩ = some (.slice ua U uc))
    (hA : s.done.length = A) (hU : s.undone.length = U) (hdin : InN w da s.done) (huin : InN w ua s.undone) (hlt : ∀ i ∈ s.done, i < N) (hA9 : A ≤ 1000000) (hU9 : U ≤ 1000000)
    (hun : ∀ i, i < N → w.cell? ⟨g, o + i * 13 + 2, none⟩ = some (.string ⟨(P33.undoOf d i).toArray⟩)) :
    Calls Tryz.prog 24 #[.pointer (some ⟨b, 0, none⟩)] w fun e w' => e = .returned (.tuple #[.int .i64 ((P33.turn d s).getD 0 : Nat), .bool (P33.turn d s).isSome]) ∧ Below w.heap.size w w' := by
  obtain ⟨H, hH⟩ : ∃ H, w.heap.size = H := ⟨_, rfl⟩
  rw [hH]
  have hbH : b < H := by rw [← hH]; exact cellLt h2
  have hgH : ∀ i, i < N → g < H := fun i hi => by rw [← hH]; exact cellLt (hun i hi)
  have hdH : ∀ r, s.done ≠ [] → blockOf da r → r < H := fun r hn hr => by
    obtain ⟨o', rfl⟩ := hr
    obtain ⟨x, l', e⟩ : ∃ x l', s.done = x :: l' := by cases hd : s.done with | nil => exact absurd hd hn | cons x l' => exact ⟨x, l', rfl⟩
    obtain ⟨b', o2, e2, hc⟩ := hdin 0 x (by rw [e]; rfl)
    cases e2
    rw [← hH]
    exact cellLt hc
  have hinB : ∀ {a : Option Addr} {l : List Nat} (V : World), InN w a l → Below H w V → InN V a l := fun V h hV i x hx => by
    obtain ⟨b', o', e, hc⟩ := h i x hx
    exact ⟨b', o', e, (World.cell?_of_block (a := ⟨b', o' + i, none⟩) (hV.block b' (by rw [← hH]; exact cellLt hc))).trans hc⟩
  obtain ⟨W1, hW1, hb1, g0, g1, g2, hs1⟩ := new3 w (.cells #[.pointer (some ⟨b, 0, none⟩)] 28) (.cells #[.int .i64 0] 3) (.cells #[.bool false] 4) H hH
  obtain ⟨W2, hW2, hb2, g3, hs2⟩ := new1 W1 (.cells #[.slice da A dc] 48) (H + 1 + 1 + 1) hs1
  have hbk := Backward_any (.slice da A dc) W1 rfl da A dc rfl
  rw [hs1, hW2] at hbk
  have hbw : Below H w W2 := hb1.trans (hb2.mono (by omega))
  have hit := fun V (hgr : W2.grownBy V none) => backIter_seq (40 - 1) (H + 1 + 1 + 1) dc A da s.done (fun r => r ≤ H ∨ r = H + 3) (fun _ => False) V ((hgr.block _ (by omega) (by simp)).trans g3) hA
    (hinB V hdin (hbw.grown hgr (by omega) (fun k e => by cases e))) (fun r hn hr => .inl (Nat.le_of_lt (hdH r hn hr))) (.inr rfl) (fun r hr => by have := hgr.size; omega) hA9
  have hm0 : TuI w H (.pointer (some ⟨b, 0, none⟩)) (.int .i64 0) (.bool false) (fun r => r = H + 1 ∨ r = H + 2) W2 := ⟨fun r => Iff.rfl, (hb2.block _ (by omega)).trans g0, (hb2.block _ (by omega)).trans g1, (hb2.block _ (by omega)).trans g2, hbw, by omega⟩
  have hcn := fun V (hV : Below H w V) (x : Nat) => containsNat_any ua uc s.undone x V (hinB V huin hV) (by unfold maxLen; omega)
  have h2' : ∀ V, Below H w V → V.cell? ⟨b, 2, none⟩ = some (.slice (some ⟨g, o, none⟩) N sc) := fun V hV => (World.cell?_of_block (a := ⟨b, 2, none⟩) (hV.block b hbH)).trans h2
  have h6' : ∀ V, Below H w V → V.cell? ⟨b, 6, none⟩ = some (.slice ua U uc) := fun V hV => (World.cell?_of_block (a := ⟨b, 6, none⟩) (hV.block b hbH)).trans h6
  have hun' : ∀ V, Below H w V → ∀ i, i < N → V.cell? ⟨g, o + i * 13 + 2, none⟩ = some (.string ⟨(P33.undoOf d i).toArray⟩) := fun V hV i hi => (World.cell?_of_block (a := ⟨g, o + i * 13 + 2, none⟩) (hV.block g (hgH i hi))).trans (hun i hi)
  have h5W : W1.cell? ⟨b, 5, none⟩ = some (.slice da A dc) := (World.cell?_of_block (a := ⟨b, 5, none⟩) (hb1.block b hbH)).trans h5
  have hbx0 := (cell1 g0).1
  have hlL : (backL s.done).length = A := by rw [backL_len]; exact hA
  rw [hU] at hcn
  have HW1 := hide hW1
  have HBK := hide hbk
  have HIT := hide hit
  have HM0 := hide hm0
  have HCN := hide hcn
  have HH2 := hide h2'
  have HH6 := hide h6'
  have HUN := hide hun'
  have HLT := hide hlt
  have HLL := hide hlL
  clear hW1 hW2 hb1 hb2 g0 g1 g2 g3 hbk hbw hit hm0 hcn h2' h6' hun' hlt hlL h2 h5 h6 hdin huin hun hinB hdH hgH hA hU
  refine (callsIn_wide (n := 40)).1 ?_
  refine callsIn_of_wp_marks Tryz.func24 rfl trivial ?_ rfl
  simp only [Tryz.ntmps24, List.size_toArray, List.length_cons, List.length_nil, Nat.reduceAdd, Nat.reduceSub, Array.replicate_succ, Array.replicate_zero, List.push_toArray, List.append_toArray, List.nil_append, List.cons_append]
  refine wpIn_wide.2 ?_
  go_wp2
  go_step3
  go_upto_region 1 with fail
  try rw [hH]
  rw [unhide HW1]
  go_wp2
  go_step3
  go_wp2_with (go_at_call 76; refine (unhide HBK).mono ?_; rintro e w' ⟨rfl, hw⟩; have hw := hw.symm; subst hw)
  refine (wpIn_wide (n := 40)).1 ?_
  generalize hA : ({ tmps := _, defers := _ } : Act) = A'
  refine wpIn_rangeFunc_MA rfl (by omega) (gf := 121) (lb := #[.pointer (some ⟨H + 1 + 1 + 1, 0, none⟩)]) (by rw [← hA]; rfl) trivial (enters_of Tryz.func121 (by kernel_rfl) rfl)
    (encs := encBI) (backL s.done) (fun r => r ≤ H ∨ r = H + 3) (fun _ => False) (fun r hr => by omega)
    (fun V hgr _ => unhide HIT V hgr) (fun _ => rfl)
    (fun j M V => TuI w H (.pointer (some ⟨b, 0, none⟩)) (.int .i64 0) (.bool false) M V ∧ ∀ y ∈ s.done.reverse.take j, P33.back d s y = false)
    (fun c j M V => c = .ret ∧ ∃ i : Nat, TuI w H (.pointer (some ⟨b, 0, none⟩)) (.int .i64 (i : Int)) (.bool true) M V ∧ P33.turn d s = some i)
    (fun j M V V' row hi hg hr => ⟨hi.1.abides hg hr, hi.2⟩) (fun c j M V V' row hi hg hr => ⟨hi.1, hi.2.choose, hi.2.choose_spec.1.abides hg hr, hi.2.choose_spec.2⟩)
    (fun j M V hi r hr => ⟨by have := (hi.1.m r).1 hr; have := hi.1.size; omega, by have := (hi.1.m r).1 hr; omega⟩)
    (fun r => r = H + 1 ∨ r = H + 2) (fun r hr => hr.elim)
    ⟨unhide HM0, by simp⟩
    (fun j x M a' V => TuI w H (.pointer (some ⟨b, 0, none⟩)) (.int .i64 0) (.bool false) M V ∧ (∀ y ∈ s.done.reverse.take j, P33.back d s y = false) ∧ a' = ((A'.put (some 13) (.int .i64 x.1)).put (some 14) (.int .i64 x.2)).put (some 5) (.int .i64 x.2))
    ?hB ?assign ?body ?done ?stop
  case hB =>
    rintro j x M a' V V' row ⟨hi, h0, rfl⟩ hg hr
    exact ⟨hi.abides hg hr, h0, rfl⟩
  case assign =>
    rintro l2 j ⟨xk, xi⟩ M V K hx ⟨hi, h0⟩ hV hK
    subst hA
    unfold encBI
    have hKK := hK M _ V ⟨rfl, rfl, rfl, Nat.le_refl _, fun _ _ _ => rfl⟩ (fun r hr => .inl hr) ⟨hi, h0, rfl⟩
    have HK := hide hKK
    clear hKK hK
    gi_wp2
    exact unhide HK
  case body =>
    rintro l2 j ⟨xk, xi⟩ M a' V hx ⟨hi, h0, rfl⟩ hV
    subst hA
    obtain ⟨e1, e2, e3⟩ := backL_get hx
    simp only at e1 e2 e3
    have hxN := unhide HLT xi (List.mem_of_getElem? e2)
    have hxN2 : (xi : Int) < (N : Int) := by omega
    obtain ⟨c0, _⟩ := cell1 hi.bx
    obtain ⟨c1, f1⟩ := cell1 hi.r1
    obtain ⟨c2, f2⟩ := cell1 hi.r2
    have k2 := unhide HH2 V hi.below
    have k6 := unhide HH6 V hi.below
    have ku := unhide HUN V hi.below xi hxN
    have hcn := unhide HCN V hi.below xi
    have hfin : P33.back d s xi = false → ∀ y ∈ s.done.reverse.take (j + 1), P33.back d s y = false := fun hb y hy => by
      rw [List.take_add_one, e3] at hy
      rcases List.mem_append.1 hy with hy | hy
      · exact h0 y hy
      · simp at hy; rw [hy]; exact hb
    have htu : P33.back d s xi = true → P33.turn d s = some xi := fun hb => find_take e3 h0 hb
    have HFIN := hide hfin
    have HTU := hide htu
    have HI := hide hi
    obtain ⟨ud, hud⟩ : ∃ ud, P33.undoOf d xi = ud := ⟨_, rfl⟩
    have hbk : P33.back d s xi = (!ud.isEmpty && !decide (xi ∈ s.undone)) := by rw [← hud]; rfl
    rw [hud] at ku
    clear hfin htu hi h0 hx e1 e2 e3 hud
    cases ud with
    | nil =>
      have HX := hide (unhide HFIN (by rw [hbk]; rfl))
      clear hcn hbk
      gi_wp2
      refine ⟨trivial, ?_⟩
      gi_wp2
      exact ⟨M, KeepsM.refl _ _, unhide HI, unhide HX⟩
    | cons uc ur =>
      obtain ⟨bb, hbb⟩ : ∃ bb, decide (xi ∈ s.undone) = bb := ⟨_, rfl⟩
      rw [hbb] at hcn hbk
      have HC := hide hcn
      clear hcn hbb
      cases bb with
      | true =>
        have HX := hide (unhide HFIN (by rw [hbk]; rfl))
        clear hbk
        gi_wp2_with (refine ⟨trivial, ?_⟩; gi_at_call 77; refine (CallsIn.inRound l2 (callsIn_wide.2 (unhide HC))).mono ?_; rintro e w' ⟨rfl, hw⟩; have hw := hw.symm; subst hw)
        exact ⟨M, KeepsM.refl _ _, unhide HI, unhide HX⟩
      | false =>
        have HX := hide (unhide HTU (by rw [hbk]; rfl))
        clear hbk
        gi_wp2_with (refine ⟨trivial, ?_⟩; gi_at_call 77; refine (CallsIn.inRound l2 (callsIn_wide.2 (unhide HC))).mono ?_; rintro e w' ⟨rfl, hw⟩; have hw := hw.symm; subst hw)
        have hi := unhide HI
        have hz := hi.size
        have hg1 := grownBy_setCell' V (H + 1) (.int .i64 (xi : Int))
        have hg2 := grownBy_setCell' (V.setCell ⟨H + 1, 0, none⟩ (.int .i64 (xi : Int))) (H + 2) (.bool true)
        refine ⟨M, (KeepsM.grown hg1 (fun r e => by cases e; exact .inl ((hi.m _).2 (.inl rfl)))).trans (.grown hg2 (fun r e => by cases e; exact .inl ((hi.m _).2 (.inr rfl)))), rfl, xi, ⟨hi.m, ?_, ?_, ?_, ?_, ?_⟩, unhide HX⟩
        · exact (hg2.block _ (by simp; omega) (by simp)).trans ((hg1.block _ (by omega) (by simp)).trans hi.bx)
        · exact (hg2.block _ (by simp; omega) (by simp)).trans (put1 hi.r1 _)
        · exact put1 ((hg1.block _ (by omega) (by simp)).trans hi.r2) _
        · exact (hi.below.grown hg1 (by omega) (fun k e => by cases e; omega)).grown hg2 (by simp; omega) (fun k e => by cases e; omega)
        · simp; omega
  case done =>
    rintro D M V rfl hMD ⟨hi, h0⟩ hK
    subst hA
    rw [List.take_of_length_le (by simp [backL_len])] at h0
    have ht : P33.turn d s = none := by
      unfold P33.turn
      rw [List.find?_eq_none]
      intro x hx hb
      rw [h0 x hx] at hb
      cases hb
    obtain ⟨c1, f1⟩ := cell1 hi.r1
    obtain ⟨c2, f2⟩ := cell1 hi.r2
    have HI := hide hi
    have HT := hide ht
    clear hi h0 ht
    go_wp2
    have hi := unhide HI
    have hz := hi.size
    have hg1 := grownBy_setCell' V (H + 1) (.int .i64 0)
    have hg2 := grownBy_setCell' (V.setCell ⟨H + 1, 0, none⟩ (.int .i64 0)) (H + 2) (.bool false)
    have hK2 : ((V.setCell ⟨H + 1, 0, none⟩ (.int .i64 0)).setCell ⟨H + 2, 0, none⟩ (.bool false)).heap[W2.heap.size]? = some (.deferred (some [])) := (Below.heap_setCell _ _ _ _ (by show W2.heap.size ≠ H + 2; omega)).trans ((Below.heap_setCell _ _ _ _ (by show W2.heap.size ≠ H + 1; omega)).trans hK)
    refine ⟨by simp, .inl ⟨_, _, rfl, run_takeDeferred hK2, ?_⟩⟩
    have hc1 := (World.putObj_heap_other (o := .deferred none) (show H + 1 ≠ W2.heap.size by omega)).trans ((hg2.block _ (by simp; omega) (by simp)).trans (put1 hi.r1 (.int .i64 0)))
    have hc2 := (World.putObj_heap_other (o := .deferred none) (show H + 2 ≠ W2.heap.size by omega)).trans (put1 ((hg1.block _ (by omega) (by simp)).trans hi.r2) (.bool false))
    refine ⟨_, results_33 rfl _ _ _ (H + 1) (H + 2) _ _ rfl (run_loadVar_1 _ _ _ _ _ Tryz.underlying3 rfl (cell1 hc1).1) rfl (run_loadVar_1 _ _ _ _ _ Tryz.underlying4 rfl (cell1 hc2).1), by rw [unhide HT]; rfl, ?_⟩
    exact ((hi.below.grown hg1 (by omega) (fun k e => by cases e; omega)).grown hg2 (by simp; omega) (fun k e => by cases e; omega)).grown (grownBy_putObj' _ W2.heap.size (.deferred none)) (by simp; omega) (fun k e => by cases e; omega)
  case stop =>
    rintro D c j M V rfl hMD hj ⟨rfl, i, hi, ht⟩ hK
    subst hA
    have HI := hide hi
    have HT := hide ht
    clear hi ht
    gi_wp2
    have hi := unhide HI
    have hz := hi.size
    refine ⟨by simp, .inl ⟨_, _, rfl, run_takeDeferred hK, ?_⟩⟩
    have hc1 := (World.putObj_heap_other (o := .deferred none) (show H + 1 ≠ W2.heap.size by omega)).trans hi.r1
    have hc2 := (World.putObj_heap_other (o := .deferred none) (show H + 2 ≠ W2.heap.size by omega)).trans hi.r2
    refine ⟨_, results_33 rfl _ _ _ (H + 1) (H + 2) _ _ rfl (run_loadVar_1 _ _ _ _ _ Tryz.underlying3 rfl (cell1 hc1).1) rfl (run_loadVar_1 _ _ _ _ _ Tryz.underlying4 rfl (cell1 hc2).1), by rw [unhide HT]; rfl, ?_⟩
    exact hi.below.grown (grownBy_putObj' _ W2.heap.size (.deferred none)) (by omega) (fun k e => by cases e; omega)
end Go.Proofs.YtefokfbgpfcbkaaGreat
