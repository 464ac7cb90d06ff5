/- Lemmas of this claim (a part of its texts, kept as far as the claim reaches them). -/
import Derived.Test.YtefokfbgpfcbkaaGreatPlain28Z
import Derived.Test.YtefokfbgpfcbkaaGreatN26xZ
import Derived.Test.YtefokfbgpfcbkaaGreatN21xZ
import Derived.Test.YtefokfbgpfcbkaaGreatShelfZ
namespace Go.Proofs.YtefokfbgpfcbkaaGreat
set_option linter.unusedVariables false
set_option linter.unusedSimpArgs false
namespace P33
open P22 (Def Step)
structure Ans where
  step : Int
  attempt : Int
  undo : Bool
  outcome : Nat
structure S where
  w : Nat → Bool → Int × Bool
  done : List Nat
  undone : List Nat
  failed : Bool
  status : Nat
def most (s : P22.Try) : Int := min (max (P28.meant s.most 1) 0) 10
def more (s : P22.Try) (t : Int) : Bool := decide (1 ≤ t) && decide (t < most s)
def undoOf (d : Def) (i : Nat) : List UInt8 := (P28.undos d).getD i []
def back (d : Def) (s : S) (i : Nat) : Bool := !(undoOf d i).isEmpty && !decide (i ∈ s.undone)
def turn (d : Def) (s : S) : Option Nat := s.done.reverse.find? (back d s)
def todo (d : Def) (s : S) : List Nat := s.done.reverse.filter fun i => !(undoOf d i).isEmpty
structure Inv (d : Def) (s : S) : Prop where
  nodup : s.done.Nodup
  lt : ∀ i ∈ s.done, i < d.steps.length
  open_ : ∀ i, (s.w i false).2 = true → i ∉ s.done ∧ i < d.steps.length
  und : s.undone = (todo d s).take s.undone.length
  len : s.undone.length ≤ (todo d s).length
  uopen : ∀ i, (s.w i true).2 = true → turn d s = some i ∧ (∀ j, (s.w j false).2 = false) ∧ s.status ≠ 1
  uu : s.undone ≠ [] → (∀ j, (s.w j false).2 = false) ∧ s.status ≠ 1
end P33
namespace P31
theorem more_lt {t : P22.Try} {k : Int} (h : P33.more t k = true) : 1 ≤ k ∧ k ≤ 9 := by
  unfold P33.more P33.most at h
  simp only [Bool.and_eq_true, decide_eq_true_eq] at h
  omega
end P31
namespace P32
theorem len_le : ∀ (n : Nat) (l : List Nat), l.Nodup → (∀ x ∈ l, x < n) → l.length ≤ n
  | 0, l, _, h => by
    cases l with
    | nil => simp
    | cons x l => exact absurd (h x (by simp)) (by omega)
  | n + 1, l, hn, h => by
    by_cases hm : n ∈ l
    · have h1 := len_le n (l.erase n) (hn.erase n) (fun x hx => by
        have h2 := (List.Nodup.mem_erase_iff hn).1 hx
        have := h x h2.2
        have := h2.1
        omega)
      rw [List.length_erase_of_mem hm] at h1
      omega
    · have := len_le n l hn (fun x hx => by
        have h1 := h x hx
        have : x ≠ n := fun e => hm (e ▸ hx)
        omega)
      omega
end P32
end Go.Proofs.YtefokfbgpfcbkaaGreat
namespace Go.Proofs.YtefokfbgpfcbkaaGreat
set_option linter.unusedVariables false
set_option linter.unusedSimpArgs false
open Go.RowKit
abbrev mdC (d : PDef) (rf : Value) (bm : Nat) (dn un : Value) (fl : Bool) (st : Int) : Obj :=
  .cells #[.string ⟨d.name.toArray⟩, .string ⟨d.text.toArray⟩, .slice d.sa d.steps.length d.sc, rf, .map (some bm), dn, un, .bool fl, .int .u8 st] 123
theorem md_cell {W : World} {b k : Nat} {cs : Array Value} {T : TypeId} {v : Value} (h : W.heap[b]? = some (.cells cs T)) (hk : cs[k]? = some v) : W.cell? ⟨b, k, none⟩ = some v := by
  simp only [World.cell?, h, Option.bind_some]
  exact hk
end Go.Proofs.YtefokfbgpfcbkaaGreat
namespace Go.Proofs.YtefokfbgpfcbkaaGreat
set_option linter.unusedVariables false
set_option linter.unusedSimpArgs false
open Go.RowKit
def stT (m f k : Int) : PSt := { PSt.zero with most := m, first := f, factor := k }
theorem run_field_tries (w : World) (a0 a1 a2 a3 a4 a5 a6 a7 a8 a9 a10 a11 a12 : Value) : (Instr.field 63 (.agg #[a0, a1, a2, a3, a4, a5, a6, a7, a8, a9, a10, a11, a12]) 4).run Tryz.prog w = .ok (.agg #[a4, a5, a6]) w := by kernel_rfl
attribute [local go_sem] run_field_tries
theorem real33 (m f k : Int) (V : World) : Calls Tryz.prog 166 #[.agg #[.string ⟨#[]⟩, .string ⟨#[]⟩, .string ⟨#[]⟩, .slice none 0 0, .int .i64 m, .int .i64 f, .int .i64 k, .int .i64 0, .int .u8 0, .string ⟨#[]⟩, .slice none 0 0, .slice none 0 0, .int .i64 0]] V fun e w' => e = .returned (.agg #[.string ⟨#[]⟩, .string ⟨#[]⟩, .string ⟨#[]⟩, .slice none 0 0, .int .i64 (P28.meant m 1), .int .i64 f, .int .i64 (P28.meant k 1), .int .i64 (P28.meant 0 100), .int .u8 0, .string ⟨#[]⟩, .slice none 0 0, .slice none 0 0, .int .i64 0]) ∧ Below V.heap.size V w' := Real_any (stT m f k) V
theorem put3a {W : World} {g : Nat} {T : TypeId} {a b c : Value} (h : W.heap[g]? = some (.cells #[a, b, c] T)) (x : Value) : (W.setCell ⟨g, 0, none⟩ x).heap[g]? = some (.cells #[x, b, c] T) := by simp [World.setCell, Array.getElem?_modify, h]
theorem put3b {W : World} {g : Nat} {T : TypeId} {a b c : Value} (h : W.heap[g]? = some (.cells #[a, b, c] T)) (x : Value) : (W.setCell ⟨g, 1, none⟩ x).heap[g]? = some (.cells #[a, x, c] T) := by simp [World.setCell, Array.getElem?_modify, h]
theorem put3c {W : World} {g : Nat} {T : TypeId} {a b c : Value} (h : W.heap[g]? = some (.cells #[a, b, c] T)) (x : Value) : (W.setCell ⟨g, 2, none⟩ x).heap[g]? = some (.cells #[a, b, x] T) := by simp [World.setCell, Array.getElem?_modify, h]
set_option maxRecDepth 100000 in
set_option maxHeartbeats 2000000 in
theorem meant33_any (m f k : Int) (w : World) : Calls Tryz.prog 161 #[.agg #[.int .i64 m, .int .i64 f, .int .i64 k]] w fun e w' => e = .returned (.agg #[.int .i64 (min (max (P28.meant m 1) 0) 10), .int .i64 (min (max f 0) 1000), .int .i64 (min (max (P28.meant k 1) 0) 1000)]) ∧ Below w.heap.size w w' := by
  obtain ⟨H, hH⟩ : ∃ H, w.heap.size = H := ⟨_, rfl⟩
  rw [hH]
  have hr := fun V => real33 m f k V
  obtain ⟨M, hM⟩ : ∃ x, P28.meant m 1 = x := ⟨_, rfl⟩
  obtain ⟨K, hK⟩ : ∃ x, P28.meant k 1 = x := ⟨_, rfl⟩
  obtain ⟨Li, hLi⟩ : ∃ x, P28.meant 0 100 = x := ⟨_, rfl⟩
  rw [hM, hK, hLi] at hr
  rw [hM, hK]
  obtain ⟨M2, hM2⟩ : ∃ x, min (max M 0) 10 = x := ⟨_, rfl⟩
  obtain ⟨F2, hF2⟩ : ∃ x, min (max f 0) 1000 = x := ⟨_, rfl⟩
  obtain ⟨K2, hK2⟩ : ∃ x, min (max K 0) 1000 = x := ⟨_, rfl⟩
  rw [hM2, hF2, hK2]
  have HM2 := hide hM2
  have HF2 := hide hF2
  have HK2 := hide hK2
  clear hM2 hF2 hK2
  obtain ⟨W1, hW1, hb1, g0, g1, hs1⟩ := new2 w (.cells #[.int .i64 m, .int .i64 f, .int .i64 k] 58) (.cells #[.int .i64 0, .int .i64 0, .int .i64 0] 58) H hH
  have HR := hide hr
  have HW1 := hide hW1
  have HB1 := hide hb1
  have HG0 := hide g0
  have HG1 := hide g1
  obtain ⟨⟨k0, f0⟩, ⟨k1, f1⟩, ⟨k2, f2⟩⟩ := cell3 g0
  clear hr hM hK hLi hW1 hb1 g0 g1
  go_enter Tryz.func161, Tryz.ntmps161
  go_upto_region 1 with fail
  try rw [hH]
  rw [unhide HW1]
  go_upto_region 2 with (go_at_call 166; with_reducible refine (unhide HR _).mono ?_; rintro e w2 ⟨rfl, b2⟩; have hg := (b2.block H (by omega)).trans (unhide HG0); obtain ⟨⟨q0, r0⟩, ⟨q1, r1⟩, ⟨q2, r2⟩⟩ := cell3 hg; have HG := hide hg; clear hg)
  obtain ⟨W3, hW3⟩ : ∃ W3, ((w2.setCell ⟨H, 0, none⟩ (.int .i64 M)).setCell ⟨H, 1, none⟩ (.int .i64 f)).setCell ⟨H, 2, none⟩ (.int .i64 K) = W3 := ⟨_, rfl⟩
  rw [hW3]
  have hz := b2.size
  have hb3 : Below H w W3 := by
    rw [← hW3]
    exact ((((unhide HB1).trans (b2.mono (by omega))).setCell (p := ⟨H, 0, none⟩) (Nat.le_refl H) _).setCell (p := ⟨H, 1, none⟩) (Nat.le_refl H) _).setCell (p := ⟨H, 2, none⟩) (Nat.le_refl H) _
  have g3 : W3.heap[H]? = some (.cells #[.int .i64 M, .int .i64 f, .int .i64 K] 58) := by rw [← hW3]; exact put3c (put3b (put3a (unhide HG) _) _) _
  have h3 : W3.heap[H + 1]? = some (.cells #[.int .i64 0, .int .i64 0, .int .i64 0] 58) := by
    rw [← hW3, Below.heap_setCell _ _ _ _ (by show H + 1 ≠ H; omega), Below.heap_setCell _ _ _ _ (by show H + 1 ≠ H; omega), Below.heap_setCell _ _ _ _ (by show H + 1 ≠ H; omega)]
    exact (b2.block (H + 1) (by omega)).trans (unhide HG1)
  clear hW3 q0 r0 q1 r1 q2 r2 b2 k0 f0 k1 f1 k2 f2 HG0 HG1 HG HB1 HR
  have HB3 := hide hb3
  have HG3 := hide g3
  have HH3 := hide h3
  obtain ⟨⟨q0, r0⟩, ⟨q1, r1⟩, ⟨q2, r2⟩⟩ := cell3 g3
  clear hb3 g3 h3
  go_upto_region 3 with fail
  try rw [unhide HM2]
  obtain ⟨W4, hW4⟩ : ∃ W4, W3.setCell ⟨H, 0, none⟩ (.int .i64 M2) = W4 := ⟨_, rfl⟩
  rw [hW4]
  have g4 : W4.heap[H]? = some (.cells #[.int .i64 M2, .int .i64 f, .int .i64 K] 58) := by rw [← hW4]; exact put3a (unhide HG3) _
  have b4 : Below H w W4 := by rw [← hW4]; exact (unhide HB3).setCell (p := ⟨H, 0, none⟩) (Nat.le_refl H) _
  have i4 : W4.heap[H + 1]? = some (.cells #[.int .i64 0, .int .i64 0, .int .i64 0] 58) := by rw [← hW4, Below.heap_setCell _ _ _ _ (by show H + 1 ≠ H; omega)]; exact unhide HH3
  clear q0 r0 q1 r1 q2 r2 hW4 HG3 HB3 HH3
  obtain ⟨⟨q0, r0⟩, ⟨q1, r1⟩, ⟨q2, r2⟩⟩ := cell3 g4
  have HG4 := hide g4
  have HB4 := hide b4
  have HI4 := hide i4
  clear g4 b4 i4
  go_upto_region 4 with fail
  try rw [unhide HF2]
  obtain ⟨W5, hW5⟩ : ∃ W5, W4.setCell ⟨H, 1, none⟩ (.int .i64 F2) = W5 := ⟨_, rfl⟩
  rw [hW5]
  have g5 : W5.heap[H]? = some (.cells #[.int .i64 M2, .int .i64 F2, .int .i64 K] 58) := by rw [← hW5]; exact put3b (unhide HG4) _
  have b5 : Below H w W5 := by rw [← hW5]; exact (unhide HB4).setCell (p := ⟨H, 1, none⟩) (Nat.le_refl H) _
  have i5 : W5.heap[H + 1]? = some (.cells #[.int .i64 0, .int .i64 0, .int .i64 0] 58) := by rw [← hW5, Below.heap_setCell _ _ _ _ (by show H + 1 ≠ H; omega)]; exact unhide HI4
  clear q0 r0 q1 r1 q2 r2 hW5 HG4 HB4 HI4
  obtain ⟨⟨q0, r0⟩, ⟨q1, r1⟩, ⟨q2, r2⟩⟩ := cell3 g5
  have HG5 := hide g5
  have HB5 := hide b5
  have HI5 := hide i5
  clear g5 b5 i5
  go_upto_region 5 with fail
  try rw [unhide HK2]
  obtain ⟨W6, hW6⟩ : ∃ W6, W5.setCell ⟨H, 2, none⟩ (.int .i64 K2) = W6 := ⟨_, rfl⟩
  rw [hW6]
  have g6 : W6.heap[H]? = some (.cells #[.int .i64 M2, .int .i64 F2, .int .i64 K2] 58) := by rw [← hW6]; exact put3c (unhide HG5) _
  have b6 : Below H w W6 := by rw [← hW6]; exact (unhide HB5).setCell (p := ⟨H, 2, none⟩) (Nat.le_refl H) _
  have i6 : W6.heap[H + 1]? = some (.cells #[.int .i64 0, .int .i64 0, .int .i64 0] 58) := by rw [← hW6, Below.heap_setCell _ _ _ _ (by show H + 1 ≠ H; omega)]; exact unhide HI5
  clear q0 r0 q1 r1 q2 r2 hW6 HG5 HB5 HI5
  obtain ⟨⟨q0, r0⟩, ⟨q1, r1⟩, ⟨q2, r2⟩⟩ := cell3 g6
  obtain ⟨⟨x0, y0⟩, ⟨x1, y1⟩, ⟨x2, y2⟩⟩ := cell3 i6
  have HB6 := hide b6
  have HI6 := hide i6
  clear g6 b6 i6
  go_wp2
  (try simp only [Exit.inBlock, Exit.then])
  have g7 := put3c (put3b (put3a (unhide HI6) (.int .i64 M2)) (.int .i64 F2)) (.int .i64 K2)
  refine bodyPost_ret (results_c1 rfl _ _ _ (H + 1) _ rfl (run_loadVar_row _ _ _ _ _ _ _ g7 Tryz.underlying58 rfl (by kernel_rfl)) ) rfl ?_
  refine ⟨rfl, ?_⟩
  exact (((unhide HB6).setCell (p := ⟨H + 1, 0, none⟩) (Nat.le_succ H) _).setCell (p := ⟨H + 1, 1, none⟩) (Nat.le_succ H) _).setCell (p := ⟨H + 1, 2, none⟩) (Nat.le_succ H) _
theorem run_field_most (w : World) (a b c : Value) : (Instr.field 58 (.agg #[a, b, c]) 0).run Tryz.prog w = .ok a w := by kernel_rfl
attribute [local go_sem] run_field_most
theorem More_any (m f k n : Int) (w : World) : Calls Tryz.prog 119 #[.agg #[.int .i64 m, .int .i64 f, .int .i64 k], .int .i64 n] w fun e w' => e = .returned (.bool (P33.more ⟨m, f, k⟩ n)) ∧ Below w.heap.size w w' := by
  obtain ⟨H, hH⟩ : ∃ H, w.heap.size = H := ⟨_, rfl⟩
  rw [hH]
  obtain ⟨M, hM⟩ : ∃ x, min (max (P28.meant m 1) 0) 10 = x := ⟨_, rfl⟩
  have hr := fun V => meant33_any m f k V
  rw [show P33.more ⟨m, f, k⟩ n = (decide (1 ≤ n) && decide (n < M)) by rw [← hM]; rfl]
  rw [hM] at hr
  obtain ⟨W1, hW1, hb1, g0, hs1⟩ := new1 w (.cells #[.int .i64 m, .int .i64 f, .int .i64 k] 58) H hH
  obtain ⟨⟨q0, r0⟩, ⟨q1, r1⟩, ⟨q2, r2⟩⟩ := cell3 g0
  have HR := hide hr
  have HW1 := hide hW1
  have HB1 := hide hb1
  clear hr hM hW1 hb1 g0
  by_cases h1 : 1 ≤ n
  · go_enter Tryz.func119, Tryz.ntmps119
    go_upto_region 1 with fail
    try rw [hH]
    rw [unhide HW1]
    go_wp2_with (go_at_call 161; with_reducible refine (unhide HR _).mono ?_; rintro e w2 ⟨rfl, b2⟩)
    go_ret
    exact ⟨ret_bool (by simp [h1]), (unhide HB1).trans (b2.mono (by omega))⟩
  · have h2 : n < 1 := by omega
    go_enter Tryz.func119, Tryz.ntmps119
    go_upto_region 1 with fail
    try rw [hH]
    rw [unhide HW1]
    go_wp2
    go_ret
    exact ⟨ret_bool (by simp; omega), unhide HB1⟩
end Go.Proofs.YtefokfbgpfcbkaaGreat
namespace Go.Proofs.YtefokfbgpfcbkaaGreat
set_option linter.unusedVariables false
set_option linter.unusedSimpArgs false
open Go.RowKit
end Go.Proofs.YtefokfbgpfcbkaaGreat
namespace Go.Proofs.YtefokfbgpfcbkaaGreat
set_option linter.unusedVariables false
set_option linter.unusedSimpArgs false
open Go.RowKit Go.Shelf
def Iv (W : World) (v : Value) (zs : List Int) : Prop := ∃ a c, v = .slice a zs.length c ∧ (zs.length ≤ c ∧ c ≤ maxLen) ∧ ∀ (j : Nat) z, zs[j]? = some z → ∃ b o, a = some ⟨b, o, none⟩ ∧ W.cell? ⟨b, o + j, none⟩ = some (.int .i64 z)
theorem Iv.of_row {W : World} {B : Nat} {v : Value} {zs : List Int} (h : W.ownsRow B 3 1 v zs.length (zs.map (Value.int .i64))) : Iv W v zs := by
  rcases h.2 with ⟨rfl, h0⟩ | ⟨g, cap, cur, rfl, hb, hh, hc, hm, hsz, htk⟩
  · have : zs = [] := List.eq_nil_of_length_eq_zero h0
    subst this
    exact ⟨none, 0, rfl, ⟨Nat.le_refl _, Nat.zero_le _⟩, fun j z hj => by simp at hj⟩
  · refine ⟨_, cap, rfl, ⟨hc, hm⟩, fun j z hj => ⟨g, 0, rfl, ?_⟩⟩
    have hil := (List.getElem?_eq_some_iff.1 hj).1
    have h1 : (zs.map (Value.int .i64))[j]? = some (.int .i64 z) := by rw [List.getElem?_map, hj]; rfl
    rw [← htk, List.getElem?_take_of_lt (by omega)] at h1
    rw [Nat.zero_add, cell_of_row W g j cur _ (0, 0) hh]
    simpa using h1
theorem cloneI_any (v : Value) (zs : List Int) (w : World) (h : Iv w v zs) (hl : zs.length ≤ 1000000) : Calls Tryz.prog 78 #[v] w fun e w' => ∃ v', e = .returned v' ∧ Iv w' v' zs ∧ Below w.heap.size w w' := by
  obtain ⟨a, c, rfl, _, hc⟩ := h
  match zs, hl, hc with
  | [], hl, hc =>
    cases a with
    | none =>
      refine (Tryz.slices_Clone_int_nil 0 c w).mono ?_
      rintro e w' ⟨rfl, rfl⟩
      exact ⟨_, rfl, ⟨none, 0, rfl, ⟨Nat.le_refl _, Nat.zero_le _⟩, fun j z hj => by simp at hj⟩, Below.refl _ _⟩
    | some a =>
      refine (Tryz.slices_Clone_int_zero a c w).mono ?_
      rintro e w' ⟨v', rfl, hr, _, hb⟩
      exact ⟨v', rfl, .of_row (zs := []) hr, hb⟩
  | z :: zs, hl, hc =>
    obtain ⟨b, o, rfl, _⟩ := hc 0 z rfl
    refine (Tryz.slices_Clone_int b o (z :: zs).length c (z :: zs) w (Nat.le_refl _) (by omega) (fun j hj => ?_)).mono ?_
    · obtain ⟨b', o', e, h1⟩ := hc j _ (List.getElem?_eq_getElem hj)
      cases e
      rw [h1]
      simp [List.getD_eq_getElem?_getD, List.getElem?_eq_getElem hj]
    · rintro e w' ⟨v', rfl, hr, _, hb⟩
      rw [List.take_length] at hr
      exact ⟨v', rfl, .of_row hr, hb⟩
end Go.Proofs.YtefokfbgpfcbkaaGreat
namespace Go.Proofs.YtefokfbgpfcbkaaGreat
set_option linter.unusedVariables false
set_option linter.unusedSimpArgs false
open Go.RowKit
end Go.Proofs.YtefokfbgpfcbkaaGreat
namespace Go.Proofs.YtefokfbgpfcbkaaGreat
set_option linter.unusedVariables false
set_option linter.unusedSimpArgs false
open Go.RowKit
end Go.Proofs.YtefokfbgpfcbkaaGreat
namespace Go.Proofs.YtefokfbgpfcbkaaGreat
set_option linter.unusedVariables false
set_option linter.unusedSimpArgs false
open Go.RowKit
attribute [local go_sem] Oper.semAt_some
end Go.Proofs.YtefokfbgpfcbkaaGreat
