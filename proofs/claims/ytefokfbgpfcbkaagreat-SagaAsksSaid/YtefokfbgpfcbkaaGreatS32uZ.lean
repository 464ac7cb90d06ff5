/- Lemmas of this claim (a part of its texts, kept as far as the claim reaches them). -/
import Derived.Test.YtefokfbgpfcbkaaGreatS32rZ
import Derived.Test.YtefokfbgpfcbkaaGreatM33zZ
import Derived.Test.YtefokfbgpfcbkaaGreatM33sZ
import Derived.Test.YtefokfbgpfcbkaaGreatN26xZ
namespace Go.Proofs.YtefokfbgpfcbkaaGreat
set_option linter.unusedVariables false
set_option linter.unusedSimpArgs false
open Go.RowKit
structure SgY (b : Nat) (D : P22.Def) (s : P32.S) (M R : Nat → Prop) (V : World) : Prop where
  ex : ∃ (bm rb C : Nat) (vs : Nat → Value) (d : PDef) (dn un : Value), Sg V b bm rb C vs d dn un s ∧ d.bare = D ∧ M = Mb b bm dn un ∧ R = fun g => gridB rb vs d.steps.length g ∨ d.blk g
  inv : P32.Inv D s
def OrdV (V : World) (v : Value) (os : List P32.Order) : Prop := ∃ a c, v = .slice a os.length c ∧ os.length ≤ c ∧ InOr V a os
def SgE (b : Nat) (D : P22.Def) (x : P32.S × List P32.Order) (M R : Nat → Prop) (V : World) (v : Value) (V' : World) : Prop := OrdV V' v x.2 ∧ ∃ M', SgY b D x.1 M' R V' ∧ KW M V V' ∧ (∀ g, M' g → M g ∨ V.heap.size ≤ g) ∧ ∀ g, v.ownBlock = some g → ¬ M' g ∧ g < V'.heap.size
theorem SE.ev {V W : World} {b bm rb C : Nat} {vs : Nat → Value} {d : PDef} {dn un v : Value} {D : P22.Def} {x : P32.S × List P32.Order} (h : SE V (Mb b bm dn un) b bm rb C vs d x v W) (hd : d.bare = D) (hi : P32.Inv D x.1) : SgE b D x (Mb b bm dn un) (fun g => gridB rb vs d.steps.length g ∨ d.blk g) V v W := by
  obtain ⟨dn', un', k1, k2, k3, k4, k5⟩ := h
  obtain ⟨a, c, e, h1, h2⟩ := k2.slice
  exact ⟨⟨a, c, e, h1, h2⟩, _, ⟨⟨bm, rb, C, vs, d, dn', un', k1, hd, rfl, rfl⟩, hi⟩, k5, k4, fun g hg => ⟨(k3 g hg).1, (k2.lt hg).2⟩⟩
namespace SgY
variable {V V' : World} {b : Nat} {D : P22.Def} {s : P32.S} {M R : Nat → Prop}
theorem lt (h : SgY b D s M R V) {g : Nat} (hg : M g ∨ R g) : g < V.heap.size := by
  obtain ⟨⟨bm, rb, C, vs, d, dn, un, h1, h2, rfl, rfl⟩, h3⟩ := h
  exact h1.lt hg
theorem keep (h : SgY b D s M R V) (hs : V.heap.size ≤ V'.heap.size) (hk : ∀ g, M g ∨ R g → V'.heap[g]? = V.heap[g]?) : SgY b D s M R V' := by
  obtain ⟨⟨bm, rb, C, vs, d, dn, un, h1, h2, rfl, rfl⟩, h3⟩ := h
  exact ⟨⟨bm, rb, C, vs, d, dn, un, h1.keep hs hk, h2, rfl, rfl⟩, h3⟩
theorem below (h : SgY b D s M R V) (hb : Below V.heap.size V V') : SgY b D s M R V' := h.keep hb.size (fun g hg => hb.block g (h.lt hg))
theorem start (h : SgY b D s M R V) (n : Int) : Calls Tryz.prog 64 #[.pointer (some ⟨b, 0, none⟩), .int .i64 n] V fun e V' => ∃ v, e = .returned v ∧ SgE b D (P32.start D n s) M R V v V' := by
  obtain ⟨⟨bm, rb, C, vs, d, dn, un, h1, h2, rfl, rfl⟩, h3⟩ := h
  subst h2
  refine (Start_any n V h1 h3 (fun hs => P32.inv_start h3 hs)).mono ?_
  rintro e W ⟨v, rfl, h5⟩
  exact ⟨v, rfl, h5.ev rfl (P32.good_start h3).1.inv⟩
theorem answer (h : SgY b D s M R V) (n : Int) (a : P33.Ans) : Calls Tryz.prog 61 #[.pointer (some ⟨b, 0, none⟩), .agg #[.int .i64 a.step, .int .i64 a.attempt, .bool a.undo, .int .u8 (a.outcome : Int)], .int .i64 n] V fun e V' => ∃ v, e = .returned (.tuple #[v, .bool (P32.answer D n a s).2]) ∧ SgE b D (P32.answer D n a s).1 M R V v V' := by
  obtain ⟨⟨bm, rb, C, vs, d, dn, un, h1, h2, rfl, rfl⟩, h3⟩ := h
  subst h2
  refine (Answer_any n a V h1 h3).mono ?_
  rintro e W ⟨v, rfl, h5⟩
  exact ⟨v, rfl, h5.ev rfl (P32.good_answer h3).1.inv⟩
theorem tick (h : SgY b D s M R V) (n : Int) : Calls Tryz.prog 63 #[.pointer (some ⟨b, 0, none⟩), .int .i64 n] V fun e V' => ∃ v, e = .returned v ∧ SgE b D (P32.tick D n s) M R V v V' := by
  obtain ⟨⟨bm, rb, C, vs, d, dn, un, h1, h2, rfl, rfl⟩, h3⟩ := h
  subst h2
  refine (Tick_any n V h1 h3).mono ?_
  rintro e W ⟨v, rfl, h5⟩
  exact ⟨v, rfl, h5.ev rfl (P32.good_tick h3).1.inv⟩
theorem cancel (h : SgY b D s M R V) (n : Int) : Calls Tryz.prog 62 #[.pointer (some ⟨b, 0, none⟩), .int .i64 n] V fun e V' => ∃ v, e = .returned (.tuple #[v, .bool (P32.cancel D n s).2]) ∧ SgE b D (P32.cancel D n s).1 M R V v V' := by
  obtain ⟨⟨bm, rb, C, vs, d, dn, un, h1, h2, rfl, rfl⟩, h3⟩ := h
  subst h2
  refine (Cancel_any n V h1 (fun hs => P32.inv_halt h3 hs)).mono ?_
  rintro e W ⟨v, rfl, h5⟩
  exact ⟨v, rfl, h5.ev rfl (P32.good_cancel h3).1.inv⟩
theorem opens (h : SgY b D s M R V) : Calls Tryz.prog 56 #[.pointer (some ⟨b, 0, none⟩)] V fun e V' => ∃ v, e = .returned v ∧ OrdV V' v (P32.open_ D s) ∧ Below V.heap.size V V' := by
  obtain ⟨⟨bm, rb, C, vs, d, dn, un, h1, h2, rfl, rfl⟩, h3⟩ := h
  subst h2
  refine (Open_any V h1 h3).mono ?_
  rintro e W ⟨a, c, rfl, h5, h6, h7⟩
  exact ⟨_, rfl, ⟨a, c, rfl, h5, h6⟩, h7⟩
theorem status (h : SgY b D s M R V) : Calls Tryz.prog 52 #[.pointer (some ⟨b, 0, none⟩)] V fun e V' => e = .returned (.int .u8 (s.status : Int)) ∧ V' = V := by
  obtain ⟨⟨bm, rb, C, vs, d, dn, un, h1, h2, rfl, rfl⟩, h3⟩ := h
  exact SStatus_any b bm s.status V h1.cells.2.2.1.1 h1.cells.2.2.2.2.2.1
theorem over (h : SgY b D s M R V) : Calls Tryz.prog 58 #[.pointer (some ⟨b, 0, none⟩)] V fun e V' => e = .returned (.bool (decide (2 < s.status))) ∧ V' = V := by
  obtain ⟨⟨bm, rb, C, vs, d, dn, un, h1, h2, rfl, rfl⟩, h3⟩ := h
  exact Over_any b bm s.status V h1.cells.2.2.1.1 h1.cells.2.2.2.2.2.1
theorem len (h : SgY b D s M R V) : D.steps.length ≤ 100000 ∧ s.done.length ≤ D.steps.length ∧ s.undone.length ≤ s.done.length := by
  obtain ⟨⟨bm, rb, C, vs, d, dn, un, h1, h2, rfl, rfl⟩, h3⟩ := h
  have h4 := h1.dlen
  have h5 := h1.nle
  have h6 := h1.ul
  have h7 : D.steps.length = d.steps.length := by rw [← h2, Md.blen]
  omega
theorem done (h : SgY b D s M R V) : Calls Tryz.prog 53 #[.pointer (some ⟨b, 0, none⟩)] V fun e V' => ∃ v', e = .returned v' ∧ Iv V' v' (s.done.map fun k : Nat => (k : Int)) ∧ Below V.heap.size V V' := by
  have hl := h.len
  obtain ⟨⟨bm, rb, C, vs, d, dn, un, h1, h2, rfl, rfl⟩, h3⟩ := h
  exact SDone_any b bm dn _ V h1.cells.2.2.1.1 h1.cells.2.2.2.1.1 (MdX.iv_of h1.odn) (by simp; omega)
theorem undone (h : SgY b D s M R V) : Calls Tryz.prog 54 #[.pointer (some ⟨b, 0, none⟩)] V fun e V' => ∃ v', e = .returned v' ∧ Iv V' v' (s.undone.map fun k : Nat => (k : Int)) ∧ Below V.heap.size V V' := by
  have hl := h.len
  obtain ⟨⟨bm, rb, C, vs, d, dn, un, h1, h2, rfl, rfl⟩, h3⟩ := h
  exact SUndone_any b bm un _ V h1.cells.2.2.1.1 h1.cells.2.2.2.2.1.1 (MdX.iv_of h1.oun) (by simp; omega)
theorem new (d : PDef) (w : World) (hin : d.In w) (hok : d.ok) (hcp : d.cp) (hc : P28.clean d.bare = true) (haf : ∀ s ∈ d.steps, s.after.length ≤ 1000000) : Calls Tryz.prog 49 #[d.val] w fun e w' => ∃ b M R, e = .returned (.tuple #[.pointer (some ⟨b, 0, none⟩), .int .i64 0]) ∧ SgY b (cutD d.bare) P32.S.new M R w' ∧ (∀ g, M g → w.heap.size ≤ g) ∧ Below w.heap.size w w' := by
  refine (SNew_good d w hin hok hcp hc haf).mono ?_
  rintro e w' ⟨b, bm, rb, C, vs, d', rfl, ⟨⟨g1, g2, h1⟩, h2⟩, h3⟩
  refine ⟨b, _, _, rfl, ⟨⟨bm, rb, C, vs, d', _, _, h1, h2, rfl, rfl⟩, P32.inv_new _⟩, ?_, h3⟩
  rintro g (rfl | rfl | e | e)
  · exact g1
  · exact g2
  · cases e
  · cases e
end SgY
theorem SStart_nil (n : Int) (w : World) : Calls Tryz.prog 64 #[.pointer none, .int .i64 n] w fun e w' => e = .returned (.slice none 0 0) ∧ w' = w := by
  have HM := hide (made_nil w)
  go_enter Tryz.func64, Tryz.ntmps64
  go_wp2_with (go_at_call 96; refine (unhide HM).mono ?_; rintro e w' ⟨rfl, hw⟩; have hw := hw.symm; subst hw)
  go_ret
  exact ⟨rfl, rfl⟩
set_option maxRecDepth 100000 in
theorem SAnswer_nil (n : Int) (w : World) : Calls Tryz.prog 61 #[.pointer none, .agg #[.int .i64 0, .int .i64 0, .bool false, .int .u8 0], .int .i64 n] w fun e w' => e = .returned (.tuple #[.slice none 0 0, .bool false]) ∧ Below w.heap.size w w' := by
  obtain ⟨H, hH⟩ : ∃ H, w.heap.size = H := ⟨_, rfl⟩
  rw [hH]
  obtain ⟨W1, hW1, hb1, g0, hz1⟩ := new1 w (.cells #[.int .i64 0, .int .i64 0, .bool false, .int .u8 0] 37) H hH
  have HM := hide (fun q => smoving_nil (W1.drewN q))
  have HW1 := hide hW1
  have HB := hide hb1
  clear hW1 hb1 g0
  go_enter Tryz.func61, Tryz.ntmps61
  go_upto_region 1 with fail
  try rw [hH]
  rw [unhide HW1]
  go_quiet (exact Calls.quiet_of_same (unhide HM _))
  go_wp2
  exact bodyPost_ret (results_tmp2 rfl _ _ _) rfl ⟨rfl, below_drewN (unhide HB)⟩
end Go.Proofs.YtefokfbgpfcbkaaGreat
namespace Go.Proofs.YtefokfbgpfcbkaaGreat
set_option linter.unusedVariables false
set_option linter.unusedSimpArgs false
open Go.RowKit
set_option maxRecDepth 100000 in
set_option maxHeartbeats 800000 in
theorem SameN_any (a a2 : Option Addr) (c c2 : Nat) (l : List Nat) (w : World) (ha : InN w a l) (hb : InN w a2 l) (hlen : l.length ≤ 100000000) :
    Calls Tryz.prog 26 #[.slice a l.length c, .slice a2 l.length c2] w fun e w' => e = .returned (.bool true) ∧ ∃ q, w' = w.drewN q := by
  have HCA := hide ha
  have HCB := hide hb
  obtain ⟨n, hn⟩ : ∃ n, l.length = n := ⟨_, rfl⟩
  rw [hn] at hlen ⊢
  have HN := hide hn
  clear hn ha hb
  go_enter Tryz.func26, Tryz.ntmps26
  go_wp2
  go_loopg [5] n (fun g s5 wx => ∃ i m : Nat, i + g = n ∧ s5 = .int .i64 i ∧ w.drewN m = wx)
  case atStart => exact ⟨0, 0, by omega, by go_num, rfl⟩
  case round =>
    obtain ⟨i, m, hig, rfl, rfl⟩ := hrel
    cases gk with
    | zero =>
      have e1 : (n : Int) ≤ (i : Int) := by omega
      have j1 : decide ((i : Int) < (n : Int)) = false := by simp; omega
      go_wp2
      go_ret
      exact ⟨rfl, m, rfl⟩
    | succ g' =>
      have hlt : (i : Int) < (n : Int) := by omega
      have hki : IntKind.i64.wrap ((i : Int) + 1) = (i : Int) + 1 := IntWalk.i64_in _ (by omega)
      obtain ⟨x, hx⟩ := nth_of (unhide HN) (show i < n by omega)
      obtain ⟨g1, o1, rfl, c1⟩ := unhide HCA i x hx
      obtain ⟨g2, o2, rfl, c2⟩ := unhide HCB i x hx
      unfold iv at c1 c2
      clear hx
      go_wp2
      go_quiet (fail)
      go_wp2
      go_roundg g'
      case measure => omega
      case rel => exact ⟨i + 1, m + nq, by omega, by go_num, rfl⟩
end Go.Proofs.YtefokfbgpfcbkaaGreat
namespace Go.Proofs.YtefokfbgpfcbkaaGreat
set_option linter.unusedVariables false
set_option linter.unusedSimpArgs false
open Go.RowKit
set_option maxRecDepth 100000 in
set_option maxHeartbeats 2000000 in
theorem trip32_any (w : World) : Calls Tryz.prog 91 #[] w fun e w' => ∃ g ga, e = .returned (df2 g ga [118] 9).val ∧ (df2 g ga [118] 9).In w' ∧ Below w.heap.size w w' := by
  obtain ⟨H, hH⟩ : ∃ H, w.heap.size = H := ⟨_, rfl⟩
  rw [hH]
  obtain ⟨W, hW, hb, g0, g1, g2, hs⟩ := new3 w (.cells #[.string ⟨#[116]⟩, .string ⟨#[]⟩, .slice (some ⟨H + 1 + 1, 0, none⟩) 2 2] 24) (.cells #[.string ⟨#[97]⟩] 9) (.cells #[.string ⟨#[97]⟩, .string ⟨#[120]⟩, .string ⟨#[117]⟩, .slice none 0 0, .int .i64 0, .int .i64 0, .int .i64 0, .int .i64 9, .int .u8 0, .string ⟨#[]⟩, .slice none 0 0, .slice none 0 0, .int .i64 0, .string ⟨#[98]⟩, .string ⟨#[121]⟩, .string ⟨#[118]⟩, .slice (some ⟨H + 1, 0, none⟩) 1 1, .int .i64 0, .int .i64 0, .int .i64 0, .int .i64 9, .int .u8 0, .string ⟨#[]⟩, .slice none 0 0, .slice none 0 0, .int .i64 0] 63) H hH
  have hin : (df2 (H + 1 + 1) (H + 1) [118] 9).In W := df2_in g2 g1
  have HIN := hide hin
  have HW := hide hW
  have HB := hide hb
  clear hW hb g1 g2 hin
  go_enter Tryz.func91, Tryz.ntmps91
  go_upto_region 1 with fail
  try rw [hH]
  go_wp2
  rw [unhide HW]
  refine bodyPost_ret (results_c1 rfl _ _ _ H _ rfl (cellDef g0)) rfl ?_
  exact ⟨H + 1 + 1, H + 1, rfl, unhide HIN, unhide HB⟩
namespace Lv32
def D : P22.Def := cutD (df2 0 0 [118] 9).bare
theorem D_eq (g ga : Nat) : cutD (df2 g ga [118] 9).bare = D := rfl
theorem clean (g ga : Nat) : P28.clean (df2 g ga [118] 9).bare = true := by kernel_rfl
def s1 : P32.S := (P32.start D 1 P32.S.new).1
theorem a1 : (P32.start D 1 P32.S.new).2 = [⟨0, 1, false, 10⟩] := by kernel_rfl
def s2 : P32.S := (P32.answer D 2 ⟨0, 1, false, 0⟩ s1).1.1
theorem b1 : (P32.answer D 2 ⟨0, 1, false, 0⟩ s1).1.2 = [⟨1, 1, false, 11⟩] := by kernel_rfl
theorem b2 : (P32.answer D 2 ⟨0, 1, false, 0⟩ s1).2 = true := by kernel_rfl
def s3 : P32.S := (P32.answer D 3 ⟨1, 1, false, 1⟩ s2).1.1
theorem c1 : (P32.answer D 3 ⟨1, 1, false, 1⟩ s2).1.2 = [⟨0, 1, true, 12⟩] := by kernel_rfl
theorem c2 : (P32.answer D 3 ⟨1, 1, false, 1⟩ s2).2 = true := by kernel_rfl
def s4 : P32.S := (P32.answer D 4 ⟨0, 1, true, 0⟩ s3).1.1
theorem d1 : (P32.answer D 4 ⟨0, 1, true, 0⟩ s3).1.2 = [] := by kernel_rfl
theorem d2 : (P32.answer D 4 ⟨0, 1, true, 0⟩ s3).2 = true := by kernel_rfl
theorem st4 : s4.status = 4 := by kernel_rfl
theorem dn4 : s4.done = [0] := by kernel_rfl
theorem un4 : s4.undone = [0] := by kernel_rfl
theorem op4 : P32.open_ D s4 = [] := by kernel_rfl
variable {V : World} {b : Nat} {M R : Nat → Prop}
theorem oneO {W : World} {v : Value} {o : P32.Order} (h : OrdV W v [o]) : ∃ g q c, v = .slice (some ⟨g, q, none⟩) 1 c ∧ 1 ≤ c ∧ W.cell? ⟨g, q, none⟩ = some (.int .i64 (o.step : Int)) ∧ W.cell? ⟨g, q + 1, none⟩ = some (.int .i64 o.att) ∧ W.cell? ⟨g, q + 2, none⟩ = some (.bool o.undo) ∧ W.cell? ⟨g, q + 3, none⟩ = some (.int .i64 o.til) := by
  obtain ⟨a, c, e, hc, hi⟩ := h
  obtain ⟨g, q, rfl, k⟩ := hi 0 o rfl
  exact ⟨g, q, c, e, hc, by simpa using k⟩
end Lv32
structure Lv (w : World) (b : Nat) (D : P22.Def) (s : P32.S) (l : List (Value × List P32.Order)) (M R : Nat → Prop) (V : World) : Prop where
  sg : SgY b D s M R V
  new : ∀ g, M g → w.heap.size ≤ g
  bel : Below w.heap.size w V
  ord : ∀ p ∈ l, OrdV V p.1 p.2 ∧ ∀ g, p.1.ownBlock = some g → ¬ M g ∧ g < V.heap.size
theorem KW.below {M : Nat → Prop} {w V V' : World} (h : KW M V V') (hb : Below w.heap.size w V) (hM : ∀ g, M g → w.heap.size ≤ g) : Below w.heap.size w V' :=
  hb.trans ⟨h.os, h.tape, h.output, h.size, fun g hg => h.same g (fun e => by have := hM g e; omega) (Nat.lt_of_lt_of_le hg hb.size)⟩
theorem OrdV.keep {V V' : World} {v : Value} {os : List P32.Order} (h : OrdV V v os) (hk : ∀ g, v.ownBlock = some g → V'.heap[g]? = V.heap[g]?) : OrdV V' v os := by
  obtain ⟨a, c, rfl, h1, h2⟩ := h
  refine ⟨a, c, rfl, h1, fun j o ho => ?_⟩
  obtain ⟨g, q, rfl, k0, k1, k2, k3⟩ := h2 j o ho
  have hb := fun k => cell_of_block (hk g rfl) k
  exact ⟨g, q, rfl, (hb _).trans k0, (hb _).trans k1, (hb _).trans k2, (hb _).trans k3⟩
namespace Lv
variable {w V V' : World} {b : Nat} {D : P22.Def} {s : P32.S} {l : List (Value × List P32.Order)} {M R : Nat → Prop}
theorem below (h : Lv w b D s l M R V) (hb : Below V.heap.size V V') : Lv w b D s l M R V' :=
  ⟨h.sg.below hb, h.new, h.bel.trans (hb.mono h.bel.size), fun p hp => ⟨(h.ord p hp).1.keep (fun g hg => hb.block g ((h.ord p hp).2 g hg).2), fun g hg => ⟨((h.ord p hp).2 g hg).1, Nat.lt_of_lt_of_le ((h.ord p hp).2 g hg).2 hb.size⟩⟩⟩
theorem next {x : P32.S × List P32.Order} {v : Value} (h : Lv w b D s l M R V) (he : SgE b D x M R V v V') : ∃ M', Lv w b D x.1 ((v, x.2) :: l) M' R V' := by
  obtain ⟨h1, M', h2, h3, h4, h5⟩ := he
  refine ⟨M', h2, fun g hg => (h4 g hg).elim (h.new g) (fun e => Nat.le_trans h.bel.size e), h3.below h.bel h.new, fun p hp => ?_⟩
  rcases List.mem_cons.1 hp with rfl | hp
  · exact ⟨h1, h5⟩
  · obtain ⟨k1, k2⟩ := h.ord p hp
    refine ⟨k1.keep (fun g hg => h3.same g (k2 g hg).1 (k2 g hg).2), fun g hg => ⟨fun e => (h4 g e).elim (k2 g hg).1 (fun q => by have := (k2 g hg).2; omega), Nat.lt_of_lt_of_le (k2 g hg).2 h3.size⟩⟩
end Lv
theorem inN_new (W : World) (k : Nat) : InN (W.alloc (.cells #[.int .i64 (k : Int)] 3)) (some ⟨W.heap.size, 0, none⟩) [k] := fun i x hx => by
  have : i = 0 := by
    have := (List.getElem?_eq_some_iff.1 hx).1
    simp at this
    exact this
  subst this
  simp at hx
  subst hx
  exact ⟨_, 0, rfl, (cell1 (World.alloc_heap_new _ _)).1⟩
namespace Lv32
variable {w V : World} {b : Nat} {M R : Nat → Prop} {l : List (Value × List P32.Order)}
theorem ka (h : Lv w b D P32.S.new l M R V) : Calls Tryz.prog 64 #[.pointer (some ⟨b, 0, none⟩), .int .i64 1] V fun e V' => ∃ v, e = .returned v ∧ ∃ M', Lv w b D s1 ((v, [⟨0, 1, false, 10⟩]) :: l) M' R V' := by
  refine (h.sg.start 1).mono ?_
  rintro e V' ⟨v, rfl, h5⟩
  obtain ⟨M', h6⟩ := h.next h5
  rw [a1] at h6
  exact ⟨v, rfl, M', h6⟩
theorem kb (h : Lv w b D s1 l M R V) : Calls Tryz.prog 61 #[.pointer (some ⟨b, 0, none⟩), .agg #[.int .i64 0, .int .i64 1, .bool false, .int .u8 0], .int .i64 2] V fun e V' => ∃ v, e = .returned (.tuple #[v, .bool true]) ∧ ∃ M', Lv w b D s2 ((v, [⟨1, 1, false, 11⟩]) :: l) M' R V' := by
  refine (h.sg.answer 2 ⟨0, 1, false, 0⟩).mono ?_
  rintro e V' ⟨v, rfl, h5⟩
  obtain ⟨M', h6⟩ := h.next h5
  rw [b1] at h6
  exact ⟨v, by rw [b2], M', h6⟩
theorem kc (h : Lv w b D s2 l M R V) : Calls Tryz.prog 61 #[.pointer (some ⟨b, 0, none⟩), .agg #[.int .i64 1, .int .i64 1, .bool false, .int .u8 1], .int .i64 3] V fun e V' => ∃ v, e = .returned (.tuple #[v, .bool true]) ∧ ∃ M', Lv w b D s3 ((v, [⟨0, 1, true, 12⟩]) :: l) M' R V' := by
  refine (h.sg.answer 3 ⟨1, 1, false, 1⟩).mono ?_
  rintro e V' ⟨v, rfl, h5⟩
  obtain ⟨M', h6⟩ := h.next h5
  rw [c1] at h6
  exact ⟨v, by rw [c2], M', h6⟩
theorem kd (h : Lv w b D s3 l M R V) : Calls Tryz.prog 61 #[.pointer (some ⟨b, 0, none⟩), .agg #[.int .i64 0, .int .i64 1, .bool true, .int .u8 0], .int .i64 4] V fun e V' => ∃ v, e = .returned (.tuple #[v, .bool true]) ∧ ∃ M', Lv w b D s4 ((v, []) :: l) M' R V' := by
  refine (h.sg.answer 4 ⟨0, 1, true, 0⟩).mono ?_
  rintro e V' ⟨v, rfl, h5⟩
  obtain ⟨M', h6⟩ := h.next h5
  rw [d1] at h6
  exact ⟨v, by rw [d2], M', h6⟩
theorem ks (h : Lv w b D s4 l M R V) : Calls Tryz.prog 52 #[.pointer (some ⟨b, 0, none⟩)] V fun e V' => e = .returned (.int .u8 4) ∧ V' = V := by
  have := h.sg.status
  rw [st4] at this
  exact this
theorem ko (h : Lv w b D s4 l M R V) : Calls Tryz.prog 58 #[.pointer (some ⟨b, 0, none⟩)] V fun e V' => e = .returned (.bool true) ∧ V' = V := by
  have := h.sg.over
  rw [st4] at this
  exact this
theorem kdn (h : Lv w b D s4 l M R V) : Calls Tryz.prog 53 #[.pointer (some ⟨b, 0, none⟩)] V fun e V' => ∃ a c, e = .returned (.slice a 1 c) ∧ InN V' a [0] ∧ Lv w b D s4 l M R V' := by
  refine h.sg.done.mono ?_
  rintro e V' ⟨v, rfl, h1, h2⟩
  rw [dn4] at h1
  obtain ⟨a, c, e, _, h3⟩ := inN_of_iv h1
  exact ⟨a, c, by rw [e]; rfl, h3, h.below h2⟩
theorem kun (h : Lv w b D s4 l M R V) : Calls Tryz.prog 54 #[.pointer (some ⟨b, 0, none⟩)] V fun e V' => ∃ a c, e = .returned (.slice a 1 c) ∧ InN V' a [0] ∧ Lv w b D s4 l M R V' := by
  refine h.sg.undone.mono ?_
  rintro e V' ⟨v, rfl, h1, h2⟩
  rw [un4] at h1
  obtain ⟨a, c, e, _, h3⟩ := inN_of_iv h1
  exact ⟨a, c, by rw [e]; rfl, h3, h.below h2⟩
theorem kop (h : Lv w b D s4 l M R V) : Calls Tryz.prog 56 #[.pointer (some ⟨b, 0, none⟩)] V fun e V' => ∃ a c, e = .returned (.slice a 0 c) ∧ Lv w b D s4 l M R V' := by
  refine h.sg.opens.mono ?_
  rintro e V' ⟨v, rfl, h1, h2⟩
  rw [op4] at h1
  obtain ⟨a, c, e, _, _⟩ := h1
  exact ⟨a, c, by rw [e]; rfl, h.below h2⟩
end Lv32
theorem same_new (W : World) (a : Option Addr) (c : Nat) (h : InN W a [0]) : Calls Tryz.prog 26 #[.slice a 1 c, .slice (some ⟨W.heap.size, 0, none⟩) 1 1] (W.alloc (.cells #[.int .i64 0] 3)) fun e w' => e = .returned (.bool true) ∧ Below W.heap.size W w' := by
  have hb : Below W.heap.size W (W.alloc (.cells #[.int .i64 0] 3)) := (Below.refl _ W).alloc (Nat.le_refl _) _
  refine (SameN_any a _ c 1 [0] _ (h.below' hb) (inN_new W 0) (by decide)).mono ?_
  rintro e w' ⟨rfl, q, rfl⟩
  exact ⟨rfl, below_drewN hb⟩
set_option maxRecDepth 100000 in
set_option maxHeartbeats 8000000 in
theorem live32_any (w : World) : Calls Tryz.prog 48 #[] w fun e w' => e = .returned (.bool true) ∧ Below w.heap.size w w' := by
  have hpr := trip32_any w
  have HPR := hide hpr
  clear hpr
  go_enter Tryz.func48, Tryz.ntmps48
  go_upto_region 2 with (first | (go_at_call 91; refine (unhide HPR).mono ?_; rintro e W1 ⟨g, ga, rfl, hin, hb1⟩) | (go_at_call 49; refine (SgY.new (df2 g ga [118] 9) _ hin (df2_ok g ga [118] 9 (Nat.le_refl _)) (df2_cp g ga [118] 9) (Lv32.clean g ga) (fun s hs => by rcases two_mem (show s ∈ [st1 9, st2 ga [118] 9] from hs) with rfl | rfl; exact Nat.zero_le _; show 1 ≤ _; omega)).mono ?_; rintro e W2 ⟨b, M, R, rfl, hm, hnw, hb2⟩))
  rw [Lv32.D_eq] at hm
  have hl2 : Lv w b Lv32.D P32.S.new [] M R W2 := ⟨hm, fun g hg => Nat.le_trans hb1.size (hnw g hg), hb1.trans (hb2.mono hb1.size), fun p hp => by cases hp⟩
  have H2 := hide hl2
  clear hm hin hb1 hb2 hnw hl2 HPR
  go_upto_region 3 with (go_at_call 49; refine (SNew_bad PDef.zero _ (PDef.zero_in _) zero_ok33 (by kernel_rfl)).mono ?_; rintro e W3 ⟨rfl, hb3⟩)
  have H3 := hide ((unhide H2).below hb3)
  clear hb3 H2
  go_upto_region 6 with (go_at_call 64; refine (Lv32.ka (unhide H3)).mono ?_; rintro e W4 ⟨va, rfl, M4, h4⟩)
  have H4 := hide h4
  clear h4 H3
  go_upto_region 7 with (go_at_call 61; refine (Lv32.kb (unhide H4)).mono ?_; rintro e W5 ⟨vb, rfl, M5, h5⟩)
  have H5 := hide h5
  clear h5 H4
  go_upto_region 8 with (go_at_call 61; refine (Lv32.kc (unhide H5)).mono ?_; rintro e W6 ⟨vc, rfl, M6, h6⟩)
  have H6 := hide h6
  clear h6 H5
  go_upto_region 10 with (go_at_call 61; refine (Lv32.kd (unhide H6)).mono ?_; rintro e W7 ⟨vd, rfl, M7, h7⟩)
  have H7 := hide h7
  clear h7 H6
  go_upto_region 11 with (go_at_call 61; refine (SAnswer_nil _ _).mono ?_; rintro e W8 ⟨rfl, h8⟩)
  have h9 := (unhide H7).below h8
  obtain ⟨ga', qa, ca, ea, hca, a0, a1, a2, a3⟩ := Lv32.oneO (h9.ord (va, [⟨0, 1, false, 10⟩]) (by simp)).1
  obtain ⟨gb, qb, cb, eb, hcb, b0, b1, b2, b3⟩ := Lv32.oneO (h9.ord (vb, [⟨1, 1, false, 11⟩]) (by simp)).1
  obtain ⟨gc, qc, cc, ec, hcc, c0, c1, c2, c3⟩ := Lv32.oneO (h9.ord (vc, [⟨0, 1, true, 12⟩]) (by simp)).1
  obtain ⟨gd, cd, ed, _, _⟩ := (h9.ord (vd, []) (by simp)).1
  simp only at ea eb ec ed a0 a1 a2 a3 b0 b1 b2 b3 c0 c1 c2 c3
  have ed : vd = .slice gd 0 cd := ed
  subst ea eb ec ed
  have H9 := hide h9
  clear h8 h9 H7
  simp only [List.append_eq, List.cons_append, List.nil_append]
  go_wp2_with (first
    | (go_at_call 52; first | (with_reducible refine (SStatus_nil _).mono ?_; rintro e w' ⟨rfl, hw⟩; have hw := hw.symm; subst hw) | (with_reducible refine (Lv32.ks (unhide H9)).mono ?_; rintro e w' ⟨rfl, hw⟩; have hw := hw.symm; subst hw))
    | (go_at_call 58; first | (with_reducible refine (Over_nil _).mono ?_; rintro e w' ⟨rfl, hw⟩; have hw := hw.symm; subst hw) | (with_reducible refine (Lv32.ko (unhide H9)).mono ?_; rintro e w' ⟨rfl, hw⟩; have hw := hw.symm; subst hw))
    | (go_at_call 53; refine (Lv32.kdn (unhide H9)).mono ?_; rintro e W10 ⟨d9, dc9, rfl, hin10, h10⟩; have HIN := hide hin10; have H10 := hide h10; clear hin10 h10)
    | (go_at_call 54; refine (Lv32.kun (unhide H10)).mono ?_; rintro e W12 ⟨u9, uc9, rfl, hin12, h12⟩; have HIN := hide hin12; have H10 := hide h12; clear hin12 h12)
    | (go_at_call 26; refine (same_new _ _ _ (unhide HIN)).mono ?_; rintro e W11 ⟨rfl, b11⟩; have H10 := hide ((unhide H10).below b11); clear b11)
    | (go_at_call 56; refine (Lv32.kop (unhide H10)).mono ?_; rintro e W14 ⟨oa, oc, rfl, h14⟩; have H14 := hide h14; clear h14)
    | (go_at_call 64; refine (SStart_nil _ _).mono ?_; rintro e w' ⟨rfl, hw⟩; have hw := hw.symm; subst hw))
  go_ret
  exact ⟨rfl, (unhide H14).bel⟩
end Go.Proofs.YtefokfbgpfcbkaaGreat
