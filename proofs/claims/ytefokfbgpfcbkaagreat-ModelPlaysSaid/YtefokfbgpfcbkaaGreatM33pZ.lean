/- Lemmas of this claim (a part of its texts, kept as far as the claim reaches them). -/
import Derived.Test.YtefokfbgpfcbkaaGreatM33wZ
import Derived.Test.YtefokfbgpfcbkaaGreatM33oZ
import Derived.Test.YtefokfbgpfcbkaaGreatRMNZ
import Derived.Test.YtefokfbgpfcbkaaGreatRC9Z
namespace Go.Proofs.YtefokfbgpfcbkaaGreat
set_option linter.unusedVariables false
set_option linter.unusedSimpArgs false
open Go.RowKit
structure Twin (d : PDef) (K b b2 C : Nat) (w0 : World) (s t : P33.S) (V : World) : Prop where
  ex : ∃ M R M2 R2, MdY b d.bare s M R V ∧ RMX d C b2 t M2 R2 V ∧ (∀ g, M g → ¬ M2 g ∧ ¬ R2 g ∧ ¬ d.blk g) ∧ (∀ g, M2 g → ¬ R g) ∧ (∀ g, M g ∨ M2 g → K ≤ g)
  bel : Below K w0 V
  inv : RInv d t
  pinv : P33.Inv d.bare t
  ci : C ≤ V.heap.size
  hK : K ≤ V.heap.size
namespace RMX
variable {d : PDef} {C b : Nat} {s : P33.S} {M R : Nat → Prop} {V V' : World}
theorem lt (h : RMX d C b s M R V) {g : Nat} (hg : M g ∨ R g ∨ d.blk g) : g < V.heap.size := by
  obtain ⟨tb, ub, ob, pb, ra, rc, vs, dn, un, h1, rfl, rfl⟩ := h.ex
  rcases hg with (hg | hg | hg) | hg | hg
  · exact h1.inM hg
  · exact (h1.dno.lt hg).2
  · exact (h1.uno.lt hg).2
  · exact h1.inR hg
  · exact h1.din.lt hg
theorem keep (h : RMX d C b s M R V) (hk : ∀ g, M g ∨ R g ∨ d.blk g → V'.heap[g]? = V.heap[g]?) : RMX d C b s M R V' := by
  obtain ⟨tb, ub, ob, pb, ra, rc, vs, dn, un, h1, rfl, rfl⟩ := h.ex
  exact ⟨tb, ub, ob, pb, ra, rc, vs, dn, un, h1.keep hk, rfl, rfl⟩
theorem cells (h : RMX d C b s M R V) : V.cell? ⟨b, 11, none⟩ = some (.int .u8 s.status) ∧ (∃ a c, V.cell? ⟨b, 8, none⟩ = some (.slice a s.done.length c) ∧ InN V a s.done) ∧ (∃ a c, V.cell? ⟨b, 9, none⟩ = some (.slice a s.undone.length c) ∧ InN V a s.undone) := by
  obtain ⟨tb, ub, ob, pb, ra, rc, vs, dn, un, h1, rfl, rfl⟩ := h.ex
  obtain ⟨a, c, e, _, _, hi⟩ := h1.dno.slice
  obtain ⟨a2, c2, e2, _, _, hi2⟩ := h1.uno.slice
  refine ⟨h1.cell (o := 11) rfl, ⟨a, c, ?_, hi⟩, ⟨a2, c2, ?_, hi2⟩⟩
  · rw [← e]; exact h1.cell (o := 8) rfl
  · rw [← e2]; exact h1.cell (o := 9) rfl
theorem turn (h : RMX d C b s M R V) (hi : RInv d s) (hN9 : d.steps.length ≤ 100000) : Calls Tryz.prog 29 #[.pointer (some ⟨b, 0, none⟩)] V fun e w' => e = .returned (.int .i64 (toV (P33.turn d.bare s))) ∧ w' = V := by
  obtain ⟨tb, ub, ob, pb, ra, rc, vs, dn, un, h1, rfl, rfl⟩ := h.ex
  exact RTurn_any V h1 hi.lt hN9 hi.dl hi.ul
end RMX
namespace Twin
variable {d : PDef} {K b b2 C : Nat} {w0 : World} {s t : P33.S} {V V' : World}
theorem below (h : Twin d K b b2 C w0 s t V) (hb : Below V.heap.size V V') : Twin d K b b2 C w0 s t V' := by
  obtain ⟨M, R, M2, R2, h1, h2, h3, h4, h5⟩ := h.ex
  exact ⟨⟨M, R, M2, R2, h1.below hb, h2.keep (fun g hg => hb.block g (h2.lt hg)), h3, h4, h5⟩, h.bel.trans (hb.mono h.hK), h.inv, h.pinv, Nat.le_trans h.ci hb.size, Nat.le_trans h.hK hb.size⟩
theorem ofP (h : Twin d K b b2 C w0 s t V) {s' : P33.S} {M R M2 R2 : Nat → Prop} (h2 : RMX d C b2 t M2 R2 V) (h1o : MdY b d.bare s M R V) (h3 : ∀ g, M g → ¬ M2 g ∧ ¬ R2 g ∧ ¬ d.blk g) (h4 : ∀ g, M2 g → ¬ R g) (h5 : ∀ g, M g ∨ M2 g → K ≤ g)
    {M' : Nat → Prop} (h1 : MdY b d.bare s' M' R V') (hk : KW M V V') (hs : ∀ g, M' g → M g ∨ V.heap.size ≤ g) : Twin d K b b2 C w0 s' t V' := by
  have hK := h.hK
  refine ⟨⟨M', R, M2, R2, h1, h2.keep (fun g hg => hk.same g (fun hm => ?_) (h2.lt hg)), fun g hg => ?_, h4, fun g hg => ?_⟩, h.bel.trans ⟨hk.os, hk.tape, hk.output, hk.size, fun g hg => hk.same g (fun hm => ?_) (by omega)⟩, h.inv, h.pinv, Nat.le_trans h.ci hk.size, Nat.le_trans h.hK hk.size⟩
  · obtain ⟨a, b, c⟩ := h3 g hm
    rcases hg with hg | hg | hg
    · exact a hg
    · exact b hg
    · exact c hg
  · rcases hs g hg with e | e
    · exact h3 g e
    · exact ⟨fun q => by have := h2.lt (.inl q); omega, fun q => by have := h2.lt (.inr (.inl q)); omega, fun q => by have := h2.lt (.inr (.inr q)); omega⟩
  · rcases hg with hg | hg
    · rcases hs g hg with e | e
      · exact h5 g (.inl e)
      · omega
    · exact h5 g (.inr hg)
  · have := h5 g (.inl hm)
    omega
theorem ofR (h : Twin d K b b2 C w0 s t V) {t' : P33.S} {M R M2 R2 : Nat → Prop} (h2o : RMX d C b2 t M2 R2 V) (h1 : MdY b d.bare s M R V) (h3 : ∀ g, M g → ¬ M2 g ∧ ¬ R2 g ∧ ¬ d.blk g) (h4 : ∀ g, M2 g → ¬ R g) (h5 : ∀ g, M g ∨ M2 g → K ≤ g)
    {M2' : Nat → Prop} (h2 : RMX d C b2 t' M2' R2 V') (hk : KM M2 V M2' V') (hi : RInv d t') (hp : P33.Inv d.bare t') : Twin d K b b2 C w0 s t' V' := by
  have hK := h.hK
  refine ⟨⟨M, R, M2', R2, h1.keep hk.size (fun g hg => hk.same g (fun hm => ?_) (h1.lt hg)), h2, fun g hg => ⟨fun q => ?_, (h3 g hg).2⟩, fun g hg q => ?_, fun g hg => ?_⟩, h.bel.trans ⟨hk.os, hk.tape, hk.output, hk.size, fun g hg => hk.same g (fun hm => ?_) (by omega)⟩, hi, hp, Nat.le_trans h.ci hk.size, Nat.le_trans h.hK hk.size⟩
  · rcases hg with hg | hg
    · exact (h3 g hg).1 hm
    · exact h4 g hm hg
  · rcases hk.sub g q with e | e
    · exact (h3 g hg).1 e
    · have := h1.lt (.inl hg); omega
  · rcases hk.sub g hg with e | e
    · exact h4 g e q
    · have := h1.lt (.inr q); omega
  · rcases hg with hg | hg
    · exact h5 g (.inl hg)
    · rcases hk.sub g hg with e | e
      · exact h5 g (.inr e)
      · omega
  · have := h5 g (.inr hm)
    omega
theorem asksP (h : Twin d K b b2 C w0 s t V) (o : P33.Order) (til : Int) : Calls Tryz.prog 16 #[.pointer (some ⟨b, 0, none⟩), .agg #[.int .i64 o.step, .int .i64 o.attempt, .bool o.undo, .int .i64 til]] V fun e V' => e = .returned (.int .i64 (P33.asks d.bare s o).1) ∧ Twin d K b b2 C w0 (P33.asks d.bare s o).2 t V' := by
  obtain ⟨M, R, M2, R2, h1, h2, h3, h4, h5⟩ := h.ex
  refine (h1.asks o til).mono ?_
  rintro e V' ⟨rfl, M', k1, k2, k3⟩
  exact ⟨rfl, h.ofP h2 h1 h3 h4 h5 k1 k2 k3⟩
theorem saysP (h : Twin d K b b2 C w0 s t V) (a : P33.Ans) : Calls Tryz.prog 18 #[.pointer (some ⟨b, 0, none⟩), .agg #[.int .i64 a.step, .int .i64 a.attempt, .bool a.undo, .int .u8 a.outcome]] V fun e V' => e = .returned (.int .i64 (P33.says d.bare s a).1) ∧ Twin d K b b2 C w0 (P33.says d.bare s a).2 t V' := by
  obtain ⟨M, R, M2, R2, h1, h2, h3, h4, h5⟩ := h.ex
  refine (h1.says a).mono ?_
  rintro e V' ⟨rfl, M', k1, k2, k3⟩
  exact ⟨rfl, h.ofP h2 h1 h3 h4 h5 k1 k2 k3⟩
theorem endsP (h : Twin d K b b2 C w0 s t V) (st : Nat) : Calls Tryz.prog 22 #[.pointer (some ⟨b, 0, none⟩), .int .u8 st] V fun e V' => e = .returned (.int .i64 (P33.ends d.bare s st).1) ∧ Twin d K b b2 C w0 (P33.ends d.bare s st).2 t V' := by
  obtain ⟨M, R, M2, R2, h1, h2, h3, h4, h5⟩ := h.ex
  refine (h1.ends st).mono ?_
  rintro e V' ⟨rfl, M', k1, k2, k3⟩
  exact ⟨rfl, h.ofP h2 h1 h3 h4 h5 k1 k2 k3⟩
theorem haltsP (h : Twin d K b b2 C w0 s t V) : Calls Tryz.prog 20 #[.pointer (some ⟨b, 0, none⟩)] V fun e V' => e = .returned (.int .i64 (P33.halts s).1) ∧ Twin d K b b2 C w0 (P33.halts s).2 t V' := by
  obtain ⟨M, R, M2, R2, h1, h2, h3, h4, h5⟩ := h.ex
  refine h1.halts.mono ?_
  rintro e V' ⟨rfl, M', k1, k2, k3⟩
  exact ⟨rfl, h.ofP h2 h1 h3 h4 h5 k1 k2 k3⟩
theorem asksR (h : Twin d K b b2 C w0 s t V) (hN : d.steps.length ≤ 30) (hrl : ∀ l ∈ P28.refs d.bare, l.length ≤ 1000000) (o : P33.Order) (til : Int) : Calls Tryz.prog 17 #[.pointer (some ⟨b2, 0, none⟩), .agg #[.int .i64 o.step, .int .i64 o.attempt, .bool o.undo, .int .i64 til]] V fun e V' => e = .returned (.int .i64 (P33.asks d.bare t o).1) ∧ Twin d K b b2 C w0 s (P33.asks d.bare t o).2 V' := by
  obtain ⟨M, R, M2, R2, h1, h2, h3, h4, h5⟩ := h.ex
  have k8 := rinv_act h.inv h.pinv (by omega) ⟨0, o, ⟨0, 0, false, 0⟩, 0⟩
  have k9 := P33.inv_act h.pinv ⟨0, o, ⟨0, 0, false, 0⟩, 0⟩
  refine (RAsks_any o til V h2 h.inv (by omega) hrl).mono ?_
  rintro e V' ⟨rfl, M', k1, k2⟩
  exact ⟨rfl, h.ofR h2 h1 h3 h4 h5 k1 k2 k8 k9⟩
theorem saysR (h : Twin d K b b2 C w0 s t V) (hN : d.steps.length ≤ 30) (a : P33.Ans) : Calls Tryz.prog 19 #[.pointer (some ⟨b2, 0, none⟩), .agg #[.int .i64 a.step, .int .i64 a.attempt, .bool a.undo, .int .u8 a.outcome]] V fun e V' => e = .returned (.int .i64 (P33.says d.bare t a).1) ∧ Twin d K b b2 C w0 s (P33.says d.bare t a).2 V' := by
  obtain ⟨M, R, M2, R2, h1, h2, h3, h4, h5⟩ := h.ex
  have k8 := rinv_act h.inv h.pinv (by omega) ⟨1, ⟨0, 0, false⟩, a, 0⟩
  have k9 := P33.inv_act h.pinv ⟨1, ⟨0, 0, false⟩, a, 0⟩
  refine (RSays_any a V h2 h.inv (by omega) h.ci).mono ?_
  rintro e V' ⟨rfl, M', k1, k2⟩
  exact ⟨rfl, h.ofR h2 h1 h3 h4 h5 k1 k2 k8 k9⟩
theorem endsR (h : Twin d K b b2 C w0 s t V) (hN : d.steps.length ≤ 30) (st : Nat) : Calls Tryz.prog 23 #[.pointer (some ⟨b2, 0, none⟩), .int .u8 st] V fun e V' => e = .returned (.int .i64 (P33.ends d.bare t st).1) ∧ Twin d K b b2 C w0 s (P33.ends d.bare t st).2 V' := by
  obtain ⟨M, R, M2, R2, h1, h2, h3, h4, h5⟩ := h.ex
  have k8 : RInv d (P33.ends d.bare t st).2 := rinv_act h.inv h.pinv (by omega) ⟨3, ⟨0, 0, false⟩, ⟨0, 0, false, 0⟩, st⟩
  have k9 : P33.Inv d.bare (P33.ends d.bare t st).2 := P33.inv_act h.pinv ⟨3, ⟨0, 0, false⟩, ⟨0, 0, false, 0⟩, st⟩
  refine (REnds_any st V h2 h.inv (by omega)).mono ?_
  rintro e V' ⟨rfl, M', k1, k2⟩
  exact ⟨rfl, h.ofR h2 h1 h3 h4 h5 k1 k2 k8 k9⟩
theorem haltsR (h : Twin d K b b2 C w0 s t V) (hN : d.steps.length ≤ 30) : Calls Tryz.prog 21 #[.pointer (some ⟨b2, 0, none⟩)] V fun e V' => e = .returned (.int .i64 (P33.halts t).1) ∧ Twin d K b b2 C w0 s (P33.halts t).2 V' := by
  obtain ⟨M, R, M2, R2, h1, h2, h3, h4, h5⟩ := h.ex
  have k8 : RInv d (P33.halts t).2 := rinv_act h.inv h.pinv (by omega) ⟨2, ⟨0, 0, false⟩, ⟨0, 0, false, 0⟩, 0⟩
  have k9 : P33.Inv d.bare (P33.halts t).2 := P33.inv_act h.pinv ⟨2, ⟨0, 0, false⟩, ⟨0, 0, false, 0⟩, 0⟩
  refine (RHalts_any V h2).mono ?_
  rintro e V' ⟨rfl, M', k1, k2⟩
  exact ⟨rfl, h.ofR h2 h1 h3 h4 h5 k1 k2 k8 k9⟩
theorem view (h : Twin d K b b2 C w0 s t V) (hN : d.steps.length ≤ 30) :
    Calls Tryz.prog 24 #[.pointer (some ⟨b, 0, none⟩)] V (fun e V' => e = .returned (.tuple #[.int .i64 ((P33.turn d.bare s).getD 0 : Nat), .bool (P33.turn d.bare s).isSome]) ∧ Below V.heap.size V V') ∧
    Calls Tryz.prog 25 #[.pointer (some ⟨b, 0, none⟩)] V (fun e V' => e = .returned (.int .u8 s.status) ∧ V' = V) ∧
    Calls Tryz.prog 27 #[.pointer (some ⟨b, 0, none⟩)] V (fun e V' => ∃ a c, e = .returned (.slice a s.done.length c) ∧ InN V' a s.done ∧ Below V.heap.size V V') ∧
    Calls Tryz.prog 28 #[.pointer (some ⟨b, 0, none⟩)] V (fun e V' => ∃ a c, e = .returned (.slice a s.undone.length c) ∧ InN V' a s.undone ∧ Below V.heap.size V V') ∧
    Calls Tryz.prog 29 #[.pointer (some ⟨b2, 0, none⟩)] V (fun e w' => e = .returned (.int .i64 (toV (P33.turn d.bare t))) ∧ w' = V) ∧
    (V.cell? ⟨b2, 11, none⟩ = some (.int .u8 t.status) ∧ (∃ a c, V.cell? ⟨b2, 8, none⟩ = some (.slice a t.done.length c) ∧ InN V a t.done) ∧ (∃ a c, V.cell? ⟨b2, 9, none⟩ = some (.slice a t.undone.length c) ∧ InN V a t.undone)) := by
  obtain ⟨M, R, M2, R2, h1, h2, h3, h4, h5⟩ := h.ex
  refine ⟨h1.turn, h1.status, h1.done.mono ?_, h1.undone.mono ?_, h2.turn h.inv (by omega), h2.cells⟩
  · rintro e V' ⟨v', rfl, k1, k2⟩
    obtain ⟨a, c, rfl, _, k3⟩ := inN_of_iv k1
    exact ⟨a, c, rfl, k3, k2⟩
  · rintro e V' ⟨v', rfl, k1, k2⟩
    obtain ⟨a, c, rfl, _, k3⟩ := inN_of_iv k1
    exact ⟨a, c, rfl, k3, k2⟩
end Twin
set_option maxRecDepth 100000 in
set_option maxHeartbeats 800000 in
theorem SameN_any (a a2 : Option Addr) (c c2 : Nat) (l : List Nat) (w : World) (ha : InN w a l) (hb : InN w a2 l) (hlen : l.length ≤ 100000000) :
    Calls Tryz.prog 26 #[.slice a l.length c, .slice a2 l.length c2] w fun e w' => e = .returned (.bool true) ∧ ∃ q, w' = w.drewN q := by
  have HCA := hide ha
  have HCB := hide hb
  obtain ⟨n, hn⟩ : ∃ n, l.length = n := ⟨_, rfl⟩
  rw [hn] at hlen ⊢
  have HN := hide hn
  clear hn ha hb
  go_enter Tryz.func26, Tryz.ntmps26
  go_wp2
  go_loopg [5] n (fun g s5 wx => ∃ i m : Nat, i + g = n ∧ s5 = .int .i64 i ∧ w.drewN m = wx)
  case atStart => exact ⟨0, 0, by omega, by go_num, rfl⟩
  case round =>
    obtain ⟨i, m, hig, rfl, rfl⟩ := hrel
    cases gk with
    | zero =>
      have e1 : (n : Int) ≤ (i : Int) := by omega
      have j1 : decide ((i : Int) < (n : Int)) = false := by simp; omega
      go_wp2
      go_ret
      exact ⟨rfl, m, rfl⟩
    | succ g' =>
      have hlt : (i : Int) < (n : Int) := by omega
      have hki : IntKind.i64.wrap ((i : Int) + 1) = (i : Int) + 1 := IntWalk.i64_in _ (by omega)
      obtain ⟨x, hx⟩ := nth_of (unhide HN) (show i < n by omega)
      obtain ⟨g1, o1, rfl, c1⟩ := unhide HCA i x hx
      obtain ⟨g2, o2, rfl, c2⟩ := unhide HCB i x hx
      unfold iv at c1 c2
      clear hx
      go_wp2
      go_quiet (fail)
      go_wp2
      go_roundg g'
      case measure => omega
      case rel => exact ⟨i + 1, m + nq, by omega, by go_num, rfl⟩
end Go.Proofs.YtefokfbgpfcbkaaGreat
namespace Go.Proofs.YtefokfbgpfcbkaaGreat
set_option linter.unusedVariables false
set_option linter.unusedSimpArgs false
open Go.RowKit
theorem SmallD.rok {d : PDef} (h : SmallD d) : ROk d where
  len := by have := h.len; omega
  after := fun s hs => by obtain ⟨_, _, _, a, _⟩ := h.st s hs; omega
  name := by have := h.name; omega
  text := by have := h.text; omega
  st := fun s hs => by
    obtain ⟨a, b, c, e, ⟨m, f⟩, g⟩ := h.st s hs
    have hs2 := (P20.T.small_ok _ _ _ _ f (by omega)).2.1
    exact ⟨by omega, by omega, by omega, by omega, fun x hx => by have := g x hx; omega, ⟨18, 150, m, f, by omega, by omega⟩, by omega⟩
theorem SmallD.rl {d : PDef} (h : SmallD d) : ∀ l ∈ P28.refs d.bare, l.length ≤ 1000000 := fun l hl => by
  have := rows_rl _ 1000 _ 0 (fun a ha => by
    obtain ⟨q, hq, rfl⟩ := List.mem_map.1 ha
    obtain ⟨q2, hq2, rfl⟩ := List.mem_map.1 (show q ∈ d.steps.map PSt.bare from hq)
    obtain ⟨_, _, _, a, _⟩ := h.st q2 hq2
    show q2.after.length ≤ 1000
    omega) l hl
  omega
theorem toV_max (t : Option Nat) : max (toV t) 0 = ((t.getD 0 : Nat) : Int) := by
  cases t with
  | none => rfl
  | some j => show max (j : Int) 0 = (j : Int); omega
theorem toV_some (t : Option Nat) : decide (0 ≤ toV t) = t.isSome := by
  cases t with
  | none => rfl
  | some j => simp [toV]
theorem Twin.start {d : PDef} {w w5 w7 : World} {b b2 : Nat} {M R M2 R2 : Nat → Prop} {w4 w6 : World} (h1 : MdY b d.bare P33.S.new M R w5) (hM : ∀ g, M g → w4.heap.size ≤ g) (h4 : Below w.heap.size w w4) (h5 : Below w4.heap.size w4 w5) (h6 : Below w5.heap.size w5 w6)
    (h2 : RMX d (w6.heap.size + 1) b2 P33.S.new M2 R2 w7) (hl : ∀ g, M2 g ∨ R2 g → w6.heap.size + 1 ≤ g) (h7 : Below w6.heap.size w6 w7) (hd : ∀ g, d.blk g → g < w.heap.size) (hi : RInv d P33.S.new) :
    Twin d w.heap.size b b2 (w6.heap.size + 1) w P33.S.new P33.S.new w7 := by
  have z4 := h4.size
  have z5 := h5.size
  have z6 := h6.size
  have z7 := h7.size
  have hCz : w6.heap.size + 1 ≤ w7.heap.size := by
    obtain ⟨tb, ub, ob, pb, ra, rc, vs, dn, un, k1, _, _⟩ := h2.ex
    have a := k1.low.1
    have b := k1.inM (g := b2) (by simp)
    omega
  have h56 : Below w4.heap.size w4 w7 := (h5.trans (h6.mono z5)).trans (h7.mono (by omega))
  refine ⟨⟨M, R, M2, R2, (h1.below (h6.trans (h7.mono z6))), h2, fun g hg => ?_, fun g hg q => ?_, fun g hg => ?_⟩, h4.trans (h56.mono z4), hi, P33.inv_new _, by omega, by omega⟩
  · have a := h1.lt (.inl hg)
    have b := hM g hg
    refine ⟨fun q => ?_, fun q => ?_, fun q => ?_⟩
    · have := hl g (.inl q); omega
    · have := hl g (.inr q); omega
    · have := hd g q; omega
  · have a := h1.lt (.inr q)
    have := hl g (.inl hg)
    omega
  · rcases hg with hg | hg
    · have := hM g hg; omega
    · have := hl g (.inl hg); omega
set_option maxRecDepth 100000 in
set_option maxHeartbeats 8000000 in
theorem ModelPlays_any (d : PDef) (ad : Option Addr) (cap : Nat) (l : List Act33) (w : World) (hin : d.In w) (ha : InR w 10 Act33.cs ad l) (hl : l.length ≤ maxLen) :
    Calls Tryz.prog 3 #[d.val, .slice ad l.length cap] w fun e w' => e = .returned (.bool true) ∧ Below w.heap.size w w' := by
  obtain ⟨H, hH⟩ : ∃ H, w.heap.size = H := ⟨_, rfl⟩
  rw [hH]
  obtain ⟨W1, hW1, hb1, g0, hs1⟩ := new1 w (defO d) H hH
  have hlive := live33_any W1
  have hinV : ∀ V, Below H w V → d.In V := fun V hV => hin.below (by rw [hH]; exact hV)
  have haV : ∀ V, Below H w V → InR V 10 Act33.cs ad l := fun V hV => ha.below (by rw [hH]; exact hV)
  have hbox : ∀ V, Below (H + 1) W1 V → V.heap[H]? = some (defO d) := fun V hV => (hV.block H (by omega)).trans g0
  have hsmall := fun V (hV : Below H w V) => Small21_any d V (hinV V hV)
  obtain ⟨SM, hSM⟩ : ∃ x, P21.small d.bare = x := ⟨_, rfl⟩
  rw [hSM] at hsmall
  obtain ⟨CL, hCL⟩ : ∃ x, P28.clean d.bare = x := ⟨_, rfl⟩
  have hrclean := fun V (hV : Below H w V) (hs : SM = true) => RClean_any d V (hinV V hV) (smallD_of (hSM.trans hs)).rok
  rw [hCL] at hrclean
  have hbad := fun V (hV : Below H w V) (hs : SM = true) (hc : CL = false) => New_bad d V (hinV V hV) (smallD_of (hSM.trans hs)).ok (hCL.trans hc)
  have hnew := fun V (hV : Below H w V) (hs : SM = true) (hc : CL = true) => MdY.new d V (hinV V hV) (smallD_of (hSM.trans hs)).ok ((smallD_of (hSM.trans hs)).cp (by have := clean_ne (hCL.trans hc); simpa [PDef.bare] using this)) (hCL.trans hc) (smallD_of (hSM.trans hs)).af
  have hrnew := fun V (hV : Below H w V) (hs : SM = true) => RNew_any d V (hinV V hV) (by have := (smallD_of (hSM.trans hs)).len; omega) (smallD_of (hSM.trans hs)).af
  have hN30 : SM = true → d.steps.length ≤ 30 := fun hs => (smallD_of (hSM.trans hs)).len
  have hrl : SM = true → ∀ l ∈ P28.refs d.bare, l.length ≤ 1000000 := fun hs => (smallD_of (hSM.trans hs)).rl
  have hrv : SM = true → CL = true → RInv d P33.S.new := fun hs hc => rinv_new (hCL.trans hc) (by have := (smallD_of (hSM.trans hs)).len; omega)
  have hdb : ∀ g, d.blk g → g < H := fun g hg => by rw [← hH]; exact hin.lt hg
  obtain ⟨nm, hnm⟩ : ∃ x, (⟨d.name.toArray⟩ : ByteArray) = x := ⟨_, rfl⟩
  obtain ⟨tx, htx⟩ : ∃ x, (⟨d.text.toArray⟩ : ByteArray) = x := ⟨_, rfl⟩
  obtain ⟨sa, hsa⟩ : ∃ x, d.sa = x := ⟨_, rfl⟩
  obtain ⟨sc, hsc⟩ : ∃ x, d.sc = x := ⟨_, rfl⟩
  obtain ⟨N, hN⟩ : ∃ N, d.steps.length = N := ⟨_, rfl⟩
  have hdv : d.val = .agg #[.string nm, .string tx, .slice sa N sc] := by unfold PDef.val; rw [hnm, htx, hsa, hsc, hN]
  have hdo : defO d = .cells #[.string nm, .string tx, .slice sa N sc] 24 := by unfold defO; rw [hnm, htx, hsa, hsc, hN]
  obtain ⟨NL, hNL⟩ : ∃ NL, l.length = NL := ⟨_, rfl⟩
  rw [hNL] at hl
  rw [hdo] at hW1 hbox
  rw [hdv] at hsmall hrclean hbad hnew hrnew
  rw [hdv, hNL]
  have HLV := hide hlive
  have HBX := hide hbox
  have HSM := hide hsmall
  have HCL := hide hrclean
  have HBAD := hide hbad
  have HNW := hide hnew
  have HRN := hide hrnew
  have HAV := hide haV
  have HRL := hide hrl
  have HRV := hide hrv
  have HDB := hide hdb
  have HN30 := hide hN30
  have HW1 := hide hW1
  have HB1 := hide hb1
  have HNL := hide hNL
  have hl9 : NL ≤ 9223372036854775807 := by unfold maxLen at hl; omega
  clear hlive hinV haV hbox hsmall hrclean hbad hnew hrnew hW1 hb1 g0 hin ha hSM hCL hrl hrv hdb hN30 hNL hl hnm htx hsa hsc hN hdv hdo
  go_enter Tryz.func3, Tryz.ntmps3
  go_upto_region 1 with fail
  try rw [hH]
  rw [unhide HW1]
  go_upto_region 3 with (go_at_call 11; refine (unhide HLV).mono ?_; rintro e w2 ⟨rfl, b2⟩)
  have hb2 : Below (H + 1) W1 w2 := by rw [← hs1]; exact b2
  have hw2 : Below H w w2 := (unhide HB1).trans (hb2.mono (by omega))
  obtain ⟨⟨k0, _⟩, ⟨k1, _⟩, ⟨k2, _⟩⟩ := cell3 (unhide HBX w2 hb2)
  have hs2 : H + 1 ≤ w2.heap.size := by have := hb2.size; omega
  have HB2 := hide hb2
  have HW2 := hide hw2
  clear b2 hb2 hw2
  cases SM with
  | false =>
    go_wp2_with (go_at_call 12; refine (unhide HSM _ (unhide HW2)).mono ?_; rintro e w3 ⟨rfl, b3⟩)
    go_ret
    exact ⟨rfl, (unhide HW2).trans (b3.mono (by omega))⟩
  | true =>
    by_cases h120 : 120 < NL
    · have h1 : (120 : Int) < (NL : Int) := by omega
      go_wp2_with (go_at_call 12; refine (unhide HSM _ (unhide HW2)).mono ?_; rintro e w3 ⟨rfl, b3⟩)
      go_ret
      exact ⟨rfl, (unhide HW2).trans (b3.mono (by omega))⟩
    · have h1 : (NL : Int) ≤ 120 := by omega
      have hd : decide ((120 : Int) < (NL : Int)) = false := by simp; omega
      go_upto_region 5 with (go_at_call 12; refine (unhide HSM _ (unhide HW2)).mono ?_; rintro e w4 ⟨rfl, b4⟩)
      have hb4 : Below (H + 1) W1 w4 := (unhide HB2).trans (b4.mono (by omega))
      have hw4 : Below H w w4 := (unhide HB1).trans (hb4.mono (by omega))
      have hs4 : H + 1 ≤ w4.heap.size := by have := hb4.size; omega
      clear k0 k1 k2 b4
      obtain ⟨⟨k0, _⟩, ⟨k1, _⟩, ⟨k2, _⟩⟩ := cell3 (unhide HBX w4 hb4)
      have hN9 := unhide HN30 (by simp)
      have HB4 := hide hb4
      have HW4 := hide hw4
      clear hb4 hw4
      cases CL with
      | false =>
        have HNW4 := hide (unhide HBAD w4 (unhide HW4) (by simp) (by simp))
        go_upto_region 6 with (go_at_call 13; refine (unhide HNW4).mono ?_; rintro e w5 ⟨rfl, b5⟩)
        have hb5 : Below (H + 1) W1 w5 := (unhide HB4).trans (b5.mono (by omega))
        have hw5 : Below H w w5 := (unhide HB1).trans (hb5.mono (by omega))
        have hs5 : H + 1 ≤ w5.heap.size := by have := hb5.size; omega
        clear k0 k1 k2 b5
        obtain ⟨⟨k0, _⟩, ⟨k1, _⟩, ⟨k2, _⟩⟩ := cell3 (unhide HBX w5 hb5)
        have HC5 := hide (unhide HCL w5 hw5 (by simp))
        have HW5 := hide hw5
        clear hb5 hw5
        go_wp2_with (go_at_call 14; refine (unhide HC5).mono ?_; rintro e w6 ⟨rfl, b6⟩)
        go_ret
        exact ⟨rfl, (unhide HW5).trans (b6.mono (by omega))⟩
      | true =>
        have HNW4 := hide (unhide HNW w4 (unhide HW4) (by simp) (by simp))
        go_upto_region 6 with (go_at_call 13; refine (unhide HNW4).mono ?_; rintro e w5 ⟨b, M, R, rfl, hmy, hMl, b5⟩)
        have hb5 : Below (H + 1) W1 w5 := (unhide HB4).trans (b5.mono (by omega))
        have hw5 : Below H w w5 := (unhide HB1).trans (hb5.mono (by omega))
        have hs5 : H + 1 ≤ w5.heap.size := by have := hb5.size; omega
        clear k0 k1 k2
        obtain ⟨⟨k0, _⟩, ⟨k1, _⟩, ⟨k2, _⟩⟩ := cell3 (unhide HBX w5 hb5)
        have HC5 := hide (unhide HCL w5 hw5 (by simp))
        have HM5 := hide (And.intro hmy (And.intro hMl b5))
        have HB5 := hide hb5
        clear hb5 hw5 hmy hMl b5
        go_upto_region 8 with (go_at_call 14; refine (unhide HC5).mono ?_; rintro e w6 ⟨rfl, b6⟩)
        have hb6 : Below (H + 1) W1 w6 := (unhide HB5).trans (b6.mono (by omega))
        have hw6 : Below H w w6 := (unhide HB1).trans (hb6.mono (by omega))
        clear k0 k1 k2
        obtain ⟨⟨k0, _⟩, ⟨k1, _⟩, ⟨k2, _⟩⟩ := cell3 (unhide HBX w6 hb6)
        have HR6 := hide (unhide HRN w6 hw6 (by simp))
        have HB6 := hide b6
        clear hb6 hw6 b6
        go_upto_region 11 with (go_at_call 15; refine (unhide HR6).mono ?_; rintro e w7 ⟨b2, M2, R2, rfl, hmr, hlr, b7⟩)
        have htw : Twin d w.heap.size b b2 (w6.heap.size + 1) w P33.S.new P33.S.new w7 := by
          obtain ⟨hmy, hMl, b5⟩ := unhide HM5
          refine Twin.start hmy hMl (by rw [hH]; exact unhide HW4) b5 (unhide HB6) hmr hlr b7 (fun g hg => by rw [hH]; exact unhide HDB g hg) (unhide HRV (by simp) (by simp))
        rw [hH] at htw
        obtain ⟨C, hC⟩ : ∃ C, w6.heap.size + 1 = C := ⟨_, rfl⟩
        rw [hC] at htw
        have HTW := hide htw
        have hrl := hide (unhide HRL (by simp))
        clear htw hC k0 k1 k2 hmr hlr b7 HM5 HB5 HC5 HR6 HB6 HNW4 HNW HRN HBAD HRV HDB HBX HCL HSM HLV HB2 HW2 HB4 HRL
        go_wp2
        go_loopg [8] NL (fun g s8 wx => ∃ (i : Nat) (s : P33.S), i + g = NL ∧ s8 = .int .i64 i ∧ Hid (Twin d H b b2 C w s s wx))
        case atStart => exact ⟨0, _, by omega, by go_num, HTW⟩
        case round =>
          obtain ⟨i, s, hig, rfl, HMI⟩ := hrel
          cases gk with
          | zero =>
            have e1 : (NL : Int) ≤ (i : Int) := by omega
            have j1 : decide ((i : Int) < (NL : Int)) = false := by simp; omega
            go_wp2
            go_ret
            exact ⟨rfl, (unhide HMI).bel⟩
          | succ g' =>
            have hlt : (i : Int) < (NL : Int) := by omega
            have hkj : IntKind.i64.wrap ((i : Int) + 1) = (i : Int) + 1 := IntWalk.i64_in _ (by omega)
            obtain ⟨a, hai⟩ := nth_of (unhide HNL) (show i < NL by omega)
            have hbw : Below H w wr := (unhide HMI).bel
            obtain ⟨ab, ao, rfl, hac⟩ := unhide HAV wr hbw i a hai
            obtain ⟨kind, os, oa, ou, ot, as_, aa, au, oc, stt⟩ := a
            have hab : ∀ V, Below H w V → ∀ k v, (Act33.cs ⟨kind, os, oa, ou, ot, as_, aa, au, oc, stt⟩)[k]? = some v → V.cell? ⟨ab, ao + i * 10 + k, none⟩ = some v := fun V hV k v hk => by
              obtain ⟨ab2, ao2, e, h2⟩ := unhide HAV V hV i _ hai
              cases e
              exact h2 k v hk
            have c0 : wr.cell? ⟨ab, ao + i * 10, none⟩ = some (.int .u8 kind) := by have := hac 0 _ rfl; simpa using this
            have c1 := hab wr hbw 1 _ rfl
            have c2 := hab wr hbw 2 _ rfl
            have c3 := hab wr hbw 3 _ rfl
            have c4 := hab wr hbw 4 _ rfl
            have c5 := hab wr hbw 5 _ rfl
            have c6 := hab wr hbw 6 _ rfl
            have c7 := hab wr hbw 7 _ rfl
            have c8 := hab wr hbw 8 _ rfl
            have c9 := hab wr hbw 9 _ rfl
            obtain ⟨⟨F, s'⟩, hX⟩ : ∃ X, P33.act d.bare s ⟨kind, ⟨os, oa, ou⟩, ⟨as_, aa, au, oc⟩, stt⟩ = X := ⟨_, rfl⟩
            have HAB := hide hab
            clear hab hac hai hbw
            have hkd : kind = 0 ∨ kind = 1 ∨ kind = 2 ∨ (kind ≠ 0 ∧ kind ≠ 1 ∧ kind ≠ 2) := by omega
            go_upto_block 2 with fail
            go_cut [9, 10] from 56 to 107 (fun s9 s10 wx => s9 = .int .i64 F ∧ s10 = .int .i64 F ∧ Hid (Twin d H b b2 C w s' s' wx))
            case first =>
              rcases hkd with rfl | rfl | rfl | ⟨n0, n1, n2⟩
              case inl =>
                have hkP := fun t V (h : Twin d H b b2 C w s t V) => h.asksP ⟨os, oa, ou⟩ ot
                have hkR := fun t V (h : Twin d H b b2 C w t s V) => h.asksR hN9 (unhide hrl) ⟨os, oa, ou⟩ ot
                rw [show P33.asks d.bare s ⟨os, oa, ou⟩ = (F, s') from hX] at hkP hkR
                have HKP := hide hkP
                have HKR := hide hkR
                clear hkP hkR hX c5 c6 c7 c8 c9
                go_upto_region 18 with fail
                go_region_held3 (fun w' => w'.cell? ⟨ab, ao + i * 10 + 1, none⟩ = some (.int .i64 os) ∧ w'.cell? ⟨ab, ao + i * 10 + 2, none⟩ = some (.int .i64 oa) ∧ w'.cell? ⟨ab, ao + i * 10 + 3, none⟩ = some (.bool ou) ∧ w'.cell? ⟨ab, ao + i * 10 + 4, none⟩ = some (.int .i64 ot)) (first | exact ⟨c1, c2, c3, c4⟩ | exact S4 | exact S5) (first
                  | (go_at_call 16; with_reducible refine (unhide HKP _ _ (by first | exact unhide HMI | exact (unhide HMI).below ((Below.refl _ _).drew))).mono ?_; rintro e W4 ⟨rfl, hm4⟩; have S4 : W4.cell? ⟨ab, ao + i * 10 + 1, none⟩ = some (.int .i64 os) ∧ W4.cell? ⟨ab, ao + i * 10 + 2, none⟩ = some (.int .i64 oa) ∧ W4.cell? ⟨ab, ao + i * 10 + 3, none⟩ = some (.bool ou) ∧ W4.cell? ⟨ab, ao + i * 10 + 4, none⟩ = some (.int .i64 ot) := ⟨unhide HAB W4 hm4.bel 1 _ rfl, unhide HAB W4 hm4.bel 2 _ rfl, unhide HAB W4 hm4.bel 3 _ rfl, unhide HAB W4 hm4.bel 4 _ rfl⟩)
                  | (go_at_call 17; with_reducible refine (unhide HKR _ _ (by first | exact hm4 | exact hm4.below ((Below.refl _ _).drew))).mono ?_; rintro e V ⟨rfl, hm⟩; have S5 : V.cell? ⟨ab, ao + i * 10 + 1, none⟩ = some (.int .i64 os) ∧ V.cell? ⟨ab, ao + i * 10 + 2, none⟩ = some (.int .i64 oa) ∧ V.cell? ⟨ab, ao + i * 10 + 3, none⟩ = some (.bool ou) ∧ V.cell? ⟨ab, ao + i * 10 + 4, none⟩ = some (.int .i64 ot) := ⟨unhide HAB V hm.bel 1 _ rfl, unhide HAB V hm.bel 2 _ rfl, unhide HAB V hm.bel 3 _ rfl, unhide HAB V hm.bel 4 _ rfl⟩))
                go_wp2
                go_meet
                exact ⟨rfl, rfl, hide hm⟩
              case inr.inl =>
                have hkP := fun t V (h : Twin d H b b2 C w s t V) => h.saysP ⟨as_, aa, au, oc⟩
                have hkR := fun t V (h : Twin d H b b2 C w t s V) => h.saysR hN9 ⟨as_, aa, au, oc⟩
                rw [show P33.says d.bare s ⟨as_, aa, au, oc⟩ = (F, s') from hX] at hkP hkR
                have HKP := hide hkP
                have HKR := hide hkR
                clear hkP hkR hX c1 c2 c3 c4 c9
                go_upto_region 20 with fail
                go_region_held3 (fun w' => w'.cell? ⟨ab, ao + i * 10 + 5, none⟩ = some (.int .i64 as_) ∧ w'.cell? ⟨ab, ao + i * 10 + 6, none⟩ = some (.int .i64 aa) ∧ w'.cell? ⟨ab, ao + i * 10 + 7, none⟩ = some (.bool au) ∧ w'.cell? ⟨ab, ao + i * 10 + 8, none⟩ = some (.int .u8 oc)) (first | exact ⟨c5, c6, c7, c8⟩ | exact S4 | exact S5) (first
                  | (go_at_call 18; with_reducible refine (unhide HKP _ _ (by first | exact unhide HMI | exact (unhide HMI).below ((Below.refl _ _).drew))).mono ?_; rintro e W4 ⟨rfl, hm4⟩; have S4 : W4.cell? ⟨ab, ao + i * 10 + 5, none⟩ = some (.int .i64 as_) ∧ W4.cell? ⟨ab, ao + i * 10 + 6, none⟩ = some (.int .i64 aa) ∧ W4.cell? ⟨ab, ao + i * 10 + 7, none⟩ = some (.bool au) ∧ W4.cell? ⟨ab, ao + i * 10 + 8, none⟩ = some (.int .u8 oc) := ⟨unhide HAB W4 hm4.bel 5 _ rfl, unhide HAB W4 hm4.bel 6 _ rfl, unhide HAB W4 hm4.bel 7 _ rfl, unhide HAB W4 hm4.bel 8 _ rfl⟩)
                  | (go_at_call 19; with_reducible refine (unhide HKR _ _ (by first | exact hm4 | exact hm4.below ((Below.refl _ _).drew))).mono ?_; rintro e V ⟨rfl, hm⟩; have S5 : V.cell? ⟨ab, ao + i * 10 + 5, none⟩ = some (.int .i64 as_) ∧ V.cell? ⟨ab, ao + i * 10 + 6, none⟩ = some (.int .i64 aa) ∧ V.cell? ⟨ab, ao + i * 10 + 7, none⟩ = some (.bool au) ∧ V.cell? ⟨ab, ao + i * 10 + 8, none⟩ = some (.int .u8 oc) := ⟨unhide HAB V hm.bel 5 _ rfl, unhide HAB V hm.bel 6 _ rfl, unhide HAB V hm.bel 7 _ rfl, unhide HAB V hm.bel 8 _ rfl⟩))
                go_wp2
                go_meet
                exact ⟨rfl, rfl, hide hm⟩
              case inr.inr.inl =>
                have hkP := fun t V (h : Twin d H b b2 C w s t V) => h.haltsP
                have hkR := fun t V (h : Twin d H b b2 C w t s V) => h.haltsR hN9
                rw [show P33.halts s = (F, s') from hX] at hkP hkR
                have HKP := hide hkP
                have HKR := hide hkR
                clear hkP hkR hX c1 c2 c3 c4 c5 c6 c7 c8 c9
                go_wp2_with (first | (go_at_call 20; with_reducible refine (unhide HKP _ _ (unhide HMI)).mono ?_; rintro e W4 ⟨rfl, hm4⟩) | (go_at_call 21; with_reducible refine (unhide HKR _ _ hm4).mono ?_; rintro e V ⟨rfl, hm⟩))
                go_meet
                exact ⟨rfl, rfl, hide hm⟩
              case inr.inr.inr =>
                have hX2 : P33.ends d.bare s stt = (F, s') := by
                  unfold P33.act at hX
                  rw [if_neg n0, if_neg n1, if_neg n2] at hX
                  exact hX
                have hkP := fun t V (h : Twin d H b b2 C w s t V) => h.endsP stt
                have hkR := fun t V (h : Twin d H b b2 C w t s V) => h.endsR hN9 stt
                rw [hX2] at hkP hkR
                have HKP := hide hkP
                have HKR := hide hkR
                have b0 : ((kind : Int) == 0) = false := by simp; omega
                have b1 : ((kind : Int) == 1) = false := by simp; omega
                have b2' : ((kind : Int) == 2) = false := by simp; omega
                clear hkP hkR hX hX2 c1 c2 c3 c4 c5 c6 c7 c8
                go_upto_region 16 with fail
                go_region_held3 (fun w' => w'.cell? ⟨ab, ao + i * 10 + 9, none⟩ = some (.int .u8 stt)) (first | exact c9 | exact S4 | exact S5) (first
                  | (go_at_call 22; with_reducible refine (unhide HKP _ _ (by first | exact unhide HMI | exact (unhide HMI).below ((Below.refl _ _).drew))).mono ?_; rintro e W4 ⟨rfl, hm4⟩; have S4 : W4.cell? ⟨ab, ao + i * 10 + 9, none⟩ = some (.int .u8 stt) := unhide HAB W4 hm4.bel 9 _ rfl)
                  | (go_at_call 23; with_reducible refine (unhide HKR _ _ (by first | exact hm4 | exact hm4.below ((Below.refl _ _).drew))).mono ?_; rintro e V ⟨rfl, hm⟩; have S5 : V.cell? ⟨ab, ao + i * 10 + 9, none⟩ = some (.int .u8 stt) := unhide HAB V hm.bel 9 _ rfl))
                go_wp2
                go_meet
                exact ⟨rfl, rfl, hide hm⟩
            case rest =>
              obtain ⟨rfl, rfl, HM⟩ := hcut
              obtain ⟨V, hV⟩ : ∃ X, X = wc := ⟨_, rfl⟩
              subst hV
              clear c0 c1 c2 c3 c4 c5 c6 c7 c8 c9 hX hkd HMI
              obtain ⟨v1, v2, v3, v4, v5, q11, ⟨a8, c8', q8, i8⟩, ⟨a9, c9', q9, i9⟩⟩ := (unhide HM).view hN9
              obtain ⟨tv, htv⟩ : ∃ x, toV (P33.turn d.bare s') = x := ⟨_, rfl⟩
              obtain ⟨td, htd⟩ : ∃ x : Int, ((P33.turn d.bare s').getD 0 : Nat) = x := ⟨_, rfl⟩
              obtain ⟨sm, hsm⟩ : ∃ x, (P33.turn d.bare s').isSome = x := ⟨_, rfl⟩
              have hmax := toV_max (P33.turn d.bare s')
              have hge := toV_some (P33.turn d.bare s')
              rw [htv, htd] at hmax
              rw [htv, hsm] at hge
              rw [htd, hsm] at v1
              have HV1 := hide v1
              clear v1 v2 v3 v4 v5 q11 q8 i8 q9 i9
              go_upto_region 24 with (go_at_call 24; refine (unhide HV1).mono ?_; rintro e U ⟨rfl, bU⟩)
              have hU := (unhide HM).below bU
              have hvw := fun X (hX : Below U.heap.size U X) => (hU.below hX).view hN9
              obtain ⟨_, _, _, _, _, q11, ⟨a8, c8', q8, i8⟩, ⟨a9, c9', q9, i9⟩⟩ := hU.view hN9
              obtain ⟨D, hD⟩ : ∃ D, s'.done.length = D := ⟨_, rfl⟩
              obtain ⟨E, hE⟩ : ∃ D, s'.undone.length = D := ⟨_, rfl⟩
              simp only [htv, hD, hE] at hvw
              rw [hD] at q8
              rw [hE] at q9
              have hln : s'.done.length ≤ 100000000 ∧ s'.undone.length ≤ 100000000 := by
                have a := hU.inv.dl
                have b := hU.inv.ul
                omega
              have hsD := fun a c a2 c2 X (h1 : InN X a s'.done) (h2 : InN X a2 s'.done) => SameN_any a a2 c c2 s'.done X h1 h2 hln.1
              have hsE := fun a c a2 c2 X (h1 : InN X a s'.undone) (h2 : InN X a2 s'.undone) => SameN_any a a2 c c2 s'.undone X h1 h2 hln.2
              simp only [hD] at hsD
              simp only [hE] at hsE
              have HSD := hide hsD
              have HSE := hide hsE
              have HVW := hide hvw
              have HU := hide hU
              have HI8 := hide i8
              have HI9 := hide i9
              have HDE := hide (And.intro hD hE)
              have hbU : b2 < U.heap.size := cellLt q11
              clear hvw hU i8 i9 hD hE htv htd hsm bU HV1 HM hsD hsE hln HDE
              go_region_held3 (fun w' => w'.cell? ⟨b2, 11, none⟩ = some (.int .u8 (s'.status : Int)) ∧ w'.cell? ⟨b2, 8, none⟩ = some (.slice a8 D c8') ∧ w'.cell? ⟨b2, 9, none⟩ = some (.slice a9 E c9')) (first | exact ⟨q11, q8, q9⟩ | exact SV1 | exact SW2 | exact SV3 | exact SW4) (first
                | (have hq := i3; clear hq; go_at_call 26; with_reducible refine (unhide HSE a3 e3 a9 c9' _ (by exact i3) (by exact (unhide HI9).below' B3)).mono ?_; rintro e W4 ⟨rfl, q4, hW4⟩; have B4 : Below U.heap.size U W4 := (by rw [hW4]; first | exact B3.trans (below_drewN (Below.refl _ _)) | exact B3.drew.trans (below_drewN (Below.refl _ _)) | exact B3.drew.drew.trans (below_drewN (Below.refl _ _))); have SW4 : W4.cell? ⟨b2, 11, none⟩ = some (.int .u8 (s'.status : Int)) ∧ W4.cell? ⟨b2, 8, none⟩ = some (.slice a8 D c8') ∧ W4.cell? ⟨b2, 9, none⟩ = some (.slice a9 E c9') := ⟨(cell_of_block (B4.block b2 hbU) _).trans q11, (cell_of_block (B4.block b2 hbU) _).trans q8, (cell_of_block (B4.block b2 hbU) _).trans q9⟩; clear hW4)
                | (go_at_call 25; with_reducible refine ((unhide HVW _ (by first | exact Below.refl U.heap.size U | exact (Below.refl U.heap.size U).drew | exact (Below.refl U.heap.size U).drew.drew)).2.1).mono ?_; rintro e w' ⟨rfl, hw⟩; have hw := hw.symm; subst hw)
                | (go_at_call 27; with_reducible refine ((unhide HVW _ (by first | exact Below.refl U.heap.size U | exact (Below.refl U.heap.size U).drew | exact (Below.refl U.heap.size U).drew.drew)).2.2.1).mono ?_; rintro e V1 ⟨a1, e1, rfl, i1, b1⟩; have B1 : Below U.heap.size U V1 := (by first | exact (Below.refl U.heap.size U).trans (b1.mono (Below.refl U.heap.size U).size) | exact (Below.refl U.heap.size U).drew.trans (b1.mono (Below.refl U.heap.size U).drew.size) | exact (Below.refl U.heap.size U).drew.drew.trans (b1.mono (Below.refl U.heap.size U).drew.drew.size)); have SV1 : V1.cell? ⟨b2, 11, none⟩ = some (.int .u8 (s'.status : Int)) ∧ V1.cell? ⟨b2, 8, none⟩ = some (.slice a8 D c8') ∧ V1.cell? ⟨b2, 9, none⟩ = some (.slice a9 E c9') := ⟨(cell_of_block (B1.block b2 hbU) _).trans q11, (cell_of_block (B1.block b2 hbU) _).trans q8, (cell_of_block (B1.block b2 hbU) _).trans q9⟩; clear b1)
                | (go_at_call 26; with_reducible refine (unhide HSD a1 e1 a8 c8' _ (by exact i1) (by exact (unhide HI8).below' B1)).mono ?_; rintro e W2 ⟨rfl, q2, hW2⟩; have B2 : Below U.heap.size U W2 := (by rw [hW2]; first | exact B1.trans (below_drewN (Below.refl _ _)) | exact B1.drew.trans (below_drewN (Below.refl _ _)) | exact B1.drew.drew.trans (below_drewN (Below.refl _ _))); have SW2 : W2.cell? ⟨b2, 11, none⟩ = some (.int .u8 (s'.status : Int)) ∧ W2.cell? ⟨b2, 8, none⟩ = some (.slice a8 D c8') ∧ W2.cell? ⟨b2, 9, none⟩ = some (.slice a9 E c9') := ⟨(cell_of_block (B2.block b2 hbU) _).trans q11, (cell_of_block (B2.block b2 hbU) _).trans q8, (cell_of_block (B2.block b2 hbU) _).trans q9⟩; clear hW2)
                | (go_at_call 28; with_reducible refine ((unhide HVW _ (by first | exact B2 | exact (B2).drew | exact (B2).drew.drew)).2.2.2.1).mono ?_; rintro e V3 ⟨a3, e3, rfl, i3, b3⟩; have B3 : Below U.heap.size U V3 := (by first | exact (B2).trans (b3.mono (B2).size) | exact (B2).drew.trans (b3.mono (B2).drew.size) | exact (B2).drew.drew.trans (b3.mono (B2).drew.drew.size)); have SV3 : V3.cell? ⟨b2, 11, none⟩ = some (.int .u8 (s'.status : Int)) ∧ V3.cell? ⟨b2, 8, none⟩ = some (.slice a8 D c8') ∧ V3.cell? ⟨b2, 9, none⟩ = some (.slice a9 E c9') := ⟨(cell_of_block (B3.block b2 hbU) _).trans q11, (cell_of_block (B3.block b2 hbU) _).trans q8, (cell_of_block (B3.block b2 hbU) _).trans q9⟩; clear b3)
                | (go_at_call 29; with_reducible refine ((unhide HVW _ (by first | exact B4 | exact (B4).drew | exact (B4).drew.drew)).2.2.2.2.1).mono ?_; rintro e w' ⟨rfl, hw⟩; have hw := hw.symm; subst hw))
              go_wp2
              go_roundg g'
              case measure => omega
              case rel => exact ⟨i + 1, s', by omega, by go_num, hide ((unhide HU).below (by first | exact B4 | exact B4.drew | exact B4.drew.drew))⟩
theorem ModelPlays_row (v0 v1 : Value) (w : World) (h0 : DefIn w v0) (h1 : Acts33 w v1) : Calls Tryz.prog 3 #[v0, v1] w fun e w' => e = .returned (.bool true) ∧ Below w.heap.size w w' := by
  obtain ⟨D, rfl, h2, _⟩ := h0
  obtain ⟨ad, l, cap, rfl, h3, h4⟩ := h1
  exact ModelPlays_any D ad cap l w h2 h3 h4
end Go.Proofs.YtefokfbgpfcbkaaGreat
