/- Lemmas of this claim (a part of its texts, kept as far as the claim reaches them). -/
import Derived.Test.YtefokfbgpfcbkaaGreatS32hZ
namespace Go.Proofs.YtefokfbgpfcbkaaGreat
set_option linter.unusedVariables false
set_option linter.unusedSimpArgs false
open Go.RowKit
theorem forth_len (d : P22.Def) (n : Int) (x : P32.S × List P32.Order) : (P32.forth d n x).2.length ≤ x.2.length + d.steps.length := by
  unfold P32.forth
  split
  · simp
  · split
    · simp
    · exact goK_len d n x _
theorem SA.c7 {w0 W : World} {M0 : Nat → Prop} {b bm rb C h1 h2 ob : Nat} {vs : Nat → Value} {d : PDef} {x : P32.S × List P32.Order} (h : SA w0 M0 b bm rb C h1 h2 ob vs d x W) : W.cell? ⟨b, 7, none⟩ = some (.int .u8 (x.1.status : Int)) := by
  obtain ⟨dn, un, k1⟩ := h.sg
  exact k1.cells.2.2.2.2.2.1
set_option maxRecDepth 100000 in
set_option maxHeartbeats 8000000 in
theorem on_any {w0 : World} {M0 : Nat → Prop} {b bm rb C h1 h2 ob : Nat} {vs : Nat → Value} {d : PDef} {x : P32.S × List P32.Order} (n : Int) (w : World) (h : SA w0 M0 b bm rb C h1 h2 ob vs d x w) (hg : P32.Good d.bare x) (hlen : x.2.length ≤ 700000) :
    Calls Tryz.prog 105 #[.pointer (some ⟨b, 0, none⟩), .func (.func 146) #[] #[.pointer (some ⟨h1, 0, none⟩), .pointer (some ⟨h2, 0, none⟩)], .int .i64 n] w fun e w' => (∃ v, e = .returned v) ∧ SA w0 M0 b bm rb C h1 h2 ob vs d (P32.on d.bare n x) w' := by
  have hN : d.steps.length ≤ 100000 := by
    obtain ⟨dn, un, k1⟩ := h.sg
    exact k1.nle
  have c7 := h.c7
  have H := hide h
  by_cases g1 : x.1.status = 1
  · have hf := forth_any n w h hg g1 (by omega)
    have hfg := (P32.good_forth (n := n) hg g1).1
    have hfl := forth_len d.bare n x
    rw [Md.blen] at hfl
    have hon : P32.on d.bare n x = if (P32.forth d.bare n x).1.status = 2 then P32.back d.bare n (P32.forth d.bare n x) else P32.forth d.bare n x := by
      unfold P32.on P32.on1 P32.on2
      rw [if_pos g1]
    rw [hon]
    obtain ⟨y, hy⟩ : ∃ y, P32.forth d.bare n x = y := ⟨_, rfl⟩
    rw [hy] at hf hfg hfl ⊢
    have hk := fun W (hW : SA w0 M0 b bm rb C h1 h2 ob vs d y W) (h2' : y.1.status = 2) => back_any n W hW hfg h2' (by omega)
    have h7 := fun W (hW : SA w0 M0 b bm rb C h1 h2 ob vs d y W) => hW.c7
    obtain ⟨ST, hST⟩ : ∃ s, x.1.status = s := ⟨_, rfl⟩
    rw [hST] at c7 g1
    have p1 : ((ST : Int) == 1) = true := by rw [g1]; rfl
    have HF := hide hf
    have HK := hide hk
    by_cases g2 : y.1.status = 2
    · rw [if_pos g2]
      obtain ⟨ST2, hST2⟩ : ∃ s, y.1.status = s := ⟨_, rfl⟩
      rw [hST2] at h7
      have g2' : ST2 = 2 := hST2 ▸ g2
      have p2 : ((ST2 : Int) == 2) = true := by rw [g2']; rfl
      have H7 := hide h7
      have HG2 := hide g2
      clear hf hk h7 h hg hfg hfl hon hy hST hST2 g1 g2 g2'
      go_enter Tryz.func105, Tryz.ntmps105
      go_wp2_with (first | (go_at_call 147; refine (unhide HF).mono ?_; rintro e w3 ⟨⟨v3, rfl⟩, hs3⟩; have c73 := unhide H7 w3 hs3; have HB := hide (unhide HK w3 hs3 (unhide HG2)); clear hs3) | (go_at_call 148; refine (unhide HB).mono ?_; rintro e w4 ⟨⟨v4, rfl⟩, hs4⟩))
      go_end0
      exact ⟨⟨_, rfl⟩, hs4⟩
    · rw [if_neg g2]
      obtain ⟨ST2, hST2⟩ : ∃ s, y.1.status = s := ⟨_, rfl⟩
      rw [hST2] at h7
      have g2' : ¬ ST2 = 2 := hST2 ▸ g2
      have p2 : ((ST2 : Int) == 2) = false := by simp; omega
      have H7 := hide h7
      clear hf hk h7 h hg hfg hfl hon hy hST hST2 g1 g2 g2'
      go_enter Tryz.func105, Tryz.ntmps105
      go_wp2_with (go_at_call 147; refine (unhide HF).mono ?_; rintro e w3 ⟨⟨v3, rfl⟩, hs3⟩; have c73 := unhide H7 w3 hs3; have HS3 := hide hs3; clear hs3)
      go_end0
      exact ⟨⟨_, rfl⟩, unhide HS3⟩
  · have hon : P32.on d.bare n x = if x.1.status = 2 then P32.back d.bare n x else x := by
      unfold P32.on P32.on1 P32.on2
      rw [if_neg g1]
    rw [hon]
    have hk := fun (h2' : x.1.status = 2) => back_any n w h hg h2' (by omega)
    by_cases g2 : x.1.status = 2
    · have hb := hk g2
      rw [if_pos g2]
      obtain ⟨ST, hST⟩ : ∃ s, x.1.status = s := ⟨_, rfl⟩
      rw [hST] at c7 g1 g2
      have p1 : ((ST : Int) == 1) = false := by simp; omega
      have p2 : ((ST : Int) == 2) = true := by rw [g2]; rfl
      have HB := hide hb
      clear hk hb h hg hon hST g1 g2
      go_enter Tryz.func105, Tryz.ntmps105
      go_wp2_with (go_at_call 148; refine (unhide HB).mono ?_; rintro e w4 ⟨⟨v4, rfl⟩, hs4⟩)
      go_end0
      exact ⟨⟨_, rfl⟩, hs4⟩
    · rw [if_neg g2]
      obtain ⟨ST, hST⟩ : ∃ s, x.1.status = s := ⟨_, rfl⟩
      rw [hST] at c7 g1 g2
      have p1 : ((ST : Int) == 1) = false := by simp; omega
      have p2 : ((ST : Int) == 2) = false := by simp; omega
      clear hk h hg hon hST g1 g2
      go_enter Tryz.func105, Tryz.ntmps105
      go_wp2
      go_end0
      exact ⟨⟨_, rfl⟩, unhide H⟩
end Go.Proofs.YtefokfbgpfcbkaaGreat
namespace Go.Proofs.YtefokfbgpfcbkaaGreat
set_option linter.unusedVariables false
set_option linter.unusedSimpArgs false
open Go.RowKit
def SE (w0 : World) (M0 : Nat → Prop) (b bm rb C : Nat) (vs : Nat → Value) (d : PDef) (x : P32.S × List P32.Order) (V : Value) (W : World) : Prop :=
  ∃ dn un, Sg W b bm rb C vs d dn un x.1 ∧ OwnO W C V x.2 ∧ (∀ g, V.ownBlock = some g → ¬ Mb b bm dn un g ∧ (M0 g ∨ w0.heap.size ≤ g)) ∧ (∀ g, Mb b bm dn un g → M0 g ∨ w0.heap.size ≤ g) ∧ KW M0 w0 W
theorem SA.out {w0 W : World} {M0 : Nat → Prop} {b bm rb C h1 h2 ob : Nat} {vs : Nat → Value} {d : PDef} {x : P32.S × List P32.Order} (h : SA w0 M0 b bm rb C h1 h2 ob vs d x W) : ∃ V, W.cell? ⟨ob, 0, none⟩ = some V ∧ SE w0 M0 b bm rb C vs d x V W := by
  obtain ⟨dn, un, v, k1, k2, k3, k4, k5, k6⟩ := h.ex
  exact ⟨v, (cell1 k2).1, dn, un, k1, k3, fun g hg => ⟨(k4 g hg).1, (k4 g hg).2.2.2.2⟩, k6, h.kw⟩
theorem SE.nil {W : World} {b bm rb C : Nat} {vs : Nat → Value} {d : PDef} {dn un : Value} {s : P32.S} (h : Sg W b bm rb C vs d dn un s) : SE W (Mb b bm dn un) b bm rb C vs d (s, []) (.slice none 0 0) W := by
  have h4 : ∀ g, (Value.slice none 0 0).ownBlock = some g → ¬ Mb b bm dn un g ∧ (Mb b bm dn un g ∨ W.heap.size ≤ g) := fun g hg => by
    have e : (none : Option Nat) = some g := hg
    cases e
  exact ⟨dn, un, h, OwnO.nil W C, h4, fun g hg => Or.inl hg, KW.refl _ _⟩
theorem SE.nil' {w W : World} {b bm rb C : Nat} {vs : Nat → Value} {d : PDef} {dn un : Value} {s : P32.S} (h : Sg w b bm rb C vs d dn un s) (hb : Below w.heap.size w W) : SE w (Mb b bm dn un) b bm rb C vs d (s, []) (.slice none 0 0) W := by
  have h4 : ∀ g, (Value.slice none 0 0).ownBlock = some g → ¬ Mb b bm dn un g ∧ (Mb b bm dn un g ∨ w.heap.size ≤ g) := fun g hg => by
    have e : (none : Option Nat) = some g := hg
    cases e
  exact ⟨dn, un, h.below hb, OwnO.nil W C, h4, fun g hg => Or.inl hg, (KW.refl _ _).next hb (Nat.le_refl _)⟩
set_option maxRecDepth 100000 in
set_option maxHeartbeats 8000000 in
theorem Start_any {b bm rb C : Nat} {vs : Nat → Value} {d : PDef} {dn un : Value} {s : P32.S} (n : Int) (w : World) (h : Sg w b bm rb C vs d dn un s) (hi : P32.Inv d.bare s) (hi1 : s.status = 0 → P32.Inv d.bare ⟨s.run, s.done, s.undone, 1⟩) :
    Calls Tryz.prog 64 #[.pointer (some ⟨b, 0, none⟩), .int .i64 n] w fun e w' => ∃ V, e = .returned V ∧ SE w (Mb b bm dn un) b bm rb C vs d (P32.start d.bare n s) V w' := by
  have hmd := made_any b bm w h.cells.2.2.1.1
  have c7 := h.cells.2.2.2.2.2.1
  have hak := asker_any w h (KW.refl _ _) h.cw (fun g hg => .inl hg)
  have hnil := SE.nil h
  obtain ⟨ST, hST⟩ : ∃ z, s.status = z := ⟨_, rfl⟩
  rw [hST] at c7
  have HM := hide hmd
  have HAK := hide hak
  by_cases g0 : ST = 0
  · have hst : P32.start d.bare n s = P32.on d.bare n (⟨s.run, s.done, s.undone, 1⟩, []) := by
      unfold P32.start
      rw [if_neg (by omega)]
    rw [hst]
    have hgd : P32.Good d.bare ((⟨s.run, s.done, s.undone, 1⟩ : P32.S), []) := P32.good_nil (hi1 (hST.trans g0))
    have p0 : ((ST : Int) != 0) = false := by rw [g0]; rfl
    have HGD := hide hgd
    clear hmd hak hnil hst hgd h hi hi1 hST g0
    go_enter Tryz.func64, Tryz.ntmps64
    go_wp2_with (first | (go_at_call 96; refine (unhide HM).mono ?_; rintro e w' ⟨rfl, hw⟩; have hw := hw.symm; subst hw) | (go_at_call 104; refine (unhide HAK).mono ?_; rintro e w3 ⟨h1, h2, ob, rfl, hsa, hb3⟩; have c73 := hsa.c7; have f73 : w3.frozen? ⟨b, 7, none⟩ = false := (by obtain ⟨_, _, k⟩ := hsa.sg; exact k.cells.2.2.2.2.2.2); have HON := hide (on_any n _ (hsa.status 1) (unhide HGD) (by simp)); clear hsa hb3) | (go_at_call 105; refine (unhide HON).mono ?_; rintro e w4 ⟨⟨v4, rfl⟩, hs4⟩; obtain ⟨V4, c4, he4⟩ := hs4.out; have HE4 := hide he4; clear hs4 he4))
    go_ret
    exact ⟨_, rfl, unhide HE4⟩
  · have hst : P32.start d.bare n s = (s, []) := by
      unfold P32.start
      rw [if_pos (by omega)]
    rw [hst]
    have p0 : ((ST : Int) != 0) = true := by simp; omega
    have HN := hide hnil
    clear hmd hak hnil hst h hi hi1 hST g0
    go_enter Tryz.func64, Tryz.ntmps64
    go_wp2_with (go_at_call 96; refine (unhide HM).mono ?_; rintro e w' ⟨rfl, hw⟩; have hw := hw.symm; subst hw)
    go_ret
    exact ⟨_, rfl, unhide HN⟩
end Go.Proofs.YtefokfbgpfcbkaaGreat
namespace Go.Proofs.YtefokfbgpfcbkaaGreat
set_option linter.unusedVariables false
set_option linter.unusedSimpArgs false
open Go.RowKit
set_option maxRecDepth 100000 in
set_option maxHeartbeats 8000000 in
theorem Cancel_any {b bm rb C : Nat} {vs : Nat → Value} {d : PDef} {dn un : Value} {s : P32.S} (n : Int) (w : World) (h : Sg w b bm rb C vs d dn un s) (hi1 : s.status = 1 → P32.Inv d.bare (P32.halt d.bare s)) :
    Calls Tryz.prog 62 #[.pointer (some ⟨b, 0, none⟩), .int .i64 n] w fun e w' => ∃ V, e = .returned (.tuple #[V, .bool (P32.cancel d.bare n s).2]) ∧ SE w (Mb b bm dn un) b bm rb C vs d (P32.cancel d.bare n s).1 V w' := by
  have hss := SStatus_any b bm s.status w h.cells.2.2.1.1 h.cells.2.2.2.2.2.1
  have hak := asker_any w h (KW.refl _ _) h.cw (fun g hg => .inl hg)
  have hnil := SE.nil h
  obtain ⟨ST, hST⟩ : ∃ z, s.status = z := ⟨_, rfl⟩
  rw [hST] at hss
  have HM := hide hss
  have HAK := hide hak
  by_cases g0 : ST = 1
  · have hst : P32.cancel d.bare n s = (P32.on d.bare n (P32.halt d.bare s, []), true) := by
      unfold P32.cancel
      rw [if_neg (by omega)]
    rw [hst]
    have hgd : P32.Good d.bare (P32.halt d.bare s, []) := P32.good_nil (hi1 (hST.trans g0))
    have p0 : ((ST : Int) != 1) = false := by rw [g0]; rfl
    have HGD := hide hgd
    obtain ⟨X, hX⟩ : ∃ X, P32.on d.bare n (P32.halt d.bare s, []) = X := ⟨_, rfl⟩
    rw [hX]
    have HX := hide hX
    clear hss hak hnil hst hgd h hi1 hST g0 hX
    go_enter Tryz.func62, Tryz.ntmps62
    go_wp2_with (first | (go_at_call 52; refine (unhide HM).mono ?_; rintro e w' ⟨rfl, hw⟩; have hw := hw.symm; subst hw) | (go_at_call 104; refine (unhide HAK).mono ?_; rintro e w3 ⟨h1, h2, ob, rfl, hsa, hb3⟩; have HHA := hide (halt_any w3 hsa); clear hsa hb3) | (go_at_call 106; refine (unhide HHA).mono ?_; rintro e w5 ⟨⟨v5, rfl⟩, hs5⟩; have HON := hide (on_any n _ hs5 (unhide HGD) (by simp)); clear hs5) | (go_at_call 105; refine (unhide HON).mono ?_; rintro e w4 ⟨⟨v4, rfl⟩, hs4⟩; obtain ⟨V4, c4, he4⟩ := hs4.out; have HE4 := hide he4; clear hs4 he4))
    refine bodyPost_ret (results_tmp2 rfl _ _ _) rfl ?_
    refine ⟨_, rfl, ?_⟩
    rw [← unhide HX]
    exact unhide HE4
  · have hst : P32.cancel d.bare n s = ((s, []), false) := by
      unfold P32.cancel
      rw [if_pos (by omega)]
    rw [hst]
    have p0 : ((ST : Int) != 1) = true := by simp; omega
    have HN := hide hnil
    clear hss hak hnil hst h hi1 hST g0
    go_enter Tryz.func62, Tryz.ntmps62
    go_wp2_with (go_at_call 52; refine (unhide HM).mono ?_; rintro e w' ⟨rfl, hw⟩; have hw := hw.symm; subst hw)
    refine bodyPost_ret (results_tmp2 rfl _ _ _) rfl ?_
    exact ⟨_, rfl, unhide HN⟩
end Go.Proofs.YtefokfbgpfcbkaaGreat
