/- walk of tok.each's iterator: a line's tokens, one by one; walk of tok.each: the iterator over a line's tokens, as a value; walks of tok.nest: top, close, open; walk of tok.nest.open; walk of tok.Line: a line's tokens; walk of tok.nest.add: a line's tokens more; walk of tok.All: a text's tokens; walk of rescriptref19.Deep: how deep tokens go; walk of tok.Deep; walk of tok.Word: a token's word; Tokens that a call owns may be read.; walk of rescriptlaw19.live; walk of rescriptref19.Same at like tokens -/
import Derived.Test.YtefokfbgpfcbkaaGreatG19a
import Derived.Sort.CutIn
import Derived.Sort.LoopGhostIn
import Derived.Test.YtefokfbgpfcbkaaGreatGT19
import Derived.Deep.RegionLaw
import Derived.Maps.OwnIn
import Derived.Deep.CutBlock
import Derived.Test.YtefokfbgpfcbkaaGreatGR17
import Derived.Test.YtefokfbgpfcbkaaGreatWR19b
namespace Go.Proofs.YtefokfbgpfcbkaaGreat
set_option linter.unusedVariables false
set_option linter.unusedSimpArgs false
open Go.RowKit Go.Shelf
attribute [local go_sem] Oper.semAt_some
namespace P19
theorem next_left (v : Bool) (n col : Int) (s : List UInt8) (h : (next v n col s).2.2 = 0) (h2 : (next v n col s).2.1.2.2 ≠ []) :
    (next v n col s).2.1.2.2.length < s.length ∧ (next v n col s).2.1.1 = n ∧ col ≤ (next v n col s).2.1.2.1 ∧ (next v n col s).2.1.2.1 + (next v n col s).2.1.2.2.length ≤ col + s.length := by
  unfold next at h h2 ⊢
  by_cases h3 : (signB 45 s && !v) = true
  · rw [if_pos h3] at h2 ⊢
    have hsk := skip_le (s.drop 1)
    rw [List.length_drop] at hsk
    have hlen : 1 ≤ s.length := by
      cases s with
      | nil => cases h3
      | cons a r => simp
    refine ⟨?_, rfl, ?_, ?_⟩
    · show (s.drop (1 + skip (s.drop 1))).length < s.length
      rw [List.length_drop]; omega
    · show col ≤ col + ((1 + skip (s.drop 1) : Nat) : Int)
      omega
    · show col + ((1 + skip (s.drop 1) : Nat) : Int) + ((s.drop (1 + skip (s.drop 1))).length : Int) ≤ col + s.length
      rw [List.length_drop]; omega
  · rw [if_neg h3] at h h2 ⊢
    by_cases h4 : s = [91, 93]
    · rw [if_pos h4] at h2
      exact absurd rfl h2
    rw [if_neg h4] at h h2 ⊢
    by_cases h5 : s = [123, 125]
    · rw [if_pos h5] at h2
      exact absurd rfl h2
    rw [if_neg h5] at h h2 ⊢
    by_cases h6 : (P18.cut s).2 ≠ 0
    · rw [if_pos h6] at h
      exact absurd (by simpa using h) h6
    rw [if_neg h6] at h h2 ⊢
    split at h
    · simp at h
    · rename_i h7
      rw [if_neg h7] at h2 ⊢
      split at h
      · rename_i h8
        exact absurd h h8
      · rename_i h8
        rw [if_neg h8] at h2 ⊢
        by_cases h9 : (signB 58 (s.drop (P18.cut s).1) && !v) = true
        · rw [if_pos h9] at h2 ⊢
          have hsk := skip_le (s.drop ((P18.cut s).1 + 1))
          rw [List.length_drop] at hsk
          have hl : (s.drop (P18.cut s).1).length ≠ 0 := by
            intro e
            rw [List.eq_nil_of_length_eq_zero e] at h9
            cases h9
          rw [List.length_drop] at hl
          obtain ⟨q, hq⟩ : ∃ q, (P18.cut s).1 + 1 + skip (s.drop ((P18.cut s).1 + 1)) = q := ⟨_, rfl⟩
          rw [hq]
          refine ⟨?_, rfl, ?_, ?_⟩
          · show (s.drop q).length < s.length
            rw [List.length_drop]; omega
          · show col ≤ col + (q : Int)
            omega
          · show col + (q : Int) + ((s.drop q).length : Int) ≤ col + s.length
            rw [List.length_drop]; omega
        · rw [if_neg h9] at h2
          exact absurd rfl h2
theorem next_kind (v : Bool) (n col : Int) (s : List UInt8) : (next v n col s).1.1 < 8 := by
  unfold next
  repeat' split
  all_goals simp
end P19
/-- what a line's iterator hands over, as values -/
def encT (x : Tk × Int) : Array Value := #[tkV x.1, .int .i64 x.2]
theorem boolOf_eq (k : Nat) : ((k : Int) == 4) = (k == 4) := by
  by_cases h : k = 4
  · subst h; rfl
  · rw [beq_eq_false_iff_ne.2 h, beq_eq_false_iff_ne]
    omega
end Go.Proofs.YtefokfbgpfcbkaaGreat
namespace Go.Proofs.YtefokfbgpfcbkaaGreat
set_option linter.unusedVariables false
set_option linter.unusedSimpArgs false
open Go.RowKit
end Go.Proofs.YtefokfbgpfcbkaaGreat
namespace Go.Proofs.YtefokfbgpfcbkaaGreat
set_option linter.unusedVariables false
set_option linter.unusedSimpArgs false
open Go.RowKit
/-- the slice v owns the ints zs -/
def OwnI (W : World) (B : Nat) (v : Value) (zs : List Int) : Prop := W.ownsRow B 3 1 v zs.length (zs.map (Value.int .i64))
theorem intInfo : (Tryz.prog.info? 3).map (fun i => (i.zero, i.size, i.bytes)) = some (some (.int .i64 0), 1, 8) := by kernel_rfl
theorem OwnI.drop_last {W : World} {B : Nat} {zs : List Int} {z : Int} {g n cap : Nat} (h : OwnI W B (.slice (some ⟨g, 0, none⟩) n cap) (zs ++ [z])) : OwnI W B (.slice (some ⟨g, 0, none⟩) zs.length cap) zs := by
  unfold OwnI at h ⊢
  rcases h.2 with ⟨h1, _⟩ | ⟨g2, cap2, cur, h1, h2, h3, h4, h5, h6, h7⟩
  · cases h1
  · injection h1 with e1 e2 e3
    injection e1 with e1
    injection e1 with e1
    subst e1
    subst e3
    rw [List.length_append, List.length_singleton] at h4 h7
    refine ⟨by simp, .inr ⟨g, cap, cur, rfl, h2, h3, by omega, h5, h6, ?_⟩⟩
    have := congrArg (List.take zs.length) h7
    rw [List.take_take, show min zs.length ((zs.length + 1) * 1) = zs.length from by omega] at this
    have e : List.take zs.length (List.map (Value.int .i64) (zs ++ [z])) = zs.map (Value.int .i64) := by simp
    rw [Nat.mul_one, this, e]
/-- the blocks that a nest may write -/
def Mn (b : Nat) (v r : Value) (x : Nat) : Prop := x = b ∨ v.ownBlock = some x ∨ r.ownBlock = some x
theorem keeps_alloc (M : Nat → Prop) (W : World) (o : Obj) : KeepsM M W M (W.alloc o) := .grown (World.grownBy_alloc W o none) (fun r e => by cases e)
theorem keeps_drewN (M : Nat → Prop) (W : World) (n : Nat) : KeepsM M W M (W.drewN n) := ⟨Nat.le_refl _, fun _ _ _ => rfl, fun _ h => .inl h⟩
theorem keeps_set (b i : Nat) (v r r' u : Value) (W : World) (h : r'.ownBlock = r.ownBlock) : KeepsM (Mn b v r) W (Mn b v r') (W.setCell ⟨b, i, none⟩ u) := by
  have hk := KeepsM.grown (M := Mn b v r) (setCell_grown W b i u) (fun k e => by cases e; exact .inl (.inl rfl))
  refine ⟨hk.size, hk.same, fun x hx => .inl ?_⟩
  unfold Mn at hx ⊢
  rwa [h] at hx
theorem keeps_push0 {b : Nat} {v v' r u : Value} {W W1 : World} (hg : W.grownBy W1 v.ownBlock) (hat : v'.ownBlock = v.ownBlock ∨ v'.ownBlock = some W.heap.size) : KeepsM (Mn b v r) W (Mn b v' r) (W1.setCell ⟨b, 0, none⟩ u) := by
  have hk := (KeepsM.grown (M := Mn b v r) hg (fun k e => .inl (.inr (.inl e)))).trans (KeepsM.grown (M := Mn b v r) (setCell_grown W1 b 0 u) (fun k e => by cases e; exact .inl (.inl rfl)))
  refine ⟨hk.size, hk.same, fun x hx => ?_⟩
  rcases hx with h | h | h
  · exact .inl (.inl h)
  · rcases hat with h2 | h2
    · exact .inl (.inr (.inl (h2.symm.trans h)))
    · rw [h] at h2; injection h2 with h2; exact .inr (by omega)
  · exact .inl (.inr (.inr h))
theorem keeps_push1 {b : Nat} {v r r' u : Value} {W W1 : World} (hg : W.grownBy W1 r.ownBlock) (hat : r'.ownBlock = r.ownBlock ∨ r'.ownBlock = some W.heap.size) : KeepsM (Mn b v r) W (Mn b v r') (W1.setCell ⟨b, 1, none⟩ u) := by
  have hk := (KeepsM.grown (M := Mn b v r) hg (fun k e => .inl (.inr (.inr e)))).trans (KeepsM.grown (M := Mn b v r) (setCell_grown W1 b 1 u) (fun k e => by cases e; exact .inl (.inl rfl)))
  refine ⟨hk.size, hk.same, fun x hx => ?_⟩
  rcases hx with h | h | h
  · exact .inl (.inl h)
  · exact .inl (.inr (.inl h))
  · rcases hat with h2 | h2
    · exact .inl (.inr (.inr (h2.symm.trans h)))
    · rw [h] at h2; injection h2 with h2; exact .inr (by omega)
theorem own_type {W : World} {B size n : Nat} {e : TypeId} {v : Value} {xs : List Value} (h : W.ownsRow B e size v n xs) {g : Nat} (hg : v.ownBlock = some g) : ∃ cs, W.heap[g]? = some (.cells cs e (0, 0)) := by
  rcases h.2 with ⟨h1, _⟩ | ⟨g2, cap2, cur, h1, h2, h3, _⟩
  · subst h1; cases hg
  · subst h1
    injection hg with hg
    subst hg
    exact ⟨cur, h3⟩
theorem own_ne {W : World} {B size n b : Nat} {e t : TypeId} {v : Value} {xs : List Value} {cs : Array Value} (h : W.ownsRow B e size v n xs) (hb : W.heap[b]? = some (.cells cs t)) (hte : t ≠ e) : v.ownBlock ≠ some b := by
  intro hg
  obtain ⟨cs2, h2⟩ := own_type h hg
  rw [hb] at h2
  injection h2 with h2
  injection h2 with _ h2
  exact hte h2
theorem own_apart {W : World} {B B' size size' n n' : Nat} {e t : TypeId} {v v' : Value} {xs xs' : List Value} (h : W.ownsRow B e size v n xs) (h' : W.ownsRow B' t size' v' n' xs') (hte : t ≠ e) : v.ownBlock = none ∨ v.ownBlock ≠ v'.ownBlock := by
  cases hv : v.ownBlock with
  | none => exact .inl rfl
  | some g =>
    refine .inr fun e => ?_
    obtain ⟨cs, h2⟩ := own_type h' e.symm
    exact own_ne h h2 hte hv
theorem own_kept {W W' : World} {B size n : Nat} {e : TypeId} {v : Value} {xs : List Value} {row : Option Nat} (h : W.ownsRow B e size v n xs) (hg : W.grownBy W' row) (hne : v.ownBlock = none ∨ v.ownBlock ≠ row) : W'.ownsRow B e size v n xs := World.ownsRow.kept h hg hne
theorem OwnI.form {W : World} {B : Nat} {v : Value} {zs : List Int} (h : OwnI W B v zs) (hn : zs ≠ []) : ∃ g cap, v = .slice (some ⟨g, 0, none⟩) zs.length cap ∧ B ≤ g ∧ g < W.heap.size :=
  World.ownsRow.form h (List.length_pos_iff.2 hn)
theorem OwnI.cell {W : World} {B g n cap : Nat} {zs : List Int} (h : OwnI W B (.slice (some ⟨g, 0, none⟩) n cap) zs) (hn : n = zs.length) {j : Nat} {z : Int} (hj : zs[j]? = some z) : W.cell? ⟨g, j, none⟩ = some (.int .i64 z) := by
  subst hn
  have h1 := World.ownsRow.cellAt h j (by have := (List.getElem?_eq_some_iff.1 hj).1; omega)
  rw [h1, List.getElem?_map, hj]
  rfl
theorem ownsRow_cap {W : World} {B g n cap size : Nat} {e : TypeId} {xs : List Value} (h : W.ownsRow B e size (.slice (some ⟨g, 0, none⟩) n cap) n xs) : n ≤ cap ∧ cap ≤ 9223372036854775807 := by
  rcases h.2 with ⟨h1, _⟩ | ⟨g2, cap2, cur, h1, h2, h3, h4, h5, h6, h7⟩
  · cases h1
  · injection h1 with e1 e2 e3
    subst e3
    exact ⟨h4, by unfold maxLen at h5; omega⟩
theorem pair_cell {W : World} {g : Nat} {t : TypeId} {a b : Value} (h : W.heap[g]? = some (.cells #[a, b] t)) :
    (W.cell? ⟨g, 0, none⟩ = some a ∧ W.frozen? ⟨g, 0, none⟩ = false) ∧ (W.cell? ⟨g, 1, none⟩ = some b ∧ W.frozen? ⟨g, 1, none⟩ = false) := by
  simp [World.cell?, World.frozen?, h]
theorem below_any {B : Nat} {a w : World} (h : Below B a w) (n : Nat) : Below B a (w.drewN n) := ⟨h.os, h.tape, h.output, h.size, h.block⟩
theorem below_alloc' {B : Nat} {a w : World} (h : Below B a w) (hB : B ≤ w.heap.size) (o : Obj) : Below B a (w.alloc o) := h.grown (World.grownBy_alloc w o none) hB (fun k e => by cases e)
theorem cells4_new (W : World) (a b c d : Value) (t : TypeId) : ∀ j u, [a, b, c, d][j]? = some u → (W.alloc (.cells #[a, b, c, d] t)).cell? ((⟨W.heap.size, 0, none⟩ : Addr).add j) = some u := by
  obtain ⟨⟨k0, _⟩, ⟨k1, _⟩, ⟨k2, _⟩, ⟨k3, _⟩⟩ := four_cell (World.alloc_heap_new W (.cells #[a, b, c, d] t))
  intro j u h
  match j, h with
  | 0, h => simp at h; subst h; exact k0
  | 1, h => simp at h; subst h; exact k1
  | 2, h => simp at h; subst h; exact k2
  | 3, h => simp at h; subst h; exact k3
end Go.Proofs.YtefokfbgpfcbkaaGreat
namespace Go.Proofs.YtefokfbgpfcbkaaGreat
set_option linter.unusedVariables false
set_option linter.unusedSimpArgs false
open Go.RowKit
theorem int_one : ∀ (zs : List Int), ∀ u ∈ zs.map (Value.int .i64), u.oneCell' = true := by
  intro zs u hu
  obtain ⟨z, _, rfl⟩ := List.mem_map.1 hu
  rfl
theorem step_appInt {w : World} {B : Nat} {v : Value} {zs : List Int} {z : Int} {ops : Array Oper} {o : Oper} {a : Act} {K : Act → World → Prop} {Q : Exit → Act → World → Prop} {E : Prop} (hgd : o.guard = none) (s x : Operand)
    (ho : o.op = .call { callee := .builtin .append, args := #[s, x], argTypes := #[48, 48] })
    (hs : a.eval s = v) (hown : OwnI w B v zs) (g cap : Nat) (hx : a.eval x = .slice (some ⟨g, 0, none⟩) 1 cap) (hnew : w.cell? ⟨g, 0, none⟩ = some (.int .i64 z))
    (hlen : zs.length + 1 ≤ 1000000000) (hB : B ≤ w.heap.size)
    (h : ∀ g' cap' w', OwnI w' B (.slice (some ⟨g', 0, none⟩) (zs.length + 1) cap') (zs ++ [z]) → w.grownBy w' v.ownBlock → (some g' = v.ownBlock ∨ some g' = some w.heap.size) → K (a.put o.dst (.slice (some ⟨g', 0, none⟩) (zs.length + 1) cap')) w') :
    if Region.wanted o (yielded ops a.tmps) = true then Oper.wp Tryz.prog o a w K Q else E := by
  obtain ⟨i, hi, hz, hsz, hby⟩ := info_parts intInfo
  refine step_append_lies (P := Tryz.prog) w hgd s x 48 ho B 3 i (.int .i64 0) 1 8 Tryz.underlying48 hi hz hsz hby rfl (by decide) v zs.length (zs.map (Value.int .i64)) hs hown
    ⟨g, 0, none⟩ 1 cap [.int .i64 z] hx rfl (by intro j u hj; match j, hj with | 0, hj => simp at hj; subst hj; exact hnew) (by intro u hu; simp at hu; subst hu; rfl) (by decide) (by unfold maxLen; omega) (by omega) hB _ rfl ?_
  intro g' cap' w' h2 h3 hat _
  refine h g' cap' w' ?_ h3 (hat.imp Eq.symm (fun e => by rw [e]))
  unfold OwnI
  rw [List.length_append, List.map_append]
  exact h2
end Go.Proofs.YtefokfbgpfcbkaaGreat
namespace Go.Proofs.YtefokfbgpfcbkaaGreat
set_option linter.unusedVariables false
set_option linter.unusedSimpArgs false
open Go.RowKit Go.Shelf
attribute [local go_sem] Oper.semAt_some
theorem run_loadVar_one {P : Program} (w : World) (a : Addr) (ty : TypeId) (v : Value) (d : TypeDesc) (hu : P.underlying ty = some d) (hd : (match d with | .struct _ | .array _ _ => true | _ => false) = false) (hc : w.cell? a = some v) :
    (loadVar ty a).run P w = .ok v w := by
  have hagg : (isAgg ty).run P w = .ok false w := by
    unfold isAgg
    rw [Sem.run_bind, run_underlying hu w]
    cases d <;> simp_all
  simp [loadVar, Sem.run_bind, hagg, hc, go_sem]
theorem results_cc {fn : Func} {p q : Tmp} {tp tq : TypeId} (h : fn.results = #[.cell p tp, .cell q tq]) (tmps : Array Value) (P : Program) (w : World) (g1 g2 : Nat) (v1 v2 : Value)
    (hp : tmps.getD p undef = .pointer (some ⟨g1, 0, none⟩)) (hl : (loadVar tp ⟨g1, 0, none⟩).run P w = .ok v1 w)
    (hq : tmps.getD q undef = .pointer (some ⟨g2, 0, none⟩)) (hm : (loadVar tq ⟨g2, 0, none⟩).run P w = .ok v2 w) :
    (results fn tmps).run P w = .ok (.tuple #[v1, v2]) w := by
  have hp' : tmps[p]?.getD undef = .pointer (some ⟨g1, 0, none⟩) := by simpa using hp
  have hq' : tmps[q]?.getD undef = .pointer (some ⟨g2, 0, none⟩) := by simpa using hq
  simp [results, h, hp', hq', asAddr, Sem.run_bind, Result.andThen, hl, hm]
namespace P19
theorem gather_stop : ∀ (L : List (Tk × Int)) (i : Nat) (t : Tk) (e : Int), (∀ x ∈ L.take i, x.2 = 0) → L[i]? = some (t, e) → e ≠ 0 → gather L = ([], e)
  | [], i, t, e, _, h, _ => by simp at h
  | a :: r, 0, t, e, _, h, he => by
    simp at h
    subst h
    rw [gather, if_pos he]
  | a :: r, i + 1, t, e, h0, h, he => by
    have ih := gather_stop r i t e (fun x hx => h0 x (by rw [List.take_succ_cons]; exact List.mem_cons_of_mem _ hx)) (by simpa using h) he
    have ha := h0 a (by rw [List.take_succ_cons]; exact List.mem_cons_self)
    obtain ⟨a1, a2⟩ := a
    simp only at ha
    subst ha
    rw [gather, if_neg (by simp), ih, if_pos he]
theorem gather_all : ∀ (L : List (Tk × Int)), (∀ x ∈ L, x.2 = 0) → gather L = (L.map (·.1), 0)
  | [], _ => rfl
  | a :: r, h0 => by
    have ih := gather_all r (fun x hx => h0 x (List.mem_cons_of_mem _ hx))
    have ha := h0 a List.mem_cons_self
    obtain ⟨a1, a2⟩ := a
    simp only at ha
    subst ha
    rw [gather, if_neg (by simp), ih, if_neg (by simp)]
    rfl
theorem steps_len : ∀ (f : Nat) (v : Bool) (n col : Int) (s : List UInt8), (steps f v n col s).length ≤ f
  | 0, v, n, col, s => Nat.le_refl _
  | f + 1, v, n, col, s => by
    unfold steps
    rw [List.length_cons]
    split
    · simp
    · have := steps_len f ((next v n col s).1.1 == 4) (next v n col s).2.1.1 (next v n col s).2.1.2.1 (next v n col s).2.1.2.2
      omega
end P19
end Go.Proofs.YtefokfbgpfcbkaaGreat
namespace Go.Proofs.YtefokfbgpfcbkaaGreat
set_option linter.unusedVariables false
set_option linter.unusedSimpArgs false
open Go.RowKit
theorem own_keeps {W W' : World} {M M' : Nat → Prop} {B size n : Nat} {e : TypeId} {v : Value} {xs : List Value} (h : W.ownsRow B e size v n xs) (hk : KeepsM M W M' W') (hn : ∀ g, v.ownBlock = some g → ¬ M g) : W'.ownsRow B e size v n xs := by
  refine ⟨h.1, h.2.imp id ?_⟩
  rintro ⟨g, cap, cur, h1, h2, h3, h4⟩
  refine ⟨g, cap, cur, h1, h2, ?_, h4⟩
  rw [hk.same g (hn g (by rw [h1]; rfl)) (Array.getElem?_eq_some_iff.1 h3).1]
  exact h3
end Go.Proofs.YtefokfbgpfcbkaaGreat
namespace Go.Proofs.YtefokfbgpfcbkaaGreat
set_option linter.unusedVariables false
set_option linter.unusedSimpArgs false
open Go.RowKit
theorem rows_fit {s : List UInt8} {i : Nat} {r : Nat × Nat × List UInt8} (h : (rows17 s)[i]? = some r) : r.2.1 + r.2.2.length ≤ s.length := by
  have hm : r ∈ rows17 s := List.mem_of_getElem? h
  obtain ⟨l, hl, j, hj⟩ : ∃ l ∈ lines17 s, ∃ j, rowOf j l = some r := by
    have key : ∀ (k : Nat) (ls : List (List UInt8)) (r : Nat × Nat × List UInt8), r ∈ rowsFrom k ls → ∃ l ∈ ls, ∃ i, rowOf i l = some r := by
      intro k ls
      induction ls generalizing k with
      | nil => intro r h; simp [rowsFrom] at h
      | cons l ls ih =>
        intro r h
        unfold rowsFrom at h
        split at h
        · obtain ⟨l', h1, h2⟩ := ih (k + 1) r h
          exact ⟨l', List.mem_cons_of_mem _ h1, h2⟩
        · rename_i x hx
          rcases List.mem_cons.1 h with rfl | h
          · exact ⟨l, List.mem_cons_self, k, hx⟩
          · obtain ⟨l', h1, h2⟩ := ih (k + 1) r h
            exact ⟨l', List.mem_cons_of_mem _ h1, h2⟩
    exact key 0 _ r hm
  have h1 := lines17_le hl
  have h2 := strip_len l
  have h3 := trimL_len (strip17 l)
  unfold rowOf at hj
  split at hj
  · cases hj
  · injection hj with hj
    subst hj
    simp only
    omega
theorem rows_drop {s : List UInt8} {i : Nat} {r : Nat × Nat × List UInt8} (h : (rows17 s)[i]? = some r) : (rows17 s).drop i = r :: (rows17 s).drop (i + 1) := by
  obtain ⟨hl, he⟩ := List.getElem?_eq_some_iff.1 h
  rw [List.drop_eq_getElem_cons hl, he]
namespace P19
theorem weight_drop {rs : List (Nat × Nat × List UInt8)} {i : Nat} {r : Nat × Nat × List UInt8} (h : rs[i]? = some r) : weight (rs.drop i) = r.2.2.length + 1 + weight (rs.drop (i + 1)) := by
  obtain ⟨hl, he⟩ := List.getElem?_eq_some_iff.1 h
  rw [List.drop_eq_getElem_cons hl, he]
  unfold weight
  rw [List.map_cons, List.sum_cons]
theorem weight_ge : ∀ rs : List (Nat × Nat × List UInt8), rs.length ≤ weight rs
  | [] => Nat.le_refl _
  | r :: rs => by
    have ih := weight_ge rs
    unfold weight at ih ⊢
    rw [List.map_cons, List.sum_cons, List.length_cons]
    omega
theorem toks_at (n col : Int) (s : List UInt8) : LineOk n col s.length (toks n col s) := line_at _ _ _ _
end P19
theorem own_set {W : World} {B size n b i : Nat} {e : TypeId} {v u : Value} {xs : List Value} (h : W.ownsRow B e size v n xs) (hb : b < B) : (W.setCell ⟨b, i, none⟩ u).ownsRow B e size v n xs :=
  own_kept h (setCell_grown W b i u) (.inr (fun e => by have := (World.ownsRow.lt h b e).1; omega))
theorem below_at {w W : World} {B b i : Nat} {u : Value} (h : Below B w W) (hb : B ≤ b) (hs : B ≤ W.heap.size) : Below B w (W.setCell ⟨b, i, none⟩ u) :=
  h.grown (setCell_grown W b i u) hs (fun k e => by cases e; exact hb)
end Go.Proofs.YtefokfbgpfcbkaaGreat
namespace Go.Proofs.YtefokfbgpfcbkaaGreat
set_option linter.unusedVariables false
set_option linter.unusedSimpArgs false
open Go.RowKit
/-- the slice v of tokens may be read -/
def RdT (w : World) (B : Nat) (v : Value) (ts : List (Int × ByteArray × Int × Int)) : Prop :=
  ∃ ao cap, v = .slice ao ts.length cap ∧ ∀ i r, ts[i]? = some r → ∃ g o, ao = some ⟨g, o, none⟩ ∧ g < B ∧ w.cell? ⟨g, o + i * 4, none⟩ = some (.int .u8 r.1) ∧ w.cell? ⟨g, o + i * 4 + 1, none⟩ = some (.string r.2.1) ∧ w.cell? ⟨g, o + i * 4 + 2, none⟩ = some (.int .i64 r.2.2.1) ∧ w.cell? ⟨g, o + i * 4 + 3, none⟩ = some (.int .i64 r.2.2.2)
/-- how deep kinds go: 1 opens, 2 closes -/
def deepF : Int → Int → List Int → Int
  | _, most, [] => most
  | now, most, k :: r => deepF (if k = 1 then now + 1 else if k = 2 then now - 1 else now) (max most (if k = 1 then now + 1 else if k = 2 then now - 1 else now)) r
theorem deepF_drop {now most : Int} {ks : List Int} {i : Nat} {k : Int} (h : ks[i]? = some k) : deepF now most (ks.drop i) = deepF (if k = 1 then now + 1 else if k = 2 then now - 1 else now) (max most (if k = 1 then now + 1 else if k = 2 then now - 1 else now)) (ks.drop (i + 1)) := by
  obtain ⟨hi, hk⟩ := List.getElem?_eq_some_iff.1 h
  rw [List.drop_eq_getElem_cons hi, hk, deepF]
end Go.Proofs.YtefokfbgpfcbkaaGreat
namespace Go.Proofs.YtefokfbgpfcbkaaGreat
set_option linter.unusedVariables false
set_option linter.unusedSimpArgs false
open Go.RowKit
end Go.Proofs.YtefokfbgpfcbkaaGreat
namespace Go.Proofs.YtefokfbgpfcbkaaGreat
set_option linter.unusedVariables false
set_option linter.unusedSimpArgs false
open Go.RowKit
/-- the words of kinds: "", open, close, dash, key, word, noseq, nomap -/
def wordOf (k : Nat) : List UInt8 :=
  if k = 1 then [111, 112, 101, 110] else if k = 2 then [99, 108, 111, 115, 101] else if k = 3 then [100, 97, 115, 104] else if k = 4 then [107, 101, 121] else if k = 5 then [119, 111, 114, 100]
  else if k = 6 then [110, 111, 115, 101, 113] else if k = 7 then [110, 111, 109, 97, 112] else []
end Go.Proofs.YtefokfbgpfcbkaaGreat
namespace Go.Proofs.YtefokfbgpfcbkaaGreat
set_option linter.unusedVariables false
set_option linter.unusedSimpArgs false
open Go.RowKit
/-- a token as it is read -/
def castT (t : Tk) : Int × ByteArray × Int × Int := (t.1, ⟨t.2.1.toArray⟩, t.2.2.1, t.2.2.2)
theorem tksCells_get : ∀ (ts : List Tk) (i : Nat) (t : Tk), ts[i]? = some t → (tksCells ts)[i * 4]? = some (.int .u8 t.1) ∧ (tksCells ts)[i * 4 + 1]? = some (bsOf t.2.1) ∧ (tksCells ts)[i * 4 + 2]? = some (.int .i64 t.2.2.1) ∧ (tksCells ts)[i * 4 + 3]? = some (.int .i64 t.2.2.2)
  | [], i, t, h => by simp at h
  | a :: ts, 0, t, h => by
    simp at h
    subst h
    exact ⟨rfl, rfl, rfl, rfl⟩
  | a :: ts, i + 1, t, h => by
    have ih := tksCells_get ts i t (by simpa using h)
    have e : tksCells (a :: ts) = tkCells a ++ tksCells ts := rfl
    have l4 : (tkCells a).length = 4 := rfl
    rw [e, List.getElem?_append_right (by omega), List.getElem?_append_right (by omega), List.getElem?_append_right (by omega), List.getElem?_append_right (by omega), l4]
    rw [show (i + 1) * 4 - 4 = i * 4 from by omega, show (i + 1) * 4 + 1 - 4 = i * 4 + 1 from by omega, show (i + 1) * 4 + 2 - 4 = i * 4 + 2 from by omega, show (i + 1) * 4 + 3 - 4 = i * 4 + 3 from by omega]
    exact ih
theorem RdT.below {w w' : World} {B : Nat} {v : Value} {ts : List (Int × ByteArray × Int × Int)} (h : RdT w B v ts) (hb : Below B w w') {B' : Nat} (hB : B ≤ B') : RdT w' B' v ts := by
  obtain ⟨ao, cap, hv, hc⟩ := h
  refine ⟨ao, cap, hv, fun i r hr => ?_⟩
  obtain ⟨g, o, h1, h2, h3, h4, h5, h6⟩ := hc i r hr
  exact ⟨g, o, h1, by omega, (cell_below hb h2 _).trans h3, (cell_below hb h2 _).trans h4, (cell_below hb h2 _).trans h5, (cell_below hb h2 _).trans h6⟩
end Go.Proofs.YtefokfbgpfcbkaaGreat
namespace Go.Proofs.YtefokfbgpfcbkaaGreat
set_option linter.unusedVariables false
set_option linter.unusedSimpArgs false
open Go.RowKit
theorem tokLive1 : P19.all [45, 32, 97, 58, 32, 49] = ([(3, [], 1, 0), (1, [], 1, 2), (4, [97], 1, 2), (5, [49], 1, 5), (2, [], 1, 0)], 0, 0) := by decide +kernel
theorem tokLive2 : (P19.all [97, 58, 32, 49, 10, 32, 98]).2 = (0, 0) := by decide +kernel
theorem tokLive3 : (P19.all [97, 58, 10, 32, 32, 98, 58, 32, 49, 10, 32, 99, 58, 32, 50]).2 = (3, 3) := by decide +kernel
theorem tokLive4 : (P19.all [32, 97]).2 = (3, 1) := by decide +kernel
theorem tokLive5 : P19.toks 3 2 [107, 58, 32, 91, 93] = ([(4, [107], 3, 2), (6, [], 3, 5)], 0) := by decide +kernel
end Go.Proofs.YtefokfbgpfcbkaaGreat
namespace Go.Proofs.YtefokfbgpfcbkaaGreat
set_option linter.unusedVariables false
set_option linter.unusedSimpArgs false
open Go.RowKit
end Go.Proofs.YtefokfbgpfcbkaaGreat
