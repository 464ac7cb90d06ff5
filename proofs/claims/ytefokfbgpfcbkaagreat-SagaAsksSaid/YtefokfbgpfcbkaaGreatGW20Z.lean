/- Lemmas of this claim (a part of its texts, kept as far as the claim reaches them). -/
import Derived.Test.YtefokfbgpfcbkaaGreatGAZ
import Derived.Test.YtefokfbgpfcbkaaGreatGW17Z
import Derived.Test.YtefokfbgpfcbkaaGreatGPZ
import Derived.Deep.CutRange
import Derived.Deep.CutBlock
import Derived.Deep.RegionWith
import Derived.Shelf.RegionOpenPlain
import Derived.RangeFuncNested
import Derived.RangeFuncBound
import Derived.RangeFuncCalls
import Derived.RangeFuncLeaves
import Derived.Shelf.Abstract
import Derived.Shelf.RegionOpen
import Derived.WalkKit
import Derived.OwnWalkIn
import Derived.TacticsInMore
import Derived.LoopNIn
import Derived.LoopIn
import Derived.Test.YtefokfbgpfcbkaaGreatGN20Z
import Derived.Test.YtefokfbgpfcbkaaGreatShelfZ
import Derived.Deep.RegionLaw
namespace Go.Proofs.YtefokfbgpfcbkaaGreat
set_option linter.unusedVariables false
set_option linter.unusedSimpArgs false
namespace P20
end P20
end Go.Proofs.YtefokfbgpfcbkaaGreat
namespace Go.Proofs.YtefokfbgpfcbkaaGreat
set_option linter.unusedVariables false
set_option linter.unusedSimpArgs false
namespace P20
end P20
end Go.Proofs.YtefokfbgpfcbkaaGreat
namespace Go.Proofs.YtefokfbgpfcbkaaGreat
set_option linter.unusedVariables false
set_option linter.unusedSimpArgs false
open Go.RowKit
theorem grown_trans1 {A B C : World} {row : Option Nat} (h : A.grownBy B row) (k : B.grownBy C row) : A.grownBy C row :=
  ⟨k.os.trans h.os, k.tape.trans h.tape, k.output.trans h.output, Nat.le_trans h.size k.size, fun i hi hne => (k.block i (Nat.lt_of_lt_of_le hi h.size) hne).trans (h.block i hi hne)⟩
end Go.Proofs.YtefokfbgpfcbkaaGreat
namespace Go.Proofs.YtefokfbgpfcbkaaGreat
set_option linter.unusedVariables false
set_option linter.unusedSimpArgs false
open Go.RowKit
def ndCells (ds : List Nd) : List Value := ds.flatMap Nd.cs
theorem ndCells_append (a b : List Nd) : ndCells (a ++ b) = ndCells a ++ ndCells b := by simp [ndCells]
theorem ndInfo : (Tryz.prog.info? 61).map (fun i => (i.zero, i.size, i.bytes)) = some (some (.agg #[.int .u8 0, .string ⟨#[]⟩, .slice none 0 0, .slice none 0 0, .int .i64 0]), 5, 80) := by kernel_rfl
theorem nd_one : ∀ (ds : List Nd), ∀ u ∈ ndCells ds, u.oneCell' = true := by
  intro ds u hu
  simp only [ndCells, List.mem_flatMap] at hu
  obtain ⟨d, _, hd⟩ := hu
  simp only [Nd.cs, List.mem_cons, List.not_mem_nil, or_false] at hd
  rcases hd with rfl | rfl | rfl | rfl | rfl <;> rfl
theorem ndCells_get : ∀ (ds : List Nd) (i : Nat) (d : Nd), ds[i]? = some d → ∀ j, j < 5 → (ndCells ds)[i * 5 + j]? = d.cs[j]?
  | [], i, d, h, j, hj => by simp at h
  | e :: ds, 0, d, h, j, hj => by
    simp only [List.getElem?_cons_zero, Option.some.injEq] at h
    subst h
    have e1 : ndCells (e :: ds) = e.cs ++ ndCells ds := rfl
    rw [e1, Nat.zero_mul, Nat.zero_add, List.getElem?_append_left (by show j < 5; exact hj)]
  | e :: ds, i + 1, d, h, j, hj => by
    have ih := ndCells_get ds i d (by simpa using h) j hj
    have e1 : ndCells (e :: ds) = e.cs ++ ndCells ds := rfl
    have el : e.cs.length = 5 := rfl
    rw [e1, List.getElem?_append_right (by omega), el, show (i + 1) * 5 + j - 5 = i * 5 + j from by omega]
    exact ih
structure Kids (W : World) (B : Nat) (v : Value) (ds : List Nd) : Prop where
  own : W.ownsRow B 61 5 v ds.length (ndCells ds)
  ins : ∀ d ∈ ds, d.In W
  new : ∀ d ∈ ds, ∀ g, d.blk g → B ≤ g
  sep : ∀ d ∈ ds, ∀ g, d.blk g → v.ownBlock ≠ some g
theorem own_block_lt {W : World} {B size n : Nat} {e : TypeId} {v : Value} {xs : List Value} (h : W.ownsRow B e size v n xs) : ∀ g, v.ownBlock = some g → B ≤ g ∧ g < W.heap.size := by
  intro g hg
  rcases h.2 with ⟨rfl, _⟩ | ⟨g2, cap, cur, rfl, hb, hh, _⟩
  · cases hg
  · cases hg
    exact ⟨hb, (Array.getElem?_eq_some_iff.1 hh).1⟩
theorem own_keep {W W' : World} {B size n : Nat} {e : TypeId} {v : Value} {xs : List Value} (h : W.ownsRow B e size v n xs) (hk : ∀ g, v.ownBlock = some g → W'.heap[g]? = W.heap[g]?) : W'.ownsRow B e size v n xs := by
  refine ⟨h.1, ?_⟩
  rcases h.2 with h0 | ⟨g, cap, cur, rfl, hb, hh, hr⟩
  · exact .inl h0
  · exact .inr ⟨g, cap, cur, rfl, hb, (hk g rfl).trans hh, hr⟩
theorem Kids.nil (W : World) (B : Nat) : Kids W B (.slice none 0 0) [] := ⟨⟨rfl, .inl ⟨rfl, rfl⟩⟩, by simp, by simp, by simp⟩
theorem Kids.keep {W W' : World} {B : Nat} {v : Value} {ds : List Nd} (h : Kids W B v ds) (hr : ∀ g, v.ownBlock = some g → W'.heap[g]? = W.heap[g]?) (hd : ∀ d ∈ ds, ∀ g, d.blk g → W'.heap[g]? = W.heap[g]?) : Kids W' B v ds :=
  ⟨own_keep h.own hr, fun d hm => (h.ins d hm).keep (hd d hm), h.new, h.sep⟩
theorem Kids.grown {W W' : World} {B : Nat} {v : Value} {ds : List Nd} {row : Option Nat} (h : Kids W B v ds) (hg : W.grownBy W' row) (hr : ∀ g, row = some g → v.ownBlock ≠ some g ∧ ∀ d ∈ ds, ¬ d.blk g) : Kids W' B v ds :=
  h.keep (fun g hv => hg.block g (own_block_lt h.own g hv).2 (fun e => (hr g e.symm).1 hv)) (fun d hm g hb => hg.block g ((h.ins d hm).lt hb) (fun e => (hr g e.symm).2 d hm hb))
theorem Kids.old {W W' : World} {B : Nat} {v : Value} {ds : List Nd} {rb : Nat} (h : Kids W B v ds) (hg : W.grownBy W' (some rb)) (hr : rb < B) : Kids W' B v ds :=
  h.grown hg (fun g e => by cases e; exact ⟨fun e => by have := (own_block_lt h.own _ e).1; omega, fun d hm hb => by have := h.new d hm _ hb; omega⟩)
theorem Kids.alloc {W : World} {B : Nat} {v : Value} {ds : List Nd} (h : Kids W B v ds) (o : Obj) : Kids (W.alloc o) B v ds := h.grown (World.grownBy_alloc W o none) (fun g e => by cases e)
theorem Kids.slice {W : World} {B : Nat} {v : Value} {ds : List Nd} (h : Kids W B v ds) : ∃ a c, v = .slice a ds.length c ∧ ds.length ≤ c ∧ c ≤ maxLen ∧ InL W a 0 ds ∧ (∀ g, blkL g ds → B ≤ g) ∧ (∀ g, ds ≠ [] → blockOf a g → B ≤ g) := by
  obtain ⟨ho, hi, hn, hs⟩ := h
  have hnew : ∀ g, blkL g ds → B ≤ g := fun g hb => by obtain ⟨d, hm, hd⟩ := (blkL_iff g ds).1 hb; exact hn d hm g hd
  rcases ho.2 with ⟨rfl, h0⟩ | ⟨g, cap, cur, rfl, hb, hh, hc, hm, hsz, htk⟩
  · have : ds = [] := List.eq_nil_of_length_eq_zero h0
    subst this
    exact ⟨none, 0, rfl, Nat.le_refl _, Nat.zero_le _, trivial, hnew, fun g hn => absurd rfl hn⟩
  · refine ⟨_, cap, rfl, hc, hm, inL_mk (fun j d hj => ⟨⟨g, 0, rfl, ?_⟩, hi d (List.mem_of_getElem? hj)⟩), hnew, fun g' _ ho => ?_⟩
    · have hcell : ∀ i, i < 5 → W.cell? ⟨g, j * 5 + i, none⟩ = d.cs[i]? := by
        intro i hi5
        have hjl := (List.getElem?_eq_some_iff.1 hj).1
        have h1 := ndCells_get ds j d hj i hi5
        rw [← htk, List.getElem?_take_of_lt (by omega)] at h1
        rw [← h1]
        rw [cell_of_row W g (j * 5 + i) cur _ (0, 0) hh]
        simp
      simp only [Nat.zero_add]
      exact ⟨hcell 0 (by omega), hcell 1 (by omega), hcell 2 (by omega), hcell 3 (by omega), hcell 4 (by omega)⟩
    · obtain ⟨o, e⟩ := ho
      cases e
      exact hb
theorem wpList_appNode {w : World} {B : Nat} {v : Value} {ds : List Nd} {nd : Nd} {cs : Array Value} {ops : Array Oper} {rest : List Oper} {o : Oper} {a : Act} {Q : Exit → Act → World → Prop} (hgd : o.guard = none) (s x : Operand)
    (ho : o.op = .call { callee := .builtin .append, args := #[s, x], argTypes := #[59, 59] })
    (hs : a.eval s = v) (hk : Kids w B v ds) (hcs : cs.toList = nd.cs) (hin : nd.In w) (hnew : ∀ g, nd.blk g → B ≤ g) (hsep : ∀ g, nd.blk g → v.ownBlock ≠ some g)
    (hx : a.eval x = .slice (some ⟨w.heap.size, 0, none⟩) 1 1) (hlen : ds.length + 1 ≤ 1000000000) (hB : B ≤ w.heap.size)
    (h : ∀ v' w', Kids w' B v' (ds ++ [nd]) → w.grownBy w' v.ownBlock → (v'.ownBlock = v.ownBlock ∨ ∃ g, v'.ownBlock = some g ∧ w.heap.size ≤ g) → wpList Tryz.prog ops Q rest (a.put o.dst v') w') :
    wpList Tryz.prog ops Q (o :: rest) a (w.alloc (.cells cs 61)) := by
  obtain ⟨i, hi, hz, hsz, hby⟩ := info_parts ndInfo
  have hk1 := hk.alloc (.cells cs 61)
  refine wpList_append_own_at (w := w.alloc (.cells cs 61)) (P := Tryz.prog) hgd s x 59 ho B 61 i (.agg #[.int .u8 0, .string ⟨#[]⟩, .slice none 0 0, .slice none 0 0, .int .i64 0]) 5 80 Tryz.underlying59 hi hz hsz hby rfl (by decide) v ds.length (ndCells ds) hs hk1.own
    ⟨w.heap.size, 0, none⟩ 1 1 nd.cs hx rfl ?_ ?_ (by unfold maxLen; omega) (by omega) (by simp; omega) ?_
  · intro j u hj
    have hn := World.alloc_heap_new w (.cells cs 61)
    have hc := cell_of_row (w.alloc (.cells cs 61)) w.heap.size j cs _ (0, 0) hn
    have ea : ((⟨w.heap.size, 0, none⟩ : Addr).add j) = ⟨w.heap.size, j, none⟩ := by unfold Addr.add; split <;> simp_all
    rw [ea, hc, ← hj, ← hcs]
    simp
  · intro u hu
    exact nd_one [nd] u (by simpa [ndCells] using hu)
  · intro v' w' h2 h3 _ h5
    have hg : w.grownBy w' v.ownBlock := grown_trans1 (World.grownBy_alloc w _ _) h3
    have hlt : ∀ g, v.ownBlock = some g → g < w.heap.size := fun g e => (own_block_lt hk.own g e).2
    have hsep' : ∀ d, d ∈ ds ++ [nd] → ∀ g, d.blk g → g < w.heap.size ∧ v.ownBlock ≠ some g ∧ d.In w := by
      intro d hm g hb
      rcases List.mem_append.1 hm with hm | hm
      · exact ⟨(hk.ins d hm).lt hb, hk.sep d hm g hb, hk.ins d hm⟩
      · obtain rfl := List.mem_singleton.1 hm
        exact ⟨hin.lt hb, hsep g hb, hin⟩
    have hin' : ∀ d ∈ ds ++ [nd], d.In w := by
      intro d hm
      rcases List.mem_append.1 hm with hm | hm
      · exact hk.ins d hm
      · obtain rfl := List.mem_singleton.1 hm
        exact hin
    refine h v' w' ⟨?_, fun d hm => (hin' d hm).keep (fun g hb => ?_), fun d hm g hb => ?_, fun d hm g hb e => ?_⟩ hg ?_
    · rw [ndCells_append, List.length_append]
      have e : ndCells [nd] = nd.cs := by simp [ndCells]
      rw [e]
      exact h2
    · obtain ⟨h6, h7, _⟩ := hsep' d hm g hb
      exact hg.block g h6 (fun e => h7 e.symm)
    · rcases List.mem_append.1 hm with hm | hm
      · exact hk.new d hm g hb
      · obtain rfl := List.mem_singleton.1 hm
        exact hnew g hb
    · obtain ⟨h6, h7, _⟩ := hsep' d hm g hb
      rcases h5 with h5 | h5
      · exact h7 (h5.symm.trans e)
      · rw [h5, World.size_alloc] at e
        injection e with e
        omega
    · rcases h5 with h5 | h5
      · exact .inl h5
      · exact .inr ⟨_, h5, by simp⟩
structure Strs (W : World) (B : Nat) (v : Value) (ls : List (List UInt8)) : Prop where
  own : W.ownsRow B 9 1 v ls.length (ls.map bsOf)
theorem Strs.nil (W : World) (B : Nat) : Strs W B (.slice none 0 0) [] := ⟨⟨rfl, .inl ⟨rfl, rfl⟩⟩⟩
theorem Strs.grown {W W' : World} {B : Nat} {v : Value} {ls : List (List UInt8)} {row : Option Nat} (h : Strs W B v ls) (hg : W.grownBy W' row) (hr : ∀ g, row = some g → v.ownBlock ≠ some g) : Strs W' B v ls :=
  ⟨own_keep h.own (fun g hv => hg.block g (own_block_lt h.own g hv).2 (fun e => hr g e.symm hv))⟩
theorem Strs.old {W W' : World} {B : Nat} {v : Value} {ls : List (List UInt8)} {rb : Nat} (h : Strs W B v ls) (hg : W.grownBy W' (some rb)) (hr : rb < B) : Strs W' B v ls :=
  h.grown hg (fun g e => by cases e; exact fun e => by have := (own_block_lt h.own _ e).1; omega)
theorem Strs.alloc {W : World} {B : Nat} {v : Value} {ls : List (List UInt8)} (h : Strs W B v ls) (o : Obj) : Strs (W.alloc o) B v ls := h.grown (World.grownBy_alloc W o none) (fun g e => by cases e)
theorem Strs.slice {W : World} {B : Nat} {v : Value} {ls : List (List UInt8)} (h : Strs W B v ls) : ∃ a c, v = .slice a ls.length c ∧ ls.length ≤ c ∧ c ≤ maxLen ∧ InS W a ls ∧ (∀ g, ls ≠ [] → blockOf a g → B ≤ g) := by
  rcases h.own.2 with ⟨rfl, h0⟩ | ⟨g, cap, cur, rfl, hb, hh, hc, hm, hsz, htk⟩
  · have : ls = [] := List.eq_nil_of_length_eq_zero h0
    subst this
    exact ⟨none, 0, rfl, Nat.le_refl _, Nat.zero_le _, fun i x hx => by simp at hx, fun g hn => absurd rfl hn⟩
  · refine ⟨_, cap, rfl, hc, hm, fun i x hx => ⟨g, 0, rfl, ?_⟩, fun g' _ ho => ?_⟩
    · have hil := (List.getElem?_eq_some_iff.1 hx).1
      have h1 : (ls.map bsOf)[i]? = some (bsOf x) := by rw [List.getElem?_map, hx]; rfl
      rw [← htk, List.getElem?_take_of_lt (by omega)] at h1
      rw [Nat.zero_add, cell_of_row W g i cur _ (0, 0) hh]
      simpa [bsOf] using h1
    · obtain ⟨o, e⟩ := ho
      cases e
      exact hb
end Go.Proofs.YtefokfbgpfcbkaaGreat
namespace Go.Proofs.YtefokfbgpfcbkaaGreat
set_option linter.unusedVariables false
set_option linter.unusedSimpArgs false
open Go.RowKit
theorem clone_any (a : Option Addr) (c : Nat) (ks : List (List UInt8)) (w : World) (h : InS w a ks) (hl : ks.length ≤ 1000000000) :
    Calls Tryz.prog 110 #[.slice a ks.length c] w fun e w' => ∃ a' c', e = .returned (.slice a' ks.length c') ∧ Hid (Strs w' w.heap.size (.slice a' ks.length c') ks) ∧ Below w.heap.size w w' := by
  by_cases hn : ks = []
  · subst hn
    cases a with
    | none =>
      refine (Tryz.slices_Clone_string_nil 0 c w).mono ?_
      rintro e w' ⟨rfl, rfl⟩
      exact ⟨none, 0, rfl, hide (Strs.nil _ _), Below.refl _ _⟩
    | some ad =>
      refine (Tryz.slices_Clone_string_zero ad c w).mono ?_
      rintro e w' ⟨v, rfl, hown, _, hb⟩
      have hs : Strs w' w.heap.size v [] := ⟨hown⟩
      obtain ⟨a', c', rfl, _⟩ := hs.slice
      exact ⟨a', c', rfl, hide hs, hb⟩
  · obtain ⟨b, o, rfl, hc⟩ := ins_some h hn
    refine (Tryz.slices_Clone_string b o ks.length c (ks.map bz) w (by simp) (by omega) hc).mono ?_
    rintro e w' ⟨v, rfl, hown, _, hb⟩
    rw [List.take_of_length_le (by simp)] at hown
    have hs : Strs w' w.heap.size v ks := ⟨by rw [List.map_map] at hown; exact hown⟩
    obtain ⟨a', c', rfl, _⟩ := hs.slice
    exact ⟨a', c', rfl, hide hs, hb⟩
end Go.Proofs.YtefokfbgpfcbkaaGreat
namespace Go.Proofs.YtefokfbgpfcbkaaGreat
set_option linter.unusedVariables false
set_option linter.unusedSimpArgs false
open Go.RowKit
structure KS (W : World) (B : Nat) (kv dv : Value) (ks : List (List UInt8)) (ds : List Nd) : Prop where
  str : Strs W B kv ks
  kids : Kids W B dv ds
  sep : ∀ g, kv.ownBlock = some g → dv.ownBlock ≠ some g ∧ ∀ d ∈ ds, ¬ d.blk g
theorem KS.old {W W' : World} {B rb : Nat} {kv dv : Value} {ks : List (List UInt8)} {ds : List Nd} (h : KS W B kv dv ks ds) (hg : W.grownBy W' (some rb)) (hr : rb < B) : KS W' B kv dv ks ds := ⟨h.str.old hg hr, h.kids.old hg hr, h.sep⟩
theorem KS.alloc {W : World} {B : Nat} {kv dv : Value} {ks : List (List UInt8)} {ds : List Nd} (h : KS W B kv dv ks ds) (o : Obj) : KS (W.alloc o) B kv dv ks ds := ⟨h.str.alloc o, h.kids.alloc o, h.sep⟩
theorem KS.kid {W W' : World} {B : Nat} {kv dv dv' : Value} {ks : List (List UInt8)} {ds : List Nd} {nd : Nd} (h : KS W B kv dv ks ds) (hk : Kids W' B dv' (ds ++ [nd])) (hg : W.grownBy W' dv.ownBlock) (hat : dv'.ownBlock = dv.ownBlock ∨ ∃ g, dv'.ownBlock = some g ∧ W.heap.size ≤ g)
    (hn : ∀ g, nd.blk g → kv.ownBlock ≠ some g) : KS W' B kv dv' ks (ds ++ [nd]) := by
  refine ⟨h.str.grown hg (fun g e e2 => (h.sep g e2).1 e), hk, fun g e => ⟨fun e2 => ?_, fun d hm hb => ?_⟩⟩
  · rcases hat with hat | ⟨g2, e3, hl⟩
    · exact (h.sep g e).1 (hat ▸ e2)
    · rw [e3] at e2
      injection e2 with e2
      have := (own_block_lt h.str.own g e).2
      omega
  · rcases List.mem_append.1 hm with hm | hm
    · exact (h.sep g e).2 d hm hb
    · obtain rfl := List.mem_singleton.1 hm
      exact hn g hb e
theorem put5_2 {W : World} {g : Nat} {t : TypeId} {a b c d e : Value} (h : W.heap[g]? = some (.cells #[a, b, c, d, e] t)) (v : Value) : (W.setCell ⟨g, 2, none⟩ v).heap[g]? = some (.cells #[a, b, v, d, e] t) := by simp [World.setCell, Array.getElem?_modify, h]
theorem put5_3 {W : World} {g : Nat} {t : TypeId} {a b c d e : Value} (h : W.heap[g]? = some (.cells #[a, b, c, d, e] t)) (v : Value) : (W.setCell ⟨g, 3, none⟩ v).heap[g]? = some (.cells #[a, b, c, v, e] t) := by simp [World.setCell, Array.getElem?_modify, h]
end Go.Proofs.YtefokfbgpfcbkaaGreat
namespace Go.Proofs.YtefokfbgpfcbkaaGreat
set_option linter.unusedVariables false
set_option linter.unusedSimpArgs false
open Go.RowKit
namespace P20
mutual
def T.cut : Nat → T → T
  | lv, .mk k t ks ds l => .mk k t ks (if 1 < lv then cutL (lv - 1) ds else []) l
def cutL : Nat → List T → List T
  | lv, [] => []
  | lv, d :: ds => d.cut lv :: cutL lv ds
end
end P20
theorem cutL_take (lv : Nat) {ds : List Nd} {i : Nat} {d : Nd} (h : ds[i]? = some d) : P20.cutL lv (bareL (ds.take (i + 1))) = P20.cutL lv (bareL (ds.take i)) ++ [d.bare.cut lv] := by
  have e : ∀ a b : List P20.T, P20.cutL lv (a ++ b) = P20.cutL lv a ++ P20.cutL lv b := fun a b => by
    induction a with
    | nil => rfl
    | cons x a ih => simp [P20.cutL, ih]
  rw [List.take_add_one, h, bareL_append, e]
  rfl
theorem step_appNode {w : World} {B : Nat} {v : Value} {ds : List Nd} {nd : Nd} {ops : Array Oper} {o : Oper} {a : Act} {K : Act → World → Prop} {Q : Exit → Act → World → Prop} {E : Prop} (hgd : o.guard = none) (s x : Operand)
    (ho : o.op = .call { callee := .builtin .append, args := #[s, x], argTypes := #[59, 59] })
    (hs : a.eval s = v) (hk : Kids w B v ds) (hin : nd.In w) (hnew : ∀ g, nd.blk g → B ≤ g) (hsep : ∀ g, nd.blk g → v.ownBlock ≠ some g) (g cap : Nat)
    (hx : a.eval x = .slice (some ⟨g, 0, none⟩) 1 cap) (hcs : ∀ j u, nd.cs[j]? = some u → w.cell? ((⟨g, 0, none⟩ : Addr).add j) = some u) (hlen : ds.length + 1 ≤ 1000000000) (hB : B ≤ w.heap.size)
    (h : ∀ v' w', Kids w' B v' (ds ++ [nd]) → w.grownBy w' v.ownBlock → (v'.ownBlock = v.ownBlock ∨ ∃ g, v'.ownBlock = some g ∧ w.heap.size ≤ g) → K (a.put o.dst v') w') :
    if Region.wanted o (yielded ops a.tmps) = true then Oper.wp Tryz.prog o a w K Q else E := by
  obtain ⟨i, hi, hz, hsz, hby⟩ := info_parts ndInfo
  refine step_append_lies (P := Tryz.prog) w hgd s x 59 ho B 61 i (.agg #[.int .u8 0, .string ⟨#[]⟩, .slice none 0 0, .slice none 0 0, .int .i64 0]) 5 80 Tryz.underlying59 hi hz hsz hby rfl (by decide) v ds.length (ndCells ds) hs hk.own
    ⟨g, 0, none⟩ 1 cap nd.cs hx rfl hcs (by intro u hu; exact nd_one [nd] u (by simpa [ndCells] using hu)) (by decide) (by unfold maxLen; omega) (by omega) hB _ rfl ?_
  intro g' cap' w' h2 h3 hat _
  have hsep' : ∀ d, d ∈ ds ++ [nd] → ∀ g, d.blk g → g < w.heap.size ∧ v.ownBlock ≠ some g ∧ d.In w := by
    intro d hm g hb
    rcases List.mem_append.1 hm with hm | hm
    · exact ⟨(hk.ins d hm).lt hb, hk.sep d hm g hb, hk.ins d hm⟩
    · obtain rfl := List.mem_singleton.1 hm
      exact ⟨hin.lt hb, hsep g hb, hin⟩
  have hin' : ∀ d ∈ ds ++ [nd], d.In w := by
    intro d hm
    rcases List.mem_append.1 hm with hm | hm
    · exact hk.ins d hm
    · obtain rfl := List.mem_singleton.1 hm
      exact hin
  refine h _ w' ⟨?_, fun d hm => (hin' d hm).keep (fun g hb => ?_), fun d hm g hb => ?_, fun d hm g hb e => ?_⟩ h3 ?_
  · rw [ndCells_append, List.length_append]
    have e : ndCells [nd] = nd.cs := by simp [ndCells]
    rw [e]
    exact h2
  · obtain ⟨h6, h7, _⟩ := hsep' d hm g hb
    exact h3.block g h6 (fun e => h7 e.symm)
  · rcases List.mem_append.1 hm with hm | hm
    · exact hk.new d hm g hb
    · obtain rfl := List.mem_singleton.1 hm
      exact hnew g hb
  · obtain ⟨h6, h7, _⟩ := hsep' d hm g hb
    rcases hat with h5 | h5
    · exact h7 (h5.trans (show some g' = some g from e))
    · have e2 : some g' = some g := e
      injection e2 with e2
      omega
  · rcases hat with h5 | h5
    · exact .inl h5.symm
    · exact .inr ⟨g', rfl, by omega⟩
theorem step_enter {f : FuncId} {args : Array Value} {w : World} {ops : Array Oper} {o : Oper} {a : Act} {K : Act → World → Prop} {Q : Exit → Act → World → Prop} {E : Prop} {R : Ending → World → Prop} (hgd : o.guard = none)
    (hex : (execOp a.eval o).run Tryz.prog w = .ok (.enter f args) w) (h : Calls Tryz.prog f args w R) (hk : ∀ e w', R e w' → ∃ v, e = .returned v ∧ K (a.put o.dst v) w') :
    if Region.wanted o (yielded ops a.tmps) = true then Oper.wp Tryz.prog o a w K Q else E := by
  rw [if_pos (by simp [Region.wanted, hgd])]
  unfold Oper.wp
  rw [hex, Oper.upon_enter]
  refine h.mono (fun e w' hr => ?_)
  obtain ⟨v, rfl, hkv⟩ := hk e w' hr
  exact hkv
def NewNd (w : World) (T : P20.T) (e : Ending) (w' : World) : Prop :=
  ∃ (k : Nat) (t : List UInt8) (ka : Option Addr) (kc : Nat) (ks : List (List UInt8)) (da : Option Addr) (dc : Nat) (ds : List Nd) (l : Int), e = .returned (.agg #[.int .u8 k, .string ⟨t.toArray⟩, .slice ka ks.length kc, .slice da ds.length dc, .int .i64 l]) ∧ Hid ((Nd.mk k t ka kc ks da dc ds l).bare = T ∧ (Nd.mk k t ka kc ks da dc ds l).In w' ∧ ∀ g, (Nd.mk k t ka kc ks da dc ds l).blk g → w.heap.size ≤ g) ∧ Below w.heap.size w w'
def CloneC (d : Nd) : Prop := ∀ (lv : Nat) (w : World), d.In w → okT d.bare → 1 ≤ lv → lv ≤ 1000 → Calls Tryz.prog 152 #[d.val, .int .i64 lv] w (NewNd w (d.bare.cut lv))
theorem cs_new (W : World) (k : Nat) (t : List UInt8) (ka : Option Addr) (kc : Nat) (ks : List (List UInt8)) (da : Option Addr) (dc : Nat) (ds : List Nd) (l : Int) :
    ∀ j u, (Nd.mk k t ka kc ks da dc ds l).cs[j]? = some u → (W.alloc (.cells #[.int .u8 k, .string ⟨t.toArray⟩, .slice ka ks.length kc, .slice da ds.length dc, .int .i64 l] 61)).cell? ((⟨W.heap.size, 0, none⟩ : Addr).add j) = some u := by
  intro j u hj
  have hn := World.alloc_heap_new W (.cells #[.int .u8 k, .string ⟨t.toArray⟩, .slice ka ks.length kc, .slice da ds.length dc, .int .i64 l] 61)
  have hc := cell_of_row _ W.heap.size j _ _ (0, 0) hn
  have ea : ((⟨W.heap.size, 0, none⟩ : Addr).add j) = ⟨W.heap.size, j, none⟩ := by unfold Addr.add; split <;> simp_all
  rw [ea, hc, ← hj]
  simp [Nd.cs, Nd.kind, Nd.text, Nd.kV, Nd.dV, Nd.ka, Nd.kc, Nd.keys, Nd.da, Nd.dc, Nd.kids, Nd.line]
theorem KS.keep {W W' : World} {B : Nat} {kv dv : Value} {ks : List (List UInt8)} {ds : List Nd} (h : KS W B kv dv ks ds) (hb : Below W.heap.size W W') : KS W' B kv dv ks ds :=
  ⟨h.str.grown (grown_of_below hb none) (fun g e => by cases e), h.kids.grown (grown_of_below hb none) (fun g e => by cases e), h.sep⟩
theorem KS.set {W : World} {B O i : Nat} {v : Value} {kv dv : Value} {ks : List (List UInt8)} {ds : List Nd} (h : KS W B kv dv ks ds) (hO : O < B) : KS (W.setCell ⟨O, i, none⟩ v) B kv dv ks ds :=
  h.old (setCell_grown W O i v) hO
theorem clone_end {w wx : World} {H k : Nat} {t : List UInt8} {kv dv : Value} {ks : List (List UInt8)} {es : List Nd} {ln : Int} {T : P20.T} (hH : w.heap.size = H) (hk : k < 256) (ht : t.length ≤ maxLen) (hkl : ∀ x ∈ ks, x.length ≤ maxLen)
    (hks : KS wx (H + 1 + 1 + 1) kv dv ks es) (hT : P20.T.mk k t ks (bareL es) ln = T) (hb : Below H w wx) (v0 v1 v2 v3 v4 : Value) :
    NewNd w T (.returned (.agg #[.int .u8 k, .string ⟨t.toArray⟩, kv, dv, .int .i64 ln])) (((((wx.setCell ⟨H + 1, 0, none⟩ v0).setCell ⟨H + 1, 1, none⟩ v1).setCell ⟨H + 1, 2, none⟩ v2).setCell ⟨H + 1, 3, none⟩ v3).setCell ⟨H + 1, 4, none⟩ v4) := by
  have hks2 := ((((hks.set (O := H + 1) (i := 0) (v := v0) (by omega)).set (O := H + 1) (i := 1) (v := v1) (by omega)).set (O := H + 1) (i := 2) (v := v2) (by omega)).set (O := H + 1) (i := 3) (v := v3) (by omega)).set (O := H + 1) (i := 4) (v := v4) (by omega)
  obtain ⟨a, c, rfl, hc1, hc2, hi, hn⟩ := hks2.str.slice
  obtain ⟨a2, c2, rfl, hd1, hd2, hi2, hn2, hn3⟩ := hks2.kids.slice
  refine ⟨k, t, a, c, ks, a2, c2, es, ln, rfl, hide ⟨hT, .mk ⟨hk, ht, Nat.le_trans hc1 hc2, Nat.le_trans hd1 hd2, hc1, hd1, hkl, hi⟩ hi2, fun g hg => ?_⟩, ?_⟩
  · rw [blk_eq] at hg
    rcases hg with ⟨h1, h2⟩ | ⟨h1, h2⟩ | h1
    · have := hn g h1 h2; omega
    · have := hn3 g h1 h2; omega
    · have := hn2 g h1; omega
  · rw [hH]
    exact below_five hb (by omega) _ _ _ _ _
set_option maxRecDepth 100000 in
set_option maxHeartbeats 8000000 in
theorem clone_node (k : Nat) (t : List UInt8) (ka : Option Addr) (kc : Nat) (ks : List (List UInt8)) (da : Option Addr) (dc : Nat) (ds : List Nd) (ln : Int) (hds : ∀ d ∈ ds, CloneC d) : CloneC (.mk k t ka kc ks da dc ds ln) := by
  intro lv w hin hok h1 h2
  rw [Nd.val_eq]
  have hfit := hin.fit
  unfold Nd.bare okT at hok
  obtain ⟨o1, o2, o3, o4, o5⟩ := hok
  rw [bareL_len] at o4
  have hkl : ks.length ≤ 1000000000 := o2
  obtain ⟨H, hH⟩ : ∃ H, w.heap.size = H := ⟨_, rfl⟩
  obtain ⟨W, hW⟩ : ∃ W, ((w.alloc (.cells #[.int .u8 k, .string ⟨t.toArray⟩, .slice ka ks.length kc, .slice da ds.length dc, .int .i64 ln] 61)).alloc (.cells #[.int .u8 0, .string ⟨#[]⟩, .slice none 0 0, .slice none 0 0, .int .i64 0] 61)).alloc (.cells #[.int .u8 k, .string ⟨t.toArray⟩, .slice ka ks.length kc, .slice da ds.length dc, .int .i64 ln] 61) = W := ⟨_, rfl⟩
  have hsW : W.heap.size = H + 1 + 1 + 1 := by rw [← hW]; simp; omega
  have hbW : Below H w W := by rw [← hW]; exact (((Below.refl _ w).alloc (by omega) _).alloc (by simp; omega) _).alloc (by simp; omega) _
  obtain ⟨W', hW', v1, g0, g1, g2, v2, v3⟩ := start4 w (.cells #[.int .u8 k, .string ⟨t.toArray⟩, .slice ka ks.length kc, .slice da ds.length dc, .int .i64 ln] 61) (.cells #[.int .u8 0, .string ⟨#[]⟩, .slice none 0 0, .slice none 0 0, .int .i64 0] 61) (.cells #[.int .u8 k, .string ⟨t.toArray⟩, .slice ka ks.length kc, .slice da ds.length dc, .int .i64 ln] 61) (.cells #[] 3) H hH
  rw [hW] at hW'
  have hup : ∀ r, r < W.heap.size → W.heap[r]? = W'.heap[r]? := fun r hr => by rw [← hW']; exact (Below.heap_alloc _ _ _ hr).symm
  rw [← hup _ (by omega)] at g0 g1 g2
  clear hW' hup v1 v2 v3 W'
  have hkin : InS W ka ks := by
    have h3 := hfit.keys
    simp only [Nd.ka, Nd.keys] at h3
    exact h3.below (by rw [hH]; exact hbW)
  have hcl := clone_any ka kc ks W hkin hkl
  have hkids := hin.kids
  simp only [Nd.da, Nd.kids] at hkids
  have HCL := hide hcl
  have HW := hide hW
  have HG0 := hide g0
  have HG1 := hide g1
  have HG2 := hide g2
  have HBW := hide hbW
  have HKI := hide hkids
  have HDS := hide hds
  have HO5 := hide o5
  have hdl := hfit.kidsL
  simp only [Nd.kids] at hdl
  have HIN := hide hin
  clear hcl hW g0 g1 g2 hbW hkin hkids hds o5 o1 o3 hfit hdl hin
  go_enter Tryz.func152, Tryz.ntmps152
  go_upto_region 2 with fail
  try rw [hH]
  rw [unhide HW]
  obtain ⟨⟨x0, f0⟩, ⟨x1, f1⟩, ⟨x2, f2⟩, ⟨x3, f3⟩, ⟨x4, f4⟩⟩ := five_cell (unhide HG0)
  go_upto_region 4 with (go_at_call 110; refine (unhide HCL).mono ?_; rintro e w1 ⟨a', c', rfl, HS, hb1⟩; have m2 := (hb1.block (H + 1 + 1) (by omega)).trans (unhide HG2); obtain ⟨⟨y0, q0⟩, ⟨y1, q1⟩, ⟨y2, q2⟩, ⟨y3, q3⟩, ⟨y4, q4⟩⟩ := five_cell m2; have HM2 := hide m2; clear m2)
  obtain ⟨V0, hV0⟩ : ∃ V0, (w1.setCell ⟨H + 1 + 1, 2, none⟩ (.slice a' ks.length c')).setCell ⟨H + 1 + 1, 3, none⟩ (.slice none 0 0) = V0 := ⟨_, rfl⟩
  have hs1 := hb1.size
  rw [hsW] at hb1 HS
  have hKS : KS V0 (H + 1 + 1 + 1) (.slice a' ks.length c') (.slice none 0 0) ks [] := by
    rw [← hV0]
    exact ((⟨unhide HS, Kids.nil _ _, fun g e => ⟨fun e2 => by simp [Value.ownBlock] at e2, by simp⟩⟩ : KS w1 (H + 1 + 1 + 1) (.slice a' ks.length c') (.slice none 0 0) ks []).set (by omega)).set (by omega)
  have hsV : H + 1 + 1 < V0.heap.size := by rw [← hV0]; simp; omega
  have ho : ∀ r, r ≠ H + 1 + 1 → V0.heap[r]? = w1.heap[r]? := fun r hr => by rw [← hV0, Below.heap_setCell _ _ _ _ (by exact hr), Below.heap_setCell _ _ _ _ (by exact hr)]
  have k0 := (ho H (by omega)).trans ((hb1.block _ (by omega)).trans (unhide HG0))
  have k1 := (ho (H + 1) (by omega)).trans ((hb1.block _ (by omega)).trans (unhide HG1))
  have k2 : V0.heap[H + 1 + 1]? = some (.cells #[.int .u8 k, .string ⟨t.toArray⟩, .slice a' ks.length c', .slice none 0 0, .int .i64 ln] 61) := by
    rw [← hV0]; exact put5_3 (put5_2 (unhide HM2) _) _
  have hbV : Below H w V0 := by
    have h3 := (unhide HBW).trans (hb1.mono (by omega))
    rw [← hV0]
    exact ⟨h3.os, h3.tape, h3.output, by have := h3.size; simpa using this, fun r hr => by
      rw [Below.heap_setCell _ _ _ _ (by show r ≠ H + 1 + 1; omega), Below.heap_setCell _ _ _ _ (by show r ≠ H + 1 + 1; omega)]
      exact h3.block r hr⟩
  rw [hV0]
  have HK0 := hide k0
  have HK1 := hide k1
  have HK2 := hide k2
  have HKS := hide hKS
  have HBV := hide hbV
  clear x0 f0 x1 f1 x2 f2 x3 f3 x4 f4 y0 q0 y1 q1 y2 q2 y3 q3 y4 q4 hV0 hKS ho k0 k1 k2 hbV hb1 hs1 HS HM2 HG0 HG1 HG2 HCL
  rcases Nat.lt_or_ge 1 lv with hlv | hlv
  · have jl : (1 : Int) < (lv : Int) := by omega
    have jw : IntKind.i64.wrap ((lv : Int) - 1) = (lv : Int) - 1 := IntWalk.i64_in _ (by omega)
    have hlt := fun r (hr : (Nd.mk k t ka kc ks da dc ds ln).blk r) => (unhide HIN).lt hr
    rw [hH] at hlt
    have HLT := hide hlt
    obtain ⟨n, hn⟩ : ∃ n, ds.length = n := ⟨_, rfl⟩
    have HK0' := hide (show V0.heap[H]? = some (.cells #[.int .u8 k, .string ⟨t.toArray⟩, .slice ka ks.length kc, .slice da n dc, .int .i64 ln] 61) by rw [← hn]; exact unhide HK0)
    obtain ⟨⟨x0, _⟩, ⟨x1, _⟩, ⟨x2, _⟩, ⟨x3, _⟩, ⟨x4, _⟩⟩ := five_cell (unhide HK0')
    have HN := hide hn
    have HLV := hide hlv
    rw [hn] at o4 ⊢
    have hon : (n : Int) ≤ 1000000000 := by omega
    clear hlt hn hlv HK0 HK0'
    go_wp2
    go_loopg [19] n (fun g s19 wx => ∃ (i : Nat) (dv : Value) (es : List Nd), i + g = n ∧ s19 = .int .i64 i ∧ es.length ≤ i ∧ Hid (KS wx (H + 1 + 1 + 1) (.slice a' ks.length c') dv ks es) ∧ Hid (bareL es = P20.cutL (lv - 1) (bareL (ds.take i))) ∧
      Hid (wx.heap[H + 1 + 1]? = some (.cells #[.int .u8 k, .string ⟨t.toArray⟩, .slice a' ks.length c', dv, .int .i64 ln] 61)) ∧ Hid (wx.heap[H + 1]? = some (.cells #[.int .u8 0, .string ⟨#[]⟩, .slice none 0 0, .slice none 0 0, .int .i64 0] 61)) ∧ Hid (Below H w wx))
    case atStart => exact ⟨0, _, [], by omega, by go_num, Nat.le_refl _, HKS, hide rfl, HK2, HK1, HBV⟩
    case round =>
      obtain ⟨i, dv, es, hig, rfl, hel, HKR, HE, HO, HZ, HB⟩ := hrel
      obtain ⟨ad, cd, rfl, _⟩ := (unhide HKR).kids.slice
      cases gk with
      | zero =>
        have e1 : (n : Int) = (i : Int) := by omega
        have HEI := hide (show i = n by omega)
        obtain ⟨⟨x0, f0⟩, ⟨x1, f1⟩, ⟨x2, f2⟩, ⟨x3, f3⟩, ⟨x4, f4⟩⟩ := five_cell (unhide HO)
        obtain ⟨⟨z0, q0⟩, ⟨z1, q1⟩, ⟨z2, q2⟩, ⟨z3, q3⟩, ⟨z4, q4⟩⟩ := five_cell (unhide HZ)
        go_wp2
        have hf := (unhide HIN).fit
        refine bodyPost_ret (results_cell_row rfl _ _ _ _ _ _ _ rfl (five_set (unhide HZ) _ _ _ _ _) Tryz.underlying61 rfl (by kernel_rfl)) rfl (clone_end (k := k) (t := t) (ks := ks) (ln := ln) hH hf.kind hf.text hf.keyL (unhide HKR) ?_ (unhide HB) _ _ _ _ _)
        unfold Nd.bare P20.T.cut
        rw [if_pos (unhide HLV), unhide HE, List.take_of_length_le (by rw [unhide HN]; have := unhide HEI; omega)]
      | succ g' =>
        have hlt : (i : Int) < (n : Int) := by omega
        have hki : IntKind.i64.wrap ((i : Int) + 1) = (i : Int) + 1 := IntWalk.i64_in _ (by omega)
        obtain ⟨d, hgd⟩ := nth_of (unhide HN) (show i < n by omega)
        have hdm := List.mem_of_getElem? hgd
        have hb := unhide HB
        have hbs := hb.size
        have hkr : InL wr da 0 ds := InL.below (unhide HKI) (by rw [hH]; exact hb)
        have hcall := unhide HDS d hdm (lv - 1)
        have hokd : okT d.bare := (okTs_iff _).1 (unhide HO5) _ (by rw [bareL_map]; exact List.mem_map_of_mem hdm)
        have htk := cutL_take (lv - 1) hgd
        obtain ⟨b1, o1, k1, t1, ka1, kc1, ks1, da1, dc1, ds1, l1, rfl, rfl, e0, e1, e2, e3, e4, hdin⟩ := kid_open hkr hgd
        obtain ⟨W5, hW5⟩ : ∃ W5, wr.alloc (.cells #[.int .u8 k1, .string ⟨t1.toArray⟩, .slice ka1 ks1.length kc1, .slice da1 ds1.length dc1, .int .i64 l1] 61) = W5 := ⟨_, rfl⟩
        have hb5 : Below wr.heap.size wr W5 := by rw [← hW5]; exact (Below.refl _ wr).alloc (Nat.le_refl _) _
        have hs5 : W5.heap.size = wr.heap.size + 1 := by rw [← hW5]; simp
        have g5 : W5.heap[wr.heap.size]? = some (.cells #[.int .u8 k1, .string ⟨t1.toArray⟩, .slice ka1 ks1.length kc1, .slice da1 ds1.length dc1, .int .i64 l1] 61) := by rw [← hW5]; exact World.alloc_heap_new wr _
        have hO1 : H + 1 + 1 < wr.heap.size := (Array.getElem?_eq_some_iff.1 (unhide HO)).1
        have hO5 := (hb5.block (H + 1 + 1) hO1).trans (unhide HO)
        have hZ5 := (hb5.block (H + 1) (by omega)).trans (unhide HZ)
        have hK5 := (unhide HKR).keep hb5
        have hcl := fun V (h : Below W5.heap.size W5 V) => hcall V ((hdin.below hb5).below h) hokd (by have := unhide HLV; omega) (by omega)
        rw [Nd.val_eq, show (((lv - 1 : Nat)) : Int) = (lv : Int) - 1 from by have := unhide HLV; omega] at hcl
        obtain ⟨T1, hT1⟩ : ∃ T1, (Nd.mk k1 t1 ka1 kc1 ks1 da1 dc1 ds1 l1).bare.cut (lv - 1) = T1 := ⟨_, rfl⟩
        rw [hT1] at hcl htk
        obtain ⟨⟨x0, f0⟩, ⟨x1, f1⟩, ⟨x2, f2⟩, ⟨x3, f3⟩, ⟨x4, f4⟩⟩ := five_cell hO5
        obtain ⟨⟨y0, _⟩, ⟨y1, _⟩, ⟨y2, _⟩, ⟨y3, _⟩, ⟨y4, _⟩⟩ := five_cell g5
        have HCL := hide hcl
        have HTK := hide htk
        have HI5 := hide g5
        have HKR5 := hide (unhide HKR).kids
        have HW5 := hide hW5
        have HO5' := hide hO5
        have HZ5 := hide hZ5
        have HK5 := hide hK5
        have HB5 := hide (show Below H w W5 from hb.trans (hb5.mono (by omega)))
        have hbl1 := cellLt e0
        have hmx : Tryz.prog.follows .mixedOrders = true := by kernel_rfl
        clear hcl htk hT1 hW5 hO5 hZ5 hK5 hcall hokd hdm hgd hdin hkr hb g5 HO HZ HKR HB
        go_upto_region 8 with fail
        rw [unhide HW5]
        have hcl2 := unhide HCL W5.drew ⟨rfl, rfl, rfl, Nat.le_refl _, fun _ _ => rfl⟩
        have HC2 := hide hcl2
        clear hcl2
        have heg := enters_of Tryz.func152 (by kernel_rfl) rfl
        go_region_law (first
          | (refine step_enter (f := 152) (args := #[.agg #[.int .u8 k1, .string ⟨t1.toArray⟩, .slice ka1 ks1.length kc1, .slice da1 ds1.length dc1, .int .i64 l1], .int .i64 ((lv : Int) - 1)]) (by rfl) (by simp [execOp, go_sem, heg]) (unhide HC2) ?_; rintro e w6 ⟨k6, t6, ka6, kc6, ks6, da6, dc6, ds6, l6, rfl, HN6, hb6'⟩; refine ⟨_, rfl, ?_⟩; have hb6 : Below W5.heap.size W5 w6 := ⟨hb6'.os, hb6'.tape, hb6'.output, hb6'.size, hb6'.block⟩; have hO6 := (hb6.block (H + 1 + 1) (by omega)).trans (unhide HO5'); obtain ⟨⟨p0, r0⟩, ⟨p1, r1⟩, ⟨p2, r2⟩, ⟨p3, r3⟩, ⟨p4, r4⟩⟩ := five_cell hO6; have HO6 := hide hO6; have HK6 := hide (((unhide HK5).keep hb6).alloc (.cells #[.int .u8 k6, .string ⟨t6.toArray⟩, .slice ka6 ks6.length kc6, .slice da6 ds6.length dc6, .int .i64 l6] 61)); have hs6 := hb6.size; have hs6' : H + 1 + 1 < w6.heap.size := (by omega); obtain ⟨⟨a0, _⟩, ⟨a1, _⟩, ⟨a2, _⟩, ⟨a3, _⟩, ⟨a4, _⟩⟩ := five_cell ((Below.heap_alloc w6 (.cells #[.int .u8 k6, .string ⟨t6.toArray⟩, .slice ka6 ks6.length kc6, .slice da6 ds6.length dc6, .int .i64 l6] 61) _ hs6').trans hO6); clear hO6 hb6')
          | (refine step_appNode (B := H + 1 + 1 + 1) (nd := .mk k6 t6 ka6 kc6 ks6 da6 dc6 ds6 l6) (by rfl) _ _ (by rfl) (by rfl) (unhide HK6).kids ((unhide HN6).2.1.alloc _) (fun g hg => by have h3 : W5.heap.size ≤ g := (unhide HN6).2.2 g hg; omega) (fun g hg e => by have h3 : W5.heap.size ≤ g := (unhide HN6).2.2 g hg; have h4 := (own_block_lt (unhide HK5).kids.own g e).2; omega) w6.heap.size 1 (by rfl) (cs_new _ _ _ _ _ _ _ _ _ _) (by omega) (by simp; omega) ?_; intro v' w7 hK7 hg7 hat7; obtain ⟨ad7, cd7, rfl, _⟩ := hK7.slice; have HK7 := hide hK7; clear hK7; have hown : ∀ g, (Value.slice ad es.length cd).ownBlock = some g → H + 1 + 1 + 1 ≤ g := (fun g e => (own_block_lt (unhide HK6).kids.own g e).1); have hO7 := (hg7.block (H + 1 + 1) (by simp; omega) (fun e => by have := hown _ e.symm; omega)).trans ((Below.heap_alloc _ _ _ hs6').trans (unhide HO6)); obtain ⟨⟨m0, n0⟩, ⟨m1, n1⟩, ⟨m2, n2⟩, ⟨m3, n3⟩, ⟨m4, n4⟩⟩ := five_cell hO7; have HO7 := hide hO7; clear hO7))
        all_goals
          have hks7 := (unhide HK6).kid (unhide HK7) hg7 hat7 (fun g hg e => by have h3 : W5.heap.size ≤ g := (unhide HN6).2.2 g hg; have h4 := (own_block_lt (unhide HK5).str.own g e).2; omega)
          have hks8 := hks7.set (O := H + 1 + 1) (i := 3) (v := .slice ad7 (es.length + 1) cd7) (by omega)
          rw [List.length_append, List.length_singleton] at hks8
          have HKS8 := hide hks8
          have hbn := (((unhide HB5).trans (hb6.mono (show H ≤ W5.heap.size by omega))).alloc (show H ≤ w6.heap.size by omega) (.cells #[.int .u8 k6, .string ⟨t6.toArray⟩, .slice ka6 ks6.length kc6, .slice da6 ds6.length dc6, .int .i64 l6] 61)).grown hg7 (by simp; omega) (fun k e => by have := hown k e; omega)
          have HBN := hide (hbn.setCell (p := ⟨H + 1 + 1, 3, none⟩) (show H ≤ H + 1 + 1 by omega) (.slice ad7 (es.length + 1) cd7))
          have HZN := hide ((Below.heap_setCell w7 ⟨H + 1 + 1, 3, none⟩ (.slice ad7 (es.length + 1) cd7) (H + 1) (show H + 1 ≠ H + 1 + 1 by omega)).trans ((hg7.block (H + 1) (by simp; omega) (fun e => by have := hown _ e.symm; omega)).trans ((Below.heap_alloc _ _ _ (show H + 1 < w6.heap.size by omega)).trans ((hb6.block (H + 1) (by omega)).trans (unhide HZ5)))))
          have HBE := hide (show bareL (es ++ [.mk k6 t6 ka6 kc6 ks6 da6 dc6 ds6 l6]) = P20.cutL (lv - 1) (bareL (ds.take (i + 1))) by rw [bareL_append, unhide HE, unhide HTK, ← (unhide HN6).1]; rfl)
          clear hks7 hks8 hbn
          go_wp2
          go_roundg g'
          case measure => omega
          case rel => exact ⟨i + 1, _, es ++ [.mk k6 t6 ka6 kc6 ks6 da6 dc6 ds6 l6], by omega, by go_num, by simp; omega, HKS8, HBE, hide (put5_3 (unhide HO7) _), HZN, HBN⟩
  · have jl : (lv : Int) ≤ 1 := by omega
    obtain ⟨⟨x0, f0⟩, ⟨x1, f1⟩, ⟨x2, f2⟩, ⟨x3, f3⟩, ⟨x4, f4⟩⟩ := five_cell (unhide HK2)
    obtain ⟨⟨z0, q0⟩, ⟨z1, q1⟩, ⟨z2, q2⟩, ⟨z3, q3⟩, ⟨z4, q4⟩⟩ := five_cell (unhide HK1)
    have HLV := hide hlv
    clear hlv
    go_wp2
    have hf := (unhide HIN).fit
    exact bodyPost_ret (results_cell_row rfl _ _ _ _ _ _ _ rfl (five_set (unhide HK1) _ _ _ _ _) Tryz.underlying61 rfl (by kernel_rfl)) rfl (clone_end (k := k) (t := t) (ks := ks) (ln := ln) hH hf.kind hf.text hf.keyL (unhide HKS) (by unfold Nd.bare P20.T.cut; rw [if_neg (by have := unhide HLV; omega)]; rfl) (unhide HBV) _ _ _ _ _)
theorem clone20_any (d : Nd) : CloneC d := Nd.ind (p := CloneC) clone_node d
set_option maxRecDepth 100000 in
set_option maxHeartbeats 1600000 in
theorem Copy20_any (d : Nd) (w : World) (hin : d.In w) (hok : okT d.bare) : Calls Tryz.prog 111 #[d.val] w (NewNd w (d.bare.cut 18)) := by
  obtain ⟨k, t, ka, kc, ks, da, dc, ds, ln⟩ := d
  have hcl := fun W (hb : Below w.heap.size w W) => clone20_any _ 18 W (hin.below hb) hok (by omega) (by omega)
  obtain ⟨T, hT⟩ : ∃ T, (Nd.mk k t ka kc ks da dc ds ln).bare.cut 18 = T := ⟨_, rfl⟩
  rw [Nd.val_eq, hT] at hcl
  rw [Nd.val_eq, hT]
  obtain ⟨H, hH⟩ : ∃ H, w.heap.size = H := ⟨_, rfl⟩
  obtain ⟨W, hW⟩ : ∃ W, (w.alloc (.cells #[.int .u8 k, .string ⟨t.toArray⟩, .slice ka ks.length kc, .slice da ds.length dc, .int .i64 ln] 61)).alloc (.cells #[.int .u8 0, .string ⟨#[]⟩, .slice none 0 0, .slice none 0 0, .int .i64 0] 61) = W := ⟨_, rfl⟩
  have hs0 : W.heap.size = H + 1 + 1 := by rw [← hW]; simp; omega
  have hb0 : Below H w W := by rw [← hW]; exact ((Below.refl _ w).alloc (by omega) _).alloc (by simp; omega) _
  have g0 : W.heap[H]? = some (.cells #[.int .u8 k, .string ⟨t.toArray⟩, .slice ka ks.length kc, .slice da ds.length dc, .int .i64 ln] 61) := by
    rw [← hW, ← hH]; exact (Below.heap_alloc _ _ _ (by simp)).trans (World.alloc_heap_new w _)
  have g1 : W.heap[H + 1]? = some (.cells #[.int .u8 0, .string ⟨#[]⟩, .slice none 0 0, .slice none 0 0, .int .i64 0] 61) := by
    rw [← hW, ← hH]; exact alloc2_new w _ _
  have HC := hide (hcl W (by rw [hH]; exact hb0))
  have HW := hide hW
  have HG1 := hide g1
  have HB0 := hide hb0
  obtain ⟨⟨x0, f0⟩, ⟨x1, f1⟩, ⟨x2, f2⟩, ⟨x3, f3⟩, ⟨x4, f4⟩⟩ := five_cell g0
  clear hcl hin hok hT hW g0 g1 hb0
  go_enter Tryz.func111, Tryz.ntmps111
  go_upto_region 1 with fail
  try rw [hH]
  rw [unhide HW]
  go_wp2_with (go_at_call 152; refine (unhide HC).mono ?_; rintro e w2 ⟨k2, t2, ka2, kc2, ks2, da2, dc2, ds2, l2, rfl, HN, hb2⟩; have m1 := (hb2.block (H + 1) (by omega)).trans (unhide HG1); obtain ⟨⟨y0, q0⟩, ⟨y1, q1⟩, ⟨y2, q2⟩, ⟨y3, q3⟩, ⟨y4, q4⟩⟩ := five_cell m1; have HM1 := hide m1; clear m1)
  obtain ⟨n1, n2, n3⟩ := unhide HN
  refine bodyPost_ret (results_cell_row rfl _ _ _ _ _ _ _ rfl (five_set (unhide HM1) _ _ _ _ _) Tryz.underlying61 rfl (by kernel_rfl)) rfl ⟨k2, t2, ka2, kc2, ks2, da2, dc2, ds2, l2, rfl, hide ⟨n1, n2.keep (fun g hg => five_other (by have := n3 g hg; omega) _ _ _ _ _), fun g hg => by have := n3 g hg; omega⟩, ?_⟩
  rw [hH]
  exact below_five ((unhide HB0).trans (hb2.mono (by omega))) (by omega) _ _ _ _ _
end Go.Proofs.YtefokfbgpfcbkaaGreat
