/- Lemmas of this claim (a part of its texts, kept as far as the claim reaches them). -/
import Derived.Test.YtefokfbgpfcbkaaGreatGPZ
import Derived.Test.YtefokfbgpfcbkaaGreatGAZ
import Derived.Test.YtefokfbgpfcbkaaGreatShelfZ
import Derived.Test.YtefokfbgpfcbkaaGreatRows
import Derived.Sort.CutIn
import Derived.Sort.LoopGhostIn
import Derived.Maps.OwnIn
import Derived.Deep.CutRange
import Derived.Deep.CutBlock
import Derived.Deep.RegionWith
import Derived.Shelf.RegionOpenPlain
import Derived.Test.YtefokfbgpfcbkaaGreatGW17Z
import Derived.Test.YtefokfbgpfcbkaaGreatChecked
import Derived.Deep.Slices
import Derived.Deep.Strs
import Derived.Deep.Fields23
import Derived.Carry
import Derived.RangeFuncRecord
namespace Go.Proofs.YtefokfbgpfcbkaaGreat
set_option linter.unusedVariables false
set_option linter.unusedSimpArgs false
open Go.RowKit
inductive Nd where
  | mk (kind : Nat) (text : List UInt8) (ka : Option Addr) (kc : Nat) (keys : List (List UInt8)) (da : Option Addr) (dc : Nat) (kids : List Nd) (line : Int)
def Nd.kind : Nd → Nat | .mk k _ _ _ _ _ _ _ _ => k
def Nd.text : Nd → List UInt8 | .mk _ t _ _ _ _ _ _ _ => t
def Nd.ka : Nd → Option Addr | .mk _ _ a _ _ _ _ _ _ => a
def Nd.kc : Nd → Nat | .mk _ _ _ c _ _ _ _ _ => c
def Nd.keys : Nd → List (List UInt8) | .mk _ _ _ _ ks _ _ _ _ => ks
def Nd.da : Nd → Option Addr | .mk _ _ _ _ _ a _ _ _ => a
def Nd.dc : Nd → Nat | .mk _ _ _ _ _ _ c _ _ => c
def Nd.kids : Nd → List Nd | .mk _ _ _ _ _ _ _ ds _ => ds
def Nd.line : Nd → Int | .mk _ _ _ _ _ _ _ _ l => l
def Nd.kV (d : Nd) : Value := .slice d.ka d.keys.length d.kc
def Nd.dV (d : Nd) : Value := .slice d.da d.kids.length d.dc
def Nd.cs (d : Nd) : List Value := [.int .u8 d.kind, .string ⟨d.text.toArray⟩, d.kV, d.dV, .int .i64 d.line]
def Nd.val (d : Nd) : Value := .agg #[.int .u8 d.kind, .string ⟨d.text.toArray⟩, d.kV, d.dV, .int .i64 d.line]
mutual
def Nd.bare : Nd → P20.T
  | .mk k t _ _ ks _ _ ds l => .mk k t ks (bareL ds) l
def bareL : List Nd → List P20.T
  | [] => []
  | d :: ds => d.bare :: bareL ds
end
theorem bareL_map : ∀ ds : List Nd, bareL ds = ds.map Nd.bare
  | [] => rfl
  | d :: ds => by simp [bareL, bareL_map ds]
theorem bareL_len (ds : List Nd) : (bareL ds).length = ds.length := by rw [bareL_map, List.length_map]
theorem bareL_append (a b : List Nd) : bareL (a ++ b) = bareL a ++ bareL b := by simp [bareL_map]
def InS (W : World) (a : Option Addr) (ks : List (List UInt8)) : Prop := ∀ i x, ks[i]? = some x → ∃ b o, a = some ⟨b, o, none⟩ ∧ W.cell? ⟨b, o + i, none⟩ = some (.string ⟨x.toArray⟩)
def Cells5 (W : World) (b o : Nat) (d : Nd) : Prop :=
  W.cell? ⟨b, o, none⟩ = some (.int .u8 d.kind) ∧ W.cell? ⟨b, o + 1, none⟩ = some (.string ⟨d.text.toArray⟩) ∧ W.cell? ⟨b, o + 2, none⟩ = some d.kV ∧ W.cell? ⟨b, o + 3, none⟩ = some d.dV ∧ W.cell? ⟨b, o + 4, none⟩ = some (.int .i64 d.line)
structure Fit (W : World) (d : Nd) : Prop where
  kind : d.kind < 256
  text : d.text.length ≤ maxLen
  keysL : d.keys.length ≤ maxLen
  kidsL : d.kids.length ≤ maxLen
  keysC : d.keys.length ≤ d.kc
  kidsC : d.kids.length ≤ d.dc
  keyL : ∀ x ∈ d.keys, x.length ≤ maxLen
  keys : InS W d.ka d.keys
mutual
def Nd.In (W : World) : Nd → Prop
  | .mk k t ka kc ks da dc ds l => Fit W (.mk k t ka kc ks da dc ds l) ∧ InL W da 0 ds
def InL (W : World) (a : Option Addr) : Nat → List Nd → Prop
  | _, [] => True
  | i, d :: ds => (∃ b o, a = some ⟨b, o, none⟩ ∧ Cells5 W b (o + i * 5) d) ∧ d.In W ∧ InL W a (i + 1) ds
end
theorem inL_get {W : World} {a : Option Addr} : ∀ {ds : List Nd} {i : Nat}, InL W a i ds → ∀ j d, ds[j]? = some d → (∃ b o, a = some ⟨b, o, none⟩ ∧ Cells5 W b (o + (i + j) * 5) d) ∧ d.In W
  | [], i, h, j, d, hj => by simp at hj
  | e :: ds, i, h, 0, d, hj => by
    simp only [List.getElem?_cons_zero, Option.some.injEq] at hj
    subst hj
    simp only [InL] at h
    exact ⟨by simpa using h.1, h.2.1⟩
  | e :: ds, i, h, j + 1, d, hj => by
    simp only [List.getElem?_cons_succ] at hj
    simp only [InL] at h
    have := inL_get h.2.2 j d hj
    rw [show i + 1 + j = i + (j + 1) from by omega] at this
    exact this
theorem inL_mk {W : World} {a : Option Addr} : ∀ {ds : List Nd} {i : Nat}, (∀ j d, ds[j]? = some d → (∃ b o, a = some ⟨b, o, none⟩ ∧ Cells5 W b (o + (i + j) * 5) d) ∧ d.In W) → InL W a i ds
  | [], i, h => trivial
  | e :: ds, i, h => by
    have h0 := h 0 e rfl
    simp only [InL]
    refine ⟨h0.1, h0.2, inL_mk (fun j d hj => ?_)⟩
    have := h (j + 1) d (by simpa using hj)
    rw [show i + (j + 1) = i + 1 + j from by omega] at this
    exact this
theorem Nd.In.fit {W : World} {d : Nd} (h : d.In W) : Fit W d := by
  cases d
  simp only [Nd.In] at h
  exact h.1
theorem Nd.In.kids {W : World} {d : Nd} (h : d.In W) : InL W d.da 0 d.kids := by
  cases d
  simp only [Nd.In] at h
  exact h.2
theorem Nd.In.mk {W : World} {d : Nd} (h : Fit W d) (hk : InL W d.da 0 d.kids) : d.In W := by
  cases d
  simp only [Nd.In]
  exact ⟨h, hk⟩
def blockOf (a : Option Addr) (r : Nat) : Prop := ∃ o, a = some ⟨r, o, none⟩
mutual
def Nd.blk (r : Nat) : Nd → Prop
  | .mk _ _ ka _ ks da _ ds _ => (ks ≠ [] ∧ blockOf ka r) ∨ (ds ≠ [] ∧ blockOf da r) ∨ blkL r ds
def blkL (r : Nat) : List Nd → Prop
  | [] => False
  | d :: ds => d.blk r ∨ blkL r ds
end
theorem blkL_iff (r : Nat) : ∀ ds : List Nd, blkL r ds ↔ ∃ d ∈ ds, d.blk r
  | [] => by simp [blkL]
  | d :: ds => by simp [blkL, blkL_iff r ds]
theorem blk_eq (r : Nat) (d : Nd) : d.blk r ↔ ((d.keys ≠ [] ∧ blockOf d.ka r) ∨ (d.kids ≠ [] ∧ blockOf d.da r) ∨ blkL r d.kids) := by cases d; simp [Nd.blk, Nd.keys, Nd.ka, Nd.kids, Nd.da]
theorem cellLt {W : World} {b o : Nat} {v : Value} (h : W.cell? ⟨b, o, none⟩ = some v) : b < W.heap.size := by
  rcases Nat.lt_or_ge b W.heap.size with h1 | h1
  · exact h1
  · have h9 : W.heap[b]? = none := Array.getElem?_eq_none h1
    simp [World.cell?, h9] at h
mutual
theorem Nd.In.lt {W : World} {r : Nat} : ∀ {d : Nd}, d.In W → d.blk r → r < W.heap.size
  | .mk k t ka kc ks da dc ds l, h, hr => by
    simp only [Nd.blk] at hr
    simp only [Nd.In] at h
    rcases hr with ⟨hn, o, rfl⟩ | ⟨hn, o, rfl⟩ | hr
    · cases ks with
      | nil => exact absurd rfl hn
      | cons x ks =>
        obtain ⟨b, o', e, hc⟩ := h.1.keys 0 x rfl
        injection e with e
        injection e with e
        subst e
        exact cellLt hc
    · cases ds with
      | nil => exact absurd rfl hn
      | cons x ds =>
        simp only [InL] at h
        obtain ⟨⟨b, o', e, hc⟩, _⟩ := h.2
        injection e with e
        injection e with e
        subst e
        exact cellLt hc.1
    · exact InL.lt h.2 hr
theorem InL.lt {W : World} {r : Nat} {a : Option Addr} : ∀ {ds : List Nd} {i : Nat}, InL W a i ds → blkL r ds → r < W.heap.size
  | [], i, h, hr => by simp [blkL] at hr
  | d :: ds, i, h, hr => by
    simp only [InL] at h
    simp only [blkL] at hr
    rcases hr with hr | hr
    · exact Nd.In.lt h.2.1 hr
    · exact InL.lt h.2.2 hr
end
theorem cell_of_block {W W' : World} {b : Nat} (h : W'.heap[b]? = W.heap[b]?) (o : Nat) : W'.cell? ⟨b, o, none⟩ = W.cell? ⟨b, o, none⟩ := World.cell?_of_block h
theorem Cells5.keep {W W' : World} {b o : Nat} {d : Nd} (h : Cells5 W b o d) (hb : W'.heap[b]? = W.heap[b]?) : Cells5 W' b o d := by
  obtain ⟨h0, h1, h2, h3, h4⟩ := h
  exact ⟨(cell_of_block hb _).trans h0, (cell_of_block hb _).trans h1, (cell_of_block hb _).trans h2, (cell_of_block hb _).trans h3, (cell_of_block hb _).trans h4⟩
theorem InS.keep {W W' : World} {a : Option Addr} {ks : List (List UInt8)} (h : InS W a ks) (hb : ∀ r, ks ≠ [] → blockOf a r → W'.heap[r]? = W.heap[r]?) : InS W' a ks := by
  intro i x hx
  obtain ⟨b, o, rfl, hc⟩ := h i x hx
  refine ⟨b, o, rfl, (cell_of_block (hb b ?_ ⟨o, rfl⟩) _).trans hc⟩
  rintro rfl
  simp at hx
theorem Fit.keep {W W' : World} {d : Nd} (h : Fit W d) (hb : ∀ r, d.keys ≠ [] → blockOf d.ka r → W'.heap[r]? = W.heap[r]?) : Fit W' d :=
  ⟨h.kind, h.text, h.keysL, h.kidsL, h.keysC, h.kidsC, h.keyL, h.keys.keep hb⟩
mutual
theorem Nd.In.keep {W W' : World} : ∀ {d : Nd}, d.In W → (∀ r, d.blk r → W'.heap[r]? = W.heap[r]?) → d.In W'
  | .mk k t ka kc ks da dc ds l, h, hb => by
    simp only [Nd.In] at h ⊢
    simp only [Nd.blk] at hb
    refine ⟨h.1.keep (fun r hn hr => hb r (.inl ⟨hn, hr⟩)), InL.keep h.2 (fun r hr => hb r (.inr (.inr hr))) (fun r hn hr => hb r (.inr (.inl ⟨hn, hr⟩)))⟩
theorem InL.keep {W W' : World} {a : Option Addr} : ∀ {ds : List Nd} {i : Nat}, InL W a i ds → (∀ r, blkL r ds → W'.heap[r]? = W.heap[r]?) → (∀ r, ds ≠ [] → blockOf a r → W'.heap[r]? = W.heap[r]?) → InL W' a i ds
  | [], i, h, hb, ha => trivial
  | d :: ds, i, h, hb, ha => by
    simp only [InL] at h ⊢
    simp only [blkL] at hb
    obtain ⟨⟨b, o, rfl, hc⟩, h2, h3⟩ := h
    exact ⟨⟨b, o, rfl, hc.keep (ha b (by simp) ⟨o, rfl⟩)⟩, Nd.In.keep h2 (fun r hr => hb r (.inl hr)), InL.keep h3 (fun r hr => hb r (.inr hr)) (fun r _ hr => ha r (by simp) hr)⟩
end
theorem Nd.In.below {W W' : World} {d : Nd} (h : d.In W) (hb : Below W.heap.size W W') : d.In W' := h.keep (fun r hr => hb.block r (h.lt hr))
theorem Nd.In.grown {W W' : World} {d : Nd} {row : Option Nat} (h : d.In W) (hg : W.grownBy W' row) (hn : ∀ r, row = some r → ¬ d.blk r) : d.In W' := h.keep (fun r hr => hg.block r (h.lt hr) (fun e => hn r e.symm hr))
theorem Nd.In.alloc {W : World} {d : Nd} (h : d.In W) (o : Obj) : d.In (W.alloc o) := h.below ((Below.refl _ W).alloc (Nat.le_refl _) o)
theorem Nd.val_eq (k : Nat) (t : List UInt8) (ka : Option Addr) (kc : Nat) (ks : List (List UInt8)) (da : Option Addr) (dc : Nat) (ds : List Nd) (l : Int) : (Nd.mk k t ka kc ks da dc ds l).val = .agg #[.int .u8 k, .string ⟨t.toArray⟩, .slice ka ks.length kc, .slice da ds.length dc, .int .i64 l] := rfl
def Nd.zero : Nd := .mk 0 [] none 0 [] none 0 [] 0
theorem Nd.zero_in (W : World) : Nd.zero.In W := by
  refine .mk ⟨by decide, by simp [Nd.zero, Nd.text], by simp [Nd.zero, Nd.keys], by simp [Nd.zero, Nd.kids], by simp [Nd.zero, Nd.keys, Nd.kc], by simp [Nd.zero, Nd.kids, Nd.dc], by simp [Nd.zero, Nd.keys], ?_⟩ trivial
  intro i x hx
  simp [Nd.zero, Nd.keys] at hx
theorem five_set {W : World} {g : Nat} {t : TypeId} {a b c d e : Value} (h : W.heap[g]? = some (.cells #[a, b, c, d, e] t)) (v0 v1 v2 v3 v4 : Value) :
    (((((W.setCell ⟨g, 0, none⟩ v0).setCell ⟨g, 1, none⟩ v1).setCell ⟨g, 2, none⟩ v2).setCell ⟨g, 3, none⟩ v3).setCell ⟨g, 4, none⟩ v4).heap[g]? = some (.cells #[v0, v1, v2, v3, v4] t) := by
  simp [World.setCell, Array.getElem?_modify, h]
theorem five_cell {W : World} {g : Nat} {t : TypeId} {a b c d e : Value} (h : W.heap[g]? = some (.cells #[a, b, c, d, e] t)) :
    (W.cell? ⟨g, 0, none⟩ = some a ∧ W.frozen? ⟨g, 0, none⟩ = false) ∧ (W.cell? ⟨g, 1, none⟩ = some b ∧ W.frozen? ⟨g, 1, none⟩ = false) ∧ (W.cell? ⟨g, 2, none⟩ = some c ∧ W.frozen? ⟨g, 2, none⟩ = false) ∧ (W.cell? ⟨g, 3, none⟩ = some d ∧ W.frozen? ⟨g, 3, none⟩ = false) ∧ (W.cell? ⟨g, 4, none⟩ = some e ∧ W.frozen? ⟨g, 4, none⟩ = false) := by
  simp [World.cell?, World.frozen?, h]
theorem five_other {W : World} {g g' : Nat} (h : g' ≠ g) (v0 v1 v2 v3 v4 : Value) : (((((W.setCell ⟨g, 0, none⟩ v0).setCell ⟨g, 1, none⟩ v1).setCell ⟨g, 2, none⟩ v2).setCell ⟨g, 3, none⟩ v3).setCell ⟨g, 4, none⟩ v4).heap[g']? = W.heap[g']? := by
  rw [Below.heap_setCell _ _ _ _ h, Below.heap_setCell _ _ _ _ h, Below.heap_setCell _ _ _ _ h, Below.heap_setCell _ _ _ _ h, Below.heap_setCell _ _ _ _ h]
theorem Nd.ind {p : Nd → Prop} (h : ∀ k t ka kc ks da dc ds l, (∀ d ∈ ds, p d) → p (.mk k t ka kc ks da dc ds l)) : ∀ d, p d := by
  have hm : ∀ n : Nat, ∀ d : Nd, SizeOf.sizeOf d ≤ n → p d := by
    intro n
    induction n with
    | zero => intro d hd; cases d; simp at hd
    | succ n ih =>
      intro d hd
      obtain ⟨k, t, ka, kc, ks, da, dc, ds, l⟩ := d
      refine h _ _ _ _ _ _ _ _ _ (fun e he => ih e ?_)
      have := List.sizeOf_lt_of_mem he
      simp only [Nd.mk.sizeOf_spec] at hd
      omega
  exact fun d => hm _ d (Nat.le_refl _)
theorem kid_cells {W : World} {a : Option Addr} {ds : List Nd} (h : InL W a 0 ds) {j : Nat} {d : Nd} (hj : ds[j]? = some d) : ∃ b o, a = some ⟨b, o, none⟩ ∧ Cells5 W b (o + j * 5) d ∧ d.In W := by
  obtain ⟨⟨b, o, e, hc⟩, hi⟩ := inL_get h j d hj
  rw [Nat.zero_add] at hc
  exact ⟨b, o, e, hc, hi⟩
theorem InL.below {W W' : World} {a : Option Addr} {ds : List Nd} (h : InL W a 0 ds) (hb : Below W.heap.size W W') : InL W' a 0 ds := by
  refine inL_mk (fun j d hj => ?_)
  obtain ⟨⟨b, o, e, hc⟩, hi⟩ := inL_get h j d hj
  exact ⟨⟨b, o, e, hc.keep (hb.block b (cellLt hc.1))⟩, hi.below hb⟩
theorem InS.below {W W' : World} {a : Option Addr} {ks : List (List UInt8)} (h : InS W a ks) (hb : Below W.heap.size W W') : InS W' a ks := by
  intro i x hx
  obtain ⟨b, o, e, hc⟩ := h i x hx
  exact ⟨b, o, e, (cell_of_block (hb.block b (cellLt hc)) _).trans hc⟩
theorem bareL_drop {ds : List Nd} {i : Nat} {d : Nd} (h : ds[i]? = some d) : bareL (ds.drop i) = d.bare :: bareL (ds.drop (i + 1)) := by
  obtain ⟨hl, rfl⟩ := List.getElem?_eq_some_iff.1 h
  rw [List.drop_eq_getElem_cons hl]
  rfl
theorem kid_open {W : World} {a : Option Addr} {ds : List Nd} (h : InL W a 0 ds) {j : Nat} {d : Nd} (hj : ds[j]? = some d) : ∃ b o k t ka kc ks da dc es l, a = some ⟨b, o, none⟩ ∧ d = .mk k t ka kc ks da dc es l ∧
    W.cell? ⟨b, o + j * 5, none⟩ = some (.int .u8 k) ∧ W.cell? ⟨b, o + j * 5 + 1, none⟩ = some (.string ⟨t.toArray⟩) ∧ W.cell? ⟨b, o + j * 5 + 2, none⟩ = some (.slice ka ks.length kc) ∧ W.cell? ⟨b, o + j * 5 + 3, none⟩ = some (.slice da es.length dc) ∧ W.cell? ⟨b, o + j * 5 + 4, none⟩ = some (.int .i64 l) ∧
    (Nd.mk k t ka kc ks da dc es l).In W := by
  obtain ⟨b, o, e, ⟨c0, c1, c2, c3, c4⟩, hi⟩ := kid_cells h hj
  obtain ⟨k, t, ka, kc, ks, da, dc, es, l⟩ := d
  exact ⟨b, o, k, t, ka, kc, ks, da, dc, es, l, e, rfl, c0, c1, c2, c3, c4, hi⟩
theorem nth_of {α : Type} {ds : List α} {i n : Nat} (hn : ds.length = n) (hi : i < n) : ∃ d, ds[i]? = some d := ⟨_, List.getElem?_eq_getElem (by omega)⟩
end Go.Proofs.YtefokfbgpfcbkaaGreat
namespace Go.Proofs.YtefokfbgpfcbkaaGreat
set_option linter.unusedVariables false
set_option linter.unusedSimpArgs false
open Go.RowKit
theorem below_five {w wx : World} {B b : Nat} (hb : Below B w wx) (h : B ≤ b) (v0 v1 v2 v3 v4 : Value) : Below B w (((((wx.setCell ⟨b, 0, none⟩ v0).setCell ⟨b, 1, none⟩ v1).setCell ⟨b, 2, none⟩ v2).setCell ⟨b, 3, none⟩ v3).setCell ⟨b, 4, none⟩ v4) :=
  ((((hb.setCell (p := ⟨b, 0, none⟩) h v0).setCell (p := ⟨b, 1, none⟩) h v1).setCell (p := ⟨b, 2, none⟩) h v2).setCell (p := ⟨b, 3, none⟩) h v3).setCell (p := ⟨b, 4, none⟩) h v4
end Go.Proofs.YtefokfbgpfcbkaaGreat
namespace Go.Proofs.YtefokfbgpfcbkaaGreat
set_option linter.unusedVariables false
set_option linter.unusedSimpArgs false
open Go.RowKit
def bz (x : List UInt8) : ByteArray := ⟨x.toArray⟩
theorem bz_inj {x y : List UInt8} (h : bz x = bz y) : x = y := by
  have := congrArg (fun b : ByteArray => b.data.toList) h
  simpa [bz] using this
theorem bz_mem (ks : List (List UInt8)) (x : List UInt8) : bz x ∈ ks.map bz ↔ x ∈ ks := by
  simp only [List.mem_map]
  constructor
  · rintro ⟨y, hy, e⟩
    rw [← bz_inj e]; exact hy
  · intro h; exact ⟨x, h, rfl⟩
theorem bz_map {ks ks' : List (List UInt8)} : ks.map bz = ks'.map bz ↔ ks = ks' := by
  constructor
  · intro h
    exact (List.map_inj_right (fun _ _ e => bz_inj e)).1 h
  · intro h; rw [h]
theorem ins_some {W : World} {a : Option Addr} {ks : List (List UInt8)} (h : InS W a ks) (hn : ks ≠ []) : ∃ b o, a = some ⟨b, o, none⟩ ∧ ∀ j, j < (ks.map bz).length → W.cell? ⟨b, o + j, none⟩ = some (.string ((ks.map bz).getD j ByteArray.empty)) := by
  cases ks with
  | nil => exact absurd rfl hn
  | cons x ks =>
    obtain ⟨b, o, rfl, _⟩ := h 0 x rfl
    refine ⟨b, o, rfl, fun j hj => ?_⟩
    rw [List.length_map] at hj
    obtain ⟨b2, o2, e, hc⟩ := h j _ (List.getElem?_eq_getElem hj)
    injection e with e
    injection e with e1 e2
    subst e1
    subst e2
    rw [hc, List.getD_eq_getElem?_getD, List.getElem?_map, List.getElem?_eq_getElem hj]
    rfl
theorem contains_any (a : Option Addr) (c : Nat) (ks : List (List UInt8)) (x : List UInt8) (w : World) (h : InS w a ks) (hl : ks.length ≤ maxLen) :
    Calls Tryz.prog 226 #[.slice a ks.length c, .string ⟨x.toArray⟩] w fun e w' => e = .returned (.bool (decide (x ∈ ks))) ∧ w = w' := by
  unfold maxLen at hl
  by_cases hn : ks = []
  · subst hn
    refine (Tryz.slices_Contains_string_empty a c (bz x) w).mono ?_
    rintro e w' ⟨rfl, rfl⟩
    exact ⟨rfl, rfl⟩
  · obtain ⟨b, o, rfl, hc⟩ := ins_some h hn
    refine (Tryz.slices_Contains_string b o ks.length c (ks.map bz) (bz x) w (by simp) (by omega) hc).mono ?_
    rintro e w' ⟨rfl, rfl⟩
    refine ⟨ret_bool ?_, rfl⟩
    rw [Bool.eq_iff_iff, Lib.containsS_iff, List.take_of_length_le (by simp), bz_mem, decide_eq_true_eq]
theorem equal_any (a a' : Option Addr) (c c' : Nat) (ks ks' : List (List UInt8)) (w : World) (h : InS w a ks) (h' : InS w a' ks') (hl : ks.length ≤ maxLen) (hl' : ks'.length ≤ maxLen) :
    Calls Tryz.prog 222 #[.slice a ks.length c, .slice a' ks'.length c'] w fun e w' => e = .returned (.bool (decide (ks = ks'))) ∧ ∃ q, w' = w.drewN q := by
  unfold maxLen at hl hl'
  by_cases hn : ks = []
  · subst hn
    refine (Tryz.slices_Equal_string_empty a a' c ks'.length c' w (by omega)).mono ?_
    rintro e w' ⟨rfl, rfl⟩
    refine ⟨ret_bool ?_, 0, rfl⟩
    rw [Bool.eq_iff_iff, decide_eq_true_eq, decide_eq_true_eq]
    exact ⟨fun e => (List.eq_nil_of_length_eq_zero e).symm, fun e => by rw [← e]; rfl⟩
  · by_cases hn' : ks' = []
    · subst hn'
      have hp := List.length_pos_iff.2 hn
      refine (Tryz.slices_Equal_string_lens a a' ks.length c 0 c' w (by omega)).mono ?_
      rintro e w' ⟨rfl, rfl⟩
      exact ⟨ret_bool (decide_eq_false hn).symm, 0, rfl⟩
    · obtain ⟨b, o, rfl, hc⟩ := ins_some h hn
      obtain ⟨b', o', rfl, hc'⟩ := ins_some h' hn'
      refine (Tryz.slices_Equal_string b o ks.length c b' o' ks'.length c' (ks.map bz) (ks'.map bz) w (by simp) (by simp) (by omega) (by omega) hc hc').mono ?_
      rintro e w' ⟨rfl, hq⟩
      refine ⟨ret_bool ?_, hq⟩
      rw [List.take_of_length_le (by simp), List.take_of_length_le (by simp), Bool.eq_iff_iff, decide_eq_true_eq, decide_eq_true_eq, bz_map]
end Go.Proofs.YtefokfbgpfcbkaaGreat
namespace Go.Proofs.YtefokfbgpfcbkaaGreat
set_option linter.unusedVariables false
set_option linter.unusedSimpArgs false
open Go.RowKit
attribute [local go_sem] Oper.semAt_some
theorem RoundIn.anyD {F : Fence} (hd : F.depth = none) {m m' : Nat} {P : Program} {l : Nat} {f : FuncId} {tmps : Array Value} {assign body : Code} {w : World} {R : Ending → World → Prop}
    (h : RoundIn F m P l f tmps assign body w R) : RoundIn F m' P l f tmps assign body w R := ⟨h.1, fun c cs _ => h.2 c cs (fun d h => by rw [hd] at h; cases h)⟩
theorem YieldAt.anyD {F : Fence} (hd : F.depth = none) {m : Nat} (m' : Nat) {P : Program} {l : Nat} {args : Array Value} {W : World} {R : Ending → World → Prop} (h : YieldAt F m P l args W R) : YieldAt F m' P l args W R := by
  obtain ⟨fn, tmps, assign, body, hy, hR⟩ := h
  exact ⟨fn, tmps, assign, body, hy, RoundIn.anyD hd hR⟩
theorem run_store_func {P : Program} {w : World} {a : Addr} {m : Mode} {f : Fn} {x y : Array Value} : (store a (.func f x y) m).run P w = stored P w a (.func f x y) m := run_store P w a _ m rfl
attribute [local go_sem] run_store_func
mutual
def Nd.preN (most : Nat) : Nat → Nd → List (Nat × Nd)
  | lv, .mk k t ka kc ks da dc ds l => if most < lv then [] else (lv, .mk k t ka kc ks da dc ds l) :: preNL most (lv + 1) ds
def preNL (most : Nat) : Nat → List Nd → List (Nat × Nd)
  | lv, [] => []
  | lv, d :: ds => d.preN most lv ++ preNL most lv ds
end
def bareP (x : Nat × Nd) : Nat × P20.T := (x.1, x.2.bare)
mutual
theorem Nd.preN_bare (most : Nat) : ∀ (d : Nd) (lv : Nat), (d.preN most lv).map bareP = d.bare.pre most lv
  | .mk k t ka kc ks da dc ds l, lv => by
    unfold Nd.preN Nd.bare P20.T.pre
    split
    · rfl
    · rw [List.map_cons, preNL_bare most ds (lv + 1)]; rfl
theorem preNL_bare (most : Nat) : ∀ (ds : List Nd) (lv : Nat), (preNL most lv ds).map bareP = P20.preL most lv (bareL ds)
  | [], lv => rfl
  | d :: ds, lv => by
    unfold preNL bareL P20.preL
    rw [List.map_append, Nd.preN_bare most d lv, preNL_bare most ds lv]
end
theorem preNL_append (most lv : Nat) : ∀ a b : List Nd, preNL most lv (a ++ b) = preNL most lv a ++ preNL most lv b
  | [], b => rfl
  | d :: a, b => by rw [List.cons_append, preNL, preNL, preNL_append most lv a b, List.append_assoc]
theorem preNL_split (most lv : Nat) {ds : List Nd} {j : Nat} {d : Nd} (h : ds[j]? = some d) : preNL most lv ds = preNL most lv (ds.take j) ++ (d.preN most lv ++ preNL most lv (ds.drop (j + 1))) := by
  obtain ⟨hl, rfl⟩ := List.getElem?_eq_some_iff.1 h
  conv => lhs; rw [← List.take_append_drop j ds, List.drop_eq_getElem_cons hl]
  rw [preNL_append]
  rfl
theorem preNL_take (most lv : Nat) {ds : List Nd} {j : Nat} {d : Nd} (h : ds[j]? = some d) : preNL most lv (ds.take (j + 1)) = preNL most lv (ds.take j) ++ d.preN most lv := by
  obtain ⟨hl, rfl⟩ := List.getElem?_eq_some_iff.1 h
  rw [List.take_succ_eq_append_getElem hl, preNL_append]
  simp [preNL]
def encN (x : Nat × Nd) : Array Value := #[.int .i64 x.1, x.2.val]
theorem one_cell {W : World} {g : Nat} {t : TypeId} {a : Value} (h : W.heap[g]? = some (.cells #[a] t)) : W.cell? ⟨g, 0, none⟩ = some a ∧ W.frozen? ⟨g, 0, none⟩ = false := by
  simp [World.cell?, World.frozen?, h]
def DownC (W0 : World) (l : Nat) (L : List (Nat × Nd)) (most b1 b3 b4 : Nat) (R : Nat → Prop) (J Jx : Nat → (Nat → Prop) → World → Prop) (d : Nd) : Prop :=
  ∀ (n lv i : Nat) (rest : List (Nat × Nd)) (M : Nat → Prop) (V : World), d.In V → (∀ r, d.blk r → R r) → L.drop i = d.preN most lv ++ rest → J i M V → W0.heap.size ≤ V.heap.size →
    V.heap[b1]? = some (.cells #[.int .i64 most] 3) → V.heap[b3]? = some (.cells #[.func (.yield l) #[] #[]] 268) →
    V.heap[b4]? = some (.cells #[.func (.func 225) #[] #[.pointer (some ⟨b1, 0, none⟩), .pointer (some ⟨b3, 0, none⟩), .pointer (some ⟨b4, 0, none⟩)]] 269) → ¬ M b1 → ¬ M b3 → ¬ M b4 →
    CallsIn Fence.wide n Tryz.prog 225 #[d.val, .int .i64 lv, .pointer (some ⟨b1, 0, none⟩), .pointer (some ⟨b3, 0, none⟩), .pointer (some ⟨b4, 0, none⟩)] V fun e W' =>
      ∃ bb, e = .returned (.bool bb) ∧ Hid (∃ M', KeepsM M V M' W' ∧ ((bb = true ∧ J (i + (d.preN most lv).length) M' W') ∨ (bb = false ∧ ∃ i', i' ≤ L.length ∧ Jx i' M' W')))
theorem KeepsM.in {M M' : Nat → Prop} {V W : World} {d : Nd} (h : KeepsM M V M' W) (hd : d.In V) (hn : ∀ r, d.blk r → ¬ M r) : d.In W := hd.keep (fun r hr => h.same r (hn r hr) (hd.lt hr))
set_option maxRecDepth 100000 in
set_option maxHeartbeats 8000000 in
theorem down_node (W0 : World) (l : Nat) (L : List (Nat × Nd)) (most b1 b3 b4 : Nat) (R : Nat → Prop) (J Jx : Nat → (Nat → Prop) → World → Prop) (hm : most ≤ 1000) (hJ : AbidesM R J) (hJx : AbidesM R Jx)
    (hM : ∀ i M V, J i M V → ∀ r, M r → r < V.heap.size ∧ ¬ R r) (hR : ∀ r, R r → r < W0.heap.size)
    (hY : ∀ m i x M V, L[i]? = some x → J i M V → W0.heap.size ≤ V.heap.size → YieldAt Fence.wide m Tryz.prog l (encN x) V fun e W' =>
      ∃ M', KeepsM M V M' W' ∧ ((e = .returned (.bool true) ∧ J (i + 1) M' W') ∨ (e = .returned (.bool false) ∧ Jx (i + 1) M' W')))
    (k : Nat) (t : List UInt8) (ka : Option Addr) (kc : Nat) (ks : List (List UInt8)) (da : Option Addr) (dc : Nat) (ds : List Nd) (ln : Int) (hds : ∀ d ∈ ds, DownC W0 l L most b1 b3 b4 R J Jx d) :
    DownC W0 l L most b1 b3 b4 R J Jx (.mk k t ka kc ks da dc ds ln) := by
  intro n lv i rest M V hin hblk hL hJ0 hWV h1 h3 h4 n1 n3 n4
  rw [Nd.val_eq]
  have l1 := (Array.getElem?_eq_some_iff.1 h1).1
  have l3 := (Array.getElem?_eq_some_iff.1 h3).1
  have l4 := (Array.getElem?_eq_some_iff.1 h4).1
  have hMlt := fun r hr => (hM i M V hJ0 r hr).1
  have hMR := fun r hr => (hM i M V hJ0 r hr).2
  have hnM : ∀ r, (Nd.mk k t ka kc ks da dc ds ln).blk r → ¬ M r := fun r hr h => hMR r h (hblk r hr)
  obtain ⟨V1, hV1⟩ : ∃ V1, V.alloc (.cells #[.int .u8 k, .string ⟨t.toArray⟩, .slice ka ks.length kc, .slice da ds.length dc, .int .i64 ln] 61) = V1 := ⟨_, rfl⟩
  have hg1 : V.grownBy V1 none := by rw [← hV1]; exact World.grownBy_alloc _ _ _
  have hs1 : V1.heap.size = V.heap.size + 1 := by rw [← hV1]; simp
  have hk1 : KeepsM M V M V1 := .grown hg1 (fun r e => by cases e)
  have g0 : V1.heap[V.heap.size]? = some (.cells #[.int .u8 k, .string ⟨t.toArray⟩, .slice ka ks.length kc, .slice da ds.length dc, .int .i64 ln] 61) := by rw [← hV1]; exact World.alloc_heap_new V _
  have hJ1 : J i M V1 := hJ i M V V1 none hJ0 hg1 (fun r e => by cases e)
  have k1 := (hk1.same b1 n1 l1).trans h1
  have k3 := (hk1.same b3 n3 l3).trans h3
  have hnH : ¬ M V.heap.size := fun h => by have := hMlt _ h; omega
  obtain ⟨x1, _⟩ := one_cell k1
  obtain ⟨x3, _⟩ := one_cell k3
  have HV1 := hide hV1
  have HJ := hide hJ
  have HIN := hide hin
  have HBLK := hide hblk
  have HDS := hide hds
  have HM := hide hM
  have HNM := hide hnM
  have HK1 := hide hk1
  have HJ1 := hide hJ1
  have H1 := hide h1
  have H3 := hide h3
  have H4 := hide h4
  have hkl := hin.fit.kidsL
  simp only [Nd.kids] at hkl
  unfold maxLen at hkl
  clear hV1 hJ hJx hin hblk hds hM hnM h1 h3 h4 hMlt hMR hg1 hR
  rcases Nat.lt_or_ge most lv with hlv | hlv
  · have jl : (most : Int) < (lv : Int) := by omega
    have he : (Nd.mk k t ka kc ks da dc ds ln).preN most lv = [] := by unfold Nd.preN; rw [if_pos hlv]
    rw [he]
    clear hL hY he hlv
    refine callsIn_of_wp Tryz.func225 rfl trivial ?_ rfl
    simp only [Tryz.ntmps225, List.size_toArray, List.length_cons, List.length_nil, Nat.reduceAdd, Nat.reduceSub, Array.replicate_succ, Array.replicate_zero, List.push_toArray, List.append_toArray, List.nil_append, List.cons_append]
    gi_upto_region 1 with fail
    rw [unhide HV1]
    gi_wp2
    go_ret
    exact ⟨true, rfl, hide ⟨M, unhide HK1, .inl ⟨rfl, unhide HJ1⟩⟩⟩
  have jl : (lv : Int) ≤ (most : Int) := by omega
  have hpre : (Nd.mk k t ka kc ks da dc ds ln).preN most lv = (lv, .mk k t ka kc ks da dc ds ln) :: preNL most (lv + 1) ds := by unfold Nd.preN; rw [if_neg (by omega)]
  rw [hpre] at hL ⊢
  have hLi : L[i]? = some (lv, .mk k t ka kc ks da dc ds ln) := by
    have := congrArg (fun z => z[0]?) hL
    simpa using this
  have hLd : L.drop (i + 1) = preNL most (lv + 1) ds ++ rest := by
    have := congrArg (fun z => z.drop 1) hL
    simpa [List.drop_drop] using this
  have hil := (List.getElem?_eq_some_iff.1 hLi).1
  have hYa := (hY (n - 1) i _ M V1 hLi (unhide HJ1) (by omega)).mono
    (R' := fun e W' => ∃ bb, e = .returned (.bool bb) ∧ Hid (∃ M', KeepsM M V1 M' W' ∧ ((bb = true ∧ J (i + 1) M' W') ∨ (bb = false ∧ Jx (i + 1) M' W')))) (by
      rintro e W' ⟨M', hk, (⟨rfl, h⟩ | ⟨rfl, h⟩)⟩
      · exact ⟨true, rfl, hide ⟨M', hk, .inl ⟨rfl, h⟩⟩⟩
      · exact ⟨false, rfl, hide ⟨M', hk, .inr ⟨rfl, h⟩⟩⟩)
  have HLD := hide hLd
  have HIL := hide hil
  clear hY hL hpre hLi hLd hil
  obtain ⟨fn, tmps, assign, body, hy, hRd⟩ := hYa
  replace hy : (Instr.yield l #[.int .i64 lv, .agg #[.int .u8 k, .string ⟨t.toArray⟩, .slice ka ks.length kc, .slice da ds.length dc, .int .i64 ln]]).run Tryz.prog V1 = .ok (.round l fn tmps assign body) V1 := hy
  obtain ⟨⟨y0, _⟩, ⟨y1, _⟩, ⟨y2, _⟩, ⟨y3, _⟩, ⟨y4, _⟩⟩ := five_cell g0
  have G0 := hide g0
  clear g0 k1 k3
  refine callsIn_of_wp Tryz.func225 rfl trivial ?_ rfl
  simp only [Tryz.ntmps225, List.size_toArray, List.length_cons, List.length_nil, Nat.reduceAdd, Nat.reduceSub, Array.replicate_succ, Array.replicate_zero, List.push_toArray, List.append_toArray, List.nil_append, List.cons_append]
  gi_upto_region 1 with fail
  rw [unhide HV1]
  gi_wp2
  refine ⟨fun h => (by cases h), hRd.mono ?_⟩
  rintro e W3 ⟨bb, rfl, HB⟩
  clear hy hRd x1 x3 y0 y1 y2 y3 y4
  cases bb
  · gi_wp2
    go_ret
    obtain ⟨M', hk, (⟨h, _⟩ | ⟨_, h⟩)⟩ := unhide HB
    · cases h
    · exact ⟨false, rfl, hide ⟨M', (unhide HK1).trans hk, .inr ⟨rfl, i + 1, unhide HIL, h⟩⟩⟩
  obtain ⟨M3, hk3, hJ3⟩ : ∃ M', KeepsM M V M' W3 ∧ J (i + 1) M' W3 := by
    obtain ⟨M', hk, (⟨_, h⟩ | ⟨h, _⟩)⟩ := unhide HB
    · exact ⟨M', (unhide HK1).trans hk, h⟩
    · cases h
  have q0 : W3.heap[V.heap.size]? = some (.cells #[.int .u8 k, .string ⟨t.toArray⟩, .slice ka ks.length kc, .slice da ds.length dc, .int .i64 ln] 61) := by
    obtain ⟨M', hk, _⟩ := unhide HB
    exact (hk.same _ hnH (by omega)).trans (unhide G0)
  obtain ⟨⟨y0, _⟩, ⟨y1, _⟩, ⟨y2, _⟩, ⟨y3, _⟩, ⟨y4, _⟩⟩ := five_cell q0
  have HK3 := hide hk3
  have HJ3 := hide hJ3
  clear hk3 hJ3 q0 HB G0
  have hik := (unhide HIN).kids
  simp only [Nd.da, Nd.kids] at hik
  have HCP := hide hik
  clear hik
  have hli : (lv : Int) + 1 < 9223372036854775807 := by omega
  have hlw : IntKind.i64.wrap ((lv : Int) + 1) = (lv : Int) + 1 := IntWalk.i64_in _ (by omega)
  obtain ⟨nd, hnd⟩ : ∃ nd, ds.length = nd := ⟨_, rfl⟩
  rw [hnd] at y3 hkl
  have HND := hide hnd
  clear hnd
  gi_wp2
  gi_loopg [21] nd (fun g s21 wx => ∃ (j : Nat) (M2 : Nat → Prop), j + g = nd ∧ s21 = .int .i64 j ∧ Hid (KeepsM M V M2 wx) ∧ Hid (J (i + 1 + (preNL most (lv + 1) (ds.take j)).length) M2 wx))
  case atStart => exact ⟨0, M3, by omega, by go_num, HK3, hide (by simpa [preNL] using unhide HJ3)⟩
  case round =>
    obtain ⟨j, M2, hjg, rfl, HKR, HJR⟩ := hrel
    cases gk with
    | zero =>
      have e1 : (nd : Int) = (j : Int) := by omega
      have HE := hide (show j = nd by omega)
      gi_wp2
      go_ret
      refine ⟨true, rfl, hide ⟨M2, unhide HKR, .inl ⟨rfl, ?_⟩⟩⟩
      have h1 := unhide HJR
      rw [unhide HE, ← unhide HND, List.take_length] at h1
      show J (i + ((preNL most (lv + 1) ds).length + 1)) M2 wr
      rw [show i + ((preNL most (lv + 1) ds).length + 1) = i + 1 + (preNL most (lv + 1) ds).length from by omega]
      exact h1
    | succ g' =>
      have hlt : (j : Int) < (nd : Int) := by omega
      have hki : IntKind.i64.wrap ((j : Int) + 1) = (j : Int) + 1 := IntWalk.i64_in _ (by omega)
      have hjl : j < ds.length := by rw [unhide HND]; omega
      obtain ⟨d, hgj⟩ := nth_of (unhide HND) (show j < nd by omega)
      obtain ⟨b, o, k', t', ka', kc', ks', da', dc', ds', l', rfl, rfl, c0, c1, c2, c3, c4, hdin⟩ := kid_open (unhide HCP) hgj
      have hbk : ∀ r, (Nd.mk k' t' ka' kc' ks' da' dc' ds' l').blk r → (Nd.mk k t ka kc ks (some ⟨b, o, none⟩) dc ds ln).blk r := fun r hr => by
        rw [blk_eq]
        exact .inr (.inr ((blkL_iff r _).2 ⟨_, List.mem_of_getElem? hgj, hr⟩))
      have hbb : (Nd.mk k t ka kc ks (some ⟨b, o, none⟩) dc ds ln).blk b := by
        rw [blk_eq]
        exact .inr (.inl ⟨by rintro e; simp only [Nd.kids] at e; subst e; simp at hgj, o, rfl⟩)
      have hkr := unhide HKR
      have hsb := hkr.same b (unhide HNM b hbb) (cellLt c0)
      replace c0 := (cell_of_block hsb _).trans c0
      replace c1 := (cell_of_block hsb _).trans c1
      replace c2 := (cell_of_block hsb _).trans c2
      replace c3 := (cell_of_block hsb _).trans c3
      replace c4 := (cell_of_block hsb _).trans c4
      have hdr := hkr.in hdin (fun r hr => unhide HNM r (hbk r hr))
      obtain ⟨V5, hV5⟩ : ∃ V5, wr.alloc (.cells #[.int .u8 k', .string ⟨t'.toArray⟩, .slice ka' ks'.length kc', .slice da' ds'.length dc', .int .i64 l'] 61) = V5 := ⟨_, rfl⟩
      have hg5 : wr.grownBy V5 none := by rw [← hV5]; exact World.grownBy_alloc _ _ _
      have hk5 : KeepsM M V M2 V5 := hkr.trans (.grown hg5 (fun r e => by cases e))
      have hJ5 := (unhide HJ) _ _ _ V5 none (unhide HJR) hg5 (fun r e => by cases e)
      have hs5 := hk5.size
      have nn : ∀ r, ¬ M r → r < V.heap.size → ¬ M2 r := fun r h1 h2 h3 => (hkr.more r h3).elim h1 (by omega)
      have hLdj : L.drop (i + 1 + (preNL most (lv + 1) (ds.take j)).length) = (Nd.mk k' t' ka' kc' ks' da' dc' ds' l').preN most (lv + 1) ++ (preNL most (lv + 1) (ds.drop (j + 1)) ++ rest) := by
        rw [← List.drop_drop, unhide HLD, preNL_split most (lv + 1) hgj, List.append_assoc, List.drop_left, List.append_assoc]
      have hcl := fun m => unhide HDS _ (List.mem_of_getElem? hgj) m (lv + 1) _ _ M2 V5 (hdr.keep (fun r hr => hg5.block r (hdr.lt hr) (by simp))) (fun r hr => unhide HBLK r (hbk r hr)) hLdj hJ5 (by omega)
        ((hk5.same b1 n1 l1).trans (unhide H1)) ((hk5.same b3 n3 l3).trans (unhide H3)) ((hk5.same b4 n4 l4).trans (unhide H4)) (nn _ n1 l1) (nn _ n3 l3) (nn _ n4 l4)
      have hcl2 := fun m => (hcl m).mono (R' := fun e W' => ∃ bb, e = .returned (.bool bb) ∧ Hid (∃ M', KeepsM M V M' W' ∧ ((bb = true ∧ J (i + 1 + (preNL most (lv + 1) (ds.take (j + 1))).length) M' W') ∨ (bb = false ∧ ∃ i', i' ≤ L.length ∧ Jx i' M' W')))) (by
        rintro e W' ⟨bb, rfl, M', hk, h⟩
        refine ⟨bb, rfl, hide ⟨M', hk5.trans hk, ?_⟩⟩
        rw [preNL_take most (lv + 1) hgj, List.length_append, ← Nat.add_assoc]
        exact h)
      have k4 := (hk5.same b4 n4 l4).trans (unhide H4)
      obtain ⟨x4, _⟩ := one_cell k4
      have h0 : V5.heap[wr.heap.size]? = some (.cells #[.int .u8 k', .string ⟨t'.toArray⟩, .slice ka' ks'.length kc', .slice da' ds'.length dc', .int .i64 l'] 61) := by rw [← hV5]; exact World.alloc_heap_new wr _
      obtain ⟨⟨z0, _⟩, ⟨z1, _⟩, ⟨z2, _⟩, ⟨z3, _⟩, ⟨z4, _⟩⟩ := five_cell h0
      rw [show (((lv + 1 : Nat)) : Int) = (lv : Int) + 1 from by omega] at hcl2
      have HCL := hide hcl2
      have HV5 := hide hV5
      have hbl := cellLt c0
      clear hcl hcl2 hV5 hdin hkr hdr hg5 hk5 hJ5 nn hLdj hgj hbk hbb k4 h0 hsb
      gi_upto_region 8 with fail
      rw [unhide HV5]
      have hdd : ∀ k : Nat, (Fence.wide.depth.isSome = true → 1 ≤ k) := fun k h => by cases h
      gi_wp2
      refine ⟨trivial, hdd _, (unhide HCL _).mono ?_⟩
      rintro e W6 ⟨bb, rfl, HB6⟩
      cases bb
      · gi_wp2
        go_ret
        obtain ⟨M', hk, (⟨h, _⟩ | ⟨_, h⟩)⟩ := unhide HB6
        · cases h
        · exact ⟨false, rfl, hide ⟨M', hk, .inr ⟨rfl, h⟩⟩⟩
      · have hfin : Hid (∃ M', KeepsM M V M' W6 ∧ J (i + 1 + (preNL most (lv + 1) (ds.take (j + 1))).length) M' W6) := by
          obtain ⟨M', hk, (⟨_, h⟩ | ⟨h, _⟩)⟩ := unhide HB6
          · exact hide ⟨M', hk, h⟩
          · cases h
        gi_wp2
        gi_roundg g'
        case measure => omega
        case rel =>
          obtain ⟨M', hk, h⟩ := unhide hfin
          exact ⟨j + 1, M', by omega, by go_num, hide hk, hide h⟩
set_option maxRecDepth 100000 in
set_option maxHeartbeats 4000000 in
theorem nodesIter_seq (n most b1 b2 : Nat) (k : Nat) (t : List UInt8) (ka : Option Addr) (kc : Nat) (ks : List (List UInt8)) (da : Option Addr) (dc : Nat) (ds : List Nd) (ln : Int) (R T : Nat → Prop) (W : World) (hm : most ≤ 1000)
    (h1 : W.heap[b1]? = some (.cells #[.int .i64 most] 3)) (h2 : W.heap[b2]? = some (.cells #[.int .u8 k, .string ⟨t.toArray⟩, .slice ka ks.length kc, .slice da ds.length dc, .int .i64 ln] 61))
    (hin : (Nd.mk k t ka kc ks da dc ds ln).In W) (hblk : ∀ r, (Nd.mk k t ka kc ks da dc ds ln).blk r → R r) (hR : ∀ r, R r → r < W.heap.size) (hT : T b1) :
    SeqM Fence.wide n Tryz.prog 224 #[.pointer (some ⟨b1, 0, none⟩), .pointer (some ⟨b2, 0, none⟩)] encN ((Nd.mk k t ka kc ks da dc ds ln).preN most 1) R T W := by
  intro l J Jx hJ hJx hM hY M0 hT0 h0
  have l1 := (Array.getElem?_eq_some_iff.1 h1).1
  have l2 := (Array.getElem?_eq_some_iff.1 h2).1
  have hY' : ∀ m i x M V, ((Nd.mk k t ka kc ks da dc ds ln).preN most 1)[i]? = some x → J i M V → W.heap.size ≤ V.heap.size → YieldAt Fence.wide m Tryz.prog l (encN x) V fun e W' =>
      ∃ M', KeepsM M V M' W' ∧ ((e = .returned (.bool true) ∧ J (i + 1) M' W') ∨ (e = .returned (.bool false) ∧ Jx (i + 1) M' W')) :=
    fun m i x M V hx hj hs => YieldAt.anyD rfl m (hY i x M V hx hj hs)
  obtain ⟨W1, hW1⟩ : ∃ W1, (W.alloc (.cells #[.func (.yield l) #[] #[]] 268)).alloc (.cells #[.nilFunc] 269) = W1 := ⟨_, rfl⟩
  have hs1 : W1.heap.size = W.heap.size + 1 + 1 := by rw [← hW1]; simp
  have hg1 : W.grownBy W1 none := by rw [← hW1]; exact grownBy_none_trans (World.grownBy_alloc W _ none) (World.grownBy_alloc _ _ none)
  have g3 : W1.heap[W.heap.size]? = some (.cells #[.func (.yield l) #[] #[]] 268) := by rw [← hW1]; exact (Below.heap_alloc _ _ _ (by simp)).trans (World.alloc_heap_new W _)
  have g4 : W1.heap[W.heap.size + 1]? = some (.cells #[.nilFunc] 269) := by
    rw [← hW1]
    have := World.alloc_heap_new (W.alloc (.cells #[.func (.yield l) #[] #[]] 268)) (.cells #[.nilFunc] 269)
    rw [World.size_alloc] at this
    exact this
  obtain ⟨W2, hW2⟩ : ∃ W2, W1.setCell ⟨W.heap.size + 1, 0, none⟩ (.func (.func 225) #[] #[.pointer (some ⟨b1, 0, none⟩), .pointer (some ⟨W.heap.size, 0, none⟩), .pointer (some ⟨W.heap.size + 1, 0, none⟩)]) = W2 := ⟨_, rfl⟩
  have hg2 : W1.grownBy W2 (some (W.heap.size + 1)) := by rw [← hW2]; exact grownBy_setCell' W1 _ _
  have hs2 : W2.heap.size = W.heap.size + 1 + 1 := by rw [← hW2]; simpa using hs1
  have q4 : W2.heap[W.heap.size + 1]? = some (.cells #[.func (.func 225) #[] #[.pointer (some ⟨b1, 0, none⟩), .pointer (some ⟨W.heap.size, 0, none⟩), .pointer (some ⟨W.heap.size + 1, 0, none⟩)]] 269) := by
    rw [← hW2]; simp [World.setCell, Array.getElem?_modify, g4]
  have ho : ∀ r, r < W.heap.size → W2.heap[r]? = W.heap[r]? := fun r hr => (hg2.block r (by omega) (by simp; omega)).trans (hg1.block r hr (by simp))
  have q3 : W2.heap[W.heap.size]? = some (.cells #[.func (.yield l) #[] #[]] 268) := (hg2.block _ (by omega) (by simp)).trans g3
  have q1 := (ho b1 l1).trans h1
  have q2 := (ho b2 l2).trans h2
  have hM0 : ∀ r, M0 r → r < W.heap.size := fun r hr => (hM 0 M0 W h0 r hr).1
  have hJ1 : J 0 M0 W1 := hJ 0 M0 W W1 none h0 hg1 (fun r e => by cases e)
  have hJ2 : J 0 M0 W2 := hJ 0 M0 W1 W2 _ hJ1 hg2 (fun r e => by cases e; exact ⟨fun h => by have := hM0 _ h; omega, fun h => by have := hR _ h; omega⟩)
  have hdown := fun m => Nd.ind (p := DownC W l ((Nd.mk k t ka kc ks da dc ds ln).preN most 1) most b1 W.heap.size (W.heap.size + 1) R J Jx) (down_node W l _ most b1 _ _ R J Jx hm hJ hJx hM hR hY') (.mk k t ka kc ks da dc ds ln) m 1 0 [] M0 W2
    (hin.keep (fun r hr => ho r (hin.lt hr))) hblk (by simp) hJ2 (by omega) q1 q3 q4 (hT0 _ hT).1 (fun h => by have := hM0 _ h; omega) (fun h => by have := hM0 _ h; omega)
  rw [Nd.val_eq] at hdown
  have hmf : ∀ (fn : Fn) (first cap : Array Value) (w : World), (Instr.makeFunc fn first cap).run Tryz.prog w = .ok (.func fn first cap) w := fun _ _ _ _ => rfl
  obtain ⟨x4, f4⟩ := one_cell g4
  have HQ2 := hide q2
  have HQ4 := hide q4
  have HW1 := hide hW1
  have HW2 := hide hW2
  have HD := hide hdown
  clear hW1 hW2 hY hY' hJ hJx hM hT0 h0 h1 h2 hin hblk hR hs1 hg1 g3 g4 hg2 hs2 q4 ho q3 q1 q2 hM0 hJ1 hJ2 hdown
  refine callsIn_of_wp Tryz.func224 rfl trivial ?_ rfl
  simp only [Tryz.ntmps224, List.size_toArray, List.length_cons, List.length_nil, Nat.reduceAdd, Nat.reduceSub, Array.replicate_succ, Array.replicate_zero, List.push_toArray, List.append_toArray, List.nil_append, List.cons_append]
  gi_upto_region 2 with fail
  rw [unhide HW1]
  gi_upto_region 3 with fail
  rw [unhide HW2]
  obtain ⟨y4, _⟩ := one_cell (unhide HQ4)
  obtain ⟨⟨z0, _⟩, ⟨z1, _⟩, ⟨z2, _⟩, ⟨z3, _⟩, ⟨z4, _⟩⟩ := five_cell (unhide HQ2)
  gi_wp2
  refine ⟨trivial, fun h => (by cases h), (unhide HD _).mono ?_⟩
  rintro e W6 ⟨bb, rfl, HB⟩
  gi_wp2
  go_end0
  obtain ⟨M', hk, (⟨_, h⟩ | ⟨_, h⟩)⟩ := unhide HB
  · exact ⟨⟨_, rfl⟩, M', .inl (by rw [Nat.zero_add] at h; exact h)⟩
  · exact ⟨⟨_, rfl⟩, M', .inr h⟩
set_option maxRecDepth 100000 in
theorem nodes_any (k : Nat) (t : List UInt8) (ka : Option Addr) (kc : Nat) (ks : List (List UInt8)) (da : Option Addr) (dc : Nat) (ds : List Nd) (ln : Int) (most : Int) (w : World) :
    Calls Tryz.prog 201 #[.agg #[.int .u8 k, .string ⟨t.toArray⟩, .slice ka ks.length kc, .slice da ds.length dc, .int .i64 ln], .int .i64 most] w fun e w' =>
      e = .returned (.func (.func 224) #[] #[.pointer (some ⟨w.heap.size + 1, 0, none⟩), .pointer (some ⟨w.heap.size, 0, none⟩)]) ∧
      w' = (w.alloc (.cells #[.int .u8 k, .string ⟨t.toArray⟩, .slice ka ks.length kc, .slice da ds.length dc, .int .i64 ln] 61)).alloc (.cells #[.int .i64 most] 3) := by
  have hmf : ∀ (fn : Fn) (first cap : Array Value) (w : World), (Instr.makeFunc fn first cap).run Tryz.prog w = .ok (.func fn first cap) w := fun _ _ _ _ => rfl
  go_enter Tryz.func201, Tryz.ntmps201
  go_wp2
  go_ret
  exact ⟨rfl, rfl⟩
end Go.Proofs.YtefokfbgpfcbkaaGreat
namespace Go.Proofs.YtefokfbgpfcbkaaGreat
set_option linter.unusedVariables false
set_option linter.unusedSimpArgs false
open Go.RowKit
attribute [local go_sem] Oper.semAt_some
def mxL (L : List (Nat × Nd)) : Nat := (L.map (·.1)).foldl max 0
theorem mxL_take {L : List (Nat × Nd)} {i : Nat} {x : Nat × Nd} (h : L[i]? = some x) : mxL (L.take (i + 1)) = max (mxL (L.take i)) x.1 := by
  unfold mxL
  rw [List.take_add_one, h]
  simp [List.foldl_append]
structure OneI (h b : Nat) (w : World) (t : TypeId) (v : Value) (M : Nat → Prop) (V : World) : Prop where
  m : M b
  ms : ∀ r, M r → b ≤ r ∧ r < V.heap.size
  cell : V.heap[b]? = some (.cells #[v] t)
  below : Below h w V
theorem OneI.abides {h b : Nat} {w : World} {t : TypeId} {v : Value} {M : Nat → Prop} {V V' : World} {row : Option Nat} (hi : OneI h b w t v M V) (hb : h ≤ b) (hg : V.grownBy V' row) (hr : ∀ r, row = some r → ¬ M r ∧ ¬ r < h) : OneI h b w t v M V' :=
  ⟨hi.m, fun r h1 => ⟨(hi.ms r h1).1, Nat.lt_of_lt_of_le (hi.ms r h1).2 hg.size⟩, (hg.block b (Array.getElem?_eq_some_iff.1 hi.cell).1 (fun e => (hr b e.symm).1 hi.m)).trans hi.cell,
   hi.below.grown hg (by have := (Array.getElem?_eq_some_iff.1 hi.cell).1; omega) (fun k e => by have := (hr k e).2; omega)⟩
theorem OneI.set {h b : Nat} {w : World} {t : TypeId} {v : Value} {M : Nat → Prop} {V : World} (hi : OneI h b w t v M V) (hb : h ≤ b) (v' : Value) : OneI h b w t v' M (V.setCell ⟨b, 0, none⟩ v') :=
  ⟨hi.m, fun r h1 => ⟨(hi.ms r h1).1, by simpa [World.setCell] using (hi.ms r h1).2⟩, by have h1 := hi.cell; simp [World.setCell, Array.getElem?_modify, h1],
   hi.below.grown (grownBy_setCell' V b v') (by have := (Array.getElem?_eq_some_iff.1 hi.cell).1; omega) (fun k e => by cases e; omega)⟩
theorem start4 (w : World) (o1 o2 o3 o4 : Obj) (h : Nat) (hh : w.heap.size = h) : ∃ W2, (((w.alloc o1).alloc o2).alloc o3).alloc o4 = W2 ∧ W2.heap.size = h + 4 ∧ W2.heap[h]? = some o1 ∧ W2.heap[h + 1]? = some o2 ∧ W2.heap[h + 1 + 1]? = some o3 ∧ W2.heap[h + 1 + 1 + 1]? = some o4 ∧ Below h w W2 := by
  subst hh
  have e1 := World.alloc_heap_new w o1
  have e2 := World.alloc_heap_new (w.alloc o1) o2
  have e3 := World.alloc_heap_new ((w.alloc o1).alloc o2) o3
  have e4 := World.alloc_heap_new (((w.alloc o1).alloc o2).alloc o3) o4
  simp only [World.size_alloc] at e2 e3 e4
  refine ⟨_, rfl, by simp, ?_, ?_, ?_, e4, ?_⟩
  · exact (Below.heap_alloc _ _ _ (by simp <;> omega)).trans ((Below.heap_alloc _ _ _ (by simp <;> omega)).trans ((Below.heap_alloc _ _ _ (by simp)).trans e1))
  · exact (Below.heap_alloc _ _ _ (by simp <;> omega)).trans ((Below.heap_alloc _ _ _ (by simp)).trans e2)
  · exact (Below.heap_alloc _ _ _ (by simp)).trans e3
  · exact ((((Below.refl _ w).alloc (Nat.le_refl _) _).alloc (by simp) _).alloc (by simp; omega) _).alloc (by simp; omega) _
set_option maxRecDepth 100000 in
set_option maxHeartbeats 4000000 in
theorem Depth_any (d : Nd) (w : World) (hin : d.In w) :
    Calls Tryz.prog 172 #[d.val] w fun e w' => e = .returned (.int .i64 (mxL (d.preN 18 1))) ∧ Below w.heap.size w w' := by
  obtain ⟨k, t, ka, kc, ks, da, dc, ds, ln⟩ := d
  obtain ⟨L, hL⟩ : ∃ L, (Nd.mk k t ka kc ks da dc ds ln).preN 18 1 = L := ⟨_, rfl⟩
  rw [hL]
  rw [Nd.val_eq]
  obtain ⟨b0, hh⟩ : ∃ b0, w.heap.size = b0 := ⟨_, rfl⟩
  have HL := hide hL
  have hlt := fun r (hr : (Nd.mk k t ka kc ks da dc ds ln).blk r) => hin.lt hr
  rw [hh] at hlt
  have HIN := hide hin
  have HLT := hide hlt
  clear hL hin hlt
  obtain ⟨⟨k0, _⟩, ⟨k1, _⟩, ⟨k2, _⟩, ⟨k3, _⟩, ⟨k4, _⟩⟩ := five_cell (World.alloc_heap_new w (.cells #[.int .u8 k, .string ⟨t.toArray⟩, .slice ka ks.length kc, .slice da ds.length dc, .int .i64 ln] 61))
  refine (callsIn_wide (n := 40)).1 ?_
  refine callsIn_of_wp_marks Tryz.func172 rfl trivial ?_ rfl
  simp only [Tryz.ntmps172, List.size_toArray, List.length_cons, List.length_nil, Nat.reduceAdd, Nat.reduceSub, Array.replicate_succ, Array.replicate_zero, List.push_toArray, List.append_toArray, List.nil_append, List.cons_append]
  gi_wp2_with (refine ⟨trivial, ?_⟩; gi_at_call 201; refine (callsIn_wide.2 (nodes_any k t ka kc ks da dc ds ln 18 _)).mono ?_; rintro e w' ⟨rfl, rfl⟩)
  obtain ⟨W2, hW2, hs2, g0, g1, g2, g3, hb2⟩ := start4 w (.cells #[.int .u8 k, .string ⟨t.toArray⟩, .slice ka ks.length kc, .slice da ds.length dc, .int .i64 ln] 61) (.cells #[.int .i64 0] 3)
    (.cells #[.int .u8 k, .string ⟨t.toArray⟩, .slice ka ks.length kc, .slice da ds.length dc, .int .i64 ln] 61) (.cells #[.int .i64 18] 3) b0 hh
  rw [hW2]
  clear hW2 k0 k1 k2 k3 k4
  have hinW : (Nd.mk k t ka kc ks da dc ds ln).In W2 := (unhide HIN).below (by rw [hh]; exact hb2)
  have hcst := fun (V : World) (hg : W2.grownBy V none) => by
    have := nodesIter_seq (40 - 1) 18 (b0 + 1 + 1 + 1) (b0 + 1 + 1) k t ka kc ks da dc ds ln (fun r => r < b0) (fun r => r = b0 + 1 + 1 + 1) V (by omega) ((hg.block _ (by omega) (by simp)).trans g3) ((hg.block _ (by omega) (by simp)).trans g2)
      (hinW.grown hg (fun r e => by cases e)) (fun r hr => (unhide HLT) r hr) (fun r hr => by have := hg.size; omega) rfl
    rw [unhide HL] at this
    exact this
  refine wpIn_rangeFunc_M rfl (by omega) (gf := 224) (lb := #[.pointer (some ⟨b0 + 1 + 1 + 1, 0, none⟩), .pointer (some ⟨b0 + 1 + 1, 0, none⟩)]) rfl trivial (enters_of Tryz.func224 (by kernel_rfl) rfl)
    (encs := encN) L (fun r => r < b0) (fun r => r = b0 + 1 + 1 + 1) (fun r hr => by omega)
    (fun V hg _ => hcst V hg) (fun _ => rfl)
    (fun i M V => OneI b0 (b0 + 1) w 3 (.int .i64 (mxL (L.take i))) M V) (fun _ _ _ _ => False)
    (fun i M V V' row hi hg hr => hi.abides (by omega) hg hr) (fun _ _ _ _ _ _ h1 _ _ => h1.elim)
    (fun i M V hi r hr => ⟨(hi.ms r hr).2, by have := (hi.ms r hr).1; omega⟩)
    (fun r => r = b0 + 1) (fun r hr => by subst hr; exact ⟨by omega, by omega, by omega⟩)
    ⟨rfl, fun r hr => by subst hr; exact ⟨Nat.le_refl _, by omega⟩, by simpa [mxL] using g1, hb2⟩
    (fun x => { tmps := #[.agg #[.int .u8 k, .string ⟨t.toArray⟩, .slice ka ks.length kc, .slice da ds.length dc, .int .i64 ln], .pointer (some ⟨b0, 0, none⟩), .int .i64 0, .pointer (some ⟨b0 + 1, 0, none⟩), .int .i64 x.1, .agg #[.int .u8 k, .string ⟨t.toArray⟩, .slice ka ks.length kc, .slice da ds.length dc, .int .i64 ln],
      .func (.func 224) #[] #[.pointer (some ⟨b0 + 1 + 1 + 1, 0, none⟩), .pointer (some ⟨b0 + 1 + 1, 0, none⟩)], .int .i64 x.1, x.2.val, undef, undef, undef, undef], defers := [] }) ?assign ?body ?done ?stop
  case assign =>
    intro l x W K hK
    unfold encN
    gi_wp2
    exact hK
  case body =>
    rintro l i ⟨lv, nd⟩ M V hx hi hV
    have hmx := mxL_take hx
    simp only at hmx
    obtain ⟨c0, f0⟩ := one_cell hi.cell
    have hkp : ∀ v, KeepsM M V M (V.setCell ⟨b0 + 1, 0, none⟩ v) := fun v => KeepsM.grown (grownBy_setCell' V (b0 + 1) v) (fun r e => by cases e; exact .inl hi.m)
    have HKP := hide hkp
    have HI := hide hi
    have HMX := hide hmx
    clear hi hmx hx hkp
    gi_wp2
    all_goals
      refine ⟨M, unhide HKP _, ?_⟩
      have e := unhide HMX
      first
        | (have e2 : mxL (L.take (i + 1)) = lv := by omega
           show OneI b0 (b0 + 1) w 3 (.int .i64 (mxL (L.take (i + 1)) : Nat)) M _
           rw [e2]
           exact (unhide HI).set (by omega) _)
        | (have e2 : mxL (L.take (i + 1)) = mxL (L.take i) := by omega
           show OneI b0 (b0 + 1) w 3 (.int .i64 (mxL (L.take (i + 1)) : Nat)) M _
           rw [e2]
           exact (unhide HI).set (by omega) _)
        | (have e3 : ((mxL (L.take (i + 1)) : Nat) : Int) = max ((mxL (L.take i) : Nat) : Int) (lv : Int) := by omega
           show OneI b0 (b0 + 1) w 3 (.int .i64 ((mxL (L.take (i + 1)) : Nat) : Int)) M _
           rw [e3]
           exact (unhide HI).set (by omega) _)
  case done =>
    rintro D M V rfl hMD hi hK
    rw [List.take_of_length_le (Nat.le_refl _)] at hi
    obtain ⟨c0, f0⟩ := one_cell hi.cell
    have HI := hide hi
    clear hi
    gi_wp2
    have hI := unhide HI
    refine ⟨by simp, .inl ⟨_, _, rfl, run_takeDeferred hK, ?_⟩⟩
    refine ⟨_, results_tmp rfl _ _ _, rfl, ?_⟩
    rw [hh]
    exact hI.below.grown (grownBy_putObj' V W2.heap.size (.deferred none)) (by have := (Array.getElem?_eq_some_iff.1 hI.cell).1; omega) (fun k e => by cases e; omega)
  case stop =>
    rintro D c i M V _ _ _ h1 _
    exact h1.elim
end Go.Proofs.YtefokfbgpfcbkaaGreat
namespace Go.Proofs.YtefokfbgpfcbkaaGreat
set_option linter.unusedVariables false
set_option linter.unusedSimpArgs false
open Go.RowKit
attribute [local go_sem] Oper.semAt_some
mutual
def okT : P20.T → Prop
  | .mk k t ks ds l => t.length ≤ 1000000 ∧ ks.length ≤ 1000000000 ∧ (∀ x ∈ ks, x.length ≤ 1000000) ∧ ds.length ≤ 1000000000 ∧ okTs ds
def okTs : List P20.T → Prop
  | [] => True
  | d :: ds => okT d ∧ okTs ds
end
theorem okTs_iff : ∀ ds : List P20.T, okTs ds ↔ ∀ d ∈ ds, okT d
  | [] => by simp [okTs]
  | d :: ds => by simp [okTs, okTs_iff ds]
theorem isEmpty_data (t : List UInt8) : (⟨t.toArray⟩ : ByteArray).toList.isEmpty = t.isEmpty := by rw [Lib.toList_data]
set_option maxRecDepth 100000 in
set_option maxHeartbeats 1600000 in
theorem odd20_any (k : Nat) (t : List UInt8) (ka : Option Addr) (kc nk : Nat) (da : Option Addr) (dc nd : Nat) (ln : Int) (w : World) (h1 : nk ≤ 1000000000) (h2 : nd ≤ 1000000000) :
    Calls Tryz.prog 202 #[.agg #[.int .u8 k, .string ⟨t.toArray⟩, .slice ka nk kc, .slice da nd dc, .int .i64 ln]] w fun e w' => e = .returned (.bool (P20.oddB k t nk nd)) ∧ Below w.heap.size w w' := by
  have hb : Below w.heap.size w (w.alloc (.cells #[.int .u8 k, .string ⟨t.toArray⟩, .slice ka nk kc, .slice da nd dc, .int .i64 ln] 61)) := (Below.refl _ w).alloc (Nat.le_refl _) _
  obtain ⟨⟨c0, _⟩, ⟨c1, _⟩, ⟨c2, _⟩, ⟨c3, _⟩, ⟨c4, _⟩⟩ := five_cell (World.alloc_heap_new w (.cells #[.int .u8 k, .string ⟨t.toArray⟩, .slice ka nk kc, .slice da nd dc, .int .i64 ln] 61))
  have hw : IntKind.i64.wrap ((nk : Int) + nd) = (nk : Int) + nd := IntWalk.i64_in _ (by omega)
  unfold P20.oddB
  by_cases k1 : k = 1
  · subst k1
    go_enter Tryz.func202, Tryz.ntmps202
    go_wp2
    go_ret
    refine ⟨ret_bool ?_, hb⟩
    simp
    omega
  · have j1 : ((k : Int) == 1) = false := by rw [beq_eq_false_iff_ne]; omega
    rw [if_neg k1]
    by_cases k2 : k = 2
    · subst k2
      cases hte : t.isEmpty
      · have jt : (⟨t.toArray⟩ : ByteArray).toList.isEmpty = false := (isEmpty_data t).trans hte
        go_enter Tryz.func202, Tryz.ntmps202
        go_wp2
        go_ret
        exact ⟨ret_bool (by simp), hb⟩
      · have jt : (⟨t.toArray⟩ : ByteArray).toList.isEmpty = true := (isEmpty_data t).trans hte
        go_enter Tryz.func202, Tryz.ntmps202
        go_wp2
        go_ret
        exact ⟨ret_bool (by simp), hb⟩
    · have j2 : ((k : Int) == 2) = false := by rw [beq_eq_false_iff_ne]; omega
      rw [if_neg k2]
      cases hte : t.isEmpty
      · have jt : (⟨t.toArray⟩ : ByteArray).toList.isEmpty = false := (isEmpty_data t).trans hte
        go_enter Tryz.func202, Tryz.ntmps202
        go_wp2
        go_ret
        exact ⟨ret_bool (by simp), hb⟩
      · have jt : (⟨t.toArray⟩ : ByteArray).toList.isEmpty = true := (isEmpty_data t).trans hte
        go_enter Tryz.func202, Tryz.ntmps202
        go_wp2
        go_ret
        refine ⟨ret_bool ?_, hb⟩
        rw [Bool.eq_iff_iff]
        simp
        omega
set_option maxRecDepth 100000 in
set_option maxHeartbeats 1600000 in
theorem keys20_any (a : Option Addr) (c : Nat) (ks : List (List UInt8)) (w : World) (h : InS w a ks) (hcc : ks.length ≤ c) (hl : ks.length ≤ 1000000000) (hx : ∀ x ∈ ks, x.length ≤ 1000000) :
    Calls Tryz.prog 203 #[.slice a ks.length c] w fun e w' => e = .returned (.int .i64 (P20.keysE [] ks)) ∧ Below w.heap.size w w' := by
  obtain ⟨n, hn⟩ : ∃ n, ks.length = n := ⟨_, rfl⟩
  rw [hn] at hl hcc ⊢
  have HN := hide hn
  have HI := hide h
  have HX := hide hx
  clear hn h hx
  go_enter Tryz.func203, Tryz.ntmps203
  go_wp2
  go_loopg [8] n (fun g s8 wx => ∃ i : Nat, i + g = n ∧ s8 = .int .i64 i ∧ Hid (P20.keysE [] ks = P20.keysE (ks.take i) (ks.drop i)) ∧ Hid (Below w.heap.size w wx))
  case atStart => exact ⟨0, by omega, by go_num, hide rfl, hide (Below.refl _ _)⟩
  case round =>
    obtain ⟨i, hig, rfl, HD, HB⟩ := hrel
    cases gk with
    | zero =>
      have e1 : (n : Int) = (i : Int) := by omega
      have HE := hide (show i = n by omega)
      go_wp2
      go_ret
      refine ⟨ret_int ?_, unhide HB⟩
      rw [unhide HD, List.drop_of_length_le (by rw [unhide HN]; have := unhide HE; omega)]
      rfl
    | succ g' =>
      have hlt : (i : Int) < (n : Int) := by omega
      have hic : (i : Int) ≤ (c : Int) := by omega
      have hc00 : c ≠ 0 := by omega
      have hki : IntKind.i64.wrap ((i : Int) + 1) = (i : Int) + 1 := IntWalk.i64_in _ (by omega)
      obtain ⟨x, hgx⟩ := nth_of (unhide HN) (show i < n by omega)
      have hxl := unhide HX x (List.mem_of_getElem? hgx)
      have hd : ks.drop i = x :: ks.drop (i + 1) := by
        obtain ⟨hl2, rfl⟩ := List.getElem?_eq_some_iff.1 hgx
        exact List.drop_eq_getElem_cons hl2
      have ht : ks.take (i + 1) = ks.take i ++ [x] := by rw [List.take_add_one, hgx]; rfl
      have hD := unhide HD
      rw [hd, P20.keysE] at hD
      obtain ⟨b, o, rfl, hc⟩ := InS.below (unhide HI) (unhide HB) i x hgx
      have hck := fun W => Check_any ⟨x.toArray⟩ 64 W (by rw [Lib.size_eq]; show x.length ≤ 1100000; omega)
      have hil : (ks.take i).length = i := by rw [List.length_take, unhide HN]; omega
      have hcn := fun W (hb : Below wr.heap.size wr W) => contains_any (some ⟨b, o, none⟩) c (ks.take i) x W (fun j y hy => by
        rw [List.getElem?_take] at hy
        split at hy
        · exact InS.below (InS.below (unhide HI) (unhide HB)) hb j y hy
        · cases hy) (by rw [hil]; unfold maxLen; omega)
      rw [hil] at hcn
      simp only [list_data] at hck
      rw [← ht] at hD
      have HT := hide hil
      have HCK := hide hck
      have HCN := hide hcn
      have hbl := cellLt hc
      clear hck hcn hd ht hgx hxl hil HD
      by_cases hc0 : P03.check x 64 = 0
      · rw [if_neg (by simpa using hc0)] at hD
        have HC0 := hide hc0
        by_cases hm : x ∈ ks.take i
        · rw [if_pos hm] at hD
          have HDD := hide hD
          have HM := hide hm
          clear hD hm hc0
          go_wp2_with (first
            | (go_at_call 128; refine (unhide HCK _).mono ?_; rintro e w1 ⟨rfl, hb1⟩; rw [unhide HC0])
            | (go_at_call 226; refine (unhide HCN _ hb1).mono ?_; rintro e w2 ⟨rfl, rfl⟩; rw [decide_eq_true (unhide HM)]))
          go_ret
          exact ⟨ret_int (unhide HDD).symm, (unhide HB).trans (hb1.mono (unhide HB).size)⟩
        · rw [if_neg hm] at hD
          have HDD := hide hD
          have HM := hide hm
          clear hD hm hc0
          go_wp2_with (first
            | (go_at_call 128; refine (unhide HCK _).mono ?_; rintro e w1 ⟨rfl, hb1⟩; rw [unhide HC0])
            | (go_at_call 226; refine (unhide HCN _ hb1).mono ?_; rintro e w2 ⟨rfl, rfl⟩; rw [decide_eq_false (unhide HM)]))
          go_roundg g'
          case measure => omega
          case rel => exact ⟨i + 1, by omega, by go_num, HDD, hide ((unhide HB).trans (hb1.mono (unhide HB).size))⟩
      · rw [if_pos hc0] at hD
        obtain ⟨e, he⟩ : ∃ e, P03.check x 64 = e := ⟨_, rfl⟩
        rw [he] at hD hc0
        have jne : (e != 0) = true := by simpa using hc0
        have HE := hide he
        have HDD := hide hD
        clear hD hc0 he
        go_wp2_with (first
          | (go_at_call 128; refine (unhide HCK _).mono ?_; rintro e' w1 ⟨rfl, hb1⟩; rw [unhide HE]))
        go_ret
        exact ⟨ret_int (unhide HDD).symm, (unhide HB).trans (hb1.mono (unhide HB).size)⟩
mutual
theorem Nd.preN_in {W : World} (most : Nat) : ∀ (d : Nd) (lv : Nat), d.In W → okT d.bare → ∀ x ∈ d.preN most lv, x.2.In W ∧ (∀ r, x.2.blk r → d.blk r) ∧ okT x.2.bare
  | .mk k t ka kc ks da dc ds l, lv, h, ho, x, hx => by
    unfold Nd.preN at hx
    split at hx
    · simp at hx
    · rcases List.mem_cons.1 hx with rfl | hx
      · exact ⟨h, fun r hr => hr, ho⟩
      · have hk := h.kids
        simp only [Nd.da, Nd.kids] at hk
        unfold Nd.bare okT at ho
        obtain ⟨a, b, c⟩ := preNL_in most ds (lv + 1) da 0 hk ho.2.2.2.2 x hx
        exact ⟨a, fun r hr => by rw [blk_eq]; exact .inr (.inr (b r hr)), c⟩
theorem preNL_in {W : World} (most : Nat) : ∀ (ds : List Nd) (lv : Nat) (a : Option Addr) (i : Nat), InL W a i ds → okTs (bareL ds) → ∀ x ∈ preNL most lv ds, x.2.In W ∧ (∀ r, x.2.blk r → blkL r ds) ∧ okT x.2.bare
  | [], lv, a, i, h, ho, x, hx => by simp [preNL] at hx
  | d :: ds, lv, a, i, h, ho, x, hx => by
    unfold preNL at hx
    simp only [InL] at h
    unfold bareL okTs at ho
    rcases List.mem_append.1 hx with hx | hx
    · obtain ⟨p, q, r⟩ := Nd.preN_in most d lv h.2.1 ho.1 x hx
      exact ⟨p, fun g hg => .inl (q g hg), r⟩
    · obtain ⟨p, q, r⟩ := preNL_in most ds lv a (i + 1) h.2.2 ho.2 x hx
      exact ⟨p, fun g hg => .inr (q g hg), r⟩
end
theorem firstE_stop {L : List (Nat × P20.T)} {i : Nat} {x : Nat × P20.T} (h : P20.firstE (L.take i) = 0) (hx : L[i]? = some x) (hn : P20.nodeE x.1 x.2 ≠ 0) : P20.firstE L = P20.nodeE x.1 x.2 := by
  obtain ⟨hl, he⟩ := List.getElem?_eq_some_iff.1 hx
  have e : L = L.take i ++ x :: L.drop (i + 1) := by
    have h2 := List.take_append_drop i L
    rw [List.drop_eq_getElem_cons hl, he] at h2
    exact h2.symm
  rw [e, P20.firstE_append, if_neg (by simpa using h)]
  simp only [P20.firstE]
  rw [if_pos hn]
theorem firstE_on {L : List (Nat × P20.T)} {i : Nat} {x : Nat × P20.T} (h : P20.firstE (L.take i) = 0) (hx : L[i]? = some x) (hn : P20.nodeE x.1 x.2 = 0) : P20.firstE (L.take (i + 1)) = 0 := by
  rw [List.take_add_one, hx, P20.firstE_append, if_neg (by simpa using h)]
  simp [P20.firstE, hn]
theorem run_loadVar_1 {P : Program} (w : World) (a : Addr) (ty : TypeId) (v : Value) (d : TypeDesc) (hu : P.underlying ty = some d) (hd : (match d with | .struct _ | .array _ _ => true | _ => false) = false) (hc : w.cell? a = some v) :
    (loadVar ty a).run P w = .ok v w := by
  have hagg : (isAgg ty).run P w = .ok false w := by
    unfold isAgg
    rw [Sem.run_bind, run_underlying hu w]
    cases d <;> simp_all
  simp [loadVar, Sem.run_bind, hagg, hc, go_sem]
theorem results_c1 {fn : Func} {p : Tmp} {t : TypeId} (h : fn.results = #[.cell p t]) (tmps : Array Value) (P : Program) (w : World) (g : Nat) (v : Value)
    (hp : tmps.getD p undef = .pointer (some ⟨g, 0, none⟩)) (hl : (loadVar t ⟨g, 0, none⟩).run P w = .ok v w) : (results fn tmps).run P w = .ok v w := by
  have hp' : tmps[p]?.getD undef = .pointer (some ⟨g, 0, none⟩) := by simpa using hp
  simp [results, h, hp', asAddr, Sem.run_bind, Result.andThen, hl]
set_option maxRecDepth 100000 in
set_option maxHeartbeats 8000000 in
theorem Check20_any (d : Nd) (w : World) (hin : d.In w) (hok : okT d.bare) :
    Calls Tryz.prog 171 #[d.val] w fun e w' => e = .returned (.int .i64 (d.bare.check 1)) ∧ Below w.heap.size w w' := by
  obtain ⟨k, t, ka, kc, ks, da, dc, ds, ln⟩ := d
  obtain ⟨L, hL⟩ : ∃ L, (Nd.mk k t ka kc ks da dc ds ln).preN 17 1 = L := ⟨_, rfl⟩
  have hspec : (Nd.mk k t ka kc ks da dc ds ln).bare.check 1 = P20.firstE (L.map bareP) := by rw [← P20.T.check_pre _ 1 (by omega), ← Nd.preN_bare, hL]
  have hpre := Nd.preN_in 17 _ 1 hin hok
  rw [hL] at hpre
  rw [hspec, Nd.val_eq]
  obtain ⟨b0, hh⟩ : ∃ b0, w.heap.size = b0 := ⟨_, rfl⟩
  have HL := hide hL
  have hlt := fun r (hr : (Nd.mk k t ka kc ks da dc ds ln).blk r) => hin.lt hr
  rw [hh] at hlt
  have HIN := hide hin
  have HLT := hide hlt
  have HPRE := hide hpre
  clear hL hin hlt hspec hpre hok
  obtain ⟨⟨k0, _⟩, ⟨k1, _⟩, ⟨k2, _⟩, ⟨k3, _⟩, ⟨k4, _⟩⟩ := five_cell (World.alloc_heap_new w (.cells #[.int .u8 k, .string ⟨t.toArray⟩, .slice ka ks.length kc, .slice da ds.length dc, .int .i64 ln] 61))
  refine (callsIn_wide (n := 40)).1 ?_
  refine callsIn_of_wp_marks Tryz.func171 rfl trivial ?_ rfl
  simp only [Tryz.ntmps171, List.size_toArray, List.length_cons, List.length_nil, Nat.reduceAdd, Nat.reduceSub, Array.replicate_succ, Array.replicate_zero, List.push_toArray, List.append_toArray, List.nil_append, List.cons_append]
  gi_wp2_with (refine ⟨trivial, ?_⟩; gi_at_call 201; refine (callsIn_wide.2 (nodes_any k t ka kc ks da dc ds ln 17 _)).mono ?_; rintro e w' ⟨rfl, rfl⟩)
  obtain ⟨W2, hW2, hs2, g0, g1, g2, g3, hb2⟩ := start4 w (.cells #[.int .u8 k, .string ⟨t.toArray⟩, .slice ka ks.length kc, .slice da ds.length dc, .int .i64 ln] 61) (.cells #[.int .i64 0] 29)
    (.cells #[.int .u8 k, .string ⟨t.toArray⟩, .slice ka ks.length kc, .slice da ds.length dc, .int .i64 ln] 61) (.cells #[.int .i64 17] 3) b0 hh
  rw [hW2]
  clear hW2 k0 k1 k2 k3 k4
  have hinW : (Nd.mk k t ka kc ks da dc ds ln).In W2 := (unhide HIN).below (by rw [hh]; exact hb2)
  have hcst := fun (V : World) (hg : W2.grownBy V none) => by
    have := nodesIter_seq (40 - 1) 17 (b0 + 1 + 1 + 1) (b0 + 1 + 1) k t ka kc ks da dc ds ln (fun r => r < b0) (fun r => r = b0 + 1 + 1 + 1) V (by omega) ((hg.block _ (by omega) (by simp)).trans g3) ((hg.block _ (by omega) (by simp)).trans g2)
      (hinW.grown hg (fun r e => by cases e)) (fun r hr => (unhide HLT) r hr) (fun r hr => by have := hg.size; omega) rfl
    rw [unhide HL] at this
    exact this
  refine wpIn_rangeFunc_MA rfl (by omega) (gf := 224) (lb := #[.pointer (some ⟨b0 + 1 + 1 + 1, 0, none⟩), .pointer (some ⟨b0 + 1 + 1, 0, none⟩)]) rfl trivial (enters_of Tryz.func224 (by kernel_rfl) rfl)
    (encs := encN) L (fun r => r < b0) (fun r => r = b0 + 1 + 1 + 1) (fun r hr => by omega)
    (fun V hg _ => hcst V hg) (fun _ => rfl)
    (fun i M V => OneI b0 (b0 + 1) w 29 (.int .i64 0) M V ∧ P20.firstE ((L.map bareP).take i) = 0)
    (fun c i M V => c = .ret ∧ OneI b0 (b0 + 1) w 29 (.int .i64 (P20.firstE (L.map bareP))) M V)
    (fun i M V V' row hi hg hr => ⟨hi.1.abides (by omega) hg hr, hi.2⟩) (fun c i M V V' row hi hg hr => ⟨hi.1, hi.2.abides (by omega) hg hr⟩)
    (fun i M V hi r hr => ⟨(hi.1.ms r hr).2, by have := (hi.1.ms r hr).1; omega⟩)
    (fun r => r = b0 + 1) (fun r hr => by subst hr; exact ⟨by omega, by omega, by omega⟩)
    ⟨⟨rfl, fun r hr => by subst hr; exact ⟨Nat.le_refl _, by omega⟩, g1, hb2⟩, rfl⟩
    (fun i x M a' V => OneI b0 (b0 + 1) w 29 (.int .i64 0) M V ∧ P20.firstE ((L.map bareP).take i) = 0 ∧ ∃ g, M g ∧ b0 + 4 ≤ g ∧ V.heap[g]? = some (.cells #[.int .u8 x.2.kind, .string ⟨x.2.text.toArray⟩, x.2.kV, x.2.dV, .int .i64 x.2.line] 61) ∧
      a' = { tmps := #[.agg #[.int .u8 k, .string ⟨t.toArray⟩, .slice ka ks.length kc, .slice da ds.length dc, .int .i64 ln], .pointer (some ⟨b0, 0, none⟩), .pointer (some ⟨b0 + 1, 0, none⟩), .int .i64 x.1, .pointer (some ⟨g, 0, none⟩), undef, undef, .agg #[.int .u8 k, .string ⟨t.toArray⟩, .slice ka ks.length kc, .slice da ds.length dc, .int .i64 ln],
        .func (.func 224) #[] #[.pointer (some ⟨b0 + 1 + 1 + 1, 0, none⟩), .pointer (some ⟨b0 + 1 + 1, 0, none⟩)], .int .i64 x.1, x.2.val, undef, undef, undef, undef, undef, undef, undef, undef, undef, undef, undef, undef, undef, undef, undef, undef, undef, undef, undef, undef, undef, undef, undef, undef, undef, undef, undef], defers := [] })
    ?hB ?assign ?body ?done ?stop
  case hB =>
    rintro i x M a' V V' row ⟨hi, h0, g, hMg, hg4, hgc, rfl⟩ hg hr
    exact ⟨hi.abides (by omega) hg hr, h0, g, hMg, hg4, (hg.block g (Array.getElem?_eq_some_iff.1 hgc).1 (fun e => (hr g e.symm).1 hMg)).trans hgc, rfl⟩
  case assign =>
    rintro l2 i ⟨lv, nd⟩ M V K hx ⟨hi, h0⟩ hV hK
    obtain ⟨k', t', ka', kc', ks', da', dc', ds', ln'⟩ := nd
    unfold encN
    simp only [Nd.val_eq]
    have hgr := World.grownBy_alloc V (.cells #[.int .u8 k', .string ⟨t'.toArray⟩, .slice ka' ks'.length kc', .slice da' ds'.length dc', .int .i64 ln'] 61) none
    have hKK := hK (fun r => M r ∨ r = V.heap.size) _ (V.alloc (.cells #[.int .u8 k', .string ⟨t'.toArray⟩, .slice ka' ks'.length kc', .slice da' ds'.length dc', .int .i64 ln'] 61)) hgr (fun r hr => hr.imp id (fun e => by omega))
      ⟨⟨.inl hi.m, fun r hr => by
          rcases hr with hr | rfl
          · have := hi.ms r hr; simp; omega
          · have := (Array.getElem?_eq_some_iff.1 hi.cell).1; simp; omega, (hgr.block _ (Array.getElem?_eq_some_iff.1 hi.cell).1 (by simp)).trans hi.cell, hi.below.grown hgr (by have := (Array.getElem?_eq_some_iff.1 hi.cell).1; omega) (fun k e => by cases e)⟩, h0,
        V.heap.size, .inr rfl, by omega, World.alloc_heap_new V _, rfl⟩
    have HK := hide hKK
    clear hKK hK hgr
    gi_wp2
    exact unhide HK
  case body =>
    rintro l2 i ⟨lv, nd⟩ M a' V hx ⟨hi, h0, g, hMg, hg4, hgc, rfl⟩ hV
    obtain ⟨hndIn, hndb, hndo⟩ := unhide HPRE _ (List.mem_of_getElem? hx)
    obtain ⟨k', t', ka', kc', ks', da', dc', ds', ln'⟩ := nd
    simp only [Nd.kind, Nd.text, Nd.kV, Nd.dV, Nd.keys, Nd.kids, Nd.ka, Nd.kc, Nd.da, Nd.dc, Nd.line] at hgc
    simp only [Nd.val_eq]
    obtain ⟨⟨c0, _⟩, ⟨c1, _⟩, ⟨c2, _⟩, ⟨c3, _⟩, ⟨c4, _⟩⟩ := five_cell hgc
    obtain ⟨e0, f0⟩ := one_cell hi.cell
    have hbx : (L.map bareP)[i]? = some (lv, (Nd.mk k' t' ka' kc' ks' da' dc' ds' ln').bare) := by rw [List.getElem?_map, hx]; rfl
    have hInV : (Nd.mk k' t' ka' kc' ks' da' dc' ds' ln').In V := hndIn.keep (fun r hr => hi.below.block r (unhide HLT r (hndb r hr)))
    have hkeep : ∀ V', Below V.heap.size V V' → OneI b0 (b0 + 1) w 29 (.int .i64 0) M V' ∧ KeepsM M V M V' := fun V' hb =>
      ⟨hi.abides (by omega) (grown_of_below hb none) (fun r e => by cases e), .grown (grown_of_below hb none) (fun r e => by cases e)⟩
    have hstop : ∀ (A : Act) V' e, e = P20.nodeE lv (Nd.mk k' t' ka' kc' ks' da' dc' ds' ln').bare → e ≠ 0 → Below V.heap.size V V' → postM (fun i M V => OneI b0 (b0 + 1) w 29 (.int .i64 0) M V ∧ P20.firstE ((L.map bareP).take i) = 0)
        (fun c i M V => c = .ret ∧ OneI b0 (b0 + 1) w 29 (.int .i64 (P20.firstE (L.map bareP))) M V) i M V .ret A (V'.setCell ⟨b0 + 1, 0, none⟩ (.int .i64 e)) := fun A V' e he hn hb => by
      obtain ⟨h1, h2⟩ := hkeep V' hb
      refine ⟨M, h2.trans (.grown (grownBy_setCell' V' (b0 + 1) _) (fun r e => by cases e; exact .inl h1.m)), rfl, ?_⟩
      rw [firstE_stop h0 hbx (by rw [← he]; exact hn), ← he]
      exact h1.set (by omega) _
    have hon : P20.nodeE lv (Nd.mk k' t' ka' kc' ks' da' dc' ds' ln').bare = 0 → ∀ (A : Act) V', Below V.heap.size V V' → postM (fun i M V => OneI b0 (b0 + 1) w 29 (.int .i64 0) M V ∧ P20.firstE ((L.map bareP).take i) = 0)
        (fun c i M V => c = .ret ∧ OneI b0 (b0 + 1) w 29 (.int .i64 (P20.firstE (L.map bareP))) M V) i M V .normal A V' := fun he A V' hb => by
      obtain ⟨h1, h2⟩ := hkeep V' hb
      exact ⟨M, h2, h1, firstE_on h0 hbx he⟩
    have hnode : P20.nodeE lv (Nd.mk k' t' ka' kc' ks' da' dc' ds' ln').bare = if 16 < lv then 11 else if k' < 1 ∨ 3 < k' then 7 else if P20.oddB k' t' ks'.length ds'.length = true then 3 else if P03.check t' 4096 ≠ 0 then P03.check t' 4096 else P20.keysE [] ks' := by
      simp only [Nd.bare, P20.nodeE, bareL_len]
    rw [hnode] at hstop hon
    unfold Nd.bare okT at hndo
    obtain ⟨o1, o2, o3, o4, _⟩ := hndo
    rw [bareL_len] at o4
    have hfit := hInV.fit
    have hkeys := hfit.keys
    have hkc := hfit.keysC
    simp only [Nd.keys, Nd.ka, Nd.kc] at hkeys hkc
    have hod := fun V => odd20_any k' t' ka' kc' ks'.length da' dc' ds'.length ln' V o2 o4
    have hcx := fun V => Check_any ⟨t'.toArray⟩ 4096 V (by rw [Lib.size_eq]; show t'.length ≤ 1100000; omega)
    simp only [list_data] at hcx
    have hky := fun V' (hb : Below V.heap.size V V') => keys20_any ka' kc' ks' V' (hkeys.below hb) hkc o2 o3
    have hgl := (Array.getElem?_eq_some_iff.1 hgc).1
    have hke := fun V' (hb : Below V.heap.size V V') => (hkeep V' hb).1.cell
    have HS := hide hstop
    have HON := hide hon
    have HOD := hide hod
    have HCX := hide hcx
    have HKY := hide hky
    have HGC := hide hgc
    have HKE := hide hke
    clear hstop hon hod hcx hky hgc hke hkeep hnode hfit hkeys hkc hInV hbx hndIn hndb h0 hi hx o1 o2 o3 o4
    by_cases n1 : 16 < lv
    · have j1 : (16 : Int) < (lv : Int) := by omega
      have hn : 16 < lv := n1
      clear n1
      gi_wp2
      exact unhide HS _ V 11 (by rw [if_pos hn]) (by decide) (Below.refl _ _)
    have j1 : (lv : Int) ≤ 16 := by omega
    have HN1 := hide n1
    clear n1
    by_cases n2 : k' < 1 ∨ 3 < k'
    · have HN2 := hide n2
      rcases n2 with n2 | n2
      · have j2 : (k' : Int) < 1 := by omega
        clear n2
        gi_wp2
        exact unhide HS _ V 7 (by rw [if_neg (unhide HN1), if_pos (unhide HN2)]) (by decide) (Below.refl _ _)
      · have j2 : (1 : Int) ≤ (k' : Int) := by omega
        have j3 : (3 : Int) < (k' : Int) := by omega
        clear n2
        gi_wp2
        exact unhide HS _ V 7 (by rw [if_neg (unhide HN1), if_pos (unhide HN2)]) (by decide) (Below.refl _ _)
    have j2 : (1 : Int) ≤ (k' : Int) := by omega
    have j3 : (k' : Int) ≤ 3 := by omega
    have HN2 := hide n2
    clear n2
    obtain ⟨bo, hbo⟩ : ∃ bo, P20.oddB k' t' ks'.length ds'.length = bo := ⟨_, rfl⟩
    have HO := hide hbo
    clear hbo
    cases bo
    rotate_left
    · gi_wp2_with (first
        | (refine ⟨trivial, ?_⟩; gi_at_call 202; refine (CallsIn.inRound l2 (callsIn_wide.2 (unhide HOD _))).mono ?_; rintro e w1 ⟨rfl, hb1⟩; rw [unhide HO]; obtain ⟨⟨q0, _⟩, ⟨q1, _⟩, ⟨q2, _⟩, ⟨q3, _⟩, ⟨q4, _⟩⟩ := five_cell ((hb1.block g hgl).trans (unhide HGC)); obtain ⟨p0, p1⟩ := one_cell (unhide HKE _ hb1)))
      exact unhide HS _ w1 3 (by rw [if_neg (unhide HN1), if_neg (unhide HN2), if_pos (unhide HO)]) (by decide) hb1
    have HO2 := hide (nb (unhide HO))
    obtain ⟨ec, hec⟩ : ∃ ec, P03.check t' 4096 = ec := ⟨_, rfl⟩
    by_cases n4 : ec = 0
    rotate_left
    · have j4 : (ec != 0) = true := by simpa using n4
      have HC := hide hec
      have HN4 := hide n4
      clear hec n4
      gi_wp2_with (first
        | (refine ⟨trivial, ?_⟩; gi_at_call 202; refine (CallsIn.inRound l2 (callsIn_wide.2 (unhide HOD _))).mono ?_; rintro e w1 ⟨rfl, hb1⟩; rw [unhide HO]; obtain ⟨⟨q0, _⟩, ⟨q1, _⟩, ⟨q2, _⟩, ⟨q3, _⟩, ⟨q4, _⟩⟩ := five_cell ((hb1.block g hgl).trans (unhide HGC)); obtain ⟨p0, p1⟩ := one_cell (unhide HKE _ hb1))
        | (refine ⟨trivial, ?_⟩; gi_at_call 128; refine (CallsIn.inRound l2 (callsIn_wide.2 (unhide HCX _))).mono ?_; rintro e w2 ⟨rfl, hb2⟩; rw [unhide HC]; have hb12 := hb1.trans (hb2.mono hb1.size); obtain ⟨⟨q0, _⟩, ⟨q1, _⟩, ⟨q2, _⟩, ⟨q3, _⟩, ⟨q4, _⟩⟩ := five_cell ((hb12.block g hgl).trans (unhide HGC)); obtain ⟨p0, p1⟩ := one_cell (unhide HKE _ hb12)))
      exact unhide HS _ w2 ec (by rw [if_neg (unhide HN1), if_neg (unhide HN2), if_neg (unhide HO2), if_pos (by rw [unhide HC]; exact unhide HN4), unhide HC]) (unhide HN4) hb12
    subst n4
    have HC := hide hec
    clear hec
    have HC2 := hide (show ¬ P03.check t' 4096 ≠ 0 by rw [unhide HC]; simp)
    obtain ⟨ek, hek⟩ : ∃ ek, P20.keysE [] ks' = ek := ⟨_, rfl⟩
    by_cases n5 : ek = 0
    rotate_left
    · have j5 : (ek != 0) = true := by simpa using n5
      have HK := hide hek
      have HN5 := hide n5
      clear hek n5
      gi_wp2_with (first
        | (refine ⟨trivial, ?_⟩; gi_at_call 202; refine (CallsIn.inRound l2 (callsIn_wide.2 (unhide HOD _))).mono ?_; rintro e w1 ⟨rfl, hb1⟩; rw [unhide HO]; obtain ⟨⟨q0, _⟩, ⟨q1, _⟩, ⟨q2, _⟩, ⟨q3, _⟩, ⟨q4, _⟩⟩ := five_cell ((hb1.block g hgl).trans (unhide HGC)); obtain ⟨p0, p1⟩ := one_cell (unhide HKE _ hb1))
        | (refine ⟨trivial, ?_⟩; gi_at_call 128; refine (CallsIn.inRound l2 (callsIn_wide.2 (unhide HCX _))).mono ?_; rintro e w2 ⟨rfl, hb2⟩; rw [unhide HC]; have hb12 := hb1.trans (hb2.mono hb1.size); obtain ⟨⟨q0, _⟩, ⟨q1, _⟩, ⟨q2, _⟩, ⟨q3, _⟩, ⟨q4, _⟩⟩ := five_cell ((hb12.block g hgl).trans (unhide HGC)); obtain ⟨p0, p1⟩ := one_cell (unhide HKE _ hb12))
        | (refine ⟨trivial, ?_⟩; gi_at_call 203; refine (CallsIn.inRound l2 (callsIn_wide.2 (unhide HKY _ hb12))).mono ?_; rintro e w3 ⟨rfl, hb3⟩; rw [unhide HK]; have hb13 := hb12.trans (hb3.mono hb12.size); obtain ⟨p0, p1⟩ := one_cell (unhide HKE _ hb13)))
      exact unhide HS _ w3 ek (by rw [if_neg (unhide HN1), if_neg (unhide HN2), if_neg (unhide HO2), if_neg (unhide HC2), unhide HK]) (unhide HN5) hb13
    subst n5
    have HK := hide hek
    clear hek
    gi_wp2_with (first
      | (refine ⟨trivial, ?_⟩; gi_at_call 202; refine (CallsIn.inRound l2 (callsIn_wide.2 (unhide HOD _))).mono ?_; rintro e w1 ⟨rfl, hb1⟩; rw [unhide HO]; obtain ⟨⟨q0, _⟩, ⟨q1, _⟩, ⟨q2, _⟩, ⟨q3, _⟩, ⟨q4, _⟩⟩ := five_cell ((hb1.block g hgl).trans (unhide HGC)); obtain ⟨p0, p1⟩ := one_cell (unhide HKE _ hb1))
      | (refine ⟨trivial, ?_⟩; gi_at_call 128; refine (CallsIn.inRound l2 (callsIn_wide.2 (unhide HCX _))).mono ?_; rintro e w2 ⟨rfl, hb2⟩; rw [unhide HC]; have hb12 := hb1.trans (hb2.mono hb1.size); obtain ⟨⟨q0, _⟩, ⟨q1, _⟩, ⟨q2, _⟩, ⟨q3, _⟩, ⟨q4, _⟩⟩ := five_cell ((hb12.block g hgl).trans (unhide HGC)); obtain ⟨p0, p1⟩ := one_cell (unhide HKE _ hb12))
      | (refine ⟨trivial, ?_⟩; gi_at_call 203; refine (CallsIn.inRound l2 (callsIn_wide.2 (unhide HKY _ hb12))).mono ?_; rintro e w3 ⟨rfl, hb3⟩; rw [unhide HK]; have hb13 := hb12.trans (hb3.mono hb12.size); obtain ⟨p0, p1⟩ := one_cell (unhide HKE _ hb13)))
    exact unhide HON (by rw [if_neg (unhide HN1), if_neg (unhide HN2), if_neg (unhide HO2), if_neg (unhide HC2), unhide HK]) _ w3 hb13
  case done =>
    rintro D M V rfl hMD ⟨hi, h0⟩ hK
    have hz : P20.firstE (L.map bareP) = 0 := by rw [← h0, List.take_of_length_le (by simp)]
    have HZ := hide hz
    obtain ⟨c0, f0⟩ := one_cell hi.cell
    have HI := hide hi
    clear hi hz h0
    gi_wp2
    have hI := (unhide HI).set (by omega) (.int .i64 0)
    have hK2 : (V.setCell ⟨b0 + 1, 0, none⟩ (.int .i64 0)).heap[W2.heap.size]? = some (.deferred (some [])) := (Below.heap_setCell _ _ _ _ (by show W2.heap.size ≠ b0 + 1; omega)).trans hK
    refine ⟨by simp, .inl ⟨_, _, rfl, run_takeDeferred hK2, ?_⟩⟩
    have hcell := (World.putObj_heap_other (o := .deferred none) (show b0 + 1 ≠ W2.heap.size by omega)).trans hI.cell
    refine ⟨_, results_c1 rfl _ _ _ (b0 + 1) _ rfl (run_loadVar_1 _ _ _ _ _ Tryz.underlying29 rfl (one_cell hcell).1), by rw [unhide HZ], ?_⟩
    rw [hh]
    exact hI.below.grown (grownBy_putObj' _ W2.heap.size (.deferred none)) (by have := (Array.getElem?_eq_some_iff.1 hI.cell).1; omega) (fun k e => by cases e; omega)
  case stop =>
    rintro D c i M V rfl hMD hi ⟨rfl, hI⟩ hK
    gi_wp2
    refine ⟨by simp, .inl ⟨_, _, rfl, run_takeDeferred hK, ?_⟩⟩
    have hcell := (World.putObj_heap_other (o := .deferred none) (show b0 + 1 ≠ W2.heap.size by omega)).trans hI.cell
    refine ⟨_, results_c1 rfl _ _ _ (b0 + 1) _ rfl (run_loadVar_1 _ _ _ _ _ Tryz.underlying29 rfl (one_cell hcell).1), rfl, ?_⟩
    rw [hh]
    exact hI.below.grown (grownBy_putObj' _ W2.heap.size (.deferred none)) (by have := (Array.getElem?_eq_some_iff.1 hI.cell).1; omega) (fun k e => by cases e; omega)
end Go.Proofs.YtefokfbgpfcbkaaGreat
namespace Go.Proofs.YtefokfbgpfcbkaaGreat
set_option linter.unusedVariables false
set_option linter.unusedSimpArgs false
open Go.RowKit Go.Deep Go.ChangeShapes
theorem plain_of_cell {W : World} {a : Addr} {v : Value} (h : W.cell? a = some v) : ∃ b o, a = ⟨b, o, none⟩ := by
  obtain ⟨ab, ao, asp⟩ := a
  cases asp with
  | none => exact ⟨ab, ao, rfl⟩
  | some q =>
    unfold World.cell? at h
    split at h
    · simp at h
    · cases h
theorem add_zero20 (a : Addr) : a.add 0 = a := by simp [Addr.add]
theorem add_plain20 (b o x : Nat) : Addr.add ⟨b, o, none⟩ x = ⟨b, o + x, none⟩ := by
  unfold Addr.add
  split <;> simp_all
theorem bytes_back (s : ByteArray) : (⟨s.data.toList.toArray⟩ : ByteArray) = s := by cases s; rfl
theorem size_list (s : ByteArray) : s.data.toList.length = s.size := (Lib.size_eq s).symm
theorem openKeys {H : Type} {enc : TypeId × Value → H} {W : World} {fuel : Nat} {cs : List Value} {x : DataW H × List MemPlace} (h : DataW.trod enc Tryz.prog W 0 (fun _ => true) true fuel 56 cs = some x) :
    ∃ (a : Option Addr) (ks : List (List UInt8)) (c : Nat), cs = [.slice a ks.length c] ∧ ks.length ≤ c ∧ ks.length ≤ maxLen ∧ (∀ y ∈ ks, y.length ≤ maxLen) ∧ InS W a ks := by
  rcases open_strs Tryz.underlying56 Tryz.underlying9 (by kernel_rfl) h with ⟨rfl, _⟩ | ⟨a, len, cap, m, Sx, rfl, _, hl, hc, hm, _, hx⟩
  · exact ⟨none, [], 0, rfl, Nat.le_refl _, Nat.zero_le _, fun y hy => by simp at hy, fun i y hy => by simp at hy⟩
  have hlm : len ≤ m := by rw [hm, if_pos rfl]; exact hl
  refine ⟨some a, (List.range len).map (fun i => (Sx i).data.toList), cap, by simp, by simpa using hl, by simp; omega, fun y hy => ?_, fun i y hy => ?_⟩
  · obtain ⟨i, hi, rfl⟩ := List.mem_map.1 hy
    have hi := List.mem_range.1 hi
    have := (hx i (by omega)).2
    rw [size_list]
    exact this
  · have hi : i < len := by have := (List.getElem?_eq_some_iff.1 hy).1; simpa using this
    rw [List.getElem?_map, List.getElem?_range hi] at hy
    simp only [Option.map_some, Option.some.injEq] at hy
    subst hy
    have h0 := (hx 0 (by omega)).1
    rw [add_zero20] at h0
    obtain ⟨b, o, rfl⟩ := plain_of_cell h0
    have h1 := (hx i (by omega)).1
    rw [add_plain20] at h1
    exact ⟨b, o, rfl, by rw [h1, bytes_back]⟩
theorem choose_nds {p : Nat → Nd → Prop} {n : Nat} (h : ∀ i, i < n → ∃ x, p i x) : ∃ f : Nat → Nd, ∀ i, i < n → p i (f i) := by
  refine ⟨fun i => if hi : i < n then Classical.choose (h i hi) else Nd.zero, fun i hi => ?_⟩
  simp only [hi, dif_pos]
  exact Classical.choose_spec (h i hi)
set_option maxRecDepth 100000 in
theorem openNodeF {H : Type} {enc : TypeId × Value → H} {W : World} : ∀ (fuel : Nat) (cs : List Value) (x : DataW H × List MemPlace), DataW.trod enc Tryz.prog W 0 (fun _ => true) true fuel 61 cs = some x → ∃ nd : Nd, cs = nd.cs ∧ nd.In W := by
  intro fuel
  induction fuel using Nat.strongRecOn with
  | ind fuel ih =>
    intro cs x h
    obtain ⟨xs, n, hfu, _, hl, hlen, hf⟩ := DataW.trod_struct Tryz.underlying61 h
    have hc5 : Tryz.prog.cellsOf 61 = 5 := by kernel_rfl
    have hcu : Tryz.prog.cellsOf 5 = 1 := by kernel_rfl
    have hci : Tryz.prog.cellsOf 3 = 1 := by kernel_rfl
    have hcs : Tryz.prog.cellsOf 9 = 1 := by kernel_rfl
    have hck : Tryz.prog.cellsOf 56 = 1 := by kernel_rfl
    have hcd : Tryz.prog.cellsOf 59 = 1 := by kernel_rfl
    rw [hc5] at hl
    match cs, hl with
    | [c0, c1, c2, c3, c4], _ =>
      match xs, hlen with
      | [y0, y1, y2, y3, y4], _ =>
        have g0 := hf 0 _ rfl
        have g1 := hf 1 _ rfl
        have g2 := hf 2 _ rfl
        have g3 := hf 3 _ rfl
        have g4 := hf 4 _ rfl
        simp only [hcu, hci, hcs, hck, hcd, List.drop_zero, List.drop_succ_cons, List.take_succ_cons, List.take_zero, List.getElem?_cons_zero, List.getElem?_cons_succ] at g0 g1 g2 g3 g4
        obtain ⟨k0, e0, _, w0⟩ := DataW.trod_int Tryz.underlying5 g0
        obtain ⟨t, e1, _, w1⟩ := DataW.trod_string Tryz.underlying9 g1
        obtain ⟨ka, ks, kc, e2, q1, q2, q3, q4⟩ := openKeys g2
        obtain ⟨l, e4, _, w4⟩ := DataW.trod_int Tryz.underlying3 g4
        have hkids : ∃ (da : Option Addr) (ds : List Nd) (dc : Nat), [c3] = [Value.slice da ds.length dc] ∧ ds.length ≤ dc ∧ ds.length ≤ maxLen ∧ InL W da 0 ds := by
          rcases DataW.trod_slice Tryz.underlying59 g3 with ⟨e3, _⟩ | ⟨a, len, cap, elems, rest, m, hm, e3, _, _, hlc, hcm, hel, hall, _, _⟩
          · exact ⟨none, [], 0, e3, Nat.le_refl _, Nat.zero_le _, trivial⟩
          have each : ∀ i, i < len → ∃ d : Nd, W.cells? 0 (a.add (i * 5)) 5 = some d.cs ∧ d.In W := by
            intro i hi
            have h1 := hall i hi
            rw [hc5, List.getElem?_eq_getElem (by omega)] at h1
            obtain ⟨cs', h2, h3⟩ := Option.bind_eq_some_iff.1 h1
            obtain ⟨d, rfl, hd⟩ := ih m (by omega) cs' _ h3
            exact ⟨d, h2, hd⟩
          obtain ⟨f, hf2⟩ := choose_nds each
          refine ⟨some a, (List.range len).map f, cap, by simpa [hcd] using e3, by simpa using hlc, by simp; omega, inL_mk (fun j d hj => ?_)⟩
          have hi : j < len := by have := (List.getElem?_eq_some_iff.1 hj).1; simpa using this
          rw [List.getElem?_map, List.getElem?_range hi] at hj
          simp only [Option.map_some, Option.some.injEq] at hj
          subst hj
          obtain ⟨h0, hd⟩ := hf2 j hi
          obtain ⟨hz, _⟩ := hf2 0 (by omega)
          obtain ⟨_, _, z0⟩ := World.cells?_some hz
          have z1 := z0 0 (by simp [Nd.cs])
          rw [Nat.zero_mul, add_zero20, add_zero20] at z1
          rw [List.getElem?_eq_getElem (by simp [Nd.cs])] at z1
          obtain ⟨b, o, rfl⟩ := plain_of_cell z1
          obtain ⟨_, _, hcell⟩ := World.cells?_some h0
          have d0 := hcell 0 (by omega)
          have d1 := hcell 1 (by omega)
          have d2 := hcell 2 (by omega)
          have d3 := hcell 3 (by omega)
          have d4 := hcell 4 (by omega)
          rw [add_plain20, add_plain20] at d0 d1 d2 d3 d4
          simp only [Nd.cs, List.getElem?_cons_zero, List.getElem?_cons_succ] at d0 d1 d2 d3 d4
          refine ⟨⟨b, o, rfl, ?_⟩, hd⟩
          rw [Nat.zero_add]
          exact ⟨d0, d1, d2, d3, d4⟩
        obtain ⟨da, ds, dc, e3, r1, r2, r3⟩ := hkids
        injection e0 with e0
        injection e1 with e1
        injection e2 with e2
        injection e3 with e3
        injection e4 with e4
        subst e0
        subst e1
        subst e2
        subst e3
        subst e4
        simp only [Lit.wf, Bool.and_eq_true, decide_eq_true_eq] at w0
        have w00 : (0 : Int) ≤ k0 := w0.1
        have w01 : k0 ≤ 255 := w0.2
        obtain ⟨k, rfl⟩ : ∃ k : Nat, k0 = k := ⟨k0.toNat, by omega⟩
        refine ⟨.mk k t.data.toList ka kc ks da dc ds l, by simp [Nd.cs, Nd.kind, Nd.text, Nd.kV, Nd.dV, Nd.ka, Nd.kc, Nd.keys, Nd.da, Nd.dc, Nd.kids, Nd.line, bytes_back], .mk ⟨by show k < 256; omega, by show t.data.toList.length ≤ maxLen; rw [size_list]; exact w1, q2, r2, q1, r1, q3, q4⟩ r3⟩
end Go.Proofs.YtefokfbgpfcbkaaGreat
namespace Go.Proofs.YtefokfbgpfcbkaaGreat
set_option linter.unusedVariables false
set_option linter.unusedSimpArgs false
open Go.RowKit
def SameC (d : Nd) : Prop := ∀ (e : Nd) (w : World), d.In w → e.In w → Calls Tryz.prog 200 #[d.val, e.val] w fun x w' => x = .returned (.bool (d.bare.same e.bare)) ∧ Below w.heap.size w w'
set_option maxRecDepth 100000 in
set_option maxHeartbeats 1600000 in
theorem eqf_any (a a' : Option Addr) (c c' : Nat) (ds es : List Nd) (w : World) (h : InL w a 0 ds) (h' : InL w a' 0 es) (hl : ds.length ≤ maxLen) (hl' : es.length ≤ maxLen) (hc : ∀ d ∈ ds, SameC d) :
    Calls Tryz.prog 223 #[.slice a ds.length c, .slice a' es.length c', .func (.func 200) #[] #[]] w fun x w' =>
      x = .returned (.bool (P20.sameL (bareL ds) (bareL es))) ∧ Below w.heap.size w w' := by
  unfold maxLen at hl hl'
  by_cases hn : ds.length = es.length
  · obtain ⟨n, hN⟩ : ∃ n, ds.length = n := ⟨_, rfl⟩
    rw [← hn, hN]
    rw [hN] at hl
    have HN := hide hN
    have HE := hide (hn.symm.trans hN)
    have HI := hide h
    have HI' := hide h'
    have HC := hide hc
    clear hN hn h h' hc hl'
    go_enter Tryz.func223, Tryz.ntmps223
    go_wp2
    go_loopg [17] n (fun g s17 wx => ∃ i : Nat, i + g = n ∧ s17 = .int .i64 i ∧ Hid (P20.sameL (bareL ds) (bareL es) = P20.sameL (bareL (ds.drop i)) (bareL (es.drop i))) ∧ Hid (Below w.heap.size w wx))
    case atStart => exact ⟨0, by omega, by go_num, hide rfl, hide (Below.refl _ _)⟩
    case round =>
      obtain ⟨i, hig, rfl, HS, HB⟩ := hrel
      cases gk with
      | zero =>
        have e1 : (n : Int) = (i : Int) := by omega
        have e2 : i = n := by omega
        have HQ := hide e2
        clear e2
        go_wp2
        go_ret
        refine ⟨ret_bool ?_, unhide HB⟩
        rw [unhide HS, unhide HQ, List.drop_of_length_le (by rw [unhide HN]; omega), List.drop_of_length_le (by rw [unhide HE]; omega)]
        rfl
      | succ g' =>
        have hlt : (i : Int) < (n : Int) := by omega
        have hki : IntKind.i64.wrap ((i : Int) + 1) = (i : Int) + 1 := IntWalk.i64_in _ (by omega)
        obtain ⟨d, hg1⟩ := nth_of (unhide HN) (show i < n by omega)
        obtain ⟨e, hg2⟩ := nth_of (unhide HE) (show i < n by omega)
        have hsd := bareL_drop hg1
        have hse := bareL_drop hg2
        have hS := unhide HS
        rw [hsd, hse] at hS
        simp only [P20.sameL] at hS
        have hB := unhide HB
        have hcl0 := unhide HC d (List.mem_of_getElem? hg1) e
        obtain ⟨b, o, k, t, ka, kc, ks, da, dc, ds2, l, rfl, rfl, c0, c1, c2, c3, c4, hin⟩ := kid_open ((unhide HI).below hB) hg1
        obtain ⟨b', o', k', t', ka', kc', ks', da', dc', ds2', l', rfl, rfl, c0', c1', c2', c3', c4', hin'⟩ := kid_open ((unhide HI').below hB) hg2
        obtain ⟨r, hr⟩ : ∃ r, (Nd.mk k t ka kc ks da dc ds2 l).bare.same (Nd.mk k' t' ka' kc' ks' da' dc' ds2' l').bare = r := ⟨_, rfl⟩
        have hcl := fun W (hb : Below wr.heap.size wr W) => hcl0 W (hin.below hb) (hin'.below hb)
        rw [hr] at hS hcl
        clear hcl0
        have HCL := hide hcl
        have HS2 := hide hS
        have hl1 := cellLt c0
        have hl2 := cellLt c0'
        have HBB := hide hB
        clear hcl hS hg1 hg2 hin hin' hsd hse hB hr HS HB
        cases r
        · go_wp2_with (go_at_call 200; refine (unhide HCL _ (((Below.refl _ wr).alloc (Nat.le_refl _) _).alloc (by simp) _)).mono ?_; rintro x w2 ⟨rfl, hb2⟩)
          go_ret
          refine ⟨ret_bool ?_, ?_⟩
          · rw [unhide HS2]; rfl
          · have hB := unhide HBB
            have hz := hB.size
            exact ((hB.alloc hz _).alloc (by simp; omega) _).trans (hb2.mono (by simp; omega))
        · go_wp2_with (go_at_call 200; refine (unhide HCL _ (((Below.refl _ wr).alloc (Nat.le_refl _) _).alloc (by simp) _)).mono ?_; rintro x w2 ⟨rfl, hb2⟩)
          go_roundg g'
          case measure => omega
          case rel =>
            have hB := unhide HBB
            have hz := hB.size
            exact ⟨i + 1, by omega, by go_num, hide (by rw [unhide HS2]; rfl), hide (((hB.alloc hz _).alloc (by simp; omega) _).trans (hb2.mono (by simp; omega)))⟩
  · have jn : ((ds.length : Int) != (es.length : Int)) = true := by simp; omega
    have hr : P20.sameL (bareL ds) (bareL es) = false := by
      cases hb : P20.sameL (bareL ds) (bareL es) with
      | false => rfl
      | true => have := P20.sameL_len hb; rw [bareL_len, bareL_len] at this; exact absurd this hn
    rw [hr]
    clear hr hn h h' hc
    go_enter Tryz.func223, Tryz.ntmps223
    go_wp2
    go_ret
    exact ⟨rfl, Below.refl _ _⟩
theorem u8_ne {k k' : Nat} (h : k ≠ k') : ((k : Int) == (k' : Int)) = false := by
  rw [beq_eq_false_iff_ne]; omega
set_option maxRecDepth 100000 in
set_option maxHeartbeats 1600000 in
theorem same_node (k : Nat) (t : List UInt8) (ka : Option Addr) (kc : Nat) (ks : List (List UInt8)) (da : Option Addr) (dc : Nat) (ds : List Nd) (l : Int) (hds : ∀ d ∈ ds, SameC d) : SameC (.mk k t ka kc ks da dc ds l) := by
  intro e w hin hin'
  obtain ⟨k', t', ka', kc', ks', da', dc', ds', l'⟩ := e
  have hf := hin.fit
  have hf' := hin'.fit
  have e1 := hf.keysL
  have e2 := hf.kidsL
  have e3 := hf'.keysL
  have e4 := hf'.kidsL
  simp only [Nd.keys, Nd.kids] at e1 e2 e3 e4
  obtain ⟨W, hW⟩ : ∃ W, (w.alloc (.cells #[.int .u8 k, .string ⟨t.toArray⟩, .slice ka ks.length kc, .slice da ds.length dc, .int .i64 l] 61)).alloc (.cells #[.int .u8 k', .string ⟨t'.toArray⟩, .slice ka' ks'.length kc', .slice da' ds'.length dc', .int .i64 l'] 61) = W := ⟨_, rfl⟩
  have hb : Below w.heap.size w W := by rw [← hW]; exact ((Below.refl _ w).alloc (Nat.le_refl _) _).alloc (by simp) _
  have g0 : W.heap[w.heap.size]? = some (.cells #[.int .u8 k, .string ⟨t.toArray⟩, .slice ka ks.length kc, .slice da ds.length dc, .int .i64 l] 61) := by
    rw [← hW]; exact (Below.heap_alloc _ _ _ (by simp)).trans (World.alloc_heap_new w _)
  have g1 : W.heap[w.heap.size + 1]? = some (.cells #[.int .u8 k', .string ⟨t'.toArray⟩, .slice ka' ks'.length kc', .slice da' ds'.length dc', .int .i64 l'] 61) := by
    rw [← hW]
    have := World.alloc_heap_new (w.alloc (.cells #[.int .u8 k, .string ⟨t.toArray⟩, .slice ka ks.length kc, .slice da ds.length dc, .int .i64 l] 61)) (.cells #[.int .u8 k', .string ⟨t'.toArray⟩, .slice ka' ks'.length kc', .slice da' ds'.length dc', .int .i64 l'] 61)
    rw [World.size_alloc] at this
    exact this
  obtain ⟨⟨x0, _⟩, ⟨x1, _⟩, ⟨x2, _⟩, ⟨x3, _⟩, ⟨x4, _⟩⟩ := five_cell g0
  obtain ⟨⟨y0, _⟩, ⟨y1, _⟩, ⟨y2, _⟩, ⟨y3, _⟩, ⟨y4, _⟩⟩ := five_cell g1
  have heq := equal_any ka ka' kc kc' ks ks' W (InS.below hf.keys hb) (InS.below hf'.keys hb) e1 e3
  have hef := fun q => eqf_any da da' dc dc' ds ds' (W.drewN q) (hin.kids.below ⟨hb.os, hb.tape, hb.output, hb.size, hb.block⟩) (hin'.kids.below ⟨hb.os, hb.tape, hb.output, hb.size, hb.block⟩) e2 e4 hds
  have HW := hide hW
  have HB := hide hb
  rw [Nd.val_eq, Nd.val_eq]
  simp only [Nd.bare, P20.T.same]
  clear hW g0 g1 hin hin' hf hf' hds e1 e2 e3 e4 hb
  by_cases hk : k = k'
  rotate_left
  · have jk := u8_ne hk
    rw [show (k == k') = false from beq_eq_false_iff_ne.2 hk]
    clear hk heq hef
    go_enter Tryz.func200, Tryz.ntmps200
    go_upto_region 1 with fail
    rw [unhide HW]
    go_wp2
    go_ret
    exact ⟨rfl, unhide HB⟩
  subst hk
  by_cases ht : t = t'
  rotate_left
  · rw [show (k == k) = true from beq_self_eq_true k, show (t == t') = false from beq_eq_false_iff_ne.2 ht]
    clear heq hef
    go_enter Tryz.func200, Tryz.ntmps200
    go_upto_region 1 with fail
    rw [unhide HW]
    go_wp2
    go_ret
    exact ⟨rfl, unhide HB⟩
  subst ht
  rw [show (k == k) = true from beq_self_eq_true k, show (t == t) = true from beq_self_eq_true t]
  by_cases hks : ks = ks'
  rotate_left
  · rw [show (ks == ks') = false from beq_eq_false_iff_ne.2 hks]
    rw [decide_eq_false hks] at heq
    have HE := hide heq
    clear hks heq hef
    go_enter Tryz.func200, Tryz.ntmps200
    go_upto_region 1 with fail
    rw [unhide HW]
    go_wp2_with (go_at_call 222; refine (unhide HE).mono ?_; rintro x w' ⟨rfl, q, rfl⟩)
    go_ret
    exact ⟨rfl, below_drewN (n := q) (unhide HB)⟩
  · rw [show (ks == ks') = true from beq_iff_eq.2 hks]
    rw [decide_eq_true hks] at heq
    have HE := hide heq
    have HF := hide hef
    clear hks heq hef
    go_enter Tryz.func200, Tryz.ntmps200
    go_upto_region 1 with fail
    rw [unhide HW]
    go_wp2_with (first
      | (go_at_call 222; refine (unhide HE).mono ?_; rintro x w' ⟨rfl, q, rfl⟩)
      | (go_at_call 223; refine (unhide HF q).mono ?_; rintro x w2 ⟨rfl, hb2⟩))
    go_ret
    exact ⟨by simp, (below_drewN (n := q) (unhide HB)).trans (hb2.mono (unhide HB).size)⟩
theorem Same20_any (d e : Nd) (w : World) (h : d.In w) (h' : e.In w) : Calls Tryz.prog 200 #[d.val, e.val] w fun x w' => x = .returned (.bool (d.bare.same e.bare)) ∧ Below w.heap.size w w' :=
  Nd.ind (p := SameC) same_node d e w h h'
end Go.Proofs.YtefokfbgpfcbkaaGreat
