/- Rows of elements of several cells, whose parts may lie in blocks of their own (no program in it). -/
import Derived.Test.YtefokfbgpfcbkaaGreatGW20
namespace Go.Proofs.YtefokfbgpfcbkaaGreat
set_option linter.unusedVariables false
set_option linter.unusedSimpArgs false
open Go.RowKit
/-- a kind of elements: their cells, what is asked of one, and the blocks in which its parts lie -/
structure El (α : Type) where
  T : TypeId
  n : Nat
  cs : α → List Value
  In : World → α → Prop
  blk : α → Nat → Prop
  keep : ∀ W W' x, In W x → (∀ r, blk x r → W'.heap[r]? = W.heap[r]?) → In W' x
  lt : ∀ W x r, In W x → blk x r → r < W.heap.size
  len : ∀ x, (cs x).length = n
  one : ∀ x, ∀ u ∈ cs x, u.oneCell' = true
  pos : 0 < n
namespace El
variable {α : Type} (E : El α)
def all (xs : List α) : List Value := xs.flatMap E.cs
theorem all_len : ∀ xs : List α, (E.all xs).length = xs.length * E.n
  | [] => by simp [all]
  | x :: xs => by
    have ih := all_len xs
    have e : E.all (x :: xs) = E.cs x ++ E.all xs := rfl
    rw [e, List.length_append, ih, E.len, List.length_cons, Nat.add_mul]
    omega
theorem all_one (xs : List α) : ∀ u ∈ E.all xs, u.oneCell' = true := by
  intro u hu
  obtain ⟨x, _, hx⟩ := List.mem_flatMap.1 hu
  exact E.one x u hx
theorem all_append (xs ys : List α) : E.all (xs ++ ys) = E.all xs ++ E.all ys := by simp [all]
theorem all_get : ∀ (xs : List α) (i : Nat) (x : α), xs[i]? = some x → ∀ j, j < E.n → (E.all xs)[i * E.n + j]? = (E.cs x)[j]?
  | [], i, x, h, j, hj => by simp at h
  | y :: xs, 0, x, h, j, hj => by
    simp only [List.getElem?_cons_zero, Option.some.injEq] at h
    subst h
    have e1 : E.all (y :: xs) = E.cs y ++ E.all xs := rfl
    rw [e1, Nat.zero_mul, Nat.zero_add, List.getElem?_append_left (by rw [E.len]; exact hj)]
  | y :: xs, i + 1, x, h, j, hj => by
    have ih := all_get xs i x (by simpa using h) j hj
    have e1 : E.all (y :: xs) = E.cs y ++ E.all xs := rfl
    have el := E.len y
    rw [e1, List.getElem?_append_right (by rw [el, Nat.add_mul]; omega), el, show (i + 1) * E.n + j - E.n = i * E.n + j from by rw [Nat.add_mul]; omega]
    exact ih
/-- an element's cells lie at an address -/
def At (W : World) (b o : Nat) (x : α) : Prop := ∀ i v, (E.cs x)[i]? = some v → W.cell? ⟨b, o + i, none⟩ = some v
/-- a row of elements that may be read -/
def InL (W : World) (a : Option Addr) (xs : List α) : Prop := ∀ j x, xs[j]? = some x → (∃ b o, a = some ⟨b, o, none⟩ ∧ E.At W b (o + j * E.n) x) ∧ E.In W x
/-- the blocks of a row -/
def blkL (a : Option Addr) (xs : List α) (r : Nat) : Prop := (xs ≠ [] ∧ blockOf a r) ∨ ∃ x ∈ xs, E.blk x r
variable {E}
theorem InL.keep {W W' : World} {a : Option Addr} {xs : List α} (h : E.InL W a xs) (hk : ∀ r, E.blkL a xs r → W'.heap[r]? = W.heap[r]?) : E.InL W' a xs := by
  intro j x hj
  obtain ⟨⟨b, o, rfl, hc⟩, hi⟩ := h j x hj
  have hm := List.mem_of_getElem? hj
  refine ⟨⟨b, o, rfl, fun i v hv => (cell_of_block (hk b (.inl ⟨List.ne_nil_of_mem hm, o, rfl⟩)) _).trans (hc i v hv)⟩, E.keep _ _ _ hi (fun r hr => hk r (.inr ⟨x, hm, hr⟩))⟩
theorem InL.lt {W : World} {a : Option Addr} {xs : List α} (h : E.InL W a xs) {r : Nat} (hr : E.blkL a xs r) : r < W.heap.size := by
  rcases hr with ⟨hn, o, rfl⟩ | ⟨x, hm, hr⟩
  · cases xs with
    | nil => exact absurd rfl hn
    | cons x xs =>
      obtain ⟨⟨b, o', e, hc⟩, _⟩ := h 0 x rfl
      injection e with e
      injection e with e
      subst e
      have hp := E.pos
      have hl := E.len x
      have := hc 0 ((E.cs x)[0]'(by omega)) (List.getElem?_eq_getElem _)
      exact cellLt this
  · obtain ⟨j, hj⟩ := List.getElem?_of_mem hm
    exact E.lt _ _ _ (h j x hj).2 hr
theorem InL.below {W W' : World} {a : Option Addr} {xs : List α} (h : E.InL W a xs) (hb : Below W.heap.size W W') : E.InL W' a xs := h.keep (fun r hr => hb.block r (h.lt hr))
theorem InL.nil (W : World) (a : Option Addr) : E.InL W a [] := fun j x h => by simp at h
/-- the cells of one of them -/
theorem InL.get {W : World} {a : Option Addr} {xs : List α} (h : E.InL W a xs) {j : Nat} {x : α} (hj : xs[j]? = some x) : ∃ b o, a = some ⟨b, o, none⟩ ∧ E.At W b (o + j * E.n) x ∧ E.In W x := by
  obtain ⟨⟨b, o, e, hc⟩, hi⟩ := h j x hj
  exact ⟨b, o, e, hc, hi⟩
/-- the slice v owns the elements xs (from block B on); their own parts lie elsewhere (from block C on) -/
structure OwnC (E : El α) (W : World) (B C : Nat) (v : Value) (xs : List α) : Prop where
  own : W.ownsRow B E.T E.n v xs.length (E.all xs)
  ins : ∀ x ∈ xs, E.In W x
  new : ∀ x ∈ xs, ∀ g, E.blk x g → C ≤ g
  sep : ∀ x ∈ xs, ∀ g, E.blk x g → v.ownBlock ≠ some g
abbrev Own (E : El α) (W : World) (B : Nat) (v : Value) (xs : List α) : Prop := OwnC E W B B v xs
theorem OwnC.nil (W : World) (B C : Nat) : E.OwnC W B C (.slice none 0 0) [] := ⟨⟨by simp [all], .inl ⟨rfl, rfl⟩⟩, by simp, by simp, by simp⟩
theorem OwnC.keep {W W' : World} {B C : Nat} {v : Value} {xs : List α} (h : E.OwnC W B C v xs) (hr : ∀ g, v.ownBlock = some g → W'.heap[g]? = W.heap[g]?) (hd : ∀ x ∈ xs, ∀ g, E.blk x g → W'.heap[g]? = W.heap[g]?) : E.OwnC W' B C v xs :=
  ⟨own_keep h.own hr, fun x hm => E.keep _ _ _ (h.ins x hm) (hd x hm), h.new, h.sep⟩
theorem OwnC.grown {W W' : World} {B C : Nat} {v : Value} {xs : List α} {row : Option Nat} (h : E.OwnC W B C v xs) (hg : W.grownBy W' row) (hr : ∀ g, row = some g → v.ownBlock ≠ some g ∧ ∀ x ∈ xs, ¬ E.blk x g) : E.OwnC W' B C v xs :=
  h.keep (fun g hv => hg.block g (own_block_lt h.own g hv).2 (fun e => (hr g e.symm).1 hv)) (fun x hm g hb => hg.block g (E.lt _ _ _ (h.ins x hm) hb) (fun e => (hr g e.symm).2 x hm hb))
theorem OwnC.old {W W' : World} {B C : Nat} {v : Value} {xs : List α} {rb : Nat} (h : E.OwnC W B C v xs) (hg : W.grownBy W' (some rb)) (hr : rb < B) (hc : rb < C) : E.OwnC W' B C v xs :=
  h.grown hg (fun g e => by cases e; exact ⟨fun e => by have := (own_block_lt h.own _ e).1; omega, fun x hm hb => by have := h.new x hm _ hb; omega⟩)
theorem OwnC.alloc {W : World} {B C : Nat} {v : Value} {xs : List α} (h : E.OwnC W B C v xs) (o : Obj) : E.OwnC (W.alloc o) B C v xs := h.grown (World.grownBy_alloc W o none) (fun g e => by cases e)
theorem OwnC.below {W W' : World} {B C : Nat} {v : Value} {xs : List α} (h : E.OwnC W B C v xs) (hb : Below W.heap.size W W') : E.OwnC W' B C v xs :=
  h.keep (fun g hv => hb.block g (own_block_lt h.own g hv).2) (fun x hm g hg => hb.block g (E.lt _ _ _ (h.ins x hm) hg))
theorem OwnC.base2 {W : World} {B B' C C' : Nat} {v : Value} {xs : List α} (h : E.OwnC W B C v xs) (hB : B' ≤ B) (hC : C' ≤ C) : E.OwnC W B' C' v xs := by
  refine ⟨⟨h.own.1, ?_⟩, h.ins, fun x hm g hg => Nat.le_trans hC (h.new x hm g hg), h.sep⟩
  rcases h.own.2 with h2 | ⟨g, cap, cur, e1, e2, e3⟩
  · exact .inl h2
  · exact .inr ⟨g, cap, cur, e1, Nat.le_trans hB e2, e3⟩
theorem OwnC.base {W : World} {B B' : Nat} {v : Value} {xs : List α} (h : E.Own W B v xs) (hB : B' ≤ B) : E.Own W B' v xs := h.base2 hB hB
theorem OwnC.slice {W : World} {B C : Nat} {v : Value} {xs : List α} (h : E.OwnC W B C v xs) : ∃ a c, v = .slice a xs.length c ∧ xs.length ≤ c ∧ c ≤ maxLen ∧ E.InL W a xs ∧ (∀ g, E.blkL a xs g → B ≤ g ∨ C ≤ g) := by
  obtain ⟨ho, hi, hn, hs⟩ := h
  rcases ho.2 with ⟨rfl, h0⟩ | ⟨g, cap, cur, rfl, hb, hh, hc, hm, hsz, htk⟩
  · have : xs = [] := List.eq_nil_of_length_eq_zero h0
    subst this
    exact ⟨none, 0, rfl, Nat.le_refl _, Nat.zero_le _, InL.nil _ _, fun g hg => by rcases hg with ⟨h, _⟩ | ⟨x, h, _⟩ <;> simp at h⟩
  · refine ⟨_, cap, rfl, hc, hm, fun j x hj => ⟨⟨g, 0, rfl, fun i v hv => ?_⟩, hi x (List.mem_of_getElem? hj)⟩, fun g' hg => ?_⟩
    · have hjl := (List.getElem?_eq_some_iff.1 hj).1
      have hil : i < E.n := by have := (List.getElem?_eq_some_iff.1 hv).1; rw [E.len] at this; exact this
      have h1 := all_get E xs j x hj i hil
      have hlt : j * E.n + i < xs.length * E.n := Nat.lt_of_lt_of_le (by rw [Nat.add_mul, Nat.one_mul]; omega : j * E.n + i < (j + 1) * E.n) (Nat.mul_le_mul_right _ hjl)
      rw [← htk, List.getElem?_take_of_lt hlt, hv] at h1
      rw [Nat.zero_add, cell_of_row W g (j * E.n + i) cur _ (0, 0) hh]
      simpa using h1
    · rcases hg with ⟨_, o, e⟩ | ⟨x, hx, hg⟩
      · cases e
        exact .inl hb
      · exact .inr (hn x hx g' hg)
/-- the blocks of what is owned -/
def ob (E : El α) (v : Value) (xs : List α) (g : Nat) : Prop := v.ownBlock = some g ∨ ∃ x ∈ xs, E.blk x g
theorem OwnC.ob_lt {W : World} {B C : Nat} {v : Value} {xs : List α} (h : E.OwnC W B C v xs) {g : Nat} (hg : E.ob v xs g) : (B ≤ g ∨ C ≤ g) ∧ g < W.heap.size := by
  rcases hg with hg | ⟨x, hm, hg⟩
  · exact ⟨.inl (own_block_lt h.own g hg).1, (own_block_lt h.own g hg).2⟩
  · exact ⟨.inr (h.new x hm g hg), E.lt _ _ _ (h.ins x hm) hg⟩
theorem OwnC.ob_le {W : World} {B : Nat} {v : Value} {xs : List α} (h : E.Own W B v xs) {g : Nat} (hg : E.ob v xs g) : B ≤ g ∧ g < W.heap.size := ⟨by have := (h.ob_lt hg).1; omega, (h.ob_lt hg).2⟩
theorem OwnC.stay {W W' : World} {B C : Nat} {v : Value} {xs : List α} (h : E.OwnC W B C v xs) (hk : ∀ g, E.ob v xs g → W'.heap[g]? = W.heap[g]?) : E.OwnC W' B C v xs :=
  h.keep (fun g hg => hk g (.inl hg)) (fun x hm g hg => hk g (.inr ⟨x, hm, hg⟩))
theorem ob_more {v v' : Value} {xs : List α} {x : α} {n : Nat} (hat : v'.ownBlock = v.ownBlock ∨ ∃ g, v'.ownBlock = some g ∧ n ≤ g) {g : Nat} (hg : E.ob v' (xs ++ [x]) g) : E.ob v xs g ∨ E.blk x g ∨ n ≤ g := by
  rcases hg with hg | ⟨y, hm, hg⟩
  · rcases hat with h | ⟨g', h, h2⟩
    · exact .inl (.inl (h ▸ hg))
    · rw [h] at hg
      cases hg
      exact .inr (.inr h2)
  · rcases List.mem_append.1 hm with hm | hm
    · exact .inl (.inr ⟨y, hm, hg⟩)
    · obtain rfl := List.mem_singleton.1 hm
      exact .inr (.inl hg)
theorem OwnC.raise {W : World} {B C B' : Nat} {v : Value} {xs : List α} (h : E.OwnC W B C v xs) (hB : ∀ g, E.ob v xs g → B' ≤ g) : E.Own W B' v xs := by
  refine ⟨⟨h.own.1, ?_⟩, h.ins, fun x hm g hg => hB g (.inr ⟨x, hm, hg⟩), h.sep⟩
  rcases h.own.2 with h2 | ⟨g, cap, cur, e1, e2, e3⟩
  · exact .inl h2
  · exact .inr ⟨g, cap, cur, e1, hB g (.inl (by rw [e1]; rfl)), e3⟩
/-- behind an append -/
theorem OwnC.more {w w' : World} {B C : Nat} {v v' : Value} {xs : List α} {x : α} (hk : E.OwnC w B C v xs) (hin : E.In w x) (hnew : ∀ g, E.blk x g → C ≤ g) (hsep : ∀ g, E.blk x g → v.ownBlock ≠ some g)
    (h2 : w'.ownsRow B E.T E.n v' (xs.length + 1) (E.all xs ++ E.cs x)) (h3 : w.grownBy w' v.ownBlock) (hat : v'.ownBlock = v.ownBlock ∨ ∃ g, v'.ownBlock = some g ∧ w.heap.size ≤ g) : E.OwnC w' B C v' (xs ++ [x]) := by
  have hsep' : ∀ d, d ∈ xs ++ [x] → ∀ g, E.blk d g → g < w.heap.size ∧ v.ownBlock ≠ some g ∧ E.In w d := by
    intro d hm g hb
    rcases List.mem_append.1 hm with hm | hm
    · exact ⟨E.lt _ _ _ (hk.ins d hm) hb, hk.sep d hm g hb, hk.ins d hm⟩
    · obtain rfl := List.mem_singleton.1 hm
      exact ⟨E.lt _ _ _ hin hb, hsep g hb, hin⟩
  have hin' : ∀ d ∈ xs ++ [x], E.In w d := by
    intro d hm
    rcases List.mem_append.1 hm with hm | hm
    · exact hk.ins d hm
    · obtain rfl := List.mem_singleton.1 hm
      exact hin
  refine ⟨?_, fun d hm => E.keep _ _ _ (hin' d hm) (fun g hb => ?_), fun d hm g hb => ?_, fun d hm g hb e => ?_⟩
  · rw [all_append, List.length_append]
    have e : E.all [x] = E.cs x := by simp [all]
    rw [e]
    exact h2
  · obtain ⟨h6, h7, _⟩ := hsep' d hm g hb
    exact h3.block g h6 (fun e => h7 e.symm)
  · rcases List.mem_append.1 hm with hm | hm
    · exact hk.new d hm g hb
    · obtain rfl := List.mem_singleton.1 hm
      exact hnew g hb
  · obtain ⟨h6, h7, _⟩ := hsep' d hm g hb
    rcases hat with h5 | ⟨g2, h5, h8⟩
    · exact h7 (h5 ▸ e)
    · rw [h5] at e
      cases e
      omega
/-- what a program knows of such elements -/
structure Info (P : Program) (E : El α) (TS : TypeId) (z : Value) (bytes : Nat) : Prop where
  und : P.underlying TS = some (.slice E.T)
  info : (P.info? E.T).map (fun i => (i.zero, i.size, i.bytes)) = some (some z, E.n, bytes)
  zs : z.cells.size = E.n
/-- 'append(s, x)' in a region: the element was laid at g -/
theorem step_app {P : Program} {TS : TypeId} {z : Value} {bytes : Nat} (hI : Info P E TS z bytes) (hby : bytes ≤ 100000) {w : World} {B C : Nat} {v : Value} {xs : List α} {x : α} {ops : Array Oper} {o : Oper} {a : Act} {K : Act → World → Prop} {Q : Exit → Act → World → Prop} {F : Prop} (hgd : o.guard = none) (s y : Operand)
    (ho : o.op = .call { callee := .builtin .append, args := #[s, y], argTypes := #[TS, TS] })
    (hs : a.eval s = v) (hk : E.OwnC w B C v xs) (hin : E.In w x) (hnew : ∀ g, E.blk x g → C ≤ g) (hsep : ∀ g, E.blk x g → v.ownBlock ≠ some g) (g cap : Nat)
    (hx : a.eval y = .slice (some ⟨g, 0, none⟩) 1 cap) (hcs : ∀ j u, (E.cs x)[j]? = some u → w.cell? ((⟨g, 0, none⟩ : Addr).add j) = some u) (hlen : xs.length + 1 ≤ 1000000000) (hB : B ≤ w.heap.size)
    (h : ∀ a' c' w', E.OwnC w' B C (.slice a' (xs.length + 1) c') (xs ++ [x]) → w.grownBy w' v.ownBlock → ((Value.slice a' (xs.length + 1) c').ownBlock = v.ownBlock ∨ ∃ g, (Value.slice a' (xs.length + 1) c').ownBlock = some g ∧ w.heap.size ≤ g) → K (a.put o.dst (.slice a' (xs.length + 1) c')) w') :
    if Region.wanted o (yielded ops a.tmps) = true then Oper.wp P o a w K Q else F := by
  obtain ⟨i, hi, hz, hsz, hbb⟩ := info_parts hI.info
  refine step_append_lies (P := P) w hgd s y TS ho B E.T i z E.n bytes hI.und hi hz hsz hbb hI.zs E.pos v xs.length (E.all xs) hs hk.own
    ⟨g, 0, none⟩ 1 cap (E.cs x) hx (by rw [E.len, Nat.one_mul]) hcs (E.one x) (by decide) (by unfold maxLen; omega) ?_ hB _ rfl ?_
  · have := Nat.mul_le_mul hlen hby
    omega
  intro g' cap' w' h2 h3 hat _
  have hat' : (Value.slice (some ⟨g', 0, none⟩) (xs.length + 1) cap').ownBlock = v.ownBlock ∨ ∃ g, (Value.slice (some ⟨g', 0, none⟩) (xs.length + 1) cap').ownBlock = some g ∧ w.heap.size ≤ g := by
    rcases hat with h5 | h5
    · exact .inl h5.symm
    · exact .inr ⟨g', rfl, by omega⟩
  exact h _ _ w' (hk.more hin hnew hsep h2 h3 hat') h3 hat'
/-- 'append(s, x)' in a list of operations: the element has just been laid -/
theorem wpList_app {P : Program} {TS : TypeId} {z : Value} {bytes : Nat} (hI : Info P E TS z bytes) (hby : bytes ≤ 100000) {w : World} {B C : Nat} {v : Value} {xs : List α} {x : α} {cs : Array Value} {ops : Array Oper} {rest : List Oper} {o : Oper} {a : Act} {Q : Exit → Act → World → Prop} (hgd : o.guard = none) (s y : Operand)
    (ho : o.op = .call { callee := .builtin .append, args := #[s, y], argTypes := #[TS, TS] })
    (hs : a.eval s = v) (hk : E.OwnC w B C v xs) (hcs : cs.toList = E.cs x) (hin : E.In w x) (hnew : ∀ g, E.blk x g → C ≤ g) (hsep : ∀ g, E.blk x g → v.ownBlock ≠ some g)
    (hx : a.eval y = .slice (some ⟨w.heap.size, 0, none⟩) 1 1) (hlen : xs.length + 1 ≤ 1000000000) (hB : B ≤ w.heap.size)
    (h : ∀ a' c' w', E.OwnC w' B C (.slice a' (xs.length + 1) c') (xs ++ [x]) → w.grownBy w' v.ownBlock → ((Value.slice a' (xs.length + 1) c').ownBlock = v.ownBlock ∨ ∃ g, (Value.slice a' (xs.length + 1) c').ownBlock = some g ∧ w.heap.size ≤ g) → wpList P ops Q rest (a.put o.dst (.slice a' (xs.length + 1) c')) w') :
    wpList P ops Q (o :: rest) a (w.alloc (.cells cs E.T)) := by
  obtain ⟨i, hi, hz, hsz, hbb⟩ := info_parts hI.info
  have hk1 := hk.alloc (.cells cs E.T)
  refine wpList_append_own_at (w := w.alloc (.cells cs E.T)) (P := P) hgd s y TS ho B E.T i z E.n bytes hI.und hi hz hsz hbb hI.zs E.pos v xs.length (E.all xs) hs hk1.own
    ⟨w.heap.size, 0, none⟩ 1 1 (E.cs x) hx (by rw [E.len, Nat.one_mul]) ?_ (E.one x) (by unfold maxLen; omega) ?_ (by simp; omega) ?_
  · intro j u hj
    have hn := World.alloc_heap_new w (.cells cs E.T)
    have hc := cell_of_row (w.alloc (.cells cs E.T)) w.heap.size j cs _ (0, 0) hn
    have ea : ((⟨w.heap.size, 0, none⟩ : Addr).add j) = ⟨w.heap.size, j, none⟩ := by unfold Addr.add; split <;> simp_all
    rw [ea, hc, ← hj, ← hcs]
    simp
  · have := Nat.mul_le_mul hlen hby
    omega
  · intro v' w' h2 h3 h4 h5
    have hg : w.grownBy w' v.ownBlock := grown_trans1 (World.grownBy_alloc w _ _) h3
    have hat : v'.ownBlock = v.ownBlock ∨ ∃ g, v'.ownBlock = some g ∧ w.heap.size ≤ g := by
      rcases h5 with h5 | h5
      · exact .inl h5
      · exact .inr ⟨_, h5, by simp⟩
    have hm := hk.more hin hnew hsep h2 hg hat
    obtain ⟨a', c', rfl, _⟩ := hm.slice
    simp only [List.length_append, List.length_cons, List.length_nil, Nat.zero_add] at hm hat ⊢
    exact h _ _ w' hm hg hat
end El
end Go.Proofs.YtefokfbgpfcbkaaGreat
