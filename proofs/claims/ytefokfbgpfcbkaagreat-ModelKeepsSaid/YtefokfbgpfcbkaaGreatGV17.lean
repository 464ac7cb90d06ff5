/- walks of layer 17: line.odd.; walks of layer 17: line.Strip.; walks of layer 17: line.check.; walks of layer 17: line.All.; walks of strings.Builder's writing methods, strings.Repeat at a blank, and line.Join -/
import Derived.Test.YtefokfbgpfcbkaaGreatGW03
import Derived.Test.YtefokfbgpfcbkaaGreatGP
import Derived.Test.YtefokfbgpfcbkaaGreatShelf
import Derived.Test.YtefokfbgpfcbkaaGreatGW17
import Derived.Test.YtefokfbgpfcbkaaGreatGA
import Derived.Lib.Builder
import Derived.Lib.OthersKept
namespace Go.Proofs.YtefokfbgpfcbkaaGreat
set_option linter.unusedVariables false
set_option linter.unusedSimpArgs false
open Go.RowKit
end Go.Proofs.YtefokfbgpfcbkaaGreat
namespace Go.Proofs.YtefokfbgpfcbkaaGreat
set_option linter.unusedVariables false
set_option linter.unusedSimpArgs false
open Go.RowKit
def blAt (l : List UInt8) (k : Nat) : Bool := k == 0 || l[k - 1]? == some 32
theorem i34 (c : UInt8) : ((c.toNat : Int) == 34) = (c == 34) := by revert c; apply all_bytes; decide +kernel
theorem i35 (c : UInt8) : ((c.toNat : Int) == 35) = (c == 35) := by revert c; apply all_bytes; decide +kernel
theorem i92 (c : UInt8) : ((c.toNat : Int) == 92) = (c == 92) := by revert c; apply all_bytes; decide +kernel
theorem i32 (c : UInt8) : ((c.toNat : Int) == 32) = (c == 32) := by revert c; apply all_bytes; decide +kernel
theorem blAt_succ (s : ByteArray) (k : Nat) (h : k < s.size) : blAt s.data.toList (k + 1) = (s[k] == 32) := by
  unfold blAt
  rw [Nat.add_sub_cancel, Lib.data_getElem? s k h]
  have : (k + 1 == 0) = false := by simp
  rw [this, Bool.false_or]
  cases hc : (s[k] == 32)
  · simp at hc ⊢; exact hc
  · simp at hc ⊢; exact hc
theorem remark_step (s : ByteArray) (k : Nat) (w t : Bool) (h : k < s.size) :
    remarkAt (blAt s.data.toList k) w t k (s.data.toList.drop k) =
      if t then remarkAt (blAt s.data.toList (k + 1)) w false (k + 1) (s.data.toList.drop (k + 1))
      else if w && s[k] == 92 then remarkAt (blAt s.data.toList (k + 1)) w true (k + 1) (s.data.toList.drop (k + 1))
      else if s[k] == 34 then remarkAt (blAt s.data.toList (k + 1)) (!w) false (k + 1) (s.data.toList.drop (k + 1))
      else if w || s[k] != 35 then remarkAt (blAt s.data.toList (k + 1)) w false (k + 1) (s.data.toList.drop (k + 1))
      else if blAt s.data.toList k then k
      else remarkAt (blAt s.data.toList (k + 1)) w false (k + 1) (s.data.toList.drop (k + 1)) := by
  have hl : k < s.data.toList.length := by rw [← Lib.size_eq]; exact h
  rw [List.drop_eq_getElem_cons hl, remarkAt, blAt_succ s k h]
  rfl
theorem remark_end (s : ByteArray) (k : Nat) (b w t : Bool) (h : s.size ≤ k) : remarkAt b w t k (s.data.toList.drop k) = k := by
  rw [List.drop_eq_nil_of_le (by rw [← Lib.size_eq]; exact h), remarkAt]
theorem strip_at {s : ByteArray} {k : Nat} (h : remarkAt true false false 0 s.data.toList = k) : strip17 s.data.toList = trimR (s.extract 0 k).data.toList := by
  rw [strip17, h, Lib.extract_data, List.drop_zero, Nat.sub_zero]
theorem extract_full (s : ByteArray) : s.extract 0 s.size = s := by
  rw [Lib.extract_eq, List.drop_zero, Nat.sub_zero, List.take_of_length_le (by rw [← Lib.size_eq]; exact Nat.le_refl _)]
end Go.Proofs.YtefokfbgpfcbkaaGreat
namespace Go.Proofs.YtefokfbgpfcbkaaGreat
set_option linter.unusedVariables false
set_option linter.unusedSimpArgs false
open Go.RowKit Go.Shelf
attribute [local go_sem] Oper.semAt_some
/-- where an odd byte stands first, by lines -/
def oddLine (s : List UInt8) : Option Nat := (lines17 s).findIdx? (·.any oddB)
/-- what is wrong with a text: 2: ErrLong, 9: ErrUtf, 3: ErrForm; and in which line -/
def check17 (s : List UInt8) : Int × Int :=
  if 1048576 < s.length then (2, 0)
  else if 0 ≤ P03.first s then (9, (Lib.countByte (s.take (P03.first s).toNat) 10 : Int) + 1)
  else match oddLine s with
    | some i => (3, (i : Int) + 1)
    | none => (0, 0)
def faultV (f : Int × Int) : Value := .agg #[.int .i64 f.1, .int .i64 f.2]
theorem firstBad_bd : ∀ (f p : Nat) (l : List UInt8), P03.firstBad f p l ≤ (p : Int) + l.length
  | 0, p, l => by unfold P03.firstBad; omega
  | f + 1, p, l => by
    unfold P03.firstBad
    split
    · omega
    · split
      · omega
      · rename_i h0 h1
        have h2 := P03.one_bd l (by omega)
        have h3 := firstBad_bd f (p + (P03.one l).1.toNat) (l.drop (P03.one l).1.toNat)
        rw [List.length_drop] at h3
        omega
theorem first_bd (l : List UInt8) : P03.first l ≤ l.length := by
  have := firstBad_bd (l.length + 1) 0 l
  unfold P03.first
  omega
theorem two_set0 {W : World} {g : Nat} {t : TypeId} {a b : Value} (h : W.heap[g]? = some (.cells #[a, b] t)) (v : Value) : (W.setCell ⟨g, 0, none⟩ v).heap[g]? = some (.cells #[v, b] t) := by
  obtain ⟨hlt, hk⟩ := Array.getElem?_eq_some_iff.1 h
  show (W.heap.modify g _)[g]? = _
  rw [Array.getElem?_eq_getElem (by rw [Array.size_modify]; exact hlt), Array.getElem_modify_self, hk]
  rfl
theorem two_set1 {W : World} {g : Nat} {t : TypeId} {a b : Value} (h : W.heap[g]? = some (.cells #[a, b] t)) (v : Value) : (W.setCell ⟨g, 1, none⟩ v).heap[g]? = some (.cells #[a, v] t) := by
  obtain ⟨hlt, hk⟩ := Array.getElem?_eq_some_iff.1 h
  show (W.heap.modify g _)[g]? = _
  rw [Array.getElem?_eq_getElem (by rw [Array.size_modify]; exact hlt), Array.getElem_modify_self, hk]
  rfl
theorem two_cell0 {W : World} {g : Nat} {t : TypeId} {a b : Value} (h : W.heap[g]? = some (.cells #[a, b] t)) : W.cell? ⟨g, 0, none⟩ = some a ∧ W.frozen? ⟨g, 0, none⟩ = false := by simp [World.cell?, World.frozen?, h]
theorem two_cell1 {W : World} {g : Nat} {t : TypeId} {a b : Value} (h : W.heap[g]? = some (.cells #[a, b] t)) : W.cell? ⟨g, 1, none⟩ = some b ∧ W.frozen? ⟨g, 1, none⟩ = false := by simp [World.cell?, World.frozen?, h]
theorem setCell_grown (W : World) (g i : Nat) (v : Value) : W.grownBy (W.setCell ⟨g, i, none⟩ v) (some g) :=
  ⟨rfl, rfl, rfl, (KeepsWalks.setCell W _ v).size, fun k _ hk => Below.heap_setCell _ _ _ k (fun e => hk (by rw [e]))⟩
theorem KeepsT.of_below {T : Nat → Prop} {V V' : World} (h : Below V.heap.size V V') : KeepsT T V V' := ⟨h.size, fun r _ hl => h.block r hl⟩
theorem below_set {w V : World} (h : Below w.heap.size w V) (i : Nat) (v : Value) {D : Nat} (hD : w.heap.size ≤ D) : Below w.heap.size w (V.setCell ⟨D, i, none⟩ v) :=
  h.grown (setCell_grown V D i v) h.size (fun k e => by cases e; exact hD)
theorem numbered_inv {s : List UInt8} {i : Nat} {x : Nat × List UInt8} (h : (numbered s)[i]? = some x) : x.1 = i + 1 ∧ (lines17 s)[i]? = some x.2 := by
  unfold numbered at h
  rw [List.getElem?_map, List.getElem?_zipIdx] at h
  unfold lines17
  rw [List.getElem?_map]
  cases hr : (rawL s)[i]? with
  | none => rw [hr] at h; simp at h
  | some l => rw [hr] at h; simp at h; subst h; exact ⟨rfl, rfl⟩
theorem oddLine_some {s : List UInt8} {i : Nat} {l : List UInt8} (h0 : ∀ j l, j < i → (lines17 s)[j]? = some l → l.any oddB = false) (h : (lines17 s)[i]? = some l) (ho : l.any oddB = true) : oddLine s = some i := by
  unfold oddLine
  obtain ⟨hi, hl⟩ := List.getElem?_eq_some_iff.1 h
  rw [List.findIdx?_eq_some_iff_getElem]
  refine ⟨hi, by rw [hl]; exact ho, fun j hj => ?_⟩
  rw [h0 j _ hj (List.getElem?_eq_getElem (Nat.lt_trans hj hi))]
  simp
theorem oddLine_none {s : List UInt8} (h0 : ∀ j l, j < (lines17 s).length → (lines17 s)[j]? = some l → l.any oddB = false) : oddLine s = none := by
  unfold oddLine
  rw [List.findIdx?_eq_none_iff]
  intro l hl
  obtain ⟨j, hj, rfl⟩ := List.mem_iff_getElem.1 hl
  exact h0 j _ hj (List.getElem?_eq_getElem hj)
theorem numbered_lines (s : List UInt8) : (numbered s).length = (lines17 s).length := by rw [numbered_len]; simp [lines17]
theorem lines17_le {s l : List UInt8} (h : l ∈ lines17 s) : l.length ≤ s.length := by
  unfold lines17 at h
  obtain ⟨r, hr, rfl⟩ := List.mem_map.1 h
  have := rawL_mem s r hr
  unfold chop
  split
  · simp; omega
  · exact this
end Go.Proofs.YtefokfbgpfcbkaaGreat
namespace Go.Proofs.YtefokfbgpfcbkaaGreat
set_option linter.unusedVariables false
set_option linter.unusedSimpArgs false
open Go.RowKit Go.Shelf
attribute [local go_sem] Oper.semAt_some
/-- what a line has: its number, how far it is moved in, its text -/
def rowOf (k : Nat) (l : List UInt8) : Option (Nat × Nat × List UInt8) :=
  if trimL (strip17 l) = [] then none else some (k + 1, (strip17 l).length - (trimL (strip17 l)).length, trimL (strip17 l))
def rowsFrom : Nat → List (List UInt8) → List (Nat × Nat × List UInt8)
  | _, [] => []
  | k, l :: r => match rowOf k l with
    | none => rowsFrom (k + 1) r
    | some x => x :: rowsFrom (k + 1) r
/-- a text's lines that have something -/
def rows17 (s : List UInt8) : List (Nat × Nat × List UInt8) := rowsFrom 0 (lines17 s)
theorem rowsFrom_snoc : ∀ (k : Nat) (ls : List (List UInt8)) (l : List UInt8), rowsFrom k (ls ++ [l]) = rowsFrom k ls ++ (rowOf (k + ls.length) l).toList
  | k, [], l => by
    show (match rowOf k l with | none => [] | some x => [x]) = (rowOf k l).toList
    cases rowOf k l <;> rfl
  | k, a :: r, l => by
    have ih := rowsFrom_snoc (k + 1) r l
    have e : k + 1 + r.length = k + (a :: r).length := by simp; omega
    rw [e] at ih
    show (match rowOf k a with | none => rowsFrom (k + 1) (r ++ [l]) | some x => x :: rowsFrom (k + 1) (r ++ [l])) = (match rowOf k a with | none => rowsFrom (k + 1) r | some x => x :: rowsFrom (k + 1) r) ++ _
    cases rowOf k a
    · exact ih
    · simp only; rw [ih]; rfl
theorem rowsFrom_len : ∀ (k : Nat) (ls : List (List UInt8)), (rowsFrom k ls).length ≤ ls.length
  | k, [] => Nat.le_refl _
  | k, a :: r => by
    have ih := rowsFrom_len (k + 1) r
    unfold rowsFrom
    split <;> simp <;> omega
def rowCells (r : Nat × Nat × List UInt8) : List Value := [.int .i64 r.1, .int .i64 r.2.1, bsOf r.2.2]
def rowsCells (rs : List (Nat × Nat × List UInt8)) : List Value := rs.flatMap rowCells
theorem rowsCells_snoc (rs : List (Nat × Nat × List UInt8)) (r : Nat × Nat × List UInt8) : rowsCells (rs ++ [r]) = rowsCells rs ++ rowCells r := by simp [rowsCells]
/-- the slice v of line.Line owns the rows rs, in blocks from base on -/
def OwnL (W : World) (base : Nat) (e : TypeId) (v : Value) (rs : List (Nat × Nat × List UInt8)) : Prop := W.ownsRow base e 3 v rs.length (rowsCells rs)
theorem ownsRow_base {W : World} {b b' : Nat} {e : TypeId} {size n : Nat} {v : Value} {xs : List Value} (h : W.ownsRow b e size v n xs) (hb : b' ≤ b) : W.ownsRow b' e size v n xs := by
  refine ⟨h.1, ?_⟩
  rcases h.2 with h1 | ⟨g, cap, cur, h1, h2, h3⟩
  · exact .inl h1
  · exact .inr ⟨g, cap, cur, h1, Nat.le_trans hb h2, h3⟩
theorem results_tmp_cell {fn : Func} {p u : Tmp} {ty : TypeId} (h : fn.results = #[.tmp u, .cell p ty]) (tmps : Array Value) (P : Program) (w : World) (g : Nat) (v : Value)
    (hp : tmps.getD p undef = .pointer (some ⟨g, 0, none⟩)) (hl : (loadVar ty ⟨g, 0, none⟩).run P w = .ok v w) :
    (results fn tmps).run P w = .ok (.tuple #[tmps.getD u undef, v]) w := by
  have hp' : tmps[p]?.getD undef = .pointer (some ⟨g, 0, none⟩) := by simpa using hp
  simp [results, h, hp', asAddr, Sem.run_bind, Result.andThen, hl]
theorem below_drew {a : World} {B : Nat} {w : World} (h : Below B a w) : Below B a w.drew := ⟨h.os, h.tape, h.output, h.size, h.block⟩
theorem below_drewN' {a : World} {B n : Nat} {w : World} (h : Below B a w) : Below B a (w.drewN n) := ⟨h.os, h.tape, h.output, h.size, h.block⟩
theorem check_zero {s : List UInt8} (h : (check17 s).1 = 0) : check17 s = (0, 0) := by
  unfold check17 at h ⊢
  split at h
  · simp at h
  · rename_i h1
    rw [if_neg h1]
    split at h
    · simp at h
    · rename_i h2
      rw [if_neg h2]
      split at h
      · simp at h
      · rfl
theorem ownsRow_span {W V : World} {row : Option Nat} {base : Nat} {e : TypeId} {size n : Nat} {v : Value} {xs : List Value} (h : W.ownsRow base e size v n xs) (hg : W.grownBy V row) (hr : ∀ r, row = some r → r < base) : V.ownsRow base e size v n xs := by
  refine h.kept hg ?_
  cases hv : v.ownBlock with
  | none => exact .inl rfl
  | some k =>
    refine .inr fun e => ?_
    have := (h.lt k hv).1
    have := hr k e.symm
    omega
theorem cells3_new (W : World) (a b c : Value) (t : TypeId) : ∀ j u, [a, b, c][j]? = some u → (W.alloc (.cells #[a, b, c] t)).cell? ((⟨W.heap.size, 0, none⟩ : Addr).add j) = some u := by
  have key : ∀ (X : World) (g : Nat), X.heap[g]? = some (.cells #[a, b, c] t) → X.cell? ⟨g, 0, none⟩ = some a ∧ X.cell? ⟨g, 1, none⟩ = some b ∧ X.cell? ⟨g, 2, none⟩ = some c := by
    intro X g h
    simp [World.cell?, h]
  obtain ⟨k0, k1, k2⟩ := key _ _ (World.alloc_heap_new W (.cells #[a, b, c] t))
  intro j u h
  match j, h with
  | 0, h => simp at h; subst h; exact k0
  | 1, h => simp at h; subst h; exact k1
  | 2, h => simp at h; subst h; exact k2
theorem trimL_len (l : List UInt8) : (trimL l).length ≤ l.length := (List.dropWhile_suffix _).length_le
theorem strip_len (l : List UInt8) : (strip17 l).length ≤ l.length := by
  unfold strip17 trimR
  rw [List.length_reverse]
  refine Nat.le_trans ((List.dropWhile_suffix _).length_le) ?_
  rw [List.length_reverse, List.length_take]
  omega
theorem rows_step {s : List UInt8} {i : Nat} {l : List UInt8} (h : (lines17 s)[i]? = some l) : rowsFrom 0 ((lines17 s).take (i + 1)) = rowsFrom 0 ((lines17 s).take i) ++ (rowOf i l).toList := by
  have hi : i < (lines17 s).length := (List.getElem?_eq_some_iff.1 h).1
  rw [List.take_add_one, h, show (some l).toList = [l] from rfl, rowsFrom_snoc, List.length_take, Nat.zero_add, Nat.min_eq_left (Nat.le_of_lt hi)]
theorem row_cells {i : Nat} {l : List UInt8} {tb ob : ByteArray} (HT : tb.data.toList = strip17 l) (HO : ob.data.toList = trimL tb.data.toList) (hne : ob.data.toList ≠ []) (hl : l.length ≤ 1048576) :
    ∃ r, rowOf i l = some r ∧ rowCells r = [.int .i64 ((i : Int) + 1), .int .i64 (wrap64 ((tb.size : Int) - (ob.size : Int))), .string ob] := by
  have h1 : ob.size ≤ tb.size := by rw [Lib.size_eq, Lib.size_eq, HO]; exact trimL_len _
  have h2 : tb.size ≤ 1048576 := by rw [Lib.size_eq, HT]; exact Nat.le_trans (strip_len l) hl
  rw [HT] at HO
  refine ⟨(i + 1, tb.size - ob.size, ob.data.toList), ?_, ?_⟩
  · rw [rowOf, if_neg (by rw [← HO]; exact hne), Lib.size_eq tb, Lib.size_eq ob, HT, HO]
  · have h3 : wrap64 ((tb.size : Int) - (ob.size : Int)) = ((tb.size - ob.size : Nat) : Int) := by unfold wrap64; omega
    rw [h3]
    rfl
theorem row_none {i : Nat} {l : List UInt8} {tb ob : ByteArray} (HT : tb.data.toList = strip17 l) (HO : ob.data.toList = trimL tb.data.toList) (hne : ob.data.toList = []) : rowOf i l = none := by
  rw [HT] at HO
  rw [rowOf, if_pos (by rw [← HO]; exact hne)]
theorem box_ne {W : World} {B base : Nat} {e : TypeId} {size n : Nat} {v : Value} {xs : List Value} (h : W.ownsRow base e size v n xs) (hB : B < base) : some B ≠ v.ownBlock := fun e => by have := (h.lt B e.symm).1; omega
end Go.Proofs.YtefokfbgpfcbkaaGreat
namespace Go.Proofs.YtefokfbgpfcbkaaGreat
set_option linter.unusedVariables false
set_option linter.unusedSimpArgs false
open Go.RowKit Go.Shelf
theorem bldByteInfo : (Tryz.prog.info? 5).map (fun i => (i.zero, i.size, i.bytes)) = some (some (.int .u8 0), 1, 1) := by kernel_rfl
theorem grownBy_set (w : World) (b j : Nat) (v : Value) : w.grownBy (w.setCell ⟨b, j, none⟩ v) (some b) := setCell_grown w b j v
theorem kind_of_own {w : World} {B : Nat} {e : TypeId} {v : Value} {l : List UInt8} (h : OwnB w B e v l) : ∀ g, v.ownBlock = some g → ∃ c fz, w.heap[g]? = some (.cells c e fz) := by
  intro g hg
  rcases h.2 with ⟨rfl, _⟩ | ⟨g', cap, cur, rfl, _, h3, _⟩
  · simp [Value.ownBlock] at hg
  · simp only [Value.ownBlock, Option.some.injEq] at hg
    subst hg
    exact ⟨cur, _, h3⟩
theorem others_grown {w w' : World} {b : Nat} (h : w.grownBy w' (some b)) : Lib.OthersKept 5 (some b) w w' := fun k o h1 h2 h3 => by
  refine (h.block k ?_ (fun e => ?_)).trans h1
  · exact (Array.getElem?_eq_some_iff.1 h1).1
  · exact absurd e (by simpa using h2)
theorem own_slice {w : World} {B : Nat} {e : TypeId} {size n : Nat} {v : Value} {xs : List Value} (h : w.ownsRow B e size v n xs) : ∃ ao m cap, v = .slice ao m cap := by
  rcases h.2 with ⟨hv, h0⟩ | ⟨g, cap, cur, hv, _⟩
  · exact ⟨_, _, _, hv⟩
  · exact ⟨_, _, _, hv⟩
/-- strings.Repeat of a blank, at most 100 times -/
theorem hasPrefix_blank (l : List UInt8) : Lib.hasPrefix (32 :: l) [32] = true := by simp [Lib.hasPrefix]
end Go.Proofs.YtefokfbgpfcbkaaGreat
