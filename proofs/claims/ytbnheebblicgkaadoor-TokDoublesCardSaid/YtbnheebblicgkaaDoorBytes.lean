/- A []byte that the call makes: what it owns, append of a byte and of a string, string(b). -/
import Derived.Test.YtbnheebblicgkaaDoorLib
import Derived.Lib.Strings
import Derived.Laws.IdiomStrings
import Derived.Laws.BytesArg
namespace Go.Proofs.YtbnheebblicgkaaDoor
set_option linter.unusedVariables false
set_option linter.unusedSimpArgs false
open Go.RowKit
def bc (b : UInt8) : Value := .int .u8 (b.toNat : Int)
/-- the slice value v owns the bytes l: it is nil, or starts a row of the call's own, from block B on -/
def OwnB (w : World) (B : Nat) (e : TypeId) (v : Value) (l : List UInt8) : Prop := w.ownsRow B e 1 v l.length (l.map bc)
theorem grown_of_below {w w' : World} (hb : Below w.heap.size w w') (row : Option Nat) : w.grownBy w' row := ⟨hb.os, hb.tape, hb.output, hb.size, fun k hk _ => hb.block k hk⟩
theorem owns_below {w w' : World} {B n : Nat} {e : TypeId} {size : Nat} {v : Value} {xs : List Value} (h : w.ownsRow B e size v n xs) (hb : Below w.heap.size w w') : w'.ownsRow B e size v n xs :=
  h.kept (grown_of_below hb none) (by cases v.ownBlock <;> simp)
section
variable {w w' : World} {B : Nat} {e : TypeId} {v : Value} {l : List UInt8}
theorem OwnB.nil (w : World) (B : Nat) (e : TypeId) : OwnB w B e (.slice none 0 0) [] := World.ownsRow_nil w B e 1
theorem OwnB.below (h : OwnB w B e v l) (hb : Below w.heap.size w w') : OwnB w' B e v l := owns_below h hb
theorem OwnB.alloc (h : OwnB w B e v l) (o : Obj) : OwnB (w.alloc o) B e v l := World.ownsRow.alloc h o
theorem OwnB.drew (h : OwnB w B e v l) : OwnB w.drew B e v l := h
theorem OwnB.drewN (h : OwnB w B e v l) (n : Nat) : OwnB (w.drewN n) B e v l := h
theorem OwnB.lt (h : OwnB w B e v l) : ∀ k, v.ownBlock = some k → B ≤ k ∧ k < w.heap.size := World.ownsRow.lt h
theorem OwnB.lit (w : World) {B : Nat} (e : TypeId) (cs : Array Value) (l : List UInt8) (hB : B ≤ w.heap.size) (hl : l.length ≤ maxLen) (hc : cs.toList = l.map bc) :
    OwnB (w.alloc (.cells cs e)) B e (.slice (some ⟨w.heap.size, 0, none⟩) l.length l.length) l := by
  have hs : cs.size = l.length * 1 := by rw [← Array.length_toList, hc]; simp
  have := World.ownsRow_lit (base := B) (e := e) (size := 1) w cs l.length hB hl hs
  rw [hc] at this
  exact this
/-- one byte: 'append(v, c)' -/
theorem wpList_app1 {P : Program} {ops : Array Oper} {rest : List Oper} {o : Oper} {a : Act} {Q : Exit → Act → World → Prop} (hgd : o.guard = none) (s x : Operand) (t : TypeId)
    (ho : o.op = .call { callee := .builtin .append, args := #[s, x], argTypes := #[t, t] }) (ht : P.underlying t = some (.slice e))
    (hE : (P.info? e).map (fun i => (i.zero, i.size, i.bytes)) = some (some (.int .u8 0), 1, 1))
    (hs : a.eval s = v) (hown : OwnB w B e v l) (z : Int) (h0 : 0 ≤ z) (h1 : z < 256) (hx : a.eval x = .slice (some ⟨w.heap.size, 0, none⟩) 1 1)
    (hlen : l.length < 1099511627776) (hB : B ≤ w.heap.size)
    (h : ∀ v' w', OwnB w' B e v' (l ++ [UInt8.ofNat z.toNat]) → (w.alloc (.cells #[.int .u8 z] e)).grownBy w' v.ownBlock → (v'.ownBlock = v.ownBlock ∨ v'.ownBlock = some (w.alloc (.cells #[.int .u8 z] e)).heap.size) → wpList P ops Q rest (a.put o.dst v') w') :
    wpList P ops Q (o :: rest) a (w.alloc (.cells #[.int .u8 z] e)) := by
  obtain ⟨i, hi, hz, hsz, hby⟩ := info_parts hE
  obtain ⟨n, rfl⟩ := Int.eq_ofNat_of_zero_le h0
  have hn : ((UInt8.ofNat n).toNat : Int) = (n : Int) := by simp; omega
  refine wpList_append_own_at (w := w.alloc (.cells #[.int .u8 n] e)) (P := P) hgd s x t ho B e i (.int .u8 0) 1 1 ht hi hz hsz hby rfl (by decide) v l.length (l.map bc) hs (World.ownsRow.alloc hown _)
    ⟨w.heap.size, 0, none⟩ 1 1 [.int .u8 n] hx rfl (cell_one_new _ _ _) (by intro u hu; simp at hu; subst hu; rfl) (by unfold maxLen; omega) (by omega) (by simp; omega) ?_
  intro v' w' h2 h3 _ h5
  refine h v' w' ?_ h3 h5
  unfold OwnB
  have e1 : (l ++ [UInt8.ofNat (n : Int).toNat]).map bc = l.map bc ++ [.int .u8 n] := by
    rw [List.map_append]
    simp only [Int.toNat_natCast, List.map_cons, List.map_nil, bc, hn]
  rw [e1, List.length_append]
  exact h2
/-- one byte, at a step of a region that draws its order -/
theorem step_app1 {P : Program} {ops : Array Oper} {o : Oper} {a : Act} {K : Act → World → Prop} {Q : Exit → Act → World → Prop} {E : Prop} (hgd : o.guard = none) (s x : Operand) (t : TypeId)
    (ho : o.op = .call { callee := .builtin .append, args := #[s, x], argTypes := #[t, t] }) (ht : P.underlying t = some (.slice e))
    (hE : (P.info? e).map (fun i => (i.zero, i.size, i.bytes)) = some (some (.int .u8 0), 1, 1))
    (hs : a.eval s = v) (hown : OwnB w B e v l) (z : Int) (h0 : 0 ≤ z) (h1 : z < 256) (ad : Addr) (hx : a.eval x = .slice (some ad) 1 1) (hc : ∀ j u, [Value.int .u8 z][j]? = some u → w.cell? (ad.add j) = some u)
    (hlen : l.length < 1099511627776) (hB : B ≤ w.heap.size)
    (h : ∀ v' w', OwnB w' B e v' (l ++ [UInt8.ofNat z.toNat]) → w.grownBy w' v.ownBlock → K (a.put o.dst v') w') :
    if Region.wanted o (yielded ops a.tmps) = true then Oper.wp P o a w K Q else E := by
  obtain ⟨i, hi, hz, hsz, hby⟩ := info_parts hE
  obtain ⟨n, rfl⟩ := Int.eq_ofNat_of_zero_le h0
  have hn : ((UInt8.ofNat n).toNat : Int) = (n : Int) := by simp; omega
  have hw : Region.wanted o (yielded ops a.tmps) = true := by simp [Region.wanted, hgd]
  rw [if_pos hw]
  refine wp_append_own (w := w) (P := P) s x t ho B e i (.int .u8 0) 1 1 ht hi hz hsz hby rfl (by decide) v l.length (l.map bc) hs hown
    ad 1 1 [.int .u8 n] hx rfl hc (by intro u hu; simp at hu; subst hu; rfl) (by unfold maxLen; omega) (by omega) hB ?_
  intro v' w' h2 h3 _
  refine h v' w' ?_ h3
  unfold OwnB
  have e1 : (l ++ [UInt8.ofNat (n : Int).toNat]).map bc = l.map bc ++ [.int .u8 n] := by
    rw [List.map_append]
    simp only [Int.toNat_natCast, List.map_cons, List.map_nil, bc, hn]
  rw [e1, List.length_append]
  exact h2
/-- a string: 'append(v, s...)' -/
theorem wpList_appS {P : Program} {ops : Array Oper} {rest : List Oper} {o : Oper} {a : Act} {Q : Exit → Act → World → Prop} (hgd : o.guard = none) (s x : Operand) (t u : TypeId)
    (ho : o.op = .call { callee := .builtin .append, args := #[s, x], argTypes := #[t, u] }) (ht : P.underlying t = some (.slice e)) (hu : P.underlying u = some .string)
    (hE : (P.info? e).map (fun i => (i.zero, i.size, i.bytes)) = some (some (.int .u8 0), 1, 1))
    (hs : a.eval s = v) (hown : OwnB w B e v l) (b : ByteArray) (hx : a.eval x = .string b)
    (hlen : l.length + b.size < 1099511627776) (hB : B ≤ w.heap.size)
    (h : ∀ v' w', OwnB w' B e v' (l ++ b.data.toList) → w.grownBy w' v.ownBlock → wpList P ops Q rest (a.put o.dst v') w') :
    wpList P ops Q (o :: rest) a w := by
  obtain ⟨i, hi, hz, hsz, hby⟩ := info_parts hE
  refine Lib.wpList_append_own_string w hgd s x t u ho B e i ht hu hi hz hsz hby v l.length (l.map bc) hs hown b hx (by unfold maxLen; omega) (by omega) hB ?_
  intro v' w' h2 h3 _
  refine h v' w' ?_ h3
  unfold OwnB
  have e1 : Lib.strCells b = b.data.toList.map bc := by
    simp [Lib.strCells]
    intro a _; rfl
  rw [e1, ← List.map_append, Lib.size_eq, ← List.length_append] at h2
  exact h2
/-- 'string(v)' -/
theorem conv_own {P : Program} (src dst : TypeId) (hs : P.underlying src = some (.slice e)) (he : P.underlying e = some (.int .u8)) (hd : P.underlying dst = some .string) (h : OwnB w B e v l) :
    (convert src dst v).run P w = .ok (.string ⟨l.toArray⟩) w := by
  rcases h.2 with ⟨rfl, h0⟩ | ⟨g, cap, cur, rfl, hg, hb, hn, hm, hc, ht⟩
  · have : l = [] := List.eq_nil_of_length_eq_zero h0
    subst this
    exact run_convert_bytes_nil w src e hs he 0 0 dst hd
  · refine run_convert_bytes_back w src dst e ⟨g, 0, none⟩ cap l hs he hd (fun j hj => ?_)
    have := World.ownsRow.cells h (g := g) rfl j (bc l[j]) (by simp [List.getElem?_eq_getElem hj])
    exact this
theorem below_app1 {w0 : World} {o : Obj} (hb : Below w0.heap.size w0 w) (hown : OwnB w w0.heap.size e v l) (hg : (w.alloc o).grownBy w' v.ownBlock) : Below w0.heap.size w0 w' :=
  (hb.alloc hb.size o).grown hg (by have := hb.size; simp; omega) (fun k hk => (hown.lt k hk).1)
theorem below_appS {w0 : World} (hb : Below w0.heap.size w0 w) (hown : OwnB w w0.heap.size e v l) (hg : w.grownBy w' v.ownBlock) : Below w0.heap.size w0 w' :=
  hb.grown hg hb.size (fun k hk => (hown.lt k hk).1)
theorem below_drewN {a : World} {B n : Nat} (h : Below B a w) : Below B a (w.drewN n) := ⟨h.os, h.tape, h.output, h.size, h.block⟩
end
end Go.Proofs.YtbnheebblicgkaaDoor
