/- Small lemmas of no program: hiding facts, spelling of results, facts on all bytes.; Rows of the program's table of types that the walks want.; A []byte that the call makes: what it owns, append of a byte and of a string, string(b).; A range over a function whose iterator keeps cells of its own: which blocks are the iterator's is said ahead (T); the caller's invariant does not mind what becomes of them, the caller's round leaves them.; The law for a range over a function whose iterator makes memory in every round. -/
import Derived.WalkKit
import Derived.WalkSpells
import Derived.WalkLawsBesides
import Derived.BigQuiet
import Derived.Deep.QuietTactic
import Derived.Laws.BitsAllLaws
import Derived.Deep.LoopGhost
import Derived.Deep.DeepCutAuto
import Derived.Deep.RegionHeld3
import Derived.Maps.AppendAt
import Derived.Deep.AppendLies
import Derived.RegionTactic
import Derived.OwnWalk
import Derived.Deep.Draws
import Derived.Laws.Rows
import Derived.Laws.OwnMore
import Derived.Lib.OthersKept
import Derived.Deep.DeepFit
import Derived.Lib.ConvBytes
import Derived.Laws.MakeOwn
import Derived.Lib.AppendStr
import Derived.Test.YtefokfbgpfcbkaaGreatRows
import Derived.KernelRfl
import Derived.Lib.Strings
import Derived.Laws.IdiomStrings
import Derived.Laws.BytesArg
import Derived.RangeFuncNested
import Derived.RangeFuncBound
import Derived.RangeFuncCalls
import Derived.RangeFuncLeaves
import Derived.Shelf.Abstract
import Derived.Shelf.RegionOpen
import Derived.OwnWalkIn
import Derived.TacticsInMore
import Derived.LoopNIn
import Derived.LoopIn
namespace Go.Proofs.YtefokfbgpfcbkaaGreat
set_option linter.unusedVariables false
set_option linter.unusedSimpArgs false
open Go.RowKit
theorem nb {b : Bool} (h : b = false) : ¬ b = true := by simp [h]
theorem hide {p : Prop} (h : p) : Hid p := h
theorem unhide {p : Prop} (h : Hid p) : p := h
theorem ret_bool {a b : Bool} (h : a = b) : Ending.returned (.bool a) = .returned (.bool b) := by rw [h]
theorem ret_int {k : IntKind} {a b : Int} (h : a = b) : Ending.returned (.int k a) = .returned (.int k b) := by rw [h]
theorem ret_str {a b : ByteArray} (h : a = b) : Ending.returned (.string a) = .returned (.string b) := by rw [h]
theorem ret_tup2 {k1 k2 : IntKind} {a b c d : Int} (h1 : a = c) (h2 : b = d) : Ending.returned (.tuple #[.int k1 a, .int k2 b]) = .returned (.tuple #[.int k1 c, .int k2 d]) := by rw [h1, h2]
theorem all_bytes {p : UInt8 → Prop} (h : ∀ n, n < 256 → p (UInt8.ofNat n)) (c : UInt8) : p c := by
  have := h c.toNat c.toNat_lt
  simpa using this
theorem quiet_add {P : Program} {f : FuncId} {args : Array Value} {w : World} {a n : Nat} {v : Value}
    (h : Calls P f args (w.drewN (a + n)) fun e w' => e = .returned v ∧ ∃ m, w' = (w.drewN (a + n)).drewN m) :
    Calls P f args (w.drewN (a + n)) fun e w'' => e = .returned v ∧ ∃ m, w'' = w.drewN (a + m) :=
  h.mono fun _ _ ⟨he, m, hm⟩ => ⟨he, n + m, by rw [hm, World.drewN_drewN, Nat.add_assoc]⟩
theorem quiet_add_same {P : Program} {f : FuncId} {args : Array Value} {w : World} {a n : Nat} {v : Value}
    (h : Calls P f args (w.drewN (a + n)) fun e w' => e = .returned v ∧ w' = w.drewN (a + n)) :
    Calls P f args (w.drewN (a + n)) fun e w'' => e = .returned v ∧ ∃ m, w'' = w.drewN (a + m) :=
  h.mono fun _ _ ⟨he, hm⟩ => ⟨he, n, hm⟩
theorem quiet_add_left {P : Program} {f : FuncId} {args : Array Value} {w : World} {a n : Nat} {v : Value}
    (h : Calls P f args (w.drewN (a + n)) fun e w' => e = .returned v ∧ w.drewN (a + n) = w') :
    Calls P f args (w.drewN (a + n)) fun e w'' => e = .returned v ∧ ∃ m, w'' = w.drewN (a + m) :=
  h.mono fun _ _ ⟨he, hm⟩ => ⟨he, n, hm.symm⟩
theorem quiet_left {P : Program} {f : FuncId} {args : Array Value} {w : World} {n : Nat} {v : Value}
    (h : Calls P f args (w.drewN n) fun e w' => e = .returned v ∧ w.drewN n = w') : Calls P f args (w.drewN n) fun e w'' => e = .returned v ∧ ∃ m, w'' = w.drewN m :=
  h.mono fun _ _ ⟨he, hm⟩ => ⟨he, n, hm.symm⟩
end Go.Proofs.YtefokfbgpfcbkaaGreat
namespace Go.Proofs.YtefokfbgpfcbkaaGreat
set_option linter.unusedVariables false
set_option linter.unusedSimpArgs false
theorem byteInfo : (Tryz.prog.info? 5).map (fun i => (i.zero, i.size, i.bytes)) = some (some (.int .u8 0), 1, 1) := by kernel_rfl
end Go.Proofs.YtefokfbgpfcbkaaGreat
namespace Go.Proofs.YtefokfbgpfcbkaaGreat
set_option linter.unusedVariables false
set_option linter.unusedSimpArgs false
open Go.RowKit
def bc (b : UInt8) : Value := .int .u8 (b.toNat : Int)
/-- the slice value v owns the bytes l: it is nil, or starts a row of the call's own, from block B on -/
def OwnB (w : World) (B : Nat) (e : TypeId) (v : Value) (l : List UInt8) : Prop := w.ownsRow B e 1 v l.length (l.map bc)
theorem grown_of_below {w w' : World} (hb : Below w.heap.size w w') (row : Option Nat) : w.grownBy w' row := ⟨hb.os, hb.tape, hb.output, hb.size, fun k hk _ => hb.block k hk⟩
theorem owns_below {w w' : World} {B n : Nat} {e : TypeId} {size : Nat} {v : Value} {xs : List Value} (h : w.ownsRow B e size v n xs) (hb : Below w.heap.size w w') : w'.ownsRow B e size v n xs :=
  h.kept (grown_of_below hb none) (by cases v.ownBlock <;> simp)
section
variable {w w' : World} {B : Nat} {e : TypeId} {v : Value} {l : List UInt8}
theorem OwnB.nil (w : World) (B : Nat) (e : TypeId) : OwnB w B e (.slice none 0 0) [] := World.ownsRow_nil w B e 1
theorem OwnB.below (h : OwnB w B e v l) (hb : Below w.heap.size w w') : OwnB w' B e v l := owns_below h hb
theorem OwnB.alloc (h : OwnB w B e v l) (o : Obj) : OwnB (w.alloc o) B e v l := World.ownsRow.alloc h o
theorem OwnB.drew (h : OwnB w B e v l) : OwnB w.drew B e v l := h
theorem OwnB.drewN (h : OwnB w B e v l) (n : Nat) : OwnB (w.drewN n) B e v l := h
theorem OwnB.lt (h : OwnB w B e v l) : ∀ k, v.ownBlock = some k → B ≤ k ∧ k < w.heap.size := World.ownsRow.lt h
theorem OwnB.lit (w : World) {B : Nat} (e : TypeId) (cs : Array Value) (l : List UInt8) (hB : B ≤ w.heap.size) (hl : l.length ≤ maxLen) (hc : cs.toList = l.map bc) :
    OwnB (w.alloc (.cells cs e)) B e (.slice (some ⟨w.heap.size, 0, none⟩) l.length l.length) l := by
  have hs : cs.size = l.length * 1 := by rw [← Array.length_toList, hc]; simp
  have := World.ownsRow_lit (base := B) (e := e) (size := 1) w cs l.length hB hl hs
  rw [hc] at this
  exact this
/-- one byte: 'append(v, c)' -/
theorem wpList_app1 {P : Program} {ops : Array Oper} {rest : List Oper} {o : Oper} {a : Act} {Q : Exit → Act → World → Prop} (hgd : o.guard = none) (s x : Operand) (t : TypeId)
    (ho : o.op = .call { callee := .builtin .append, args := #[s, x], argTypes := #[t, t] }) (ht : P.underlying t = some (.slice e))
    (hE : (P.info? e).map (fun i => (i.zero, i.size, i.bytes)) = some (some (.int .u8 0), 1, 1))
    (hs : a.eval s = v) (hown : OwnB w B e v l) (z : Int) (h0 : 0 ≤ z) (h1 : z < 256) (hx : a.eval x = .slice (some ⟨w.heap.size, 0, none⟩) 1 1)
    (hlen : l.length < 1099511627776) (hB : B ≤ w.heap.size)
    (h : ∀ v' w', OwnB w' B e v' (l ++ [UInt8.ofNat z.toNat]) → (w.alloc (.cells #[.int .u8 z] e)).grownBy w' v.ownBlock → (v'.ownBlock = v.ownBlock ∨ v'.ownBlock = some (w.alloc (.cells #[.int .u8 z] e)).heap.size) → wpList P ops Q rest (a.put o.dst v') w') :
    wpList P ops Q (o :: rest) a (w.alloc (.cells #[.int .u8 z] e)) := by
  obtain ⟨i, hi, hz, hsz, hby⟩ := info_parts hE
  obtain ⟨n, rfl⟩ := Int.eq_ofNat_of_zero_le h0
  have hn : ((UInt8.ofNat n).toNat : Int) = (n : Int) := by simp; omega
  refine wpList_append_own_at (w := w.alloc (.cells #[.int .u8 n] e)) (P := P) hgd s x t ho B e i (.int .u8 0) 1 1 ht hi hz hsz hby rfl (by decide) v l.length (l.map bc) hs (World.ownsRow.alloc hown _)
    ⟨w.heap.size, 0, none⟩ 1 1 [.int .u8 n] hx rfl (cell_one_new _ _ _) (by intro u hu; simp at hu; subst hu; rfl) (by unfold maxLen; omega) (by omega) (by simp; omega) ?_
  intro v' w' h2 h3 _ h5
  refine h v' w' ?_ h3 h5
  unfold OwnB
  have e1 : (l ++ [UInt8.ofNat (n : Int).toNat]).map bc = l.map bc ++ [.int .u8 n] := by
    rw [List.map_append]
    simp only [Int.toNat_natCast, List.map_cons, List.map_nil, bc, hn]
  rw [e1, List.length_append]
  exact h2
/-- one byte, at a step of a region that draws its order -/
theorem step_app1 {P : Program} {ops : Array Oper} {o : Oper} {a : Act} {K : Act → World → Prop} {Q : Exit → Act → World → Prop} {E : Prop} (hgd : o.guard = none) (s x : Operand) (t : TypeId)
    (ho : o.op = .call { callee := .builtin .append, args := #[s, x], argTypes := #[t, t] }) (ht : P.underlying t = some (.slice e))
    (hE : (P.info? e).map (fun i => (i.zero, i.size, i.bytes)) = some (some (.int .u8 0), 1, 1))
    (hs : a.eval s = v) (hown : OwnB w B e v l) (z : Int) (h0 : 0 ≤ z) (h1 : z < 256) (ad : Addr) (hx : a.eval x = .slice (some ad) 1 1) (hc : ∀ j u, [Value.int .u8 z][j]? = some u → w.cell? (ad.add j) = some u)
    (hlen : l.length < 1099511627776) (hB : B ≤ w.heap.size)
    (h : ∀ v' w', OwnB w' B e v' (l ++ [UInt8.ofNat z.toNat]) → w.grownBy w' v.ownBlock → K (a.put o.dst v') w') :
    if Region.wanted o (yielded ops a.tmps) = true then Oper.wp P o a w K Q else E := by
  obtain ⟨i, hi, hz, hsz, hby⟩ := info_parts hE
  obtain ⟨n, rfl⟩ := Int.eq_ofNat_of_zero_le h0
  have hn : ((UInt8.ofNat n).toNat : Int) = (n : Int) := by simp; omega
  have hw : Region.wanted o (yielded ops a.tmps) = true := by simp [Region.wanted, hgd]
  rw [if_pos hw]
  refine wp_append_own (w := w) (P := P) s x t ho B e i (.int .u8 0) 1 1 ht hi hz hsz hby rfl (by decide) v l.length (l.map bc) hs hown
    ad 1 1 [.int .u8 n] hx rfl hc (by intro u hu; simp at hu; subst hu; rfl) (by unfold maxLen; omega) (by omega) hB ?_
  intro v' w' h2 h3 _
  refine h v' w' ?_ h3
  unfold OwnB
  have e1 : (l ++ [UInt8.ofNat (n : Int).toNat]).map bc = l.map bc ++ [.int .u8 n] := by
    rw [List.map_append]
    simp only [Int.toNat_natCast, List.map_cons, List.map_nil, bc, hn]
  rw [e1, List.length_append]
  exact h2
/-- a string: 'append(v, s...)' -/
theorem wpList_appS {P : Program} {ops : Array Oper} {rest : List Oper} {o : Oper} {a : Act} {Q : Exit → Act → World → Prop} (hgd : o.guard = none) (s x : Operand) (t u : TypeId)
    (ho : o.op = .call { callee := .builtin .append, args := #[s, x], argTypes := #[t, u] }) (ht : P.underlying t = some (.slice e)) (hu : P.underlying u = some .string)
    (hE : (P.info? e).map (fun i => (i.zero, i.size, i.bytes)) = some (some (.int .u8 0), 1, 1))
    (hs : a.eval s = v) (hown : OwnB w B e v l) (b : ByteArray) (hx : a.eval x = .string b)
    (hlen : l.length + b.size < 1099511627776) (hB : B ≤ w.heap.size)
    (h : ∀ v' w', OwnB w' B e v' (l ++ b.data.toList) → w.grownBy w' v.ownBlock → wpList P ops Q rest (a.put o.dst v') w') :
    wpList P ops Q (o :: rest) a w := by
  obtain ⟨i, hi, hz, hsz, hby⟩ := info_parts hE
  refine Lib.wpList_append_own_string w hgd s x t u ho B e i ht hu hi hz hsz hby v l.length (l.map bc) hs hown b hx (by unfold maxLen; omega) (by omega) hB ?_
  intro v' w' h2 h3 _
  refine h v' w' ?_ h3
  unfold OwnB
  have e1 : Lib.strCells b = b.data.toList.map bc := by
    simp [Lib.strCells]
    intro a _; rfl
  rw [e1, ← List.map_append, Lib.size_eq, ← List.length_append] at h2
  exact h2
/-- 'string(v)' -/
theorem conv_own {P : Program} (src dst : TypeId) (hs : P.underlying src = some (.slice e)) (he : P.underlying e = some (.int .u8)) (hd : P.underlying dst = some .string) (h : OwnB w B e v l) :
    (convert src dst v).run P w = .ok (.string ⟨l.toArray⟩) w := by
  rcases h.2 with ⟨rfl, h0⟩ | ⟨g, cap, cur, rfl, hg, hb, hn, hm, hc, ht⟩
  · have : l = [] := List.eq_nil_of_length_eq_zero h0
    subst this
    exact run_convert_bytes_nil w src e hs he 0 0 dst hd
  · refine run_convert_bytes_back w src dst e ⟨g, 0, none⟩ cap l hs he hd (fun j hj => ?_)
    have := World.ownsRow.cells h (g := g) rfl j (bc l[j]) (by simp [List.getElem?_eq_getElem hj])
    exact this
theorem below_app1 {w0 : World} {o : Obj} (hb : Below w0.heap.size w0 w) (hown : OwnB w w0.heap.size e v l) (hg : (w.alloc o).grownBy w' v.ownBlock) : Below w0.heap.size w0 w' :=
  (hb.alloc hb.size o).grown hg (by have := hb.size; simp; omega) (fun k hk => (hown.lt k hk).1)
theorem below_appS {w0 : World} (hb : Below w0.heap.size w0 w) (hown : OwnB w w0.heap.size e v l) (hg : w.grownBy w' v.ownBlock) : Below w0.heap.size w0 w' :=
  hb.grown hg hb.size (fun k hk => (hown.lt k hk).1)
theorem below_drewN {a : World} {B n : Nat} (h : Below B a w) : Below B a (w.drewN n) := ⟨h.os, h.tape, h.output, h.size, h.block⟩
end
end Go.Proofs.YtefokfbgpfcbkaaGreat
namespace Go.Proofs.YtefokfbgpfcbkaaGreat
set_option linter.unusedVariables false
set_option linter.unusedSimpArgs false
open Go.RowKit
variable {F : Fence} {n : Nat} {P : Program}

theorem grownBy_none_trans {A B C : World} (h : A.grownBy B none) (k : B.grownBy C none) : A.grownBy C none :=
  ⟨k.os.trans h.os, k.tape.trans h.tape, k.output.trans h.output, Nat.le_trans h.size k.size,
    fun i hi hn => (k.block i (Nat.lt_of_lt_of_le hi h.size) (by simp)).trans (h.block i hi (by simp))⟩

/-- The blocks of T lie as they lay. -/
structure KeepsT (T : Nat → Prop) (W W' : World) : Prop where
  size : W.heap.size ≤ W'.heap.size
  same : ∀ r, T r → r < W.heap.size → W'.heap[r]? = W.heap[r]?

theorem KeepsT.refl (T : Nat → Prop) (W : World) : KeepsT T W W := ⟨Nat.le_refl _, fun _ _ _ => rfl⟩
theorem KeepsT.trans {T : Nat → Prop} {A B C : World} (h : KeepsT T A B) (k : KeepsT T B C) : KeepsT T A C :=
  ⟨Nat.le_trans h.size k.size, fun r hr hl => (k.same r hr (Nat.lt_of_lt_of_le hl h.size)).trans (h.same r hr hl)⟩
theorem KeepsT.mono {T T' : Nat → Prop} {A B : World} (h : KeepsT T A B) (hs : ∀ r, T' r → T r) : KeepsT T' A B :=
  ⟨h.size, fun r hr hl => h.same r (hs r hr) hl⟩
theorem KeepsT.of_grownBy {T : Nat → Prop} {W W' : World} {row : Option Nat} (hg : W.grownBy W' row) (hr : ∀ r, row = some r → ¬ T r) : KeepsT T W W' :=
  ⟨hg.size, fun r hT hl => hg.block r hl (fun e => hr r e.symm hT)⟩
theorem KeepsT.alloc (T : Nat → Prop) (W : World) (o : Obj) : KeepsT T W (W.alloc o) := .of_grownBy (World.grownBy_alloc W o none) (fun r e => by cases e)
theorem KeepsT.drew (T : Nat → Prop) (W : World) : KeepsT T W W.drew := ⟨Nat.le_refl _, fun _ _ _ => rfl⟩

/-- A state of the caller's does not mind what becomes of the blocks of T. -/
def AbidesT {β : Type} (T : Nat → Prop) (J : β → World → Prop) : Prop :=
  ∀ s W W' row, J s W → W.grownBy W' row → (∀ r, row = some r → T r) → J s W'

theorem AbidesT.alloc {β : Type} {T : Nat → Prop} {J : β → World → Prop} (h : AbidesT T J) {s : β} {W : World} (o : Obj) (hs : J s W) : J s (W.alloc o) :=
  h s W _ none hs (World.grownBy_alloc W o none) (fun r e => by cases e)
theorem AbidesT.putObj {β : Type} {T : Nat → Prop} {J : β → World → Prop} (h : AbidesT T J) {s : β} {W : World} {l : Nat} (o : Obj) (hs : J s W) (hl : T l) : J s (W.putObj l o) :=
  h s W _ (some l) hs (grownBy_putObj' W l o) (fun r e => by cases e; exact hl)
theorem AbidesT.mono {β : Type} {T T' : Nat → Prop} {J : β → World → Prop} (h : AbidesT T J) (hs : ∀ r, T' r → T r) : AbidesT T' J :=
  fun s W W' row hj hg hr => h s W W' row hj hg (fun r e => hs r (hr r e))

/-- The iterator's word: every value of L comes, one after another, but that a round may say 'no more'. Its own blocks are those of T; k of them it lays first. -/
def SeqT {α : Type} (F : Fence) (n : Nat) (P : Program) (g : Nat) (lb : Array Value) (encs : α → Array Value) (L : List α) (T : Nat → Prop) (k : Nat) (W : World) : Prop :=
  ∀ (l : Nat) (J Jx : Nat → World → Prop), AbidesT T J → AbidesT T Jx →
    (∀ i x W1, L[i]? = some x → J i W1 → W.heap.size + k ≤ W1.heap.size → YieldAt F (n - 1) P l (encs x) W1 fun e W' =>
      (e = .returned (.bool true) ∧ J (i + 1) W' ∧ KeepsT T W1 W') ∨ (e = .returned (.bool false) ∧ Jx (i + 1) W' ∧ KeepsT T W1 W')) →
    J 0 W →
    CallsIn F n P g (#[.func (.yield l) #[] #[]] ++ lb) W fun e W' => (∃ v, e = .returned v) ∧ (J L.length W' ∨ ∃ i, i ≤ L.length ∧ Jx i W')

/-- How the body of a round may be left. -/
def postT (T : Nat → Prop) (I : Nat → World → Prop) (Ix : Code → Nat → World → Prop) (i : Nat) (W : World) : Exit → Act → World → Prop
  | .normal, _, W' => KeepsT T W W' ∧ I (i + 1) W'
  | .ret, _, W' => KeepsT T W W' ∧ Ix .ret (i + 1) W'
  | .exit id, _, W' => KeepsT T W W' ∧ Ix (.exit id) (i + 1) W'
  | .goto t, _, W' => KeepsT T W W' ∧ Ix (.goto t) (i + 1) W'
  | _, _, _ => False

/-- The blocks that are not the caller's: the iterator's own from before (C), and those from lo to hi. -/
def Span (C : Nat → Prop) (lo hi : Nat) (r : Nat) : Prop := C r ∨ (lo ≤ r ∧ r < hi)

/-- **The statement 'for .. := range g { .. }'.** -/
theorem wpIn_rangeFunc_T {α : Type} {g : Operand} {ps : Array Tmp} {assign body : Code} {Q : Exit → Act → World → Prop} {a : Act} {w : World}
    (hro : F.round = none) (h1 : 1 ≤ n) {gf : Nat} {lb : Array Value} (hg : a.eval g = .func (.func gf) #[] lb) (hFg : F.fn gf)
    (eg : ∀ args w, (callFunc gf args).run P w = .ok (.enter gf args) w)
    {encs : α → Array Value} (L : List α) (C : Nat → Prop) (k : Nat) (hC : ∀ r, C r → r < w.heap.size)
    (hseq : ∀ W, w.grownBy W none → W.heap.size = w.heap.size + 2 → SeqT F (n - 1) P gf lb encs L (Span C (w.heap.size + 2) (w.heap.size + 2 + k)) k W)
    (hps : ∀ x, (encs x).size = ps.size)
    (I : Nat → World → Prop) (Ix : Code → Nat → World → Prop)
    (hI : AbidesT (Span C w.heap.size (w.heap.size + 2 + k)) I) (hIx : ∀ c, AbidesT (Span C w.heap.size (w.heap.size + 2 + k)) (Ix c)) (h0 : I 0 w) (a₁ : α → Act)
    (hassign : ∀ (l : Nat) (x : α) (W : World) (K : Act → World → Prop), K (a₁ x) W →
      assign.wpIn (F.inRound l) (n - 1 - 1) P (Exit.then K (fun _ _ _ => False)) { tmps := (ps.zip (encs x)).foldl (fun t (p, v) => t.setIfInBounds p v) a.tmps, defers := [] } W)
    (hbody : ∀ (l i : Nat) (x : α) (W : World), L[i]? = some x → I i W → w.heap.size + 2 + k ≤ W.heap.size →
      body.wpIn (F.inRound l) (n - 1 - 1) P (postT (Span C w.heap.size (w.heap.size + 2 + k)) I Ix i W) (a₁ x) W)
    (hdone : ∀ (D : Nat) (W : World), D = w.heap.size → I L.length W → W.heap[D]? = some (.deferred (some [])) →
      Q .normal { a with defers := { target := .collected D, args := #[] } :: a.defers } W)
    (hstop : ∀ (D : Nat) (c : Code) (i : Nat) (W : World), D = w.heap.size → i ≤ L.length → Ix c i W → W.heap[D]? = some (.deferred (some [])) →
      c.wpIn F n P Q { a with defers := { target := .collected D, args := #[] } :: a.defers } W) :
    (Code.rangeFunc g ps assign body).wpIn F n P Q a w := by
  refine wpIn_rangeFunc fun fn hfn => ?_
  rw [hro]
  let rec0 : LoopState → Option Code → Loop := fun st pe => { state := st, pending := pe, fn, tmps := a.tmps, params := ps, assign, body, defers := w.heap.size }
  obtain ⟨rc, hrc⟩ : ∃ rc, rc = rec0 := ⟨_, rfl⟩
  obtain ⟨W1, hW1⟩ : ∃ W1, (w.alloc (.deferred (some []))).alloc (.loop (rc .ready none)) = W1 := ⟨_, rfl⟩
  have hsz : W1.heap.size = w.heap.size + 2 := by rw [← hW1]; simp
  have hgr : w.grownBy W1 none := by rw [← hW1]; exact grownBy_none_trans (World.grownBy_alloc w _ none) (World.grownBy_alloc _ _ none)
  have hL1 : W1.heap[w.heap.size + 1]? = some (.loop (rc .ready none)) := by
    rw [← hW1]; have := World.alloc_heap_new (w.alloc (.deferred (some []))) (.loop (rc .ready none)); rwa [World.size_alloc] at this
  have hK1 : W1.heap[w.heap.size]? = some (.deferred (some [])) := by
    rw [← hW1]; exact (Below.heap_alloc _ _ _ (by simp)).trans (World.alloc_heap_new w _)
  refine ⟨w.heap.size + 1, [{ target := .collected w.heap.size, args := #[] }], W1, { target := .fn (.func gf) lb, args := #[.func (.yield (w.heap.size + 1)) #[] #[]] }, W1, gf,
    #[.func (.yield (w.heap.size + 1)) #[] #[]] ++ lb, W1, ?_, ?_, ?_, ?_, fun _ => h1, ?_⟩
  · rw [← hW1, hrc]; exact run_enterLoop_outer _ _ _ _ _
  · simp only [resolve, hg]
    simp [go_sem]
  · intro f' hf'; simp [Target.leads] at hf'; subst hf'; exact hFg
  · simp [invoke, go_sem, eg]
  · have hI1 : I 0 W1 := hI 0 w W1 none h0 hgr (fun r e => by cases e)
    have hsub : ∀ r, Span C (w.heap.size + 2) (w.heap.size + 2 + k) r → Span C w.heap.size (w.heap.size + 2 + k) r := fun r hr => hr.imp id (fun h => ⟨by omega, h.2⟩)
    have hne : ∀ r, Span C (w.heap.size + 2) (w.heap.size + 2 + k) r → r ≠ w.heap.size ∧ r ≠ w.heap.size + 1 := fun r hr => by
      rcases hr with hr | hr
      · have := hC r hr; omega
      · omega
    have hst : ∀ {A B : World} {row : Option Nat} {q : Nat} {o : Obj}, A.grownBy B row → (∀ r, row = some r → Span C (w.heap.size + 2) (w.heap.size + 2 + k) r) → (q = w.heap.size ∨ q = w.heap.size + 1) →
        A.heap[q]? = some o → B.heap[q]? = some o := fun {A B row q o} hg hr hq ho =>
      (hg.block q (Array.getElem?_eq_some_iff.1 ho).1 (fun e => by have := hne q (hr q e.symm); omega)).trans ho
    refine (hseq W1 hgr hsz (w.heap.size + 1)
      (fun i W => I i W ∧ W.heap[w.heap.size + 1]? = some (.loop (rc .ready none)) ∧ W.heap[w.heap.size]? = some (.deferred (some [])))
      (fun i W => ∃ c, Ix c i W ∧ W.heap[w.heap.size + 1]? = some (.loop (rc .done (some c))) ∧ W.heap[w.heap.size]? = some (.deferred (some [])))
      (fun s A B row hs hg' hr => ⟨hI s A B row hs.1 hg' (fun r e => hsub r (hr r e)), hst hg' hr (.inr rfl) hs.2.1, hst hg' hr (.inl rfl) hs.2.2⟩)
      (fun s A B row hs hg' hr => by
        obtain ⟨c, hc, hl, hk⟩ := hs
        exact ⟨c, hIx c s A B row hc hg' (fun r e => hsub r (hr r e)), hst hg' hr (.inr rfl) hl, hst hg' hr (.inl rfl) hk⟩)
      ?_ ⟨hI1, hL1, hK1⟩).mono ?_
    · rintro i x W hx ⟨hi, hl, hk⟩ hlen
      have hT0 : Span C w.heap.size (w.heap.size + 2 + k) w.heap.size := .inr ⟨Nat.le_refl _, by omega⟩
      have hT1 : Span C w.heap.size (w.heap.size + 2 + k) (w.heap.size + 1) := .inr ⟨by omega, by omega⟩
      have hlt : w.heap.size + 1 < W.heap.size := (Array.getElem?_eq_some_iff.1 hl).1
      have hy := run_yield (P := P) (args := encs x) hl (by rw [hrc]; exact hps x)
      rw [hrc] at hy
      refine ⟨fn, _, assign, body, hy, roundIn_of_wpIn hfn (hassign _ x W _ ?_)⟩
      clear hy
      refine ⟨_, run_beginRound hl (by rw [hrc]), ?_⟩
      obtain ⟨W2, hW2⟩ : ∃ W2, W.putObj (w.heap.size + 1) (.loop { rc .ready none with state := .busy }) = W2 := ⟨_, rfl⟩
      rw [hW2]
      have hl2 : W2.heap[w.heap.size + 1]? = some (.loop { rc .ready none with state := .busy }) := by rw [← hW2]; exact World.putObj_heap_same hlt
      have hk2 : W2.heap[w.heap.size]? = some (.deferred (some [])) := by rw [← hW2]; exact (World.putObj_heap_other (by omega)).trans hk
      have hsz2 : W2.heap.size = W.heap.size := by rw [← hW2]; simp
      have hkeep : ∀ (W3 : World) (o : Obj), KeepsT (Span C w.heap.size (w.heap.size + 2 + k)) W2 W3 →
          KeepsT (Span C (w.heap.size + 2) (w.heap.size + 2 + k)) W (W3.putObj (w.heap.size + 1) o) := fun W3 o h3 =>
        ⟨by have := h3.size; simp; omega, fun r hr hrl => by
          have hn := hne r hr
          rw [World.putObj_heap_other hn.2, h3.same r (hsub r hr) (by omega), ← hW2, World.putObj_heap_other hn.2]⟩
      refine wpIn_mono (hbody _ i x W2 hx (by rw [← hW2]; exact hI.putObj _ hi hT1) (by omega)) ?_
      have fin : ∀ (jump : Option Code) (W3 : World), KeepsT (Span C w.heap.size (w.heap.size + 2 + k)) W2 W3 →
          (Instr.endRound (w.heap.size + 1) jump).run P W3 = .ok (.bool jump.isNone) (W3.putObj (w.heap.size + 1) (.loop (rc (if jump.isNone then .ready else .done) jump))) ∧
          (W3.putObj (w.heap.size + 1) (.loop (rc (if jump.isNone then .ready else .done) jump))).heap[w.heap.size + 1]? = some (.loop (rc (if jump.isNone then .ready else .done) jump)) ∧
          (W3.putObj (w.heap.size + 1) (.loop (rc (if jump.isNone then .ready else .done) jump))).heap[w.heap.size]? = some (.deferred (some [])) := fun jump W3 h3 => by
        have hl3 : W3.heap[w.heap.size + 1]? = some (.loop { rc .ready none with state := .busy }) := (h3.same _ hT1 (by omega)).trans hl2
        have := run_endRound (P := P) jump hl3
        rw [hrc] at this ⊢
        exact ⟨this, World.putObj_heap_same (Array.getElem?_eq_some_iff.1 hl3).1, (World.putObj_heap_other (by omega)).trans ((h3.same _ hT0 (by omega)).trans hk2)⟩
      rintro e a3 W3 hp
      cases e with
      | normal =>
        obtain ⟨hk3, hi3⟩ := hp
        obtain ⟨hr, hl4, hk4⟩ := fin none W3 hk3
        exact ⟨_, _, hr, .inl ⟨rfl, ⟨hI.putObj _ hi3 hT1, hl4, hk4⟩, hkeep W3 _ hk3⟩⟩
      | ret =>
        obtain ⟨hk3, hi3⟩ := hp
        obtain ⟨hr, hl4, hk4⟩ := fin (some .ret) W3 hk3
        exact ⟨_, _, hr, .inr ⟨rfl, ⟨.ret, (hIx _).putObj _ hi3 hT1, hl4, hk4⟩, hkeep W3 _ hk3⟩⟩
      | exit id =>
        obtain ⟨hk3, hi3⟩ := hp
        obtain ⟨hr, hl4, hk4⟩ := fin (some (.exit id)) W3 hk3
        exact ⟨_, _, hr, .inr ⟨rfl, ⟨.exit id, (hIx _).putObj _ hi3 hT1, hl4, hk4⟩, hkeep W3 _ hk3⟩⟩
      | goto t =>
        obtain ⟨hk3, hi3⟩ := hp
        obtain ⟨hr, hl4, hk4⟩ := fin (some (.goto t)) W3 hk3
        exact ⟨_, _, hr, .inr ⟨rfl, ⟨.goto t, (hIx _).putObj _ hi3 hT1, hl4, hk4⟩, hkeep W3 _ hk3⟩⟩
      | panic ch => exact hp.elim
      | outgrown => exact hp.elim
    · have hT1 : Span C w.heap.size (w.heap.size + 2 + k) (w.heap.size + 1) := .inr ⟨by omega, by omega⟩
      rintro e W2 ⟨⟨v, rfl⟩, (⟨hi, hl, hk⟩ | ⟨i, hle, c, hi, hl, hk⟩)⟩
      · exact ⟨none, _, by have := run_endLoop (P := P) hl (by rw [hrc]; simp [rec0]); rw [hrc] at this; exact this, hdone _ _ rfl (hI.putObj _ hi hT1) ((World.putObj_heap_other (by omega)).trans hk)⟩
      · exact ⟨some c, _, by have := run_endLoop (P := P) hl (by rw [hrc]; simp [rec0]); rw [hrc] at this; exact this, hstop _ c i _ rfl hle ((hIx c).putObj _ hi hT1) ((World.putObj_heap_other (by omega)).trans hk)⟩
end Go.Proofs.YtefokfbgpfcbkaaGreat
namespace Go.Proofs.YtefokfbgpfcbkaaGreat
set_option linter.unusedVariables false
set_option linter.unusedSimpArgs false
open Go.RowKit
variable {F : Fence} {n : Nat} {P : Program}

/-- A state of the caller's does not mind what becomes of blocks outside of M and R. -/
def AbidesM (R : Nat → Prop) (J : Nat → (Nat → Prop) → World → Prop) : Prop :=
  ∀ i M W W' row, J i M W → W.grownBy W' row → (∀ r, row = some r → ¬ M r ∧ ¬ R r) → J i M W'
theorem AbidesM.alloc {R : Nat → Prop} {J : Nat → (Nat → Prop) → World → Prop} (h : AbidesM R J) {i : Nat} {M : Nat → Prop} {W : World} (o : Obj) (hs : J i M W) : J i M (W.alloc o) :=
  h i M W _ none hs (World.grownBy_alloc W o none) (fun r e => by cases e)
theorem AbidesM.putObj {R : Nat → Prop} {J : Nat → (Nat → Prop) → World → Prop} (h : AbidesM R J) {i : Nat} {M : Nat → Prop} {W : World} {l : Nat} (o : Obj) (hs : J i M W) (hl : ¬ M l) (hr : ¬ R l) : J i M (W.putObj l o) :=
  h i M W _ (some l) hs (grownBy_putObj' W l o) (fun r e => by cases e; exact ⟨hl, hr⟩)
theorem AbidesM.setCell {R : Nat → Prop} {J : Nat → (Nat → Prop) → World → Prop} (h : AbidesM R J) {i : Nat} {M : Nat → Prop} {W : World} {l : Nat} (v : Value) (hs : J i M W) (hl : ¬ M l) (hr : ¬ R l) : J i M (W.setCell ⟨l, 0, none⟩ v) :=
  h i M W _ (some l) hs (grownBy_setCell' W l v) (fun r e => by cases e; exact ⟨hl, hr⟩)
theorem AbidesM.drew {R : Nat → Prop} {J : Nat → (Nat → Prop) → World → Prop} (h : AbidesM R J) {i : Nat} {M : Nat → Prop} {W : World} (hs : J i M W) : J i M W.drew :=
  h i M W _ none hs ⟨rfl, rfl, rfl, Nat.le_refl _, fun _ _ _ => rfl⟩ (fun r e => by cases e)
/-- Only blocks of M are written, or new ones; what may be written then is of M, or new. -/
structure KeepsM (M : Nat → Prop) (W : World) (M' : Nat → Prop) (W' : World) : Prop where
  size : W.heap.size ≤ W'.heap.size
  same : ∀ r, ¬ M r → r < W.heap.size → W'.heap[r]? = W.heap[r]?
  more : ∀ r, M' r → M r ∨ W.heap.size ≤ r
theorem KeepsM.refl (M : Nat → Prop) (W : World) : KeepsM M W M W := ⟨Nat.le_refl _, fun _ _ _ => rfl, fun _ h => .inl h⟩
theorem KeepsM.trans {M M1 M2 : Nat → Prop} {A B C : World} (h : KeepsM M A M1 B) (k : KeepsM M1 B M2 C) : KeepsM M A M2 C :=
  ⟨Nat.le_trans h.size k.size, fun r hr hl => (k.same r (fun h1 => (h.more r h1).elim hr (fun h2 => by omega)) (Nat.lt_of_lt_of_le hl h.size)).trans (h.same r hr hl),
   fun r hr => (k.more r hr).elim (h.more r) (fun h2 => .inr (Nat.le_trans h.size h2))⟩
theorem KeepsM.grown {M : Nat → Prop} {W W' : World} {row : Option Nat} (hg : W.grownBy W' row) (hr : ∀ r, row = some r → M r ∨ W.heap.size ≤ r) : KeepsM M W M W' :=
  ⟨hg.size, fun r hM hl => hg.block r hl (fun e => (hr r e.symm).elim hM (fun h => by omega)), fun _ h => .inl h⟩
/-- The iterator's word: every value of L comes, one after another, but that a round may say 'no more'. T: its own blocks from before. -/
def SeqM {α : Type} (F : Fence) (n : Nat) (P : Program) (g : Nat) (lb : Array Value) (encs : α → Array Value) (L : List α) (R T : Nat → Prop) (W : World) : Prop :=
  ∀ (l : Nat) (J Jx : Nat → (Nat → Prop) → World → Prop), AbidesM R J → AbidesM R Jx → (∀ i M V, J i M V → ∀ r, M r → r < V.heap.size ∧ ¬ R r) →
    (∀ i x M V, L[i]? = some x → J i M V → W.heap.size ≤ V.heap.size → YieldAt F (n - 1) P l (encs x) V fun e W' =>
      ∃ M', KeepsM M V M' W' ∧ ((e = .returned (.bool true) ∧ J (i + 1) M' W') ∨ (e = .returned (.bool false) ∧ Jx (i + 1) M' W'))) →
    ∀ M0, (∀ r, T r → ¬ M0 r ∧ ¬ R r) → J 0 M0 W →
    CallsIn F n P g (#[.func (.yield l) #[] #[]] ++ lb) W fun e W' => (∃ v, e = .returned v) ∧ ∃ M', J L.length M' W' ∨ ∃ i, i ≤ L.length ∧ Jx i M' W'
/-- How the body of a round may be left. -/
def postM (I : Nat → (Nat → Prop) → World → Prop) (Ix : Code → Nat → (Nat → Prop) → World → Prop) (i : Nat) (M : Nat → Prop) (W : World) : Exit → Act → World → Prop
  | .normal, _, W' => ∃ M', KeepsM M W M' W' ∧ I (i + 1) M' W'
  | .ret, _, W' => ∃ M', KeepsM M W M' W' ∧ Ix .ret (i + 1) M' W'
  | .exit id, _, W' => ∃ M', KeepsM M W M' W' ∧ Ix (.exit id) (i + 1) M' W'
  | .goto t, _, W' => ∃ M', KeepsM M W M' W' ∧ Ix (.goto t) (i + 1) M' W'
  | _, _, _ => False
/-- **The statement 'for .. := range g { .. }'**, where the round's variables may be boxes. -/
theorem wpIn_rangeFunc_MA {α : Type} {g : Operand} {ps : Array Tmp} {assign body : Code} {Q : Exit → Act → World → Prop} {a : Act} {w : World}
    (hro : F.round = none) (h1 : 1 ≤ n) {gf : Nat} {lb : Array Value} (hg : a.eval g = .func (.func gf) #[] lb) (hFg : F.fn gf)
    (eg : ∀ args w, (callFunc gf args).run P w = .ok (.enter gf args) w)
    {encs : α → Array Value} (L : List α) (R T : Nat → Prop) (hR : ∀ r, R r → r < w.heap.size)
    (hseq : ∀ W, w.grownBy W none → W.heap.size = w.heap.size + 2 → SeqM F (n - 1) P gf lb encs L R T W)
    (hps : ∀ x, (encs x).size = ps.size)
    (I : Nat → (Nat → Prop) → World → Prop) (Ix : Code → Nat → (Nat → Prop) → World → Prop)
    (hI : AbidesM R I) (hIx : ∀ c, AbidesM R (Ix c)) (hM : ∀ i M V, I i M V → ∀ r, M r → r < V.heap.size ∧ ¬ R r) (M0 : Nat → Prop) (hT : ∀ r, T r → r < w.heap.size ∧ ¬ M0 r ∧ ¬ R r) (h0 : I 0 M0 w)
    (B : Nat → α → (Nat → Prop) → Act → World → Prop)
    (hB : ∀ i x M a' V V' row, B i x M a' V → V.grownBy V' row → (∀ r, row = some r → ¬ M r ∧ ¬ R r) → B i x M a' V')
    (hassign : ∀ (l i : Nat) (x : α) (M : Nat → Prop) (W : World) (K : Act → World → Prop), L[i]? = some x → I i M W → w.heap.size + 2 ≤ W.heap.size →
      (∀ M' a' W', W.grownBy W' none → (∀ r, M' r → M r ∨ W.heap.size ≤ r) → B i x M' a' W' → K a' W') →
      assign.wpIn (F.inRound l) (n - 1 - 1) P (Exit.then K (fun _ _ _ => False)) { tmps := (ps.zip (encs x)).foldl (fun t (p, v) => t.setIfInBounds p v) a.tmps, defers := [] } W)
    (hbody : ∀ (l i : Nat) (x : α) (M : Nat → Prop) (a' : Act) (W : World), L[i]? = some x → B i x M a' W → w.heap.size + 2 ≤ W.heap.size →
      body.wpIn (F.inRound l) (n - 1 - 1) P (postM I Ix i M W) a' W)
    (hdone : ∀ (D : Nat) (M : Nat → Prop) (W : World), D = w.heap.size → ¬ M D → I L.length M W → W.heap[D]? = some (.deferred (some [])) →
      Q .normal { a with defers := { target := .collected D, args := #[] } :: a.defers } W)
    (hstop : ∀ (D : Nat) (c : Code) (i : Nat) (M : Nat → Prop) (W : World), D = w.heap.size → ¬ M D → i ≤ L.length → Ix c i M W → W.heap[D]? = some (.deferred (some [])) →
      c.wpIn F n P Q { a with defers := { target := .collected D, args := #[] } :: a.defers } W) :
    (Code.rangeFunc g ps assign body).wpIn F n P Q a w := by
  refine wpIn_rangeFunc fun fn hfn => ?_
  rw [hro]
  let rec0 : LoopState → Option Code → Loop := fun st pe => { state := st, pending := pe, fn, tmps := a.tmps, params := ps, assign, body, defers := w.heap.size }
  obtain ⟨rc, hrc⟩ : ∃ rc, rc = rec0 := ⟨_, rfl⟩
  obtain ⟨W1, hW1⟩ : ∃ W1, (w.alloc (.deferred (some []))).alloc (.loop (rc .ready none)) = W1 := ⟨_, rfl⟩
  have hsz : W1.heap.size = w.heap.size + 2 := by rw [← hW1]; simp
  have hgr : w.grownBy W1 none := by rw [← hW1]; exact grownBy_none_trans (World.grownBy_alloc w _ none) (World.grownBy_alloc _ _ none)
  have hL1 : W1.heap[w.heap.size + 1]? = some (.loop (rc .ready none)) := by
    rw [← hW1]; have := World.alloc_heap_new (w.alloc (.deferred (some []))) (.loop (rc .ready none)); rwa [World.size_alloc] at this
  have hK1 : W1.heap[w.heap.size]? = some (.deferred (some [])) := by
    rw [← hW1]; exact (Below.heap_alloc _ _ _ (by simp)).trans (World.alloc_heap_new w _)
  obtain ⟨D, hD⟩ : ∃ D, w.heap.size = D := ⟨_, rfl⟩
  rw [hD] at hL1 hK1 hsz
  have hRD : ∀ r, R r → r ≠ D ∧ r ≠ D + 1 := fun r hr => by have := hR r hr; omega
  refine ⟨w.heap.size + 1, [{ target := .collected w.heap.size, args := #[] }], W1, { target := .fn (.func gf) lb, args := #[.func (.yield (w.heap.size + 1)) #[] #[]] }, W1, gf,
    #[.func (.yield (w.heap.size + 1)) #[] #[]] ++ lb, W1, ?_, ?_, ?_, ?_, fun _ => h1, ?_⟩
  · rw [← hW1, hrc]; exact run_enterLoop_outer _ _ _ _ _
  · simp only [resolve, hg]
    simp [go_sem]
  · intro f' hf'; simp [Target.leads] at hf'; subst hf'; exact hFg
  · simp [invoke, go_sem, eg]
  · have hI1 : I 0 M0 W1 := hI 0 M0 w W1 none h0 hgr (fun r e => by cases e)
    rw [hD]
    have hst : ∀ {A B : World} {M : Nat → Prop} {row : Option Nat} {q : Nat} {o : Obj}, A.grownBy B row → (∀ r, row = some r → ¬ (M r ∨ r = D ∨ r = D + 1) ∧ ¬ R r) → (q = D ∨ q = D + 1) →
        A.heap[q]? = some o → B.heap[q]? = some o := fun {A B M row q o} hg hr hq ho =>
      (hg.block q (Array.getElem?_eq_some_iff.1 ho).1 (fun e => (hr q e.symm).1 (.inr hq))).trans ho
    refine (hseq W1 hgr (by omega) (D + 1)
      (fun i M' W => ∃ M, (M' = fun r => M r ∨ r = D ∨ r = D + 1) ∧ ¬ M D ∧ ¬ M (D + 1) ∧ I i M W ∧ W.heap[D + 1]? = some (.loop (rc .ready none)) ∧ W.heap[D]? = some (.deferred (some [])))
      (fun i M' W => ∃ M, (M' = fun r => M r ∨ r = D ∨ r = D + 1) ∧ ¬ M D ∧ ¬ M (D + 1) ∧ ∃ c, Ix c i M W ∧ W.heap[D + 1]? = some (.loop (rc .done (some c))) ∧ W.heap[D]? = some (.deferred (some [])))
      ?_ ?_ ?_ ?_ (fun r => M0 r ∨ r = D ∨ r = D + 1) ?_ ⟨M0, rfl, fun h => by have := (hM 0 M0 w h0 _ h).1; omega, fun h => by have := (hM 0 M0 w h0 _ h).1; omega, hI1, hL1, hK1⟩).mono ?_
    · rintro i M' A B row ⟨M, rfl, hn1, hn2, hs, hl, hk⟩ hg' hr
      exact ⟨M, rfl, hn1, hn2, hI i M A B row hs hg' (fun r e => ⟨fun h => (hr r e).1 (.inl h), (hr r e).2⟩), hst hg' hr (.inr rfl) hl, hst hg' hr (.inl rfl) hk⟩
    · rintro i M' A B row ⟨M, rfl, hn1, hn2, c, hs, hl, hk⟩ hg' hr
      exact ⟨M, rfl, hn1, hn2, c, hIx c i M A B row hs hg' (fun r e => ⟨fun h => (hr r e).1 (.inl h), (hr r e).2⟩), hst hg' hr (.inr rfl) hl, hst hg' hr (.inl rfl) hk⟩
    · rintro i M' V ⟨M, rfl, hn1, hn2, hs, hl, hk⟩ r hr
      have e1 := (Array.getElem?_eq_some_iff.1 hl).1
      rcases hr with hr | rfl | rfl
      · exact hM i M V hs r hr
      · exact ⟨by omega, fun h => (hRD _ h).1 rfl⟩
      · exact ⟨e1, fun h => (hRD _ h).2 rfl⟩
    · rintro i x M' W hx ⟨M, rfl, hn1, hn2, hi, hl, hk⟩ hlen
      have hlt : D + 1 < W.heap.size := (Array.getElem?_eq_some_iff.1 hl).1
      have hy := run_yield (P := P) (args := encs x) hl (by rw [hrc]; exact hps x)
      rw [hrc] at hy
      refine ⟨fn, _, assign, body, hy, roundIn_of_wpIn hfn (hassign _ i x M W _ hx hi (by omega) ?_)⟩
      clear hy
      intro MB a' WB hgB hmB hBB
      have hslB : W.heap.size ≤ WB.heap.size := hgB.size
      have hlB : WB.heap[D + 1]? = some (.loop (rc .ready none)) := (hgB.block _ hlt (by simp)).trans hl
      have hkB : WB.heap[D]? = some (.deferred (some [])) := (hgB.block _ (by omega) (by simp)).trans hk
      have hnB1 : ¬ MB D := fun h => (hmB _ h).elim hn1 (by omega)
      have hnB2 : ¬ MB (D + 1) := fun h => (hmB _ h).elim hn2 (by omega)
      have hltB : D + 1 < WB.heap.size := by omega
      refine ⟨_, run_beginRound hlB (by rw [hrc]), ?_⟩
      obtain ⟨W2, hW2⟩ : ∃ W2, WB.putObj (D + 1) (.loop { rc .ready none with state := .busy }) = W2 := ⟨_, rfl⟩
      rw [hW2]
      have hl2 : W2.heap[D + 1]? = some (.loop { rc .ready none with state := .busy }) := by rw [← hW2]; exact World.putObj_heap_same hltB
      have hk2 : W2.heap[D]? = some (.deferred (some [])) := by rw [← hW2]; exact (World.putObj_heap_other (by omega)).trans hkB
      have hsz2 : W2.heap.size = WB.heap.size := by rw [← hW2]; simp
      have hRl : ¬ R (D + 1) := fun h => (hRD _ h).2 rfl
      have hkeep : ∀ (M3 : Nat → Prop) (W3 : World) (o : Obj), KeepsM MB W2 M3 W3 →
          KeepsM (fun r => M r ∨ r = D ∨ r = D + 1) W (fun r => M3 r ∨ r = D ∨ r = D + 1) (W3.putObj (D + 1) o) := fun M3 W3 o h3 =>
        ⟨by have := h3.size; simp; omega, fun r hr hrl => by
          rw [World.putObj_heap_other (fun e => hr (.inr (.inr e))), h3.same r (fun h => (hmB r h).elim (fun h => hr (.inl h)) (by omega)) (by omega), ← hW2, World.putObj_heap_other (fun e => hr (.inr (.inr e))), hgB.block r hrl (by simp)],
         fun r hr => by
          rcases hr with hr | hr
          · rcases h3.more r hr with h | h
            · exact (hmB r h).imp .inl id
            · exact .inr (by omega)
          · exact .inl (.inr hr)⟩
      refine wpIn_mono (hbody _ i x MB a' W2 hx (by rw [← hW2]; exact hB i x MB a' WB _ (some (D + 1)) hBB (grownBy_putObj' WB (D + 1) _) (fun r e => by cases e; exact ⟨hnB2, hRl⟩)) (by omega)) ?_
      have fin : ∀ (jump : Option Code) (M3 : Nat → Prop) (W3 : World), KeepsM MB W2 M3 W3 →
          (Instr.endRound (D + 1) jump).run P W3 = .ok (.bool jump.isNone) (W3.putObj (D + 1) (.loop (rc (if jump.isNone then .ready else .done) jump))) ∧
          (W3.putObj (D + 1) (.loop (rc (if jump.isNone then .ready else .done) jump))).heap[D + 1]? = some (.loop (rc (if jump.isNone then .ready else .done) jump)) ∧
          (W3.putObj (D + 1) (.loop (rc (if jump.isNone then .ready else .done) jump))).heap[D]? = some (.deferred (some [])) ∧ ¬ M3 D ∧ ¬ M3 (D + 1) := fun jump M3 W3 h3 => by
        have hl3 : W3.heap[D + 1]? = some (.loop { rc .ready none with state := .busy }) := (h3.same _ hnB2 (by omega)).trans hl2
        have := run_endRound (P := P) jump hl3
        rw [hrc] at this ⊢
        exact ⟨this, World.putObj_heap_same (Array.getElem?_eq_some_iff.1 hl3).1, (World.putObj_heap_other (by omega)).trans ((h3.same _ hnB1 (by omega)).trans hk2), fun h => (h3.more _ h).elim hnB1 (by omega), fun h => (h3.more _ h).elim hnB2 (by omega)⟩
      rintro e a3 W3 hp
      cases e with
      | normal =>
        obtain ⟨M3, hk3, hi3⟩ := hp
        obtain ⟨hr, hl4, hk4, hn3, hn4⟩ := fin none M3 W3 hk3
        exact ⟨_, _, hr, _, hkeep M3 W3 _ hk3, .inl ⟨rfl, M3, rfl, hn3, hn4, hI.putObj _ hi3 hn4 hRl, hl4, hk4⟩⟩
      | ret =>
        obtain ⟨M3, hk3, hi3⟩ := hp
        obtain ⟨hr, hl4, hk4, hn3, hn4⟩ := fin (some .ret) M3 W3 hk3
        exact ⟨_, _, hr, _, hkeep M3 W3 _ hk3, .inr ⟨rfl, M3, rfl, hn3, hn4, .ret, (hIx _).putObj _ hi3 hn4 hRl, hl4, hk4⟩⟩
      | exit id =>
        obtain ⟨M3, hk3, hi3⟩ := hp
        obtain ⟨hr, hl4, hk4, hn3, hn4⟩ := fin (some (.exit id)) M3 W3 hk3
        exact ⟨_, _, hr, _, hkeep M3 W3 _ hk3, .inr ⟨rfl, M3, rfl, hn3, hn4, .exit id, (hIx _).putObj _ hi3 hn4 hRl, hl4, hk4⟩⟩
      | goto t =>
        obtain ⟨M3, hk3, hi3⟩ := hp
        obtain ⟨hr, hl4, hk4, hn3, hn4⟩ := fin (some (.goto t)) M3 W3 hk3
        exact ⟨_, _, hr, _, hkeep M3 W3 _ hk3, .inr ⟨rfl, M3, rfl, hn3, hn4, .goto t, (hIx _).putObj _ hi3 hn4 hRl, hl4, hk4⟩⟩
      | panic ch => exact hp.elim
      | outgrown => exact hp.elim
    · intro r hr
      have h3 := hT r hr
      refine ⟨?_, h3.2.2⟩
      rintro (h | h | h)
      · exact h3.2.1 h
      · omega
      · omega
    · have hRl : ¬ R (D + 1) := fun h => (hRD _ h).2 rfl
      rintro e W2 ⟨⟨v, rfl⟩, M', (⟨M, rfl, hn1, hn2, hi, hl, hk⟩ | ⟨i, hle, M, rfl, hn1, hn2, c, hi, hl, hk⟩)⟩
      · exact ⟨none, _, by have := run_endLoop (P := P) hl (by rw [hrc]; simp [rec0]); rw [hrc] at this; exact this, by rw [hD] at hdone; exact hdone D M _ rfl hn1 (hI.putObj _ hi hn2 hRl) ((World.putObj_heap_other (by omega)).trans hk)⟩
      · exact ⟨some c, _, by have := run_endLoop (P := P) hl (by rw [hrc]; simp [rec0]); rw [hrc] at this; exact this, by rw [hD] at hstop; exact hstop D c i M _ rfl hn1 hle ((hIx c).putObj _ hi hn2 hRl) ((World.putObj_heap_other (by omega)).trans hk)⟩
/-- **The statement 'for .. := range g { .. }'.** -/
theorem wpIn_rangeFunc_M {α : Type} {g : Operand} {ps : Array Tmp} {assign body : Code} {Q : Exit → Act → World → Prop} {a : Act} {w : World}
    (hro : F.round = none) (h1 : 1 ≤ n) {gf : Nat} {lb : Array Value} (hg : a.eval g = .func (.func gf) #[] lb) (hFg : F.fn gf)
    (eg : ∀ args w, (callFunc gf args).run P w = .ok (.enter gf args) w)
    {encs : α → Array Value} (L : List α) (R T : Nat → Prop) (hR : ∀ r, R r → r < w.heap.size)
    (hseq : ∀ W, w.grownBy W none → W.heap.size = w.heap.size + 2 → SeqM F (n - 1) P gf lb encs L R T W)
    (hps : ∀ x, (encs x).size = ps.size)
    (I : Nat → (Nat → Prop) → World → Prop) (Ix : Code → Nat → (Nat → Prop) → World → Prop)
    (hI : AbidesM R I) (hIx : ∀ c, AbidesM R (Ix c)) (hM : ∀ i M V, I i M V → ∀ r, M r → r < V.heap.size ∧ ¬ R r) (M0 : Nat → Prop) (hT : ∀ r, T r → r < w.heap.size ∧ ¬ M0 r ∧ ¬ R r) (h0 : I 0 M0 w) (a₁ : α → Act)
    (hassign : ∀ (l : Nat) (x : α) (W : World) (K : Act → World → Prop), K (a₁ x) W →
      assign.wpIn (F.inRound l) (n - 1 - 1) P (Exit.then K (fun _ _ _ => False)) { tmps := (ps.zip (encs x)).foldl (fun t (p, v) => t.setIfInBounds p v) a.tmps, defers := [] } W)
    (hbody : ∀ (l i : Nat) (x : α) (M : Nat → Prop) (W : World), L[i]? = some x → I i M W → w.heap.size + 2 ≤ W.heap.size →
      body.wpIn (F.inRound l) (n - 1 - 1) P (postM I Ix i M W) (a₁ x) W)
    (hdone : ∀ (D : Nat) (M : Nat → Prop) (W : World), D = w.heap.size → ¬ M D → I L.length M W → W.heap[D]? = some (.deferred (some [])) →
      Q .normal { a with defers := { target := .collected D, args := #[] } :: a.defers } W)
    (hstop : ∀ (D : Nat) (c : Code) (i : Nat) (M : Nat → Prop) (W : World), D = w.heap.size → ¬ M D → i ≤ L.length → Ix c i M W → W.heap[D]? = some (.deferred (some [])) →
      c.wpIn F n P Q { a with defers := { target := .collected D, args := #[] } :: a.defers } W) :
    (Code.rangeFunc g ps assign body).wpIn F n P Q a w :=
  wpIn_rangeFunc_MA hro h1 hg hFg eg L R T hR hseq hps I Ix hI hIx hM M0 hT h0 (fun i x M a' V => a' = a₁ x ∧ I i M V)
    (fun i x M a' V V' row h hg hr => ⟨h.1, hI i M V V' row h.2 hg hr⟩)
    (fun l i x M W K hx hi hs hK => hassign l x W K (hK M _ W ⟨rfl, rfl, rfl, Nat.le_refl _, fun _ _ _ => rfl⟩ (fun r h => .inl h) ⟨rfl, hi⟩))
    (fun l i x M a' W hx hb hs => by rw [hb.1]; exact hbody l i x M W hx hb.2 hs) hdone hstop
end Go.Proofs.YtefokfbgpfcbkaaGreat
