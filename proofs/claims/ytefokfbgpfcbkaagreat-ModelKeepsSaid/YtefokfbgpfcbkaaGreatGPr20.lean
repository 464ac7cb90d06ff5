/- A tree's text: leaf, write, Print.; A tree's text: write, at a node with kids; Print.; Print: a tree's text.; At: a part of a tree. -/
import Derived.Test.YtefokfbgpfcbkaaGreatGN20
import Derived.Test.YtefokfbgpfcbkaaGreatGW20
import Derived.Test.YtefokfbgpfcbkaaGreatGR17
import Derived.Test.YtefokfbgpfcbkaaGreatGW18
import Derived.Test.YtefokfbgpfcbkaaGreatGR18
import Derived.Laws.Concat
import Derived.Deep.CutRange
import Derived.Deep.CutBlock
import Derived.Deep.RegionWith
import Derived.Shelf.RegionOpenPlain
import Derived.RangeFuncRecord
namespace Go.Proofs.YtefokfbgpfcbkaaGreat
set_option linter.unusedVariables false
set_option linter.unusedSimpArgs false
open Go.RowKit
theorem add_run (a b : ByteArray) (h : a.size + b.size ≤ 9223372036854775807) : ∀ W, (binOp .add 9 (.string a) (.string b)).run Tryz.prog W = .ok (.string (a ++ b)) W := fun W => by
  rw [binOp_string_add]; exact run_string_add_sum W a b h
theorem leaf_len (k : Nat) (t : List UInt8) : (P20.leaf k t).length ≤ 4 * t.length + 2 := by
  unfold P20.leaf
  split
  · simp
  · split
    · simp
    · have := R18.put_len t; omega
theorem others_below {w w' : World} {e : TypeId} {b : Option Nat} (hb : Below w.heap.size w w') : Lib.OthersKept e b w w' := fun k o h1 _ _ => (hb.block k (Array.getElem?_eq_some_iff.1 h1).1).trans h1
end Go.Proofs.YtefokfbgpfcbkaaGreat
namespace Go.Proofs.YtefokfbgpfcbkaaGreat
set_option linter.unusedVariables false
set_option linter.unusedSimpArgs false
open Go.RowKit
theorem checkL_drop {lv : Nat} : ∀ {ds : List P20.T}, P20.checkL lv ds = 0 → ∀ i, P20.checkL lv (ds.drop i) = 0
  | [], h, i => by simpa using h
  | d :: ds, h, 0 => h
  | d :: ds, h, i + 1 => by
    rw [List.drop_succ_cons]
    exact checkL_drop (P20.checkL_cons h).2 i
theorem bareL_dropL : ∀ (ds : List Nd) (i : Nat), bareL (ds.drop i) = (bareL ds).drop i := fun ds i => by rw [bareL_map, bareL_map, List.map_drop]
theorem keysE_short : ∀ {seen ks : List (List UInt8)}, P20.keysE seen ks = 0 → ∀ x ∈ ks, x.length ≤ 64
  | seen, [], h, x, hx => by simp at hx
  | seen, k :: ks, h, x, hx => by
    obtain ⟨h1, _, h3⟩ := P20.keysE_cons h
    rcases List.mem_cons.1 hx with rfl | hx
    · have := P20.check_len h1; omega
    · exact keysE_short h3 x hx
end Go.Proofs.YtefokfbgpfcbkaaGreat
namespace Go.Proofs.YtefokfbgpfcbkaaGreat
set_option linter.unusedVariables false
set_option linter.unusedSimpArgs false
open Go.RowKit
namespace P20
/-- a tree's text, or what is wrong -/
def T.print (d : T) : List UInt8 × Int := if d.check 1 ≠ 0 then ([], d.check 1) else if 1048576 < (d.write [] []).length then ([], 2) else (d.write [] [], 0)
end P20
end Go.Proofs.YtefokfbgpfcbkaaGreat
namespace Go.Proofs.YtefokfbgpfcbkaaGreat
set_option linter.unusedVariables false
set_option linter.unusedSimpArgs false
open Go.RowKit
/-- the place of a kid, by a key or a number; below 0: there is none -/
def kIdx (k : Nat) (ks : List (List UInt8)) (p : List UInt8) : Int := if k = 3 then Lib.idxOfS (ks.map bz) (bz p) else if k = 2 then (if (P18.number p).2 = 0 then (P18.number p).1 else -1) else -1
def Nd.next (d : Nd) (p : List UInt8) : Option Nd := if kIdx d.kind d.keys p < 0 ∨ (d.kids.length : Int) ≤ kIdx d.kind d.keys p then none else d.kids[(kIdx d.kind d.keys p).toNat]?
/-- a part of a tree -/
def Nd.at : Nd → List (List UInt8) → Option Nd
  | d, [] => some d
  | d, p :: ps => match d.next p with
    | none => none
    | some e => e.at ps
theorem Nd.next_none {d : Nd} {p : List UInt8} (h : kIdx d.kind d.keys p < 0 ∨ (d.kids.length : Int) ≤ kIdx d.kind d.keys p) : d.next p = none := by unfold Nd.next; rw [if_pos h]
theorem Nd.next_some {d : Nd} {p : List UInt8} {i : Nat} {e : Nd} (h : kIdx d.kind d.keys p = i) (he : d.kids[i]? = some e) : d.next p = some e := by
  have hl := (List.getElem?_eq_some_iff.1 he).1
  unfold Nd.next
  rw [if_neg (by omega), h]
  exact he
theorem results_ct {fn : Func} {p q : Tmp} {tp : TypeId} (h : fn.results = #[.cell p tp, .tmp q]) (tmps : Array Value) (P : Program) (w : World) (g1 : Nat) (v1 v2 : Value)
    (hp : tmps.getD p undef = .pointer (some ⟨g1, 0, none⟩)) (hl : (loadVar tp ⟨g1, 0, none⟩).run P w = .ok v1 w) (hq : tmps.getD q undef = v2) :
    (results fn tmps).run P w = .ok (.tuple #[v1, v2]) w := by
  have hp' : tmps[p]?.getD undef = .pointer (some ⟨g1, 0, none⟩) := by simpa using hp
  have hq' : tmps[q]?.getD undef = v2 := by simpa using hq
  simp [results, h, hp', hq', asAddr, Sem.run_bind, Result.andThen, hl]
/-- what is found -/
def AtPost (w : World) (r : Option Nd) (e : Ending) (w' : World) : Prop :=
  (∃ k t ka kc ks da dc ds l, r = some (.mk k t ka kc ks da dc ds l) ∧ e = .returned (.tuple #[.agg #[.int .u8 k, .string ⟨t.toArray⟩, .slice ka ks.length kc, .slice da ds.length dc, .int .i64 l], .bool true]) ∧ Hid ((Nd.mk k t ka kc ks da dc ds l).In w' ∧ ∀ g, (Nd.mk k t ka kc ks da dc ds l).blk g → g < w.heap.size) ∧ Below w.heap.size w w') ∨
  (r = none ∧ e = .returned (.tuple #[.agg #[.int .u8 0, .string ⟨#[]⟩, .slice none 0 0, .slice none 0 0, .int .i64 0], .bool false]) ∧ Below w.heap.size w w')
end Go.Proofs.YtefokfbgpfcbkaaGreat
