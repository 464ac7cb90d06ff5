/- block.read: what is wrong is panicked with, and recovered; block.Parse.; The program's Parse. -/
import Derived.Test.YtefokfbgpfcbkaaGreatGW20
import Derived.Tactics2
import Derived.Defers
import Derived.Recover
import Derived.Test.YtefokfbgpfcbkaaGreatG19bc
namespace Go.Proofs.YtefokfbgpfcbkaaGreat
set_option linter.unusedVariables false
set_option linter.unusedSimpArgs false
open Go.RowKit
theorem two_set {W : World} {g : Nat} {t : TypeId} {a b : Value} (h : W.heap[g]? = some (.cells #[a, b] t)) (v0 v1 : Value) : ((W.setCell ⟨g, 0, none⟩ v0).setCell ⟨g, 1, none⟩ v1).heap[g]? = some (.cells #[v0, v1] t) := by
  simp [World.setCell, Array.getElem?_modify, h]
theorem two_other {W : World} {g g' : Nat} (h : g' ≠ g) (v0 v1 : Value) : ((W.setCell ⟨g, 0, none⟩ v0).setCell ⟨g, 1, none⟩ v1).heap[g']? = W.heap[g']? := by
  rw [Below.heap_setCell _ _ _ _ h, Below.heap_setCell _ _ _ _ h]
/-- H and H + 1 alone have turned -/
structure Two (w w' : World) (H : Nat) (a b : Obj) : Prop where
  h0 : w'.heap[H]? = some a
  h1 : w'.heap[H + 1]? = some b
  size : w.heap.size ≤ w'.heap.size
  same : ∀ g, g ≠ H → g ≠ H + 1 → g < w.heap.size → w'.heap[g]? = w.heap[g]?
  os : w'.os = w.os
  tape : w'.tape = w.tape
  output : w'.output = w.output
theorem set_os (W : World) (a : Addr) (v : Value) : (W.setCell a v).os = W.os ∧ (W.setCell a v).tape = W.tape ∧ (W.setCell a v).output = W.output := ⟨rfl, rfl, rfl⟩
theorem five_os (W : World) (g : Nat) (v0 v1 v2 v3 v4 : Value) : ∀ V, ((((W.setCell ⟨g, 0, none⟩ v0).setCell ⟨g, 1, none⟩ v1).setCell ⟨g, 2, none⟩ v2).setCell ⟨g, 3, none⟩ v3).setCell ⟨g, 4, none⟩ v4 = V → V.os = W.os ∧ V.tape = W.tape ∧ V.output = W.output ∧ V.heap.size = W.heap.size := by
  rintro V rfl
  refine ⟨?_, ?_, ?_, by simp⟩ <;> simp only [set_os]
theorem two_mk {w W1 W2 : World} (hb : Below w.heap.size w W1) {H : Nat} {a : Obj} {S : TypeId} {d0 d1 : Value} (h0 : W2.heap[H]? = some a) (h1 : W1.heap[H + 1]? = some (.cells #[d0, d1] S)) (hs : ∀ g, g ≠ H → W2.heap[g]? = W1.heap[g]?)
    (ho : W2.os = W1.os ∧ W2.tape = W1.tape ∧ W2.output = W1.output ∧ W2.heap.size = W1.heap.size) (u0 u1 : Value) : Two w ((W2.setCell ⟨H + 1, 0, none⟩ u0).setCell ⟨H + 1, 1, none⟩ u1).drew H a (.cells #[u0, u1] S) := by
  have hz := hb.size
  have h2 : W2.heap[H + 1]? = some (.cells #[d0, d1] S) := (hs _ (by omega)).trans h1
  refine ⟨drewH ((two_other (by omega) _ _).trans h0), drewH (two_set h2 _ _), ?_, fun g n0 n1 hl => drewH ((two_other n1 _ _).trans ((hs g n0).trans (hb.block g hl))), ?_, ?_, ?_⟩
  · simp [World.drew]; omega
  · exact ho.1.trans hb.os
  · exact ho.2.1.trans hb.tape
  · exact ho.2.2.1.trans hb.output
theorem two_a {w W1 : World} (hb : Below w.heap.size w W1) {H : Nat} {T S : TypeId} {c0 c1 c2 c3 c4 d0 d1 : Value} (h0 : W1.heap[H]? = some (.cells #[c0, c1, c2, c3, c4] T)) (h1 : W1.heap[H + 1]? = some (.cells #[d0, d1] S)) (v0 v1 v2 v3 v4 u0 u1 : Value) :
    Two w (((((((W1.setCell ⟨H, 0, none⟩ v0).setCell ⟨H, 1, none⟩ v1).setCell ⟨H, 2, none⟩ v2).setCell ⟨H, 3, none⟩ v3).setCell ⟨H, 4, none⟩ v4).setCell ⟨H + 1, 0, none⟩ u0).setCell ⟨H + 1, 1, none⟩ u1).drew H (.cells #[v0, v1, v2, v3, v4] T) (.cells #[u0, u1] S) := by
  have e0 := five_set h0 v0 v1 v2 v3 v4
  have e1 := fun g (hg : g ≠ H) => five_other (W := W1) hg v0 v1 v2 v3 v4
  have e2 := five_os W1 H v0 v1 v2 v3 v4 _ rfl
  obtain ⟨W2, hW2⟩ : ∃ W2, ((((W1.setCell ⟨H, 0, none⟩ v0).setCell ⟨H, 1, none⟩ v1).setCell ⟨H, 2, none⟩ v2).setCell ⟨H, 3, none⟩ v3).setCell ⟨H, 4, none⟩ v4 = W2 := ⟨_, rfl⟩
  rw [hW2] at e0 e2 ⊢
  simp only [hW2] at e1
  exact two_mk hb e0 h1 e1 e2 u0 u1
theorem Two.below {w w' : World} {a b : Obj} (h : Two w w' w.heap.size a b) : Below w.heap.size w w' := ⟨h.os, h.tape, h.output, h.size, fun i hi => h.same i (by omega) (by omega) hi⟩
theorem Two.far {w w' : World} {H B : Nat} {a b : Obj} (h : Two w w' H a b) (hB : B ≤ H) (hs : B ≤ w.heap.size := by omega) : Below B w w' := ⟨h.os, h.tape, h.output, h.size, fun i hi => h.same i (by omega) (by omega) (by omega)⟩
/-- tokens lie in no node's block -/
theorem InT.off {W W' : World} {a : Option Addr} {ts : List Tk} (h : InT W a ts) {H : Nat} {T : TypeId} {v0 v1 v4 : Value} {p q : Option Addr} {m n c d : Nat} (hN : W.heap[H]? = some (.cells #[v0, v1, .slice p m c, .slice q n d, v4] T)) (h0 : ∀ x : ByteArray, v4 ≠ .string x)
    (ho : ∀ g, g ≠ H → W'.heap[g]? = W.heap[g]?) : InT W' a ts := by
  refine h.keep (fun r hn hr => ho r ?_)
  rintro rfl
  cases ts with
  | nil => exact hn rfl
  | cons t ts =>
    obtain ⟨b, o, e, c0, c1, c2, c3⟩ := h 0 t rfl
    obtain ⟨o2, e2⟩ := hr
    rw [e] at e2
    injection e2 with e2
    injection e2 with e2 _
    subst e2
    simp only [World.cell?, hN] at c1 c2
    rw [Nat.zero_mul, Nat.add_zero] at c1 c2
    rcases o with _ | _ | _ | _ | o
    · simp at c2
    · simp at c1
    · simp at c1
    · simp at c1; exact h0 _ c1
    · simp at c1
theorem ta_yes (e l : Int) (W : World) : (Instr.typeAssert (.iface 127 (.agg #[.int .i64 e, .int .i64 l])) 20 127 true).run Tryz.prog W = .ok (.tuple #[.agg #[.int .i64 e, .int .i64 l], .bool true]) W := by kernel_rfl
theorem ta_no (W : World) : (Instr.typeAssert .nilIface 20 127 true).run Tryz.prog W = .ok (.tuple #[.agg #[.int .i64 0, .int .i64 0], .bool false]) W := by kernel_rfl
theorem results_two {fn : Func} {p q : Tmp} {tp tq : TypeId} (h : fn.results = #[.cell p tp, .cell q tq]) (tmps : Array Value) (P : Program) (w : World) (g1 g2 : Nat) (v1 v2 : Value)
    (hp : tmps.getD p undef = .pointer (some ⟨g1, 0, none⟩)) (hl : (loadVar tp ⟨g1, 0, none⟩).run P w = .ok v1 w)
    (hq : tmps.getD q undef = .pointer (some ⟨g2, 0, none⟩)) (hm : (loadVar tq ⟨g2, 0, none⟩).run P w = .ok v2 w) :
    (results fn tmps).run P w = .ok (.tuple #[v1, v2]) w := by
  have hp' : tmps[p]?.getD undef = .pointer (some ⟨g1, 0, none⟩) := by simpa using hp
  have hq' : tmps[q]?.getD undef = .pointer (some ⟨g2, 0, none⟩) := by simpa using hq
  simp [results, h, hp', hq', asAddr, Sem.run_bind, Result.andThen, hl, hm]
/-- what comes of reading tokens whole, or a text -/
def ReadPost (w : World) : Except (Int × Int) P20.T → Ending → World → Prop
  | .ok d, e, w' => ∃ (k : Nat) (t : List UInt8) (ka : Option Addr) (kc : Nat) (ks : List (List UInt8)) (da : Option Addr) (dc : Nat) (ds : List Nd) (l : Int),
      e = .returned (.tuple #[.agg #[.int .u8 k, .string ⟨t.toArray⟩, .slice ka ks.length kc, .slice da ds.length dc, .int .i64 l], .agg #[.int .i64 0, .int .i64 0]]) ∧
      Hid ((Nd.mk k t ka kc ks da dc ds l).bare = d ∧ (Nd.mk k t ka kc ks da dc ds l).In w' ∧ (∀ g, (Nd.mk k t ka kc ks da dc ds l).blk g → w.heap.size ≤ g)) ∧ Below w.heap.size w w'
  | .error x, e, w' => e = .returned (.tuple #[.agg #[.int .u8 0, .string ⟨#[]⟩, .slice none 0 0, .slice none 0 0, .int .i64 0], .agg #[.int .i64 x.1, .int .i64 x.2]]) ∧ Below w.heap.size w w'
end Go.Proofs.YtefokfbgpfcbkaaGreat
namespace Go.Proofs.YtefokfbgpfcbkaaGreat
set_option linter.unusedVariables false
set_option linter.unusedSimpArgs false
open Go.RowKit
theorem Two.undrew {w W : World} {H : Nat} {a b : Obj} (h : Two w W.drew H a b) : Two w W H a b := ⟨h.h0, h.h1, h.size, h.same, h.os, h.tape, h.output⟩
end Go.Proofs.YtefokfbgpfcbkaaGreat
