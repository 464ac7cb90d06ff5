/- Slices of tokens that a call owns. -/
import Derived.Test.YtbnheebblicgkaaDoorPlain19
import Derived.Test.YtbnheebblicgkaaDoorW17i
namespace Go.Proofs.YtbnheebblicgkaaDoor
set_option linter.unusedVariables false
set_option linter.unusedSimpArgs false
open Go.RowKit
/-- a token as a value -/
def tkV (t : Tk) : Value := .agg #[.int .u8 t.1, bsOf t.2.1, .int .i64 t.2.2.1, .int .i64 t.2.2.2]
def tkCells (t : Tk) : List Value := [.int .u8 t.1, bsOf t.2.1, .int .i64 t.2.2.1, .int .i64 t.2.2.2]
theorem four_set {W : World} {g : Nat} {t : TypeId} {a b c d : Value} (h : W.heap[g]? = some (.cells #[a, b, c, d] t)) (v0 v1 v2 v3 : Value) :
    ((((W.setCell ⟨g, 0, none⟩ v0).setCell ⟨g, 1, none⟩ v1).setCell ⟨g, 2, none⟩ v2).setCell ⟨g, 3, none⟩ v3).heap[g]? = some (.cells #[v0, v1, v2, v3] t) := by
  simp [World.setCell, Array.getElem?_modify, h]
theorem four_cell {W : World} {g : Nat} {t : TypeId} {a b c d : Value} (h : W.heap[g]? = some (.cells #[a, b, c, d] t)) :
    (W.cell? ⟨g, 0, none⟩ = some a ∧ W.frozen? ⟨g, 0, none⟩ = false) ∧ (W.cell? ⟨g, 1, none⟩ = some b ∧ W.frozen? ⟨g, 1, none⟩ = false) ∧ (W.cell? ⟨g, 2, none⟩ = some c ∧ W.frozen? ⟨g, 2, none⟩ = false) ∧ (W.cell? ⟨g, 3, none⟩ = some d ∧ W.frozen? ⟨g, 3, none⟩ = false) := by
  simp [World.cell?, World.frozen?, h]
def tksCells (ts : List Tk) : List Value := ts.flatMap tkCells
theorem tksCells_append (a b : List Tk) : tksCells (a ++ b) = tksCells a ++ tksCells b := by simp [tksCells]
/-- the slice v owns the tokens ts -/
def OwnT (W : World) (B : Nat) (v : Value) (ts : List Tk) : Prop := W.ownsRow B 54 4 v ts.length (tksCells ts)
theorem tokInfo : (Tryd.prog.info? 54).map (fun i => (i.zero, i.size, i.bytes)) = some (some (.agg #[.int .u8 0, .string ⟨#[]⟩, .int .i64 0, .int .i64 0]), 4, 40) := by kernel_rfl
theorem tksCells_len : ∀ ts : List Tk, (tksCells ts).length = ts.length * 4
  | [] => rfl
  | t :: ts => by
    have ih := tksCells_len ts
    have e : tksCells (t :: ts) = tkCells t ++ tksCells ts := rfl
    rw [e, List.length_append, ih, List.length_cons]
    show 4 + _ = _
    omega
theorem own_one (W : World) (B : Nat) (t : Tk) (hB : B ≤ W.heap.size) (cs : Array Value) (hc : cs.toList = tkCells t) : OwnT (W.alloc (.cells cs 54)) B (.slice (some ⟨W.heap.size, 0, none⟩) 1 1) [t] := by
  have hs : cs.size = 1 * 4 := by rw [← Array.length_toList, hc]; rfl
  have h := World.ownsRow_lit (e := 54) (size := 4) W cs 1 hB (by unfold maxLen; omega) hs
  unfold OwnT
  have e : tksCells [t] = cs.toList := by rw [hc]; simp [tksCells]
  rw [e]
  exact h
theorem own_one' (W : World) (B H : Nat) (t : Tk) (hH : W.heap.size = H) (hB : B ≤ W.heap.size) (cs : Array Value) (hc : cs.toList = tkCells t) : OwnT (W.alloc (.cells cs 54)) B (.slice (some ⟨H, 0, none⟩) 1 1) [t] := by
  rw [← hH]
  exact own_one W B t hB cs hc
theorem tk_one : ∀ (ts : List Tk), ∀ u ∈ tksCells ts, u.oneCell' = true := by
  intro ts u hu
  simp only [tksCells, List.mem_flatMap] at hu
  obtain ⟨t, _, ht⟩ := hu
  simp only [tkCells, List.mem_cons, List.not_mem_nil, or_false] at ht
  rcases ht with rfl | rfl | rfl | rfl <;> rfl
theorem wpList_appToks {w : World} {B : Nat} {v : Value} {ts more : List Tk} {ops : Array Oper} {rest : List Oper} {o : Oper} {a : Act} {Q : Exit → Act → World → Prop} (hgd : o.guard = none) (s x : Operand)
    (ho : o.op = .call { callee := .builtin .append, args := #[s, x], argTypes := #[43, 43] })
    (hs : a.eval s = v) (hown : OwnT w B v ts) (g cap m : Nat) (hm : more.length = m) (hx : a.eval x = .slice (some ⟨g, 0, none⟩) m cap) (hnews : ∀ j u, (tksCells more)[j]? = some u → w.cell? ((⟨g, 0, none⟩ : Addr).add j) = some u)
    (hlen : ts.length + m ≤ 10000000) (hB : B ≤ w.heap.size)
    (h : ∀ v' w', OwnT w' B v' (ts ++ more) → w.grownBy w' v.ownBlock → wpList Tryd.prog ops Q rest (a.put o.dst v') w') :
    wpList Tryd.prog ops Q (o :: rest) a w := by
  obtain ⟨i, hi, hz, hsz, hby⟩ := info_parts tokInfo
  refine wpList_append_own_at (w := w) (P := Tryd.prog) hgd s x 43 ho B 54 i (.agg #[.int .u8 0, .string ⟨#[]⟩, .int .i64 0, .int .i64 0]) 4 40 Tryd.underlying43 hi hz hsz hby rfl (by decide) v ts.length (tksCells ts) hs hown
    ⟨g, 0, none⟩ m cap (tksCells more) hx (by rw [tksCells_len, hm]) hnews (tk_one more) (by unfold maxLen; omega) (by omega) hB ?_
  intro v' w' h2 h3 _ h5
  refine h v' w' ?_ h3
  unfold OwnT
  rw [tksCells_append, List.length_append, hm]
  exact h2
end Go.Proofs.YtbnheebblicgkaaDoor
