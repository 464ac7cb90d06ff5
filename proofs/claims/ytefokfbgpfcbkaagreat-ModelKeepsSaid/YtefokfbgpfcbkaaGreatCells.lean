/- Cells of steps and definitions, and what a call lays first. -/
import Derived.Test.YtefokfbgpfcbkaaGreatSt
import Derived.Test.YtefokfbgpfcbkaaGreatKeep
import Derived.Laws.Tables
namespace Go.Proofs.YtefokfbgpfcbkaaGreat
set_option linter.unusedVariables false
set_option linter.unusedSimpArgs false
open Go.RowKit
theorem cell13 {W : World} {g : Nat} {T : TypeId} {u0 u1 u2 u3 u4 u5 u6 u7 u8 u9 u10 u11 u12 : Value} (h : W.heap[g]? = some (.cells #[u0, u1, u2, u3, u4, u5, u6, u7, u8, u9, u10, u11, u12] T)) : (W.cell? ⟨g, 0, none⟩ = some u0 ∧ W.frozen? ⟨g, 0, none⟩ = false) ∧ (W.cell? ⟨g, 1, none⟩ = some u1 ∧ W.frozen? ⟨g, 1, none⟩ = false) ∧ (W.cell? ⟨g, 2, none⟩ = some u2 ∧ W.frozen? ⟨g, 2, none⟩ = false) ∧ (W.cell? ⟨g, 3, none⟩ = some u3 ∧ W.frozen? ⟨g, 3, none⟩ = false) ∧ (W.cell? ⟨g, 4, none⟩ = some u4 ∧ W.frozen? ⟨g, 4, none⟩ = false) ∧ (W.cell? ⟨g, 5, none⟩ = some u5 ∧ W.frozen? ⟨g, 5, none⟩ = false) ∧ (W.cell? ⟨g, 6, none⟩ = some u6 ∧ W.frozen? ⟨g, 6, none⟩ = false) ∧ (W.cell? ⟨g, 7, none⟩ = some u7 ∧ W.frozen? ⟨g, 7, none⟩ = false) ∧ (W.cell? ⟨g, 8, none⟩ = some u8 ∧ W.frozen? ⟨g, 8, none⟩ = false) ∧ (W.cell? ⟨g, 9, none⟩ = some u9 ∧ W.frozen? ⟨g, 9, none⟩ = false) ∧ (W.cell? ⟨g, 10, none⟩ = some u10 ∧ W.frozen? ⟨g, 10, none⟩ = false) ∧ (W.cell? ⟨g, 11, none⟩ = some u11 ∧ W.frozen? ⟨g, 11, none⟩ = false) ∧ (W.cell? ⟨g, 12, none⟩ = some u12 ∧ W.frozen? ⟨g, 12, none⟩ = false) := by
  simp [World.cell?, World.frozen?, h]
theorem new1 (w : World) (o : Obj) (H : Nat) (hH : w.heap.size = H) : ∃ W, w.alloc o = W ∧ Below H w W ∧ W.heap[H]? = some o ∧ W.heap.size = H + 1 := by
  subst hH
  exact ⟨_, rfl, (Below.refl _ w).alloc (Nat.le_refl _) o, World.alloc_heap_new _ _, by simp⟩
theorem new2 (w : World) (o1 o2 : Obj) (H : Nat) (hH : w.heap.size = H) : ∃ W, (w.alloc o1).alloc o2 = W ∧ Below H w W ∧ W.heap[H]? = some o1 ∧ W.heap[H + 1]? = some o2 ∧ W.heap.size = H + 1 + 1 := by
  obtain ⟨W1, e1, b1, h1, s1⟩ := new1 w o1 H hH
  obtain ⟨W2, e2, b2, h2, s2⟩ := new1 W1 o2 (H + 1) s1
  exact ⟨W2, by rw [e1, e2], b1.trans (b2.mono (by omega)), (b2.block H (by omega)).trans h1, h2, s2⟩
theorem new3 (w : World) (o1 o2 o3 : Obj) (H : Nat) (hH : w.heap.size = H) : ∃ W, ((w.alloc o1).alloc o2).alloc o3 = W ∧ Below H w W ∧ W.heap[H]? = some o1 ∧ W.heap[H + 1]? = some o2 ∧ W.heap[H + 1 + 1]? = some o3 ∧ W.heap.size = H + 1 + 1 + 1 := by
  obtain ⟨W1, e1, b1, h1, h1', s1⟩ := new2 w o1 o2 H hH
  obtain ⟨W2, e2, b2, h2, s2⟩ := new1 W1 o3 (H + 1 + 1) s1
  exact ⟨W2, by rw [e1, e2], b1.trans (b2.mono (by omega)), (b2.block H (by omega)).trans h1, (b2.block (H + 1) (by omega)).trans h1', h2, s2⟩
theorem cell1 {W : World} {g : Nat} {T : TypeId} {a : Value} (h : W.heap[g]? = some (.cells #[a] T)) : W.cell? ⟨g, 0, none⟩ = some a ∧ W.frozen? ⟨g, 0, none⟩ = false := by
  simp [World.cell?, World.frozen?, h]
theorem cell3 {W : World} {g : Nat} {T : TypeId} {a b c : Value} (h : W.heap[g]? = some (.cells #[a, b, c] T)) : (W.cell? ⟨g, 0, none⟩ = some a ∧ W.frozen? ⟨g, 0, none⟩ = false) ∧ (W.cell? ⟨g, 1, none⟩ = some b ∧ W.frozen? ⟨g, 1, none⟩ = false) ∧ (W.cell? ⟨g, 2, none⟩ = some c ∧ W.frozen? ⟨g, 2, none⟩ = false) := by
  simp [World.cell?, World.frozen?, h]
theorem put1 {W : World} {g : Nat} {T : TypeId} {a : Value} (h : W.heap[g]? = some (.cells #[a] T)) (v : Value) : (W.setCell ⟨g, 0, none⟩ v).heap[g]? = some (.cells #[v] T) := by
  simp [World.setCell, Array.getElem?_modify, h]
theorem alloc_row (W : World) (z cs : Array Value) (T : TypeId) : (W.alloc (.cells z T)).setRow W.heap.size cs = W.alloc (.cells cs T) := by
  have h : (W.heap.push (.cells z T)).modify W.heap.size (fun | .cells _ elem frozen => .cells cs elem frozen | o => o) = W.heap.push (.cells cs T) := by
    apply Array.ext_getElem?
    intro i
    rw [Array.getElem?_modify]
    by_cases hi : W.heap.size = i
    · subst hi; simp
    · rw [if_neg hi, Array.getElem?_push, Array.getElem?_push, if_neg (fun e => hi e.symm), if_neg (fun e => hi e.symm)]
  show ({ W with heap := (W.heap.push (.cells z T)).modify W.heap.size _ } : World) = { W with heap := W.heap.push (.cells cs T) }
  rw [← h]
  rfl
theorem cellDef {W : World} {g : Nat} {a b c : Value} (h : W.heap[g]? = some (.cells #[a, b, c] 24)) : (loadVar 24 ⟨g, 0, none⟩).run Tryz.prog W = .ok (.agg #[a, b, c]) W := run_loadVar_row _ _ _ _ _ _ _ h Tryz.underlying24 rfl (by kernel_rfl)
/-- a step's cells in a row -/
theorem step_cells {W : World} {b o i : Nat} {s : PSt} (h : stEl.At W b (o + i * 13) s) :
    (W.cell? ⟨b, o + i * 13, none⟩ = some (.string ⟨s.name.toArray⟩) ∧ W.cell? ⟨b, o + i * 13 + 1, none⟩ = some (.string ⟨s.action.toArray⟩) ∧ W.cell? ⟨b, o + i * 13 + 2, none⟩ = some (.string ⟨s.undo.toArray⟩) ∧ W.cell? ⟨b, o + i * 13 + 3, none⟩ = some s.aV) ∧
    (W.cell? ⟨b, o + i * 13 + 4, none⟩ = some (.int .i64 s.most) ∧ W.cell? ⟨b, o + i * 13 + 5, none⟩ = some (.int .i64 s.first) ∧ W.cell? ⟨b, o + i * 13 + 6, none⟩ = some (.int .i64 s.factor) ∧ W.cell? ⟨b, o + i * 13 + 7, none⟩ = some (.int .i64 s.limit)) ∧
    (W.cell? ⟨b, o + i * 13 + 8, none⟩ = some (.int .u8 s.note.kind) ∧ W.cell? ⟨b, o + i * 13 + 9, none⟩ = some (.string ⟨s.note.text.toArray⟩) ∧ W.cell? ⟨b, o + i * 13 + 10, none⟩ = some s.note.kV ∧ W.cell? ⟨b, o + i * 13 + 11, none⟩ = some s.note.dV ∧ W.cell? ⟨b, o + i * 13 + 12, none⟩ = some (.int .i64 s.note.line)) :=
  ⟨⟨h 0 _ rfl, h 1 _ rfl, h 2 _ rfl, h 3 _ rfl⟩, ⟨h 4 _ rfl, h 5 _ rfl, h 6 _ rfl, h 7 _ rfl⟩, ⟨h 8 _ rfl, h 9 _ rfl, h 10 _ rfl, h 11 _ rfl, h 12 _ rfl⟩⟩
theorem hmixed : Tryz.prog.follows .mixedOrders = true := by kernel_rfl
theorem zeroI (w : World) : (zeroValue 3).run Tryz.prog w = .ok (.int .i64 0) w := by kernel_rfl
theorem infoStep : (Tryz.prog.info? 63).map (·.size) = some 13 := by kernel_rfl
end Go.Proofs.YtefokfbgpfcbkaaGreat
