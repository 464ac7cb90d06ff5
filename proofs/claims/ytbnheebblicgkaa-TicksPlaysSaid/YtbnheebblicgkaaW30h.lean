/- walks of the reference's clock: At, Unset -/
import Derived.Test.YtbnheebblicgkaaW30g
namespace Go.Proofs.Ytbnheebblicgkaa
set_option linter.unusedVariables false
set_option linter.unusedSimpArgs false
open Go.RowKit Go.Maps Go.Shelf Go.Sort
/-- the slice v may be read: the row L, outside of block rb -/
def RdE (W : World) (rb : Nat) (v : Value) (L : List P30.En) : Prop :=
  ∃ ao cap, v = .slice ao L.length cap ∧ L.length ≤ cap ∧ cap ≤ maxLen ∧ ∀ i p, L[i]? = some p → ∃ g o, ao = some ⟨g, o, none⟩ ∧ g ≠ rb ∧ W.cell? ⟨g, o + i * 2, none⟩ = some (.int .i64 p.1) ∧ W.cell? ⟨g, o + i * 2 + 1, none⟩ = some (.int .i64 p.2)
/-- the reference's clock in block rb -/
def Rk (W : World) (rb : Nat) (L : List P30.En) : Prop := ∃ v, W.heap[rb]? = some (.cells #[v] 29) ∧ RdE W rb v L
theorem RdE.kept {W W' : World} {rb : Nat} {v : Value} {L : List P30.En} {row : Option Nat} (h : RdE W rb v L) (hg : W.grownBy W' row) (hr : ∀ g : Nat, g ≠ rb → g < W.heap.size → some g ≠ row) : RdE W' rb v L := by
  obtain ⟨ao, cap, hv, hle, hmx, hc⟩ := h
  refine ⟨ao, cap, hv, hle, hmx, fun i z hi => ?_⟩
  obtain ⟨g, o, h1, h2, h3, h4⟩ := hc i z hi
  exact ⟨g, o, h1, h2, cell_kept hg h3 (hr g h2 (cell_lt h3)), cell_kept hg h4 (hr g h2 (cell_lt h3))⟩
theorem heap_kept {W W' : World} {row : Option Nat} (hg : W.grownBy W' row) {b : Nat} {o : Obj} (h : W.heap[b]? = some o) (hne : some b ≠ row) : W'.heap[b]? = some o := by
  have hlt : b < W.heap.size := by
    rcases Nat.lt_or_ge b W.heap.size with h2 | h2
    · exact h2
    · rw [Array.getElem?_eq_none h2] at h; cases h
  rw [hg.block b hlt hne]
  exact h
theorem Rk.kept {W W' : World} {rb : Nat} {L : List P30.En} {row : Option Nat} (h : Rk W rb L) (hg : W.grownBy W' row) (hb : some rb ≠ row) (hr : ∀ g : Nat, g ≠ rb → g < W.heap.size → some g ≠ row) : Rk W' rb L := by
  obtain ⟨v, h1, h2⟩ := h
  exact ⟨v, heap_kept hg h1 hb, h2.kept hg hr⟩
theorem P30.look_drop {L : List P30.En} {i : Nat} {p : P30.En} (hi : L[i]? = some p) (k : Int) : P30.look (L.drop i) k = if p.1 = k then some p.2 else P30.look (L.drop (i + 1)) k := by
  obtain ⟨hl, e⟩ := List.getElem?_eq_some_iff.1 hi
  rw [List.drop_eq_getElem_cons hl, e]
  unfold P30.look
  rw [List.find?_cons]
  by_cases h : p.1 = k
  · simp [h]
  · have h2 : (p.1 == k) = false := by simpa using h
    rw [h2, if_neg h]
set_option maxRecDepth 100000 in
set_option maxHeartbeats 800000 in
theorem RAt_any (rb : Nat) (L : List P30.En) (k : Int) (w : World) (hc : Rk w rb L) (hlen : L.length ≤ 1000000) :
    Calls Try.prog 16 #[.pointer (some ⟨rb, 0, none⟩), .int .i64 k] w fun e w' => e = .returned (.tuple #[.int .i64 (P30.atOf L k), .bool (P30.look L k).isSome]) ∧ w' = w := by
  obtain ⟨v, hv, ao, cap, rfl, hle, hmx, hcells⟩ := hc
  obtain ⟨c0, f0⟩ := one_cell hv
  have HC := hide hcells
  obtain ⟨n, hn⟩ : ∃ n, L.length = n := ⟨_, rfl⟩
  obtain ⟨lk, hlk⟩ : ∃ l, P30.look L k = l := ⟨_, rfl⟩
  have hat : P30.atOf L k = lk.getD 0 := by rw [← hlk]; rfl
  rw [hat, hlk]
  rw [hn] at c0 hlen
  have HN := hide hn
  have H0 : Hid (P30.look (L.drop 0) k = lk) := hide (by rw [List.drop_zero]; exact hlk)
  clear hcells hn hv f0 hat hlk hle hmx
  go_enter Try.func16, Try.ntmps16
  go_wp2
  go_loopg [6] n (fun g s6 wx => ∃ i : Nat, i + g = n ∧ s6 = .int .i64 i ∧ w = wx ∧ Hid (P30.look (L.drop i) k = lk))
  case atStart => exact ⟨0, by omega, by go_num, rfl, H0⟩
  case round =>
    obtain ⟨i, hig, rfl, rfl, HL⟩ := hrel
    cases gk with
    | zero =>
      have e1 : (n : Int) = (i : Int) := by omega
      have hnone : lk = none := by rw [← unhide HL, List.drop_eq_nil_of_le (by rw [unhide HN]; omega)]; rfl
      subst hnone
      go_wp2
      go_ret2
      exact ⟨rfl, rfl⟩
    | succ g' =>
      have hlt : (i : Int) < (n : Int) := by omega
      have hki : IntKind.i64.wrap ((i : Int) + 1) = (i : Int) + 1 := IntWalk.i64_in _ (by omega)
      have hil : i < L.length := by rw [unhide HN]; omega
      have hgl : L[i]? = some L[i] := List.getElem?_eq_getElem hil
      generalize L[i] = p at hgl
      obtain ⟨k0, a0⟩ := p
      obtain ⟨g, o, rfl, hg, c1, c2⟩ := unhide HC i _ hgl
      have hld := P30.look_drop hgl k
      rw [unhide HL] at hld
      by_cases hk : k0 = k
      · rw [if_pos hk] at hld
        subst hld hk
        clear hgl
        go_wp2
        go_ret2
        exact ⟨rfl, rfl⟩
      · rw [if_neg hk] at hld
        have HL2 := hide hld.symm
        have d1 : decide (k0 = k) = false := decide_eq_false hk
        clear hgl hld
        go_wp2
        go_roundg g'
        case measure => omega
        case rel => exact ⟨i + 1, by omega, by go_num, rfl, HL2⟩
/-- the cells of a row -/
def eCells (es : List P30.En) : List Value := es.flatMap (fun p => [.int .i64 p.1, .int .i64 p.2])
theorem eCells_snoc (es : List P30.En) (p : P30.En) : eCells (es ++ [p]) = eCells es ++ [.int .i64 p.1, .int .i64 p.2] := by unfold eCells; rw [List.flatMap_append]; rfl
theorem eCells_len (es : List P30.En) : (eCells es).length = es.length * 2 := by
  induction es with
  | nil => rfl
  | cons p es ih => unfold eCells at *; rw [List.flatMap_cons, List.length_append, ih]; simp; omega
theorem eCells_get : ∀ (es : List P30.En) (i : Nat) (p : P30.En), es[i]? = some p → (eCells es)[i * 2]? = some (.int .i64 p.1) ∧ (eCells es)[i * 2 + 1]? = some (.int .i64 p.2)
  | [], i, p, h => by simp at h
  | q :: es, 0, p, h => by simp at h; subst h; exact ⟨rfl, rfl⟩
  | q :: es, i + 1, p, h => by
    have ih := eCells_get es i p (by simpa using h)
    have e : eCells (q :: es) = .int .i64 q.1 :: .int .i64 q.2 :: eCells es := rfl
    have e1 : (i + 1) * 2 = i * 2 + 1 + 1 := by omega
    rw [e, e1]
    simp only [List.getElem?_cons_succ]
    exact ih
def OwnE (W : World) (B : Nat) (v : Value) (es : List P30.En) : Prop := W.ownsRow B 42 2 v es.length (eCells es)
theorem oneInfo : (Try.prog.info? 42).map (fun i => (i.zero, i.size, i.bytes)) = some (some (.agg #[.int .i64 0, .int .i64 0]), 2, 16) := by kernel_rfl
theorem pair_cells {W : World} {g : Nat} {t : TypeId} {a b : Value} (h : W.heap[g]? = some (.cells #[a, b] t)) : W.cell? ⟨g, 0, none⟩ = some a ∧ W.cell? ⟨g, 1, none⟩ = some b := by simp [World.cell?, h]
theorem wpList_appOne {w : World} {B : Nat} {v : Value} {es : List P30.En} {p : P30.En} {ops : Array Oper} {rest : List Oper} {o : Oper} {a : Act} {Q : Exit → Act → World → Prop} (hgd : o.guard = none) (s x : Operand)
    (ho : o.op = .call { callee := .builtin .append, args := #[s, x], argTypes := #[27, 27] })
    (hs : a.eval s = v) (hown : OwnE w B v es) (g cap : Nat) (hx : a.eval x = .slice (some ⟨g, 0, none⟩) 1 cap) (hnew : w.cell? ⟨g, 0, none⟩ = some (.int .i64 p.1) ∧ w.cell? ⟨g, 1, none⟩ = some (.int .i64 p.2))
    (m : Nat) (hm : es.length = m) (hlen : m + 1 ≤ 10000000) (hB : B ≤ w.heap.size)
    (h : ∀ g' cap' w', OwnE w' B (.slice (some ⟨g', 0, none⟩) (m + 1) cap') (es ++ [p]) → w.grownBy w' v.ownBlock → wpList Try.prog ops Q rest (a.put o.dst (.slice (some ⟨g', 0, none⟩) (m + 1) cap')) w') :
    wpList Try.prog ops Q (o :: rest) a w := by
  subst hm
  obtain ⟨i, hi, hz, hsz, hby⟩ := info_parts oneInfo
  refine wpList_append_lies (P := Try.prog) w hgd s x 27 ho B 42 i (.agg #[.int .i64 0, .int .i64 0]) 2 16 Try.underlying27 hi hz hsz hby rfl (by decide) v es.length (eCells es) hs hown
    ⟨g, 0, none⟩ 1 cap [.int .i64 p.1, .int .i64 p.2] hx rfl (by intro j u hj; match j, hj with | 0, hj => simp at hj; subst hj; exact hnew.1 | 1, hj => simp at hj; subst hj; exact hnew.2) (by intro u hu; simp at hu; rcases hu with rfl | rfl <;> rfl) (by decide) (by unfold maxLen; omega) (by omega) hB _ rfl ?_
  intro g' cap' w' h2 h3 hat _
  refine h g' cap' w' ?_ h3
  unfold OwnE
  rw [List.length_append, eCells_snoc]
  exact h2
theorem OwnE.rd {W : World} {B rb : Nat} {v : Value} {es : List P30.En} (h : OwnE W B v es) (hb : rb < B) : RdE W rb v es := by
  rcases h.2 with ⟨hv, h0⟩ | ⟨g, cap, cur, hv, hbg, hg, hle, hmx, hsz, htk⟩
  · have he : es = [] := List.length_eq_zero_iff.1 h0
    subst he
    exact ⟨none, 0, hv, Nat.le_refl _, by decide, fun i p hi => by simp at hi⟩
  · refine ⟨_, cap, hv, hle, hmx, fun i p hi => ⟨g, 0, rfl, by omega, ?_⟩⟩
    subst hv
    have hil := (List.getElem?_eq_some_iff.1 hi).1
    have hc := eCells_get es i p hi
    have k1 := World.ownsRow.cellAt h (i * 2) (by have := eCells_len es; omega)
    have k2 := World.ownsRow.cellAt h (i * 2 + 1) (by have := eCells_len es; omega)
    rw [Nat.zero_add]
    exact ⟨k1.trans hc.1, k2.trans hc.2⟩
end Go.Proofs.Ytbnheebblicgkaa
