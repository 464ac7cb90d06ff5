/- Arguments as they are read: a slice of Ask. The reference's clock beside the clock's map. -/
import Derived.Test.YtbnheebblicgkaaW30k
namespace Go.Proofs.Ytbnheebblicgkaa
set_option linter.unusedVariables false
set_option linter.unusedSimpArgs false
open Go.RowKit Go.Deep Go.ChangeShapes
/-- who and when are of their kinds -/
def AskOk (z : Int × Int × Int) : Prop := (Lit.int .i64 z.2.1).wf = true ∧ (Lit.int .i64 z.2.2).wf = true
def RdA (W : World) (B : Nat) (v : Value) (zs : List (Int × Int × Int)) : Prop :=
  ∃ ao cap, v = .slice ao zs.length cap ∧ ∀ i z, zs[i]? = some z → ∃ g o, ao = some ⟨g, o, none⟩ ∧ g < B ∧ W.cell? ⟨g, o + i * 3, none⟩ = some (.int .u8 z.1) ∧ W.cell? ⟨g, o + i * 3 + 1, none⟩ = some (.int .i64 z.2.1) ∧ W.cell? ⟨g, o + i * 3 + 2, none⟩ = some (.int .i64 z.2.2)
theorem choose_asks {p : Nat → Int × Int × Int → Prop} {n : Nat} (h : ∀ i, i < n → ∃ x, p i x) : ∃ f : Nat → Int × Int × Int, ∀ i, i < n → p i (f i) := by
  refine ⟨fun i => if hi : i < n then Classical.choose (h i hi) else (0, 0, 0), fun i hi => ?_⟩
  simp only [hi, dif_pos]
  exact Classical.choose_spec (h i hi)
set_option maxRecDepth 100000 in
theorem openAsks {H : Type} {enc : TypeId × Value → H} {W : World} {r : Reach} {b0 : Nat} {v : Value} {d : DataW H} {ps : List MemPlace} (hval : Value.okWide Try.prog W r b0 22 v)
    (hd : DataW.Trod enc Try.prog W 0 (fun _ => true) true 22 v d ps) : ∃ zs, RdA W W.heap.size v zs ∧ ∀ z ∈ zs, AskOk z := by
  obtain ⟨fuel, hf⟩ := hd
  obtain ⟨sa, sl, sc, rfl⟩ := Go.WideShapes.okWide_slice Try.underlying22 hval
  rcases open_slice Try.underlying22 hf with ⟨h0, _⟩ | ⟨a, len, cap, m, n, D, Pl, hcs, hb, hl, hm, hmm, _, hx⟩
  · simp [Value.cells] at h0
    obtain ⟨rfl, rfl, rfl⟩ := h0
    exact ⟨[], ⟨none, 0, rfl, fun i r hr => by simp at hr⟩, by simp⟩
  · simp [Value.cells] at hcs
    obtain ⟨rfl, rfl, rfl⟩ := hcs
    have hc1 : Try.prog.cellsOf 31 = 3 := by kernel_rfl
    rcases Nat.eq_zero_or_pos sl with hz | hpos
    · exact ⟨[], ⟨some a, sc, by rw [hz]; rfl, fun i r hr => by simp at hr⟩, by simp⟩
    have hsp : ∃ ab ao, a = ⟨ab, ao, none⟩ ∧ ab < W.heap.size := by
      obtain ⟨cs', h1, _⟩ := hx 0 (by rw [hmm, if_pos rfl]; omega)
      rw [hc1] at h1
      obtain ⟨_, hlen, hcell⟩ := World.cells?_some h1
      have d0 := hcell 0 (by omega)
      rw [Nat.zero_mul, List.getElem?_eq_getElem (by omega)] at d0
      obtain ⟨ab, ao, asp⟩ := a
      have e0 : ((Addr.add ⟨ab, ao, asp⟩ 0).add 0) = ⟨ab, ao, asp⟩ := rfl
      rw [e0] at d0
      have hlt : ab < W.heap.size := by
        rcases Nat.lt_or_ge ab W.heap.size with h | h
        · exact h
        · have h9 : W.heap[ab]? = none := Array.getElem?_eq_none h
          simp [World.cell?, h9] at d0
      cases asp with
      | none => exact ⟨ab, ao, rfl, hlt⟩
      | some q =>
        unfold World.cell? at d0
        split at d0
        · simp at d0
        · cases d0
    obtain ⟨ab, ao, rfl, hlt⟩ := hsp
    have plain : ∀ x y, (Addr.add ⟨ab, ao, none⟩ x).add y = ⟨ab, ao + x + y, none⟩ := by
      intro x y
      unfold Addr.add
      split <;> split <;> simp_all
    have each : ∀ i, i < sl → ∃ z : Int × Int × Int, (W.cell? ⟨ab, ao + i * 3, none⟩ = some (.int .u8 z.1) ∧ W.cell? ⟨ab, ao + i * 3 + 1, none⟩ = some (.int .i64 z.2.1) ∧ W.cell? ⟨ab, ao + i * 3 + 2, none⟩ = some (.int .i64 z.2.2)) ∧ AskOk z := by
      intro i hi
      obtain ⟨cs', h1, h2⟩ := hx i (by rw [hmm, if_pos rfl]; omega)
      rw [hc1] at h1
      obtain ⟨_, hlen, hcell⟩ := World.cells?_some h1
      obtain ⟨y0, y1, y2, k, _, _, g0, g1, g2⟩ := trod_struct3 Try.underlying31 h2
      match cs', hlen with
      | [c0, c1, c2], _ =>
        have ci : Try.prog.cellsOf 3 = 1 := by kernel_rfl
        have c6 : Try.prog.cellsOf 2 = 1 := by kernel_rfl
        have cb : Try.prog.cellsOf 5 = 1 := by kernel_rfl
        simp only [ci, c6, cb] at g0 g1 g2
        obtain ⟨n0, e0, w0⟩ := DataW.trod_int Try.underlying5 g0
        obtain ⟨n1, e1, w1⟩ := DataW.trod_int Try.underlying3 g1
        obtain ⟨n2, e2, w2⟩ := DataW.trod_int Try.underlying2 g2
        have d0 := hcell 0 (by omega)
        have d1 := hcell 1 (by omega)
        have d2 := hcell 2 (by omega)
        rw [plain] at d0 d1 d2
        simp only [List.drop_zero, List.drop_succ_cons, List.take_succ_cons, List.take_zero, List.cons.injEq, and_true] at e0 e1 e2
        subst e0
        subst e1
        subst e2
        exact ⟨(n0, n1, n2), ⟨d0, d1, d2⟩, w1.2, w2.2⟩
    obtain ⟨f, hf2⟩ := choose_asks each
    refine ⟨(List.range sl).map f, ⟨some ⟨ab, ao, none⟩, sc, by simp, fun i r hr => ?_⟩, fun r hr => ?_⟩
    rotate_left
    · obtain ⟨i, hi, rfl⟩ := List.mem_map.1 hr
      exact (hf2 i (by simpa using hi)).2
    have hi : i < sl := by have := (List.getElem?_eq_some_iff.1 hr).1; simpa using this
    rw [List.getElem?_map, List.getElem?_range hi] at hr
    simp at hr
    subst hr
    exact ⟨ab, ao, rfl, hlt, (hf2 i hi).1⟩
theorem Rk.kept_map {W W' : World} {rb m : Nat} {L M : List P30.En} (h : Rk W rb L) (hm : MapOf W m M) (hg : W.grownBy W' (some m)) : Rk W' rb L := by
  obtain ⟨v, hv, ao, cap, hsl, hle, hmx, hc⟩ := h
  have h1 := cell_ne_map (one_cell hv).1 hm
  refine ⟨v, heap_kept hg hv (fun e => by cases e; exact h1 rfl), ao, cap, hsl, hle, hmx, fun i z hi => ?_⟩
  obtain ⟨g, o, e1, e2, e3, e4⟩ := hc i z hi
  have h2 := cell_ne_map e3 hm
  exact ⟨g, o, e1, e2, cell_kept hg e3 (fun e => by cases e; exact h2 rfl), cell_kept hg e4 (fun e => by cases e; exact h2 rfl)⟩
theorem Rk.lt {W : World} {rb : Nat} {L : List P30.En} (h : Rk W rb L) : rb < W.heap.size := by
  obtain ⟨v, hv, _⟩ := h
  exact cell_lt (one_cell hv).1
end Go.Proofs.Ytbnheebblicgkaa
