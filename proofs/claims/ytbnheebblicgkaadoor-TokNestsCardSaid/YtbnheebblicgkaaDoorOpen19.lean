/- Arguments as they are read: a slice of tokens; a line by value. -/
import Derived.Test.YtbnheebblicgkaaDoorG19c
import Derived.Deep.Slices
import Derived.Deep.Strs
import Derived.Deep.Fields23
import Derived.Carry
import Derived.Lib.SmallJoins
namespace Go.Proofs.YtbnheebblicgkaaDoor
set_option linter.unusedVariables false
set_option linter.unusedSimpArgs false
open Go.RowKit Go.Deep Go.ChangeShapes
theorem choose_toks {p : Nat → (Int × ByteArray × Int × Int) → Prop} {n : Nat} (h : ∀ i, i < n → ∃ x, p i x) : ∃ f : Nat → Int × ByteArray × Int × Int, ∀ i, i < n → p i (f i) := by
  refine ⟨fun i => if hi : i < n then Classical.choose (h i hi) else (0, ⟨#[]⟩, 0, 0), fun i hi => ?_⟩
  simp only [hi, dif_pos]
  exact Classical.choose_spec (h i hi)
set_option maxRecDepth 100000 in
theorem openLine {H : Type} {enc : TypeId × Value → H} {W : World} {r : Reach} {b0 : Nat} {v : Value} {d : DataW H} {ps : List MemPlace} (hval : Value.okWide Tryd.prog W r b0 39 v)
    (hd : DataW.Trod enc Tryd.prog W 0 (fun _ => true) true 39 v d ps) : ∃ (a c : Int) (s : ByteArray), v = .agg #[.int .i64 a, .int .i64 c, .string s] := by
  obtain ⟨v0, v1, v2, y0, y1, y2, n, rfl, _, _, g0, g1, g2⟩ := Go.Joins.open_agg3 Tryd.underlying39 (by kernel_rfl) (by kernel_rfl) hval hd
  obtain ⟨n0, e0, _⟩ := DataW.trod_int Tryd.underlying3 g0
  obtain ⟨n1, e1, _⟩ := DataW.trod_int Tryd.underlying3 g1
  obtain ⟨s2, e2, _⟩ := DataW.trod_string Tryd.underlying9 g2
  simp only [List.cons.injEq, and_true] at e0 e1 e2
  subst e0
  subst e1
  subst e2
  exact ⟨n0, n1, s2, rfl⟩
set_option maxRecDepth 100000 in
theorem openToks {H : Type} {enc : TypeId × Value → H} {W : World} {r : Reach} {b0 : Nat} {v : Value} {d : DataW H} {ps : List MemPlace} (hval : Value.okWide Tryd.prog W r b0 43 v)
    (hd : DataW.Trod enc Tryd.prog W 0 (fun _ => true) true 43 v d ps) : ∃ rs, RdT W W.heap.size v rs ∧ ∀ r ∈ rs, 0 ≤ r.1 ∧ r.1 < 256 := by
  obtain ⟨fuel, hf⟩ := hd
  obtain ⟨sa, sl, sc, rfl⟩ := Go.WideShapes.okWide_slice Tryd.underlying43 hval
  rcases open_slice Tryd.underlying43 hf with ⟨h0, _⟩ | ⟨a, len, cap, m, n, D, Pl, hcs, hb, hl, hm, hmm, _, hx⟩
  · simp [Value.cells] at h0
    obtain ⟨rfl, rfl, rfl⟩ := h0
    exact ⟨[], ⟨none, 0, rfl, fun i r hr => by simp at hr⟩, by simp⟩
  · simp [Value.cells] at hcs
    obtain ⟨rfl, rfl, rfl⟩ := hcs
    have hc4 : Tryd.prog.cellsOf 54 = 4 := by kernel_rfl
    rcases Nat.eq_zero_or_pos sl with hz | hpos
    · exact ⟨[], ⟨some a, sc, by rw [hz]; rfl, fun i r hr => by simp at hr⟩, by simp⟩
    have hsp : ∃ ab ao, a = ⟨ab, ao, none⟩ ∧ ab < W.heap.size := by
      obtain ⟨cs', h1, _⟩ := hx 0 (by rw [hmm, if_pos rfl]; omega)
      rw [hc4] at h1
      obtain ⟨_, hlen, hcell⟩ := World.cells?_some h1
      have d0 := hcell 0 (by omega)
      rw [Nat.zero_mul, List.getElem?_eq_getElem (by omega)] at d0
      obtain ⟨ab, ao, asp⟩ := a
      have e0 : ((Addr.add ⟨ab, ao, asp⟩ 0).add 0) = ⟨ab, ao, asp⟩ := rfl
      rw [e0] at d0
      have hlt : ab < W.heap.size := by
        rcases Nat.lt_or_ge ab W.heap.size with h | h
        · exact h
        · have h9 : W.heap[ab]? = none := Array.getElem?_eq_none h
          simp [World.cell?, h9] at d0
      cases asp with
      | none => exact ⟨ab, ao, rfl, hlt⟩
      | some q =>
        unfold World.cell? at d0
        split at d0
        · simp at d0
        · cases d0
    obtain ⟨ab, ao, rfl, hlt⟩ := hsp
    have plain : ∀ x y, (Addr.add ⟨ab, ao, none⟩ x).add y = ⟨ab, ao + x + y, none⟩ := by
      intro x y
      unfold Addr.add
      split <;> split <;> simp_all
    have each : ∀ i, i < sl → ∃ r : Int × ByteArray × Int × Int, W.cell? ⟨ab, ao + i * 4, none⟩ = some (.int .u8 r.1) ∧ W.cell? ⟨ab, ao + i * 4 + 1, none⟩ = some (.string r.2.1) ∧ W.cell? ⟨ab, ao + i * 4 + 2, none⟩ = some (.int .i64 r.2.2.1) ∧ W.cell? ⟨ab, ao + i * 4 + 3, none⟩ = some (.int .i64 r.2.2.2) ∧ 0 ≤ r.1 ∧ r.1 < 256 := by
      intro i hi
      obtain ⟨cs', h1, h2⟩ := hx i (by rw [hmm, if_pos rfl]; omega)
      rw [hc4] at h1
      obtain ⟨_, hlen, hcell⟩ := World.cells?_some h1
      obtain ⟨y0, y1, y2, y3, k, _, _, g0, g1, g2, g3⟩ := Go.Joins.trod_struct4 Tryd.underlying54 h2
      match cs', hlen with
      | [c0, c1, c2, c3], _ =>
        have ci : Tryd.prog.cellsOf 3 = 1 := by kernel_rfl
        have cb : Tryd.prog.cellsOf 5 = 1 := by kernel_rfl
        have cs : Tryd.prog.cellsOf 9 = 1 := by kernel_rfl
        simp only [ci, cs, cb] at g0 g1 g2 g3
        obtain ⟨n0, e0, w0⟩ := DataW.trod_int Tryd.underlying5 g0
        obtain ⟨s2, e1, _⟩ := DataW.trod_string Tryd.underlying9 g1
        obtain ⟨n2, e2, _⟩ := DataW.trod_int Tryd.underlying3 g2
        obtain ⟨n3, e3, _⟩ := DataW.trod_int Tryd.underlying3 g3
        have d0 := hcell 0 (by omega)
        have d1 := hcell 1 (by omega)
        have d2 := hcell 2 (by omega)
        have d3 := hcell 3 (by omega)
        rw [plain] at d0 d1 d2 d3
        simp only [List.drop_zero, List.drop_succ_cons, List.take_succ_cons, List.take_zero, List.cons.injEq, and_true] at e0 e1 e2 e3
        subst e0
        subst e1
        subst e2
        subst e3
        have h5 : 0 ≤ n0 ∧ n0 < 256 := by
          have h6 := w0.2
          have h7 : (decide (IntKind.u8.min ≤ n0) && decide (n0 ≤ IntKind.u8.max)) = true := h6
          rw [Bool.and_eq_true, decide_eq_true_eq, decide_eq_true_eq] at h7
          have h8 : IntKind.u8.min = 0 := by decide
          have h9 : IntKind.u8.max = 255 := by decide
          omega
        exact ⟨(n0, s2, n2, n3), d0, d1, d2, d3, h5.1, h5.2⟩
    obtain ⟨f, hf2⟩ := choose_toks each
    refine ⟨(List.range sl).map f, ⟨some ⟨ab, ao, none⟩, sc, by simp, fun i r hr => ?_⟩, fun r hr => ?_⟩
    rotate_left
    · obtain ⟨i, hi, rfl⟩ := List.mem_map.1 hr
      exact (hf2 i (by simpa using hi)).2.2.2.2
    have hi : i < sl := by have := (List.getElem?_eq_some_iff.1 hr).1; simpa using this
    rw [List.getElem?_map, List.getElem?_range hi] at hr
    simp at hr
    subst hr
    obtain ⟨h3, h4, h5, h6, _⟩ := hf2 i hi
    exact ⟨ab, ao, rfl, hlt, h3, h4, h5, h6⟩
end Go.Proofs.YtbnheebblicgkaaDoor
