/- Arguments as they are read: a slice of int64. -/
import Derived.Test.YtbnheebblicgkaaPlain30b
import Derived.Deep.Slices
import Derived.Deep.Strs
import Derived.Deep.Fields23
import Derived.Carry
import Derived.Lib.SmallJoins
namespace Go.Proofs.Ytbnheebblicgkaa
set_option linter.unusedVariables false
set_option linter.unusedSimpArgs false
open Go.RowKit Go.Deep Go.ChangeShapes
/-- the slice v may be read: the numbers zs, in a block below B -/
def RdO (W : World) (B : Nat) (v : Value) (zs : List Int) : Prop :=
  ∃ ao cap, v = .slice ao zs.length cap ∧ ∀ i z, zs[i]? = some z → ∃ g o, ao = some ⟨g, o, none⟩ ∧ g < B ∧ W.cell? ⟨g, o + i, none⟩ = some (.int .i64 z)
theorem choose_ints {p : Nat → Int → Prop} {n : Nat} (h : ∀ i, i < n → ∃ x, p i x) : ∃ f : Nat → Int, ∀ i, i < n → p i (f i) := by
  refine ⟨fun i => if hi : i < n then Classical.choose (h i hi) else 0, fun i hi => ?_⟩
  simp only [hi, dif_pos]
  exact Classical.choose_spec (h i hi)
set_option maxRecDepth 100000 in
theorem openI64s {H : Type} {enc : TypeId × Value → H} {W : World} {r : Reach} {b0 : Nat} {v : Value} {d : DataW H} {ps : List MemPlace} (hval : Value.okWide Try.prog W r b0 44 v)
    (hd : DataW.Trod enc Try.prog W 0 (fun _ => true) true 44 v d ps) : ∃ zs, RdO W W.heap.size v zs ∧ ∀ z ∈ zs, (Lit.int .i64 z).wf = true := by
  obtain ⟨fuel, hf⟩ := hd
  obtain ⟨sa, sl, sc, rfl⟩ := Go.WideShapes.okWide_slice Try.underlying44 hval
  rcases open_slice Try.underlying44 hf with ⟨h0, _⟩ | ⟨a, len, cap, m, n, D, Pl, hcs, hb, hl, hm, hmm, _, hx⟩
  · simp [Value.cells] at h0
    obtain ⟨rfl, rfl, rfl⟩ := h0
    exact ⟨[], ⟨none, 0, rfl, fun i r hr => by simp at hr⟩, by simp⟩
  · simp [Value.cells] at hcs
    obtain ⟨rfl, rfl, rfl⟩ := hcs
    have hc1 : Try.prog.cellsOf 2 = 1 := by kernel_rfl
    rcases Nat.eq_zero_or_pos sl with hz | hpos
    · exact ⟨[], ⟨some a, sc, by rw [hz]; rfl, fun i r hr => by simp at hr⟩, by simp⟩
    have hsp : ∃ ab ao, a = ⟨ab, ao, none⟩ ∧ ab < W.heap.size := by
      obtain ⟨cs', h1, _⟩ := hx 0 (by rw [hmm, if_pos rfl]; omega)
      rw [hc1] at h1
      obtain ⟨_, hlen, hcell⟩ := World.cells?_some h1
      have d0 := hcell 0 (by omega)
      rw [Nat.zero_mul, List.getElem?_eq_getElem (by omega)] at d0
      obtain ⟨ab, ao, asp⟩ := a
      have e0 : ((Addr.add ⟨ab, ao, asp⟩ 0).add 0) = ⟨ab, ao, asp⟩ := rfl
      rw [e0] at d0
      have hlt : ab < W.heap.size := by
        rcases Nat.lt_or_ge ab W.heap.size with h | h
        · exact h
        · have h9 : W.heap[ab]? = none := Array.getElem?_eq_none h
          simp [World.cell?, h9] at d0
      cases asp with
      | none => exact ⟨ab, ao, rfl, hlt⟩
      | some q =>
        unfold World.cell? at d0
        split at d0
        · simp at d0
        · cases d0
    obtain ⟨ab, ao, rfl, hlt⟩ := hsp
    have plain : ∀ x y, (Addr.add ⟨ab, ao, none⟩ x).add y = ⟨ab, ao + x + y, none⟩ := by
      intro x y
      unfold Addr.add
      split <;> split <;> simp_all
    have each : ∀ i, i < sl → ∃ z : Int, W.cell? ⟨ab, ao + i, none⟩ = some (.int .i64 z) ∧ (Lit.int .i64 z).wf = true := by
      intro i hi
      obtain ⟨cs', h1, h2⟩ := hx i (by rw [hmm, if_pos rfl]; omega)
      rw [hc1] at h1
      obtain ⟨_, hlen, hcell⟩ := World.cells?_some h1
      obtain ⟨z, e0, w0⟩ := DataW.trod_int Try.underlying2 h2
      have d0 := hcell 0 (by omega)
      rw [plain, Nat.mul_one, Nat.add_zero] at d0
      subst e0
      exact ⟨z, d0, w0.2⟩
    obtain ⟨f, hf2⟩ := choose_ints each
    refine ⟨(List.range sl).map f, ⟨some ⟨ab, ao, none⟩, sc, by simp, fun i r hr => ?_⟩, fun r hr => ?_⟩
    rotate_left
    · obtain ⟨i, hi, rfl⟩ := List.mem_map.1 hr
      exact (hf2 i (by simpa using hi)).2
    have hi : i < sl := by have := (List.getElem?_eq_some_iff.1 hr).1; simpa using this
    rw [List.getElem?_map, List.getElem?_range hi] at hr
    simp at hr
    subst hr
    exact ⟨ab, ao, rfl, hlt, (hf2 i hi).1⟩
theorem RdO.below {w W : World} {h : Nat} {v : Value} {zs : List Int} (hr : RdO w h v zs) (hb : Below h w W) : RdO W h v zs := by
  obtain ⟨ao, cap, hv, hc⟩ := hr
  refine ⟨ao, cap, hv, fun i z hi => ?_⟩
  obtain ⟨g, o, h1, h2, h3⟩ := hc i z hi
  refine ⟨g, o, h1, h2, ?_⟩
  rw [← h3]
  unfold World.cell?
  rw [hb.block g h2]
/-- bools that are told, in a block of their own -/
def Tl (W : World) (g n : Nat) (T : Nat → Bool) : Prop := ∃ arr, W.heap[g]? = some (.cells arr 4) ∧ ∀ i, i < n → arr[i]? = some (.bool (T i))
theorem Tl.cell {W : World} {g n : Nat} {T : Nat → Bool} (h : Tl W g n T) {i : Nat} (hi : i < n) : W.cell? ⟨g, i, none⟩ = some (.bool (T i)) := by
  obtain ⟨arr, h1, h2⟩ := h
  simp [World.cell?, h1, h2 i hi]
theorem Tl.frozen {W : World} {g n : Nat} {T : Nat → Bool} (h : Tl W g n T) (i : Nat) : W.frozen? ⟨g, i, none⟩ = false := by
  obtain ⟨arr, h1, h2⟩ := h
  simp [World.frozen?, h1]
theorem Tl.kept {W W' : World} {g n : Nat} {T : Nat → Bool} {row : Option Nat} (h : Tl W g n T) (hg : W.grownBy W' row) (hne : some g ≠ row) : Tl W' g n T := by
  obtain ⟨arr, h1, h2⟩ := h
  refine ⟨arr, ?_, h2⟩
  have hlt : g < W.heap.size := by
    rcases Nat.lt_or_ge g W.heap.size with h | h
    · exact h
    · rw [Array.getElem?_eq_none h] at h1; cases h1
  rw [hg.block g hlt hne]
  exact h1
theorem Tl.set {W : World} {g n : Nat} {T : Nat → Bool} (h : Tl W g n T) {j : Nat} (hj : j < n) {b : Bool} {T' : Nat → Bool} (hT : ∀ i, i < n → T' i = if i = j then b else T i) : Tl (W.setCell ⟨g, j, none⟩ (.bool b)) g n T' := by
  obtain ⟨arr, h1, h2⟩ := h
  refine ⟨arr.set! j (.bool b), ?_, fun i hi => ?_⟩
  · simp [World.setCell, Array.getElem?_modify, h1]
  · have hs : j < arr.size := (Array.getElem?_eq_some_iff.1 (h2 j hj)).1
    rw [hT i hi]
    by_cases hij : i = j
    · subst hij; rw [if_pos rfl]; simp [Array.set!, hs]
    · rw [if_neg hij, ← h2 i hi]; simp [Array.set!, Array.getElem?_setIfInBounds, Ne.symm hij]
theorem Tl.same {W : World} {g n : Nat} {T T' : Nat → Bool} (h : Tl W g n T) (hT : ∀ i, i < n → T' i = T i) : Tl W g n T' := by
  obtain ⟨arr, h1, h2⟩ := h
  exact ⟨arr, h1, fun i hi => by rw [hT i hi]; exact h2 i hi⟩
theorem Tl.made (W : World) (n : Nat) : Tl (W.alloc (.cells (madeCells (Value.bool false).cells (n * 1)) 4)) W.heap.size n (fun _ => false) := by
  refine ⟨_, World.alloc_heap_new W _, fun i hi => ?_⟩
  have hi' : i < n * 1 := by omega
  have h1 : (madeCells (Value.bool false).cells (n * 1))[i]? = some ((Value.bool false).cells[i % (Value.bool false).cells.size]!) := by
    unfold madeCells
    rw [Array.getElem?_map, Array.getElem?_range, if_pos hi']
    rfl
  rw [h1]
  have h2 : (Value.bool false).cells = #[.bool false] := rfl
  rw [h2]
  have h3 : i % (#[Value.bool false]).size = 0 := Nat.mod_one i
  rw [h3]
  rfl
end Go.Proofs.Ytbnheebblicgkaa
