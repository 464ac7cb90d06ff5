/- Lemmas of this claim (a part of its texts, kept as far as the claim reaches them). -/
import Derived.Test.YtefokfbgpfcbkaaGreatM33zZ
import Derived.Test.YtefokfbgpfcbkaaGreatM33sZ
import Derived.Test.YtefokfbgpfcbkaaGreatOpenXZ
namespace Go.Proofs.YtefokfbgpfcbkaaGreat
set_option linter.unusedVariables false
set_option linter.unusedSimpArgs false
open Go.RowKit
theorem inN_of_iv {W : World} {v : Value} {l : List Nat} (h : Iv W v (l.map fun k : Nat => (k : Int))) : ∃ a c, v = .slice a l.length c ∧ l.length ≤ c ∧ InN W a l := by
  obtain ⟨a, c, rfl, ⟨q1, _⟩, h2⟩ := h
  refine ⟨a, c, by simp, by simpa using q1, fun j x hx => ?_⟩
  exact h2 j (x : Int) (by rw [List.getElem?_map, hx]; rfl)
theorem InN.below' {W W' : World} {a : Option Addr} {l : List Nat} (h : InN W a l) (hb : Below W.heap.size W W') : InN W' a l := fun i x hx => by
  obtain ⟨b, o, e, hc⟩ := h i x hx
  exact ⟨b, o, e, (World.cell?_of_block (a := ⟨b, o + i, none⟩) (hb.block b (cellLt hc))).trans hc⟩
def DefIn (W : World) (v : Value) : Prop := ∃ D : PDef, v = D.val ∧ D.In W ∧ D.name.length ≤ maxLen ∧ D.text.length ≤ maxLen ∧ ∀ s ∈ D.steps, s.fit
end Go.Proofs.YtefokfbgpfcbkaaGreat
