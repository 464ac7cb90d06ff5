/- What stays of a world: blocks of a kind. (No program in it.) -/
import Derived.Test.YtefokfbgpfcbkaaGreatGA
import Derived.Lib.OthersKept
namespace Go.Proofs.YtefokfbgpfcbkaaGreat
set_option linter.unusedVariables false
set_option linter.unusedSimpArgs false
open Go.RowKit
/-- the blocks of P are as they were -/
structure Kp (P : Nat → Prop) (W W' : World) : Prop where
  os : W'.os = W.os
  tape : W'.tape = W.tape
  output : W'.output = W.output
  size : W.heap.size ≤ W'.heap.size
  same : ∀ g, P g → g < W.heap.size → W'.heap[g]? = W.heap[g]?
theorem Kp.refl (P : Nat → Prop) (W : World) : Kp P W W := ⟨rfl, rfl, rfl, Nat.le_refl _, fun _ _ _ => rfl⟩
theorem Kp.trans {P : Nat → Prop} {A B C : World} (h : Kp P A B) (k : Kp P B C) : Kp P A C :=
  ⟨k.os.trans h.os, k.tape.trans h.tape, k.output.trans h.output, Nat.le_trans h.size k.size, fun g hg hl => (k.same g hg (Nat.lt_of_lt_of_le hl h.size)).trans (h.same g hg hl)⟩
theorem Kp.mono {P Q : Nat → Prop} {A B : World} (h : Kp P A B) (hq : ∀ g, Q g → g < A.heap.size → P g) : Kp Q A B := ⟨h.os, h.tape, h.output, h.size, fun g hg hl => h.same g (hq g hg hl) hl⟩
theorem Kp.of_below {P : Nat → Prop} {B : Nat} {W W' : World} (h : Below B W W') (hP : ∀ g, P g → g < W.heap.size → g < B) : Kp P W W' := ⟨h.os, h.tape, h.output, h.size, fun g hg hl => h.block g (hP g hg hl)⟩
theorem Kp.below {P : Nat → Prop} {B : Nat} {W W' : World} (h : Kp P W W') (hB : B ≤ W.heap.size) (hP : ∀ g, g < B → P g) : Below B W W' := ⟨h.os, h.tape, h.output, h.size, fun g hg => h.same g (hP g hg) (Nat.lt_of_lt_of_le hg hB)⟩
theorem Kp.of_grown {P : Nat → Prop} {W W' : World} {row : Option Nat} (h : W.grownBy W' row) (hP : ∀ g, row = some g → ¬ P g) : Kp P W W' :=
  ⟨h.os, h.tape, h.output, h.size, fun g hg hl => h.block g hl (fun e => hP g e.symm hg)⟩
theorem Kp.alloc (P : Nat → Prop) (W : World) (o : Obj) : Kp P W (W.alloc o) := .of_grown (World.grownBy_alloc W o none) (fun g e => by cases e)
theorem Kp.set {P : Nat → Prop} {W : World} {b o : Nat} (v : Value) (hb : ¬ P b) : Kp P W (W.setCell ⟨b, o, none⟩ v) :=
  ⟨rfl, rfl, rfl, by simp, fun g hg hl => Below.heap_setCell _ _ _ _ (by rintro rfl; exact hb hg)⟩
theorem Kp.drewN (P : Nat → Prop) (W : World) (n : Nat) : Kp P W (W.drewN n) := ⟨rfl, rfl, rfl, Nat.le_refl _, fun _ _ _ => rfl⟩
theorem Kp.drew (P : Nat → Prop) (W : World) : Kp P W W.drew := ⟨rfl, rfl, rfl, Nat.le_refl _, fun _ _ _ => rfl⟩
end Go.Proofs.YtefokfbgpfcbkaaGreat
