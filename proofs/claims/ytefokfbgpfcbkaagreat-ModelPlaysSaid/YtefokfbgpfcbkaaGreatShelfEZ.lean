/- Lemmas of this claim (a part of its texts, kept as far as the claim reaches them). -/
import Derived.Shelf.SlicesE.Clone
import Derived.Ground.SlgnProg
import Derived.Test.YtefokfbgpfcbkaaGreatProg
namespace Go.Proofs
open Go.Shelf
def Tryz.cloneSteps_ren : Go.Shelf.Ren := ⟨fun | 41 => 109 | n => n, fun | 22 => 22 | 23 => 63 | 4 => 4 | n => n, fun | n => n⟩
theorem Tryz.cloneSteps : Go.Proofs.SlLaysE0.n41 Tryz.prog Tryz.cloneSteps_ren := {
  mixed := by kernel_rfl
  f41 := ⟨Tryz.f109.name, by decide, Tryz.func109.trans (congrArg some (by kernel_rfl))⟩
  t4 := Tryz.underlying4
  a4 := Tryz.isAgg4
  z4 := Tryz.sizeOf4
  v4 := Tryz.zeroValue4
  t22 := Tryz.underlying22
  a22 := Tryz.isAgg22
  z22 := Tryz.sizeOf22
  v22 := Tryz.zeroValue22 }
end Go.Proofs
