/- Lemmas of this claim (a part of its texts, kept as far as the claim reaches them). -/
import Derived.Test.YtefokfbgpfcbkaaGreatGPZ
import Derived.Test.YtefokfbgpfcbkaaGreatGAZ
import Derived.Test.YtefokfbgpfcbkaaGreatGW17Z
import Derived.Test.YtefokfbgpfcbkaaGreatGV17Z
import Derived.Test.YtefokfbgpfcbkaaGreatGR18Z
import Derived.Test.YtefokfbgpfcbkaaGreatGW03Z
import Derived.StillTailTactics
import Derived.Test.YtefokfbgpfcbkaaGreatShelfZ
namespace Go.Proofs.YtefokfbgpfcbkaaGreat
set_option linter.unusedVariables false
set_option linter.unusedSimpArgs false
open Go.RowKit
end Go.Proofs.YtefokfbgpfcbkaaGreat
namespace Go.Proofs.YtefokfbgpfcbkaaGreat
set_option linter.unusedVariables false
set_option linter.unusedSimpArgs false
open Go.RowKit
end Go.Proofs.YtefokfbgpfcbkaaGreat
namespace Go.Proofs.YtefokfbgpfcbkaaGreat
set_option linter.unusedVariables false
set_option linter.unusedSimpArgs false
open Go.RowKit Go.Shelf
theorem alloc2_new (w : World) (o1 o2 : Obj) : ((w.alloc o1).alloc o2).heap[w.heap.size + 1]? = some o2 := by
  have h := World.alloc_heap_new (w.alloc o1) o2
  rw [World.size_alloc] at h
  exact h
end Go.Proofs.YtefokfbgpfcbkaaGreat
