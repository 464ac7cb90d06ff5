/- Lemmas of this claim (a part of its texts, kept as far as the claim reaches them). -/
import Derived.Test.YtefokfbgpfcbkaaGreatGW20Z
import Derived.Test.YtefokfbgpfcbkaaGreatGN20Z
import Derived.Test.YtefokfbgpfcbkaaGreatGPZ
import Derived.Test.YtefokfbgpfcbkaaGreatGAZ
import Derived.Test.YtefokfbgpfcbkaaGreatGW17Z
import Derived.Test.YtefokfbgpfcbkaaGreatGV17Z
import Derived.Test.YtefokfbgpfcbkaaGreatGW18Z
import Derived.Test.YtefokfbgpfcbkaaGreatGR18Z
import Derived.Laws.Concat
import Derived.Deep.CutRange
import Derived.Deep.CutBlock
import Derived.Deep.RegionWith
import Derived.Shelf.RegionOpenPlain
import Derived.RangeFuncRecord
import Derived.Tactics2
import Derived.Defers
import Derived.Recover
import Derived.Test.YtefokfbgpfcbkaaGreatGT19Z
import Derived.RangeFuncNested
import Derived.RangeFuncBound
import Derived.RangeFuncCalls
import Derived.RangeFuncLeaves
import Derived.Shelf.Abstract
import Derived.Shelf.RegionOpen
import Derived.WalkKit
import Derived.OwnWalkIn
import Derived.TacticsInMore
import Derived.LoopNIn
import Derived.LoopIn
import Derived.Sort.CutIn
import Derived.Sort.LoopGhostIn
import Derived.Deep.RegionLaw
import Derived.Maps.OwnIn
import Derived.Test.YtefokfbgpfcbkaaGreatGR20Z
namespace Go.Proofs.YtefokfbgpfcbkaaGreat
set_option linter.unusedVariables false
set_option linter.unusedSimpArgs false
namespace P20
end P20
end Go.Proofs.YtefokfbgpfcbkaaGreat
namespace Go.Proofs.YtefokfbgpfcbkaaGreat
set_option linter.unusedVariables false
set_option linter.unusedSimpArgs false
open Go.RowKit
theorem mxL_size (d : Nd) : mxL (d.preN 18 1) = (d.bare.size 18).1 := by
  rw [← P20.depth_size, ← Nd.preN_bare]
  unfold mxL
  rw [List.map_map]
  rfl
end Go.Proofs.YtefokfbgpfcbkaaGreat
