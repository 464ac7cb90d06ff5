/- Lemmas of this claim. -/
import Derived.Test.YtnjokdbblmlhhaaGreatDoorGW20Z
import Derived.Test.YtnjokdbblmlhhaaGreatDoorGN20Z
import Derived.Test.YtnjokdbblmlhhaaGreatDoorGR17Z
import Derived.Test.YtnjokdbblmlhhaaGreatDoorGW18Z
import Derived.Test.YtnjokdbblmlhhaaGreatDoorGR18Z
import Derived.Laws.Concat
import Derived.Deep.CutRange
import Derived.Deep.CutBlock
import Derived.Deep.RegionWith
import Derived.Shelf.RegionOpenPlain
import Derived.RangeFuncRecord
import Derived.Test.YtnjokdbblmlhhaaGreatDoorGP20Z
import Derived.Test.YtnjokdbblmlhhaaGreatDoorGR20Z
namespace Go.Proofs.YtnjokdbblmlhhaaGreatDoor
set_option linter.unusedVariables false
set_option linter.unusedSimpArgs false
namespace P20
end P20
end Go.Proofs.YtnjokdbblmlhhaaGreatDoor
namespace Go.Proofs.YtnjokdbblmlhhaaGreatDoor
set_option linter.unusedVariables false
set_option linter.unusedSimpArgs false
open Go.RowKit
theorem Sr (d:Nd):Mv (d.preN 18 1)=(d.bare.size 18).1:=by
 rw [← P20.depth_size,← Nd.preN_bare]
 unfold Mv
 rw [List.map_map]
 rfl
end Go.Proofs.YtnjokdbblmlhhaaGreatDoor
