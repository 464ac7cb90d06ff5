/- The reference's Value, keys: the loop's body. -/
import Derived.Test.YtnjokdbblmlhhaaGreatDoorWR20c
namespace Go.Proofs.YtnjokdbblmlhhaaGreatDoor
set_option linter.unusedVariables false
set_option linter.unusedSimpArgs false
open Go.RowKit
/-- the bodies of loops -/
def loopsOf : Code → List Code
  | .loop c => [c]
  | .seq a b => loopsOf a ++ loopsOf b
  | .block _ c => loopsOf c
  | .scope c => loopsOf c
  | .cond _ a b => loopsOf a ++ loopsOf b
  | _ => []
noncomputable def kbody : Code := match Tryz.f35.body with
  | some c => (loopsOf c).getD 1 .skip
  | none => .skip
end Go.Proofs.YtnjokdbblmlhhaaGreatDoor
