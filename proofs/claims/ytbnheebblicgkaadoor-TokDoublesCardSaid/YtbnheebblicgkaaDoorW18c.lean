/- walks of scalar.Quote, within -/
import Derived.Test.YtbnheebblicgkaaDoorInfo
import Derived.Test.YtbnheebblicgkaaDoorW18b
import Derived.Test.YtbnheebblicgkaaDoorBytes
namespace Go.Proofs.YtbnheebblicgkaaDoor
set_option linter.unusedVariables false
set_option linter.unusedSimpArgs false
open Go.RowKit
end Go.Proofs.YtbnheebblicgkaaDoor
