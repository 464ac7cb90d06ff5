/- Rows of the program's table of types that the walks want. -/
import Derived.Test.YtbnheebblicgkaaDoorRows
import Derived.KernelRfl
namespace Go.Proofs.YtbnheebblicgkaaDoor
set_option linter.unusedVariables false
set_option linter.unusedSimpArgs false
theorem byteInfo : (Tryd.prog.info? 5).map (fun i => (i.zero, i.size, i.bytes)) = some (some (.int .u8 0), 1, 1) := by kernel_rfl
end Go.Proofs.YtbnheebblicgkaaDoor
