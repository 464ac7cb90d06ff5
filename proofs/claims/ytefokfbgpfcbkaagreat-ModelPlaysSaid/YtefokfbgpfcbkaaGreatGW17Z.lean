/- Lemmas of this claim (a part of its texts, kept as far as the claim reaches them). -/
import Derived.Test.YtefokfbgpfcbkaaGreatGAZ
import Derived.Test.YtefokfbgpfcbkaaGreatGPZ
import Derived.Test.YtefokfbgpfcbkaaGreatShelfZ
namespace Go.Proofs.YtefokfbgpfcbkaaGreat
set_option linter.unusedVariables false
set_option linter.unusedSimpArgs false
open Go.RowKit Go.Shelf
attribute [local go_sem] Oper.semAt_some
def bsOf (l : List UInt8) : Value := .string ⟨l.toArray⟩
end Go.Proofs.YtefokfbgpfcbkaaGreat
namespace Go.Proofs.YtefokfbgpfcbkaaGreat
set_option linter.unusedVariables false
set_option linter.unusedSimpArgs false
open Go.RowKit Go.Shelf
attribute [local go_sem] Oper.semAt_some
end Go.Proofs.YtefokfbgpfcbkaaGreat
namespace Go.Proofs.YtefokfbgpfcbkaaGreat
set_option linter.unusedVariables false
set_option linter.unusedSimpArgs false
open Go.RowKit Go.Shelf
attribute [local go_sem] Oper.semAt_some
end Go.Proofs.YtefokfbgpfcbkaaGreat
