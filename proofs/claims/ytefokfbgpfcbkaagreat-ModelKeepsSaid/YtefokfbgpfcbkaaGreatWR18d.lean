/- walks of rescriptref18: Read -/
import Derived.Test.YtefokfbgpfcbkaaGreatGA
import Derived.Test.YtefokfbgpfcbkaaGreatGR18
import Derived.Test.YtefokfbgpfcbkaaGreatGW03
import Derived.StillTailTactics
namespace Go.Proofs.YtefokfbgpfcbkaaGreat
set_option linter.unusedVariables false
set_option linter.unusedSimpArgs false
open Go.RowKit
def TextErrR (w : World) (x : List UInt8 × Int) (e : Ending) (w' : World) : Prop := ∃ b : ByteArray, e = .returned (.tuple #[.string b, .int .i64 x.2]) ∧ b.data.toList = x.1 ∧ Below w.heap.size w w'
theorem still_drew {P : Program} {ops : Array Oper} {Q : Exit → Act → World → Prop} {rest : List Oper} {a : Act} {w w0 : World} {e : TypeId} {v : Value} {l : List UInt8} (hown : OwnB w w0.heap.size e v l) (hb : Below w0.heap.size w0 w)
    (h : ∀ W, OwnB W w0.heap.size e v l → Below w0.heap.size w0 W → wpList P ops Q rest a W) : wpList P ops Q rest a w.drew := h _ hown.drew hb.drew
end Go.Proofs.YtefokfbgpfcbkaaGreat
