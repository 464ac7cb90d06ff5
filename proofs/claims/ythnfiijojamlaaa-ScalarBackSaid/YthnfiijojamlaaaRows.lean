/-
  No cell of these rows narrows 'for every input' (looked for: loops, veiled, ifaces, maps, wideKeys, modest, calm, conditions, laid).
  DERIVED. THE GIVEN ROWS OF THIS SEAT. 4 by the template 'for every input the law returns true; each argument reads behind the call as it read before'; 0 by the template 'total and deterministic' (their statements: YthnfiijojamlaaaTotals.lean).
  GIVEN WITH THE SEED: the statements are not yours to turn. If you find one false, say at which input.
  Laid BY PROGRAM, IN A SANDBOX (cutbox-rows.mjs): the forced cells as the released guide's own fill.sh prints them over the translation bbe2dfd2c4c6ab9b… (all of the seat's roots in one cut). By AI agents, Wed Nov 11 2026. No macro, syntax, notation, axiom, sorry.
-/
import Derived.Test.YthnfiijojamlaaaChecked
import GoSem.Claim
import GoSem.ClaimJoined
import GoSem.ClaimMapViews
import Derived.JoinedTies
import Derived.KernelRfl
namespace Go.Proofs.Ythnfiijojamlaaa
/- THE CELL 'sum', in the pinned program and in every row, IS THE sha256 OF THE DUMP (.gsa) THAT YthnfiijojamlaaaProg.lean LOADS. Nothing in Lean hashes anything: it is a label: what it is worth is what the hold of that sum in a sandbox is worth. -/
noncomputable def Try.pinned : Pinned := { name := "ythnfiijojamlaaa", sum := "bbe2dfd2c4c6ab9b4514283f07e99fd2011b1414e6094e3f0acab524fdfcefec", checked := Try.checked }
namespace Rows
def none {H : Type} : Left H := { results := [], args := [] }

/-- 'rescriptlaw18.ScalarReads': WHATEVER THE INPUT: true; the input reads as it did. -/
def scalarReadsSpec : ChangeSpec := { name := "scalarReads", fn := fun _ => fun
  | [d] => { results := [.lit (.bool true)], args := [d] }
  | _ => none }
def scalarReadsRow : OpenClaim := { program := "ythnfiijojamlaaa", sum := "bbe2dfd2c4c6ab9b4514283f07e99fd2011b1414e6094e3f0acab524fdfcefec", func := "rescript/rescriptlaw18.ScalarReads", spec := "scalarReads", inPlace := ["internal/bytealg.IndexByteString"], apart := false }
def ScalarReadsSaid : Prop := scalarReadsRow.holds Try.pinned (OpenSpec.ofChange scalarReadsSpec)

/-- ITS FALSE NEIGHBOUR: 'it returns false'. Refute it at one input. -/
def scalarReadsWrong : ChangeSpec := { name := "scalarReads", fn := fun _ => fun
  | [d] => { results := [.lit (.bool false)], args := [d] }
  | _ => none }
def ScalarReadsWrongFalsely : Prop := scalarReadsRow.holds Try.pinned (OpenSpec.ofChange scalarReadsWrong)

/-- 'rescriptlaw18.ScalarPuts': WHATEVER THE INPUT: true; the input reads as it did. -/
def scalarPutsSpec : ChangeSpec := { name := "scalarPuts", fn := fun _ => fun
  | [d] => { results := [.lit (.bool true)], args := [d] }
  | _ => none }
def scalarPutsRow : OpenClaim := { program := "ythnfiijojamlaaa", sum := "bbe2dfd2c4c6ab9b4514283f07e99fd2011b1414e6094e3f0acab524fdfcefec", func := "rescript/rescriptlaw18.ScalarPuts", spec := "scalarPuts", inPlace := ["internal/bytealg.IndexByteString"], apart := false }
def ScalarPutsSaid : Prop := scalarPutsRow.holds Try.pinned (OpenSpec.ofChange scalarPutsSpec)

/-- ITS FALSE NEIGHBOUR: 'it returns false'. Refute it at one input. -/
def scalarPutsWrong : ChangeSpec := { name := "scalarPuts", fn := fun _ => fun
  | [d] => { results := [.lit (.bool false)], args := [d] }
  | _ => none }
def ScalarPutsWrongFalsely : Prop := scalarPutsRow.holds Try.pinned (OpenSpec.ofChange scalarPutsWrong)

/-- 'rescriptlaw18.ScalarBack': WHATEVER THE INPUT: true; the input reads as it did. -/
def scalarBackSpec : ChangeSpec := { name := "scalarBack", fn := fun _ => fun
  | [d1, d2, d3] => { results := [.lit (.bool true)], args := [d1, d2, d3] }
  | _ => none }
def scalarBackRow : OpenClaim := { program := "ythnfiijojamlaaa", sum := "bbe2dfd2c4c6ab9b4514283f07e99fd2011b1414e6094e3f0acab524fdfcefec", func := "rescript/rescriptlaw18.ScalarBack", spec := "scalarBack", inPlace := ["internal/bytealg.IndexByteString"], apart := false }
def ScalarBackSaid : Prop := scalarBackRow.holds Try.pinned (OpenSpec.ofChange scalarBackSpec)

/-- ITS FALSE NEIGHBOUR: 'it returns false'. Refute it at one input. -/
def scalarBackWrong : ChangeSpec := { name := "scalarBack", fn := fun _ => fun
  | [d1, d2, d3] => { results := [.lit (.bool false)], args := [d1, d2, d3] }
  | _ => none }
def ScalarBackWrongFalsely : Prop := scalarBackRow.holds Try.pinned (OpenSpec.ofChange scalarBackWrong)

/-- 'rescriptlaw18.ScalarNumbers': WHATEVER THE INPUT: true; the input reads as it did. -/
def scalarNumbersSpec : ChangeSpec := { name := "scalarNumbers", fn := fun _ => fun
  | [d1, d2] => { results := [.lit (.bool true)], args := [d1, d2] }
  | _ => none }
def scalarNumbersRow : OpenClaim := { program := "ythnfiijojamlaaa", sum := "bbe2dfd2c4c6ab9b4514283f07e99fd2011b1414e6094e3f0acab524fdfcefec", func := "rescript/rescriptlaw18.ScalarNumbers", spec := "scalarNumbers", inPlace := ["internal/bytealg.IndexByteString"], apart := false }
def ScalarNumbersSaid : Prop := scalarNumbersRow.holds Try.pinned (OpenSpec.ofChange scalarNumbersSpec)

/-- ITS FALSE NEIGHBOUR: 'it returns false'. Refute it at one input. -/
def scalarNumbersWrong : ChangeSpec := { name := "scalarNumbers", fn := fun _ => fun
  | [d1, d2] => { results := [.lit (.bool false)], args := [d1, d2] }
  | _ => none }
def ScalarNumbersWrongFalsely : Prop := scalarNumbersRow.holds Try.pinned (OpenSpec.ofChange scalarNumbersWrong)

/- THE SECOND FORM. 'bulk': how many values and letters a reading holds, each counted each time it is reached (what is shared counts as often as it is met; a slice's spare places count too). A statement '..UptoSaid' is the law's where the arguments, and the package variables that the reading takes, are together of bulk at most 1048576: NARROWER than '..Said'. Prove '..Said' where nothing that the law and all that it calls make is longer than what came in: it says more and counts as full. Else prove '..UptoSaid'. A law counts once. -/
mutual
def uptoBulk {H : Type} : DataW H → Nat
  | .lit (.string bytes) => bytes.length + 1
  | .lit _ => 1
  | .nil => 1
  | .ptr d => uptoBulk d + 1
  | .slice elems spare => uptoBulkAll elems + uptoBulkAll spare + 1
  | .agg parts => uptoBulkAll parts + 1
  | .iface _ d => uptoBulk d + 1
  | .map entries => uptoBulkEntries entries + 1
  | .held _ => 1
def uptoBulkAll {H : Type} : List (DataW H) → Nat
  | [] => 0
  | d :: r => uptoBulk d + uptoBulkAll r
def uptoBulkEntries {H : Type} : List (Lit × DataW H) → Nat
  | [] => 0
  | x :: r => uptoBulkEntry x + uptoBulkEntries r
def uptoBulkEntry {H : Type} : Lit × DataW H → Nat
  | (.string bytes, d) => bytes.length + uptoBulk d + 1
  | (_, d) => uptoBulk d + 1
 end
def uptoSmall : (H : Type) → List (DataW H) → Bool := fun _ ds => decide (uptoBulkAll ds ≤ 1048576)
def OpenSpec.upto (s : _root_.Go.ChangeSpec) : _root_.Go.OpenSpec := { _root_.Go.OpenSpec.ofChange s with cond := some uptoSmall }

/-- 'rescriptlaw18.ScalarReads', WHERE WHAT IT READS IS OF BULK AT MOST 1048576: true; the input reads as it did. -/
def scalarReadsUptoRow : OpenClaim := { program := "ythnfiijojamlaaa", sum := "bbe2dfd2c4c6ab9b4514283f07e99fd2011b1414e6094e3f0acab524fdfcefec", func := "rescript/rescriptlaw18.ScalarReads", spec := "scalarReads", inPlace := ["internal/bytealg.IndexByteString"], apart := false, narrowed := true }
def ScalarReadsUptoSaid : Prop := scalarReadsUptoRow.holds Try.pinned (OpenSpec.upto scalarReadsSpec)

/-- 'rescriptlaw18.ScalarPuts', WHERE WHAT IT READS IS OF BULK AT MOST 1048576: true; the input reads as it did. -/
def scalarPutsUptoRow : OpenClaim := { program := "ythnfiijojamlaaa", sum := "bbe2dfd2c4c6ab9b4514283f07e99fd2011b1414e6094e3f0acab524fdfcefec", func := "rescript/rescriptlaw18.ScalarPuts", spec := "scalarPuts", inPlace := ["internal/bytealg.IndexByteString"], apart := false, narrowed := true }
def ScalarPutsUptoSaid : Prop := scalarPutsUptoRow.holds Try.pinned (OpenSpec.upto scalarPutsSpec)

/-- 'rescriptlaw18.ScalarBack', WHERE WHAT IT READS IS OF BULK AT MOST 1048576: true; the input reads as it did. -/
def scalarBackUptoRow : OpenClaim := { program := "ythnfiijojamlaaa", sum := "bbe2dfd2c4c6ab9b4514283f07e99fd2011b1414e6094e3f0acab524fdfcefec", func := "rescript/rescriptlaw18.ScalarBack", spec := "scalarBack", inPlace := ["internal/bytealg.IndexByteString"], apart := false, narrowed := true }
def ScalarBackUptoSaid : Prop := scalarBackUptoRow.holds Try.pinned (OpenSpec.upto scalarBackSpec)

/-- 'rescriptlaw18.ScalarNumbers', WHERE WHAT IT READS IS OF BULK AT MOST 1048576: true; the input reads as it did. -/
def scalarNumbersUptoRow : OpenClaim := { program := "ythnfiijojamlaaa", sum := "bbe2dfd2c4c6ab9b4514283f07e99fd2011b1414e6094e3f0acab524fdfcefec", func := "rescript/rescriptlaw18.ScalarNumbers", spec := "scalarNumbers", inPlace := ["internal/bytealg.IndexByteString"], apart := false, narrowed := true }
def ScalarNumbersUptoSaid : Prop := scalarNumbersUptoRow.holds Try.pinned (OpenSpec.upto scalarNumbersSpec)

end Rows
end Go.Proofs.Ythnfiijojamlaaa
