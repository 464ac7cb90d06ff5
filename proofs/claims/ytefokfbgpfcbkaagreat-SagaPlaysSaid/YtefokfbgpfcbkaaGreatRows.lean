/-
  NARROWER THAN 'FOR EVERY INPUT', by the rows' own cells (each row's printed sentence says how): ModelPlays: loops · ModelKeeps: loops · QuotaBooks: loops · SagaPlays: loops · SagaAsks: loops · SagaOnce: loops.
  DERIVED. THE GIVEN ROWS OF THIS SEAT. 8 by the template 'for every input the law returns true; each argument reads behind the call as it read before'; 0 by the template 'total and deterministic' (their statements: YtefokfbgpfcbkaaGreatTotals.lean).
  GIVEN WITH THE SEED: the statements are not yours to turn. If you find one false, say at which input.
  Laid BY PROGRAM, IN A SANDBOX (cutbox-rows.mjs): the forced cells as the released guide's own fill.sh prints them over the translation 3b5ba404970cb22c… (all of the seat's roots in one cut). By AI agents, Wed Nov 11 2026. No macro, syntax, notation, axiom, sorry.
-/
import Derived.Test.YtefokfbgpfcbkaaGreatChecked
import GoSem.Claim
import GoSem.ClaimJoined
import GoSem.ClaimMapViews
import Derived.JoinedTies
import Derived.KernelRfl
namespace Go.Proofs.YtefokfbgpfcbkaaGreat
/- THE CELL 'sum', in the pinned program and in every row, IS THE sha256 OF THE DUMP (.gsa) THAT YtefokfbgpfcbkaaGreatProg.lean LOADS. Nothing in Lean hashes anything: it is a label: what it is worth is what the hold of that sum in a sandbox is worth. -/
noncomputable def Tryz.pinned : Pinned := { name := "ytefokfbgpfcbkaagreat", sum := "3b5ba404970cb22cd41e7bcafb319aca043fd376745a28a9be2ba83ff5bde152", checked := Tryz.checked }
namespace Rows
def none {H : Type} : Left H := { results := [], args := [] }

/-- 'rescriptlaw33.ModelPlays': WHATEVER THE INPUT: true; the input reads as it did. -/
def modelPlaysSpec : ChangeSpec := { name := "modelPlays", fn := fun _ => fun
  | [d1, d2] => { results := [.lit (.bool true)], args := [d1, d2] }
  | _ => none }
def modelPlaysRow : OpenClaim := { program := "ytefokfbgpfcbkaagreat", sum := "3b5ba404970cb22cd41e7bcafb319aca043fd376745a28a9be2ba83ff5bde152", func := "rescript/rescriptlaw33.ModelPlays", spec := "modelPlays", inPlace := ["internal/bytealg.IndexByteString", "internal/bytealg.abigen_runtime_cmpstring"], unfollowed := true, recurses := true, loops := true, plainKeys := false, apart := false }
def ModelPlaysSaid : Prop := modelPlaysRow.holds Tryz.pinned (OpenSpec.ofChange modelPlaysSpec)

/-- ITS FALSE NEIGHBOUR: 'it returns false'. Refute it at one input. -/
def modelPlaysWrong : ChangeSpec := { name := "modelPlays", fn := fun _ => fun
  | [d1, d2] => { results := [.lit (.bool false)], args := [d1, d2] }
  | _ => none }
def ModelPlaysWrongFalsely : Prop := modelPlaysRow.holds Tryz.pinned (OpenSpec.ofChange modelPlaysWrong)

/-- 'rescriptlaw33.ModelKeeps': WHATEVER THE INPUT: true; the input reads as it did. -/
def modelKeepsSpec : ChangeSpec := { name := "modelKeeps", fn := fun _ => fun
  | [d1, d2] => { results := [.lit (.bool true)], args := [d1, d2] }
  | _ => none }
def modelKeepsRow : OpenClaim := { program := "ytefokfbgpfcbkaagreat", sum := "3b5ba404970cb22cd41e7bcafb319aca043fd376745a28a9be2ba83ff5bde152", func := "rescript/rescriptlaw33.ModelKeeps", spec := "modelKeeps", inPlace := ["internal/bytealg.IndexByteString", "internal/bytealg.abigen_runtime_cmpstring"], unfollowed := true, recurses := true, loops := true, plainKeys := false, apart := false }
def ModelKeepsSaid : Prop := modelKeepsRow.holds Tryz.pinned (OpenSpec.ofChange modelKeepsSpec)

/-- ITS FALSE NEIGHBOUR: 'it returns false'. Refute it at one input. -/
def modelKeepsWrong : ChangeSpec := { name := "modelKeeps", fn := fun _ => fun
  | [d1, d2] => { results := [.lit (.bool false)], args := [d1, d2] }
  | _ => none }
def ModelKeepsWrongFalsely : Prop := modelKeepsRow.holds Tryz.pinned (OpenSpec.ofChange modelKeepsWrong)

/-- 'rescriptlaw36.QuotaBuckets': WHATEVER THE INPUT: true; the input reads as it did. -/
def quotaBucketsSpec : ChangeSpec := { name := "quotaBuckets", fn := fun _ => fun
  | [d1, d2, d3] => { results := [.lit (.bool true)], args := [d1, d2, d3] }
  | _ => none }
def quotaBucketsRow : OpenClaim := { program := "ytefokfbgpfcbkaagreat", sum := "3b5ba404970cb22cd41e7bcafb319aca043fd376745a28a9be2ba83ff5bde152", func := "rescript/rescriptlaw36.QuotaBuckets", spec := "quotaBuckets", inPlace := ["internal/bytealg.IndexByteString", "internal/bytealg.abigen_runtime_cmpstring"], unfollowed := true, recurses := true, plainKeys := false, apart := false }
def QuotaBucketsSaid : Prop := quotaBucketsRow.holds Tryz.pinned (OpenSpec.ofChange quotaBucketsSpec)

/-- ITS FALSE NEIGHBOUR: 'it returns false'. Refute it at one input. -/
def quotaBucketsWrong : ChangeSpec := { name := "quotaBuckets", fn := fun _ => fun
  | [d1, d2, d3] => { results := [.lit (.bool false)], args := [d1, d2, d3] }
  | _ => none }
def QuotaBucketsWrongFalsely : Prop := quotaBucketsRow.holds Tryz.pinned (OpenSpec.ofChange quotaBucketsWrong)

/-- 'rescriptlaw36.QuotaNever': WHATEVER THE INPUT: true; the input reads as it did. -/
def quotaNeverSpec : ChangeSpec := { name := "quotaNever", fn := fun _ => fun
  | [d1, d2, d3, d4] => { results := [.lit (.bool true)], args := [d1, d2, d3, d4] }
  | _ => none }
def quotaNeverRow : OpenClaim := { program := "ytefokfbgpfcbkaagreat", sum := "3b5ba404970cb22cd41e7bcafb319aca043fd376745a28a9be2ba83ff5bde152", func := "rescript/rescriptlaw36.QuotaNever", spec := "quotaNever", inPlace := ["internal/bytealg.IndexByteString", "internal/bytealg.abigen_runtime_cmpstring"], unfollowed := true, recurses := true, plainKeys := false, apart := false }
def QuotaNeverSaid : Prop := quotaNeverRow.holds Tryz.pinned (OpenSpec.ofChange quotaNeverSpec)

/-- ITS FALSE NEIGHBOUR: 'it returns false'. Refute it at one input. -/
def quotaNeverWrong : ChangeSpec := { name := "quotaNever", fn := fun _ => fun
  | [d1, d2, d3, d4] => { results := [.lit (.bool false)], args := [d1, d2, d3, d4] }
  | _ => none }
def QuotaNeverWrongFalsely : Prop := quotaNeverRow.holds Tryz.pinned (OpenSpec.ofChange quotaNeverWrong)

/-- 'rescriptlaw36.QuotaBooks': WHATEVER THE INPUT: true; the input reads as it did. -/
def quotaBooksSpec : ChangeSpec := { name := "quotaBooks", fn := fun _ => fun
  | [d1, d2, d3] => { results := [.lit (.bool true)], args := [d1, d2, d3] }
  | _ => none }
def quotaBooksRow : OpenClaim := { program := "ytefokfbgpfcbkaagreat", sum := "3b5ba404970cb22cd41e7bcafb319aca043fd376745a28a9be2ba83ff5bde152", func := "rescript/rescriptlaw36.QuotaBooks", spec := "quotaBooks", inPlace := ["internal/bytealg.IndexByteString", "internal/bytealg.abigen_runtime_cmpstring"], unfollowed := true, recurses := true, loops := true, plainKeys := false, apart := false }
def QuotaBooksSaid : Prop := quotaBooksRow.holds Tryz.pinned (OpenSpec.ofChange quotaBooksSpec)

/-- ITS FALSE NEIGHBOUR: 'it returns false'. Refute it at one input. -/
def quotaBooksWrong : ChangeSpec := { name := "quotaBooks", fn := fun _ => fun
  | [d1, d2, d3] => { results := [.lit (.bool false)], args := [d1, d2, d3] }
  | _ => none }
def QuotaBooksWrongFalsely : Prop := quotaBooksRow.holds Tryz.pinned (OpenSpec.ofChange quotaBooksWrong)

/-- 'rescriptlaw32.SagaPlays': WHATEVER THE INPUT: true; the input reads as it did. -/
def sagaPlaysSpec : ChangeSpec := { name := "sagaPlays", fn := fun _ => fun
  | [d1, d2] => { results := [.lit (.bool true)], args := [d1, d2] }
  | _ => none }
def sagaPlaysRow : OpenClaim := { program := "ytefokfbgpfcbkaagreat", sum := "3b5ba404970cb22cd41e7bcafb319aca043fd376745a28a9be2ba83ff5bde152", func := "rescript/rescriptlaw32.SagaPlays", spec := "sagaPlays", inPlace := ["internal/bytealg.IndexByteString", "internal/bytealg.abigen_runtime_cmpstring"], unfollowed := true, recurses := true, loops := true, plainKeys := false, apart := false }
def SagaPlaysSaid : Prop := sagaPlaysRow.holds Tryz.pinned (OpenSpec.ofChange sagaPlaysSpec)

/-- ITS FALSE NEIGHBOUR: 'it returns false'. Refute it at one input. -/
def sagaPlaysWrong : ChangeSpec := { name := "sagaPlays", fn := fun _ => fun
  | [d1, d2] => { results := [.lit (.bool false)], args := [d1, d2] }
  | _ => none }
def SagaPlaysWrongFalsely : Prop := sagaPlaysRow.holds Tryz.pinned (OpenSpec.ofChange sagaPlaysWrong)

/-- 'rescriptlaw32.SagaAsks': WHATEVER THE INPUT: true; the input reads as it did. -/
def sagaAsksSpec : ChangeSpec := { name := "sagaAsks", fn := fun _ => fun
  | [d1, d2] => { results := [.lit (.bool true)], args := [d1, d2] }
  | _ => none }
def sagaAsksRow : OpenClaim := { program := "ytefokfbgpfcbkaagreat", sum := "3b5ba404970cb22cd41e7bcafb319aca043fd376745a28a9be2ba83ff5bde152", func := "rescript/rescriptlaw32.SagaAsks", spec := "sagaAsks", inPlace := ["internal/bytealg.IndexByteString", "internal/bytealg.abigen_runtime_cmpstring"], unfollowed := true, recurses := true, loops := true, plainKeys := false, apart := false }
def SagaAsksSaid : Prop := sagaAsksRow.holds Tryz.pinned (OpenSpec.ofChange sagaAsksSpec)

/-- ITS FALSE NEIGHBOUR: 'it returns false'. Refute it at one input. -/
def sagaAsksWrong : ChangeSpec := { name := "sagaAsks", fn := fun _ => fun
  | [d1, d2] => { results := [.lit (.bool false)], args := [d1, d2] }
  | _ => none }
def SagaAsksWrongFalsely : Prop := sagaAsksRow.holds Tryz.pinned (OpenSpec.ofChange sagaAsksWrong)

/-- 'rescriptlaw32.SagaOnce': WHATEVER THE INPUT: true; the input reads as it did. -/
def sagaOnceSpec : ChangeSpec := { name := "sagaOnce", fn := fun _ => fun
  | [d1, d2, d3, d4] => { results := [.lit (.bool true)], args := [d1, d2, d3, d4] }
  | _ => none }
def sagaOnceRow : OpenClaim := { program := "ytefokfbgpfcbkaagreat", sum := "3b5ba404970cb22cd41e7bcafb319aca043fd376745a28a9be2ba83ff5bde152", func := "rescript/rescriptlaw32.SagaOnce", spec := "sagaOnce", inPlace := ["internal/bytealg.IndexByteString", "internal/bytealg.abigen_runtime_cmpstring"], unfollowed := true, recurses := true, loops := true, plainKeys := false, apart := false }
def SagaOnceSaid : Prop := sagaOnceRow.holds Tryz.pinned (OpenSpec.ofChange sagaOnceSpec)

/-- ITS FALSE NEIGHBOUR: 'it returns false'. Refute it at one input. -/
def sagaOnceWrong : ChangeSpec := { name := "sagaOnce", fn := fun _ => fun
  | [d1, d2, d3, d4] => { results := [.lit (.bool false)], args := [d1, d2, d3, d4] }
  | _ => none }
def SagaOnceWrongFalsely : Prop := sagaOnceRow.holds Tryz.pinned (OpenSpec.ofChange sagaOnceWrong)

/- THE SECOND FORM. 'bulk': how many values and letters a reading holds, each counted each time it is reached (what is shared counts as often as it is met; a slice's spare places count too). A statement '..UptoSaid' is the law's where the arguments, and the package variables that the reading takes, are together of bulk at most 1048576: NARROWER than '..Said'. Prove '..Said' where nothing that the law and all that it calls make is longer than what came in: it says more and counts as full. Else prove '..UptoSaid'. A law counts once. -/
mutual
def uptoBulk {H : Type} : DataW H → Nat
  | .lit (.string bytes) => bytes.length + 1
  | .lit _ => 1
  | .nil => 1
  | .ptr d => uptoBulk d + 1
  | .slice elems spare => uptoBulkAll elems + uptoBulkAll spare + 1
  | .agg parts => uptoBulkAll parts + 1
  | .iface _ d => uptoBulk d + 1
  | .map entries => uptoBulkEntries entries + 1
  | .held _ => 1
def uptoBulkAll {H : Type} : List (DataW H) → Nat
  | [] => 0
  | d :: r => uptoBulk d + uptoBulkAll r
def uptoBulkEntries {H : Type} : List (Lit × DataW H) → Nat
  | [] => 0
  | x :: r => uptoBulkEntry x + uptoBulkEntries r
def uptoBulkEntry {H : Type} : Lit × DataW H → Nat
  | (.string bytes, d) => bytes.length + uptoBulk d + 1
  | (_, d) => uptoBulk d + 1
 end
def uptoSmall : (H : Type) → List (DataW H) → Bool := fun _ ds => decide (uptoBulkAll ds ≤ 1048576)
def OpenSpec.upto (s : _root_.Go.ChangeSpec) : _root_.Go.OpenSpec := { _root_.Go.OpenSpec.ofChange s with cond := some uptoSmall }

/-- 'rescriptlaw33.ModelPlays', WHERE WHAT IT READS IS OF BULK AT MOST 1048576: true; the input reads as it did. -/
def modelPlaysUptoRow : OpenClaim := { program := "ytefokfbgpfcbkaagreat", sum := "3b5ba404970cb22cd41e7bcafb319aca043fd376745a28a9be2ba83ff5bde152", func := "rescript/rescriptlaw33.ModelPlays", spec := "modelPlays", inPlace := ["internal/bytealg.IndexByteString", "internal/bytealg.abigen_runtime_cmpstring"], unfollowed := true, recurses := true, loops := true, plainKeys := false, apart := false, narrowed := true }
def ModelPlaysUptoSaid : Prop := modelPlaysUptoRow.holds Tryz.pinned (OpenSpec.upto modelPlaysSpec)

/-- 'rescriptlaw33.ModelKeeps', WHERE WHAT IT READS IS OF BULK AT MOST 1048576: true; the input reads as it did. -/
def modelKeepsUptoRow : OpenClaim := { program := "ytefokfbgpfcbkaagreat", sum := "3b5ba404970cb22cd41e7bcafb319aca043fd376745a28a9be2ba83ff5bde152", func := "rescript/rescriptlaw33.ModelKeeps", spec := "modelKeeps", inPlace := ["internal/bytealg.IndexByteString", "internal/bytealg.abigen_runtime_cmpstring"], unfollowed := true, recurses := true, loops := true, plainKeys := false, apart := false, narrowed := true }
def ModelKeepsUptoSaid : Prop := modelKeepsUptoRow.holds Tryz.pinned (OpenSpec.upto modelKeepsSpec)

/-- 'rescriptlaw36.QuotaBuckets', WHERE WHAT IT READS IS OF BULK AT MOST 1048576: true; the input reads as it did. -/
def quotaBucketsUptoRow : OpenClaim := { program := "ytefokfbgpfcbkaagreat", sum := "3b5ba404970cb22cd41e7bcafb319aca043fd376745a28a9be2ba83ff5bde152", func := "rescript/rescriptlaw36.QuotaBuckets", spec := "quotaBuckets", inPlace := ["internal/bytealg.IndexByteString", "internal/bytealg.abigen_runtime_cmpstring"], unfollowed := true, recurses := true, plainKeys := false, apart := false, narrowed := true }
def QuotaBucketsUptoSaid : Prop := quotaBucketsUptoRow.holds Tryz.pinned (OpenSpec.upto quotaBucketsSpec)

/-- 'rescriptlaw36.QuotaNever', WHERE WHAT IT READS IS OF BULK AT MOST 1048576: true; the input reads as it did. -/
def quotaNeverUptoRow : OpenClaim := { program := "ytefokfbgpfcbkaagreat", sum := "3b5ba404970cb22cd41e7bcafb319aca043fd376745a28a9be2ba83ff5bde152", func := "rescript/rescriptlaw36.QuotaNever", spec := "quotaNever", inPlace := ["internal/bytealg.IndexByteString", "internal/bytealg.abigen_runtime_cmpstring"], unfollowed := true, recurses := true, plainKeys := false, apart := false, narrowed := true }
def QuotaNeverUptoSaid : Prop := quotaNeverUptoRow.holds Tryz.pinned (OpenSpec.upto quotaNeverSpec)

/-- 'rescriptlaw36.QuotaBooks', WHERE WHAT IT READS IS OF BULK AT MOST 1048576: true; the input reads as it did. -/
def quotaBooksUptoRow : OpenClaim := { program := "ytefokfbgpfcbkaagreat", sum := "3b5ba404970cb22cd41e7bcafb319aca043fd376745a28a9be2ba83ff5bde152", func := "rescript/rescriptlaw36.QuotaBooks", spec := "quotaBooks", inPlace := ["internal/bytealg.IndexByteString", "internal/bytealg.abigen_runtime_cmpstring"], unfollowed := true, recurses := true, loops := true, plainKeys := false, apart := false, narrowed := true }
def QuotaBooksUptoSaid : Prop := quotaBooksUptoRow.holds Tryz.pinned (OpenSpec.upto quotaBooksSpec)

/-- 'rescriptlaw32.SagaPlays', WHERE WHAT IT READS IS OF BULK AT MOST 1048576: true; the input reads as it did. -/
def sagaPlaysUptoRow : OpenClaim := { program := "ytefokfbgpfcbkaagreat", sum := "3b5ba404970cb22cd41e7bcafb319aca043fd376745a28a9be2ba83ff5bde152", func := "rescript/rescriptlaw32.SagaPlays", spec := "sagaPlays", inPlace := ["internal/bytealg.IndexByteString", "internal/bytealg.abigen_runtime_cmpstring"], unfollowed := true, recurses := true, loops := true, plainKeys := false, apart := false, narrowed := true }
def SagaPlaysUptoSaid : Prop := sagaPlaysUptoRow.holds Tryz.pinned (OpenSpec.upto sagaPlaysSpec)

/-- 'rescriptlaw32.SagaAsks', WHERE WHAT IT READS IS OF BULK AT MOST 1048576: true; the input reads as it did. -/
def sagaAsksUptoRow : OpenClaim := { program := "ytefokfbgpfcbkaagreat", sum := "3b5ba404970cb22cd41e7bcafb319aca043fd376745a28a9be2ba83ff5bde152", func := "rescript/rescriptlaw32.SagaAsks", spec := "sagaAsks", inPlace := ["internal/bytealg.IndexByteString", "internal/bytealg.abigen_runtime_cmpstring"], unfollowed := true, recurses := true, loops := true, plainKeys := false, apart := false, narrowed := true }
def SagaAsksUptoSaid : Prop := sagaAsksUptoRow.holds Tryz.pinned (OpenSpec.upto sagaAsksSpec)

/-- 'rescriptlaw32.SagaOnce', WHERE WHAT IT READS IS OF BULK AT MOST 1048576: true; the input reads as it did. -/
def sagaOnceUptoRow : OpenClaim := { program := "ytefokfbgpfcbkaagreat", sum := "3b5ba404970cb22cd41e7bcafb319aca043fd376745a28a9be2ba83ff5bde152", func := "rescript/rescriptlaw32.SagaOnce", spec := "sagaOnce", inPlace := ["internal/bytealg.IndexByteString", "internal/bytealg.abigen_runtime_cmpstring"], unfollowed := true, recurses := true, loops := true, plainKeys := false, apart := false, narrowed := true }
def SagaOnceUptoSaid : Prop := sagaOnceUptoRow.holds Tryz.pinned (OpenSpec.upto sagaOnceSpec)

end Rows
end Go.Proofs.YtefokfbgpfcbkaaGreat
