/- Lemmas of this claim (a part of its texts, kept as far as the claim reaches them). -/
import Derived.Test.YtefokfbgpfcbkaaGreatGPZ
namespace Go.Proofs.YtefokfbgpfcbkaaGreat
set_option linter.unusedVariables false
set_option linter.unusedSimpArgs false
namespace P22
open P20 (T)
structure Try where
  most : Int
  first : Int
  factor : Int
structure Step where
  name : List UInt8
  action : List UInt8
  undo : List UInt8
  after : List (List UInt8)
  tries : Try
  limit : Int
  note : T
structure Def where
  name : List UInt8
  text : List UInt8
  steps : List Step
end P22
end Go.Proofs.YtefokfbgpfcbkaaGreat
