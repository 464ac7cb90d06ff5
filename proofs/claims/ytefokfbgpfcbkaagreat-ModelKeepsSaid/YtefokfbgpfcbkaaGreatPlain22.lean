/- The plain functions of layer 22 (parse): what a tree stands for. -/
import Derived.Test.YtefokfbgpfcbkaaGreatGP
namespace Go.Proofs.YtefokfbgpfcbkaaGreat
set_option linter.unusedVariables false
set_option linter.unusedSimpArgs false
namespace P22
open P20 (T)
/-- what is wrong, and in which line -/
abbrev F := Int × Int
def textE (most : Int) (d : T) : Except F (List UInt8) :=
  if d.kind ≠ 1 then .error (7, d.line) else if P03.check d.text most ≠ 0 then .error (P03.check d.text most, d.line) else .ok d.text
def numE (d : T) : Except F Int :=
  if d.kind ≠ 1 then .error (7, d.line) else if (P18.number d.text).2 ≠ 0 then .error ((P18.number d.text).2, d.line) else .ok (P18.number d.text).1
/-- each of some, behind those that are there -/
def rowGo {α : Type} (f : T → Except F α) : List T → List α → Except F (List α)
  | [], acc => .ok acc
  | d :: ds, acc => match f d with
    | .error x => .error x
    | .ok a => rowGo f ds (acc ++ [a])
def rowE {α : Type} (most : Int) (f : T → Except F α) (d : T) : Except F (List α) :=
  if d.kind ≠ 2 then .error (7, d.line) else if most < (d.kids.length : Int) then .error (2, d.line) else rowGo f d.kids []
def namesE (d : T) : Except F (List (List UInt8)) := rowE 64 (textE 64) d
def noteE (d : T) : Except F T :=
  if d.check 1 ≠ 0 then .error (d.check 1, d.line) else if 13 < (d.size 18).1 then .error (11, d.line) else .ok d
/-- what a key's reader makes of a state -/
abbrev Rd (σ : Type) := T → σ → Except F σ
def keysGo {σ : Type} (rd : List UInt8 → Option (Rd σ)) : List (List UInt8) → List T → σ → Except F σ
  | k :: ks, d :: ds, s => match rd k with
    | none => .error (18, d.line)
    | some r => match r d s with
      | .error x => .error x
      | .ok s' => keysGo rd ks ds s'
  | _, _, s => .ok s
def keysE {σ : Type} (rd : List UInt8 → Option (Rd σ)) (must : List (List UInt8)) (d : T) (s : σ) : Except F σ :=
  if d.kind ≠ 3 then .error (7, d.line) else if d.keys.length ≠ d.kids.length then .error (3, d.line) else
  match keysGo rd d.keys d.kids s with
  | .error x => .error x
  | .ok s' => if ∀ m ∈ must, m ∈ d.keys then .ok s' else .error (5, d.line)
structure Try where
  most : Int
  first : Int
  factor : Int
def triesRd (k : List UInt8) : Option (Rd Try) :=
  if k = [109, 111, 115, 116] then some (fun d s => (numE d).map fun n => { s with most := n })
  else if k = [102, 105, 114, 115, 116] then some (fun d s => (numE d).map fun n => { s with first := n })
  else if k = [102, 97, 99, 116, 111, 114] then some (fun d s => (numE d).map fun n => { s with factor := n })
  else none
def triesE (d : T) : Except F Try := keysE triesRd [] d ⟨0, 0, 0⟩
structure Step where
  name : List UInt8
  action : List UInt8
  undo : List UInt8
  after : List (List UInt8)
  tries : Try
  limit : Int
  note : T
def Step.zero : Step := ⟨[], [], [], [], ⟨0, 0, 0⟩, 0, .mk 0 [] [] [] 0⟩
def stepRd (k : List UInt8) : Option (Rd Step) :=
  if k = [110, 97, 109, 101] then some (fun d s => (textE 64 d).map fun x => { s with name := x })
  else if k = [97, 99, 116, 105, 111, 110] then some (fun d s => (textE 64 d).map fun x => { s with action := x })
  else if k = [117, 110, 100, 111] then some (fun d s => (textE 64 d).map fun x => { s with undo := x })
  else if k = [97, 102, 116, 101, 114] then some (fun d s => (namesE d).map fun x => { s with after := x })
  else if k = [114, 101, 116, 114, 121] then some (fun d s => (triesE d).map fun x => { s with tries := x })
  else if k = [108, 105, 109, 105, 116] then some (fun d s => (numE d).map fun x => { s with limit := x })
  else if k = [110, 111, 116, 101] then some (fun d s => (noteE d).map fun x => { s with note := x })
  else none
def stepE (d : T) : Except F Step := keysE stepRd [[110, 97, 109, 101], [97, 99, 116, 105, 111, 110]] d Step.zero
structure Def where
  name : List UInt8
  text : List UInt8
  steps : List Step
def defRd (k : List UInt8) : Option (Rd Def) :=
  if k = [115, 97, 103, 97] then some (fun d s => (textE 64 d).map fun x => { s with name := x })
  else if k = [116, 101, 120, 116] then some (fun d s => (textE 4096 d).map fun x => { s with text := x })
  else if k = [115, 116, 101, 112, 115] then some (fun d s => (rowE 1024 stepE d).map fun x => { s with steps := x })
  else none
/-- the definition of a tree -/
def ofE (d : T) : Except F Def := keysE defRd [[115, 97, 103, 97], [115, 116, 101, 112, 115]] d ⟨[], [], []⟩
theorem textE_bad {most : Int} {d : T} {x : F} (h : textE most d = .error x) : x.1 ≠ 0 := by
  unfold textE at h
  split at h
  · cases h; simp
  · split at h
    · rename_i h1; cases h; exact h1
    · cases h
theorem numE_bad {d : T} {x : F} (h : numE d = .error x) : x.1 ≠ 0 := by
  unfold numE at h
  split at h
  · cases h; simp
  · split at h
    · rename_i h1; cases h; exact h1
    · cases h
theorem rowGo_bad {α : Type} {f : T → Except F α} (hf : ∀ d x, f d = .error x → x.1 ≠ 0) : ∀ (ds : List T) (acc : List α) (x : F), rowGo f ds acc = .error x → x.1 ≠ 0
  | [], acc, x, h => by simp [rowGo] at h
  | d :: ds, acc, x, h => by
    unfold rowGo at h
    split at h
    · rename_i h1; cases h; exact hf _ _ h1
    · exact rowGo_bad hf ds _ x h
theorem rowE_bad {α : Type} {most : Int} {f : T → Except F α} (hf : ∀ d x, f d = .error x → x.1 ≠ 0) {d : T} {x : F} (h : rowE most f d = .error x) : x.1 ≠ 0 := by
  unfold rowE at h
  split at h
  · cases h; simp
  · split at h
    · cases h; simp
    · exact rowGo_bad hf _ _ _ h
theorem noteE_bad {d : T} {x : F} (h : noteE d = .error x) : x.1 ≠ 0 := by
  unfold noteE at h
  split at h
  · rename_i h1; cases h; exact h1
  · split at h
    · cases h; simp
    · cases h
theorem keysGo_bad {σ : Type} {rd : List UInt8 → Option (Rd σ)} (hr : ∀ k r, rd k = some r → ∀ d s x, r d s = .error x → x.1 ≠ 0) : ∀ (ks : List (List UInt8)) (ds : List T) (s : σ) (x : F), keysGo rd ks ds s = .error x → x.1 ≠ 0
  | [], ds, s, x, h => by simp [keysGo] at h
  | k :: ks, [], s, x, h => by simp [keysGo] at h
  | k :: ks, d :: ds, s, x, h => by
    unfold keysGo at h
    split at h
    · cases h; simp
    · rename_i r h1
      split at h
      · rename_i h2; cases h; exact hr _ _ h1 _ _ _ h2
      · exact keysGo_bad hr ks ds _ x h
theorem keysE_bad {σ : Type} {rd : List UInt8 → Option (Rd σ)} (hr : ∀ k r, rd k = some r → ∀ d s x, r d s = .error x → x.1 ≠ 0) {must : List (List UInt8)} {d : T} {s : σ} {x : F} (h : keysE rd must d s = .error x) : x.1 ≠ 0 := by
  unfold keysE at h
  split at h
  · cases h; simp
  · split at h
    · cases h; simp
    · split at h
      · rename_i h1; cases h; exact keysGo_bad hr _ _ _ _ h1
      · split at h
        · cases h
        · cases h; simp
end P22
end Go.Proofs.YtefokfbgpfcbkaaGreat
