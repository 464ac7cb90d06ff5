/- Placed steps and definitions. -/
import Derived.Test.YtefokfbgpfcbkaaGreatEl
import Derived.Test.YtefokfbgpfcbkaaGreatPlain22
namespace Go.Proofs.YtefokfbgpfcbkaaGreat
set_option linter.unusedVariables false
set_option linter.unusedSimpArgs false
open Go.RowKit
/-- a step as it lies in the world -/
structure PSt where
  name : List UInt8
  action : List UInt8
  undo : List UInt8
  aa : Option Addr
  ac : Nat
  after : List (List UInt8)
  most : Int
  first : Int
  factor : Int
  limit : Int
  note : Nd
namespace PSt
def aV (s : PSt) : Value := .slice s.aa s.after.length s.ac
def cs (s : PSt) : List Value := [.string ⟨s.name.toArray⟩, .string ⟨s.action.toArray⟩, .string ⟨s.undo.toArray⟩, s.aV, .int .i64 s.most, .int .i64 s.first, .int .i64 s.factor, .int .i64 s.limit, .int .u8 s.note.kind, .string ⟨s.note.text.toArray⟩, s.note.kV, s.note.dV, .int .i64 s.note.line]
def val (s : PSt) : Value := .agg s.cs.toArray
def bare (s : PSt) : P22.Step := ⟨s.name, s.action, s.undo, s.after, ⟨s.most, s.first, s.factor⟩, s.limit, s.note.bare⟩
structure In (W : World) (s : PSt) : Prop where
  keys : InS W s.aa s.after
  len : s.after.length ≤ s.ac
  cap : s.ac ≤ maxLen
  note : s.note.In W
def blk (s : PSt) (r : Nat) : Prop := (s.after ≠ [] ∧ blockOf s.aa r) ∨ s.note.blk r
theorem In.keep {W W' : World} {s : PSt} (h : s.In W) (hk : ∀ r, s.blk r → W'.heap[r]? = W.heap[r]?) : s.In W' :=
  ⟨h.keys.keep (fun r hn hr => hk r (.inl ⟨hn, hr⟩)), h.len, h.cap, h.note.keep (fun r hr => hk r (.inr hr))⟩
theorem inS_lt {W : World} {a : Option Addr} {ks : List (List UInt8)} (h : InS W a ks) {r : Nat} (hn : ks ≠ []) (hr : blockOf a r) : r < W.heap.size := by
  obtain ⟨o, rfl⟩ := hr
  cases ks with
  | nil => exact absurd rfl hn
  | cons x ks =>
    obtain ⟨b, o', e, hc⟩ := h 0 x rfl
    injection e with e
    injection e with e
    subst e
    exact cellLt hc
theorem In.lt {W : World} {s : PSt} (h : s.In W) {r : Nat} (hr : s.blk r) : r < W.heap.size := by
  rcases hr with ⟨hn, hr⟩ | hr
  · exact inS_lt h.keys hn hr
  · exact h.note.lt hr
theorem In.below {W W' : World} {s : PSt} (h : s.In W) (hb : Below W.heap.size W W') : s.In W' := h.keep (fun r hr => hb.block r (h.lt hr))
def zero : PSt := ⟨[], [], [], none, 0, [], 0, 0, 0, 0, Nd.zero⟩
theorem zero_in (W : World) : zero.In W := ⟨fun i x h => by simp [zero] at h, Nat.le_refl _, Nat.zero_le _, Nd.zero_in W⟩
end PSt
/-- steps as elements of a row -/
@[reducible] def stEl : El PSt where
  T := 63
  n := 13
  cs := PSt.cs
  In := fun W s => s.In W
  blk := PSt.blk
  keep := fun _ _ _ h hk => h.keep hk
  lt := fun _ _ _ h hr => h.lt hr
  len := fun _ => rfl
  one := fun s u hu => by
    simp only [PSt.cs, List.mem_cons, List.not_mem_nil, or_false] at hu
    rcases hu with rfl | rfl | rfl | rfl | rfl | rfl | rfl | rfl | rfl | rfl | rfl | rfl | rfl <;> rfl
  pos := by decide
/-- the cells of a step that is none -/
abbrev stZ : Value := .agg #[.string ⟨#[]⟩, .string ⟨#[]⟩, .string ⟨#[]⟩, .slice none 0 0, .int .i64 0, .int .i64 0, .int .i64 0, .int .i64 0, .int .u8 0, .string ⟨#[]⟩, .slice none 0 0, .slice none 0 0, .int .i64 0]
theorem stInfo : El.Info Tryz.prog stEl 22 stZ 184 where
  und := Tryz.underlying22
  info := by kernel_rfl
  zs := rfl
/-- a definition as it lies in the world -/
structure PDef where
  name : List UInt8
  text : List UInt8
  sa : Option Addr
  sc : Nat
  steps : List PSt
namespace PDef
def val (d : PDef) : Value := .agg #[.string ⟨d.name.toArray⟩, .string ⟨d.text.toArray⟩, .slice d.sa d.steps.length d.sc]
def bare (d : PDef) : P22.Def := ⟨d.name, d.text, d.steps.map PSt.bare⟩
structure In (W : World) (d : PDef) : Prop where
  steps : stEl.InL W d.sa d.steps
  len : d.steps.length ≤ d.sc
  cap : d.sc ≤ maxLen
def blk (d : PDef) (r : Nat) : Prop := stEl.blkL d.sa d.steps r
theorem In.keep {W W' : World} {d : PDef} (h : d.In W) (hk : ∀ r, d.blk r → W'.heap[r]? = W.heap[r]?) : d.In W' := ⟨h.steps.keep hk, h.len, h.cap⟩
theorem In.lt {W : World} {d : PDef} (h : d.In W) {r : Nat} (hr : d.blk r) : r < W.heap.size := h.steps.lt hr
theorem In.below {W W' : World} {d : PDef} (h : d.In W) (hb : Below W.heap.size W W') : d.In W' := h.keep (fun r hr => hb.block r (h.lt hr))
def zero : PDef := ⟨[], [], none, 0, []⟩
theorem zero_in (W : World) : zero.In W := ⟨El.InL.nil _ _, Nat.le_refl _, Nat.zero_le _⟩
end PDef
end Go.Proofs.YtefokfbgpfcbkaaGreat
