/- Lemmas of this claim (a part of its texts, kept as far as the claim reaches them). -/
import Derived.Test.YtefokfbgpfcbkaaGreatElZ
import Derived.Test.YtefokfbgpfcbkaaGreatGAZ
import Derived.MapKept
import Derived.WideKeyRuns
import Derived.Maps.OwnIn
import Derived.RangeFuncRecord
namespace Go.Proofs.YtefokfbgpfcbkaaGreat
set_option linter.unusedVariables false
set_option linter.unusedSimpArgs false
namespace P28
open P22 (Def Step)
abbrev Tx := List UInt8
abbrev Note := Int × Int × Tx
def nt (b : Bool) (i e : Int) (t : Tx) : List Note := if b then [(i, e, t)] else []
def right (s : Tx) : Bool := P18.plain s && decide (s.length ≤ 64)
def idx : List Tx → Tx → Option Nat
  | [], _ => none
  | n :: ns, x => if n = x then some 0 else (idx ns x).map (· + 1)
theorem idx_lt : ∀ {ns : List Tx} {x : Tx} {j : Nat}, idx ns x = some j → j < ns.length ∧ ns[j]? = some x
  | [], x, j, h => by simp [idx] at h
  | n :: ns, x, j, h => by
    unfold idx at h
    split at h
    · rename_i e
      cases h
      simp [e]
    · cases h2 : idx ns x with
      | none => rw [h2] at h; cases h
      | some k =>
        rw [h2] at h
        simp only [Option.map_some, Option.some.injEq] at h
        subst h
        obtain ⟨a, b⟩ := idx_lt h2
        exact ⟨by simp; omega, by simpa using b⟩
theorem idx_none : ∀ {ns : List Tx} {x : Tx}, idx ns x = none ↔ x ∉ ns
  | [], x => by simp [idx]
  | n :: ns, x => by
    unfold idx
    split
    · rename_i e
      simp [e]
    · rename_i e
      rw [Option.map_eq_none_iff, idx_none]
      simp only [List.mem_cons, not_or]
      exact ⟨fun h => ⟨fun h2 => e h2.symm, h⟩, fun h => h.2⟩
theorem idx_snoc (ns : List Tx) (n x : Tx) : idx (ns ++ [n]) x = match idx ns x with | some j => some j | none => if n = x then some ns.length else none := by
  induction ns with
  | nil => simp [idx]
  | cons m ms ih =>
    rw [List.cons_append]
    unfold idx
    by_cases h : m = x
    · rw [if_pos h, if_pos h]
    · rw [if_neg h, if_neg h, ih]
      cases idx ms x with
      | some j => rfl
      | none =>
        by_cases h2 : n = x
        · simp [h2]
        · simp [h2]
abbrev names (d : Def) : List Tx := d.steps.map (·.name)
abbrev undos (d : Def) : List Tx := d.steps.map (·.undo)
abbrev afters (d : Def) : List (List Tx) := d.steps.map (·.after)
abbrev Ref := Nat × Tx × Option Nat
def refL (ns : List Tx) : Nat → List (List Tx) → List Ref
  | _, [] => []
  | i, a :: aa => a.map (fun x => (i, x, idx ns x)) ++ refL ns (i + 1) aa
def addTo (i : Nat) (l : List Nat) (tt : Option Nat) : List Nat := match tt with
  | some j => if j ≠ i ∧ j ∉ l then l ++ [j] else l
  | none => l
def row (ns : List Tx) (i : Nat) (a : List Tx) : List Nat := a.foldl (fun l x => addTo i l (idx ns x)) []
def rows (ns : List Tx) : Nat → List (List Tx) → List (List Nat)
  | _, [] => []
  | i, a :: aa => row ns i a :: rows ns (i + 1) aa
def refs (d : Def) : List (List Nat) := rows (names d) 0 (afters d)
theorem rows_len (ns : List Tx) : ∀ (aa : List (List Tx)) (i : Nat), (rows ns i aa).length = aa.length
  | [], i => rfl
  | a :: aa, i => by simp [rows, rows_len ns aa]
theorem refs_len (d : Def) : (refs d).length = d.steps.length := by unfold refs; rw [rows_len]; simp
theorem addTo_mem {i : Nat} {l : List Nat} {tt : Option Nat} {j : Nat} (h : j ∈ addTo i l tt) : j ∈ l ∨ tt = some j := by
  unfold addTo at h
  split at h
  · split at h
    · rcases List.mem_append.1 h with h | h
      · exact .inl h
      · simp at h; exact .inr (by rw [h])
    · exact .inl h
  · exact .inl h
theorem row_mem {ns : List Tx} {i : Nat} : ∀ {a : List Tx} {l : List Nat} {j : Nat}, j ∈ a.foldl (fun l x => addTo i l (idx ns x)) l → j ∈ l ∨ j < ns.length
  | [], l, j, h => .inl h
  | x :: a, l, j, h => by
    rw [List.foldl_cons] at h
    rcases row_mem h with h | h
    · rcases addTo_mem h with h | h
      · exact .inl h
      · exact .inr (idx_lt h).1
    · exact .inr h
theorem rows_mem {ns : List Tx} : ∀ {aa : List (List Tx)} {i : Nat} {l : List Nat}, l ∈ rows ns i aa → ∀ j ∈ l, j < ns.length
  | [], i, l, h, j, hj => by simp [rows] at h
  | a :: aa, i, l, h, j, hj => by
    unfold rows at h
    rcases List.mem_cons.1 h with h | h
    · subst h
      rcases row_mem hj with h | h
      · simp at h
      · exact h
    · exact rows_mem h j hj
theorem refs_lt {d : Def} {l : List Nat} (h : l ∈ refs d) {j : Nat} (hj : j ∈ l) : j < d.steps.length := by
  have := rows_mem h j hj
  simpa using this
def addRef (o : List (List Nat)) (r : Ref) : List (List Nat) := o.set r.1 (addTo r.1 (o.getD r.1 []) r.2.2)
theorem foldl_addRef_row (ns : List Tx) (i : Nat) : ∀ (a : List Tx) (o : List (List Nat)) (l : List Nat), o[i]? = some l → (a.map (fun x => ((i, x, idx ns x) : Ref))).foldl addRef o = o.set i (a.foldl (fun l x => addTo i l (idx ns x)) l)
  | [], o, l, h => by
    simp only [List.map_nil, List.foldl_nil]
    obtain ⟨h1, h2⟩ := List.getElem?_eq_some_iff.1 h
    rw [← h2]
    simp
  | x :: a, o, l, h => by
    simp only [List.map_cons, List.foldl_cons]
    have hl : i < o.length := (List.getElem?_eq_some_iff.1 h).1
    have e : addRef o (i, x, idx ns x) = o.set i (addTo i l (idx ns x)) := by
      unfold addRef
      simp [List.getD, h]
    rw [e, foldl_addRef_row ns i a _ (addTo i l (idx ns x)) (by simp [hl])]
    simp
theorem foldl_addRef (ns : List Tx) : ∀ (aa : List (List Tx)) (i : Nat) (done : List (List Nat)), done.length = i → (refL ns i aa).foldl addRef (done ++ List.replicate aa.length []) = done ++ rows ns i aa
  | [], i, done, h => by simp [refL, rows]
  | a :: aa, i, done, h => by
    unfold refL rows
    rw [List.foldl_append, foldl_addRef_row ns i a _ [] (by rw [List.getElem?_append_right (by omega)]; simp [h, List.replicate_succ])]
    have e : (done ++ List.replicate (a :: aa).length []).set i (a.foldl (fun l x => addTo i l (idx ns x)) []) = (done ++ [row ns i a]) ++ List.replicate aa.length [] := by
      rw [List.set_append_right _ _ (by omega)]
      simp [h, List.replicate_succ, row]
    rw [e, foldl_addRef ns aa (i + 1) (done ++ [row ns i a]) (by simp [h])]
    simp
theorem refs_fold (d : Def) : (refL (names d) 0 (afters d)).foldl addRef (List.replicate d.steps.length []) = refs d := by
  have h := foldl_addRef (names d) (afters d) 0 [] rfl
  simpa [refs] using h
def stepN (ns : List Tx) (i : Nat) (s : Step) : List Note :=
  nt (!right s.name) i 18 s.name ++ (nt (!right s.action) i 18 s.action ++ (nt (!s.undo.isEmpty && !right s.undo) i 18 s.undo ++ nt (decide ((idx ns s.name).getD 0 < i)) i 6 s.name))
def stepsN (ns : List Tx) : Nat → List Step → List Note
  | _, [] => []
  | i, s :: ss => stepN ns i s ++ stepsN ns (i + 1) ss
def refN (ns : List Tx) (seen : List Ref) (r : Ref) : List Note :=
  nt r.2.2.isNone r.1 5 r.2.1 ++ (nt (decide (r.2.1 = ns.getD r.1 [])) r.1 8 r.2.1 ++ nt (decide ((r.1, r.2.1) ∈ seen.map fun q => (q.1, q.2.1))) r.1 6 r.2.1)
def refsN (ns : List Tx) : List Ref → List Ref → List Note
  | _, [] => []
  | seen, r :: rs => refN ns seen r ++ refsN ns (seen ++ [r]) rs
def namesP (d : Def) : List Note := nt d.steps.isEmpty (-1) 17 [] ++ (nt (!right d.name) (-1) 18 d.name ++ (stepsN (names d) 0 d.steps ++ refsN (names d) [] (refL (names d) 0 (afters d))))
theorem refsN_append (ns : List Tx) : ∀ (a b seen : List Ref), refsN ns seen (a ++ b) = refsN ns seen a ++ refsN ns (seen ++ a) b
  | [], b, seen => by simp [refsN]
  | r :: a, b, seen => by
    have e1 : refsN ns seen ((r :: a) ++ b) = refN ns seen r ++ refsN ns (seen ++ [r]) (a ++ b) := rfl
    have e2 : refsN ns seen (r :: a) = refN ns seen r ++ refsN ns (seen ++ [r]) a := rfl
    rw [e1, e2, refsN_append ns a b]
    simp only [List.append_assoc, List.cons_append, List.nil_append]
def meant (x n : Int) : Int := if x = 0 then n else x
def out1 (x a b : Int) : Bool := !(decide (a ≤ x) && decide (x ≤ b))
def stepB (i : Nat) (s : Step) : List Note :=
  nt (out1 (meant s.tries.most 1) 1 10) i 1 [109, 111, 115, 116] ++ (nt (out1 s.tries.first 0 1000) i 1 [102, 105, 114, 115, 116] ++ (nt (out1 (meant s.tries.factor 1) 1 10) i 1 [102, 97, 99, 116, 111, 114] ++ nt (out1 (meant s.limit 100) 1 10000) i 1 [108, 105, 109, 105, 116]))
def stepsB : Nat → List Step → List Note
  | _, [] => []
  | i, s :: ss => stepB i s ++ stepsB (i + 1) ss
def undoRow (us ns : List Tx) : List Nat → List Note
  | [] => []
  | j :: l => nt (us.getD j []).isEmpty j 19 (ns.getD j []) ++ undoRow us ns l
def undosP (us ns : List Tx) : Nat → List (List Nat) → List Note
  | _, [] => []
  | k, l :: ls => (if (us.getD k []).isEmpty then [] else undoRow us ns l) ++ undosP us ns (k + 1) ls
def boundsP (d : Def) : List Note := stepsB 0 d.steps ++ undosP (undos d) (names d) 0 (refs d)
def undoR (us : List Tx) (R : List (List Nat)) (i : Nat) (nm : Tx) : Nat → Nat → List Note
  | 0, _ => []
  | n + 1, k => nt (decide (i ∈ R.getD k []) && !(us.getD k []).isEmpty) i 19 nm ++ undoR us R i nm n (k + 1)
def mayB (deps : List (List Nat)) (there : List Bool) (i : Nat) : Bool := (deps.getD i []).all fun j => there.getD j false
def nextFrom (deps : List (List Nat)) (there : List Bool) : Nat → Nat → Option Nat
  | 0, _ => none
  | n + 1, i => if there.getD i false = false ∧ mayB deps there i = true then some i else nextFrom deps there n (i + 1)
def next (deps : List (List Nat)) (there : List Bool) : Option Nat := nextFrom deps there deps.length 0
def orderGo (deps : List (List Nat)) : Nat → List Bool → List Nat → List Nat
  | 0, _, out => out
  | f + 1, there, out => match next deps there with
    | none => out
    | some i => orderGo deps f (there.set i true) (out ++ [i])
def order (deps : List (List Nat)) : List Nat := orderGo deps deps.length (List.replicate deps.length false) []
def roundFrom (o : List Nat) : Nat → Nat → List Nat
  | 0, _ => []
  | n + 1, i => (if i ∈ o then [] else [i]) ++ roundFrom o n (i + 1)
def round (deps : List (List Nat)) : List Nat := roundFrom (order deps) deps.length 0
def cyc (d : Def) : List Note := (round (refs d)).map fun (i : Nat) => ((i : Int), (16 : Int), (names d).getD i [])
def texts : List Tx → Int
  | [] => 0
  | s :: ss => if P03.check s 64 ≠ 0 then P03.check s 64 else texts ss
def fits (x : Int) : Bool := decide (0 ≤ x) && decide (x ≤ 999999999)
def noneB (n : P20.T) : Bool := n.same (.mk 0 [] [] [] 0)
def stepE (s : Step) : Int :=
  if texts [s.name, s.action, s.undo] ≠ 0 then texts [s.name, s.action, s.undo] else if 64 < s.after.length then 2 else if texts s.after ≠ 0 then texts s.after else
  if (fits s.tries.most && (fits s.tries.first && (fits s.tries.factor && fits s.limit))) = false then 1 else if noneB s.note then 0 else if s.note.check 1 ≠ 0 then s.note.check 1 else if 13 < (s.note.size 18).1 then 11 else 0
def stepsE : Nat → List Step → Int × Int
  | _, [] => (0, 0)
  | i, s :: ss => if stepE s ≠ 0 then (stepE s, (i : Int) + 1) else stepsE (i + 1) ss
def defE (d : Def) : Int × Int :=
  if P03.check d.name 64 ≠ 0 then (P03.check d.name 64, 0) else if P03.check d.text 4096 ≠ 0 then (P03.check d.text 4096, 0) else if 1024 < d.steps.length then (2, 0) else stepsE 0 d.steps
def clean (d : Def) : Bool := (namesP d).isEmpty && ((boundsP d).isEmpty && ((cyc d).isEmpty && (defE d).1 == 0))
end P28
end Go.Proofs.YtefokfbgpfcbkaaGreat
namespace Go.Proofs.YtefokfbgpfcbkaaGreat
set_option linter.unusedVariables false
set_option linter.unusedSimpArgs false
open Go.RowKit
def posOf {κ : Type} [DecidableEq κ] : List (κ × Value) → κ → Nat → Option (Nat × Value)
  | [], _, _ => none
  | p :: L, x, i => if x = p.1 then some (i, p.2) else posOf L x (i + 1)
def lk {κ : Type} [DecidableEq κ] : List (κ × Value) → κ → Option Value
  | [], _ => none
  | p :: L, x => if x = p.1 then some p.2 else lk L x
def putL {κ : Type} [DecidableEq κ] : List (κ × Value) → κ → Value → List (κ × Value)
  | [], x, v => [(x, v)]
  | p :: L, x, v => if x = p.1 then (x, v) :: L else p :: putL L x v
def Born (es : Array MapEntry) (clock : Nat) : Prop := (∀ e ∈ es.toList, e.born < clock) ∧ (es.toList.map (·.born)).Nodup
theorem Born.push {es : Array MapEntry} {clock : Nat} (h : Born es clock) (k v : Value) : Born (es.push { key := k, val := v, born := clock }) (clock + 1) := by
  refine ⟨fun e he => ?_, ?_⟩
  · rw [Array.toList_push] at he
    rcases List.mem_append.1 he with he | he
    · have := h.1 e he; omega
    · simp at he; subst he; exact Nat.lt_succ_self _
  · rw [Array.toList_push, List.map_append, List.nodup_append]
    refine ⟨h.2, by simp, fun x hx y hy e => ?_⟩
    obtain ⟨a, ha, rfl⟩ := List.mem_map.1 hx
    have := h.1 a ha
    simp at hy
    omega
theorem modify_map {α β : Type} (g : α → β) (f : α → α) (hf : ∀ x, g (f x) = g x) : ∀ (l : List α) (i : Nat), (l.modify i f).map g = l.map g
  | [], i => by simp
  | x :: l, 0 => by simp [hf]
  | x :: l, i + 1 => by simp [modify_map g f hf l i]
theorem Born.modify {es : Array MapEntry} {clock : Nat} (h : Born es clock) (i : Nat) (f : MapEntry → MapEntry) (hf : ∀ e, (f e).born = e.born) : Born (es.modify i f) clock := by
  have hm : (es.modify i f).toList.map (·.born) = es.toList.map (·.born) := by rw [Array.toList_modify]; exact modify_map _ f hf _ i
  refine ⟨fun e he => ?_, by rw [hm]; exact h.2⟩
  have h1 : e.born ∈ (es.modify i f).toList.map (·.born) := List.mem_map_of_mem he
  rw [hm] at h1
  obtain ⟨a, ha, hb⟩ := List.mem_map.1 h1
  rw [← hb]
  exact h.1 a ha
def MapG {κ : Type} (enc : κ → Value) (W : World) (bm : Nat) (L : List (κ × Value)) : Prop :=
  ∃ es clock, W.heap[bm]? = some (.map es clock) ∧ Born es clock ∧ es.toList.map (fun e => (e.key, e.val)) = L.map fun p => (enc p.1, p.2)
theorem MapG.keep {κ : Type} {enc : κ → Value} {W W' : World} {bm : Nat} {L : List (κ × Value)} (h : MapG enc W bm L) (hb : W'.heap[bm]? = W.heap[bm]?) : MapG enc W' bm L := by
  obtain ⟨es, clock, h1, h0, h2⟩ := h
  exact ⟨es, clock, hb.trans h1, h0, h2⟩
theorem MapG.lt {κ : Type} {enc : κ → Value} {W : World} {bm : Nat} {L : List (κ × Value)} (h : MapG enc W bm L) : bm < W.heap.size := by
  obtain ⟨es, clock, h1, h0, h2⟩ := h
  exact (Array.getElem?_eq_some_iff.1 h1).1
section
variable {κ : Type} [DecidableEq κ]
theorem lk_pos : ∀ (L : List (κ × Value)) (x : κ) (i : Nat), lk L x = (posOf L x i).map (·.2)
  | [], x, i => rfl
  | p :: L, x, i => by
    unfold lk posOf
    split
    · rfl
    · exact lk_pos L x (i + 1)
theorem lk_put : ∀ (L : List (κ × Value)) (x : κ) (v : Value) (y : κ), lk (putL L x v) y = if y = x then some v else lk L y
  | [], x, v, y => by simp [putL, lk]
  | p :: L, x, v, y => by
    unfold putL
    by_cases h : x = p.1
    · rw [if_pos h]
      by_cases hy : y = x
      · simp [lk, hy]
      · have hy2 : ¬ y = p.1 := fun e => hy (e.trans h.symm)
        simp [lk, hy, hy2]
    · rw [if_neg h]
      unfold lk
      rw [lk_put L x v y]
      by_cases hp : y = p.1
      · have hy : ¬ y = x := fun e => h (e.symm.trans hp)
        simp [hp, hy]
        intro e
        exact absurd e.symm h
      · simp [hp]
theorem posOf_some : ∀ {L : List (κ × Value)} {x : κ} {i j : Nat} {v : Value}, posOf L x i = some (j, v) → ∃ pre post, L = pre ++ (x, v) :: post ∧ j = i + pre.length ∧ ∀ u, putL L x u = pre ++ (x, u) :: post
  | [], x, i, j, v, h => by simp [posOf] at h
  | p :: L, x, i, j, v, h => by
    unfold posOf at h
    split at h
    · rename_i e
      simp only [Option.some.injEq, Prod.mk.injEq] at h
      obtain ⟨rfl, rfl⟩ := h
      exact ⟨[], L, by simp [e], by simp, fun u => by simp [putL, e]⟩
    · rename_i e
      obtain ⟨pre, post, h1, h2, h3⟩ := posOf_some h
      exact ⟨p :: pre, post, by rw [h1]; rfl, by simp only [List.length_cons]; omega, fun u => by simp [putL, e, h3 u]⟩
theorem posOf_none : ∀ {L : List (κ × Value)} {x : κ} {i : Nat}, posOf L x i = none → ∀ u, putL L x u = L ++ [(x, u)]
  | [], x, i, h, u => rfl
  | p :: L, x, i, h, u => by
    unfold posOf at h
    split at h
    · cases h
    · rename_i e
      simp [putL, e, posOf_none h u]
structure KeyT (P : Program) (kt : TypeId) (enc : κ → Value) : Prop where
  chk : ∀ x e W, (Instr.checkKey e 10000 kt (enc x)).run P W = .ok () W
  find : ∀ (x : κ) (L : List (κ × Value)) (es : List MapEntry) W, es.map (fun e => (e.key, e.val)) = L.map (fun p => (enc p.1, p.2)) → (Instr.findKey kt (enc x) es).run P W = .ok (posOf L x 0) W
  bits : ∀ x, Instr.sameBits 10000 (enc x) (enc x) = true
theorem find_asking {P : Program} {kt : TypeId} {enc : κ → Value} (heq : ∀ x y W, (Op.equal kt (enc x) (enc y)).run P W = .ok (decide (x = y)) W) (x : κ) (W : World) : ∀ (L : List (κ × Value)) (es : List MapEntry) (i : Nat), es.map (fun e => (e.key, e.val)) = L.map (fun p => (enc p.1, p.2)) →
    (Instr.findAsking kt (enc x) es i).run P W = .ok (posOf L x i) W
  | [], es, i, h => by
    have : es = [] := by simpa using h
    subst this
    simp [Instr.findAsking, posOf]
  | p :: L, es, i, h => by
    cases es with
    | nil => simp at h
    | cons e es =>
      simp only [List.map_cons, List.cons.injEq, Prod.mk.injEq] at h
      obtain ⟨⟨h1, h2⟩, h3⟩ := h
      unfold Instr.findAsking posOf
      rw [h1]
      by_cases hx : x = p.1
      · simp [heq, hx, Result.andThen, h2]
      · simp [heq, hx, Result.andThen, find_asking heq x W L es (i + 1) h3]
theorem KeyT.wide {P : Program} {kt : TypeId} {enc : κ → Value} (hw : (match P.underlying kt with | some (.array _ _) | some (.struct _) => true | _ => false) = true)
    (hchk : ∀ x e W, (Instr.checkKey e 10000 kt (enc x)).run P W = .ok () W) (heq : ∀ x y W, (Op.equal kt (enc x) (enc y)).run P W = .ok (decide (x = y)) W) (hb : ∀ x, Instr.sameBits 10000 (enc x) (enc x) = true) : KeyT P kt enc :=
  ⟨hchk, fun x L es W h => by rw [run_findKey_eq W hw]; exact find_asking heq x W L es 0 h, hb⟩
theorem KeyT.plain {P : Program} {kt : TypeId} {d : TypeDesc} {enc : κ → Value} (hd : P.underlying kt = some d) (hk : ∀ x, Go.MapKept.IsKey d (enc x)) (hs : ∀ x y, Instr.sameNow d (enc x) (enc y) = some (decide (x = y))) : KeyT P kt enc where
  chk := fun x e W => Go.MapKept.run_checkKey hd (hk x) e 9999
  bits := fun x => Go.MapKept.sameBits_self (hk x) 10000
  find := fun x L es W h => by
    refine Go.MapKept.run_findKey hd ?_
    have : ∀ (L : List (κ × Value)) (es : List MapEntry) (i : Nat), es.map (fun e => (e.key, e.val)) = L.map (fun p => (enc p.1, p.2)) → Instr.findNow d (enc x) es i = some (posOf L x i) := by
      intro L
      induction L with
      | nil =>
        intro es i h
        have : es = [] := by simpa using h
        subst this
        rfl
      | cons p L ih =>
        intro es i h
        cases es with
        | nil => simp at h
        | cons e es =>
          simp only [List.map_cons, List.cons.injEq, Prod.mk.injEq] at h
          obtain ⟨⟨h1, h2⟩, h3⟩ := h
          unfold Instr.findNow posOf
          rw [h1, hs]
          by_cases hx : x = p.1
          · simp [hx, h2]
          · simp [hx, ih es (i + 1) h3]
    exact this L es 0 h
theorem MapG.look {P : Program} {mt kt et : TypeId} {enc : κ → Value} {W : World} {bm : Nat} {L : List (κ × Value)} (h : MapG enc W bm L) (K : KeyT P kt enc) (hu : P.underlying mt = some (.map kt et)) {z : Value} (hz : (zeroValue et).run P W = .ok z W) (x : κ) (ok : Bool) :
    (Instr.lookup mt (.map (some bm)) (enc x) ok).run P W = .ok (if ok then .tuple #[(lk L x).getD z, .bool (lk L x).isSome] else (lk L x).getD z) W := by
  obtain ⟨es, clock, h1, h0, h2⟩ := h
  have e1 := K.chk x es.isEmpty W
  have e2 := K.find x L es.toList W h2
  rw [lk_pos L x 0]
  cases hp : posOf L x 0 with
  | none =>
    rw [hp] at e2
    simp [Instr.lookup, run_underlying hu, Go.MapKept.run_getObj_map h1, e1, e2, hz, Result.andThen]
  | some r =>
    rw [hp] at e2
    simp [Instr.lookup, run_underlying hu, Go.MapKept.run_getObj_map h1, e1, e2, Result.andThen]
theorem modify_mid {α : Type} (f : α → α) : ∀ (a : List α) (x : α) (b : List α), (a ++ x :: b).modify a.length f = a ++ f x :: b
  | [], x, b => by simp
  | y :: a, x, b => by simp [modify_mid f a x b]
theorem map_split {α β : Type} {g : α → β} : ∀ {l : List α} {a : List β} {x : β} {b : List β}, l.map g = a ++ x :: b → ∃ la y lb, l = la ++ y :: lb ∧ la.map g = a ∧ g y = x ∧ lb.map g = b
  | l, [], x, b, h => by
    cases l with
    | nil => simp at h
    | cons y l =>
      simp only [List.map_cons, List.nil_append, List.cons.injEq] at h
      exact ⟨[], y, l, rfl, rfl, h.1, h.2⟩
  | l, c :: a, x, b, h => by
    cases l with
    | nil => simp at h
    | cons y l =>
      simp only [List.map_cons, List.cons_append, List.cons.injEq] at h
      obtain ⟨la, z, lb, h1, h2, h3, h4⟩ := map_split h.2
      exact ⟨y :: la, z, lb, by rw [h1]; rfl, by rw [List.map_cons, h.1, h2], h3, h4⟩
theorem MapG.put {P : Program} {mt kt et : TypeId} {enc : κ → Value} {W : World} {bm : Nat} {L : List (κ × Value)} (h : MapG enc W bm L) (K : KeyT P kt enc) (hu : P.underlying mt = some (.map kt et)) (x : κ) (v : Value) :
    ∃ W', (Instr.mapUpdate mt (.map (some bm)) (enc x) v).run P W = .ok () W' ∧ MapG enc W' bm (putL L x v) ∧ W.grownBy W' (some bm) ∧ W'.heap.size = W.heap.size ∧ (∀ g, g ≠ bm → W'.heap[g]? = W.heap[g]?) := by
  obtain ⟨es, clock, h1, h0, h2⟩ := h
  have hlt := (Array.getElem?_eq_some_iff.1 h1).1
  have e1 := K.chk x false W
  have e2 := K.find x L es.toList W h2
  have key : ∀ es' clock', Born es' clock' → es'.toList.map (fun e : MapEntry => (e.key, e.val)) = (putL L x v).map (fun p => (enc p.1, p.2)) → ∃ W', ({ W with heap := W.heap.setIfInBounds bm (.map es' clock') } : World) = W' ∧ MapG enc W' bm (putL L x v) ∧ W.grownBy W' (some bm) ∧ W'.heap.size = W.heap.size ∧ (∀ g, g ≠ bm → W'.heap[g]? = W.heap[g]?) := by
    intro es' clock' hbn he
    refine ⟨_, rfl, ⟨es', clock', by simp [hlt], hbn, he⟩, ⟨rfl, rfl, rfl, by simp, fun g hg hn => ?_⟩, by simp, fun g hg => ?_⟩
    · have : g ≠ bm := fun e => hn (by rw [e])
      simp [Ne.symm this]
    · simp [Ne.symm hg]
  cases hp : posOf L x 0 with
  | none =>
    rw [hp] at e2
    obtain ⟨W', hW, hr⟩ := key (es.push { key := enc x, val := v, born := clock }) (clock + 1) (h0.push _ _) (by rw [posOf_none hp v]; simp [h2])
    exact ⟨W', by rw [← hW]; simp [Instr.mapUpdate, run_underlying hu, Go.MapKept.run_getObj_map h1, e1, e2, Go.MapKept.run_setObj_map _ h1, Result.andThen], hr⟩
  | some r =>
    obtain ⟨j, u⟩ := r
    rw [hp] at e2
    obtain ⟨pre, post, q1, q2, q3⟩ := posOf_some hp
    rw [q1, List.map_append, List.map_cons] at h2
    obtain ⟨la, y, lb, r1, r2, r3, r4⟩ := map_split h2
    have hlen : la.length = j := by
      have := congrArg List.length r2
      simp only [List.length_map] at this
      omega
    simp only [Prod.mk.injEq] at r3
    have hj : es[j]? = some y := by
      rw [← Array.getElem?_toList, r1, ← hlen]
      simp
    obtain ⟨W', hW, hr⟩ := key (es.modify j fun e => { e with key := enc x, val := v }) clock (h0.modify _ _ (fun _ => rfl)) (by
      rw [q3 v, Array.toList_modify, r1, ← hlen, modify_mid]
      simp [r2, r4])
    have hst : (Instr.keyThatStays (enc x) (enc x)).run P W = .ok (enc x) W := by
      unfold Instr.keyThatStays
      simp [K.bits x]
    have hgk : ((es[j]?.map (·.key)).getD (enc x)) = enc x := by rw [hj]; simp [r3.1]
    refine ⟨W', ?_, hr⟩
    rw [← hW]
    simp [Instr.mapUpdate, run_underlying hu, Go.MapKept.run_getObj_map h1, e1, e2, hgk, hst, Go.MapKept.run_setObj_map _ h1, Result.andThen]
theorem find_born {l : List MapEntry} (hn : (l.map (·.born)).Nodup) {a : List MapEntry} {y : MapEntry} {b : List MapEntry} (h : l = a ++ y :: b) : l.findIdx? (fun e => (e.born : Int) == (y.born : Int)) = some a.length := by
  subst h
  rw [List.map_append, List.nodup_append] at hn
  have h1 : a.findIdx? (fun e => (e.born : Int) == (y.born : Int)) = none := by
    rw [List.findIdx?_eq_none_iff]
    intro x hx
    have := hn.2.2 x.born (List.mem_map_of_mem hx) y.born (by simp)
    simp
    omega
  rw [List.findIdx?_append, h1]
  simp [List.findIdx?_cons]
theorem MapG.entry {P : Program} {mt kt et : TypeId} {enc : κ → Value} {W : World} {bm : Nat} {L : List (κ × Value)} (h : MapG enc W bm L) (K : KeyT P kt enc) (hu : P.underlying mt = some (.map kt et)) {z : Value} (hz : (zeroValue et).run P W = .ok z W) (x : κ) :
    ∃ W' st, (Instr.mapEntry mt (.map (some bm)) (enc x)).run P W = .ok (.tuple #[(lk L x).getD z, .int .i64 st]) W' ∧ MapG enc W' bm (putL L x ((lk L x).getD z)) ∧ W.grownBy W' (some bm) ∧ W'.heap.size = W.heap.size ∧ (∀ g, g ≠ bm → W'.heap[g]? = W.heap[g]?) ∧
      ∀ W2 v, W2.heap[bm]? = W'.heap[bm]? → ∃ W3, (Instr.entryStore mt (.map (some bm)) (.int .i64 st) v).run P W2 = .ok () W3 ∧ MapG enc W3 bm (putL L x v) ∧ W2.grownBy W3 (some bm) ∧ W3.heap.size = W2.heap.size ∧ (∀ g, g ≠ bm → W3.heap[g]? = W2.heap[g]?) := by
  obtain ⟨es, clock, h1, h0, h2⟩ := h
  have hlt := (Array.getElem?_eq_some_iff.1 h1).1
  have e1 := K.chk x false W
  have e2 := K.find x L es.toList W h2
  -- a store into the entry behind which 'pre' stand
  have store : ∀ (W2 : World) (es' : Array MapEntry) (clock' : Nat) (pre post : List (κ × Value)) (a : List MapEntry) (y : MapEntry) (b : List MapEntry) (v : Value), W2.heap[bm]? = some (.map es' clock') → Born es' clock' → es'.toList = a ++ y :: b → a.map (fun e => (e.key, e.val)) = pre.map (fun p => (enc p.1, p.2)) → b.map (fun e => (e.key, e.val)) = post.map (fun p => (enc p.1, p.2)) → y.key = enc x → putL L x v = pre ++ (x, v) :: post →
      ∃ W3, (Instr.entryStore mt (.map (some bm)) (.int .i64 y.born) v).run P W2 = .ok () W3 ∧ MapG enc W3 bm (putL L x v) ∧ W2.grownBy W3 (some bm) ∧ W3.heap.size = W2.heap.size ∧ (∀ g, g ≠ bm → W3.heap[g]? = W2.heap[g]?) := by
    intro W2 es' clock' pre post a y b v hW hB hl ha hb hk hp
    have hlt2 := (Array.getElem?_eq_some_iff.1 hW).1
    have hfi : es'.findIdx? (fun e => (e.born : Int) == (y.born : Int)) = some a.length := by
      have h9 := find_born hB.2 hl
      obtain ⟨l9⟩ := es'
      simpa using h9
    refine ⟨{ W2 with heap := W2.heap.setIfInBounds bm (.map (es'.modify a.length fun e => { e with val := v }) clock') }, ?_, ⟨es'.modify a.length fun e => { e with val := v }, clock', by simp [hlt2], hB.modify _ _ (fun _ => rfl), ?_⟩, ⟨rfl, rfl, rfl, by simp, fun g hg hn => ?_⟩, by simp, fun g hg => ?_⟩
    · simp [Instr.entryStore, Go.MapKept.run_getObj_map hW, asInt, asIntOf, hfi, Go.MapKept.run_setObj_map _ hW, Result.andThen]
    · rw [Array.toList_modify, hl, modify_mid, hp]
      simp [ha, hb, hk]
    · have : g ≠ bm := fun e => hn (by rw [e])
      simp [Ne.symm this]
    · simp [Ne.symm hg]
  cases hp : posOf L x 0 with
  | none =>
    rw [hp] at e2
    have hlk : lk L x = none := by rw [lk_pos L x 0, hp]; rfl
    rw [hlk]
    refine ⟨{ W with heap := W.heap.setIfInBounds bm (.map (es.push { key := enc x, val := z, born := clock }) (clock + 1)) }, clock, ?_, ⟨es.push { key := enc x, val := z, born := clock }, clock + 1, by simp [hlt], h0.push _ _, ?_⟩, ⟨rfl, rfl, rfl, by simp, fun g hg hn => ?_⟩, by simp, fun g hg => ?_, fun W2 v hW2 => ?_⟩
    · simp [Instr.mapEntry, run_underlying hu, Go.MapKept.run_getObj_map h1, e1, e2, hz, Go.MapKept.run_setObj_map _ h1, Result.andThen, goInt]
    · rw [Option.getD_none, posOf_none hp z]; simp [h2]
    · have : g ≠ bm := fun e => hn (by rw [e])
      simp [Ne.symm this]
    · simp [Ne.symm hg]
    · exact store W2 (es.push { key := enc x, val := z, born := clock }) (clock + 1) L [] es.toList { key := enc x, val := z, born := clock } [] v (by rw [hW2]; simp [hlt]) (h0.push _ _) (by simp) h2 rfl rfl (by rw [posOf_none hp v])
  | some r =>
    obtain ⟨j, u⟩ := r
    rw [hp] at e2
    have hlk : lk L x = some u := by rw [lk_pos L x 0, hp]; rfl
    rw [hlk]
    obtain ⟨pre, post, q1, q2, q3⟩ := posOf_some hp
    have h2' := h2
    rw [q1, List.map_append, List.map_cons] at h2'
    obtain ⟨la, y, lb, r1, r2, r3, r4⟩ := map_split h2'
    have hlen : la.length = j := by
      have := congrArg List.length r2
      simp only [List.length_map] at this
      omega
    simp only [Prod.mk.injEq] at r3
    have hj : es[j]? = some y := by
      rw [← Array.getElem?_toList, r1, ← hlen]
      simp
    have hst : (Instr.keyThatStays (enc x) (enc x)).run P W = .ok (enc x) W := by
      unfold Instr.keyThatStays
      simp [K.bits x]
    have hgk : ((es[j]?.map (·.key)).getD (enc x)) = enc x := by rw [hj]; simp [r3.1]
    have hgb : ((es[j]?.map (·.born)).getD 0) = y.born := by rw [hj]; rfl
    have hll : (es.modify j fun e => { e with key := enc x }).toList = la ++ { y with key := enc x } :: lb := by rw [Array.toList_modify, r1, ← hlen, modify_mid]
    refine ⟨{ W with heap := W.heap.setIfInBounds bm (.map (es.modify j fun e => { e with key := enc x }) clock) }, y.born, ?_, ⟨es.modify j fun e => { e with key := enc x }, clock, by simp [hlt], h0.modify _ _ (fun _ => rfl), ?_⟩, ⟨rfl, rfl, rfl, by simp, fun g hg hn => ?_⟩, by simp, fun g hg => ?_, fun W2 v hW2 => ?_⟩
    · simp [Instr.mapEntry, run_underlying hu, Go.MapKept.run_getObj_map h1, e1, e2, hgk, hgb, hst, hj, r3.1, Go.MapKept.run_setObj_map _ h1, Result.andThen, goInt]
    · rw [hll, Option.getD_some, q3 u]; simp [r2, r3.2, r4]
    · have : g ≠ bm := fun e => hn (by rw [e])
      simp [Ne.symm this]
    · simp [Ne.symm hg]
    · exact store W2 (es.modify j fun e => { e with key := enc x }) clock pre post la { y with key := enc x } lb v (by rw [hW2]; simp [hlt]) (h0.modify _ _ (fun _ => rfl)) hll r2 r4 rfl (q3 v)
theorem wpList_lookG {P : Program} {mt kt et : TypeId} {enc : κ → Value} {W : World} {bm : Nat} {L : List (κ × Value)} {ops : Array Oper} {rest : List Oper} {o : Oper} {a : Act} {Q : Exit → Act → World → Prop} (hg : o.guard = none) (m x : Operand) (ok : Bool) (hop : o.op = Op.lookup mt m x ok)
    (h : MapG enc W bm L) (K : KeyT P kt enc) (hu : P.underlying mt = some (.map kt et)) {z : Value} (hz : (zeroValue et).run P W = .ok z W) (hm : a.eval m = .map (some bm)) (k : κ) (hx : a.eval x = enc k)
    (hK : wpList P ops Q rest (a.put o.dst (if ok then .tuple #[(lk L k).getD z, .bool (lk L k).isSome] else (lk L k).getD z)) W) : wpList P ops Q (o :: rest) a W := by
  refine wpList_plain hg fun K' hK' => ?_
  have hrun := h.look K hu hz k ok
  obtain ⟨r, hr⟩ : ∃ r, (if ok = true then Value.tuple #[(lk L k).getD z, .bool (lk L k).isSome] else (lk L k).getD z) = r := ⟨_, rfl⟩
  rw [hr] at hrun hK
  unfold Oper.wp
  simp [execOp, hop, hm, hx, hrun, Result.andThen]
  exact hK' _ _ hK
theorem wpListIn_lookG {F : Fence} {n : Nat} {P : Program} {mt kt et : TypeId} {enc : κ → Value} {W : World} {bm : Nat} {L : List (κ × Value)} {ops : Array Oper} {rest : List Oper} {o : Oper} {a : Act} {Q : Exit → Act → World → Prop} (hg : o.guard = none) (m x : Operand) (ok : Bool) (hop : o.op = Op.lookup mt m x ok)
    (h : MapG enc W bm L) (K : KeyT P kt enc) (hu : P.underlying mt = some (.map kt et)) {z : Value} (hz : (zeroValue et).run P W = .ok z W) (hm : a.eval m = .map (some bm)) (k : κ) (hx : a.eval x = enc k)
    (hK : wpListIn F n P ops Q rest (a.put o.dst (if ok then .tuple #[(lk L k).getD z, .bool (lk L k).isSome] else (lk L k).getD z)) W) : wpListIn F n P ops Q (o :: rest) a W := by
  refine wpListIn_plain hg fun K' hK' => ?_
  have hrun := h.look K hu hz k ok
  unfold Oper.wpIn
  refine ⟨by simp [Oper.about, hop], ?_⟩
  rw [Oper.semAt_plain F _ _ (by rw [hop]; intro c hc'; cases hc')]
  obtain ⟨r, hr⟩ : ∃ r, (if ok = true then Value.tuple #[(lk L k).getD z, .bool (lk L k).isSome] else (lk L k).getD z) = r := ⟨_, rfl⟩
  rw [hr] at hrun hK
  simp [execOp, hop, hm, hx, hrun, Result.andThen]
  exact hK' _ _ hK
theorem wpList_putG {P : Program} {mt kt et : TypeId} {enc : κ → Value} {W : World} {bm : Nat} {L : List (κ × Value)} {ops : Array Oper} {rest : List Oper} {o : Oper} {a : Act} {Q : Exit → Act → World → Prop} (hg : o.guard = none) (m x v : Operand) (hop : o.op = Op.mapUpdate mt m x v)
    (h : MapG enc W bm L) (K : KeyT P kt enc) (hu : P.underlying mt = some (.map kt et)) (hm : a.eval m = .map (some bm)) (k : κ) (hx : a.eval x = enc k) (val : Value) (hv : a.eval v = val)
    (hK : ∀ W', MapG enc W' bm (putL L k val) → W.grownBy W' (some bm) → W'.heap.size = W.heap.size → (∀ g, g ≠ bm → W'.heap[g]? = W.heap[g]?) → wpList P ops Q rest (a.put o.dst undef) W') : wpList P ops Q (o :: rest) a W := by
  refine wpList_plain hg fun K' hK' => ?_
  obtain ⟨W', hrun, r1, r2, r3, r4⟩ := h.put K hu k val
  unfold Oper.wp
  simp [execOp, hop, hm, hx, hv, hrun, Result.andThen]
  exact hK' _ _ (hK W' r1 r2 r3 r4)
theorem wpList_lookOk {P : Program} {mt kt et : TypeId} {enc : κ → Value} {W : World} {bm : Nat} {L : List (κ × Value)} {ops : Array Oper} {rest : List Oper} {o : Oper} {a : Act} {Q : Exit → Act → World → Prop} (hg : o.guard = none) (m x : Operand) (hop : o.op = Op.lookup mt m x true)
    (h : MapG enc W bm L) (K : KeyT P kt enc) (hu : P.underlying mt = some (.map kt et)) {z : Value} (hz : (zeroValue et).run P W = .ok z W) (hm : a.eval m = .map (some bm)) (k : κ) (hx : a.eval x = enc k) {r : Option Value} (hr : lk L k = r)
    (hK : wpList P ops Q rest (a.put o.dst (.tuple #[(r.getD z), .bool r.isSome])) W) : wpList P ops Q (o :: rest) a W := by
  subst hr
  exact wpList_lookG hg m x true hop h K hu hz hm k hx hK
theorem wpList_lookOne {P : Program} {mt kt et : TypeId} {enc : κ → Value} {W : World} {bm : Nat} {L : List (κ × Value)} {ops : Array Oper} {rest : List Oper} {o : Oper} {a : Act} {Q : Exit → Act → World → Prop} (hg : o.guard = none) (m x : Operand) (hop : o.op = Op.lookup mt m x false)
    (h : MapG enc W bm L) (K : KeyT P kt enc) (hu : P.underlying mt = some (.map kt et)) {z : Value} (hz : (zeroValue et).run P W = .ok z W) (hm : a.eval m = .map (some bm)) (k : κ) (hx : a.eval x = enc k) {r : Option Value} (hr : lk L k = r)
    (hK : wpList P ops Q rest (a.put o.dst (r.getD z)) W) : wpList P ops Q (o :: rest) a W := by
  subst hr
  exact wpList_lookG hg m x false hop h K hu hz hm k hx hK
theorem wpListIn_lookOk {F : Fence} {n : Nat} {P : Program} {mt kt et : TypeId} {enc : κ → Value} {W : World} {bm : Nat} {L : List (κ × Value)} {ops : Array Oper} {rest : List Oper} {o : Oper} {a : Act} {Q : Exit → Act → World → Prop} (hg : o.guard = none) (m x : Operand) (hop : o.op = Op.lookup mt m x true)
    (h : MapG enc W bm L) (K : KeyT P kt enc) (hu : P.underlying mt = some (.map kt et)) {z : Value} (hz : (zeroValue et).run P W = .ok z W) (hm : a.eval m = .map (some bm)) (k : κ) (hx : a.eval x = enc k) {r : Option Value} (hr : lk L k = r)
    (hK : wpListIn F n P ops Q rest (a.put o.dst (.tuple #[(r.getD z), .bool r.isSome])) W) : wpListIn F n P ops Q (o :: rest) a W := by
  subst hr
  exact wpListIn_lookG hg m x true hop h K hu hz hm k hx hK
end
def encS (x : List UInt8) : Value := .string ⟨x.toArray⟩
theorem keyT_string {P : Program} {kt : TypeId} (hd : P.underlying kt = some .string) : KeyT P kt encS :=
  .plain hd (fun x => by simp [Go.MapKept.IsKey, encS]) (fun x y => by
    simp only [Instr.sameNow, encS, Option.some.injEq]
    rw [Bool.eq_iff_iff, Go.MapKept.bytes_beq, decide_eq_true_iff]
    constructor
    · intro e
      injection e with e
      simpa using congrArg Array.toList e
    · rintro rfl; rfl)
end Go.Proofs.YtefokfbgpfcbkaaGreat
