/- Lemmas of this claim (a part of its texts, kept as far as the claim reaches them). -/
import Derived.Test.YtefokfbgpfcbkaaGreatGAZ
import Derived.MapKept
import Derived.WideKeyRuns
import Derived.Maps.OwnIn
import Derived.RangeFuncRecord
namespace Go.Proofs.YtefokfbgpfcbkaaGreat
set_option linter.unusedVariables false
set_option linter.unusedSimpArgs false
open Go.RowKit
def posOf {κ : Type} [DecidableEq κ] : List (κ × Value) → κ → Nat → Option (Nat × Value)
  | [], _, _ => none
  | p :: L, x, i => if x = p.1 then some (i, p.2) else posOf L x (i + 1)
def lk {κ : Type} [DecidableEq κ] : List (κ × Value) → κ → Option Value
  | [], _ => none
  | p :: L, x => if x = p.1 then some p.2 else lk L x
def putL {κ : Type} [DecidableEq κ] : List (κ × Value) → κ → Value → List (κ × Value)
  | [], x, v => [(x, v)]
  | p :: L, x, v => if x = p.1 then (x, v) :: L else p :: putL L x v
def Born (es : Array MapEntry) (clock : Nat) : Prop := (∀ e ∈ es.toList, e.born < clock) ∧ (es.toList.map (·.born)).Nodup
theorem Born.push {es : Array MapEntry} {clock : Nat} (h : Born es clock) (k v : Value) : Born (es.push { key := k, val := v, born := clock }) (clock + 1) := by
  refine ⟨fun e he => ?_, ?_⟩
  · rw [Array.toList_push] at he
    rcases List.mem_append.1 he with he | he
    · have := h.1 e he; omega
    · simp at he; subst he; exact Nat.lt_succ_self _
  · rw [Array.toList_push, List.map_append, List.nodup_append]
    refine ⟨h.2, by simp, fun x hx y hy e => ?_⟩
    obtain ⟨a, ha, rfl⟩ := List.mem_map.1 hx
    have := h.1 a ha
    simp at hy
    omega
theorem modify_map {α β : Type} (g : α → β) (f : α → α) (hf : ∀ x, g (f x) = g x) : ∀ (l : List α) (i : Nat), (l.modify i f).map g = l.map g
  | [], i => by simp
  | x :: l, 0 => by simp [hf]
  | x :: l, i + 1 => by simp [modify_map g f hf l i]
theorem Born.modify {es : Array MapEntry} {clock : Nat} (h : Born es clock) (i : Nat) (f : MapEntry → MapEntry) (hf : ∀ e, (f e).born = e.born) : Born (es.modify i f) clock := by
  have hm : (es.modify i f).toList.map (·.born) = es.toList.map (·.born) := by rw [Array.toList_modify]; exact modify_map _ f hf _ i
  refine ⟨fun e he => ?_, by rw [hm]; exact h.2⟩
  have h1 : e.born ∈ (es.modify i f).toList.map (·.born) := List.mem_map_of_mem he
  rw [hm] at h1
  obtain ⟨a, ha, hb⟩ := List.mem_map.1 h1
  rw [← hb]
  exact h.1 a ha
def MapG {κ : Type} (enc : κ → Value) (W : World) (bm : Nat) (L : List (κ × Value)) : Prop :=
  ∃ es clock, W.heap[bm]? = some (.map es clock) ∧ Born es clock ∧ es.toList.map (fun e => (e.key, e.val)) = L.map fun p => (enc p.1, p.2)
theorem MapG.keep {κ : Type} {enc : κ → Value} {W W' : World} {bm : Nat} {L : List (κ × Value)} (h : MapG enc W bm L) (hb : W'.heap[bm]? = W.heap[bm]?) : MapG enc W' bm L := by
  obtain ⟨es, clock, h1, h0, h2⟩ := h
  exact ⟨es, clock, hb.trans h1, h0, h2⟩
theorem MapG.lt {κ : Type} {enc : κ → Value} {W : World} {bm : Nat} {L : List (κ × Value)} (h : MapG enc W bm L) : bm < W.heap.size := by
  obtain ⟨es, clock, h1, h0, h2⟩ := h
  exact (Array.getElem?_eq_some_iff.1 h1).1
section
variable {κ : Type} [DecidableEq κ]
theorem lk_pos : ∀ (L : List (κ × Value)) (x : κ) (i : Nat), lk L x = (posOf L x i).map (·.2)
  | [], x, i => rfl
  | p :: L, x, i => by
    unfold lk posOf
    split
    · rfl
    · exact lk_pos L x (i + 1)
theorem lk_put : ∀ (L : List (κ × Value)) (x : κ) (v : Value) (y : κ), lk (putL L x v) y = if y = x then some v else lk L y
  | [], x, v, y => by simp [putL, lk]
  | p :: L, x, v, y => by
    unfold putL
    by_cases h : x = p.1
    · rw [if_pos h]
      by_cases hy : y = x
      · simp [lk, hy]
      · have hy2 : ¬ y = p.1 := fun e => hy (e.trans h.symm)
        simp [lk, hy, hy2]
    · rw [if_neg h]
      unfold lk
      rw [lk_put L x v y]
      by_cases hp : y = p.1
      · have hy : ¬ y = x := fun e => h (e.symm.trans hp)
        simp [hp, hy]
        intro e
        exact absurd e.symm h
      · simp [hp]
theorem posOf_some : ∀ {L : List (κ × Value)} {x : κ} {i j : Nat} {v : Value}, posOf L x i = some (j, v) → ∃ pre post, L = pre ++ (x, v) :: post ∧ j = i + pre.length ∧ ∀ u, putL L x u = pre ++ (x, u) :: post
  | [], x, i, j, v, h => by simp [posOf] at h
  | p :: L, x, i, j, v, h => by
    unfold posOf at h
    split at h
    · rename_i e
      simp only [Option.some.injEq, Prod.mk.injEq] at h
      obtain ⟨rfl, rfl⟩ := h
      exact ⟨[], L, by simp [e], by simp, fun u => by simp [putL, e]⟩
    · rename_i e
      obtain ⟨pre, post, h1, h2, h3⟩ := posOf_some h
      exact ⟨p :: pre, post, by rw [h1]; rfl, by simp only [List.length_cons]; omega, fun u => by simp [putL, e, h3 u]⟩
theorem posOf_none : ∀ {L : List (κ × Value)} {x : κ} {i : Nat}, posOf L x i = none → ∀ u, putL L x u = L ++ [(x, u)]
  | [], x, i, h, u => rfl
  | p :: L, x, i, h, u => by
    unfold posOf at h
    split at h
    · cases h
    · rename_i e
      simp [putL, e, posOf_none h u]
structure KeyT (P : Program) (kt : TypeId) (enc : κ → Value) : Prop where
  chk : ∀ x e W, (Instr.checkKey e 10000 kt (enc x)).run P W = .ok () W
  find : ∀ (x : κ) (L : List (κ × Value)) (es : List MapEntry) W, es.map (fun e => (e.key, e.val)) = L.map (fun p => (enc p.1, p.2)) → (Instr.findKey kt (enc x) es).run P W = .ok (posOf L x 0) W
  bits : ∀ x, Instr.sameBits 10000 (enc x) (enc x) = true
theorem find_asking {P : Program} {kt : TypeId} {enc : κ → Value} (heq : ∀ x y W, (Op.equal kt (enc x) (enc y)).run P W = .ok (decide (x = y)) W) (x : κ) (W : World) : ∀ (L : List (κ × Value)) (es : List MapEntry) (i : Nat), es.map (fun e => (e.key, e.val)) = L.map (fun p => (enc p.1, p.2)) →
    (Instr.findAsking kt (enc x) es i).run P W = .ok (posOf L x i) W
  | [], es, i, h => by
    have : es = [] := by simpa using h
    subst this
    simp [Instr.findAsking, posOf]
  | p :: L, es, i, h => by
    cases es with
    | nil => simp at h
    | cons e es =>
      simp only [List.map_cons, List.cons.injEq, Prod.mk.injEq] at h
      obtain ⟨⟨h1, h2⟩, h3⟩ := h
      unfold Instr.findAsking posOf
      rw [h1]
      by_cases hx : x = p.1
      · simp [heq, hx, Result.andThen, h2]
      · simp [heq, hx, Result.andThen, find_asking heq x W L es (i + 1) h3]
theorem KeyT.wide {P : Program} {kt : TypeId} {enc : κ → Value} (hw : (match P.underlying kt with | some (.array _ _) | some (.struct _) => true | _ => false) = true)
    (hchk : ∀ x e W, (Instr.checkKey e 10000 kt (enc x)).run P W = .ok () W) (heq : ∀ x y W, (Op.equal kt (enc x) (enc y)).run P W = .ok (decide (x = y)) W) (hb : ∀ x, Instr.sameBits 10000 (enc x) (enc x) = true) : KeyT P kt enc :=
  ⟨hchk, fun x L es W h => by rw [run_findKey_eq W hw]; exact find_asking heq x W L es 0 h, hb⟩
theorem KeyT.plain {P : Program} {kt : TypeId} {d : TypeDesc} {enc : κ → Value} (hd : P.underlying kt = some d) (hk : ∀ x, Go.MapKept.IsKey d (enc x)) (hs : ∀ x y, Instr.sameNow d (enc x) (enc y) = some (decide (x = y))) : KeyT P kt enc where
  chk := fun x e W => Go.MapKept.run_checkKey hd (hk x) e 9999
  bits := fun x => Go.MapKept.sameBits_self (hk x) 10000
  find := fun x L es W h => by
    refine Go.MapKept.run_findKey hd ?_
    have : ∀ (L : List (κ × Value)) (es : List MapEntry) (i : Nat), es.map (fun e => (e.key, e.val)) = L.map (fun p => (enc p.1, p.2)) → Instr.findNow d (enc x) es i = some (posOf L x i) := by
      intro L
      induction L with
      | nil =>
        intro es i h
        have : es = [] := by simpa using h
        subst this
        rfl
      | cons p L ih =>
        intro es i h
        cases es with
        | nil => simp at h
        | cons e es =>
          simp only [List.map_cons, List.cons.injEq, Prod.mk.injEq] at h
          obtain ⟨⟨h1, h2⟩, h3⟩ := h
          unfold Instr.findNow posOf
          rw [h1, hs]
          by_cases hx : x = p.1
          · simp [hx, h2]
          · simp [hx, ih es (i + 1) h3]
    exact this L es 0 h
theorem MapG.look {P : Program} {mt kt et : TypeId} {enc : κ → Value} {W : World} {bm : Nat} {L : List (κ × Value)} (h : MapG enc W bm L) (K : KeyT P kt enc) (hu : P.underlying mt = some (.map kt et)) {z : Value} (hz : (zeroValue et).run P W = .ok z W) (x : κ) (ok : Bool) :
    (Instr.lookup mt (.map (some bm)) (enc x) ok).run P W = .ok (if ok then .tuple #[(lk L x).getD z, .bool (lk L x).isSome] else (lk L x).getD z) W := by
  obtain ⟨es, clock, h1, h0, h2⟩ := h
  have e1 := K.chk x es.isEmpty W
  have e2 := K.find x L es.toList W h2
  rw [lk_pos L x 0]
  cases hp : posOf L x 0 with
  | none =>
    rw [hp] at e2
    simp [Instr.lookup, run_underlying hu, Go.MapKept.run_getObj_map h1, e1, e2, hz, Result.andThen]
  | some r =>
    rw [hp] at e2
    simp [Instr.lookup, run_underlying hu, Go.MapKept.run_getObj_map h1, e1, e2, Result.andThen]
theorem modify_mid {α : Type} (f : α → α) : ∀ (a : List α) (x : α) (b : List α), (a ++ x :: b).modify a.length f = a ++ f x :: b
  | [], x, b => by simp
  | y :: a, x, b => by simp [modify_mid f a x b]
theorem map_split {α β : Type} {g : α → β} : ∀ {l : List α} {a : List β} {x : β} {b : List β}, l.map g = a ++ x :: b → ∃ la y lb, l = la ++ y :: lb ∧ la.map g = a ∧ g y = x ∧ lb.map g = b
  | l, [], x, b, h => by
    cases l with
    | nil => simp at h
    | cons y l =>
      simp only [List.map_cons, List.nil_append, List.cons.injEq] at h
      exact ⟨[], y, l, rfl, rfl, h.1, h.2⟩
  | l, c :: a, x, b, h => by
    cases l with
    | nil => simp at h
    | cons y l =>
      simp only [List.map_cons, List.cons_append, List.cons.injEq] at h
      obtain ⟨la, z, lb, h1, h2, h3, h4⟩ := map_split h.2
      exact ⟨y :: la, z, lb, by rw [h1]; rfl, by rw [List.map_cons, h.1, h2], h3, h4⟩
theorem MapG.put {P : Program} {mt kt et : TypeId} {enc : κ → Value} {W : World} {bm : Nat} {L : List (κ × Value)} (h : MapG enc W bm L) (K : KeyT P kt enc) (hu : P.underlying mt = some (.map kt et)) (x : κ) (v : Value) :
    ∃ W', (Instr.mapUpdate mt (.map (some bm)) (enc x) v).run P W = .ok () W' ∧ MapG enc W' bm (putL L x v) ∧ W.grownBy W' (some bm) ∧ W'.heap.size = W.heap.size ∧ (∀ g, g ≠ bm → W'.heap[g]? = W.heap[g]?) := by
  obtain ⟨es, clock, h1, h0, h2⟩ := h
  have hlt := (Array.getElem?_eq_some_iff.1 h1).1
  have e1 := K.chk x false W
  have e2 := K.find x L es.toList W h2
  have key : ∀ es' clock', Born es' clock' → es'.toList.map (fun e : MapEntry => (e.key, e.val)) = (putL L x v).map (fun p => (enc p.1, p.2)) → ∃ W', ({ W with heap := W.heap.setIfInBounds bm (.map es' clock') } : World) = W' ∧ MapG enc W' bm (putL L x v) ∧ W.grownBy W' (some bm) ∧ W'.heap.size = W.heap.size ∧ (∀ g, g ≠ bm → W'.heap[g]? = W.heap[g]?) := by
    intro es' clock' hbn he
    refine ⟨_, rfl, ⟨es', clock', by simp [hlt], hbn, he⟩, ⟨rfl, rfl, rfl, by simp, fun g hg hn => ?_⟩, by simp, fun g hg => ?_⟩
    · have : g ≠ bm := fun e => hn (by rw [e])
      simp [Ne.symm this]
    · simp [Ne.symm hg]
  cases hp : posOf L x 0 with
  | none =>
    rw [hp] at e2
    obtain ⟨W', hW, hr⟩ := key (es.push { key := enc x, val := v, born := clock }) (clock + 1) (h0.push _ _) (by rw [posOf_none hp v]; simp [h2])
    exact ⟨W', by rw [← hW]; simp [Instr.mapUpdate, run_underlying hu, Go.MapKept.run_getObj_map h1, e1, e2, Go.MapKept.run_setObj_map _ h1, Result.andThen], hr⟩
  | some r =>
    obtain ⟨j, u⟩ := r
    rw [hp] at e2
    obtain ⟨pre, post, q1, q2, q3⟩ := posOf_some hp
    rw [q1, List.map_append, List.map_cons] at h2
    obtain ⟨la, y, lb, r1, r2, r3, r4⟩ := map_split h2
    have hlen : la.length = j := by
      have := congrArg List.length r2
      simp only [List.length_map] at this
      omega
    simp only [Prod.mk.injEq] at r3
    have hj : es[j]? = some y := by
      rw [← Array.getElem?_toList, r1, ← hlen]
      simp
    obtain ⟨W', hW, hr⟩ := key (es.modify j fun e => { e with key := enc x, val := v }) clock (h0.modify _ _ (fun _ => rfl)) (by
      rw [q3 v, Array.toList_modify, r1, ← hlen, modify_mid]
      simp [r2, r4])
    have hst : (Instr.keyThatStays (enc x) (enc x)).run P W = .ok (enc x) W := by
      unfold Instr.keyThatStays
      simp [K.bits x]
    have hgk : ((es[j]?.map (·.key)).getD (enc x)) = enc x := by rw [hj]; simp [r3.1]
    refine ⟨W', ?_, hr⟩
    rw [← hW]
    simp [Instr.mapUpdate, run_underlying hu, Go.MapKept.run_getObj_map h1, e1, e2, hgk, hst, Go.MapKept.run_setObj_map _ h1, Result.andThen]
theorem find_born {l : List MapEntry} (hn : (l.map (·.born)).Nodup) {a : List MapEntry} {y : MapEntry} {b : List MapEntry} (h : l = a ++ y :: b) : l.findIdx? (fun e => (e.born : Int) == (y.born : Int)) = some a.length := by
  subst h
  rw [List.map_append, List.nodup_append] at hn
  have h1 : a.findIdx? (fun e => (e.born : Int) == (y.born : Int)) = none := by
    rw [List.findIdx?_eq_none_iff]
    intro x hx
    have := hn.2.2 x.born (List.mem_map_of_mem hx) y.born (by simp)
    simp
    omega
  rw [List.findIdx?_append, h1]
  simp [List.findIdx?_cons]
theorem MapG.entry {P : Program} {mt kt et : TypeId} {enc : κ → Value} {W : World} {bm : Nat} {L : List (κ × Value)} (h : MapG enc W bm L) (K : KeyT P kt enc) (hu : P.underlying mt = some (.map kt et)) {z : Value} (hz : (zeroValue et).run P W = .ok z W) (x : κ) :
    ∃ W' st, (Instr.mapEntry mt (.map (some bm)) (enc x)).run P W = .ok (.tuple #[(lk L x).getD z, .int .i64 st]) W' ∧ MapG enc W' bm (putL L x ((lk L x).getD z)) ∧ W.grownBy W' (some bm) ∧ W'.heap.size = W.heap.size ∧ (∀ g, g ≠ bm → W'.heap[g]? = W.heap[g]?) ∧
      ∀ W2 v, W2.heap[bm]? = W'.heap[bm]? → ∃ W3, (Instr.entryStore mt (.map (some bm)) (.int .i64 st) v).run P W2 = .ok () W3 ∧ MapG enc W3 bm (putL L x v) ∧ W2.grownBy W3 (some bm) ∧ W3.heap.size = W2.heap.size ∧ (∀ g, g ≠ bm → W3.heap[g]? = W2.heap[g]?) := by
  obtain ⟨es, clock, h1, h0, h2⟩ := h
  have hlt := (Array.getElem?_eq_some_iff.1 h1).1
  have e1 := K.chk x false W
  have e2 := K.find x L es.toList W h2
  -- a store into the entry behind which 'pre' stand
  have store : ∀ (W2 : World) (es' : Array MapEntry) (clock' : Nat) (pre post : List (κ × Value)) (a : List MapEntry) (y : MapEntry) (b : List MapEntry) (v : Value), W2.heap[bm]? = some (.map es' clock') → Born es' clock' → es'.toList = a ++ y :: b → a.map (fun e => (e.key, e.val)) = pre.map (fun p => (enc p.1, p.2)) → b.map (fun e => (e.key, e.val)) = post.map (fun p => (enc p.1, p.2)) → y.key = enc x → putL L x v = pre ++ (x, v) :: post →
      ∃ W3, (Instr.entryStore mt (.map (some bm)) (.int .i64 y.born) v).run P W2 = .ok () W3 ∧ MapG enc W3 bm (putL L x v) ∧ W2.grownBy W3 (some bm) ∧ W3.heap.size = W2.heap.size ∧ (∀ g, g ≠ bm → W3.heap[g]? = W2.heap[g]?) := by
    intro W2 es' clock' pre post a y b v hW hB hl ha hb hk hp
    have hlt2 := (Array.getElem?_eq_some_iff.1 hW).1
    have hfi : es'.findIdx? (fun e => (e.born : Int) == (y.born : Int)) = some a.length := by
      have h9 := find_born hB.2 hl
      obtain ⟨l9⟩ := es'
      simpa using h9
    refine ⟨{ W2 with heap := W2.heap.setIfInBounds bm (.map (es'.modify a.length fun e => { e with val := v }) clock') }, ?_, ⟨es'.modify a.length fun e => { e with val := v }, clock', by simp [hlt2], hB.modify _ _ (fun _ => rfl), ?_⟩, ⟨rfl, rfl, rfl, by simp, fun g hg hn => ?_⟩, by simp, fun g hg => ?_⟩
    · simp [Instr.entryStore, Go.MapKept.run_getObj_map hW, asInt, asIntOf, hfi, Go.MapKept.run_setObj_map _ hW, Result.andThen]
    · rw [Array.toList_modify, hl, modify_mid, hp]
      simp [ha, hb, hk]
    · have : g ≠ bm := fun e => hn (by rw [e])
      simp [Ne.symm this]
    · simp [Ne.symm hg]
  cases hp : posOf L x 0 with
  | none =>
    rw [hp] at e2
    have hlk : lk L x = none := by rw [lk_pos L x 0, hp]; rfl
    rw [hlk]
    refine ⟨{ W with heap := W.heap.setIfInBounds bm (.map (es.push { key := enc x, val := z, born := clock }) (clock + 1)) }, clock, ?_, ⟨es.push { key := enc x, val := z, born := clock }, clock + 1, by simp [hlt], h0.push _ _, ?_⟩, ⟨rfl, rfl, rfl, by simp, fun g hg hn => ?_⟩, by simp, fun g hg => ?_, fun W2 v hW2 => ?_⟩
    · simp [Instr.mapEntry, run_underlying hu, Go.MapKept.run_getObj_map h1, e1, e2, hz, Go.MapKept.run_setObj_map _ h1, Result.andThen, goInt]
    · rw [Option.getD_none, posOf_none hp z]; simp [h2]
    · have : g ≠ bm := fun e => hn (by rw [e])
      simp [Ne.symm this]
    · simp [Ne.symm hg]
    · exact store W2 (es.push { key := enc x, val := z, born := clock }) (clock + 1) L [] es.toList { key := enc x, val := z, born := clock } [] v (by rw [hW2]; simp [hlt]) (h0.push _ _) (by simp) h2 rfl rfl (by rw [posOf_none hp v])
  | some r =>
    obtain ⟨j, u⟩ := r
    rw [hp] at e2
    have hlk : lk L x = some u := by rw [lk_pos L x 0, hp]; rfl
    rw [hlk]
    obtain ⟨pre, post, q1, q2, q3⟩ := posOf_some hp
    have h2' := h2
    rw [q1, List.map_append, List.map_cons] at h2'
    obtain ⟨la, y, lb, r1, r2, r3, r4⟩ := map_split h2'
    have hlen : la.length = j := by
      have := congrArg List.length r2
      simp only [List.length_map] at this
      omega
    simp only [Prod.mk.injEq] at r3
    have hj : es[j]? = some y := by
      rw [← Array.getElem?_toList, r1, ← hlen]
      simp
    have hst : (Instr.keyThatStays (enc x) (enc x)).run P W = .ok (enc x) W := by
      unfold Instr.keyThatStays
      simp [K.bits x]
    have hgk : ((es[j]?.map (·.key)).getD (enc x)) = enc x := by rw [hj]; simp [r3.1]
    have hgb : ((es[j]?.map (·.born)).getD 0) = y.born := by rw [hj]; rfl
    have hll : (es.modify j fun e => { e with key := enc x }).toList = la ++ { y with key := enc x } :: lb := by rw [Array.toList_modify, r1, ← hlen, modify_mid]
    refine ⟨{ W with heap := W.heap.setIfInBounds bm (.map (es.modify j fun e => { e with key := enc x }) clock) }, y.born, ?_, ⟨es.modify j fun e => { e with key := enc x }, clock, by simp [hlt], h0.modify _ _ (fun _ => rfl), ?_⟩, ⟨rfl, rfl, rfl, by simp, fun g hg hn => ?_⟩, by simp, fun g hg => ?_, fun W2 v hW2 => ?_⟩
    · simp [Instr.mapEntry, run_underlying hu, Go.MapKept.run_getObj_map h1, e1, e2, hgk, hgb, hst, hj, r3.1, Go.MapKept.run_setObj_map _ h1, Result.andThen, goInt]
    · rw [hll, Option.getD_some, q3 u]; simp [r2, r3.2, r4]
    · have : g ≠ bm := fun e => hn (by rw [e])
      simp [Ne.symm this]
    · simp [Ne.symm hg]
    · exact store W2 (es.modify j fun e => { e with key := enc x }) clock pre post la { y with key := enc x } lb v (by rw [hW2]; simp [hlt]) (h0.modify _ _ (fun _ => rfl)) hll r2 r4 rfl (q3 v)
theorem wpList_lookG {P : Program} {mt kt et : TypeId} {enc : κ → Value} {W : World} {bm : Nat} {L : List (κ × Value)} {ops : Array Oper} {rest : List Oper} {o : Oper} {a : Act} {Q : Exit → Act → World → Prop} (hg : o.guard = none) (m x : Operand) (ok : Bool) (hop : o.op = Op.lookup mt m x ok)
    (h : MapG enc W bm L) (K : KeyT P kt enc) (hu : P.underlying mt = some (.map kt et)) {z : Value} (hz : (zeroValue et).run P W = .ok z W) (hm : a.eval m = .map (some bm)) (k : κ) (hx : a.eval x = enc k)
    (hK : wpList P ops Q rest (a.put o.dst (if ok then .tuple #[(lk L k).getD z, .bool (lk L k).isSome] else (lk L k).getD z)) W) : wpList P ops Q (o :: rest) a W := by
  refine wpList_plain hg fun K' hK' => ?_
  have hrun := h.look K hu hz k ok
  obtain ⟨r, hr⟩ : ∃ r, (if ok = true then Value.tuple #[(lk L k).getD z, .bool (lk L k).isSome] else (lk L k).getD z) = r := ⟨_, rfl⟩
  rw [hr] at hrun hK
  unfold Oper.wp
  simp [execOp, hop, hm, hx, hrun, Result.andThen]
  exact hK' _ _ hK
theorem wpListIn_lookG {F : Fence} {n : Nat} {P : Program} {mt kt et : TypeId} {enc : κ → Value} {W : World} {bm : Nat} {L : List (κ × Value)} {ops : Array Oper} {rest : List Oper} {o : Oper} {a : Act} {Q : Exit → Act → World → Prop} (hg : o.guard = none) (m x : Operand) (ok : Bool) (hop : o.op = Op.lookup mt m x ok)
    (h : MapG enc W bm L) (K : KeyT P kt enc) (hu : P.underlying mt = some (.map kt et)) {z : Value} (hz : (zeroValue et).run P W = .ok z W) (hm : a.eval m = .map (some bm)) (k : κ) (hx : a.eval x = enc k)
    (hK : wpListIn F n P ops Q rest (a.put o.dst (if ok then .tuple #[(lk L k).getD z, .bool (lk L k).isSome] else (lk L k).getD z)) W) : wpListIn F n P ops Q (o :: rest) a W := by
  refine wpListIn_plain hg fun K' hK' => ?_
  have hrun := h.look K hu hz k ok
  unfold Oper.wpIn
  refine ⟨by simp [Oper.about, hop], ?_⟩
  rw [Oper.semAt_plain F _ _ (by rw [hop]; intro c hc'; cases hc')]
  obtain ⟨r, hr⟩ : ∃ r, (if ok = true then Value.tuple #[(lk L k).getD z, .bool (lk L k).isSome] else (lk L k).getD z) = r := ⟨_, rfl⟩
  rw [hr] at hrun hK
  simp [execOp, hop, hm, hx, hrun, Result.andThen]
  exact hK' _ _ hK
theorem wpList_putG {P : Program} {mt kt et : TypeId} {enc : κ → Value} {W : World} {bm : Nat} {L : List (κ × Value)} {ops : Array Oper} {rest : List Oper} {o : Oper} {a : Act} {Q : Exit → Act → World → Prop} (hg : o.guard = none) (m x v : Operand) (hop : o.op = Op.mapUpdate mt m x v)
    (h : MapG enc W bm L) (K : KeyT P kt enc) (hu : P.underlying mt = some (.map kt et)) (hm : a.eval m = .map (some bm)) (k : κ) (hx : a.eval x = enc k) (val : Value) (hv : a.eval v = val)
    (hK : ∀ W', MapG enc W' bm (putL L k val) → W.grownBy W' (some bm) → W'.heap.size = W.heap.size → (∀ g, g ≠ bm → W'.heap[g]? = W.heap[g]?) → wpList P ops Q rest (a.put o.dst undef) W') : wpList P ops Q (o :: rest) a W := by
  refine wpList_plain hg fun K' hK' => ?_
  obtain ⟨W', hrun, r1, r2, r3, r4⟩ := h.put K hu k val
  unfold Oper.wp
  simp [execOp, hop, hm, hx, hv, hrun, Result.andThen]
  exact hK' _ _ (hK W' r1 r2 r3 r4)
theorem wpList_lookOk {P : Program} {mt kt et : TypeId} {enc : κ → Value} {W : World} {bm : Nat} {L : List (κ × Value)} {ops : Array Oper} {rest : List Oper} {o : Oper} {a : Act} {Q : Exit → Act → World → Prop} (hg : o.guard = none) (m x : Operand) (hop : o.op = Op.lookup mt m x true)
    (h : MapG enc W bm L) (K : KeyT P kt enc) (hu : P.underlying mt = some (.map kt et)) {z : Value} (hz : (zeroValue et).run P W = .ok z W) (hm : a.eval m = .map (some bm)) (k : κ) (hx : a.eval x = enc k) {r : Option Value} (hr : lk L k = r)
    (hK : wpList P ops Q rest (a.put o.dst (.tuple #[(r.getD z), .bool r.isSome])) W) : wpList P ops Q (o :: rest) a W := by
  subst hr
  exact wpList_lookG hg m x true hop h K hu hz hm k hx hK
theorem wpList_lookOne {P : Program} {mt kt et : TypeId} {enc : κ → Value} {W : World} {bm : Nat} {L : List (κ × Value)} {ops : Array Oper} {rest : List Oper} {o : Oper} {a : Act} {Q : Exit → Act → World → Prop} (hg : o.guard = none) (m x : Operand) (hop : o.op = Op.lookup mt m x false)
    (h : MapG enc W bm L) (K : KeyT P kt enc) (hu : P.underlying mt = some (.map kt et)) {z : Value} (hz : (zeroValue et).run P W = .ok z W) (hm : a.eval m = .map (some bm)) (k : κ) (hx : a.eval x = enc k) {r : Option Value} (hr : lk L k = r)
    (hK : wpList P ops Q rest (a.put o.dst (r.getD z)) W) : wpList P ops Q (o :: rest) a W := by
  subst hr
  exact wpList_lookG hg m x false hop h K hu hz hm k hx hK
theorem wpListIn_lookOk {F : Fence} {n : Nat} {P : Program} {mt kt et : TypeId} {enc : κ → Value} {W : World} {bm : Nat} {L : List (κ × Value)} {ops : Array Oper} {rest : List Oper} {o : Oper} {a : Act} {Q : Exit → Act → World → Prop} (hg : o.guard = none) (m x : Operand) (hop : o.op = Op.lookup mt m x true)
    (h : MapG enc W bm L) (K : KeyT P kt enc) (hu : P.underlying mt = some (.map kt et)) {z : Value} (hz : (zeroValue et).run P W = .ok z W) (hm : a.eval m = .map (some bm)) (k : κ) (hx : a.eval x = enc k) {r : Option Value} (hr : lk L k = r)
    (hK : wpListIn F n P ops Q rest (a.put o.dst (.tuple #[(r.getD z), .bool r.isSome])) W) : wpListIn F n P ops Q (o :: rest) a W := by
  subst hr
  exact wpListIn_lookG hg m x true hop h K hu hz hm k hx hK
end
def encS (x : List UInt8) : Value := .string ⟨x.toArray⟩
theorem keyT_string {P : Program} {kt : TypeId} (hd : P.underlying kt = some .string) : KeyT P kt encS :=
  .plain hd (fun x => by simp [Go.MapKept.IsKey, encS]) (fun x y => by
    simp only [Instr.sameNow, encS, Option.some.injEq]
    rw [Bool.eq_iff_iff, Go.MapKept.bytes_beq, decide_eq_true_iff]
    constructor
    · intro e
      injection e with e
      simpa using congrArg Array.toList e
    · rintro rfl; rfl)
end Go.Proofs.YtefokfbgpfcbkaaGreat
