/- Lemmas of this claim (a part of its texts, kept as far as the claim reaches them). -/
import Derived.Test.YtefokfbgpfcbkaaGreatPlain22Z
namespace Go.Proofs.YtefokfbgpfcbkaaGreat
set_option linter.unusedVariables false
set_option linter.unusedSimpArgs false
namespace P28
open P22 (Def Step)
abbrev Tx := List UInt8
abbrev Note := Int × Int × Tx
def nt (b : Bool) (i e : Int) (t : Tx) : List Note := if b then [(i, e, t)] else []
theorem nt_nil {b : Bool} {i e : Int} {t : Tx} : nt b i e t = [] ↔ b = false := by cases b <;> simp [nt]
def right (s : Tx) : Bool := P18.plain s && decide (s.length ≤ 64)
def idx : List Tx → Tx → Option Nat
  | [], _ => none
  | n :: ns, x => if n = x then some 0 else (idx ns x).map (· + 1)
theorem idx_lt : ∀ {ns : List Tx} {x : Tx} {j : Nat}, idx ns x = some j → j < ns.length ∧ ns[j]? = some x
  | [], x, j, h => by simp [idx] at h
  | n :: ns, x, j, h => by
    unfold idx at h
    split at h
    · rename_i e
      cases h
      simp [e]
    · cases h2 : idx ns x with
      | none => rw [h2] at h; cases h
      | some k =>
        rw [h2] at h
        simp only [Option.map_some, Option.some.injEq] at h
        subst h
        obtain ⟨a, b⟩ := idx_lt h2
        exact ⟨by simp; omega, by simpa using b⟩
theorem idx_none : ∀ {ns : List Tx} {x : Tx}, idx ns x = none ↔ x ∉ ns
  | [], x => by simp [idx]
  | n :: ns, x => by
    unfold idx
    split
    · rename_i e
      simp [e]
    · rename_i e
      rw [Option.map_eq_none_iff, idx_none]
      simp only [List.mem_cons, not_or]
      exact ⟨fun h => ⟨fun h2 => e h2.symm, h⟩, fun h => h.2⟩
theorem idx_snoc (ns : List Tx) (n x : Tx) : idx (ns ++ [n]) x = match idx ns x with | some j => some j | none => if n = x then some ns.length else none := by
  induction ns with
  | nil => simp [idx]
  | cons m ms ih =>
    rw [List.cons_append]
    unfold idx
    by_cases h : m = x
    · rw [if_pos h, if_pos h]
    · rw [if_neg h, if_neg h, ih]
      cases idx ms x with
      | some j => rfl
      | none =>
        by_cases h2 : n = x
        · simp [h2]
        · simp [h2]
abbrev names (d : Def) : List Tx := d.steps.map (·.name)
abbrev undos (d : Def) : List Tx := d.steps.map (·.undo)
abbrev afters (d : Def) : List (List Tx) := d.steps.map (·.after)
abbrev Ref := Nat × Tx × Option Nat
def refL (ns : List Tx) : Nat → List (List Tx) → List Ref
  | _, [] => []
  | i, a :: aa => a.map (fun x => (i, x, idx ns x)) ++ refL ns (i + 1) aa
def addTo (i : Nat) (l : List Nat) (tt : Option Nat) : List Nat := match tt with
  | some j => if j ≠ i ∧ j ∉ l then l ++ [j] else l
  | none => l
def row (ns : List Tx) (i : Nat) (a : List Tx) : List Nat := a.foldl (fun l x => addTo i l (idx ns x)) []
def rows (ns : List Tx) : Nat → List (List Tx) → List (List Nat)
  | _, [] => []
  | i, a :: aa => row ns i a :: rows ns (i + 1) aa
def refs (d : Def) : List (List Nat) := rows (names d) 0 (afters d)
theorem rows_len (ns : List Tx) : ∀ (aa : List (List Tx)) (i : Nat), (rows ns i aa).length = aa.length
  | [], i => rfl
  | a :: aa, i => by simp [rows, rows_len ns aa]
theorem refs_len (d : Def) : (refs d).length = d.steps.length := by unfold refs; rw [rows_len]; simp
theorem addTo_mem {i : Nat} {l : List Nat} {tt : Option Nat} {j : Nat} (h : j ∈ addTo i l tt) : j ∈ l ∨ tt = some j := by
  unfold addTo at h
  split at h
  · split at h
    · rcases List.mem_append.1 h with h | h
      · exact .inl h
      · simp at h; exact .inr (by rw [h])
    · exact .inl h
  · exact .inl h
theorem row_mem {ns : List Tx} {i : Nat} : ∀ {a : List Tx} {l : List Nat} {j : Nat}, j ∈ a.foldl (fun l x => addTo i l (idx ns x)) l → j ∈ l ∨ j < ns.length
  | [], l, j, h => .inl h
  | x :: a, l, j, h => by
    rw [List.foldl_cons] at h
    rcases row_mem h with h | h
    · rcases addTo_mem h with h | h
      · exact .inl h
      · exact .inr (idx_lt h).1
    · exact .inr h
theorem rows_mem {ns : List Tx} : ∀ {aa : List (List Tx)} {i : Nat} {l : List Nat}, l ∈ rows ns i aa → ∀ j ∈ l, j < ns.length
  | [], i, l, h, j, hj => by simp [rows] at h
  | a :: aa, i, l, h, j, hj => by
    unfold rows at h
    rcases List.mem_cons.1 h with h | h
    · subst h
      rcases row_mem hj with h | h
      · simp at h
      · exact h
    · exact rows_mem h j hj
theorem refs_lt {d : Def} {l : List Nat} (h : l ∈ refs d) {j : Nat} (hj : j ∈ l) : j < d.steps.length := by
  have := rows_mem h j hj
  simpa using this
def addRef (o : List (List Nat)) (r : Ref) : List (List Nat) := o.set r.1 (addTo r.1 (o.getD r.1 []) r.2.2)
theorem foldl_addRef_row (ns : List Tx) (i : Nat) : ∀ (a : List Tx) (o : List (List Nat)) (l : List Nat), o[i]? = some l → (a.map (fun x => ((i, x, idx ns x) : Ref))).foldl addRef o = o.set i (a.foldl (fun l x => addTo i l (idx ns x)) l)
  | [], o, l, h => by
    simp only [List.map_nil, List.foldl_nil]
    obtain ⟨h1, h2⟩ := List.getElem?_eq_some_iff.1 h
    rw [← h2]
    simp
  | x :: a, o, l, h => by
    simp only [List.map_cons, List.foldl_cons]
    have hl : i < o.length := (List.getElem?_eq_some_iff.1 h).1
    have e : addRef o (i, x, idx ns x) = o.set i (addTo i l (idx ns x)) := by
      unfold addRef
      simp [List.getD, h]
    rw [e, foldl_addRef_row ns i a _ (addTo i l (idx ns x)) (by simp [hl])]
    simp
theorem foldl_addRef (ns : List Tx) : ∀ (aa : List (List Tx)) (i : Nat) (done : List (List Nat)), done.length = i → (refL ns i aa).foldl addRef (done ++ List.replicate aa.length []) = done ++ rows ns i aa
  | [], i, done, h => by simp [refL, rows]
  | a :: aa, i, done, h => by
    unfold refL rows
    rw [List.foldl_append, foldl_addRef_row ns i a _ [] (by rw [List.getElem?_append_right (by omega)]; simp [h, List.replicate_succ])]
    have e : (done ++ List.replicate (a :: aa).length []).set i (a.foldl (fun l x => addTo i l (idx ns x)) []) = (done ++ [row ns i a]) ++ List.replicate aa.length [] := by
      rw [List.set_append_right _ _ (by omega)]
      simp [h, List.replicate_succ, row]
    rw [e, foldl_addRef ns aa (i + 1) (done ++ [row ns i a]) (by simp [h])]
    simp
theorem refs_fold (d : Def) : (refL (names d) 0 (afters d)).foldl addRef (List.replicate d.steps.length []) = refs d := by
  have h := foldl_addRef (names d) (afters d) 0 [] rfl
  simpa [refs] using h
def stepN (ns : List Tx) (i : Nat) (s : Step) : List Note :=
  nt (!right s.name) i 18 s.name ++ (nt (!right s.action) i 18 s.action ++ (nt (!s.undo.isEmpty && !right s.undo) i 18 s.undo ++ nt (decide ((idx ns s.name).getD 0 < i)) i 6 s.name))
def stepsN (ns : List Tx) : Nat → List Step → List Note
  | _, [] => []
  | i, s :: ss => stepN ns i s ++ stepsN ns (i + 1) ss
def refN (ns : List Tx) (seen : List Ref) (r : Ref) : List Note :=
  nt r.2.2.isNone r.1 5 r.2.1 ++ (nt (decide (r.2.1 = ns.getD r.1 [])) r.1 8 r.2.1 ++ nt (decide ((r.1, r.2.1) ∈ seen.map fun q => (q.1, q.2.1))) r.1 6 r.2.1)
def refsN (ns : List Tx) : List Ref → List Ref → List Note
  | _, [] => []
  | seen, r :: rs => refN ns seen r ++ refsN ns (seen ++ [r]) rs
def namesP (d : Def) : List Note := nt d.steps.isEmpty (-1) 17 [] ++ (nt (!right d.name) (-1) 18 d.name ++ (stepsN (names d) 0 d.steps ++ refsN (names d) [] (refL (names d) 0 (afters d))))
def afterR (ns : List Tx) (i : Nat) (nm : Tx) : List Tx → List Tx → List Note
  | _, [] => []
  | seen, x :: xs => nt (idx ns x).isNone i 5 x ++ (nt (decide (x = nm)) i 8 nm ++ (nt (decide (x ∈ seen)) i 6 x ++ afterR ns i nm (seen ++ [x]) xs))
def stepsR (ns : List Tx) : Nat → List Step → List Note
  | _, [] => []
  | i, s :: ss => stepN ns i s ++ (afterR ns i s.name [] s.after ++ stepsR ns (i + 1) ss)
def namesR (d : Def) : List Note := nt d.steps.isEmpty (-1) 17 [] ++ (nt (!right d.name) (-1) 18 d.name ++ stepsR (names d) 0 d.steps)
theorem refsN_append (ns : List Tx) : ∀ (a b seen : List Ref), refsN ns seen (a ++ b) = refsN ns seen a ++ refsN ns (seen ++ a) b
  | [], b, seen => by simp [refsN]
  | r :: a, b, seen => by
    have e1 : refsN ns seen ((r :: a) ++ b) = refN ns seen r ++ refsN ns (seen ++ [r]) (a ++ b) := rfl
    have e2 : refsN ns seen (r :: a) = refN ns seen r ++ refsN ns (seen ++ [r]) a := rfl
    rw [e1, e2, refsN_append ns a b]
    simp only [List.append_assoc, List.cons_append, List.nil_append]
theorem refsN_row (ns : List Tx) (i : Nat) (nm : Tx) (hn : ns.getD i [] = nm) : ∀ (xs pre : List Tx) (seen : List Ref), (∀ x, (i, x) ∈ seen.map (fun q => (q.1, q.2.1)) ↔ x ∈ pre) →
    refsN ns seen (xs.map fun x => ((i, x, idx ns x) : Ref)) = afterR ns i nm pre xs
  | [], pre, seen, h => by simp [refsN, afterR]
  | x :: xs, pre, seen, h => by
    rw [List.map_cons]
    unfold refsN afterR
    rw [refsN_row ns i nm hn xs (pre ++ [x]) (seen ++ [(i, x, idx ns x)]) (fun y => by
      rw [List.map_append, List.mem_append, List.mem_append, h y]
      simp)]
    unfold refN
    simp only [hn, h x, List.append_assoc]
    by_cases hx : x = nm
    · subst hx; simp
    · simp [hx, nt]
def aftersR (ns : List Tx) : Nat → List Step → List Note
  | _, [] => []
  | i, s :: ss => afterR ns i s.name [] s.after ++ aftersR ns (i + 1) ss
theorem refsN_rows (ns : List Tx) : ∀ (ss : List Step) (i : Nat) (seen : List Ref), (∀ r ∈ seen, r.1 < i) → (∀ k s, ss[k]? = some s → ns.getD (i + k) [] = s.name) → refsN ns seen (refL ns i (ss.map (·.after))) = aftersR ns i ss
  | [], i, seen, h, hn => by simp [refL, refsN, aftersR]
  | s :: ss, i, seen, h, hn => by
    rw [List.map_cons]
    unfold refL aftersR
    rw [refsN_append, refsN_row ns i s.name (hn 0 s rfl) s.after [] seen (fun x => by
      simp only [List.not_mem_nil, iff_false, List.mem_map, not_exists, not_and]
      intro q hq e
      have := h q hq
      have e1 := congrArg Prod.fst e
      simp only at e1
      omega)]
    rw [refsN_rows ns ss (i + 1) _ (fun r hr => by
      rcases List.mem_append.1 hr with hr | hr
      · have := h r hr; omega
      · obtain ⟨x, _, rfl⟩ := List.mem_map.1 hr
        simp) (fun k s' hk => by have := hn (k + 1) s' (by simpa using hk); rw [← this]; congr 1; omega)]
theorem stepsR_nil (ns : List Tx) : ∀ (ss : List Step) (i : Nat), stepsR ns i ss = [] ↔ stepsN ns i ss = [] ∧ aftersR ns i ss = []
  | [], i => by simp [stepsR, stepsN, aftersR]
  | s :: ss, i => by
    unfold stepsR stepsN aftersR
    simp only [List.append_eq_nil_iff, stepsR_nil ns ss (i + 1)]
    constructor
    · rintro ⟨a, b, c, d⟩; exact ⟨⟨a, c⟩, b, d⟩
    · rintro ⟨⟨a, c⟩, b, d⟩; exact ⟨a, b, c, d⟩
theorem refsN_def (d : Def) : refsN (names d) [] (refL (names d) 0 (afters d)) = aftersR (names d) 0 d.steps :=
  refsN_rows (names d) d.steps 0 [] (by simp) (fun k s hk => by simp [names, List.getD, hk])
theorem names_nil (d : Def) : namesR d = [] ↔ namesP d = [] := by
  unfold namesR namesP
  rw [refsN_def]
  simp only [List.append_eq_nil_iff, stepsR_nil]
def meant (x n : Int) : Int := if x = 0 then n else x
def out1 (x a b : Int) : Bool := !(decide (a ≤ x) && decide (x ≤ b))
def stepB (i : Nat) (s : Step) : List Note :=
  nt (out1 (meant s.tries.most 1) 1 10) i 1 [109, 111, 115, 116] ++ (nt (out1 s.tries.first 0 1000) i 1 [102, 105, 114, 115, 116] ++ (nt (out1 (meant s.tries.factor 1) 1 10) i 1 [102, 97, 99, 116, 111, 114] ++ nt (out1 (meant s.limit 100) 1 10000) i 1 [108, 105, 109, 105, 116]))
def stepsB : Nat → List Step → List Note
  | _, [] => []
  | i, s :: ss => stepB i s ++ stepsB (i + 1) ss
def undoRow (us ns : List Tx) : List Nat → List Note
  | [] => []
  | j :: l => nt (us.getD j []).isEmpty j 19 (ns.getD j []) ++ undoRow us ns l
def undosP (us ns : List Tx) : Nat → List (List Nat) → List Note
  | _, [] => []
  | k, l :: ls => (if (us.getD k []).isEmpty then [] else undoRow us ns l) ++ undosP us ns (k + 1) ls
def boundsP (d : Def) : List Note := stepsB 0 d.steps ++ undosP (undos d) (names d) 0 (refs d)
def undoR (us : List Tx) (R : List (List Nat)) (i : Nat) (nm : Tx) : Nat → Nat → List Note
  | 0, _ => []
  | n + 1, k => nt (decide (i ∈ R.getD k []) && !(us.getD k []).isEmpty) i 19 nm ++ undoR us R i nm n (k + 1)
def stepsBR (us : List Tx) (R : List (List Nat)) (n : Nat) : Nat → List Step → List Note
  | _, [] => []
  | i, s :: ss => stepB i s ++ ((if s.undo.isEmpty then undoR us R i s.name n 0 else []) ++ stepsBR us R n (i + 1) ss)
def boundsR (d : Def) : List Note := stepsBR (undos d) (refs d) d.steps.length 0 d.steps
theorem undoRow_nil (us ns : List Tx) : ∀ l : List Nat, undoRow us ns l = [] ↔ ∀ j ∈ l, (us.getD j []).isEmpty = false
  | [] => by simp [undoRow]
  | j :: l => by
    unfold undoRow
    rw [List.append_eq_nil_iff, nt_nil, undoRow_nil us ns l]
    simp
theorem undosP_nil (us ns : List Tx) : ∀ (ls : List (List Nat)) (k : Nat), undosP us ns k ls = [] ↔ ∀ m l, ls[m]? = some l → (us.getD (k + m) []).isEmpty = false → ∀ j ∈ l, (us.getD j []).isEmpty = false
  | [], k => by simp [undosP]
  | l :: ls, k => by
    unfold undosP
    rw [List.append_eq_nil_iff, undosP_nil us ns ls (k + 1)]
    constructor
    · rintro ⟨h1, h2⟩ m l' hm hu j hj
      cases m with
      | zero =>
        simp only [List.getElem?_cons_zero, Option.some.injEq] at hm
        subst hm
        rw [Nat.add_zero] at hu
        rw [hu] at h1
        exact (undoRow_nil us ns l).1 (by simpa using h1) j hj
      | succ m => exact h2 m l' (by simpa using hm) (by rw [show k + 1 + m = k + (m + 1) by omega]; exact hu) j hj
    · intro h
      refine ⟨?_, fun m l' hm hu j hj => h (m + 1) l' (by simpa using hm) (by rw [show k + (m + 1) = k + 1 + m by omega]; exact hu) j hj⟩
      split
      · rfl
      · rename_i hu
        exact (undoRow_nil us ns l).2 (h 0 l rfl (by simpa using hu))
theorem undoR_nil (us : List Tx) (R : List (List Nat)) (i : Nat) (nm : Tx) : ∀ n k : Nat, undoR us R i nm n k = [] ↔ ∀ m, k ≤ m → m < k + n → i ∈ R.getD m [] → (us.getD m []).isEmpty = true
  | 0, k => by simp [undoR]; omega
  | n + 1, k => by
    unfold undoR
    rw [List.append_eq_nil_iff, nt_nil, undoR_nil us R i nm n (k + 1)]
    constructor
    · rintro ⟨h1, h2⟩ m hk hm hi
      by_cases h : m = k
      · subst h
        simp only [hi, decide_true, Bool.true_and, Bool.not_eq_false'] at h1
        exact h1
      · exact h2 m (by omega) (by omega) hi
    · intro h
      refine ⟨?_, fun m hk hm hi => h m (by omega) (by omega) hi⟩
      by_cases hi : i ∈ R.getD k []
      · simp only [hi, decide_true, Bool.true_and, Bool.not_eq_false']
        exact h k (Nat.le_refl _) (by omega) hi
      · rw [decide_eq_false hi, Bool.false_and]
theorem stepsBR_nil (us : List Tx) (R : List (List Nat)) (n : Nat) : ∀ (ss : List Step) (i : Nat), stepsBR us R n i ss = [] ↔ stepsB i ss = [] ∧ ∀ m s, ss[m]? = some s → s.undo.isEmpty = true → ∀ k, k < n → i + m ∈ R.getD k [] → (us.getD k []).isEmpty = true
  | [], i => by simp [stepsBR, stepsB]
  | s :: ss, i => by
    unfold stepsBR stepsB
    simp only [List.append_eq_nil_iff, stepsBR_nil us R n ss (i + 1)]
    constructor
    · rintro ⟨h1, h2, h3, h4⟩
      refine ⟨⟨h1, h3⟩, fun m s' hm hu k hk hi => ?_⟩
      cases m with
      | zero =>
        simp only [List.getElem?_cons_zero, Option.some.injEq] at hm
        subst hm
        rw [if_pos hu] at h2
        exact (undoR_nil us R i s.name n 0).1 h2 k (Nat.zero_le _) (by omega) hi
      | succ m => exact h4 m s' (by simpa using hm) hu k hk (by rw [show i + 1 + m = i + (m + 1) by omega]; exact hi)
    · rintro ⟨⟨h1, h3⟩, h⟩
      refine ⟨h1, ?_, h3, fun m s' hm hu k hk hi => h (m + 1) s' (by simpa using hm) hu k hk (by rw [show i + (m + 1) = i + 1 + m by omega]; exact hi)⟩
      split
      · rename_i hu
        exact (undoR_nil us R i s.name n 0).2 (fun m _ hm hi => h 0 s rfl hu m (by omega) hi)
      · rfl
theorem bounds_nil (d : Def) : boundsR d = [] ↔ boundsP d = [] := by
  unfold boundsR boundsP
  rw [stepsBR_nil, List.append_eq_nil_iff, undosP_nil]
  have hl := refs_len d
  constructor
  · rintro ⟨h1, h2⟩
    refine ⟨h1, fun m l hm hu j hj => ?_⟩
    have hmd : m < d.steps.length := by rw [← hl]; exact (List.getElem?_eq_some_iff.1 hm).1
    have hjd := refs_lt (List.mem_of_getElem? hm) hj
    cases hb : ((undos d).getD j []).isEmpty with
    | false => rfl
    | true =>
      have e1 : d.steps[j]? = some d.steps[j] := List.getElem?_eq_getElem hjd
      have := h2 j d.steps[j] e1 (by simpa [undos, List.getD, hjd] using hb) m hmd (by rw [Nat.zero_add, List.getD, hm]; exact hj)
      rw [Nat.zero_add, this] at hu
      cases hu
  · rintro ⟨h1, h2⟩
    refine ⟨h1, fun m s hm hu k hk hi => ?_⟩
    rw [Nat.zero_add] at hi
    cases hb : ((undos d).getD k []).isEmpty with
    | true => rfl
    | false =>
      have hk2 : k < (refs d).length := by omega
      have := h2 k (refs d)[k] (List.getElem?_eq_getElem hk2) (by rw [Nat.zero_add]; exact hb) m (by simpa [List.getD, hk2] using hi)
      have hu2 : ((undos d).getD m []).isEmpty = true := by simpa [undos, List.getD, hm] using hu
      rw [hu2] at this
      cases this
def mayB (deps : List (List Nat)) (there : List Bool) (i : Nat) : Bool := (deps.getD i []).all fun j => there.getD j false
def nextFrom (deps : List (List Nat)) (there : List Bool) : Nat → Nat → Option Nat
  | 0, _ => none
  | n + 1, i => if there.getD i false = false ∧ mayB deps there i = true then some i else nextFrom deps there n (i + 1)
def next (deps : List (List Nat)) (there : List Bool) : Option Nat := nextFrom deps there deps.length 0
def orderGo (deps : List (List Nat)) : Nat → List Bool → List Nat → List Nat
  | 0, _, out => out
  | f + 1, there, out => match next deps there with
    | none => out
    | some i => orderGo deps f (there.set i true) (out ++ [i])
def order (deps : List (List Nat)) : List Nat := orderGo deps deps.length (List.replicate deps.length false) []
def roundFrom (o : List Nat) : Nat → Nat → List Nat
  | 0, _ => []
  | n + 1, i => (if i ∈ o then [] else [i]) ++ roundFrom o n (i + 1)
def round (deps : List (List Nat)) : List Nat := roundFrom (order deps) deps.length 0
def cyc (d : Def) : List Note := (round (refs d)).map fun (i : Nat) => ((i : Int), (16 : Int), (names d).getD i [])
def texts : List Tx → Int
  | [] => 0
  | s :: ss => if P03.check s 64 ≠ 0 then P03.check s 64 else texts ss
def fits (x : Int) : Bool := decide (0 ≤ x) && decide (x ≤ 999999999)
def noneB (n : P20.T) : Bool := n.same (.mk 0 [] [] [] 0)
def stepE (s : Step) : Int :=
  if texts [s.name, s.action, s.undo] ≠ 0 then texts [s.name, s.action, s.undo] else if 64 < s.after.length then 2 else if texts s.after ≠ 0 then texts s.after else
  if (fits s.tries.most && (fits s.tries.first && (fits s.tries.factor && fits s.limit))) = false then 1 else if noneB s.note then 0 else if s.note.check 1 ≠ 0 then s.note.check 1 else if 13 < (s.note.size 18).1 then 11 else 0
def stepsE : Nat → List Step → Int × Int
  | _, [] => (0, 0)
  | i, s :: ss => if stepE s ≠ 0 then (stepE s, (i : Int) + 1) else stepsE (i + 1) ss
def defE (d : Def) : Int × Int :=
  if P03.check d.name 64 ≠ 0 then (P03.check d.name 64, 0) else if P03.check d.text 4096 ≠ 0 then (P03.check d.text 4096, 0) else if 1024 < d.steps.length then (2, 0) else stepsE 0 d.steps
def clean (d : Def) : Bool := (namesP d).isEmpty && ((boundsP d).isEmpty && ((cyc d).isEmpty && (defE d).1 == 0))
def cleanR (d : Def) : Bool := (namesR d).isEmpty && ((boundsR d).isEmpty && ((cyc d).isEmpty && (defE d).1 == 0))
theorem clean_eq (d : Def) : cleanR d = clean d := by
  have h1 := names_nil d
  have h2 := bounds_nil d
  unfold cleanR clean
  rw [Bool.eq_iff_iff]
  simp only [Bool.and_eq_true, List.isEmpty_iff, h1, h2]
end P28
end Go.Proofs.YtefokfbgpfcbkaaGreat
