/- Plain laws of layer 17: what is read, and put together, is read alike. -/
import Derived.Test.YtbnheebblicgkaaDoorPlainL17
import Derived.Test.YtbnheebblicgkaaDoorWR17e
namespace Go.Proofs.YtbnheebblicgkaaDoor
set_option linter.unusedVariables false
set_option linter.unusedSimpArgs false
open Go.RowKit
theorem check_parts {s : List UInt8} (h : (check17 s).1 = 0) : s.length ≤ 1048576 ∧ Vd s ∧ ∀ l ∈ lines17 s, l.any oddB = false := by
  unfold check17 at h
  split at h
  · simp at h
  · rename_i h1
    split at h
    · simp at h
    · rename_i h2
      split at h
      · rename_i i hi
        simp at h
      · rename_i hi
        refine ⟨by omega, by unfold Vd; omega, ?_⟩
        unfold oddLine at hi
        rw [List.findIdx?_eq_none_iff] at hi
        intro l hl
        simpa using hi l hl
theorem check_of {s : List UInt8} (h1 : s.length ≤ 1048576) (h2 : Vd s) (h3 : ∀ l ∈ lines17 s, l.any oddB = false) : check17 s = (0, 0) := by
  have h4 : oddLine s = none := by
    unfold oddLine
    rw [List.findIdx?_eq_none_iff]
    intro l hl
    simpa using h3 l hl
  unfold Vd at h2
  rw [check17, if_neg (by omega), if_neg (by omega), h4]
theorem check_utf {s : List UInt8} (h1 : s.length ≤ 1048576) (h2 : ¬ Vd s) : (check17 s).1 = 9 := by
  unfold Vd at h2
  rw [check17, if_neg (by omega), if_pos (by omega)]
theorem check_odd {s : List UInt8} (h1 : s.length ≤ 1048576) (h2 : Vd s) (h3 : ∃ l ∈ lines17 s, l.any oddB = true) : (check17 s).1 = 3 := by
  unfold Vd at h2
  rw [check17, if_neg (by omega), if_neg (by omega)]
  cases h4 : oddLine s with
  | some i => rfl
  | none =>
    unfold oddLine at h4
    rw [List.findIdx?_eq_none_iff] at h4
    obtain ⟨l, hl, ho⟩ := h3
    have := h4 l hl
    rw [ho] at this
    simp at this
/-- a row as a line -/
def lineOf (r : Nat × Nat × List UInt8) : List UInt8 := List.replicate r.2.1 32 ++ r.2.2
theorem rowOf_line {i : Nat} {l : List UInt8} {r : Nat × Nat × List UInt8} (h : rowOf i l = some r) : lineOf r = strip17 l ∧ r.1 = i + 1 ∧ ∀ j, rowOf j (lineOf r) = some (j + 1, r.2.1, r.2.2) := by
  unfold rowOf at h
  split at h
  · cases h
  · rename_i hne
    simp only [Option.some.injEq] at h
    subst h
    obtain ⟨k, hk⟩ := dropWhile_blank (strip17 l)
    have hlen := congrArg List.length hk
    rw [List.length_append, List.length_replicate] at hlen
    have e1 : lineOf (i + 1, (strip17 l).length - (trimL (strip17 l)).length, trimL (strip17 l)) = strip17 l := by
      unfold lineOf
      rw [show (strip17 l).length - (trimL (strip17 l)).length = k from by omega]
      exact hk.symm
    refine ⟨e1, rfl, fun j => ?_⟩
    rw [e1, rowOf, strip_idem, if_neg hne]
/-- rows, numbered anew -/
def renum : Nat → List (Nat × Nat × List UInt8) → List (Nat × Nat × List UInt8)
  | _, [] => []
  | k, r :: rs => (k + 1, r.2.1, r.2.2) :: renum (k + 1) rs
theorem renum_get : ∀ (k : Nat) (rs : List (Nat × Nat × List UInt8)) (i : Nat), (renum k rs)[i]? = (rs[i]?).map (fun r => (k + i + 1, r.2.1, r.2.2))
  | k, [], i => by simp [renum]
  | k, r :: rs, 0 => by simp [renum]
  | k, r :: rs, i + 1 => by
    simp only [renum, List.getElem?_cons_succ]
    rw [renum_get (k + 1) rs i, show k + 1 + i + 1 = k + (i + 1) + 1 from by omega]
theorem renum_len : ∀ (k : Nat) (rs : List (Nat × Nat × List UInt8)), (renum k rs).length = rs.length
  | k, [] => rfl
  | k, r :: rs => by simp [renum, renum_len (k + 1) rs]
theorem rowsFrom_mem : ∀ (k : Nat) (ls : List (List UInt8)) (r : Nat × Nat × List UInt8), r ∈ rowsFrom k ls → ∃ l ∈ ls, ∃ i, rowOf i l = some r
  | k, [], r, h => by simp [rowsFrom] at h
  | k, l :: ls, r, h => by
    unfold rowsFrom at h
    split at h
    · obtain ⟨l', h1, h2⟩ := rowsFrom_mem (k + 1) ls r h
      exact ⟨l', List.mem_cons_of_mem _ h1, h2⟩
    · rename_i x hx
      rcases List.mem_cons.1 h with rfl | h
      · exact ⟨l, List.mem_cons_self, k, hx⟩
      · obtain ⟨l', h1, h2⟩ := rowsFrom_mem (k + 1) ls r h
        exact ⟨l', List.mem_cons_of_mem _ h1, h2⟩
theorem rowsFrom_lines : ∀ (k : Nat) (rs : List (Nat × Nat × List UInt8)), (∀ r ∈ rs, ∃ i l, rowOf i l = some r) → rowsFrom k (rs.map lineOf) = renum k rs
  | k, [], _ => rfl
  | k, r :: rs, h => by
    obtain ⟨i, l, hr⟩ := h r List.mem_cons_self
    have h2 := (rowOf_line hr).2.2 k
    have ih := rowsFrom_lines (k + 1) rs (fun x hx => h x (List.mem_cons_of_mem _ hx))
    rw [List.map_cons, rowsFrom, h2]
    show _ :: rowsFrom (k + 1) (rs.map lineOf) = _
    rw [ih]
    rfl
theorem strip_mem {l : List UInt8} {c : UInt8} (h : c ∈ strip17 l) : c ∈ l := by
  unfold strip17 at h
  obtain ⟨j, _, hj⟩ := trimR_prefix (l.take (remarkAt true false false 0 l))
  rw [hj] at h
  exact List.mem_of_mem_take (List.mem_of_mem_take h)
theorem joinT_lines : ∀ (rs : List (Nat × Nat × List UInt8)), (∀ r ∈ rs, r.2.1 ≤ 100) → joinT (rs.map castR) = (rs.map lineOf).flatMap (fun l => l ++ [10])
  | [], _ => rfl
  | r :: rs, h => by
    have ih := joinT_lines rs (fun x hx => h x (List.mem_cons_of_mem _ hx))
    have h1 := h r List.mem_cons_self
    unfold joinT at ih ⊢
    rw [List.map_cons, List.flatMap_cons, List.map_cons, List.flatMap_cons, ih]
    congr 1
    show List.replicate (min (max (r.2.1 : Int) 0) 100).toNat 32 ++ r.2.2 ++ [10] = lineOf r ++ [10]
    rw [show (min (max (r.2.1 : Int) 0) 100).toNat = r.2.1 from by omega]
    rfl
theorem join_back {s : List UInt8} (h0 : (check17 s).1 = 0) (hc : ∀ r ∈ rows17 s, r.2.1 ≤ 100) (hl : (joinT ((rows17 s).map castR)).length ≤ 1048576) :
    check17 (joinT ((rows17 s).map castR)) = (0, 0) ∧ rows17 (joinT ((rows17 s).map castR)) = renum 0 (rows17 s) := by
  obtain ⟨_, hv, ho⟩ := check_parts h0
  have hm : ∀ r ∈ rows17 s, ∃ l ∈ lines17 s, ∃ i, rowOf i l = some r := fun r hr => rowsFrom_mem 0 _ r hr
  have hlo : ∀ x ∈ (rows17 s).map lineOf, ∃ l ∈ lines17 s, x = strip17 l := by
    intro x hx
    obtain ⟨r, hr, rfl⟩ := List.mem_map.1 hx
    obtain ⟨l, hl, i, hi⟩ := hm r hr
    exact ⟨l, hl, (rowOf_line hi).1⟩
  have hno : ∀ x ∈ (rows17 s).map lineOf, (10 : UInt8) ∉ x := by
    intro x hx h10
    obtain ⟨l, hl, rfl⟩ := hlo x hx
    exact lines_no s l hl (strip_mem h10)
  have hj := joinT_lines (rows17 s) hc
  have hL : lines17 (joinT ((rows17 s).map castR)) = (rows17 s).map lineOf := by rw [hj, lines17_flat _ hno]
  refine ⟨check_of hl ?_ ?_, ?_⟩
  · rw [vd_lines, hL]
    intro x hx
    obtain ⟨l, hl, rfl⟩ := hlo x hx
    exact vd_strip ((vd_lines s).1 hv l hl)
  · rw [hL]
    intro x hx
    obtain ⟨l, hl, rfl⟩ := hlo x hx
    have h1 := ho l hl
    rw [List.any_eq_false] at h1 ⊢
    exact fun c hc => h1 c (strip_mem hc)
  · rw [rows17, hL]
    exact rowsFrom_lines 0 _ (fun r hr => by obtain ⟨l, _, i, hi⟩ := hm r hr; exact ⟨i, l, hi⟩)
theorem joinT_rows_le (rs : List (Nat × Nat × List UInt8)) : ∀ (k : Nat) (ls : List (List UInt8)), rs = rowsFrom k ls → (joinT (rs.map castR)).length ≤ (ls.map (fun l => l.length + 1)).sum := by
  have one : ∀ (i : Nat) (l : List UInt8) (r : Nat × Nat × List UInt8), rowOf i l = some r → (joinRow (castR r)).length ≤ l.length + 1 := by
    intro i l r h
    have h1 := (rowOf_line h).1
    have h2 := congrArg List.length h1
    have h3 := strip_len l
    unfold lineOf at h2
    rw [List.length_append, List.length_replicate] at h2
    have h4 : (joinRow (castR r)).length = (min (max (r.2.1 : Int) 0) 100).toNat + r.2.2.length + 1 := by
      show (List.replicate (min (max (r.2.1 : Int) 0) 100).toNat 32 ++ r.2.2 ++ [10]).length = _
      simp
      omega
    omega
  have all : ∀ (ls : List (List UInt8)) (k : Nat), (joinT ((rowsFrom k ls).map castR)).length ≤ (ls.map (fun l => l.length + 1)).sum := by
    intro ls
    induction ls with
    | nil => intro k; simp [rowsFrom, joinT]
    | cons l ls ih =>
      intro k
      have ih2 := ih (k + 1)
      rw [List.map_cons, List.sum_cons]
      unfold rowsFrom
      split
      · omega
      · rename_i x hx
        have h1 := one k l x hx
        rw [List.map_cons]
        show (joinRow (castR x) ++ joinT ((rowsFrom (k + 1) ls).map castR)).length ≤ _
        rw [List.length_append]
        omega
  intro k ls h
  subst h
  exact all ls k
theorem lines_sum : ∀ (s : List UInt8), ((lines17 s).map (fun l => l.length + 1)).sum ≤ 2 * s.length := by
  have raw : ∀ s : List UInt8, ((rawL s).map (fun l => l.length)).sum = s.length := by
    intro s
    induction s with
    | nil => rfl
    | cons c r ih =>
      unfold rawL
      split
      · simp [ih]; omega
      · split
        · rename_i h
          rw [h] at ih
          simp at ih
          simp [← ih]
        · rename_i l ls h
          rw [h] at ih
          simp at ih ⊢
          omega
  have chp : ∀ l : List UInt8, (chop l).length ≤ l.length := by
    intro l
    unfold chop
    split
    · simp
    · exact Nat.le_refl _
  have gen : ∀ ls : List (List UInt8), ((ls.map chop).map (fun l => l.length + 1)).sum ≤ (ls.map (fun l => l.length)).sum + ls.length := by
    intro ls
    induction ls with
    | nil => simp
    | cons a r ih =>
      have := chp a
      simp only [List.map_cons, List.sum_cons, List.length_cons]
      omega
  intro s
  have h1 := gen (rawL s)
  have h2 := raw s
  have h3 := rawL_le s
  unfold lines17
  omega
theorem join_short {s : List UInt8} (h : s.length ≤ 2000) : (joinT ((rows17 s).map castR)).length ≤ 4000 := by
  have h1 := joinT_rows_le (rows17 s) 0 (lines17 s) rfl
  have h2 := lines_sum s
  omega
end Go.Proofs.YtbnheebblicgkaaDoor
