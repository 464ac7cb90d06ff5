/- Plain laws of layer 19: with all places doubled lines are read alike, but for places.; walk of TokDoubles -/
import Derived.Test.YtbnheebblicgkaaDoorGL17
import Derived.Test.YtbnheebblicgkaaDoorG19a
import Derived.Test.YtbnheebblicgkaaDoorG19c
namespace Go.Proofs.YtbnheebblicgkaaDoor
set_option linter.unusedVariables false
set_option linter.unusedSimpArgs false
open Go.RowKit
/-- a row, its place doubled -/
def dbR (r : Nat × Nat × List UInt8) : Nat × Nat × List UInt8 := (r.1, 2 * r.2.1, r.2.2)
theorem dropWhile_self (l : List UInt8) : l.dropWhile (· == 32) = l ↔ l.head? ≠ some 32 := by
  cases l with
  | nil => simp
  | cons c r =>
    by_cases hc : c = 32
    · subst hc
      rw [List.dropWhile_cons_of_pos (by rfl)]
      simp only [List.head?_cons, ne_eq, not_true_eq_false, iff_false]
      intro h
      have h1 := (List.dropWhile_sublist (l := r) (· == 32)).length_le
      have h2 := congrArg List.length h
      rw [List.length_cons] at h2
      omega
    · rw [List.dropWhile_cons_of_neg (by simpa using hc)]
      simp [hc]
theorem trimR_self (l : List UInt8) : trimR l = l ↔ l.getLast? ≠ some 32 := by
  unfold trimR
  rw [← List.head?_reverse, ← dropWhile_self]
  constructor
  · intro h; rw [← List.reverse_inj, h, List.reverse_reverse]
  · intro h; rw [h, List.reverse_reverse]
theorem trimR_le (l : List UInt8) : (trimR l).length ≤ l.length := by
  obtain ⟨j, hj, h⟩ := trimR_prefix l
  rw [h, List.length_take]
  omega
theorem remark_shift : ∀ (l : List UInt8) (bl q t : Bool) (k j : Nat), remarkAt bl q t (k + j) l = remarkAt bl q t k l + j
  | [], bl, q, t, k, j => rfl
  | c :: r, bl, q, t, k, j => by
    unfold remarkAt
    rw [show k + j + 1 = (k + 1) + j from by omega]
    simp only [remark_shift r _ _ _ (k + 1) j]
    repeat' split
    all_goals rfl
theorem remark_le (l : List UInt8) (bl q t : Bool) (k : Nat) : remarkAt bl q t k l ≤ k + l.length := by
  obtain ⟨h1, h2⟩ := remark_sign l bl q t k
  rcases h2 with h2 | ⟨x, hx⟩
  · omega
  · have := congrArg List.length hx
    simp only [List.length_append, List.length_take, List.length_cons] at this
    omega
theorem remark_blanks (x : List UInt8) : ∀ k : Nat, remarkAt true false false 0 (List.replicate k 32 ++ x) = remarkAt true false false 0 x + k
  | 0 => rfl
  | k + 1 => by
    rw [List.replicate_succ, List.cons_append]
    show remarkAt true false false (0 + 1) (List.replicate k 32 ++ x) = _
    rw [remark_shift, remark_blanks x k]
    omega
theorem strip_self (l : List UInt8) : strip17 l = l ↔ remarkAt true false false 0 l = l.length ∧ l.getLast? ≠ some 32 := by
  unfold strip17
  constructor
  · intro h
    have h1 := remark_le l true false false 0
    have h2 := trimR_le (l.take (remarkAt true false false 0 l))
    have h3 := congrArg List.length h
    rw [List.length_take] at h2
    have h4 : remarkAt true false false 0 l = l.length := by omega
    rw [h4, List.take_length] at h
    exact ⟨h4, (trimR_self l).1 h⟩
  · rintro ⟨h1, h2⟩
    rw [h1, List.take_length]
    exact (trimR_self l).2 h2
theorem strip_blanks (x : List UInt8) (hx : x ≠ []) (k : Nat) : strip17 (List.replicate k 32 ++ x) = List.replicate k 32 ++ x ↔ strip17 x = x := by
  have hg : (List.replicate k 32 ++ x).getLast? = x.getLast? := by
    rw [List.getLast?_append]
    cases h : x.getLast? with
    | none => exact absurd (List.getLast?_eq_none_iff.1 h) hx
    | some z => rfl
  rw [strip_self, strip_self, remark_blanks, hg, List.length_append, List.length_replicate]
  constructor
  · rintro ⟨h1, h2⟩; exact ⟨by omega, h2⟩
  · rintro ⟨h1, h2⟩; exact ⟨by omega, h2⟩
theorem trimL_blanks (x : List UInt8) (hx : x.head? ≠ some 32) : ∀ k : Nat, trimL (List.replicate k 32 ++ x) = x
  | 0 => by unfold trimL; rw [List.replicate_zero, List.nil_append]; exact (dropWhile_self x).2 hx
  | k + 1 => by
    have ih := trimL_blanks x hx k
    unfold trimL at ih ⊢
    rw [List.replicate_succ, List.cons_append, List.dropWhile_cons_of_pos (by rfl), ih]
theorem trimL_head (l : List UInt8) : (trimL l).head? ≠ some 32 := by
  unfold trimL
  induction l with
  | nil => simp
  | cons c r ih =>
    by_cases hc : c = 32
    · subst hc; rw [List.dropWhile_cons_of_pos (by rfl)]; exact ih
    · rw [List.dropWhile_cons_of_neg (by simpa using hc)]; simp [hc]
/-- a row's line, moved in elsewhere, is that row there -/
theorem rowOf_moved {i : Nat} {l : List UInt8} {r : Nat × Nat × List UInt8} (h : rowOf i l = some r) (k j : Nat) : rowOf j (List.replicate k 32 ++ r.2.2) = some (j + 1, k, r.2.2) ∧ r.2.2 ≠ [] ∧ (∀ c ∈ r.2.2, c ∈ l) := by
  have h1 := (rowOf_line h).1
  have hm : ∀ c ∈ r.2.2, c ∈ l := by
    intro c hc
    refine strip_mem ?_
    rw [← h1]
    exact List.mem_append_right _ hc
  unfold rowOf at h
  split at h
  · cases h
  · rename_i hne
    simp only [Option.some.injEq] at h
    have hx : r.2.2 = trimL (strip17 l) := by rw [← h]
    have hne2 : r.2.2 ≠ [] := by rw [hx]; exact hne
    have hs : strip17 r.2.2 = r.2.2 := by
      rw [← strip_blanks r.2.2 hne2 r.2.1]
      have : lineOf r = List.replicate r.2.1 32 ++ r.2.2 := rfl
      rw [← this, h1]
      exact strip_idem l
    have hh : r.2.2.head? ≠ some 32 := by rw [hx]; exact trimL_head _
    refine ⟨?_, hne2, hm⟩
    unfold rowOf
    rw [(strip_blanks r.2.2 hne2 k).2 hs, trimL_blanks r.2.2 hh k, if_neg hne2]
    simp
theorem rowsFrom_moved : ∀ (k : Nat) (rs : List (Nat × Nat × List UInt8)), (∀ r ∈ rs, ∃ i l, rowOf i l = some r) → rowsFrom k ((rs.map dbR).map lineOf) = renum k (rs.map dbR)
  | k, [], _ => rfl
  | k, r :: rs, h => by
    obtain ⟨i, l, hr⟩ := h r List.mem_cons_self
    have h2 := (rowOf_moved hr (2 * r.2.1) k).1
    have ih := rowsFrom_moved (k + 1) rs (fun x hx => h x (List.mem_cons_of_mem _ hx))
    rw [List.map_cons, List.map_cons, rowsFrom]
    show (match rowOf k (List.replicate (2 * r.2.1) 32 ++ r.2.2) with | none => _ | some x => x :: rowsFrom (k + 1) ((rs.map dbR).map lineOf)) = _
    rw [h2]
    show _ :: rowsFrom (k + 1) ((rs.map dbR).map lineOf) = _
    rw [ih]
    rfl
theorem join_doubled {s : List UInt8} (h0 : (check17 s).1 = 0) (hc : ∀ r ∈ rows17 s, r.2.1 ≤ 50) (hl : (joinT (((rows17 s).map dbR).map castR)).length ≤ 1048576) :
    check17 (joinT (((rows17 s).map dbR).map castR)) = (0, 0) ∧ rows17 (joinT (((rows17 s).map dbR).map castR)) = renum 0 ((rows17 s).map dbR) := by
  obtain ⟨_, hv, ho⟩ := check_parts h0
  have hm : ∀ r ∈ rows17 s, ∃ l ∈ lines17 s, ∃ i, rowOf i l = some r := fun r hr => rowsFrom_mem 0 _ r hr
  have hlo : ∀ x ∈ ((rows17 s).map dbR).map lineOf, ∃ l ∈ lines17 s, ∃ k y, x = List.replicate k 32 ++ y ∧ (∀ c ∈ y, c ∈ l) ∧ (Vd l → Vd y) := by
    intro x hx
    obtain ⟨r0, hr0, rfl⟩ := List.mem_map.1 hx
    obtain ⟨r, hr, rfl⟩ := List.mem_map.1 hr0
    obtain ⟨l, hl, i, hi⟩ := hm r hr
    refine ⟨l, hl, 2 * r.2.1, r.2.2, rfl, (rowOf_moved hi 0 0).2.2, fun hv => ?_⟩
    have h1 := vd_strip hv
    rw [← (rowOf_line hi).1] at h1
    unfold lineOf at h1
    rwa [vd_blanks] at h1
  have hno : ∀ x ∈ ((rows17 s).map dbR).map lineOf, (10 : UInt8) ∉ x := by
    intro x hx h10
    obtain ⟨l, hl, k, y, rfl, hy, _⟩ := hlo x hx
    rcases List.mem_append.1 h10 with h | h
    · have := List.eq_of_mem_replicate h
      exact absurd this (by decide)
    · exact lines_no s l hl (hy _ h)
  have hj := joinT_lines ((rows17 s).map dbR) (fun r0 hr0 => by
    obtain ⟨r, hr, rfl⟩ := List.mem_map.1 hr0
    have := hc r hr
    show 2 * r.2.1 ≤ 100
    omega)
  have hL : lines17 (joinT (((rows17 s).map dbR).map castR)) = ((rows17 s).map dbR).map lineOf := by rw [hj, lines17_flat _ hno]
  refine ⟨check_of hl ?_ ?_, ?_⟩
  · rw [vd_lines, hL]
    intro x hx
    obtain ⟨l, hl, k, y, rfl, hy, hvd⟩ := hlo x hx
    rw [vd_blanks]
    exact hvd ((vd_lines s).1 hv l hl)
  · rw [hL]
    intro x hx
    obtain ⟨l, hl, k, y, rfl, hy, hvd⟩ := hlo x hx
    have h1 := ho l hl
    rw [List.any_eq_false] at h1 ⊢
    intro c hc
    rcases List.mem_append.1 hc with h | h
    · rw [List.eq_of_mem_replicate h]; decide
    · exact h1 c (hy c h)
  · rw [rows17, hL]
    exact rowsFrom_moved 0 _ (fun r hr => by obtain ⟨l, _, i, hi⟩ := hm r hr; exact ⟨i, l, hi⟩)
theorem double_short {s : List UInt8} (h : s.length ≤ 1000) : (joinT (((rows17 s).map dbR).map castR)).length ≤ 100000 := by
  have one : ∀ r : Nat × Nat × List UInt8, (joinRow (castR (dbR r))).length ≤ 2 * (joinRow (castR r)).length := by
    intro r
    have e1 : (joinRow (castR r)).length = (min (max (r.2.1 : Int) 0) 100).toNat + r.2.2.length + 1 := by
      show (List.replicate (min (max (r.2.1 : Int) 0) 100).toNat 32 ++ r.2.2 ++ [10]).length = _
      simp
      omega
    have e2 : (joinRow (castR (dbR r))).length = (min (max ((2 * r.2.1 : Nat) : Int) 0) 100).toNat + r.2.2.length + 1 := by
      show (List.replicate (min (max ((2 * r.2.1 : Nat) : Int) 0) 100).toNat 32 ++ r.2.2 ++ [10]).length = _
      simp
      omega
    omega
  have all : ∀ rs : List (Nat × Nat × List UInt8), (joinT ((rs.map dbR).map castR)).length ≤ 2 * (joinT (rs.map castR)).length := by
    intro rs
    induction rs with
    | nil => simp [joinT]
    | cons r rs ih =>
      have h1 := one r
      rw [List.map_cons, List.map_cons, List.map_cons]
      show (joinRow (castR (dbR r)) ++ joinT ((rs.map dbR).map castR)).length ≤ 2 * (joinRow (castR r) ++ joinT (rs.map castR)).length
      rw [List.length_append, List.length_append]
      omega
  have h1 := all (rows17 s)
  have h2 := join_short (s := s) (by omega)
  omega
namespace P19
/-- a token, but for its place -/
def kt (t : Tk) : Nat × List UInt8 := (t.1, t.2.1)
def dbl (st : List Int) : List Int := st.map (fun x => 2 * x)
theorem value_moved (n c n' c' : Int) (s : List UInt8) : (value n' c' s).2 = (value n c s).2 ∧ kt (value n' c' s).1 = kt (value n c s).1 ∧ (value n c s).1.1 ≠ 3 := by
  unfold value
  repeat' split
  all_goals exact ⟨rfl, rfl, by simp⟩
theorem line_moved (f : Nat) (n c n' c' : Int) (s : List UInt8) (hs : signB 45 s = false) :
    (line (f + 1) n' c' s).2 = (line (f + 1) n c s).2 ∧ (line (f + 1) n' c' s).1.map kt = (line (f + 1) n c s).1.map kt ∧ (∀ t ∈ (line (f + 1) n c s).1, t.1 ≠ 3) := by
  have hs' : ¬ signB 45 s = true := by rw [hs]; simp
  have hv := value_moved n (c + ((P18.cut s).1 + 1 + skip (s.drop ((P18.cut s).1 + 1)) : Nat)) n' (c' + ((P18.cut s).1 + 1 + skip (s.drop ((P18.cut s).1 + 1)) : Nat)) (s.drop ((P18.cut s).1 + 1 + skip (s.drop ((P18.cut s).1 + 1))))
  unfold line
  rw [if_neg hs', if_neg hs', hv.1]
  by_cases h1 : s = [91, 93]
  · rw [if_pos h1, if_pos h1]; exact ⟨rfl, rfl, by simp⟩
  rw [if_neg h1, if_neg h1]
  by_cases h2 : s = [123, 125]
  · rw [if_pos h2, if_pos h2]; exact ⟨rfl, rfl, by simp⟩
  rw [if_neg h2, if_neg h2]
  repeat' split
  all_goals try (exact ⟨rfl, rfl, by simp⟩)
  refine ⟨rfl, ?_, ?_⟩
  · simp only [List.map_cons, List.map_nil, hv.2.1]; rfl
  · intro t ht
    simp only [List.mem_cons, List.not_mem_nil, or_false] at ht
    rcases ht with rfl | rfl
    · simp
    · exact hv.2.2
theorem top_dbl (st : List Int) : top (dbl st) = 2 * top st := by cases st <;> simp [top, dbl]
theorem close_dbl (n c tc n' tc' : Int) : ∀ st : List Int, (close n' (2 * c) tc' (dbl st)).1.map kt = (close n c tc st).1.map kt ∧ (close n' (2 * c) tc' (dbl st)).2 = dbl (close n c tc st).2
  | [] => ⟨rfl, rfl⟩
  | x :: st => by
    obtain ⟨h1, h2⟩ := close_dbl n c tc n' tc' st
    unfold dbl at *
    rw [List.map_cons]
    unfold close
    by_cases h : c < x
    · rw [if_pos h, if_pos (by omega)]
      refine ⟨?_, h2⟩
      rw [List.map_cons, List.map_cons, h1]
      rfl
    · rw [if_neg h, if_neg (by omega)]
      exact ⟨rfl, rfl⟩
theorem turn_dbl (b : Bool) (k : Nat) (n n' : Int) (t t' : Tk) (out out' : List Tk) (st : List Int) (ht : kt t' = kt t) (ho : out'.map kt = out.map kt) (hb : b = true → t'.2.2.2 = 2 * t.2.2.2) (hk : b = false → k ≠ 3) :
    (turn b k n' t' out' (dbl st)).1 = (turn b k n t out st).1 ∧ (turn b k n' t' out' (dbl st)).2.1.map kt = (turn b k n t out st).2.1.map kt ∧ (turn b k n' t' out' (dbl st)).2.2 = dbl (turn b k n t out st).2.2 := by
  cases b with
  | false =>
    have h1 := hk rfl
    unfold turn
    rw [if_neg (by simp), if_neg (by simp [h1]), if_neg (by simp), if_neg (by simp [h1])]
    exact ⟨rfl, by simp [ho, ht], rfl⟩
  | true =>
    have h1 := hb rfl
    have hlen : (dbl st).length = st.length := by simp [dbl]
    obtain ⟨c1, c2⟩ := close_dbl n t.2.2.2 t.2.2.2 n' (2 * t.2.2.2) st
    unfold turn
    rw [h1, c2, top_dbl, top_dbl, hlen]
    by_cases g1 : t.2.2.2 < top st
    · rw [if_pos (show true = true ∧ t.2.2.2 < top st from ⟨rfl, g1⟩), if_pos (show true = true ∧ 2 * t.2.2.2 < 2 * top st from ⟨rfl, by omega⟩)]
      by_cases g2 : top (close n t.2.2.2 t.2.2.2 st).2 ≠ t.2.2.2
      · rw [if_pos g2, if_pos (by omega)]; exact ⟨rfl, rfl, rfl⟩
      · rw [if_neg g2, if_neg (by omega)]
        exact ⟨rfl, by simp [ho, ht, c1], rfl⟩
    · rw [if_neg (show ¬ (true = true ∧ t.2.2.2 < top st) from fun h => g1 h.2), if_neg (show ¬ (true = true ∧ 2 * t.2.2.2 < 2 * top st) from fun h => by have := h.2; omega)]
      by_cases g3 : top st < t.2.2.2
      · rw [if_pos (show (true = true ∧ top st < t.2.2.2) ∨ (true = false ∧ k = 3) from .inl ⟨rfl, g3⟩), if_pos (show (true = true ∧ 2 * top st < 2 * t.2.2.2) ∨ (true = false ∧ k = 3) from .inl ⟨rfl, by omega⟩)]
        by_cases g4 : 16 ≤ st.length
        · rw [if_pos g4, if_pos g4]; exact ⟨rfl, rfl, rfl⟩
        · rw [if_neg g4, if_neg g4]
          refine ⟨rfl, ?_, rfl⟩
          have hk1 : kt (1, [], n', 2 * t.2.2.2) = kt (1, [], n, t.2.2.2) := rfl
          simp only [List.map_append, List.map_cons, List.map_nil, ho, ht, hk1]
      · rw [if_neg (show ¬ ((true = true ∧ top st < t.2.2.2) ∨ (true = false ∧ k = 3)) from fun h => by rcases h with h | h; exact g3 h.2; cases h.1), if_neg (show ¬ ((true = true ∧ 2 * top st < 2 * t.2.2.2) ∨ (true = false ∧ k = 3)) from fun h => by rcases h with h | h; (have := h.2; omega); cases h.1)]
        exact ⟨rfl, by simp [ho, ht], rfl⟩
theorem adds_dbl (n n' : Int) : ∀ (ts ts' : List Tk) (b : Bool) (k : Nat) (out out' : List Tk) (st : List Int), ts'.map kt = ts.map kt → (∀ t ∈ ts, t.1 ≠ 3) → out'.map kt = out.map kt →
    (b = true → ∀ t ∈ ts.head?, ∀ t' ∈ ts'.head?, t'.2.2.2 = 2 * t.2.2.2) → (b = false → k ≠ 3) →
    (adds n' b k ts' out' (dbl st)).1 = (adds n b k ts out st).1 ∧ (adds n' b k ts' out' (dbl st)).2.1.map kt = (adds n b k ts out st).2.1.map kt ∧ (adds n' b k ts' out' (dbl st)).2.2 = dbl (adds n b k ts out st).2.2
  | [], [], b, k, out, out', st, _, _, ho, _, _ => ⟨rfl, ho, rfl⟩
  | [], _ :: _, b, k, out, out', st, h, _, _, _, _ => by simp at h
  | _ :: _, [], b, k, out, out', st, h, _, _, _, _ => by simp at h
  | t :: r, t' :: r', b, k, out, out', st, h, h3, ho, hb, hk => by
    rw [List.map_cons, List.map_cons, List.cons.injEq] at h
    obtain ⟨e1, e2, e3⟩ := turn_dbl b k n n' t t' out out' st h.1 ho (fun e => hb e t (by simp) t' (by simp)) hk
    unfold adds
    rw [e1, e3]
    split
    · exact ⟨rfl, rfl, rfl⟩
    · have hk2 : t'.1 = t.1 := congrArg (fun p : Nat × List UInt8 => p.1) h.1
      rw [hk2]
      exact adds_dbl n n' r r' false t.1 _ _ _ h.2 (fun x hx => h3 x (by simp [hx])) e2 (fun e => by cases e) (fun _ => h3 t (by simp))
theorem allR_dbl : ∀ (rs : List (Nat × Nat × List UInt8)) (j : Nat) (b : Bool) (out out' : List Tk) (st : List Int) (last last' : Int), (∀ r ∈ rs, signB 45 r.2.2 = false) → out'.map kt = out.map kt →
    (allR b (renum j (rs.map dbR)) out' (dbl st) last').2.1 = (allR b rs out st last).2.1 ∧ (allR b (renum j (rs.map dbR)) out' (dbl st) last').1.map kt = (allR b rs out st last).1.map kt
  | [], j, b, out, out', st, last, last', _, ho => by
    have h1 := (close_dbl last 0 0 last' 0 st).1
    show (allR b [] out' (dbl st) last').2.1 = (allR b [] out st last).2.1 ∧ (allR b [] out' (dbl st) last').1.map kt = (allR b [] out st last).1.map kt
    unfold allR
    refine ⟨rfl, ?_⟩
    rw [List.map_append, List.map_append, ho]
    rw [Int.mul_zero] at h1
    rw [h1]
  | r :: rs, j, b, out, out', st, last, last', hs, ho => by
    obtain ⟨l1, l2, l3⟩ := line_moved r.2.2.length (r.1 : Int) (r.2.1 : Int) ((j + 1 : Nat) : Int) ((2 * r.2.1 : Nat) : Int) r.2.2 (hs r (by simp))
    have ha := (line_at (r.2.2.length + 1) (r.1 : Int) (r.2.1 : Int) r.2.2).2.1
    have ha' := (line_at (r.2.2.length + 1) ((j + 1 : Nat) : Int) ((2 * r.2.1 : Nat) : Int) r.2.2).2.1
    have hA := adds_dbl (r.1 : Int) ((j + 1 : Nat) : Int) (rowT r).1 (rowT (j + 1, 2 * r.2.1, r.2.2)).1 true 0 out out' st l2 l3 ho (fun _ t ht t' ht' => by
      rw [ha t ht, ha' t' ht']; omega) (fun e => by cases e)
    obtain ⟨a1, a2, a3⟩ := hA
    rw [List.map_cons]
    show (allR b ((j + 1, 2 * r.2.1, r.2.2) :: renum (j + 1) (rs.map dbR)) out' (dbl st) last').2.1 = _ ∧ (allR b ((j + 1, 2 * r.2.1, r.2.2) :: renum (j + 1) (rs.map dbR)) out' (dbl st) last').1.map kt = _
    unfold allR
    have l1' : (rowT (j + 1, 2 * r.2.1, r.2.2)).2 = (rowT r).2 := l1
    rw [l1', a1, a3]
    by_cases g1 : (rowT r).2 ≠ 0
    · rw [if_pos g1, if_pos g1]; exact ⟨rfl, rfl⟩
    rw [if_neg g1, if_neg g1]
    by_cases g2 : b = true ∧ 0 < r.2.1
    · rw [if_pos g2, if_pos (show b = true ∧ 0 < 2 * r.2.1 from ⟨g2.1, by omega⟩)]; exact ⟨rfl, rfl⟩
    rw [if_neg g2, if_neg (show ¬ (b = true ∧ 0 < 2 * r.2.1) from fun h => g2 ⟨h.1, by omega⟩)]
    by_cases g3 : (adds (r.1 : Int) true 0 (rowT r).1 out st).1 ≠ 0
    · rw [if_pos g3, if_pos g3]; exact ⟨rfl, rfl⟩
    rw [if_neg g3, if_neg g3]
    exact allR_dbl rs (j + 1) false _ _ _ _ _ (fun x hx => hs x (by simp [hx])) a2
theorem sign_head (s : List UInt8) (h : s.head? ≠ some 45) : signB 45 s = false := by
  cases s with
  | nil => rfl
  | cons a r =>
    have : (a == 45) = false := by simpa using h
    simp only [signB, this, Bool.false_and]
theorem all_dbl {s : List UInt8} (h0 : (check17 s).1 = 0) (hl : s.length ≤ 1000) (hc : ∀ r ∈ rows17 s, r.2.1 ≤ 50 ∧ r.2.2.head? ≠ some 45) :
    (all (joinT (((rows17 s).map dbR).map castR))).2.1 = (all s).2.1 ∧ (all (joinT (((rows17 s).map dbR).map castR))).1.map kt = (all s).1.map kt := by
  have hs := double_short hl
  obtain ⟨j1, j2⟩ := join_doubled h0 (fun r hr => (hc r hr).1) (by omega)
  unfold all
  rw [j1, j2, if_neg (by simp), if_neg (by omega)]
  exact allR_dbl (rows17 s) 0 true [] [] [0] 0 0 (fun r hr => sign_head _ (hc r hr).2) rfl
end P19
theorem allR_lenD : ∀ (rs : List (Nat × Nat × List UInt8)) (b : Bool) (out : List Tk) (st : List Int) (last : Int), P19.Row st → st.length ≤ 16 → (P19.allR b rs out st last).1.length ≤ out.length + 40 * P19.weight rs + 16
  | [], b, out, st, last, hr, hl => by
    have h1 := P19.close_len last 0 0 st
    unfold P19.allR
    rw [List.length_append]
    omega
  | r :: rs, b, out, st, last, hr, hl => by
    have hla := P19.line_at (r.2.2.length + 1) (r.1 : Int) (r.2.1 : Int) r.2.2
    have htl := P19.toks_len r.1 r.2.1 r.2.2
    have hw : P19.weight (r :: rs) = r.2.2.length + 1 + P19.weight rs := by unfold P19.weight; rw [List.map_cons, List.sum_cons]
    unfold P19.allR
    split
    · simp
    · split
      · simp
      · split
        · simp
        · rename_i h3
          have h4 := P19.adds_row (n := (r.1 : Int)) (P19.rowT r).1 true 0 out st hr hl (fun t ht => by have := (hla.1 t ht).2.1; omega) (fun h => by cases h) (fun t ht => by have := hla.2.2 t ht; omega) (by simpa using h3)
          have h5 := allR_lenD rs false (P19.adds r.1 true 0 (P19.rowT r).1 out st).2.1 (P19.adds r.1 true 0 (P19.rowT r).1 out st).2.2 r.1 h4.1 h4.2.1
          have h6 := h4.2.2
          rw [if_pos rfl] at h6
          have h7 : (P19.rowT r).1.length ≤ r.2.2.length + 1 := htl
          omega
theorem all_lenD (s : List UInt8) : (P19.all s).1.length ≤ 80 * s.length + 16 := by
  unfold P19.all
  split
  · simp
  · have h1 := allR_lenD (rows17 s) true [] [0] 0 P19.row_zero (by decide)
    have h2 := P19.weight_le s
    simp only [List.length_nil] at h1
    omega
end Go.Proofs.YtbnheebblicgkaaDoor
namespace Go.Proofs.YtbnheebblicgkaaDoor
set_option linter.unusedVariables false
set_option linter.unusedSimpArgs false
open Go.RowKit
set_option maxRecDepth 100000 in
set_option maxHeartbeats 1600000 in
theorem refAll_long (s : ByteArray) (w : World) (hs : 1048576 < (s.size : Int)) :
    Calls Tryd.prog 12 #[.string s] w fun e w' => e = .returned (.tuple #[.slice none 0 0, .agg #[.int .i64 2, .int .i64 0]]) ∧ Below w.heap.size w w' := by
  go_enter Tryd.func12, Tryd.ntmps12
  go_wp2
  exact bodyPost_ret (results_tmp_cell rfl _ _ _ _ _ rfl (run_loadVar_row _ _ _ _ _ _ _ (World.alloc_heap_new w _) Tryd.underlying26 rfl (by kernel_rfl))) rfl ⟨rfl, (Below.refl _ w).alloc (Nat.le_refl _) _⟩
theorem step_appRow {w : World} {B : Nat} {v : Value} {rs : List (Nat × Nat × List UInt8)} {r : Nat × Nat × List UInt8} {ops : Array Oper} {o : Oper} {a : Act} {K : Act → World → Prop} {Q : Exit → Act → World → Prop} {E : Prop} (hgd : o.guard = none) (s x : Operand)
    (ho : o.op = .call { callee := .builtin .append, args := #[s, x], argTypes := #[23, 23] })
    (hs : a.eval s = v) (hown : OwnL w B 39 v rs) (g cap : Nat) (hx : a.eval x = .slice (some ⟨g, 0, none⟩) 1 cap) (hnew : ∀ j u, (rowCells r)[j]? = some u → w.cell? ((⟨g, 0, none⟩ : Addr).add j) = some u)
    (hlen : rs.length + 1 ≤ 10000000) (hB : B ≤ w.heap.size)
    (h : ∀ g' cap' w', OwnL w' B 39 (.slice (some ⟨g', 0, none⟩) (rs.length + 1) cap') (rs ++ [r]) → w.grownBy w' v.ownBlock → K (a.put o.dst (.slice (some ⟨g', 0, none⟩) (rs.length + 1) cap')) w') :
    if Region.wanted o (yielded ops a.tmps) = true then Oper.wp Tryd.prog o a w K Q else E := by
  obtain ⟨i, hi, hz, hsz, hby⟩ := info_parts lineInfo
  refine step_append_lies (P := Tryd.prog) w hgd s x 23 ho B 39 i (.agg #[.int .i64 0, .int .i64 0, .string ⟨#[]⟩]) 3 32 Tryd.underlying23 hi hz hsz hby rfl (by decide) v rs.length (rowsCells rs) hs hown
    ⟨g, 0, none⟩ 1 cap (rowCells r) hx rfl hnew (by intro u hu; simp [rowCells] at hu; rcases hu with rfl | rfl | rfl <;> rfl) (by decide) (by unfold maxLen; omega) (by omega) hB _ rfl ?_
  intro g' cap' w' h2 h3 hat _
  refine h g' cap' w' ?_ h3
  unfold OwnL
  rw [List.length_append, rowsCells_snoc]
  exact h2
theorem rows_text (s : List UInt8) : ∀ r ∈ rows17 s, r.2.2 ≠ [] := by
  intro r hr
  obtain ⟨l, hl, i, hi⟩ := rowsFrom_mem 0 _ r hr
  exact (rowOf_moved hi 0 0).2.1
set_option maxRecDepth 100000 in
set_option maxHeartbeats 4000000 in
theorem TokDoubles_any (s : ByteArray) (w : World) :
    Calls Tryd.prog 9 #[.string s] w fun e w' => e = .returned (.bool true) ∧ Below w.heap.size w w' := by
  have hmx : Tryd.prog.follows .mixedOrders = true := by kernel_rfl
  go_enter Tryd.func9, Tryd.ntmps9
  go_upto_region 3 with (go_at_call 19; refine (tokLive_any _).mono ?_; rintro e W1 ⟨rfl, hb0⟩)
  by_cases c0 : 1048576 < (s.size : Int)
  · go_wp2_with (go_at_call 12; refine (refAll_long s _ c0).mono ?_; rintro e W2 ⟨rfl, hb2⟩; have hb02 : Below w.heap.size w W2 := hb0.trans (hb2.mono hb0.size))
    go_ret
    exact ⟨rfl, hb02.alloc hb02.size _⟩
  have hA := fun W => refAll_any s W (by omega)
  obtain ⟨⟨r1, r2⟩, hR⟩ : ∃ R, check17 s.data.toList = R := ⟨_, rfl⟩
  obtain ⟨RS, hrs⟩ : ∃ RS, (if (check17 s.data.toList).1 = 0 then rows17 s.data.toList else []) = RS := ⟨_, rfl⟩
  simp only [hrs] at hA
  simp only [hR] at hA hrs
  unfold faultV at hA
  have HA := hide hA
  clear hA
  by_cases c1 : 1000 < (s.size : Int)
  · clear hR hrs
    go_wp2_with (go_at_call 12; refine (unhide HA _).mono ?_; rintro e W2 ⟨v2, rfl, ho2, hb2⟩; have hb02 : Below w.heap.size w W2 := hb0.trans (hb2.mono hb0.size))
    go_ret
    exact ⟨rfl, hb02.alloc hb02.size _⟩
  have c1' : (s.size : Int) ≤ 1000 := by omega
  by_cases hr1 : r1 = 0
  rotate_left
  · have hrne : (r1 != 0) = true := by simpa using hr1
    clear hR hrs hr1
    go_upto_region 4 with (go_at_call 12; refine (unhide HA _).mono ?_; rintro e W2 ⟨v2, rfl, ho2, hb2⟩; have hb02 : Below w.heap.size w W2 := hb0.trans (hb2.mono hb0.size))
    have f2 := World.alloc_heap_new W2 (.cells #[.int .i64 r1, .int .i64 r2] 26)
    have x0 := (two_cell0 f2).1
    go_wp2
    go_ret
    exact ⟨rfl, hb02.alloc hb02.size _⟩
  subst hr1
  have h00 : (check17 s.data.toList).1 = 0 := by rw [hR]
  rw [if_pos rfl] at hrs
  have hlen : s.data.toList.length ≤ 1000 := by rw [← Lib.size_eq]; omega
  have htx := rows_text s.data.toList
  have hdb := fun h => P19.all_dbl (s := s.data.toList) h00 hlen h
  have hsh := double_short hlen
  have hln := all_lenD s.data.toList
  rw [← Lib.size_eq] at hln
  rw [hrs] at htx hdb hsh
  obtain ⟨n, hn⟩ : ∃ n, RS.length = n := ⟨_, rfl⟩
  have hnl : n ≤ 100000 := by
    have h1 := joinT_len ((RS.map dbR).map castR)
    rw [List.length_map, List.length_map] at h1
    omega
  have HTX := hide htx
  have HDB := hide hdb
  have HSH := hide hsh
  clear hR hrs h00 hlen htx hdb hsh c1 c0
  go_upto_region 4 with (go_at_call 12; refine (unhide HA _).mono ?_; rintro e W2 ⟨v2, rfl, ho2, hb2⟩)
  have b2 : Below w.heap.size w W2 := hb0.trans (hb2.mono hb0.size)
  have f2 := World.alloc_heap_new W2 (.cells #[.int .i64 0, .int .i64 r2] 26)
  have r2' := (rdl_of_own ho2).below ((Below.refl _ W2).alloc (Nat.le_refl _) (.cells #[.int .i64 0, .int .i64 r2] 26)) (show W2.heap.size ≤ W2.heap.size + 1 by omega)
  have k2 : Below w.heap.size w (W2.alloc (.cells #[.int .i64 0, .int .i64 r2] 26)) := below_alloc' b2 b2.size _
  have z2 : (W2.alloc (.cells #[.int .i64 0, .int .i64 r2] 26)).heap.size = W2.heap.size + 1 := World.size_alloc _ _
  have x0 := (two_cell0 f2).1
  generalize W2.alloc (.cells #[.int .i64 0, .int .i64 r2] 26) = X2 at f2 r2' k2 z2 x0 ⊢
  obtain ⟨n2, hn2⟩ : ∃ n, W2.heap.size + 1 = n := ⟨_, rfl⟩
  rw [hn2] at r2' z2
  obtain ⟨ao, cap, rfl, hcell⟩ := id r2'
  rw [List.length_map, hn] at r2' ⊢
  have HRD := hide r2'
  have HN := hide hn
  have hwn : w.heap.size ≤ n2 := by rw [← z2]; exact k2.size
  clear hcell r2' ho2 hb2 b2 hn
  generalize W2.heap.size = m2 at f2 x0 hn2 ⊢
  clear f2 hn2
  go_wp2
  go_loopg [5, 6] n (fun g s5 s6 wx => ∃ (i : Nat) (v : Value), i + g = n ∧ s6 = .int .i64 (i : Int) ∧ s5 = v ∧ Hid (OwnL wx n2 39 v ((RS.take i).map dbR)) ∧ Hid (∀ j r, j < i → RS[j]? = some r → r.2.1 ≤ 50 ∧ r.2.2.head? ≠ some 45) ∧ Below n2 X2 wx)
  case atStart => exact ⟨0, _, by omega, by go_num, rfl, hide (by unfold OwnL; exact World.ownsRow_nil _ _ _ _), hide (fun j r hj => absurd hj (Nat.not_lt_zero _)), Below.refl _ _⟩
  case round =>
    obtain ⟨i, v, hig, rfl, rfl, HO, HQ, hbx⟩ := hrel
    cases gk with
    | zero =>
      have e1 : (n : Int) = (i : Int) := by omega
      have hta : RS.take i = RS := List.take_of_length_le (by rw [unhide HN]; omega)
      have hqa : ∀ r ∈ RS, r.2.1 ≤ 50 ∧ r.2.2.head? ≠ some 45 := fun r hr => by
        obtain ⟨j, hj, rfl⟩ := List.mem_iff_getElem.1 hr
        exact unhide HQ j _ (by have := unhide HN; omega) (List.getElem?_eq_getElem hj)
      obtain ⟨hE, hK⟩ := unhide HDB hqa
      have ho := unhide HO
      rw [hta] at ho
      have hrl := rdl_of_own ho
      have hw0 : Below w.heap.size w wr := k2.trans (hbx.mono hwn)
      have hall := fun W => tokAll_any s W (by omega)
      obtain ⟨⟨ts, E, F⟩, hT⟩ : ∃ x, P19.all s.data.toList = x := ⟨_, rfl⟩
      obtain ⟨⟨ts2, E2, F2⟩, hT2⟩ : ∃ x, P19.all (joinT ((RS.map dbR).map castR)) = x := ⟨_, rfl⟩
      simp only [hT, hT2] at hE hK hall
      rw [hT] at hln
      simp only at hln
      subst hE
      have hjo := fun W (hb : Below wr.heap.size wr W) => Join_any u5 ((RS.map dbR).map castR) W (hrl.below hb hb.size) (by have := unhide HSH; omega)
      have hal2 : ∀ (b : ByteArray) (W : World), b.data.toList = joinT ((RS.map dbR).map castR) → Calls Tryd.prog 20 #[.string b] W fun e w' => ∃ v, e = .returned (.tuple #[v, .agg #[.int .i64 E2, .int .i64 F2]]) ∧ OwnT w' W.heap.size v ts2 ∧ Below W.heap.size W w' := fun b W hb => by
        have h := tokAll_any b W (by rw [Lib.size_eq, hb]; exact unhide HSH)
        rw [hb, hT2] at h
        exact h
      unfold faultV at hall
      have HALL := hide hall
      have HJO := hide hjo
      have HAL2 := hide hal2
      have HK := hide hK
      clear hall hjo hal2 hK hT hT2 hrl ho hqa hta HDB HQ HO HRD HTX
      go_upto_region 14 with (go_at_call 20; refine (unhide HALL _).mono ?_; rintro e W3 ⟨v3, rfl, ho3, hb3⟩)
      have f3 := World.alloc_heap_new W3 (.cells #[.int .i64 E2, .int .i64 F] 26)
      have r3 := (rdt_of_own ho3).below ((Below.refl _ W3).alloc (Nat.le_refl _) (.cells #[.int .i64 E2, .int .i64 F] 26)) (show W3.heap.size ≤ W3.heap.size + 1 by omega)
      have k3 : Below wr.heap.size wr (W3.alloc (.cells #[.int .i64 E2, .int .i64 F] 26)) := below_alloc' hb3 hb3.size _
      have z3 : (W3.alloc (.cells #[.int .i64 E2, .int .i64 F] 26)).heap.size = W3.heap.size + 1 := World.size_alloc _ _
      generalize W3.alloc (.cells #[.int .i64 E2, .int .i64 F] 26) = X3 at f3 r3 k3 z3 ⊢
      generalize W3.heap.size = m3 at f3 r3 z3 ⊢
      obtain ⟨ta, tm, tcap, rfl⟩ := own_slice ho3
      have HR3 := hide r3
      clear ho3 hb3 r3
      go_upto_region 15 with (first
        | (go_at_call 18; refine (unhide HJO _ k3).mono ?_; rintro e W4 ⟨b4, rfl, HB4, hb4⟩)
        | (go_at_call 20; refine (unhide HAL2 b4 _ (unhide HB4)).mono ?_; rintro e W5 ⟨v5, rfl, ho5, hb5⟩))
      have k4 : Below X3.heap.size X3 W5 := hb4.trans (hb5.mono hb4.size)
      have f5 := World.alloc_heap_new W5 (.cells #[.int .i64 E2, .int .i64 F2] 26)
      have r5 := (rdt_of_own ho5).below ((Below.refl _ W5).alloc (Nat.le_refl _) (.cells #[.int .i64 E2, .int .i64 F2] 26)) (show W5.heap.size ≤ W5.heap.size + 1 by omega)
      have k5 : Below X3.heap.size X3 (W5.alloc (.cells #[.int .i64 E2, .int .i64 F2] 26)) := below_alloc' k4 k4.size _
      generalize W5.alloc (.cells #[.int .i64 E2, .int .i64 F2] 26) = X5 at f5 r5 k5 ⊢
      generalize W5.heap.size = m5 at f5 r5 ⊢
      obtain ⟨tb, tm2, tcap2, rfl⟩ := own_slice ho5
      have r3 := (unhide HR3).below (k5.mono (by omega)) (show m3 + 1 ≤ m3 + 1 from Nat.le_refl _)
      have f3' : X5.heap[m3]? = some (.cells #[.int .i64 E2, .int .i64 F] 26) := (k5.block m3 (by omega)).trans f3
      have x3 := (two_cell0 f3').1
      have x5 := (two_cell0 f5).1
      have hbF : Below w.heap.size w X5 := (hw0.trans (k3.mono hw0.size)).trans (k5.mono (by have := k3.size; have := hw0.size; omega))
      clear ho5 hb4 hb5 k4 f5 f3 f3' HB4 HJO HAL2 HALL HR3 HSH HA k2 hbx x0 hw0
      obtain ⟨ao3, cp3, hv3, hc3⟩ := r3
      obtain ⟨ao5, cp5, hv5, hc5⟩ := r5
      injection hv3 with hv3a hv3b hv3c
      injection hv5 with hv5a hv5b hv5c
      subst hv3a hv3b hv3c hv5a hv5b hv5c
      have hlen2 : ts2.length = ts.length := by have := congrArg List.length (unhide HK); simpa using this
      rw [List.length_map, List.length_map, hlen2]
      obtain ⟨L, hL⟩ : ∃ L, ts.length = L := ⟨_, rfl⟩
      have hLl : L ≤ 100000 := by omega
      rw [hL] at hlen2 ⊢
      have HL := hide hL
      have HC3 := hide hc3
      have HC5 := hide hc5
      have HL2 := hide hlen2
      clear hc3 hc5 hL hlen2
      go_wp2
      go_loopg [11] L (fun g s11 wx => ∃ (j q : Nat), j + g = L ∧ s11 = .int .i64 j ∧ X5.drewN q = wx)
      case atStart => exact ⟨0, 0, by omega, by go_num, rfl⟩
      case round =>
        obtain ⟨j, q, hjg, rfl, rfl⟩ := hrel
        cases gk with
        | zero =>
          have e2 : (L : Int) = (j : Int) := by omega
          go_wp2
          go_ret
          exact ⟨rfl, below_any hbF q⟩
        | succ f =>
          have hjlt : (j : Int) < (L : Int) := by omega
          have hjw : IntKind.i64.wrap ((j : Int) + 1) = (j : Int) + 1 := IntWalk.i64_in _ (by omega)
          have hj1 : j < ts.length := by rw [unhide HL]; omega
          have hj2 : j < ts2.length := by rw [unhide HL2]; omega
          have ht1 : ts[j]? = some ts[j] := List.getElem?_eq_getElem hj1
          have ht2 : ts2[j]? = some ts2[j] := List.getElem?_eq_getElem hj2
          have hkt : P19.kt ts2[j] = P19.kt ts[j] := by
            have h1 : (ts2.map P19.kt)[j]? = (ts.map P19.kt)[j]? := by rw [unhide HK]
            rw [List.getElem?_map, List.getElem?_map, ht1, ht2] at h1
            exact Option.some.inj h1
          obtain ⟨⟨k, tx, tn, tc⟩, ht⟩ : ∃ t, ts[j] = t := ⟨_, rfl⟩
          obtain ⟨⟨k', tx', tn', tc'⟩, ht'⟩ : ∃ t, ts2[j] = t := ⟨_, rfl⟩
          rw [ht] at ht1 hkt
          rw [ht'] at ht2 hkt
          unfold P19.kt at hkt
          simp only [Prod.mk.injEq] at hkt
          obtain ⟨rfl, rfl⟩ := hkt
          obtain ⟨g1, o1, rfl, hg1, a0, a1, _, _⟩ := unhide HC3 j _ (by rw [List.getElem?_map, ht1]; rfl)
          obtain ⟨g2, o2, rfl, hg2, b0, b1, _, _⟩ := unhide HC5 j _ (by rw [List.getElem?_map, ht2]; rfl)
          unfold castT at a0 a1 b0 b1
          simp only at a0 a1 b0 b1
          clear ht ht' ht1 ht2
          go_wp2
          go_region
          go_wp2
          go_roundg f
          case measure => omega
          case rel => exact ⟨j + 1, q + 1, by omega, by go_num, rfl⟩
    | succ g' =>
      have hlt : (i : Int) < (n : Int) := by omega
      have hki : IntKind.i64.wrap ((i : Int) + 1) = (i : Int) + 1 := IntWalk.i64_in _ (by omega)
      have hil : i < RS.length := by rw [unhide HN]; omega
      have hgl : RS[i]? = some RS[i] := List.getElem?_eq_getElem hil
      have htx := unhide HTX RS[i] (List.getElem_mem hil)
      have htk : RS.take (i + 1) = RS.take i ++ [RS[i]] := List.take_succ_eq_append_getElem hil
      obtain ⟨⟨q1, q2, q3⟩, hq⟩ : ∃ r, RS[i] = r := ⟨_, rfl⟩
      rw [hq] at hgl htx htk
      have hga : (RS.map castR)[i]? = some ((q1 : Int), (q2 : Int), (⟨q3.toArray⟩ : ByteArray)) := by rw [List.getElem?_map, hgl]; rfl
      obtain ⟨ao2, cap2, hv2, hca⟩ := (unhide HRD).below hbx (Nat.le_refl n2)
      injection hv2 with hv2a hv2b hv2c
      clear hv2b
      subst hv2a
      subst hv2c
      obtain ⟨ga, oa, rfl, hga2, hc0, hc1, hc2⟩ := hca i _ hga
      obtain ⟨tb, htb⟩ : ∃ tb : ByteArray, (⟨q3.toArray⟩ : ByteArray) = tb := ⟨_, rfl⟩
      have htb2 : tb.data.toList = q3 := by rw [← htb]
      have hts : 0 < tb.size := by rw [Lib.size_eq, htb2]; exact List.length_pos_iff.2 htx
      have htsi : (0 : Int) < (tb.size : Int) := by omega
      have hhd : q3.head? = some tb[0] := by
        rw [← htb2, List.head?_eq_getElem?]; exact Lib.data_getElem? tb 0 hts
      rw [htb] at hc2
      have HTK := hide htk
      have HGL := hide hgl
      have HHD := hide hhd
      have HTB := hide htb2
      simp only at hc0 hc1 hc2
      clear htx htk hgl hq hga hca htb htb2 hhd
      by_cases d1 : 50 < (q2 : Int)
      · go_wp2
        go_ret
        exact ⟨rfl, k2.trans (hbx.mono hwn)⟩
      have d1' : (q2 : Int) ≤ 50 := by omega
      clear d1
      by_cases d2 : tb[0] = 45
      · have j2 : ((tb[0].toNat : Int) == 45) = true := by rw [d2]; rfl
        clear d2
        go_wp2
        go_ret
        exact ⟨rfl, k2.trans (hbx.mono hwn)⟩
      have j2 : ((tb[0].toNat : Int) == 45) = false := by
        simp only [beq_eq_false_iff_ne, ne_eq]
        intro h
        exact d2 (UInt8.toNat_inj.1 (by simpa using (show tb[0].toNat = 45 by omega)))
      have HQ2 := hide (show ∀ j r, j < i + 1 → RS[j]? = some r → r.2.1 ≤ 50 ∧ r.2.2.head? ≠ some 45 from fun j r hj hr => by
        rcases Nat.lt_or_ge j i with h | h
        · exact unhide HQ j r h hr
        · obtain rfl : j = i := by omega
          rw [unhide HGL] at hr
          cases hr
          refine ⟨by show q2 ≤ 50; omega, ?_⟩
          show q3.head? ≠ some 45
          rw [unhide HHD]
          exact fun h => d2 (Option.some.inj h))
      clear d2 HQ
      have hw2 : IntKind.i64.wrap (2 * (q2 : Int)) = 2 * (q2 : Int) := IntWalk.i64_in _ (by omega)
      have hgs : n2 ≤ wr.heap.size := by have := hbx.size; omega
      have HNX := hide (cells3_new wr (.int .i64 q1) (.int .i64 (2 * (q2 : Int))) (.string tb) 39)
      have HOX := hide (World.ownsRow.alloc (show wr.ownsRow n2 39 3 u5 _ _ from unhide HO) (.cells #[.int .i64 q1, .int .i64 (2 * (q2 : Int)), .string tb] 39))
      have hbe : Below n2 X2 (wr.alloc (.cells #[.int .i64 q1, .int .i64 (2 * (q2 : Int)), .string tb] 39)).drew := below_any (below_alloc' hbx hgs _) 1
      have hBs : n2 ≤ (wr.alloc (.cells #[.int .i64 q1, .int .i64 (2 * (q2 : Int)), .string tb] 39)).drew.heap.size := by
        show n2 ≤ (wr.alloc (.cells #[.int .i64 q1, .int .i64 (2 * (q2 : Int)), .string tb] 39)).heap.size
        rw [World.size_alloc]; omega
      have hrl : ((RS.take i).map dbR).length + 1 ≤ 10000000 := by rw [List.length_map, List.length_take]; omega
      have hrc : rowCells (dbR (q1, q2, q3)) = [.int .i64 q1, .int .i64 (2 * (q2 : Int)), .string tb] := by
        show [Value.int .i64 (q1 : Int), Value.int .i64 ((2 * q2 : Nat) : Int), bsOf q3] = _
        rw [show bsOf q3 = .string tb from by unfold bsOf; rw [← unhide HTB], show ((2 * q2 : Nat) : Int) = 2 * (q2 : Int) from by omega]
      have HRC := hide hrc
      clear hrc
      go_wp2
      go_region_law (refine step_appRow (r := dbR (q1, q2, q3)) (by rfl) _ _ (by rfl) (by rfl) (show OwnL _ n2 39 u5 ((RS.take i).map dbR) from unhide HOX) wr.heap.size 1 (by rfl) (by rw [unhide HRC]; exact unhide HNX) hrl hBs ?_; intro g2 cap2 w2 hown2 hgrow2)
      all_goals (
        have hB3 := hbe.grown hgrow2 hBs (fun k e => (World.ownsRow.lt (show wr.ownsRow n2 39 3 u5 _ _ from unhide HO) k e).1)
        have HO3 : Hid (OwnL w2 n2 39 (.slice (some ⟨g2, 0, none⟩) (((RS.take i).map dbR).length + 1) cap2) ((RS.take (i + 1)).map dbR)) := hide (by rw [unhide HTK, List.map_append]; exact hown2)
        clear hown2 hgrow2 hbe HOX HNX hc0 hc1 hc2
        go_wp2
        go_roundg g'
        case measure => omega
        case rel => exact ⟨i + 1, _, by omega, by go_num, rfl, (by have h := unhide HO3; simp only [List.length_map, List.length_take] at h; exact h), HQ2, hB3⟩)
end Go.Proofs.YtbnheebblicgkaaDoor
