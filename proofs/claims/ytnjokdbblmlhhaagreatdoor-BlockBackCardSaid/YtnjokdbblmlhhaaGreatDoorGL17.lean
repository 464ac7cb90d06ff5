/- Plain laws of layer 17: texts that are runes alone, cut at a byte below 128; lines, joined and read again.; Plain laws of layer 17: what is read, and put together, is read alike. -/
import Derived.Test.YtnjokdbblmlhhaaGreatDoorGV17
import Derived.Test.YtnjokdbblmlhhaaGreatDoorGR17
namespace Go.Proofs.YtnjokdbblmlhhaaGreatDoor
set_option linter.unusedVariables false
set_option linter.unusedSimpArgs false
open Go.RowKit
/-- is a text made of runes alone? -/
def Vd (l : List UInt8) : Prop := P03.first l < 0
theorem firstBad_fuel : ∀ (f p f' p' : Nat) (l : List UInt8), l.length < f → l.length < f' → (P03.firstBad f p l < 0 ↔ P03.firstBad f' p' l < 0)
  | 0, p, f', p', l, h, _ => absurd h (Nat.not_lt_zero _)
  | f + 1, p, 0, p', l, _, h => absurd h (Nat.not_lt_zero _)
  | f + 1, p, f' + 1, p', l, h, h' => by
    unfold P03.firstBad
    by_cases h0 : l.length = 0
    · rw [if_pos h0, if_pos h0]
    · rw [if_neg h0, if_neg h0]
      by_cases h1 : ((P03.one l).1 == 0) = true
      · rw [if_pos h1, if_pos h1]; omega
      · rw [if_neg h1, if_neg h1]
        have hb := P03.one_bd l (by omega)
        have h2 : (P03.one l).1 ≠ 0 := by simpa using h1
        exact firstBad_fuel f _ f' _ _ (by rw [List.length_drop]; omega) (by rw [List.length_drop]; omega)
theorem vd_nil : Vd [] := by show P03.firstBad 1 0 [] < 0; simp [P03.firstBad]
theorem vd_step (l : List UInt8) (h : l ≠ []) : Vd l ↔ ((P03.one l).1 ≠ 0 ∧ Vd (l.drop (P03.one l).1.toNat)) := by
  have hl : l.length ≠ 0 := fun e => h (List.eq_nil_of_length_eq_zero e)
  unfold Vd P03.first
  rw [P03.firstBad, if_neg hl]
  have hb := P03.one_bd l (by omega)
  by_cases h1 : ((P03.one l).1 == 0) = true
  · rw [if_pos h1]
    have h2 : (P03.one l).1 = 0 := by simpa using h1
    constructor
    · intro h; omega
    · intro h; exact absurd h2 h.1
  · rw [if_neg h1]
    have h2 : (P03.one l).1 ≠ 0 := by simpa using h1
    rw [firstBad_fuel _ (0 + (P03.one l).1.toNat) ((l.drop (P03.one l).1.toNat).length + 1) 0 _ (by rw [List.length_drop]; omega) (by omega)]
    exact ⟨fun h => ⟨h2, h⟩, fun h => h.2⟩
theorem one_cut (a b : List UInt8) (c : UInt8) (ha : a ≠ []) (hc : c.toNat < 128) : (P03.one (a ++ c :: b)).1 = (P03.one a).1 := by
  rw [P03.one_N, P03.one_N]
  have hc2 := hc
  match a, ha with
  | [x], _ =>
    simp only [List.cons_append, List.nil_append, List.length_cons, List.length_nil, List.getD_cons_zero, List.getD_cons_succ, List.getD_nil]
    unfold P03.oneN
    repeat' split
    all_goals first | rfl | (exfalso; omega)
  | [x, y], _ =>
    simp only [List.cons_append, List.nil_append, List.length_cons, List.length_nil, List.getD_cons_zero, List.getD_cons_succ, List.getD_nil]
    unfold P03.oneN
    repeat' split
    all_goals first | rfl | (exfalso; omega)
  | [x, y, z], _ =>
    simp only [List.cons_append, List.nil_append, List.length_cons, List.length_nil, List.getD_cons_zero, List.getD_cons_succ, List.getD_nil]
    unfold P03.oneN
    repeat' split
    all_goals first | rfl | (exfalso; omega)
  | x :: y :: z :: u :: r, _ =>
    simp only [List.cons_append, List.nil_append, List.length_cons, List.length_nil, List.getD_cons_zero, List.getD_cons_succ, List.length_append]
    unfold P03.oneN
    repeat' split
    all_goals first | rfl | (exfalso; omega)
theorem one_ascii (b : List UInt8) (c : UInt8) (hc : c.toNat < 128) : (P03.one (c :: b)).1 = 1 := by
  rw [P03.one_1 (l := c :: b) rfl hc]
theorem vd_cons (c : UInt8) (hc : c.toNat < 128) (b : List UInt8) : Vd (c :: b) ↔ Vd b := by
  rw [vd_step _ (by simp), one_ascii b c hc]
  simp
theorem vd_cut (c : UInt8) (hc : c.toNat < 128) (b : List UInt8) : ∀ (n : Nat) (a : List UInt8), a.length ≤ n → (Vd (a ++ c :: b) ↔ Vd a ∧ Vd b)
  | n, [], _ => by rw [List.nil_append, vd_cons c hc]; exact ⟨fun h => ⟨vd_nil, h⟩, fun h => h.2⟩
  | 0, x :: a, h => by simp at h
  | n + 1, x :: a, h => by
    rw [vd_step _ (by simp), vd_step (x :: a) (by simp), one_cut (x :: a) b c (by simp) hc]
    have hb := P03.one_bd (x :: a) (by simp)
    have hd : ((x :: a) ++ c :: b).drop (P03.one (x :: a)).1.toNat = (x :: a).drop (P03.one (x :: a)).1.toNat ++ c :: b := List.drop_append_of_le_length (by omega)
    rw [hd]
    by_cases h1 : (P03.one (x :: a)).1 = 0
    · simp [h1]
    · rw [vd_cut c hc b n _ (by rw [List.length_drop]; omega)]
      exact ⟨fun ⟨h2, h3, h4⟩ => ⟨⟨h2, h3⟩, h4⟩, fun ⟨⟨h2, h3⟩, h4⟩ => ⟨h2, h3, h4⟩⟩
theorem vd_at {a b : List UInt8} {c : UInt8} (hc : c.toNat < 128) : Vd (a ++ c :: b) ↔ Vd a ∧ Vd b := vd_cut c hc b a.length a (Nat.le_refl _)
theorem vd_blanks (k : Nat) (b : List UInt8) : Vd (List.replicate k 32 ++ b) ↔ Vd b := by
  induction k with
  | zero => rw [List.replicate_zero, List.nil_append]
  | succ k ih => rw [List.replicate_succ, List.cons_append, vd_cons 32 (by decide), ih]
theorem dropWhile_blank (l : List UInt8) : ∃ k, l = List.replicate k 32 ++ trimL l := by
  induction l with
  | nil => exact ⟨0, rfl⟩
  | cons c r ih =>
    unfold trimL at ih ⊢
    by_cases hc : c = 32
    · subst hc
      obtain ⟨k, hk⟩ := ih
      refine ⟨k + 1, ?_⟩
      rw [List.dropWhile_cons_of_pos (by rfl), List.replicate_succ, List.cons_append, ← hk]
    · exact ⟨0, by rw [List.dropWhile_cons_of_neg (by simpa using hc)]; rfl⟩
theorem trimR_blanks (l : List UInt8) : ∃ k, l = trimR l ++ List.replicate k 32 := by
  obtain ⟨k, hk⟩ := dropWhile_blank l.reverse
  refine ⟨k, ?_⟩
  have := congrArg List.reverse hk
  rw [List.reverse_reverse, List.reverse_append, List.reverse_replicate] at this
  exact this
theorem vd_trimL {l : List UInt8} (h : Vd l) : Vd (trimL l) := by
  obtain ⟨k, hk⟩ := dropWhile_blank l
  rw [hk, vd_blanks] at h
  exact h
theorem vd_trimR {l : List UInt8} (h : Vd l) : Vd (trimR l) := by
  obtain ⟨k, hk⟩ := trimR_blanks l
  cases k with
  | zero => rw [List.replicate_zero, List.append_nil] at hk; rw [← hk]; exact h
  | succ k =>
    rw [hk, List.replicate_succ, vd_at (by decide)] at h
    exact h.1
/-- a remark begins with its sign -/
theorem remark_sign : ∀ (l : List UInt8) (bl q t : Bool) (k : Nat), k ≤ remarkAt bl q t k l ∧ (remarkAt bl q t k l = k + l.length ∨ ∃ r, l = l.take (remarkAt bl q t k l - k) ++ 35 :: r)
  | [], bl, q, t, k => ⟨Nat.le_refl _, .inl rfl⟩
  | c :: r, bl, q, t, k => by
    have step : ∀ (bl' q' t' : Bool), k ≤ remarkAt bl' q' t' (k + 1) r ∧ (remarkAt bl' q' t' (k + 1) r = k + (c :: r).length ∨ ∃ x, c :: r = (c :: r).take (remarkAt bl' q' t' (k + 1) r - k) ++ 35 :: x) := by
      intro bl' q' t'
      obtain ⟨h1, h2⟩ := remark_sign r bl' q' t' (k + 1)
      refine ⟨by omega, ?_⟩
      rcases h2 with h2 | ⟨x, hx⟩
      · left; rw [h2, List.length_cons]; omega
      · right
        refine ⟨x, ?_⟩
        rw [show remarkAt bl' q' t' (k + 1) r - k = (remarkAt bl' q' t' (k + 1) r - (k + 1)) + 1 from by omega, List.take_succ_cons, List.cons_append, ← hx]
    unfold remarkAt
    split
    · exact step _ _ _
    · split
      · exact step _ _ _
      · split
        · exact step _ _ _
        · split
          · exact step _ _ _
          · rename_i h1 h2 h3 h4
            split
            · refine ⟨Nat.le_refl _, .inr ⟨r, ?_⟩⟩
              have : c = 35 := by
                have : (q || c != 35) = false := by simpa using h4
                simp at this
                exact this.2
              rw [Nat.sub_self, this]; rfl
            · exact step _ _ _
theorem vd_strip {l : List UInt8} (h : Vd l) : Vd (strip17 l) := by
  unfold strip17
  refine vd_trimR ?_
  obtain ⟨_, h2⟩ := remark_sign l true false false 0
  rcases h2 with h2 | ⟨x, hx⟩
  · rw [h2, Nat.zero_add, List.take_length]; exact h
  · rw [Nat.sub_zero] at hx
    rw [hx, vd_at (by decide)] at h
    exact h.1
/-- the remark of a text's beginning that ends ahead of it -/
theorem remark_take : ∀ (l : List UInt8) (bl q t : Bool) (k j : Nat), k + j ≤ remarkAt bl q t k l → remarkAt bl q t k (l.take j) = k + (l.take j).length
  | [], bl, q, t, k, j, h => by rw [List.take_nil]; rfl
  | c :: r, bl, q, t, k, 0, h => rfl
  | c :: r, bl, q, t, k, j + 1, h => by
    rw [List.take_succ_cons, List.length_cons]
    unfold remarkAt at h ⊢
    split
    · rename_i h1; rw [if_pos h1] at h; rw [remark_take r _ _ _ (k + 1) j (by omega)]; omega
    · rename_i h1; rw [if_neg h1] at h
      split
      · rename_i h2; rw [if_pos h2] at h; rw [remark_take r _ _ _ (k + 1) j (by omega)]; omega
      · rename_i h2; rw [if_neg h2] at h
        split
        · rename_i h3; rw [if_pos h3] at h; rw [remark_take r _ _ _ (k + 1) j (by omega)]; omega
        · rename_i h3; rw [if_neg h3] at h
          split
          · rename_i h4; rw [if_pos h4] at h; rw [remark_take r _ _ _ (k + 1) j (by omega)]; omega
          · rename_i h4; rw [if_neg h4] at h
            split
            · rename_i h5; rw [if_pos h5] at h; omega
            · rename_i h5; rw [if_neg h5] at h; rw [remark_take r _ _ _ (k + 1) j (by omega)]; omega
theorem trimR_idem (l : List UInt8) : trimR (trimR l) = trimR l := by
  unfold trimR
  rw [List.reverse_reverse]
  congr 1
  generalize l.reverse = x
  induction x with
  | nil => rfl
  | cons c r ih =>
    by_cases hc : c = 32
    · subst hc; rw [List.dropWhile_cons_of_pos (by rfl)]; exact ih
    · rw [List.dropWhile_cons_of_neg (by simpa using hc), List.dropWhile_cons_of_neg (by simpa using hc)]
theorem trimR_prefix (l : List UInt8) : ∃ j, j ≤ l.length ∧ trimR l = l.take j := by
  obtain ⟨k, hk⟩ := trimR_blanks l
  refine ⟨(trimR l).length, ?_, ?_⟩
  · have := congrArg List.length hk
    rw [List.length_append] at this
    omega
  · have h2 : (trimR l ++ List.replicate k 32).take (trimR l).length = trimR l := List.take_left' rfl
    rw [← hk] at h2
    exact h2.symm
theorem strip_idem (l : List UInt8) : strip17 (strip17 l) = strip17 l := by
  obtain ⟨h1, _⟩ := remark_sign l true false false 0
  have hle : strip17 l = l.take (strip17 l).length ∧ (strip17 l).length ≤ remarkAt true false false 0 l := by
    unfold strip17
    obtain ⟨j, hj, hj2⟩ := trimR_prefix (l.take (remarkAt true false false 0 l))
    rw [hj2, List.take_take, List.length_take]
    rw [List.length_take] at hj
    refine ⟨?_, by omega⟩
    rw [show min j (remarkAt true false false 0 l) = j from by omega]
    rw [show min j l.length = j from by omega]
  have hr := remark_take l true false false 0 (strip17 l).length (by omega)
  rw [← hle.1] at hr
  have h2 : strip17 (strip17 l) = trimR (strip17 l) := by
    show trimR ((strip17 l).take (remarkAt true false false 0 (strip17 l))) = _
    rw [hr, Nat.zero_add, List.take_length]
  rw [h2]
  unfold strip17
  exact trimR_idem _
/-- lines, each with its end -/
theorem lines17_cons (t r : List UInt8) (h : (10 : UInt8) ∉ t) : lines17 (t ++ 10 :: r) = t :: lines17 r := by
  have h3 : feedAt (t ++ 10 :: r) = some t.length := by
    unfold feedAt
    rw [List.findIdx?_append]
    have : t.findIdx? (· == 10) = none := by
      rw [List.findIdx?_eq_none_iff]
      intro x hx
      have : x ≠ 10 := fun e => h (e ▸ hx)
      simpa using this
    rw [this, List.findIdx?_cons]
    simp
  rw [lines17, rawL_some _ _ h3]
  have e1 : (t ++ 10 :: r).take (t.length + 1) = t ++ [10] := by
    rw [List.take_length_add_append]; rfl
  have e2 : (t ++ 10 :: r).drop (t.length + 1) = r := by
    rw [List.drop_length_add_append]; rfl
  rw [e1, e2, List.map_cons, chop_end]
  rfl
theorem lines17_flat (ls : List (List UInt8)) (h : ∀ l ∈ ls, (10 : UInt8) ∉ l) : lines17 (ls.flatMap (fun l => l ++ [10])) = ls := by
  induction ls with
  | nil => rfl
  | cons a r ih =>
    rw [List.flatMap_cons, List.append_assoc, List.singleton_append, lines17_cons a _ (h a (by simp)), ih (fun l hl => h l (by simp [hl]))]
/-- a text is its lines, the last one perhaps without its end -/
theorem text_cases : ∀ (n : Nat) (s : List UInt8), s.length ≤ n → (∀ l ∈ lines17 s, (10 : UInt8) ∉ l) ∧ (Vd s ↔ ∀ l ∈ lines17 s, Vd l)
  | n, [], _ => ⟨by intro l hl; simp [lines17, rawL] at hl, by simp [lines17, rawL, vd_nil]⟩
  | 0, x :: r, h => by simp at h
  | n + 1, x :: r, h => by
    cases hf : feedAt (x :: r) with
    | none =>
      have hno : (10 : UInt8) ∉ (x :: r) := by
        unfold feedAt at hf
        rw [List.findIdx?_eq_none_iff] at hf
        intro hm
        have := hf 10 hm
        simp at this
      have hl : lines17 (x :: r) = [x :: r] := by rw [lines17, rawL_none _ (by simp) hf, List.map_singleton, chop_not _ hno]
      rw [hl]
      constructor
      · intro l hm; rw [List.mem_singleton] at hm; subst hm; exact hno
      · simp
    | some i =>
      unfold feedAt at hf
      rw [List.findIdx?_eq_some_iff_getElem] at hf
      obtain ⟨hi, h1, h2⟩ := hf
      have h10 : (x :: r)[i] = 10 := by simpa using h1
      have hno : (10 : UInt8) ∉ (x :: r).take i := by
        intro hm
        obtain ⟨j, hj, hjv⟩ := List.mem_iff_getElem.1 hm
        rw [List.length_take] at hj
        have := h2 j (by omega)
        rw [List.getElem_take] at hjv
        rw [hjv] at this
        simp at this
      have hs : x :: r = (x :: r).take i ++ 10 :: (x :: r).drop (i + 1) := by
        rw [← h10, ← List.drop_eq_getElem_cons hi, List.take_append_drop]
      obtain ⟨ih1, ih2⟩ := text_cases n ((x :: r).drop (i + 1)) (by rw [List.length_drop]; simp at h ⊢; omega)
      generalize (x :: r).take i = a at *
      generalize (x :: r).drop (i + 1) = b at *
      rw [hs, lines17_cons a b hno]
      constructor
      · intro l hm
        rcases List.mem_cons.1 hm with rfl | hm
        · exact hno
        · exact ih1 l hm
      · rw [vd_at (by decide), ih2]
        simp
theorem vd_lines (s : List UInt8) : Vd s ↔ ∀ l ∈ lines17 s, Vd l := (text_cases s.length s (Nat.le_refl _)).2
theorem lines_no (s : List UInt8) : ∀ l ∈ lines17 s, (10 : UInt8) ∉ l := (text_cases s.length s (Nat.le_refl _)).1
end Go.Proofs.YtnjokdbblmlhhaaGreatDoor
namespace Go.Proofs.YtnjokdbblmlhhaaGreatDoor
set_option linter.unusedVariables false
set_option linter.unusedSimpArgs false
open Go.RowKit
theorem check_parts {s : List UInt8} (h : (check17 s).1 = 0) : s.length ≤ 1048576 ∧ Vd s ∧ ∀ l ∈ lines17 s, l.any oddB = false := by
  unfold check17 at h
  split at h
  · simp at h
  · rename_i h1
    split at h
    · simp at h
    · rename_i h2
      split at h
      · rename_i i hi
        simp at h
      · rename_i hi
        refine ⟨by omega, by unfold Vd; omega, ?_⟩
        unfold oddLine at hi
        rw [List.findIdx?_eq_none_iff] at hi
        intro l hl
        simpa using hi l hl
theorem check_of {s : List UInt8} (h1 : s.length ≤ 1048576) (h2 : Vd s) (h3 : ∀ l ∈ lines17 s, l.any oddB = false) : check17 s = (0, 0) := by
  have h4 : oddLine s = none := by
    unfold oddLine
    rw [List.findIdx?_eq_none_iff]
    intro l hl
    simpa using h3 l hl
  unfold Vd at h2
  rw [check17, if_neg (by omega), if_neg (by omega), h4]
theorem check_utf {s : List UInt8} (h1 : s.length ≤ 1048576) (h2 : ¬ Vd s) : (check17 s).1 = 9 := by
  unfold Vd at h2
  rw [check17, if_neg (by omega), if_pos (by omega)]
theorem check_odd {s : List UInt8} (h1 : s.length ≤ 1048576) (h2 : Vd s) (h3 : ∃ l ∈ lines17 s, l.any oddB = true) : (check17 s).1 = 3 := by
  unfold Vd at h2
  rw [check17, if_neg (by omega), if_neg (by omega)]
  cases h4 : oddLine s with
  | some i => rfl
  | none =>
    unfold oddLine at h4
    rw [List.findIdx?_eq_none_iff] at h4
    obtain ⟨l, hl, ho⟩ := h3
    have := h4 l hl
    rw [ho] at this
    simp at this
/-- a row as a line -/
def lineOf (r : Nat × Nat × List UInt8) : List UInt8 := List.replicate r.2.1 32 ++ r.2.2
theorem rowOf_line {i : Nat} {l : List UInt8} {r : Nat × Nat × List UInt8} (h : rowOf i l = some r) : lineOf r = strip17 l ∧ r.1 = i + 1 ∧ ∀ j, rowOf j (lineOf r) = some (j + 1, r.2.1, r.2.2) := by
  unfold rowOf at h
  split at h
  · cases h
  · rename_i hne
    simp only [Option.some.injEq] at h
    subst h
    obtain ⟨k, hk⟩ := dropWhile_blank (strip17 l)
    have hlen := congrArg List.length hk
    rw [List.length_append, List.length_replicate] at hlen
    have e1 : lineOf (i + 1, (strip17 l).length - (trimL (strip17 l)).length, trimL (strip17 l)) = strip17 l := by
      unfold lineOf
      rw [show (strip17 l).length - (trimL (strip17 l)).length = k from by omega]
      exact hk.symm
    refine ⟨e1, rfl, fun j => ?_⟩
    rw [e1, rowOf, strip_idem, if_neg hne]
/-- rows, numbered anew -/
def renum : Nat → List (Nat × Nat × List UInt8) → List (Nat × Nat × List UInt8)
  | _, [] => []
  | k, r :: rs => (k + 1, r.2.1, r.2.2) :: renum (k + 1) rs
theorem renum_get : ∀ (k : Nat) (rs : List (Nat × Nat × List UInt8)) (i : Nat), (renum k rs)[i]? = (rs[i]?).map (fun r => (k + i + 1, r.2.1, r.2.2))
  | k, [], i => by simp [renum]
  | k, r :: rs, 0 => by simp [renum]
  | k, r :: rs, i + 1 => by
    simp only [renum, List.getElem?_cons_succ]
    rw [renum_get (k + 1) rs i, show k + 1 + i + 1 = k + (i + 1) + 1 from by omega]
theorem renum_len : ∀ (k : Nat) (rs : List (Nat × Nat × List UInt8)), (renum k rs).length = rs.length
  | k, [] => rfl
  | k, r :: rs => by simp [renum, renum_len (k + 1) rs]
theorem rowsFrom_mem : ∀ (k : Nat) (ls : List (List UInt8)) (r : Nat × Nat × List UInt8), r ∈ rowsFrom k ls → ∃ l ∈ ls, ∃ i, rowOf i l = some r
  | k, [], r, h => by simp [rowsFrom] at h
  | k, l :: ls, r, h => by
    unfold rowsFrom at h
    split at h
    · obtain ⟨l', h1, h2⟩ := rowsFrom_mem (k + 1) ls r h
      exact ⟨l', List.mem_cons_of_mem _ h1, h2⟩
    · rename_i x hx
      rcases List.mem_cons.1 h with rfl | h
      · exact ⟨l, List.mem_cons_self, k, hx⟩
      · obtain ⟨l', h1, h2⟩ := rowsFrom_mem (k + 1) ls r h
        exact ⟨l', List.mem_cons_of_mem _ h1, h2⟩
theorem rowsFrom_lines : ∀ (k : Nat) (rs : List (Nat × Nat × List UInt8)), (∀ r ∈ rs, ∃ i l, rowOf i l = some r) → rowsFrom k (rs.map lineOf) = renum k rs
  | k, [], _ => rfl
  | k, r :: rs, h => by
    obtain ⟨i, l, hr⟩ := h r List.mem_cons_self
    have h2 := (rowOf_line hr).2.2 k
    have ih := rowsFrom_lines (k + 1) rs (fun x hx => h x (List.mem_cons_of_mem _ hx))
    rw [List.map_cons, rowsFrom, h2]
    show _ :: rowsFrom (k + 1) (rs.map lineOf) = _
    rw [ih]
    rfl
theorem strip_mem {l : List UInt8} {c : UInt8} (h : c ∈ strip17 l) : c ∈ l := by
  unfold strip17 at h
  obtain ⟨j, _, hj⟩ := trimR_prefix (l.take (remarkAt true false false 0 l))
  rw [hj] at h
  exact List.mem_of_mem_take (List.mem_of_mem_take h)
theorem joinT_lines : ∀ (rs : List (Nat × Nat × List UInt8)), (∀ r ∈ rs, r.2.1 ≤ 100) → joinT (rs.map castR) = (rs.map lineOf).flatMap (fun l => l ++ [10])
  | [], _ => rfl
  | r :: rs, h => by
    have ih := joinT_lines rs (fun x hx => h x (List.mem_cons_of_mem _ hx))
    have h1 := h r List.mem_cons_self
    unfold joinT at ih ⊢
    rw [List.map_cons, List.flatMap_cons, List.map_cons, List.flatMap_cons, ih]
    congr 1
    show List.replicate (min (max (r.2.1 : Int) 0) 100).toNat 32 ++ r.2.2 ++ [10] = lineOf r ++ [10]
    rw [show (min (max (r.2.1 : Int) 0) 100).toNat = r.2.1 from by omega]
    rfl
theorem join_back {s : List UInt8} (h0 : (check17 s).1 = 0) (hc : ∀ r ∈ rows17 s, r.2.1 ≤ 100) (hl : (joinT ((rows17 s).map castR)).length ≤ 1048576) :
    check17 (joinT ((rows17 s).map castR)) = (0, 0) ∧ rows17 (joinT ((rows17 s).map castR)) = renum 0 (rows17 s) := by
  obtain ⟨_, hv, ho⟩ := check_parts h0
  have hm : ∀ r ∈ rows17 s, ∃ l ∈ lines17 s, ∃ i, rowOf i l = some r := fun r hr => rowsFrom_mem 0 _ r hr
  have hlo : ∀ x ∈ (rows17 s).map lineOf, ∃ l ∈ lines17 s, x = strip17 l := by
    intro x hx
    obtain ⟨r, hr, rfl⟩ := List.mem_map.1 hx
    obtain ⟨l, hl, i, hi⟩ := hm r hr
    exact ⟨l, hl, (rowOf_line hi).1⟩
  have hno : ∀ x ∈ (rows17 s).map lineOf, (10 : UInt8) ∉ x := by
    intro x hx h10
    obtain ⟨l, hl, rfl⟩ := hlo x hx
    exact lines_no s l hl (strip_mem h10)
  have hj := joinT_lines (rows17 s) hc
  have hL : lines17 (joinT ((rows17 s).map castR)) = (rows17 s).map lineOf := by rw [hj, lines17_flat _ hno]
  refine ⟨check_of hl ?_ ?_, ?_⟩
  · rw [vd_lines, hL]
    intro x hx
    obtain ⟨l, hl, rfl⟩ := hlo x hx
    exact vd_strip ((vd_lines s).1 hv l hl)
  · rw [hL]
    intro x hx
    obtain ⟨l, hl, rfl⟩ := hlo x hx
    have h1 := ho l hl
    rw [List.any_eq_false] at h1 ⊢
    exact fun c hc => h1 c (strip_mem hc)
  · rw [rows17, hL]
    exact rowsFrom_lines 0 _ (fun r hr => by obtain ⟨l, _, i, hi⟩ := hm r hr; exact ⟨i, l, hi⟩)
theorem joinT_rows_le (rs : List (Nat × Nat × List UInt8)) : ∀ (k : Nat) (ls : List (List UInt8)), rs = rowsFrom k ls → (joinT (rs.map castR)).length ≤ (ls.map (fun l => l.length + 1)).sum := by
  have one : ∀ (i : Nat) (l : List UInt8) (r : Nat × Nat × List UInt8), rowOf i l = some r → (joinRow (castR r)).length ≤ l.length + 1 := by
    intro i l r h
    have h1 := (rowOf_line h).1
    have h2 := congrArg List.length h1
    have h3 := strip_len l
    unfold lineOf at h2
    rw [List.length_append, List.length_replicate] at h2
    have h4 : (joinRow (castR r)).length = (min (max (r.2.1 : Int) 0) 100).toNat + r.2.2.length + 1 := by
      show (List.replicate (min (max (r.2.1 : Int) 0) 100).toNat 32 ++ r.2.2 ++ [10]).length = _
      simp
      omega
    omega
  have all : ∀ (ls : List (List UInt8)) (k : Nat), (joinT ((rowsFrom k ls).map castR)).length ≤ (ls.map (fun l => l.length + 1)).sum := by
    intro ls
    induction ls with
    | nil => intro k; simp [rowsFrom, joinT]
    | cons l ls ih =>
      intro k
      have ih2 := ih (k + 1)
      rw [List.map_cons, List.sum_cons]
      unfold rowsFrom
      split
      · omega
      · rename_i x hx
        have h1 := one k l x hx
        rw [List.map_cons]
        show (joinRow (castR x) ++ joinT ((rowsFrom (k + 1) ls).map castR)).length ≤ _
        rw [List.length_append]
        omega
  intro k ls h
  subst h
  exact all ls k
theorem lines_sum : ∀ (s : List UInt8), ((lines17 s).map (fun l => l.length + 1)).sum ≤ 2 * s.length := by
  have raw : ∀ s : List UInt8, ((rawL s).map (fun l => l.length)).sum = s.length := by
    intro s
    induction s with
    | nil => rfl
    | cons c r ih =>
      unfold rawL
      split
      · simp [ih]; omega
      · split
        · rename_i h
          rw [h] at ih
          simp at ih
          simp [← ih]
        · rename_i l ls h
          rw [h] at ih
          simp at ih ⊢
          omega
  have chp : ∀ l : List UInt8, (chop l).length ≤ l.length := by
    intro l
    unfold chop
    split
    · simp
    · exact Nat.le_refl _
  have gen : ∀ ls : List (List UInt8), ((ls.map chop).map (fun l => l.length + 1)).sum ≤ (ls.map (fun l => l.length)).sum + ls.length := by
    intro ls
    induction ls with
    | nil => simp
    | cons a r ih =>
      have := chp a
      simp only [List.map_cons, List.sum_cons, List.length_cons]
      omega
  intro s
  have h1 := gen (rawL s)
  have h2 := raw s
  have h3 := rawL_le s
  unfold lines17
  omega
theorem join_short {s : List UInt8} (h : s.length ≤ 2000) : (joinT ((rows17 s).map castR)).length ≤ 4000 := by
  have h1 := joinT_rows_le (rows17 s) 0 (lines17 s) rfl
  have h2 := lines_sum s
  omega
end Go.Proofs.YtnjokdbblmlhhaaGreatDoor
