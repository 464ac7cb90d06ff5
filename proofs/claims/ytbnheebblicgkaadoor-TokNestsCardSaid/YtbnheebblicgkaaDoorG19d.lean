/- Plain laws of layer 19: how deep a text's tokens go, and their lines.; walk of rescriptlaw19.TokNests -/
import Derived.Test.YtbnheebblicgkaaDoorG19a
import Derived.Test.YtbnheebblicgkaaDoorG19c
namespace Go.Proofs.YtbnheebblicgkaaDoor
set_option linter.unusedVariables false
set_option linter.unusedSimpArgs false
namespace P19
/-- how a token moves -/
def delta (t : Tk) : Int := if t.1 = 1 then 1 else if t.1 = 2 then -1 else 0
def dep (ts : List Tk) : Int := (ts.map delta).sum
theorem dep_snoc (ts : List Tk) (t : Tk) : dep (ts ++ [t]) = dep ts + delta t := by simp [dep]
/-- tokens so far: at depth d, all of them in lines up to ln, none ahead of another's line, never below 0 or above 15 -/
structure Good (out : List Tk) (d ln : Int) : Prop where
  now : dep out = d
  deep : ∀ i, i ≤ out.length → 0 ≤ dep (out.take i) ∧ dep (out.take i) ≤ 15
  line : ∀ t ∈ out, t.2.2.1 ≤ ln
  rise : ∀ i t u, out[i]? = some t → out[i + 1]? = some u → t.2.2.1 ≤ u.2.2.1
theorem good_nil (ln : Int) : Good [] 0 ln := ⟨rfl, fun i hi => by simp at hi; subst hi; exact ⟨Int.le_refl _, by decide⟩, by simp, by simp⟩
theorem good_mono {out : List Tk} {d ln ln' : Int} (h : Good out d ln) (hl : ln ≤ ln') : Good out d ln' := ⟨h.now, h.deep, fun t ht => Int.le_trans (h.line t ht) hl, h.rise⟩
theorem good_snoc {out : List Tk} {d ln : Int} {t : Tk} (h : Good out d ln) (hl : ln ≤ t.2.2.1) (h0 : 0 ≤ d + delta t) (h1 : d + delta t ≤ 15) : Good (out ++ [t]) (d + delta t) t.2.2.1 := by
  refine ⟨by rw [dep_snoc, h.now], fun i hi => ?_, fun u hu => ?_, fun i a b ha hb => ?_⟩
  · rw [List.length_append, List.length_singleton] at hi
    rcases Nat.lt_or_ge out.length i with h2 | h2
    · rw [List.take_of_length_le (by rw [List.length_append, List.length_singleton]; omega), dep_snoc, h.now]
      exact ⟨h0, h1⟩
    · rw [List.take_append_of_le_length h2]
      exact h.deep i h2
  · rcases List.mem_append.1 hu with hu | hu
    · exact Int.le_trans (h.line u hu) hl
    · simp at hu; subst hu; exact Int.le_refl _
  · have hi : i + 1 < (out ++ [t]).length := (List.getElem?_eq_some_iff.1 hb).1
    rw [List.length_append, List.length_singleton] at hi
    rw [List.getElem?_append_left (by omega)] at ha
    rcases Nat.lt_or_ge (i + 1) out.length with h2 | h2
    · rw [List.getElem?_append_left h2] at hb
      exact h.rise i a b ha hb
    · have h3 : i + 1 = out.length := by omega
      rw [h3, List.getElem?_append_right (Nat.le_refl _), Nat.sub_self] at hb
      simp at hb
      subst hb
      exact Int.le_trans (h.line a (List.mem_of_getElem? ha)) hl
theorem good_close {n col tc : Int} : ∀ {st : List Int} {out : List Tk} {ln : Int}, Row st → 0 ≤ col → st.length ≤ 16 → Good out ((st.length : Int) - 1) ln → ln ≤ n →
    Good (out ++ (close n col tc st).1) (((close n col tc st).2.length : Int) - 1) n
  | [], out, ln, hr, _, _, _, _ => absurd rfl (row_ne hr)
  | x :: st, out, ln, hr, hc, hl, hg, hn => by
    unfold close
    by_cases hx : col < x
    · rw [if_pos hx]
      have hr2 := row_pop hr (by omega)
      have hp : 0 < st.length := List.length_pos_iff.2 (row_ne hr2)
      simp only [List.length_cons] at hl hg
      have h1 : Good (out ++ [((2, [], n, tc) : Tk)]) (((st.length + 1 : Nat) : Int) - 1 + delta (2, [], n, tc)) n := good_snoc hg hn (by simp [delta]; omega) (by simp [delta]; omega)
      have h2 := good_close (n := n) (col := col) (tc := tc) hr2 hc (by omega) (by
        have e : ((st.length + 1 : Nat) : Int) - 1 + delta (2, [], n, tc) = (st.length : Int) - 1 := by simp [delta]; omega
        rw [e] at h1
        exact h1) (Int.le_refl _)
      rw [List.append_assoc] at h2
      exact h2
    · rw [if_neg hx, List.append_nil]
      exact good_mono hg hn
theorem good_turn {b : Bool} {k : Nat} {n : Int} {t : Tk} {out : List Tk} {st : List Int} {ln : Int} (hr : Row st) (hl : st.length ≤ 16) (hc : 0 ≤ t.2.2.2) (hg : Good out ((st.length : Int) - 1) ln) (hn : ln ≤ n) (ht : t.2.2.1 = n) (hk : 3 ≤ t.1)
    (h0 : (turn b k n t out st).1 = 0) : Good (turn b k n t out st).2.1 (((turn b k n t out st).2.2.length : Int) - 1) n := by
  have hd : delta t = 0 := by unfold delta; rw [if_neg (by omega), if_neg (by omega)]
  have hp : 0 < st.length := List.length_pos_iff.2 (row_ne hr)
  unfold turn at h0 ⊢
  split
  · rename_i h1
    rw [if_pos h1] at h0
    split
    · rename_i h2
      rw [if_pos h2] at h0
      simp at h0
    · have h3 := good_close (n := n) (col := t.2.2.2) (tc := t.2.2.2) hr hc hl hg hn
      have h4 := close_len n t.2.2.2 t.2.2.2 st
      have h5 : 0 < (close n t.2.2.2 t.2.2.2 st).2.length := List.length_pos_iff.2 (row_ne (close_row hc hr))
      have h6 := good_snoc (t := t) h3 (by rw [ht]; exact Int.le_refl _) (by rw [hd]; omega) (by rw [hd]; omega)
      rw [hd, Int.add_zero, ht] at h6
      exact h6
  · rename_i h1
    rw [if_neg h1] at h0
    split
    · rename_i h2
      rw [if_pos h2] at h0
      split
      · rename_i h3
        rw [if_pos h3] at h0
        simp at h0
      · rename_i h3
        have h4 : Good (out ++ [((1, [], n, t.2.2.2) : Tk)]) ((st.length : Int) - 1 + delta (1, [], n, t.2.2.2)) n := good_snoc hg hn (by simp [delta]; try omega) (by simp [delta]; try omega)
        have e : ((st.length : Int) - 1 + delta (1, [], n, t.2.2.2)) = (((t.2.2.2 :: st).length : Nat) : Int) - 1 := by simp [delta]; try omega
        rw [e] at h4
        have h6 := good_snoc (t := t) h4 (by rw [ht]; exact Int.le_refl _) (by rw [hd]; simp) (by rw [hd, List.length_cons]; omega)
        rw [hd, Int.add_zero, ht] at h6
        exact h6
    · have h6 := good_snoc (t := t) hg (by rw [ht]; exact hn) (by rw [hd]; omega) (by rw [hd]; omega)
      rw [hd, Int.add_zero, ht] at h6
      exact h6
theorem good_adds {n : Int} : ∀ (ts : List Tk) (b : Bool) (k : Nat) (out : List Tk) (st : List Int) (ln : Int), Row st → st.length ≤ 16 → (∀ t ∈ ts, 0 ≤ t.2.2.2 ∧ t.2.2.1 = n ∧ 3 ≤ t.1) → (b = false → ∀ t ∈ ts, 0 < t.2.2.2) → (∀ t ∈ ts.tail, 0 < t.2.2.2) →
    Good out ((st.length : Int) - 1) ln → ln ≤ n → (adds n b k ts out st).1 = 0 → Good (adds n b k ts out st).2.1 (((adds n b k ts out st).2.2.length : Int) - 1) n
  | [], b, k, out, st, ln, h, hl, _, _, _, hg, hn, _ => good_mono hg hn
  | t :: r, b, k, out, st, ln, h, hl, hc, hb, ht, hg, hn, h0 => by
    unfold adds at h0 ⊢
    by_cases h1 : (turn b k n t out st).1 ≠ 0
    · rw [if_pos h1] at h0
      exact absurd h0 h1
    · rw [if_neg h1] at h0 ⊢
      have hct := hc t (by simp)
      have h2 := turn_row h hct.1 (fun e => hb e t (by simp)) (by simpa using h1) hl
      have h3 := good_turn h hl hct.1 hg hn hct.2.1 hct.2.2 (by simpa using h1)
      exact good_adds r false t.1 _ _ n h2.1 h2.2.1 (fun x hx => hc x (by simp [hx])) (fun _ x hx => ht x (by simpa using hx)) (fun x hx => ht x (List.mem_of_mem_tail hx)) h3 (Int.le_refl _) h0
theorem line_kind : ∀ (f : Nat) (n col : Int) (s : List UInt8), ∀ t ∈ (line f n col s).1, 3 ≤ t.1
  | 0, n, col, s => by simp [line]
  | f + 1, n, col, s => by
    have hv : ∀ (c : Int) (x : List UInt8), (value n c x).2 = 0 → 3 ≤ (value n c x).1.1 := by
      intro c x h
      unfold value at h ⊢
      split
      · simp
      · rename_i h1
        rw [if_neg h1] at h
        split
        · simp
        · rename_i h2
          rw [if_neg h2] at h
          split
          · rename_i h3
            rw [if_pos h3] at h
            simp at h
          · simp
    unfold line
    by_cases hs : signB 45 s = true
    · rw [if_pos hs]
      have ih := line_kind f n (col + (1 + skip (s.drop 1) : Nat)) (s.drop (1 + skip (s.drop 1)))
      split
      · simp
      · split
        · simp
        · intro t ht
          rcases List.mem_cons.1 ht with rfl | ht
          · simp
          · exact ih t ht
    · rw [if_neg hs]
      repeat' split
      all_goals try (simp; done)
      rename_i h8
      have hv2 := hv _ _ (Decidable.not_not.1 h8)
      intro t ht
      simp only [List.mem_cons, List.not_mem_nil, or_false] at ht
      rcases ht with rfl | rfl
      · simp
      · exact hv2
/-- rows' numbers go up -/
def Up : Int → List (Nat × Nat × List UInt8) → Prop
  | _, [] => True
  | ln, r :: rs => ln ≤ (r.1 : Int) ∧ Up r.1 rs
theorem up_rows : ∀ (k : Nat) (ls : List (List UInt8)) (ln : Int), ln ≤ k → Up ln (rowsFrom k ls)
  | k, [], ln, h => trivial
  | k, l :: ls, ln, h => by
    unfold rowsFrom
    cases hr : rowOf k l with
    | none => exact up_rows (k + 1) ls ln (by omega)
    | some r =>
      have h1 : r.1 = k + 1 := by
        unfold rowOf at hr
        split at hr
        · cases hr
        · injection hr with hr; subst hr; rfl
      exact ⟨by omega, up_rows (k + 1) ls r.1 (by omega)⟩
theorem good_allR : ∀ (rs : List (Nat × Nat × List UInt8)) (b : Bool) (out : List Tk) (st : List Int) (last : Int), Row st → st.length ≤ 16 → Good out ((st.length : Int) - 1) last → Up last rs → (allR b rs out st last).2.1 = 0 →
    ∃ ln, Good (allR b rs out st last).1 0 ln
  | [], b, out, st, last, hr, hl, hg, _, _ => by
    have h1 := good_close (n := last) (col := 0) (tc := 0) hr (Int.le_refl _) hl hg (Int.le_refl _)
    rw [close_all last hr] at h1
    refine ⟨last, ?_⟩
    unfold allR
    rw [close_all last hr]
    simpa using h1
  | r :: rs, b, out, st, last, hr, hl, hg, hu, h0 => by
    have hla : LineOk (r.1 : Int) (r.2.1 : Int) r.2.2.length (rowT r) := line_at _ _ _ _
    have hlk : ∀ t ∈ (rowT r).1, 3 ≤ t.1 := line_kind (r.2.2.length + 1) r.1 r.2.1 r.2.2
    unfold allR at h0 ⊢
    split
    · rename_i h1
      rw [if_pos h1] at h0
      exact absurd h0 h1
    · rename_i h1
      rw [if_neg h1] at h0
      split
      · rename_i h2
        rw [if_pos h2] at h0
        simp at h0
      · rename_i h2
        rw [if_neg h2] at h0
        split
        · rename_i h3
          rw [if_pos h3] at h0
          exact absurd h0 h3
        · rename_i h3
          rw [if_neg h3] at h0
          have h4 := adds_row (n := (r.1 : Int)) (rowT r).1 true 0 out st hr hl (fun t ht => by have := (hla.1 t ht).2.1; omega) (fun h => by cases h) (fun t ht => by have := hla.2.2 t ht; omega) (by simpa using h3)
          have h5 := good_adds (n := (r.1 : Int)) (rowT r).1 true 0 out st last hr hl (fun t ht => ⟨by have := (hla.1 t ht).2.1; omega, (hla.1 t ht).1, hlk t ht⟩) (fun h => by cases h) (fun t ht => by have := hla.2.2 t ht; omega) hg hu.1 (by simpa using h3)
          exact good_allR rs false _ _ r.1 h4.1 h4.2.1 h5 hu.2 h0
theorem good_all (s : List UInt8) (h : (all s).2.1 = 0) : ∃ ln, Good (all s).1 0 ln := by
  unfold all at h ⊢
  split
  · rename_i h1
    rw [if_pos h1] at h
    exact absurd h h1
  · rename_i h1
    rw [if_neg h1] at h
    exact good_allR (rows17 s) true [] [0] 0 row_zero (by decide) (by simpa using good_nil 0) (up_rows 0 _ 0 (by simp)) h
theorem all_err (s : List UInt8) (h : (all s).2.1 ≠ 0) : (all s).1 = [] := by
  have key : ∀ (rs : List (Nat × Nat × List UInt8)) (b : Bool) (out : List Tk) (st : List Int) (last : Int), (allR b rs out st last).2.1 ≠ 0 → (allR b rs out st last).1 = [] := by
    intro rs
    induction rs with
    | nil => intro b out st last h; exact absurd rfl h
    | cons r rs ih =>
      intro b out st last h
      unfold allR at h ⊢
      split
      · rfl
      · rename_i h1
        rw [if_neg h1] at h
        split
        · rfl
        · rename_i h2
          rw [if_neg h2] at h
          split
          · rfl
          · rename_i h3
            rw [if_neg h3] at h
            exact ih _ _ _ _ h
  unfold all at h ⊢
  split
  · rfl
  · rename_i h1
    rw [if_neg h1] at h
    exact key _ _ _ _ _ h
end P19
end Go.Proofs.YtbnheebblicgkaaDoor
namespace Go.Proofs.YtbnheebblicgkaaDoor
set_option linter.unusedVariables false
set_option linter.unusedSimpArgs false
open Go.RowKit
namespace P19
theorem deep_le : ∀ (ts : List Tk) (now most : Int), (∀ i, i ≤ ts.length → now + dep (ts.take i) ≤ 15) → most ≤ 15 → deepF now most (ts.map (fun t => (t.1 : Int))) ≤ 15
  | [], now, most, _, h => h
  | t :: r, now, most, hp, h => by
    have e : (if (t.1 : Int) = 1 then now + 1 else if (t.1 : Int) = 2 then now - 1 else now) = now + delta t := by
      unfold delta
      by_cases h1 : t.1 = 1
      · rw [if_pos (by omega), if_pos h1]
      · rw [if_neg (by omega), if_neg h1]
        by_cases h2 : t.1 = 2
        · rw [if_pos (by omega), if_pos h2]; omega
        · rw [if_neg (by omega), if_neg h2]; omega
    have hd : ∀ i, dep ((t :: r).take (i + 1)) = delta t + dep (r.take i) := fun i => by simp [dep]
    have h1 := hp 1 (by simp)
    rw [hd 0] at h1
    simp only [List.take_zero] at h1
    rw [show dep ([] : List Tk) = 0 from rfl] at h1
    rw [List.map_cons, deepF, e]
    refine deep_le r (now + delta t) _ (fun i hi => ?_) (by omega)
    have h2 := hp (i + 1) (by simp; omega)
    rw [hd i] at h2
    omega
theorem dep_take {ts : List Tk} {i : Nat} {t : Tk} (h : ts[i]? = some t) : dep (ts.take (i + 1)) = dep (ts.take i) + delta t := by
  rw [List.take_add_one, h]
  exact dep_snoc _ _
end P19
theorem allR_len19 : ∀ (rs : List (Nat × Nat × List UInt8)) (b : Bool) (out : List Tk) (st : List Int) (last : Int), P19.Row st → st.length ≤ 16 → (P19.allR b rs out st last).1.length ≤ out.length + 40 * P19.weight rs + 16
  | [], b, out, st, last, hr, hl => by
    have h1 := P19.close_len last 0 0 st
    unfold P19.allR
    rw [List.length_append]
    omega
  | r :: rs, b, out, st, last, hr, hl => by
    have hla := P19.toks_at r.1 r.2.1 r.2.2
    have htl := P19.toks_len r.1 r.2.1 r.2.2
    have hw : P19.weight (r :: rs) = r.2.2.length + 1 + P19.weight rs := by unfold P19.weight; rw [List.map_cons, List.sum_cons]
    unfold P19.allR
    split
    · simp
    · split
      · simp
      · split
        · simp
        · rename_i h3
          have h4 := P19.adds_row (n := (r.1 : Int)) (P19.rowT r).1 true 0 out st hr hl (fun t ht => by have := (hla.1 t ht).2.1; omega) (fun h => by cases h) (fun t ht => by have := hla.2.2 t ht; omega) (by simpa using h3)
          have h5 := allR_len19 rs false (P19.adds r.1 true 0 (P19.rowT r).1 out st).2.1 (P19.adds r.1 true 0 (P19.rowT r).1 out st).2.2 r.1 h4.1 h4.2.1
          have h6 := h4.2.2
          rw [if_pos rfl] at h6
          have h7 : (P19.rowT r).1.length ≤ r.2.2.length + 1 := htl
          omega
theorem all_len19 (s : List UInt8) : (P19.all s).1.length ≤ 80 * s.length + 16 := by
  unfold P19.all
  split
  · simp
  · have h1 := allR_len19 (rows17 s) true [] [0] 0 P19.row_zero (by decide)
    have h2 := P19.weight_le s
    simp only [List.length_nil] at h1
    omega
theorem words_at (k : Nat) (hk : k < 8) : (#[(.string ⟨#[]⟩ : Value), .string ⟨#[111, 112, 101, 110]⟩, .string ⟨#[99, 108, 111, 115, 101]⟩, .string ⟨#[100, 97, 115, 104]⟩, .string ⟨#[107, 101, 121]⟩, .string ⟨#[119, 111, 114, 100]⟩, .string ⟨#[110, 111, 115, 101, 113]⟩, .string ⟨#[110, 111, 109, 97, 112]⟩] : Array Value)[k]? = some (.string ⟨(wordOf k).toArray⟩) := by
  have hc : k = 0 ∨ k = 1 ∨ k = 2 ∨ k = 3 ∨ k = 4 ∨ k = 5 ∨ k = 6 ∨ k = 7 := by omega
  rcases hc with rfl | rfl | rfl | rfl | rfl | rfl | rfl | rfl <;> rfl
set_option maxRecDepth 100000 in
set_option maxHeartbeats 1600000 in
theorem TokNests_any (s : ByteArray) (v : Value) (rs : List (Int × ByteArray × Int × Int)) (w : World) (hv : RdT w w.heap.size v rs) (hwf : ∀ r ∈ rs, 0 ≤ r.1 ∧ r.1 < 256) :
    Calls Tryd.prog 8 #[.string s, v] w fun e w' => e = .returned (.bool true) ∧ Below w.heap.size w w' := by
  obtain ⟨ao, cap, rfl, hcell⟩ := hv
  have HRD := hide hcell
  have HWF := hide hwf
  clear hcell hwf
  obtain ⟨n, hn⟩ : ∃ n, rs.length = n := ⟨_, rfl⟩
  rw [hn]
  have HN := hide hn
  clear hn
  go_enter Tryd.func8, Tryd.ntmps8
  go_upto_region 3 with (go_at_call 19; refine (tokLive_any _).mono ?_; rintro e W1 ⟨rfl, hb0⟩)
  by_cases c1 : 3000 < (s.size : Int)
  · go_wp2
    go_ret
    exact ⟨rfl, hb0⟩
  have c1' : (s.size : Int) ≤ 3000 := by omega
  by_cases c2 : 200 < (n : Int)
  · go_wp2
    go_ret
    exact ⟨rfl, hb0⟩
  have c2' : (n : Int) ≤ 200 := by omega
  clear c1 c2
  obtain ⟨h, hh⟩ : ∃ h, w.heap.size = h := ⟨_, rfl⟩
  obtain ⟨b, hb⟩ : ∃ b, W1.heap.size = b := ⟨_, rfl⟩
  have hbh : h ≤ b := by rw [← hh, ← hb]; exact hb0.size
  rw [hh] at hb0 HRD
  try rw [hh]
  go_upto_region 6 with fail
  have hWd := World.alloc_heap_new W1 (.cells #[(.string ⟨#[]⟩ : Value), .string ⟨#[111, 112, 101, 110]⟩, .string ⟨#[99, 108, 111, 115, 101]⟩, .string ⟨#[100, 97, 115, 104]⟩, .string ⟨#[107, 101, 121]⟩, .string ⟨#[119, 111, 114, 100]⟩, .string ⟨#[110, 111, 115, 101, 113]⟩, .string ⟨#[110, 111, 109, 97, 112]⟩] 52)
  rw [hb] at hWd
  obtain ⟨W2, hW2⟩ : ∃ W2, W1.alloc (.cells #[(.string ⟨#[]⟩ : Value), .string ⟨#[111, 112, 101, 110]⟩, .string ⟨#[99, 108, 111, 115, 101]⟩, .string ⟨#[100, 97, 115, 104]⟩, .string ⟨#[107, 101, 121]⟩, .string ⟨#[119, 111, 114, 100]⟩, .string ⟨#[110, 111, 115, 101, 113]⟩, .string ⟨#[110, 111, 109, 97, 112]⟩] 52) = W2 := ⟨_, rfl⟩
  rw [hW2] at hWd ⊢
  have hb2 : Below h w W2 := by rw [← hW2]; exact below_alloc' hb0 (by omega) _
  clear hW2 hb0
  go_wp2
  go_loopg [6] n (fun g s6 wx => ∃ i : Nat, i + g = n ∧ s6 = .int .i64 i ∧ Below h w wx ∧ wx.heap[b]? = some (.cells #[(.string ⟨#[]⟩ : Value), .string ⟨#[111, 112, 101, 110]⟩, .string ⟨#[99, 108, 111, 115, 101]⟩, .string ⟨#[100, 97, 115, 104]⟩, .string ⟨#[107, 101, 121]⟩, .string ⟨#[119, 111, 114, 100]⟩, .string ⟨#[110, 111, 115, 101, 113]⟩, .string ⟨#[110, 111, 109, 97, 112]⟩] 52))
  case atStart => exact ⟨0, by omega, by go_num, hb2, hWd⟩
  case round =>
    obtain ⟨i, hig, rfl, hbel, hwd⟩ := hrel
    have hbl : b < wr.heap.size := (Array.getElem?_eq_some_iff.1 hwd).1
    cases gk with
    | zero =>
      have e1 : (n : Int) = (i : Int) := by omega
      have hrd : RdT wr wr.heap.size (.slice ao n cap) rs := by
        have h1 : RdT w h (.slice ao n cap) rs := ⟨ao, cap, by rw [unhide HN], unhide HRD⟩
        exact h1.below hbel (by omega)
      have HRR := hide hrd
      have hrl : rs.length ≤ 1000000 := by rw [unhide HN]; omega
      have hall := fun W => tokAll_any s W (by omega)
      have hgood := P19.good_all s.data.toList
      have herr := P19.all_err s.data.toList
      have hln := all_len19 s.data.toList
      rw [← Lib.size_eq] at hln
      obtain ⟨⟨ts, E, F⟩, hT⟩ : ∃ x, P19.all s.data.toList = x := ⟨_, rfl⟩
      simp only [hT] at hall hgood herr hln
      unfold faultV at hall
      have HALL := hide hall
      have hD1 := fun W (hW : Below wr.heap.size wr W) => tokDeep_any (.slice ao n cap) rs W (hrd.below hW hW.size) hrl
      have hD2 := fun W (hW : Below wr.heap.size wr W) => refDeep_any (.slice ao n cap) rs W (hrd.below hW hW.size) hrl
      obtain ⟨dd, hdd⟩ : ∃ d, deepF 0 0 (rs.map (·.1)) = d := ⟨_, rfl⟩
      simp only [hdd] at hD1 hD2
      have HD1 := hide hD1
      have HD2 := hide hD2
      clear hrd hT hall hD1 hD2 hdd
      go_upto_region 17 with (first
        | (go_at_call 20; refine (unhide HALL _).mono ?_; rintro e W6 ⟨v6, rfl, ho6, hb6⟩; have hb06 : Below h w W6 := (by first | exact hbel.trans ((hb5.mono (by omega)).trans (hb6.mono (by have := hb5.size; omega))) | exact hbel.trans (hb5.mono (by omega))))
        | (go_at_call 27; refine (unhide HD2 _ hb5).mono ?_; rintro e W8 ⟨rfl, hW8⟩; rw [hW8]; clear hW8)
        | (go_at_call 26; refine (unhide HD1 wr (Below.refl _ _)).mono ?_; rintro e W5 ⟨rfl, hb5⟩))
      obtain ⟨ta, tm, tcap, rfl⟩ := own_slice ho6
      have htm : tm = ts.length := by
        rcases ho6.2 with ⟨h1, h2⟩ | ⟨g, cap, cur, h1, _⟩
        · injection h1 with _ h3; omega
        · injection h1 with _ h3
      subst htm
      have f6 := World.alloc_heap_new W6 (.cells #[.int .i64 E, .int .i64 F] 26)
      have o6 := World.ownsRow.alloc ho6 (.cells #[.int .i64 E, .int .i64 F] 26)
      have hh6 : h ≤ W6.heap.size := by have := hb06.size; omega
      have k6 : Below h w (W6.alloc (.cells #[.int .i64 E, .int .i64 F] 26)) := below_alloc' hb06 hh6 _
      have x0 := (two_cell0 f6).1
      have x1 := (two_cell1 f6).1
      have z6 : h ≤ (W6.alloc (.cells #[.int .i64 E, .int .i64 F] 26)).heap.size := by rw [World.size_alloc]; omega
      generalize W6.alloc (.cells #[.int .i64 E, .int .i64 F] 26) = X6 at f6 o6 k6 x0 x1 z6 ⊢
      generalize W6.heap.size = n6 at f6 x0 x1 ⊢
      clear f6 ho6 hb06
      by_cases hE : E = 0
      · have hEn : (E != 0) = false := by simpa using hE
        obtain ⟨lnx, hgd⟩ := hgood hE
        obtain ⟨m, hm⟩ : ∃ m, ts.length = m := ⟨_, rfl⟩
        rw [hm] at hln
        have HM := hide hm
        have HGD := hide hgd
        have HO6 := hide o6
        have HK6 := hide k6
        simp only [hm]
        clear hgood herr hE hgd o6 k6 hm HALL HD1 HD2 HRR
        go_wp2
        go_loopg [10, 11] m (fun g s10 s11 wx => ∃ (j q : Nat), j + g = m ∧ s11 = .int .i64 j ∧ s10 = .int .i64 (P19.dep (ts.take j)) ∧ X6.drewN q = wx)
        case atStart => exact ⟨0, 0, by omega, by go_num, rfl, rfl⟩
        case round =>
          obtain ⟨j, q, hjg, rfl, rfl, rfl⟩ := hrel
          cases gk with
          | zero =>
            have e2 : (m : Int) = (j : Int) := by omega
            have hjm : ts.take j = ts := List.take_of_length_le (by rw [unhide HM]; omega)
            have hd0 : P19.dep (ts.take j) = 0 := by rw [hjm]; exact (unhide HGD).now
            have hdl : deepF 0 0 ((ts.map castT).map (·.1)) ≤ 15 := by
              have h1 := P19.deep_le ts 0 0 (fun i hi => by have := ((unhide HGD).deep i hi).2; omega) (by decide)
              have h2 : (ts.map castT).map (·.1) = ts.map (fun t => (t.1 : Int)) := by rw [List.map_map]; rfl
              rw [h2]; exact h1
            have hrt : RdT (X6.drewN q) (X6.drewN q).heap.size (.slice ta m tcap) (ts.map castT) := by
              have := rdt_of_own (unhide HO6)
              rw [unhide HM] at this
              exact this
            have hdp := tokDeep_any _ _ (X6.drewN q) hrt (by rw [List.length_map, unhide HM]; omega)
            obtain ⟨dd2, hdd2⟩ : ∃ d, deepF 0 0 ((ts.map castT).map (·.1)) = d := ⟨_, rfl⟩
            rw [hdd2] at hdl hdp
            have HDP := hide hdp
            have hdl2 : dd2 < 16 := by omega
            clear hdp hrt hdd2 hdl hjm e2
            go_wp2_with (go_at_call 26; refine (unhide HDP).mono ?_; rintro e W9 ⟨rfl, hb9⟩)
            go_ret
            try rw [hh]
            exact ⟨rfl, (below_any (unhide HK6) q).trans (hb9.mono z6)⟩
          | succ f =>
            have hjlt : (j : Int) < (m : Int) := by omega
            have hjw : IntKind.i64.wrap ((j : Int) + 1) = (j : Int) + 1 := IntWalk.i64_in _ (by omega)
            have hjl : j < ts.length := by rw [unhide HM]; omega
            have htj : ts[j]? = some ts[j] := List.getElem?_eq_getElem hjl
            obtain ⟨⟨k, tx, tn, tc⟩, ht⟩ : ∃ t, ts[j] = t := ⟨_, rfl⟩
            rw [ht] at htj
            have hdp1 := P19.dep_take htj
            have hdb0 := (unhide HGD).deep j (by omega)
            have hdb1 := (unhide HGD).deep (j + 1) (by omega)
            have hrise : 0 < j → ∃ t', ts[j - 1]? = some t' ∧ t'.2.2.1 ≤ tn := fun h0 => by
              have h1 : ts[j - 1]? = some ts[j - 1] := List.getElem?_eq_getElem (by omega)
              exact ⟨_, h1, (unhide HGD).rise (j - 1) _ _ h1 (by rw [show j - 1 + 1 = j from by omega]; exact htj)⟩
            obtain ⟨g, cap5, hta, hgl, c0, c1, c2, c3⟩ := own_drop (unhide HO6) htj
            have hta0 := hta
            injection hta with hta _ hta3
            have hprev : 0 < j → ∃ pn : Int, X6.cell? ⟨g, (j - 1) * 4 + 2, none⟩ = some (.int .i64 pn) ∧ pn ≤ tn := fun h0 => by
              obtain ⟨t', h1, h2⟩ := hrise h0
              obtain ⟨g', cap', hta', _, _, _, q2, _⟩ := own_drop (unhide HO6) h1
              rw [hta0] at hta'
              injection hta' with hta' _ _
              injection hta' with hta'
              injection hta' with hta'
              subst hta'
              exact ⟨_, q2, h2⟩
            subst hta
            clear hta0
            subst hta3
            have HDN := hide hdp1
            obtain ⟨d, hd⟩ : ∃ d, P19.dep (ts.take j) = d := ⟨_, rfl⟩
            rw [hd] at HDN hdb0 ⊢
            rw [hdp1, hd] at hdb1
            have HPV := hide hprev
            unfold P19.delta at HDN hdb1
            simp only at HDN hdb1
            clear hdp1 hd hrise hprev htj ht hgl hjl
            obtain ⟨d2, HD2, b0, b1, hk⟩ : ∃ d2, Hid (P19.dep (ts.take (j + 1)) = d2) ∧ 0 ≤ d2 ∧ d2 ≤ 15 ∧ ((((k : Int) == 1) = true ∧ Hid (d + 1 = d2)) ∨ (((k : Int) == 1) = false ∧ ((k : Int) == 2) = true ∧ Hid (d - 1 = d2)) ∨ (((k : Int) == 1) = false ∧ ((k : Int) == 2) = false ∧ Hid (d = d2))) := by
              have hx := unhide HDN
              by_cases h1 : k = 1
              · rw [if_pos h1] at hx hdb1
                exact ⟨d + 1, hx, hdb1.1, hdb1.2, .inl ⟨by rw [h1]; rfl, rfl⟩⟩
              · rw [if_neg h1] at hx hdb1
                by_cases h2 : k = 2
                · rw [if_pos h2] at hx hdb1
                  exact ⟨d - 1, hide (by rw [hx]; omega), by omega, by omega, .inr (.inl ⟨by simp; omega, by rw [h2]; rfl, rfl⟩)⟩
                · rw [if_neg h2] at hx hdb1
                  exact ⟨d, hide (by rw [hx]; omega), by omega, by omega, .inr (.inr ⟨by simp; omega, by simp; omega, rfl⟩)⟩
            have hw1 : IntKind.i64.wrap (d + 1) = d + 1 := IntWalk.i64_in _ (by omega)
            have hw2 : IntKind.i64.wrap (d - 1) = d - 1 := IntWalk.i64_in _ (by omega)
            clear HDN hdb1
            have HPC := hide c2
            clear c1 c2 c3
            go_upto_block 4 with fail
            go_cut [10] from 65 to 107 (fun s10 wx => s10 = .int .i64 d2 ∧ X6.drewN q = wx)
            case first =>
              clear HPV HPC
              rcases hk with ⟨k1, HK⟩ | ⟨k1, k2, HK⟩ | ⟨k1, k2, HK⟩
              all_goals go_wp2
              all_goals go_meet
              all_goals exact ⟨by rw [← unhide HK], rfl⟩
            case rest =>
              obtain ⟨rfl, rfl⟩ := hcut
              clear hk hw1 hw2 hdb0 c0
              have g1 : decide (d2 < 0) = false := by simp; omega
              have g2 : decide (15 < d2) = false := by simp; omega
              obtain ⟨Wq, hWq⟩ : ∃ Wq, X6.drewN q = Wq := ⟨_, rfl⟩
              have HWQ := hide hWq
              rcases Nat.eq_zero_or_pos j with hj | hj
              · subst hj
                clear HPV HPC
                rw [hWq]
                clear hWq
                go_wp2
                go_quiet (fail)
                go_wp2
                go_roundg f
                case measure => omega
                case rel => exact ⟨0 + 1, q + nq, by omega, by go_num, by rw [unhide HD2], by rw [← unhide HWQ, World.drewN_drewN]⟩
              · have hj2 : (0 : Int) < (j : Int) := by omega
                obtain ⟨pn, hpc, hpl⟩ := unhide HPV hj
                have c2 := unhide HPC
                have hjw2 : IntKind.i64.wrap ((j : Int) - 1) = ((j - 1 : Nat) : Int) := by rw [show ((j : Int) - 1) = ((j - 1 : Nat) : Int) from by omega]; exact IntWalk.i64_in _ (by omega)
                have hjl1 : ((j - 1 : Nat) : Int) < (m : Int) := by omega
                have hjl2 : IntKind.i64.wrap ((j - 1 : Nat) : Int) = ((j - 1 : Nat) : Int) := IntWalk.i64_in _ (by omega)
                have hjl3 : j - 1 < m := by omega
                obtain ⟨jp, hjp⟩ : ∃ jp, j - 1 = jp := ⟨_, rfl⟩
                rw [hjp] at hpc hjw2 hjl1 hjl2 hjl3
                have g3 : decide ((0 : Int) < (j : Int)) = true := by simp; omega
                have g4 : decide (tn < pn) = false := by simp; omega
                have e2 : Wq.cell? ⟨g, j * 4 + 2, none⟩ = some (.int .i64 tn) := by rw [← hWq]; exact c2
                have e3 : Wq.cell? ⟨g, jp * 4 + 2, none⟩ = some (.int .i64 pn) := by rw [← hWq]; exact hpc
                rw [hWq]
                clear HPV hjp HPC c2 hpc hWq
                go_wp2
                go_quiet (fail)
                go_wp2
                go_roundg f
                case measure => omega
                case rel => exact ⟨j + 1, q + nq, by omega, by go_num, by rw [unhide HD2], by rw [← unhide HWQ, World.drewN_drewN]⟩
      · have hEn : (E != 0) = true := by simpa using hE
        have hts := herr hE
        subst hts
        go_wp2
        go_ret
        try rw [hh]
        exact ⟨rfl, k6⟩
    | succ g' =>
      have hlt : (i : Int) < (n : Int) := by omega
      have hki : IntKind.i64.wrap ((i : Int) + 1) = (i : Int) + 1 := IntWalk.i64_in _ (by omega)
      have hil : i < rs.length := by rw [unhide HN]; omega
      have hgl : rs[i]? = some rs[i] := List.getElem?_eq_getElem hil
      have hwfi := unhide HWF rs[i] (List.getElem_mem hil)
      obtain ⟨⟨k, tb, ln, cl⟩, hr⟩ : ∃ r, rs[i] = r := ⟨_, rfl⟩
      rw [hr] at hgl hwfi
      simp only at hwfi
      obtain ⟨kn, rfl⟩ := Int.eq_ofNat_of_zero_le hwfi.1
      obtain ⟨g, o, rfl, hg, d0, d1, d2, d3⟩ := unhide HRD i _ hgl
      have c0 := (cell_below hbel hg _).trans d0
      have c1 := (cell_below hbel hg _).trans d1
      have c2 := (cell_below hbel hg _).trans d2
      have c3 := (cell_below hbel hg _).trans d3
      have hk256 : kn < 256 := by have := hwfi.2; omega
      clear d0 d1 d2 d3 hgl hr hwfi hil
      by_cases hk8 : kn < 8
      · have hk8i : (kn : Int) < 8 := by omega
        have hwc : wr.cell? ⟨b, kn, none⟩ = some (.string ⟨(wordOf kn).toArray⟩) := by
          have h1 := words_at kn hk8
          simp only [World.cell?, hwd]
          exact h1
        have HWD := hide hwd
        clear hwd
        go_wp2_with (go_at_call 25; refine (Word_any kn hk256 _ _ _ _).mono ?_; rintro e W7 ⟨rfl, hb7⟩)
        go_roundg g'
        case measure => omega
        case rel => exact ⟨i + 1, by omega, by go_num, hbel.trans (hb7.mono (by omega)), (hb7.block b hbl).trans (unhide HWD)⟩
      · have hk8i : (8 : Int) ≤ (kn : Int) := by omega
        have hwo : wordOf kn = [] := by
          unfold wordOf
          rw [if_neg (by omega), if_neg (by omega), if_neg (by omega), if_neg (by omega), if_neg (by omega), if_neg (by omega), if_neg (by omega)]
        have HWO := hide (fun W => Word_any kn hk256 tb ln cl W)
        simp only [hwo] at HWO
        clear hwo
        go_wp2_with (go_at_call 25; refine (unhide HWO _).mono ?_; rintro e W7 ⟨rfl, hb7⟩)
        go_roundg g'
        case measure => omega
        case rel => exact ⟨i + 1, by omega, by go_num, hbel.trans (hb7.mono (by omega)), (hb7.block b hbl).trans hwd⟩
end Go.Proofs.YtbnheebblicgkaaDoor
