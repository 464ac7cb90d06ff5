/- Plain facts on a text's tokens: their texts may be, how many there are.; Plain law of layer 20: the tokens of a tree's text, nested, are read as that tree (but for lines).; The reader of tokens: kind, here, take, stop, wrong.; Slices of nodes, and of strings, that a call owns.; A slice of strings cloned.; Reading tokens: within, seq, keys, value.; Copy: a tree of its own. -/
import Derived.Test.YtefokfbgpfcbkaaGreatG19a
import Derived.Test.YtefokfbgpfcbkaaGreatGP
import Derived.Test.YtefokfbgpfcbkaaGreatGN20
import Derived.Test.YtefokfbgpfcbkaaGreatGT19
import Derived.Deep.CutRange
import Derived.Deep.CutBlock
import Derived.Deep.RegionWith
import Derived.Shelf.RegionOpenPlain
import Derived.Test.YtefokfbgpfcbkaaGreatGR17
import Derived.Test.YtefokfbgpfcbkaaGreatShelfC
import Derived.Deep.RegionLaw
namespace Go.Proofs.YtefokfbgpfcbkaaGreat
set_option linter.unusedVariables false
set_option linter.unusedSimpArgs false
namespace P20
open P19 (line value close turn adds allR rowT toks)
theorem read_good {s : List UInt8} (h : (P18.read s).2 = 0) : P03.check (P18.read s).1 4096 = 0 := by
  have hc : ∀ t : List UInt8, (P18.chk t).2 = 0 → P03.check (P18.chk t).1 4096 = 0 := fun t ht => by
    unfold P18.chk at ht ⊢
    split
    · rename_i h1
      rw [if_pos h1] at ht
      simp at h1
      exact absurd ht h1
    · rename_i h1
      simpa using h1
  unfold P18.read P18.readF at h ⊢
  split
  · rename_i h1; rw [if_pos h1] at h; exact absurd h (by decide)
  · rename_i h1
    rw [if_neg h1] at h
    split
    · rename_i h2
      rw [if_pos h2] at h
      split
      · rename_i h3; rw [h3] at h; exact absurd h (by decide)
      · rename_i h3; rw [h3] at h; exact hc _ h
    · rename_i h2
      rw [if_neg h2] at h
      exact hc _ h
/-- a token that may be -/
def TkOk (t : Tk) : Prop := t.1 < 8 ∧ (if t.1 = 4 ∨ t.1 = 5 then P03.check t.2.1 4096 = 0 else t.2.1 = [])
theorem tk_nil {k : Nat} {n c : Int} (h : k < 8) (h2 : ¬ (k = 4 ∨ k = 5)) : TkOk (k, [], n, c) := ⟨h, by rw [if_neg h2]⟩
theorem value_ok (n c : Int) (s : List UInt8) (h : (value n c s).2 = 0) : TkOk (value n c s).1 := by
  unfold value at h ⊢
  split
  · exact tk_nil (by decide) (by decide)
  · rename_i h1
    rw [if_neg h1] at h
    split
    · exact tk_nil (by decide) (by decide)
    · rename_i h2
      rw [if_neg h2] at h
      split
      · rename_i h3; rw [if_pos h3] at h; exact absurd h (by decide)
      · rename_i h3
        rw [if_neg h3] at h
        exact ⟨by show 5 < 8; omega, by rw [if_pos (.inr rfl)]; exact read_good h⟩
theorem line_ok : ∀ (f : Nat) (n c : Int) (s : List UInt8), ∀ t ∈ (line f n c s).1, TkOk t
  | 0, n, c, s, t, h => by simp [line] at h
  | f + 1, n, c, s, t, h => by
    unfold line at h
    split at h
    · split at h
      · rw [List.mem_singleton.1 h]; exact tk_nil (by decide) (by decide)
      · split at h
        · simp at h
        · rcases List.mem_cons.1 h with rfl | h
          · exact tk_nil (by decide) (by decide)
          · exact line_ok f n _ _ t h
    · split at h
      · rw [List.mem_singleton.1 h]; exact tk_nil (by decide) (by decide)
      · split at h
        · rw [List.mem_singleton.1 h]; exact tk_nil (by decide) (by decide)
        · split at h
          · simp at h
          · split at h
            · simp at h
            · split at h
              · simp at h
              · rename_i hr
                have hg := read_good (s := s.take (P18.cut s).1) (by simpa using hr)
                split at h
                · rw [List.mem_singleton.1 h]; exact ⟨by show 5 < 8; omega, by rw [if_pos (.inr rfl)]; exact hg⟩
                · split at h
                  · rw [List.mem_singleton.1 h]; exact ⟨by show 4 < 8; omega, by rw [if_pos (.inl rfl)]; exact hg⟩
                  · split at h
                    · simp at h
                    · rename_i hv
                      rcases List.mem_cons.1 h with rfl | h
                      · exact ⟨by show 4 < 8; omega, by rw [if_pos (.inl rfl)]; exact hg⟩
                      · rw [List.mem_singleton.1 h]; exact value_ok _ _ _ (by simpa using hv)
theorem close_ok (n c tc : Int) : ∀ st : List Int, ∀ t ∈ (close n c tc st).1, TkOk t
  | [], t, h => by simp [close] at h
  | x :: st, t, h => by
    unfold close at h
    split at h
    · rcases List.mem_cons.1 h with rfl | h
      · exact tk_nil (by decide) (by decide)
      · exact close_ok n c tc st t h
    · simp at h
theorem turn_ok {b : Bool} {k : Nat} {n : Int} {t : Tk} {out : List Tk} {st : List Int} (ht : TkOk t) (ho : ∀ x ∈ out, TkOk x) : ∀ x ∈ (turn b k n t out st).2.1, TkOk x := by
  intro x hx
  have h1 : ∀ y ∈ out ++ [t], TkOk y := fun y hy => by
    rcases List.mem_append.1 hy with h | h
    · exact ho y h
    · rw [List.mem_singleton.1 h]; exact ht
  unfold turn at hx
  split at hx
  · split at hx
    · simp at hx
    · simp only [List.mem_append, List.mem_singleton] at hx
      rcases hx with (hx | hx) | rfl
      · exact ho x hx
      · exact close_ok _ _ _ _ x hx
      · exact ht
  · split at hx
    · split at hx
      · simp at hx
      · simp only [List.mem_append, List.mem_singleton] at hx
        rcases hx with (hx | rfl) | rfl
        · exact ho x hx
        · exact tk_nil (by decide) (by decide)
        · exact ht
    · exact h1 x hx
theorem adds_ok {n : Int} : ∀ (ts : List Tk) (b : Bool) (k : Nat) (out : List Tk) (st : List Int), (∀ t ∈ ts, TkOk t) → (∀ x ∈ out, TkOk x) → ∀ x ∈ (adds n b k ts out st).2.1, TkOk x
  | [], b, k, out, st, ht, ho, x, hx => ho x hx
  | t :: r, b, k, out, st, ht, ho, x, hx => by
    unfold adds at hx
    split at hx
    · simp at hx
    · exact adds_ok r _ _ _ _ (fun y hy => ht y (List.mem_cons_of_mem _ hy)) (turn_ok (ht t List.mem_cons_self) ho) x hx
theorem allR_ok : ∀ (rs : List (Nat × Nat × List UInt8)) (b : Bool) (out : List Tk) (st : List Int) (last : Int), (∀ x ∈ out, TkOk x) → ∀ x ∈ (allR b rs out st last).1, TkOk x
  | [], b, out, st, last, ho, x, hx => by
    unfold allR at hx
    rcases List.mem_append.1 hx with h | h
    · exact ho x h
    · exact close_ok _ _ _ _ x h
  | r :: rs, b, out, st, last, ho, x, hx => by
    unfold allR at hx
    split at hx
    · simp at hx
    · split at hx
      · simp at hx
      · split at hx
        · simp at hx
        · exact allR_ok rs _ _ _ _ (adds_ok _ _ _ _ _ (line_ok _ _ _ _) ho) x hx
theorem all_ok (s : List UInt8) : ∀ x ∈ (P19.all s).1, TkOk x := by
  intro x hx
  unfold P19.all at hx
  split at hx
  · simp at hx
  · exact allR_ok _ _ _ _ _ (by simp) x hx
theorem TkOk.len {t : Tk} (h : TkOk t) : t.2.1.length ≤ 4096 := by
  obtain ⟨h1, h2⟩ := h
  split at h2
  · unfold P03.check at h2
    split at h2
    · exact absurd h2 (by decide)
    · omega
  · rw [h2]; simp
theorem allR_len20 : ∀ (rs : List (Nat × Nat × List UInt8)) (b : Bool) (out : List Tk) (st : List Int) (last : Int), P19.Row st → st.length ≤ 16 → (P19.allR b rs out st last).1.length ≤ out.length + 40 * P19.weight rs + 16
  | [], b, out, st, last, hr, hl => by
    have h1 := P19.close_len last 0 0 st
    unfold P19.allR
    rw [List.length_append]
    omega
  | r :: rs, b, out, st, last, hr, hl => by
    have hla : P19.LineOk r.1 r.2.1 r.2.2.length (P19.toks r.1 r.2.1 r.2.2) := P19.line_at _ _ _ _
    have htl := P19.toks_len r.1 r.2.1 r.2.2
    have hw : P19.weight (r :: rs) = r.2.2.length + 1 + P19.weight rs := by unfold P19.weight; rw [List.map_cons, List.sum_cons]
    unfold P19.allR
    split
    · simp
    · split
      · simp
      · split
        · simp
        · rename_i h3
          have h4 := P19.adds_row (n := (r.1 : Int)) (P19.rowT r).1 true 0 out st hr hl (fun t ht => by have := (hla.1 t ht).2.1; omega) (fun h => by cases h) (fun t ht => by have := hla.2.2 t ht; omega) (by simpa using h3)
          have h5 := allR_len20 rs false (P19.adds r.1 true 0 (P19.rowT r).1 out st).2.1 (P19.adds r.1 true 0 (P19.rowT r).1 out st).2.2 r.1 h4.1 h4.2.1
          have h6 := h4.2.2
          rw [if_pos rfl] at h6
          have h7 : (P19.rowT r).1.length ≤ r.2.2.length + 1 := htl
          omega
theorem all_len20 (s : List UInt8) : (P19.all s).1.length ≤ 80 * s.length + 16 := by
  unfold P19.all
  split
  · simp
  · have h1 := allR_len20 (rows17 s) true [] [0] 0 P19.row_zero (by decide)
    have h2 := P19.weight_le s
    simp only [List.length_nil] at h1
    omega
/-- the last token's line -/
def lastL (all : List Tk) : Int := (all.getLastD (0, [], 0, 0)).2.2.1
/-- what comes of a text -/
def PaR (s : List UInt8) (o : Except (Int × Int) T) : Prop :=
  if (P19.all s).2.1 ≠ 0 then o = .error (P19.all s).2 else if (P19.all s).1 = [] then o = .error (17, 0) else ∃ f, Rd (lastL (P19.all s).1) f (P19.all s).1 o
theorem PaR.total (s : List UInt8) : ∃ o, PaR s o := by
  unfold PaR
  split
  · exact ⟨_, rfl⟩
  · split
    · exact ⟨_, rfl⟩
    · obtain ⟨f, o, h⟩ := Rd.total (lastL (P19.all s).1) (P19.all s).1
      exact ⟨o, f, h⟩
end P20
end Go.Proofs.YtefokfbgpfcbkaaGreat
namespace Go.Proofs.YtefokfbgpfcbkaaGreat
set_option linter.unusedVariables false
set_option linter.unusedSimpArgs false
namespace P20
open P19 (turn close top adds)
/-- a token; is it a line's first; the kind of the one ahead in the line -/
abbrev Mk := Bool × Nat × Tk
/-- tokens, one by one -/
def runs : List Mk → List Tk → List Int → Int × List Tk × List Int
  | [], out, st => (0, out, st)
  | (b, k, t) :: r, out, st => if (turn b k t.2.2.1 t out st).1 ≠ 0 then ((turn b k t.2.2.1 t out st).1, [], []) else runs r (turn b k t.2.2.1 t out st).2.1 (turn b k t.2.2.1 t out st).2.2
theorem runs_eq (b : Bool) (k : Nat) (t : Tk) (r : List Mk) (out : List Tk) (st : List Int) : runs ((b, k, t) :: r) out st = if (turn b k t.2.2.1 t out st).1 ≠ 0 then ((turn b k t.2.2.1 t out st).1, [], []) else runs r (turn b k t.2.2.1 t out st).2.1 (turn b k t.2.2.1 t out st).2.2 := rfl
theorem runs_cons {b : Bool} {k : Nat} {t : Tk} {r : List Mk} {out o : List Tk} {st s : List Int} (h : turn b k t.2.2.1 t out st = (0, o, s)) : runs ((b, k, t) :: r) out st = runs r o s := by
  rw [runs_eq, h, if_neg (by simp)]
theorem runs_append : ∀ {a b : List Mk} {out o : List Tk} {st s : List Int}, runs a out st = (0, o, s) → runs (a ++ b) out st = runs b o s
  | [], b, out, o, st, s, h => by
    simp only [runs, Prod.mk.injEq, true_and] at h
    obtain ⟨rfl, rfl⟩ := h
    rfl
  | (c, k, t) :: a, b, out, o, st, s, h => by
    rw [runs_eq] at h
    rw [List.cons_append, runs_eq]
    by_cases h0 : (turn c k t.2.2.1 t out st).1 = 0
    · rw [if_neg (by simpa using h0)] at h ⊢
      exact runs_append h
    · rw [if_pos h0] at h
      injection h with h1 _
      exact absurd h1 h0
/-- the token of a node without kids -/
def leafTk (n c : Int) (k : Nat) (t : List UInt8) : Tk := if k = 2 then (6, [], n, c) else if k = 3 then (7, [], n, c) else (5, t, n, c)
mutual
/-- the tokens of a tree's lines -/
def T.ft (b : Bool) (k : Nat) (n c : Int) : T → List Mk
  | .mk kd t ks ds l => if ds.isEmpty = true then [(b, k, leafTk n c kd t)] else ftL kd b k n c ks ds
def ftL (kd : Nat) (b : Bool) (k : Nat) (n c : Int) : List (List UInt8) → List T → List Mk
  | _, [] => []
  | ks, d :: ds => if kd = 2 then (b, k, (3, [], n, c)) :: (d.ft false 3 n (c + 2) ++ ftL kd true 0 (n + d.lines.length) c ks.tail ds)
    else if d.kids.isEmpty = true then (b, k, (4, ks.headD [], n, c)) :: (false, 4, leafTk n (c + ((P18.put (ks.headD [])).length + 2 : Nat)) d.kind d.text) :: ftL kd true 0 (n + 1) c ks.tail ds
    else (b, k, (4, ks.headD [], n, c)) :: (d.ft true 0 (n + 1) (c + 2) ++ ftL kd true 0 (n + 1 + d.lines.length) c ks.tail ds)
end
theorem ftL_seq (b : Bool) (k : Nat) (n c : Int) (ks : List (List UInt8)) (d : T) (ds : List T) : ftL 2 b k n c ks (d :: ds) = (b, k, (3, [], n, c)) :: (d.ft false 3 n (c + 2) ++ ftL 2 true 0 (n + d.lines.length) c ks.tail ds) := by
  rw [ftL, if_pos rfl]
theorem ftL_leaf (b : Bool) (k : Nat) (n c : Int) (ks : List (List UInt8)) (d : T) (ds : List T) (h : d.kids.isEmpty = true) : ftL 3 b k n c ks (d :: ds) = (b, k, (4, ks.headD [], n, c)) :: (false, 4, leafTk n (c + ((P18.put (ks.headD [])).length + 2 : Nat)) d.kind d.text) :: ftL 3 true 0 (n + 1) c ks.tail ds := by
  rw [ftL, if_neg (by omega), if_pos h]
theorem ftL_key (b : Bool) (k : Nat) (n c : Int) (ks : List (List UInt8)) (d : T) (ds : List T) (h : ¬ d.kids.isEmpty = true) : ftL 3 b k n c ks (d :: ds) = (b, k, (4, ks.headD [], n, c)) :: (d.ft true 0 (n + 1) (c + 2) ++ ftL 3 true 0 (n + 1 + d.lines.length) c ks.tail ds) := by
  rw [ftL, if_neg (by omega), if_neg h]
theorem close_above (n tc c : Int) (s : List Int) : ∀ e : List Int, (∀ x ∈ e, c < x) → close n c tc (e ++ c :: s) = (List.replicate e.length (2, [], n, tc), c :: s)
  | [], h => by simp [close]
  | x :: e, h => by
    have ih := close_above n tc c s e (fun y hy => h y (List.mem_cons_of_mem _ hy))
    rw [List.cons_append]
    unfold close
    rw [if_pos (h x List.mem_cons_self), ih]
    rfl
/-- a line's first token where the node stands -/
theorem turn_back (k : Nat) (n c : Int) (t : Tk) (out : List Tk) (e s : List Int) (h : ∀ x ∈ e, c < x) (hc : t.2.2.2 = c) :
    turn true k n t out (e ++ c :: s) = (0, out ++ List.replicate e.length (2, [], n, c) ++ [t], c :: s) := by
  unfold turn
  cases e with
  | nil => simp [top, hc]
  | cons x e =>
    have h1 : top (x :: e ++ c :: s) = x := rfl
    have hx := h x List.mem_cons_self
    rw [h1, hc, close_above n c c s (x :: e) h, if_pos ⟨rfl, hx⟩, if_neg (by simp [top])]
/-- behind a dash a place is opened -/
theorem turn_dash (n c : Int) (t : Tk) (out : List Tk) (s : List Int) (hc : t.2.2.2 = c) (hs : s.length < 16) :
    turn false 3 n t out s = (0, out ++ [(1, [], n, c)] ++ [t], c :: s) := by
  unfold turn
  rw [if_neg (by simp), if_pos (.inr ⟨rfl, rfl⟩), if_neg (by omega), hc]
/-- a line that is moved in opens a place -/
theorem turn_in (k : Nat) (n c x : Int) (t : Tk) (out : List Tk) (s : List Int) (hc : t.2.2.2 = c) (hx : x < c) (hs : s.length + 1 < 16) :
    turn true k n t out (x :: s) = (0, out ++ [(1, [], n, c)] ++ [t], c :: x :: s) := by
  unfold turn
  have h1 : top (x :: s) = x := rfl
  rw [h1, hc, if_neg (by omega), if_pos (.inl ⟨rfl, hx⟩), if_neg (by simp; omega)]
/-- the second of two tokens in a line opens nothing behind a key -/
theorem turn_on (n : Int) (t : Tk) (out : List Tk) (s : List Int) : turn false 4 n t out s = (0, out ++ [t], s) := by
  unfold turn
  rw [if_neg (by simp), if_neg (by simp)]
theorem check_mk {k : Nat} {t : List UInt8} {ks : List (List UInt8)} {ds : List T} {l : Int} {lv : Nat} (h : T.check lv (.mk k t ks ds l) = 0) :
    lv ≤ 16 ∧ 1 ≤ k ∧ k ≤ 3 ∧ oddB k t ks.length ds.length = false ∧ P03.check t 4096 = 0 ∧ keysE [] ks = 0 ∧ checkL (lv + 1) ds = 0 := by
  unfold T.check at h
  by_cases hn : nodeE lv (.mk k t ks ds l) = 0
  · rw [if_neg (by simpa using hn)] at h
    simp only [nodeE] at hn
    split at hn
    · exact absurd hn (by decide)
    · split at hn
      · exact absurd hn (by decide)
      · split at hn
        · exact absurd hn (by decide)
        · split at hn
          · rename_i h4; exact absurd hn h4
          · rename_i h1 h2 h3 h4
            exact ⟨by omega, by omega, by omega, by simpa using h3, by simpa using h4, hn, h⟩
  · rw [if_pos hn] at h
    exact absurd h hn
theorem checkL_cons {d : T} {ds : List T} {lv : Nat} (h : checkL lv (d :: ds) = 0) : d.check lv = 0 ∧ checkL lv ds = 0 := by
  unfold checkL at h
  by_cases hd : d.check lv = 0
  · rw [if_neg (by simpa using hd)] at h
    exact ⟨hd, h⟩
  · rw [if_pos hd] at h
    exact absurd h hd
theorem keysE_cons {seen : List (List UInt8)} {k : List UInt8} {ks : List (List UInt8)} (h : keysE seen (k :: ks) = 0) : P03.check k 64 = 0 ∧ k ∉ seen ∧ keysE (seen ++ [k]) ks = 0 := by
  unfold keysE at h
  by_cases h1 : P03.check k 64 = 0
  · rw [if_neg (by simpa using h1)] at h
    by_cases h2 : k ∈ seen
    · rw [if_pos h2] at h
      exact absurd h (by decide)
    · rw [if_neg h2] at h
      exact ⟨h1, h2, h⟩
  · rw [if_pos h1] at h
    exact absurd h h1
theorem check_len {k : List UInt8} {m : Int} (h : P03.check k m = 0) : (k.length : Int) ≤ m := by
  unfold P03.check at h
  split at h
  · exact absurd h (by decide)
  · omega
/-- a node without kids is read -/
theorem leaf_val (last : Int) {k : Nat} {t : List UInt8} {ks : List (List UInt8)} {l : Int} {lv : Nat} (h : T.check lv (.mk k t ks [] l) = 0) (n c : Int) (r : List Tk) :
    ∃ d', Val last 1 lv (leafTk n c k t :: r) (.ok d' r) ∧ d'.same (.mk k t ks [] l) = true := by
  obtain ⟨h1, h2, h3, h4, h5, h6, _⟩ := check_mk h
  unfold oddB at h4
  by_cases k1 : k = 1
  · subst k1
    simp only [if_true, decide_eq_false_iff_not] at h4
    have : ks = [] := List.eq_nil_of_length_eq_zero (by simp only [List.length_nil] at h4; omega)
    subst this
    exact ⟨_, .word h1, by simp [T.same, sameL]⟩
  · by_cases k2 : k = 2
    · subst k2
      simp at h4
      obtain ⟨h7, h8⟩ := h4
      subst h7 h8
      exact ⟨_, .noseq h1, by simp [T.same, sameL]⟩
    · obtain rfl : k = 3 := by omega
      simp at h4
      obtain ⟨h7, h8⟩ := h4
      subst h7 h8
      exact ⟨_, .nomap h1, by simp [T.same, sameL]⟩
theorem rep_split (n : Nat) (x : Tk) : List.replicate (n + 1) x = List.replicate n x ++ [x] := List.replicate_succ'
theorem rep_kind {n : Nat} {x : Tk} (h : x.1 = 2) : ∀ t ∈ List.replicate n x, t.1 = 2 := fun t ht => by rw [(List.mem_replicate.1 ht).2]; exact h
theorem closes_split {cl : List Tk} {n : Nat} (h : cl.length = n + 1) (h2 : ∀ t ∈ cl, t.1 = 2) : ∃ a x, cl = a ++ [x] ∧ a.length = n ∧ (∀ t ∈ a, t.1 = 2) ∧ x.1 = 2 := by
  have hn : cl ≠ [] := by rintro rfl; simp at h
  refine ⟨cl.dropLast, cl.getLast hn, (List.dropLast_concat_getLast hn).symm, by rw [List.length_dropLast]; omega, fun t ht => h2 t (List.dropLast_subset _ ht), h2 _ (List.getLast_mem hn)⟩
/-- what is asked of the state in which a node's tokens come -/
def Enter (b : Bool) (k : Nat) (n c : Int) (out : List Tk) (st : List Int) (pre : List Tk) (st0 : List Int) : Prop := ∀ t : Tk, t.2.2.1 = n → t.2.2.2 = c → turn b k n t out st = (0, out ++ pre ++ [t], c :: st0)
theorem Enter.cons {b : Bool} {k : Nat} {n c : Int} {out pre : List Tk} {st st0 : List Int} (h : Enter b k n c out st pre st0) (t : Tk) (h1 : t.2.2.1 = n) (h2 : t.2.2.2 = c) (r : List Mk) : runs ((b, k, t) :: r) out st = runs r (out ++ pre ++ [t]) (c :: st0) := runs_cons (by rw [h1]; exact h t h1 h2)
theorem leafTk_at (n c : Int) (k : Nat) (t : List UInt8) : (leafTk n c k t).2.2.1 = n ∧ (leafTk n c k t).2.2.2 = c := by
  unfold leafTk
  split
  · exact ⟨rfl, rfl⟩
  · split <;> exact ⟨rfl, rfl⟩
theorem kind_two {x : Tk} {r : List Tk} (h : x.1 = 2) : kindOf (x :: r) = 2 := h
theorem wi_ok {last line n c : Int} {f lv : Nat} {y : Tk} {ts r : List Tk} {d : T} (h : Val last f lv ts (.ok d (y :: r))) (hy : y.1 = 2) : Wi last (f + 1) lv line ((1, [], n, c) :: ts) (.ok d r) := by
  obtain ⟨k, x, m, q⟩ := y
  obtain rfl : k = 2 := hy
  exact .ok h
mutual
theorem T.ft_node (last : Int) : ∀ (d : T) (lv : Nat) (b : Bool) (k : Nat) (n c : Int) (out pre : List Tk) (st st0 : List Int), d.check lv = 0 → st0.length + 1 = lv → Enter b k n c out st pre st0 →
    ∃ body ext, runs (d.ft b k n c) out st = (0, out ++ pre ++ body, ext ++ c :: st0) ∧ (∀ x ∈ ext, c < x) ∧
      ∀ cl r, cl.length = ext.length → (∀ t ∈ cl, t.1 = 2) → (kindOf r = 2 ∨ kindOf r = 0) → ∃ f d', Val last f lv (body ++ (cl ++ r)) (.ok d' r) ∧ d'.same d = true
  | .mk kd t ks ds l, lv, b, k, n, c, out, pre, st, st0, hc, hs, he => by
    obtain ⟨h1, h2, h3, h4, h5, h6, h7⟩ := check_mk hc
    have hS := ftSeq last ds lv b k n c ks out pre st st0
    have hK := ftKey last ds lv b k n c [] ks out pre st st0
    by_cases hd : ds = []
    · subst hd
      refine ⟨[leafTk n c kd t], [], ?_, by simp, fun cl r hl _ _ => ?_⟩
      · unfold T.ft
        rw [if_pos (by rfl), he.cons _ (leafTk_at n c kd t).1 (leafTk_at n c kd t).2]
        rfl
      · obtain rfl := List.eq_nil_of_length_eq_zero hl
        obtain ⟨d', hv, hsm⟩ := leaf_val last hc n c r
        exact ⟨1, d', hv, hsm⟩
    · have hne : ¬ ds.isEmpty = true := by simpa using hd
      have hp := List.length_pos_iff.2 hd
      have hft : T.ft b k n c (.mk kd t ks ds l) = ftL kd b k n c ks ds := by unfold T.ft; rw [if_neg hne]
      rw [hft]
      unfold oddB at h4
      by_cases k1 : kd = 1
      · exfalso
        subst k1
        simp at h4
        exact hd h4.2
      · rw [if_neg k1] at h4
        by_cases k2 : kd = 2
        · subst k2
          simp at h4
          obtain ⟨h8, h9⟩ := h4
          subst h8 h9
          obtain ⟨body, ext, e1, e2, e3⟩ := hS hd h7 h1 hs he
          refine ⟨_, ext, e1, e2, fun cl r hl hk hr => ?_⟩
          obtain ⟨f, ds', hq, hsm⟩ := e3 cl r hl hk hr []
          exact ⟨f + 1, .mk 2 [] [] ds' n, .seq h1 hq, by simp [T.same, hsm]⟩
        · obtain rfl : kd = 3 := by omega
          simp at h4
          obtain ⟨h8, h9⟩ := h4
          subst h8
          obtain ⟨body, ext, e1, e2, e3⟩ := hK hd h9 h6 h7 h1 hs he
          refine ⟨_, ext, e1, e2, fun cl r hl hk hr => ?_⟩
          obtain ⟨f, ds', hq, hsm⟩ := e3 cl r hl hk hr []
          exact ⟨f + 1, .mk 3 [] ks ds' n, .keys h1 hq, by simp [T.same, hsm]⟩
theorem ftSeq (last : Int) : ∀ (ds : List T) (lv : Nat) (b : Bool) (k : Nat) (n c : Int) (ks : List (List UInt8)) (out pre : List Tk) (st st0 : List Int), ds ≠ [] → checkL (lv + 1) ds = 0 → lv ≤ 16 → st0.length + 1 = lv → Enter b k n c out st pre st0 →
    ∃ body ext, runs (ftL 2 b k n c ks ds) out st = (0, out ++ pre ++ ((3, [], n, c) :: body), ext ++ c :: st0) ∧ (∀ x ∈ ext, c < x) ∧
      ∀ cl r, cl.length = ext.length → (∀ t ∈ cl, t.1 = 2) → (kindOf r = 2 ∨ kindOf r = 0) → ∀ acc, ∃ f ds', Sq last f (lv + 1) acc ((3, [], n, c) :: body ++ (cl ++ r)) (.ok (acc ++ ds') r) ∧ sameL ds' ds = true
  | [], lv, b, k, n, c, ks, out, pre, st, st0, hn, hc, hl, hs, he => absurd rfl hn
  | d :: ds, lv, b, k, n, c, ks, out, pre, st, st0, hn, hc, hl, hs, he => by
    obtain ⟨hd, hds⟩ := checkL_cons hc
    have hlv : lv + 1 ≤ 16 := by cases d; exact (check_mk hd).1
    have hE1 : Enter false 3 n (c + 2) (out ++ pre ++ [(3, [], n, c)]) (c :: st0) [(1, [], n, c + 2)] (c :: st0) := fun t h1 h2 => turn_dash n (c + 2) t _ _ h2 (by simp; omega)
    obtain ⟨body1, ext1, e1, e2, e3⟩ := T.ft_node last d (lv + 1) false 3 n (c + 2) (out ++ pre ++ [(3, [], n, c)]) [(1, [], n, c + 2)] (c :: st0) (c :: st0) hd (by simp; omega) hE1
    have hgt : ∀ x ∈ ext1 ++ [c + 2], c < x := fun x hx => by
      rcases List.mem_append.1 hx with hx | hx
      · have := e2 x hx; omega
      · rw [List.mem_singleton.1 hx]; omega
    have hrun : runs (ftL 2 b k n c ks (d :: ds)) out st = runs (ftL 2 true 0 (n + d.lines.length) c ks.tail ds) (out ++ pre ++ [(3, [], n, c)] ++ [(1, [], n, c + 2)] ++ body1) (ext1 ++ [c + 2] ++ c :: st0) := by
      rw [ftL_seq, he.cons (3, [], n, c) rfl rfl, runs_append e1]
      simp only [List.append_assoc, List.cons_append, List.nil_append]
    cases ds with
    | nil =>
      refine ⟨(1, [], n, c + 2) :: body1, ext1 ++ [c + 2], ?_, hgt, fun cl r hcl hk hr acc => ?_⟩
      · rw [hrun]
        simp only [ftL, runs, List.append_assoc, List.cons_append, List.nil_append]
      · obtain ⟨a, x, rfl, ha, ha2, hx⟩ := closes_split (by simpa using hcl) hk
        obtain ⟨f, d', hv, hsm⟩ := e3 a (x :: r) ha ha2 (.inl (kind_two hx))
        refine ⟨f + 1 + 1, [d'], ?_, by simp [sameL, hsm]⟩
        have hw : Wi last (f + 1) (lv + 1) n ((1, [], n, c + 2) :: (body1 ++ (a ++ x :: r))) (.ok d' r) := wi_ok hv hx
        have hq : Sq last (f + 1) (lv + 1) (acc ++ [d']) r (.ok (acc ++ [d']) r) := .done (by omega)
        have := Sq.next (x := []) (c := c) hw hq
        simpa only [List.append_assoc, List.cons_append, List.nil_append] using this
    | cons d2 ds =>
      have hE2 : Enter true 0 (n + d.lines.length) c (out ++ pre ++ [(3, [], n, c)] ++ [(1, [], n, c + 2)] ++ body1) (ext1 ++ [c + 2] ++ c :: st0) (List.replicate (ext1 ++ [c + 2]).length (2, [], n + d.lines.length, c)) st0 := fun t h1 h2 => turn_back 0 _ c t _ _ _ hgt h2
      obtain ⟨body2, ext2, g1, g2, g3⟩ := ftSeq last (d2 :: ds) lv true 0 (n + d.lines.length) c ks.tail _ _ _ st0 (by simp) hds hl hs hE2
      refine ⟨(1, [], n, c + 2) :: (body1 ++ (List.replicate (ext1 ++ [c + 2]).length (2, [], n + d.lines.length, c) ++ (3, [], n + d.lines.length, c) :: body2)), ext2, ?_, g2, fun cl r hcl hk hr acc => ?_⟩
      · rw [hrun, g1]
        simp only [List.append_assoc, List.cons_append, List.nil_append]
      · rw [List.length_append, show ([c + 2] : List Int).length = 1 from rfl, rep_split]
        obtain ⟨f, d', hv, hsm⟩ := e3 (List.replicate ext1.length (2, [], n + d.lines.length, c)) ((2, [], n + d.lines.length, c) :: ((3, [], n + d.lines.length, c) :: body2 ++ (cl ++ r))) (by simp) (rep_kind rfl) (.inl rfl)
        obtain ⟨f2, ds', hq, hsm2⟩ := g3 cl r hcl hk hr (acc ++ [d'])
        refine ⟨f + f2 + 1 + 1, d' :: ds', ?_, by simp [sameL, hsm, hsm2]⟩
        have hw : Wi last (f + 1) (lv + 1) n ((1, [], n, c + 2) :: (body1 ++ (List.replicate ext1.length (2, [], n + d.lines.length, c) ++ (2, [], n + d.lines.length, c) :: ((3, [], n + d.lines.length, c) :: body2 ++ (cl ++ r))))) (.ok d' ((3, [], n + d.lines.length, c) :: body2 ++ (cl ++ r))) := wi_ok hv rfl
        have := Sq.next (x := []) (c := c) (hw.up (show f + 1 ≤ f + f2 + 1 by omega)) (hq.up (show f2 ≤ f + f2 + 1 by omega))
        simpa only [List.append_assoc, List.cons_append, List.nil_append] using this
theorem ftKey (last : Int) : ∀ (ds : List T) (lv : Nat) (b : Bool) (k : Nat) (n c : Int) (seen ks : List (List UInt8)) (out pre : List Tk) (st st0 : List Int), ds ≠ [] → ks.length = ds.length → keysE seen ks = 0 → checkL (lv + 1) ds = 0 → lv ≤ 16 → st0.length + 1 = lv → Enter b k n c out st pre st0 →
    ∃ body ext, runs (ftL 3 b k n c ks ds) out st = (0, out ++ pre ++ ((4, ks.headD [], n, c) :: body), ext ++ c :: st0) ∧ (∀ x ∈ ext, c < x) ∧
      ∀ cl r, cl.length = ext.length → (∀ t ∈ cl, t.1 = 2) → (kindOf r = 2 ∨ kindOf r = 0) → ∀ acc, ∃ f ds', Ky last f (lv + 1) seen acc ((4, ks.headD [], n, c) :: body ++ (cl ++ r)) (.ok (seen ++ ks, acc ++ ds') r) ∧ sameL ds' ds = true
  | [], lv, b, k, n, c, seen, ks, out, pre, st, st0, hn, hkl, hke, hc, hl, hs, he => absurd rfl hn
  | d :: ds, lv, b, k, n, c, seen, [], out, pre, st, st0, hn, hkl, hke, hc, hl, hs, he => by simp at hkl
  | d :: ds, lv, b, k, n, c, seen, key :: ks, out, pre, st, st0, hn, hkl, hke, hc, hl, hs, he => by
    obtain ⟨hd, hds⟩ := checkL_cons hc
    obtain ⟨q1, q2, q3⟩ := keysE_cons hke
    have hk64 : key.length ≤ 64 := by have := check_len q1; omega
    have hlv : lv + 1 ≤ 16 := by cases d; exact (check_mk hd).1
    simp only [List.length_cons, Nat.add_right_cancel_iff] at hkl
    have hend : ∀ (r : List Tk) (acc : List T), (kindOf r = 2 ∨ kindOf r = 0) → Ky last 1 (lv + 1) (seen ++ [key]) acc r (.ok (seen ++ [key], acc) r) := fun r acc hr => .done (by omega)
    by_cases hleaf : d.kids.isEmpty = true
    · obtain ⟨kd, t, ks', dk, l⟩ := d
      simp only [T.kids] at hleaf
      have hdk : dk = [] := by simpa using hleaf
      subst hdk
      obtain ⟨W, hW⟩ : ∃ W : Int, c + ((P18.put key).length + 2 : Nat) = W := ⟨_, rfl⟩
      have hlk := fun r => leaf_val last hd n W r
      have hq := leafTk_at n W kd t
      obtain ⟨lt, hlt⟩ : ∃ lt, leafTk n W kd t = lt := ⟨_, rfl⟩
      have hkind : 5 ≤ lt.1 ∧ lt.1 ≤ 7 := by
        rw [← hlt]; unfold leafTk
        split
        · exact ⟨Nat.le_succ _, Nat.le_succ _⟩
        · split
          · exact ⟨Nat.le_add_right 5 2, Nat.le_refl _⟩
          · exact ⟨Nat.le_refl _, Nat.le_add_right 5 2⟩
      rw [hlt] at hq
      simp only [hlt] at hlk
      have hrun : runs (ftL 3 b k n c (key :: ks) (.mk kd t ks' [] l :: ds)) out st = runs (ftL 3 true 0 (n + 1) c ks ds) (out ++ pre ++ [(4, key, n, c)] ++ [lt]) ([] ++ c :: st0) := by
        rw [ftL_leaf _ _ _ _ _ _ _ rfl]
        simp only [List.headD_cons, List.tail_cons, T.kind, T.text]
        rw [he.cons (4, key, n, c) rfl rfl, hW, hlt, runs_cons (turn_on _ _ _ _)]
        rfl
      have hinl : ∀ r, 5 ≤ kindOf (lt :: r) ∧ kindOf (lt :: r) ≤ 7 ∧ hereL last (lt :: r) = n := fun r => ⟨hkind.1, hkind.2, hq.1⟩
      cases ds with
      | nil =>
        obtain rfl : ks = [] := List.eq_nil_of_length_eq_zero hkl
        refine ⟨[lt], [], ?_, by simp, fun cl r hcl hk hr acc => ?_⟩
        · rw [hrun]
          simp only [ftL, runs, List.append_assoc, List.cons_append, List.nil_append, List.headD_cons]
        · obtain rfl := List.eq_nil_of_length_eq_zero hcl
          obtain ⟨d', hv, hsm⟩ := hlk r
          exact ⟨2, [d'], .inl hk64 q2 (hinl r) hv (hend r _ hr), by simp [sameL, hsm]⟩
      | cons d2 ds =>
        have hE2 : Enter true 0 (n + 1) c (out ++ pre ++ [(4, key, n, c)] ++ [lt]) ([] ++ c :: st0) [] st0 := fun t h1 h2 => turn_back 0 _ c t _ [] st0 (by simp) h2
        obtain ⟨body2, ext2, g1, g2, g3⟩ := ftKey last (d2 :: ds) lv true 0 (n + 1) c (seen ++ [key]) ks _ _ _ st0 (by simp) hkl q3 hds hl hs hE2
        refine ⟨lt :: (4, ks.headD [], n + 1, c) :: body2, ext2, ?_, g2, fun cl r hcl hk hr acc => ?_⟩
        · rw [hrun, g1]
          simp only [List.append_assoc, List.cons_append, List.nil_append, List.headD_cons]
        · obtain ⟨d', hv, hsm⟩ := hlk ((4, ks.headD [], n + 1, c) :: body2 ++ (cl ++ r))
          obtain ⟨f2, ds', hq2, hsm2⟩ := g3 cl r hcl hk hr (acc ++ [d'])
          refine ⟨f2 + 1 + 1, d' :: ds', ?_, by simp [sameL, hsm, hsm2]⟩
          have := Ky.inl (c := c) hk64 q2 (hinl _) (hv.up (show 1 ≤ f2 + 1 by omega)) (hq2.up (show f2 ≤ f2 + 1 by omega))
          simpa only [List.append_assoc, List.cons_append, List.nil_append, List.headD_cons] using this
    · have hE1 : Enter true 0 (n + 1) (c + 2) (out ++ pre ++ [(4, key, n, c)]) (c :: st0) [(1, [], n + 1, c + 2)] (c :: st0) := fun t h1 h2 => turn_in 0 (n + 1) (c + 2) c t _ _ h2 (by omega) (by omega)
      obtain ⟨body1, ext1, e1, e2, e3⟩ := T.ft_node last d (lv + 1) true 0 (n + 1) (c + 2) (out ++ pre ++ [(4, key, n, c)]) [(1, [], n + 1, c + 2)] (c :: st0) (c :: st0) hd (by simp; omega) hE1
      have hgt : ∀ x ∈ ext1 ++ [c + 2], c < x := fun x hx => by
        rcases List.mem_append.1 hx with hx | hx
        · have := e2 x hx; omega
        · rw [List.mem_singleton.1 hx]; omega
      have hrun : runs (ftL 3 b k n c (key :: ks) (d :: ds)) out st = runs (ftL 3 true 0 (n + 1 + d.lines.length) c ks ds) (out ++ pre ++ [(4, key, n, c)] ++ [(1, [], n + 1, c + 2)] ++ body1) (ext1 ++ [c + 2] ++ c :: st0) := by
        rw [ftL_key _ _ _ _ _ _ _ hleaf]
        simp only [List.headD_cons, List.tail_cons]
        rw [he.cons (4, key, n, c) rfl rfl, runs_append e1]
        simp only [List.append_assoc, List.cons_append, List.nil_append]
      have hninl : ∀ r, ¬ (5 ≤ kindOf ((1, [], n + 1, c + 2) :: r) ∧ kindOf ((1, [], n + 1, c + 2) :: r) ≤ 7 ∧ hereL last ((1, [], n + 1, c + 2) :: r) = n) := fun r h => by have := h.1; simp [kindOf] at this
      cases ds with
      | nil =>
        obtain rfl : ks = [] := List.eq_nil_of_length_eq_zero hkl
        refine ⟨(1, [], n + 1, c + 2) :: body1, ext1 ++ [c + 2], ?_, hgt, fun cl r hcl hk hr acc => ?_⟩
        · rw [hrun]
          simp only [ftL, runs, List.append_assoc, List.cons_append, List.nil_append, List.headD_cons]
        · obtain ⟨a, x, rfl, ha, ha2, hx⟩ := closes_split (by simpa using hcl) hk
          obtain ⟨f, d', hv, hsm⟩ := e3 a (x :: r) ha ha2 (.inl (kind_two hx))
          have hw : Wi last (f + 1) (lv + 1) n ((1, [], n + 1, c + 2) :: (body1 ++ (a ++ x :: r))) (.ok d' r) := wi_ok hv hx
          refine ⟨f + 1 + 1, [d'], ?_, by simp [sameL, hsm]⟩
          have := Ky.wi (c := c) hk64 q2 (hninl _) hw ((hend r (acc ++ [d']) hr).up (show 1 ≤ f + 1 by omega))
          simpa only [List.append_assoc, List.cons_append, List.nil_append, List.headD_cons] using this
      | cons d2 ds =>
        have hE2 : Enter true 0 (n + 1 + d.lines.length) c (out ++ pre ++ [(4, key, n, c)] ++ [(1, [], n + 1, c + 2)] ++ body1) (ext1 ++ [c + 2] ++ c :: st0) (List.replicate (ext1 ++ [c + 2]).length (2, [], n + 1 + d.lines.length, c)) st0 := fun t h1 h2 => turn_back 0 _ c t _ _ _ hgt h2
        obtain ⟨body2, ext2, g1, g2, g3⟩ := ftKey last (d2 :: ds) lv true 0 (n + 1 + d.lines.length) c (seen ++ [key]) ks _ _ _ st0 (by simp) hkl q3 hds hl hs hE2
        refine ⟨(1, [], n + 1, c + 2) :: (body1 ++ (List.replicate (ext1 ++ [c + 2]).length (2, [], n + 1 + d.lines.length, c) ++ (4, ks.headD [], n + 1 + d.lines.length, c) :: body2)), ext2, ?_, g2, fun cl r hcl hk hr acc => ?_⟩
        · rw [hrun, g1]
          simp only [List.append_assoc, List.cons_append, List.nil_append, List.headD_cons]
        · rw [List.length_append, show ([c + 2] : List Int).length = 1 from rfl, rep_split]
          obtain ⟨f, d', hv, hsm⟩ := e3 (List.replicate ext1.length (2, [], n + 1 + d.lines.length, c)) ((2, [], n + 1 + d.lines.length, c) :: ((4, ks.headD [], n + 1 + d.lines.length, c) :: body2 ++ (cl ++ r))) (by simp) (rep_kind rfl) (.inl rfl)
          obtain ⟨f2, ds', hq, hsm2⟩ := g3 cl r hcl hk hr (acc ++ [d'])
          refine ⟨f + f2 + 1 + 1, d' :: ds', ?_, by simp [sameL, hsm, hsm2]⟩
          have hw : Wi last (f + 1) (lv + 1) n ((1, [], n + 1, c + 2) :: (body1 ++ (List.replicate ext1.length (2, [], n + 1 + d.lines.length, c) ++ (2, [], n + 1 + d.lines.length, c) :: ((4, ks.headD [], n + 1 + d.lines.length, c) :: body2 ++ (cl ++ r))))) (.ok d' ((4, ks.headD [], n + 1 + d.lines.length, c) :: body2 ++ (cl ++ r))) := wi_ok hv rfl
          have := Ky.wi (c := c) hk64 q2 (hninl _) (hw.up (show f + 1 ≤ f + f2 + 1 by omega)) (hq.up (show f2 ≤ f + f2 + 1 by omega))
          simpa only [List.append_assoc, List.cons_append, List.nil_append, List.headD_cons] using this
end
end P20
end Go.Proofs.YtefokfbgpfcbkaaGreat
namespace Go.Proofs.YtefokfbgpfcbkaaGreat
set_option linter.unusedVariables false
set_option linter.unusedSimpArgs false
open Go.RowKit
/-- the tokens ts lie from an address on -/
def InT (W : World) (a : Option Addr) (ts : List Tk) : Prop := ∀ i t, ts[i]? = some t → ∃ b o, a = some ⟨b, o, none⟩ ∧
  W.cell? ⟨b, o + i * 4, none⟩ = some (.int .u8 t.1) ∧ W.cell? ⟨b, o + i * 4 + 1, none⟩ = some (.string ⟨t.2.1.toArray⟩) ∧ W.cell? ⟨b, o + i * 4 + 2, none⟩ = some (.int .i64 t.2.2.1) ∧ W.cell? ⟨b, o + i * 4 + 3, none⟩ = some (.int .i64 t.2.2.2)
theorem InT.keep {W W' : World} {a : Option Addr} {ts : List Tk} (h : InT W a ts) (hb : ∀ r, ts ≠ [] → blockOf a r → W'.heap[r]? = W.heap[r]?) : InT W' a ts := by
  intro i t ht
  obtain ⟨b, o, rfl, h0, h1, h2, h3⟩ := h i t ht
  have hk := hb b (by rintro rfl; simp at ht) ⟨o, rfl⟩
  exact ⟨b, o, rfl, (cell_of_block hk _).trans h0, (cell_of_block hk _).trans h1, (cell_of_block hk _).trans h2, (cell_of_block hk _).trans h3⟩
/-- the last token's line -/
def lastLn (all : List Tk) : Int := (all.getLastD (0, [], 0, 0)).2.2.1
/-- the call panics with a fault -/
abbrev faultP (e l : Int) : Ending := .panicked [{ v := .iface 127 (.agg #[.int .i64 e, .int .i64 l]), recovered := false }]
theorem hmx0 : Tryz.prog.follows .mixedOrders = true := by kernel_rfl
/-- the token that is next, or the last one -/
def hereT (all : List Tk) : List Tk → Tk
  | [] => all.getLastD (0, [], 0, 0)
  | t :: _ => t
theorem here_line (all ts : List Tk) : (hereT all ts).2.2.1 = P20.hereL (lastLn all) ts := by cases ts <;> rfl
/-- only block rb has turned, and what is new -/
theorem only_below {w w' : World} (rb : Nat) (h : Below w.heap.size w w') : w.grownBy w' (some rb) := grown_of_below h _
theorem tail_at {W : World} {a' : Option Addr} {t : Tk} {r : List Tk} {c' : Nat} (h : InT W a' (t :: r)) (hc : (t :: r).length ≤ c') {b o : Nat} (he : a' = some ⟨b, o, none⟩) :
    InT W (if c' = 1 then some ⟨b, o, none⟩ else some ⟨b, o + 4, none⟩) r := by
  intro i u hu
  obtain ⟨b2, o2, e, h0, h1, h2, h3⟩ := h (i + 1) u (by simpa using hu)
  rw [he] at e
  injection e with e
  injection e with e1 e2
  subst e1
  subst e2
  have hl : 0 < r.length := by have := (List.getElem?_eq_some_iff.1 hu).1; omega
  simp only [List.length_cons] at hc
  rw [if_neg (by omega)]
  refine ⟨b, o + 4, rfl, ?_⟩
  rw [show o + (i + 1) * 4 = o + 4 + i * 4 from by omega] at h0 h1 h2 h3
  exact ⟨h0, h1, h2, h3⟩
theorem InT.lt {W : World} {a : Option Addr} {l : List Tk} (hi : InT W a l) : ∀ r, l ≠ [] → blockOf a r → r < W.heap.size := by
  intro r hn ho
  cases l with
  | nil => exact absurd rfl hn
  | cons t l =>
    obtain ⟨b, o, e, c0, _⟩ := hi 0 t rfl
    obtain ⟨o', e'⟩ := ho
    rw [e] at e'
    injection e' with e'
    injection e' with e'
    subst e'
    exact cellLt c0
theorem InT.grown {W W' : World} {a : Option Addr} {l : List Tk} {rb : Nat} (hi : InT W a l) (hg : W.grownBy W' (some rb)) (hn : ¬ blockOf a rb) : InT W' a l :=
  hi.keep (fun r hr ho => hg.block r (hi.lt r hr ho) (fun e => by cases e; exact hn ho))
theorem grown_trans1 {A B C : World} {row : Option Nat} (h : A.grownBy B row) (k : B.grownBy C row) : A.grownBy C row :=
  ⟨k.os.trans h.os, k.tape.trans h.tape, k.output.trans h.output, Nat.le_trans h.size k.size, fun i hi hne => (k.block i (Nat.lt_of_lt_of_le hi h.size) hne).trans (h.block i hi hne)⟩
theorem grown_drew {A B : World} {row : Option Nat} (h : A.grownBy B row) : A.grownBy B.drew row := ⟨h.os, h.tape, h.output, h.size, h.block⟩
theorem grown_new {A B : World} {row : Option Nat} (h : A.grownBy B row) {g i : Nat} (hg : A.heap.size ≤ g) (v : Value) : A.grownBy (B.setCell ⟨g, i, none⟩ v) row :=
  ⟨h.os, h.tape, h.output, by simpa [World.setCell] using h.size, fun j hj hne => (Below.heap_setCell _ _ _ _ (by show j ≠ g; omega)).trans (h.block j hj hne)⟩
end Go.Proofs.YtefokfbgpfcbkaaGreat
namespace Go.Proofs.YtefokfbgpfcbkaaGreat
set_option linter.unusedVariables false
set_option linter.unusedSimpArgs false
open Go.RowKit
def ndCells (ds : List Nd) : List Value := ds.flatMap Nd.cs
theorem ndCells_append (a b : List Nd) : ndCells (a ++ b) = ndCells a ++ ndCells b := by simp [ndCells]
theorem ndInfo : (Tryz.prog.info? 61).map (fun i => (i.zero, i.size, i.bytes)) = some (some (.agg #[.int .u8 0, .string ⟨#[]⟩, .slice none 0 0, .slice none 0 0, .int .i64 0]), 5, 80) := by kernel_rfl
theorem ndCells_len : ∀ ds : List Nd, (ndCells ds).length = ds.length * 5
  | [] => rfl
  | d :: ds => by
    have ih := ndCells_len ds
    have e : ndCells (d :: ds) = d.cs ++ ndCells ds := rfl
    rw [e, List.length_append, ih, List.length_cons]
    show 5 + _ = _
    omega
theorem nd_one : ∀ (ds : List Nd), ∀ u ∈ ndCells ds, u.oneCell' = true := by
  intro ds u hu
  simp only [ndCells, List.mem_flatMap] at hu
  obtain ⟨d, _, hd⟩ := hu
  simp only [Nd.cs, List.mem_cons, List.not_mem_nil, or_false] at hd
  rcases hd with rfl | rfl | rfl | rfl | rfl <;> rfl
theorem ndCells_get : ∀ (ds : List Nd) (i : Nat) (d : Nd), ds[i]? = some d → ∀ j, j < 5 → (ndCells ds)[i * 5 + j]? = d.cs[j]?
  | [], i, d, h, j, hj => by simp at h
  | e :: ds, 0, d, h, j, hj => by
    simp only [List.getElem?_cons_zero, Option.some.injEq] at h
    subst h
    have e1 : ndCells (e :: ds) = e.cs ++ ndCells ds := rfl
    rw [e1, Nat.zero_mul, Nat.zero_add, List.getElem?_append_left (by show j < 5; exact hj)]
  | e :: ds, i + 1, d, h, j, hj => by
    have ih := ndCells_get ds i d (by simpa using h) j hj
    have e1 : ndCells (e :: ds) = e.cs ++ ndCells ds := rfl
    have el : e.cs.length = 5 := rfl
    rw [e1, List.getElem?_append_right (by omega), el, show (i + 1) * 5 + j - 5 = i * 5 + j from by omega]
    exact ih
/-- the slice v owns the nodes ds; their own parts are new, too, and lie elsewhere -/
structure Kids (W : World) (B : Nat) (v : Value) (ds : List Nd) : Prop where
  own : W.ownsRow B 61 5 v ds.length (ndCells ds)
  ins : ∀ d ∈ ds, d.In W
  new : ∀ d ∈ ds, ∀ g, d.blk g → B ≤ g
  sep : ∀ d ∈ ds, ∀ g, d.blk g → v.ownBlock ≠ some g
theorem own_block_lt {W : World} {B size n : Nat} {e : TypeId} {v : Value} {xs : List Value} (h : W.ownsRow B e size v n xs) : ∀ g, v.ownBlock = some g → B ≤ g ∧ g < W.heap.size := by
  intro g hg
  rcases h.2 with ⟨rfl, _⟩ | ⟨g2, cap, cur, rfl, hb, hh, _⟩
  · cases hg
  · cases hg
    exact ⟨hb, (Array.getElem?_eq_some_iff.1 hh).1⟩
theorem own_keep {W W' : World} {B size n : Nat} {e : TypeId} {v : Value} {xs : List Value} (h : W.ownsRow B e size v n xs) (hk : ∀ g, v.ownBlock = some g → W'.heap[g]? = W.heap[g]?) : W'.ownsRow B e size v n xs := by
  refine ⟨h.1, ?_⟩
  rcases h.2 with h0 | ⟨g, cap, cur, rfl, hb, hh, hr⟩
  · exact .inl h0
  · exact .inr ⟨g, cap, cur, rfl, hb, (hk g rfl).trans hh, hr⟩
theorem Kids.nil (W : World) (B : Nat) : Kids W B (.slice none 0 0) [] := ⟨⟨rfl, .inl ⟨rfl, rfl⟩⟩, by simp, by simp, by simp⟩
theorem Kids.keep {W W' : World} {B : Nat} {v : Value} {ds : List Nd} (h : Kids W B v ds) (hr : ∀ g, v.ownBlock = some g → W'.heap[g]? = W.heap[g]?) (hd : ∀ d ∈ ds, ∀ g, d.blk g → W'.heap[g]? = W.heap[g]?) : Kids W' B v ds :=
  ⟨own_keep h.own hr, fun d hm => (h.ins d hm).keep (hd d hm), h.new, h.sep⟩
theorem Kids.grown {W W' : World} {B : Nat} {v : Value} {ds : List Nd} {row : Option Nat} (h : Kids W B v ds) (hg : W.grownBy W' row) (hr : ∀ g, row = some g → v.ownBlock ≠ some g ∧ ∀ d ∈ ds, ¬ d.blk g) : Kids W' B v ds :=
  h.keep (fun g hv => hg.block g (own_block_lt h.own g hv).2 (fun e => (hr g e.symm).1 hv)) (fun d hm g hb => hg.block g ((h.ins d hm).lt hb) (fun e => (hr g e.symm).2 d hm hb))
theorem Kids.old {W W' : World} {B : Nat} {v : Value} {ds : List Nd} {rb : Nat} (h : Kids W B v ds) (hg : W.grownBy W' (some rb)) (hr : rb < B) : Kids W' B v ds :=
  h.grown hg (fun g e => by cases e; exact ⟨fun e => by have := (own_block_lt h.own _ e).1; omega, fun d hm hb => by have := h.new d hm _ hb; omega⟩)
theorem Kids.alloc {W : World} {B : Nat} {v : Value} {ds : List Nd} (h : Kids W B v ds) (o : Obj) : Kids (W.alloc o) B v ds := h.grown (World.grownBy_alloc W o none) (fun g e => by cases e)
theorem Kids.slice {W : World} {B : Nat} {v : Value} {ds : List Nd} (h : Kids W B v ds) : ∃ a c, v = .slice a ds.length c ∧ ds.length ≤ c ∧ c ≤ maxLen ∧ InL W a 0 ds ∧ (∀ g, blkL g ds → B ≤ g) ∧ (∀ g, ds ≠ [] → blockOf a g → B ≤ g) := by
  obtain ⟨ho, hi, hn, hs⟩ := h
  have hnew : ∀ g, blkL g ds → B ≤ g := fun g hb => by obtain ⟨d, hm, hd⟩ := (blkL_iff g ds).1 hb; exact hn d hm g hd
  rcases ho.2 with ⟨rfl, h0⟩ | ⟨g, cap, cur, rfl, hb, hh, hc, hm, hsz, htk⟩
  · have : ds = [] := List.eq_nil_of_length_eq_zero h0
    subst this
    exact ⟨none, 0, rfl, Nat.le_refl _, Nat.zero_le _, trivial, hnew, fun g hn => absurd rfl hn⟩
  · refine ⟨_, cap, rfl, hc, hm, inL_mk (fun j d hj => ⟨⟨g, 0, rfl, ?_⟩, hi d (List.mem_of_getElem? hj)⟩), hnew, fun g' _ ho => ?_⟩
    · have hcell : ∀ i, i < 5 → W.cell? ⟨g, j * 5 + i, none⟩ = d.cs[i]? := by
        intro i hi5
        have hjl := (List.getElem?_eq_some_iff.1 hj).1
        have h1 := ndCells_get ds j d hj i hi5
        rw [← htk, List.getElem?_take_of_lt (by omega)] at h1
        rw [← h1]
        rw [cell_of_row W g (j * 5 + i) cur _ (0, 0) hh]
        simp
      simp only [Nat.zero_add]
      exact ⟨hcell 0 (by omega), hcell 1 (by omega), hcell 2 (by omega), hcell 3 (by omega), hcell 4 (by omega)⟩
    · obtain ⟨o, e⟩ := ho
      cases e
      exact hb
theorem wpList_appNode {w : World} {B : Nat} {v : Value} {ds : List Nd} {nd : Nd} {cs : Array Value} {ops : Array Oper} {rest : List Oper} {o : Oper} {a : Act} {Q : Exit → Act → World → Prop} (hgd : o.guard = none) (s x : Operand)
    (ho : o.op = .call { callee := .builtin .append, args := #[s, x], argTypes := #[59, 59] })
    (hs : a.eval s = v) (hk : Kids w B v ds) (hcs : cs.toList = nd.cs) (hin : nd.In w) (hnew : ∀ g, nd.blk g → B ≤ g) (hsep : ∀ g, nd.blk g → v.ownBlock ≠ some g)
    (hx : a.eval x = .slice (some ⟨w.heap.size, 0, none⟩) 1 1) (hlen : ds.length + 1 ≤ 1000000000) (hB : B ≤ w.heap.size)
    (h : ∀ v' w', Kids w' B v' (ds ++ [nd]) → w.grownBy w' v.ownBlock → (v'.ownBlock = v.ownBlock ∨ ∃ g, v'.ownBlock = some g ∧ w.heap.size ≤ g) → wpList Tryz.prog ops Q rest (a.put o.dst v') w') :
    wpList Tryz.prog ops Q (o :: rest) a (w.alloc (.cells cs 61)) := by
  obtain ⟨i, hi, hz, hsz, hby⟩ := info_parts ndInfo
  have hk1 := hk.alloc (.cells cs 61)
  refine wpList_append_own_at (w := w.alloc (.cells cs 61)) (P := Tryz.prog) hgd s x 59 ho B 61 i (.agg #[.int .u8 0, .string ⟨#[]⟩, .slice none 0 0, .slice none 0 0, .int .i64 0]) 5 80 Tryz.underlying59 hi hz hsz hby rfl (by decide) v ds.length (ndCells ds) hs hk1.own
    ⟨w.heap.size, 0, none⟩ 1 1 nd.cs hx rfl ?_ ?_ (by unfold maxLen; omega) (by omega) (by simp; omega) ?_
  · intro j u hj
    have hn := World.alloc_heap_new w (.cells cs 61)
    have hc := cell_of_row (w.alloc (.cells cs 61)) w.heap.size j cs _ (0, 0) hn
    have ea : ((⟨w.heap.size, 0, none⟩ : Addr).add j) = ⟨w.heap.size, j, none⟩ := by unfold Addr.add; split <;> simp_all
    rw [ea, hc, ← hj, ← hcs]
    simp
  · intro u hu
    exact nd_one [nd] u (by simpa [ndCells] using hu)
  · intro v' w' h2 h3 _ h5
    have hg : w.grownBy w' v.ownBlock := grown_trans1 (World.grownBy_alloc w _ _) h3
    have hlt : ∀ g, v.ownBlock = some g → g < w.heap.size := fun g e => (own_block_lt hk.own g e).2
    have hsep' : ∀ d, d ∈ ds ++ [nd] → ∀ g, d.blk g → g < w.heap.size ∧ v.ownBlock ≠ some g ∧ d.In w := by
      intro d hm g hb
      rcases List.mem_append.1 hm with hm | hm
      · exact ⟨(hk.ins d hm).lt hb, hk.sep d hm g hb, hk.ins d hm⟩
      · obtain rfl := List.mem_singleton.1 hm
        exact ⟨hin.lt hb, hsep g hb, hin⟩
    have hin' : ∀ d ∈ ds ++ [nd], d.In w := by
      intro d hm
      rcases List.mem_append.1 hm with hm | hm
      · exact hk.ins d hm
      · obtain rfl := List.mem_singleton.1 hm
        exact hin
    refine h v' w' ⟨?_, fun d hm => (hin' d hm).keep (fun g hb => ?_), fun d hm g hb => ?_, fun d hm g hb e => ?_⟩ hg ?_
    · rw [ndCells_append, List.length_append]
      have e : ndCells [nd] = nd.cs := by simp [ndCells]
      rw [e]
      exact h2
    · obtain ⟨h6, h7, _⟩ := hsep' d hm g hb
      exact hg.block g h6 (fun e => h7 e.symm)
    · rcases List.mem_append.1 hm with hm | hm
      · exact hk.new d hm g hb
      · obtain rfl := List.mem_singleton.1 hm
        exact hnew g hb
    · obtain ⟨h6, h7, _⟩ := hsep' d hm g hb
      rcases h5 with h5 | h5
      · exact h7 (h5.symm.trans e)
      · rw [h5, World.size_alloc] at e
        injection e with e
        omega
    · rcases h5 with h5 | h5
      · exact .inl h5
      · exact .inr ⟨_, h5, by simp⟩
/-- the slice v owns the strings ls -/
structure Strs (W : World) (B : Nat) (v : Value) (ls : List (List UInt8)) : Prop where
  own : W.ownsRow B 9 1 v ls.length (ls.map bsOf)
theorem Strs.nil (W : World) (B : Nat) : Strs W B (.slice none 0 0) [] := ⟨⟨rfl, .inl ⟨rfl, rfl⟩⟩⟩
theorem Strs.grown {W W' : World} {B : Nat} {v : Value} {ls : List (List UInt8)} {row : Option Nat} (h : Strs W B v ls) (hg : W.grownBy W' row) (hr : ∀ g, row = some g → v.ownBlock ≠ some g) : Strs W' B v ls :=
  ⟨own_keep h.own (fun g hv => hg.block g (own_block_lt h.own g hv).2 (fun e => hr g e.symm hv))⟩
theorem Strs.old {W W' : World} {B : Nat} {v : Value} {ls : List (List UInt8)} {rb : Nat} (h : Strs W B v ls) (hg : W.grownBy W' (some rb)) (hr : rb < B) : Strs W' B v ls :=
  h.grown hg (fun g e => by cases e; exact fun e => by have := (own_block_lt h.own _ e).1; omega)
theorem Strs.alloc {W : World} {B : Nat} {v : Value} {ls : List (List UInt8)} (h : Strs W B v ls) (o : Obj) : Strs (W.alloc o) B v ls := h.grown (World.grownBy_alloc W o none) (fun g e => by cases e)
theorem Strs.slice {W : World} {B : Nat} {v : Value} {ls : List (List UInt8)} (h : Strs W B v ls) : ∃ a c, v = .slice a ls.length c ∧ ls.length ≤ c ∧ c ≤ maxLen ∧ InS W a ls ∧ (∀ g, ls ≠ [] → blockOf a g → B ≤ g) := by
  rcases h.own.2 with ⟨rfl, h0⟩ | ⟨g, cap, cur, rfl, hb, hh, hc, hm, hsz, htk⟩
  · have : ls = [] := List.eq_nil_of_length_eq_zero h0
    subst this
    exact ⟨none, 0, rfl, Nat.le_refl _, Nat.zero_le _, fun i x hx => by simp at hx, fun g hn => absurd rfl hn⟩
  · refine ⟨_, cap, rfl, hc, hm, fun i x hx => ⟨g, 0, rfl, ?_⟩, fun g' _ ho => ?_⟩
    · have hil := (List.getElem?_eq_some_iff.1 hx).1
      have h1 : (ls.map bsOf)[i]? = some (bsOf x) := by rw [List.getElem?_map, hx]; rfl
      rw [← htk, List.getElem?_take_of_lt (by omega)] at h1
      rw [Nat.zero_add, cell_of_row W g i cur _ (0, 0) hh]
      simpa [bsOf] using h1
    · obtain ⟨o, e⟩ := ho
      cases e
      exact hb
theorem wpList_appStr2 {w : World} {B : Nat} {v : Value} {ls : List (List UInt8)} {ops : Array Oper} {rest : List Oper} {o : Oper} {a : Act} {Q : Exit → Act → World → Prop} (hgd : o.guard = none) (s x : Operand)
    (ho : o.op = .call { callee := .builtin .append, args := #[s, x], argTypes := #[56, 56] })
    (hs : a.eval s = v) (hk : Strs w B v ls) (l : List UInt8)
    (hx : a.eval x = .slice (some ⟨w.heap.size, 0, none⟩) 1 1) (hlen : ls.length + 1 ≤ 1000000000) (hB : B ≤ w.heap.size)
    (h : ∀ v' w', Strs w' B v' (ls ++ [l]) → w.grownBy w' v.ownBlock → (v'.ownBlock = v.ownBlock ∨ ∃ g, v'.ownBlock = some g ∧ w.heap.size ≤ g) → wpList Tryz.prog ops Q rest (a.put o.dst v') w') :
    wpList Tryz.prog ops Q (o :: rest) a (w.alloc (.cells #[.string ⟨l.toArray⟩] 9)) := by
  obtain ⟨i, hi, hz, hsz, hby⟩ := info_parts strInfo
  have hk1 := hk.alloc (.cells #[.string ⟨l.toArray⟩] 9)
  refine wpList_append_own_at (w := w.alloc (.cells #[.string ⟨l.toArray⟩] 9)) (P := Tryz.prog) hgd s x 56 ho B 9 i (.string ⟨#[]⟩) 1 16 Tryz.underlying56 hi hz hsz hby rfl (by decide) v ls.length (ls.map bsOf) hs hk1.own
    ⟨w.heap.size, 0, none⟩ 1 1 [.string ⟨l.toArray⟩] hx rfl (cell_one_new _ _ _) (by simp [Value.oneCell']) (by unfold maxLen; omega) (by omega) (by simp; omega) ?_
  intro v' w' h2 h3 _ h5
  refine h v' w' ⟨?_⟩ (grown_trans1 (World.grownBy_alloc w _ _) h3) ?_
  · rw [List.map_append, List.length_append]
    exact h2
  · rcases h5 with h5 | h5
    · exact .inl h5
    · exact .inr ⟨_, h5, by simp⟩
end Go.Proofs.YtefokfbgpfcbkaaGreat
namespace Go.Proofs.YtefokfbgpfcbkaaGreat
set_option linter.unusedVariables false
set_option linter.unusedSimpArgs false
open Go.RowKit
theorem clone_any (a : Option Addr) (c : Nat) (ks : List (List UInt8)) (w : World) (h : InS w a ks) (hl : ks.length ≤ 1000000000) :
    Calls Tryz.prog 110 #[.slice a ks.length c] w fun e w' => ∃ a' c', e = .returned (.slice a' ks.length c') ∧ Hid (Strs w' w.heap.size (.slice a' ks.length c') ks) ∧ Below w.heap.size w w' := by
  by_cases hn : ks = []
  · subst hn
    cases a with
    | none =>
      refine (Tryz.slices_Clone_string_nil 0 c w).mono ?_
      rintro e w' ⟨rfl, rfl⟩
      exact ⟨none, 0, rfl, hide (Strs.nil _ _), Below.refl _ _⟩
    | some ad =>
      refine (Tryz.slices_Clone_string_zero ad c w).mono ?_
      rintro e w' ⟨v, rfl, hown, _, hb⟩
      have hs : Strs w' w.heap.size v [] := ⟨hown⟩
      obtain ⟨a', c', rfl, _⟩ := hs.slice
      exact ⟨a', c', rfl, hide hs, hb⟩
  · obtain ⟨b, o, rfl, hc⟩ := ins_some h hn
    refine (Tryz.slices_Clone_string b o ks.length c (ks.map bz) w (by simp) (by omega) hc).mono ?_
    rintro e w' ⟨v, rfl, hown, _, hb⟩
    rw [List.take_of_length_le (by simp)] at hown
    have hs : Strs w' w.heap.size v ks := ⟨by rw [List.map_map] at hown; exact hown⟩
    obtain ⟨a', c', rfl, _⟩ := hs.slice
    exact ⟨a', c', rfl, hide hs, hb⟩
end Go.Proofs.YtefokfbgpfcbkaaGreat
namespace Go.Proofs.YtefokfbgpfcbkaaGreat
set_option linter.unusedVariables false
set_option linter.unusedSimpArgs false
open Go.RowKit
theorem grown_five {A W : World} {row : Option Nat} (h : A.grownBy W row) {g : Nat} (hg : A.heap.size ≤ g) (v0 v1 v2 v3 v4 : Value) : A.grownBy (((((W.setCell ⟨g, 0, none⟩ v0).setCell ⟨g, 1, none⟩ v1).setCell ⟨g, 2, none⟩ v2).setCell ⟨g, 3, none⟩ v3).setCell ⟨g, 4, none⟩ v4) row :=
  grown_new (grown_new (grown_new (grown_new (grown_new h hg v0) hg v1) hg v2) hg v3) hg v4
theorem grown_row {A B C : World} {row row2 : Option Nat} (h : A.grownBy B row) (k : B.grownBy C row2) (hr : ∀ g, row2 = some g → A.heap.size ≤ g) : A.grownBy C row :=
  ⟨k.os.trans h.os, k.tape.trans h.tape, k.output.trans h.output, Nat.le_trans h.size k.size, fun i hi hne => (k.block i (Nat.lt_of_lt_of_le hi h.size) (fun e => by have := hr i e.symm; omega)).trans (h.block i hi hne)⟩
/-- keys and kids that a call owns -/
structure KS (W : World) (B : Nat) (kv dv : Value) (ks : List (List UInt8)) (ds : List Nd) : Prop where
  str : Strs W B kv ks
  kids : Kids W B dv ds
  sep : ∀ g, kv.ownBlock = some g → dv.ownBlock ≠ some g ∧ ∀ d ∈ ds, ¬ d.blk g
theorem KS.nil (W : World) (B : Nat) : KS W B (.slice none 0 0) (.slice none 0 0) [] [] := ⟨Strs.nil W B, Kids.nil W B, fun g h => by cases h⟩
theorem KS.old {W W' : World} {B rb : Nat} {kv dv : Value} {ks : List (List UInt8)} {ds : List Nd} (h : KS W B kv dv ks ds) (hg : W.grownBy W' (some rb)) (hr : rb < B) : KS W' B kv dv ks ds := ⟨h.str.old hg hr, h.kids.old hg hr, h.sep⟩
theorem KS.alloc {W : World} {B : Nat} {kv dv : Value} {ks : List (List UInt8)} {ds : List Nd} (h : KS W B kv dv ks ds) (o : Obj) : KS (W.alloc o) B kv dv ks ds := ⟨h.str.alloc o, h.kids.alloc o, h.sep⟩
theorem KS.key {W W' : World} {B : Nat} {kv kv' dv : Value} {ks ks' : List (List UInt8)} {ds : List Nd} (h : KS W B kv dv ks ds) (hs : Strs W' B kv' ks') (hg : W.grownBy W' kv.ownBlock) (hat : kv'.ownBlock = kv.ownBlock ∨ ∃ g, kv'.ownBlock = some g ∧ W.heap.size ≤ g) : KS W' B kv' dv ks' ds := by
  refine ⟨hs, h.kids.grown hg h.sep, fun g e => ?_⟩
  rcases hat with hat | ⟨g2, e2, hl⟩
  · exact h.sep g (hat ▸ e)
  · rw [e2] at e
    injection e with e
    subst e
    exact ⟨fun e3 => by have := (own_block_lt h.kids.own _ e3).2; omega, fun d hm hb => by have := (h.kids.ins d hm).lt hb; omega⟩
theorem KS.kid {W W' : World} {B : Nat} {kv dv dv' : Value} {ks : List (List UInt8)} {ds : List Nd} {nd : Nd} (h : KS W B kv dv ks ds) (hk : Kids W' B dv' (ds ++ [nd])) (hg : W.grownBy W' dv.ownBlock) (hat : dv'.ownBlock = dv.ownBlock ∨ ∃ g, dv'.ownBlock = some g ∧ W.heap.size ≤ g)
    (hn : ∀ g, nd.blk g → kv.ownBlock ≠ some g) : KS W' B kv dv' ks (ds ++ [nd]) := by
  refine ⟨h.str.grown hg (fun g e e2 => (h.sep g e2).1 e), hk, fun g e => ⟨fun e2 => ?_, fun d hm hb => ?_⟩⟩
  · rcases hat with hat | ⟨g2, e3, hl⟩
    · exact (h.sep g e).1 (hat ▸ e2)
    · rw [e3] at e2
      injection e2 with e2
      have := (own_block_lt h.str.own g e).2
      omega
  · rcases List.mem_append.1 hm with hm | hm
    · exact (h.sep g e).2 d hm hb
    · obtain rfl := List.mem_singleton.1 hm
      exact hn g hb e
theorem fit_leaf (W : World) (k : Nat) (x : List UInt8) (n : Int) (hk : k < 256) (hx : x.length ≤ maxLen) : (Nd.mk k x none 0 [] none 0 [] n).In W :=
  .mk ⟨hk, hx, Nat.zero_le _, Nat.zero_le _, Nat.le_refl _, Nat.le_refl _, fun y hy => by simp [Nd.keys] at hy, fun i y hy => by simp [Nd.keys] at hy⟩ trivial
theorem leaf_blk (k : Nat) (x : List UInt8) (n : Int) (g : Nat) : ¬ (Nd.mk k x none 0 [] none 0 [] n).blk g := by simp [Nd.blk, blkL]
theorem put5_0 {W : World} {g : Nat} {t : TypeId} {a b c d e : Value} (h : W.heap[g]? = some (.cells #[a, b, c, d, e] t)) (v : Value) : (W.setCell ⟨g, 0, none⟩ v).heap[g]? = some (.cells #[v, b, c, d, e] t) := by simp [World.setCell, Array.getElem?_modify, h]
theorem put5_1 {W : World} {g : Nat} {t : TypeId} {a b c d e : Value} (h : W.heap[g]? = some (.cells #[a, b, c, d, e] t)) (v : Value) : (W.setCell ⟨g, 1, none⟩ v).heap[g]? = some (.cells #[a, v, c, d, e] t) := by simp [World.setCell, Array.getElem?_modify, h]
theorem put5_2 {W : World} {g : Nat} {t : TypeId} {a b c d e : Value} (h : W.heap[g]? = some (.cells #[a, b, c, d, e] t)) (v : Value) : (W.setCell ⟨g, 2, none⟩ v).heap[g]? = some (.cells #[a, b, v, d, e] t) := by simp [World.setCell, Array.getElem?_modify, h]
theorem put5_3 {W : World} {g : Nat} {t : TypeId} {a b c d e : Value} (h : W.heap[g]? = some (.cells #[a, b, c, d, e] t)) (v : Value) : (W.setCell ⟨g, 3, none⟩ v).heap[g]? = some (.cells #[a, b, c, v, e] t) := by simp [World.setCell, Array.getElem?_modify, h]
end Go.Proofs.YtefokfbgpfcbkaaGreat
namespace Go.Proofs.YtefokfbgpfcbkaaGreat
set_option linter.unusedVariables false
set_option linter.unusedSimpArgs false
open Go.RowKit
namespace P20
mutual
/-- so many levels of a tree -/
def T.cut : Nat → T → T
  | lv, .mk k t ks ds l => .mk k t ks (if 1 < lv then cutL (lv - 1) ds else []) l
def cutL : Nat → List T → List T
  | lv, [] => []
  | lv, d :: ds => d.cut lv :: cutL lv ds
end
end P20
theorem cutL_take (lv : Nat) {ds : List Nd} {i : Nat} {d : Nd} (h : ds[i]? = some d) : P20.cutL lv (bareL (ds.take (i + 1))) = P20.cutL lv (bareL (ds.take i)) ++ [d.bare.cut lv] := by
  have e : ∀ a b : List P20.T, P20.cutL lv (a ++ b) = P20.cutL lv a ++ P20.cutL lv b := fun a b => by
    induction a with
    | nil => rfl
    | cons x a ih => simp [P20.cutL, ih]
  rw [List.take_add_one, h, bareL_append, e]
  rfl
theorem step_appNode {w : World} {B : Nat} {v : Value} {ds : List Nd} {nd : Nd} {ops : Array Oper} {o : Oper} {a : Act} {K : Act → World → Prop} {Q : Exit → Act → World → Prop} {E : Prop} (hgd : o.guard = none) (s x : Operand)
    (ho : o.op = .call { callee := .builtin .append, args := #[s, x], argTypes := #[59, 59] })
    (hs : a.eval s = v) (hk : Kids w B v ds) (hin : nd.In w) (hnew : ∀ g, nd.blk g → B ≤ g) (hsep : ∀ g, nd.blk g → v.ownBlock ≠ some g) (g cap : Nat)
    (hx : a.eval x = .slice (some ⟨g, 0, none⟩) 1 cap) (hcs : ∀ j u, nd.cs[j]? = some u → w.cell? ((⟨g, 0, none⟩ : Addr).add j) = some u) (hlen : ds.length + 1 ≤ 1000000000) (hB : B ≤ w.heap.size)
    (h : ∀ v' w', Kids w' B v' (ds ++ [nd]) → w.grownBy w' v.ownBlock → (v'.ownBlock = v.ownBlock ∨ ∃ g, v'.ownBlock = some g ∧ w.heap.size ≤ g) → K (a.put o.dst v') w') :
    if Region.wanted o (yielded ops a.tmps) = true then Oper.wp Tryz.prog o a w K Q else E := by
  obtain ⟨i, hi, hz, hsz, hby⟩ := info_parts ndInfo
  refine step_append_lies (P := Tryz.prog) w hgd s x 59 ho B 61 i (.agg #[.int .u8 0, .string ⟨#[]⟩, .slice none 0 0, .slice none 0 0, .int .i64 0]) 5 80 Tryz.underlying59 hi hz hsz hby rfl (by decide) v ds.length (ndCells ds) hs hk.own
    ⟨g, 0, none⟩ 1 cap nd.cs hx rfl hcs (by intro u hu; exact nd_one [nd] u (by simpa [ndCells] using hu)) (by decide) (by unfold maxLen; omega) (by omega) hB _ rfl ?_
  intro g' cap' w' h2 h3 hat _
  have hsep' : ∀ d, d ∈ ds ++ [nd] → ∀ g, d.blk g → g < w.heap.size ∧ v.ownBlock ≠ some g ∧ d.In w := by
    intro d hm g hb
    rcases List.mem_append.1 hm with hm | hm
    · exact ⟨(hk.ins d hm).lt hb, hk.sep d hm g hb, hk.ins d hm⟩
    · obtain rfl := List.mem_singleton.1 hm
      exact ⟨hin.lt hb, hsep g hb, hin⟩
  have hin' : ∀ d ∈ ds ++ [nd], d.In w := by
    intro d hm
    rcases List.mem_append.1 hm with hm | hm
    · exact hk.ins d hm
    · obtain rfl := List.mem_singleton.1 hm
      exact hin
  refine h _ w' ⟨?_, fun d hm => (hin' d hm).keep (fun g hb => ?_), fun d hm g hb => ?_, fun d hm g hb e => ?_⟩ h3 ?_
  · rw [ndCells_append, List.length_append]
    have e : ndCells [nd] = nd.cs := by simp [ndCells]
    rw [e]
    exact h2
  · obtain ⟨h6, h7, _⟩ := hsep' d hm g hb
    exact h3.block g h6 (fun e => h7 e.symm)
  · rcases List.mem_append.1 hm with hm | hm
    · exact hk.new d hm g hb
    · obtain rfl := List.mem_singleton.1 hm
      exact hnew g hb
  · obtain ⟨h6, h7, _⟩ := hsep' d hm g hb
    rcases hat with h5 | h5
    · exact h7 (h5.trans (show some g' = some g from e))
    · have e2 : some g' = some g := e
      injection e2 with e2
      omega
  · rcases hat with h5 | h5
    · exact .inl h5.symm
    · exact .inr ⟨g', rfl, by omega⟩
theorem step_enter {f : FuncId} {args : Array Value} {w : World} {ops : Array Oper} {o : Oper} {a : Act} {K : Act → World → Prop} {Q : Exit → Act → World → Prop} {E : Prop} {R : Ending → World → Prop} (hgd : o.guard = none)
    (hex : (execOp a.eval o).run Tryz.prog w = .ok (.enter f args) w) (h : Calls Tryz.prog f args w R) (hk : ∀ e w', R e w' → ∃ v, e = .returned v ∧ K (a.put o.dst v) w') :
    if Region.wanted o (yielded ops a.tmps) = true then Oper.wp Tryz.prog o a w K Q else E := by
  rw [if_pos (by simp [Region.wanted, hgd])]
  unfold Oper.wp
  rw [hex, Oper.upon_enter]
  refine h.mono (fun e w' hr => ?_)
  obtain ⟨v, rfl, hkv⟩ := hk e w' hr
  exact hkv
/-- a node that is new -/
def NewNd (w : World) (T : P20.T) (e : Ending) (w' : World) : Prop :=
  ∃ (k : Nat) (t : List UInt8) (ka : Option Addr) (kc : Nat) (ks : List (List UInt8)) (da : Option Addr) (dc : Nat) (ds : List Nd) (l : Int), e = .returned (.agg #[.int .u8 k, .string ⟨t.toArray⟩, .slice ka ks.length kc, .slice da ds.length dc, .int .i64 l]) ∧ Hid ((Nd.mk k t ka kc ks da dc ds l).bare = T ∧ (Nd.mk k t ka kc ks da dc ds l).In w' ∧ ∀ g, (Nd.mk k t ka kc ks da dc ds l).blk g → w.heap.size ≤ g) ∧ Below w.heap.size w w'
def CloneC (d : Nd) : Prop := ∀ (lv : Nat) (w : World), d.In w → okT d.bare → 1 ≤ lv → lv ≤ 1000 → Calls Tryz.prog 152 #[d.val, .int .i64 lv] w (NewNd w (d.bare.cut lv))
theorem cs_new (W : World) (k : Nat) (t : List UInt8) (ka : Option Addr) (kc : Nat) (ks : List (List UInt8)) (da : Option Addr) (dc : Nat) (ds : List Nd) (l : Int) :
    ∀ j u, (Nd.mk k t ka kc ks da dc ds l).cs[j]? = some u → (W.alloc (.cells #[.int .u8 k, .string ⟨t.toArray⟩, .slice ka ks.length kc, .slice da ds.length dc, .int .i64 l] 61)).cell? ((⟨W.heap.size, 0, none⟩ : Addr).add j) = some u := by
  intro j u hj
  have hn := World.alloc_heap_new W (.cells #[.int .u8 k, .string ⟨t.toArray⟩, .slice ka ks.length kc, .slice da ds.length dc, .int .i64 l] 61)
  have hc := cell_of_row _ W.heap.size j _ _ (0, 0) hn
  have ea : ((⟨W.heap.size, 0, none⟩ : Addr).add j) = ⟨W.heap.size, j, none⟩ := by unfold Addr.add; split <;> simp_all
  rw [ea, hc, ← hj]
  simp [Nd.cs, Nd.kind, Nd.text, Nd.kV, Nd.dV, Nd.ka, Nd.kc, Nd.keys, Nd.da, Nd.dc, Nd.kids, Nd.line]
theorem KS.keep {W W' : World} {B : Nat} {kv dv : Value} {ks : List (List UInt8)} {ds : List Nd} (h : KS W B kv dv ks ds) (hb : Below W.heap.size W W') : KS W' B kv dv ks ds :=
  ⟨h.str.grown (grown_of_below hb none) (fun g e => by cases e), h.kids.grown (grown_of_below hb none) (fun g e => by cases e), h.sep⟩
theorem KS.set {W : World} {B O i : Nat} {v : Value} {kv dv : Value} {ks : List (List UInt8)} {ds : List Nd} (h : KS W B kv dv ks ds) (hO : O < B) : KS (W.setCell ⟨O, i, none⟩ v) B kv dv ks ds :=
  h.old (setCell_grown W O i v) hO
theorem KS.drew {W : World} {B : Nat} {kv dv : Value} {ks : List (List UInt8)} {ds : List Nd} (h : KS W B kv dv ks ds) : KS W.drew B kv dv ks ds := h.keep ⟨rfl, rfl, rfl, Nat.le_refl _, fun _ _ => rfl⟩
theorem clone_end {w wx : World} {H k : Nat} {t : List UInt8} {kv dv : Value} {ks : List (List UInt8)} {es : List Nd} {ln : Int} {T : P20.T} (hH : w.heap.size = H) (hk : k < 256) (ht : t.length ≤ maxLen) (hkl : ∀ x ∈ ks, x.length ≤ maxLen)
    (hks : KS wx (H + 1 + 1 + 1) kv dv ks es) (hT : P20.T.mk k t ks (bareL es) ln = T) (hb : Below H w wx) (v0 v1 v2 v3 v4 : Value) :
    NewNd w T (.returned (.agg #[.int .u8 k, .string ⟨t.toArray⟩, kv, dv, .int .i64 ln])) (((((wx.setCell ⟨H + 1, 0, none⟩ v0).setCell ⟨H + 1, 1, none⟩ v1).setCell ⟨H + 1, 2, none⟩ v2).setCell ⟨H + 1, 3, none⟩ v3).setCell ⟨H + 1, 4, none⟩ v4) := by
  have hks2 := ((((hks.set (O := H + 1) (i := 0) (v := v0) (by omega)).set (O := H + 1) (i := 1) (v := v1) (by omega)).set (O := H + 1) (i := 2) (v := v2) (by omega)).set (O := H + 1) (i := 3) (v := v3) (by omega)).set (O := H + 1) (i := 4) (v := v4) (by omega)
  obtain ⟨a, c, rfl, hc1, hc2, hi, hn⟩ := hks2.str.slice
  obtain ⟨a2, c2, rfl, hd1, hd2, hi2, hn2, hn3⟩ := hks2.kids.slice
  refine ⟨k, t, a, c, ks, a2, c2, es, ln, rfl, hide ⟨hT, .mk ⟨hk, ht, Nat.le_trans hc1 hc2, Nat.le_trans hd1 hd2, hc1, hd1, hkl, hi⟩ hi2, fun g hg => ?_⟩, ?_⟩
  · rw [blk_eq] at hg
    rcases hg with ⟨h1, h2⟩ | ⟨h1, h2⟩ | h1
    · have := hn g h1 h2; omega
    · have := hn3 g h1 h2; omega
    · have := hn2 g h1; omega
  · rw [hH]
    exact below_five hb (by omega) _ _ _ _ _
set_option maxRecDepth 100000 in
set_option maxHeartbeats 8000000 in
theorem clone_node (k : Nat) (t : List UInt8) (ka : Option Addr) (kc : Nat) (ks : List (List UInt8)) (da : Option Addr) (dc : Nat) (ds : List Nd) (ln : Int) (hds : ∀ d ∈ ds, CloneC d) : CloneC (.mk k t ka kc ks da dc ds ln) := by
  intro lv w hin hok h1 h2
  rw [Nd.val_eq]
  have hfit := hin.fit
  unfold Nd.bare okT at hok
  obtain ⟨o1, o2, o3, o4, o5⟩ := hok
  rw [bareL_len] at o4
  have hkl : ks.length ≤ 1000000000 := o2
  obtain ⟨H, hH⟩ : ∃ H, w.heap.size = H := ⟨_, rfl⟩
  obtain ⟨W, hW⟩ : ∃ W, ((w.alloc (.cells #[.int .u8 k, .string ⟨t.toArray⟩, .slice ka ks.length kc, .slice da ds.length dc, .int .i64 ln] 61)).alloc (.cells #[.int .u8 0, .string ⟨#[]⟩, .slice none 0 0, .slice none 0 0, .int .i64 0] 61)).alloc (.cells #[.int .u8 k, .string ⟨t.toArray⟩, .slice ka ks.length kc, .slice da ds.length dc, .int .i64 ln] 61) = W := ⟨_, rfl⟩
  have hsW : W.heap.size = H + 1 + 1 + 1 := by rw [← hW]; simp; omega
  have hbW : Below H w W := by rw [← hW]; exact (((Below.refl _ w).alloc (by omega) _).alloc (by simp; omega) _).alloc (by simp; omega) _
  obtain ⟨W', hW', v1, g0, g1, g2, v2, v3⟩ := start4 w (.cells #[.int .u8 k, .string ⟨t.toArray⟩, .slice ka ks.length kc, .slice da ds.length dc, .int .i64 ln] 61) (.cells #[.int .u8 0, .string ⟨#[]⟩, .slice none 0 0, .slice none 0 0, .int .i64 0] 61) (.cells #[.int .u8 k, .string ⟨t.toArray⟩, .slice ka ks.length kc, .slice da ds.length dc, .int .i64 ln] 61) (.cells #[] 3) H hH
  rw [hW] at hW'
  have hup : ∀ r, r < W.heap.size → W.heap[r]? = W'.heap[r]? := fun r hr => by rw [← hW']; exact (Below.heap_alloc _ _ _ hr).symm
  rw [← hup _ (by omega)] at g0 g1 g2
  clear hW' hup v1 v2 v3 W'
  have hkin : InS W ka ks := by
    have h3 := hfit.keys
    simp only [Nd.ka, Nd.keys] at h3
    exact h3.below (by rw [hH]; exact hbW)
  have hcl := clone_any ka kc ks W hkin hkl
  have hkids := hin.kids
  simp only [Nd.da, Nd.kids] at hkids
  have HCL := hide hcl
  have HW := hide hW
  have HG0 := hide g0
  have HG1 := hide g1
  have HG2 := hide g2
  have HBW := hide hbW
  have HKI := hide hkids
  have HDS := hide hds
  have HO5 := hide o5
  have hdl := hfit.kidsL
  simp only [Nd.kids] at hdl
  have HIN := hide hin
  clear hcl hW g0 g1 g2 hbW hkin hkids hds o5 o1 o3 hfit hdl hin
  go_enter Tryz.func152, Tryz.ntmps152
  go_upto_region 2 with fail
  try rw [hH]
  rw [unhide HW]
  obtain ⟨⟨x0, f0⟩, ⟨x1, f1⟩, ⟨x2, f2⟩, ⟨x3, f3⟩, ⟨x4, f4⟩⟩ := five_cell (unhide HG0)
  go_upto_region 4 with (go_at_call 110; refine (unhide HCL).mono ?_; rintro e w1 ⟨a', c', rfl, HS, hb1⟩; have m2 := (hb1.block (H + 1 + 1) (by omega)).trans (unhide HG2); obtain ⟨⟨y0, q0⟩, ⟨y1, q1⟩, ⟨y2, q2⟩, ⟨y3, q3⟩, ⟨y4, q4⟩⟩ := five_cell m2; have HM2 := hide m2; clear m2)
  obtain ⟨V0, hV0⟩ : ∃ V0, (w1.setCell ⟨H + 1 + 1, 2, none⟩ (.slice a' ks.length c')).setCell ⟨H + 1 + 1, 3, none⟩ (.slice none 0 0) = V0 := ⟨_, rfl⟩
  have hs1 := hb1.size
  rw [hsW] at hb1 HS
  have hKS : KS V0 (H + 1 + 1 + 1) (.slice a' ks.length c') (.slice none 0 0) ks [] := by
    rw [← hV0]
    exact ((⟨unhide HS, Kids.nil _ _, fun g e => ⟨fun e2 => by simp [Value.ownBlock] at e2, by simp⟩⟩ : KS w1 (H + 1 + 1 + 1) (.slice a' ks.length c') (.slice none 0 0) ks []).set (by omega)).set (by omega)
  have hsV : H + 1 + 1 < V0.heap.size := by rw [← hV0]; simp; omega
  have ho : ∀ r, r ≠ H + 1 + 1 → V0.heap[r]? = w1.heap[r]? := fun r hr => by rw [← hV0, Below.heap_setCell _ _ _ _ (by exact hr), Below.heap_setCell _ _ _ _ (by exact hr)]
  have k0 := (ho H (by omega)).trans ((hb1.block _ (by omega)).trans (unhide HG0))
  have k1 := (ho (H + 1) (by omega)).trans ((hb1.block _ (by omega)).trans (unhide HG1))
  have k2 : V0.heap[H + 1 + 1]? = some (.cells #[.int .u8 k, .string ⟨t.toArray⟩, .slice a' ks.length c', .slice none 0 0, .int .i64 ln] 61) := by
    rw [← hV0]; exact put5_3 (put5_2 (unhide HM2) _) _
  have hbV : Below H w V0 := by
    have h3 := (unhide HBW).trans (hb1.mono (by omega))
    rw [← hV0]
    exact ⟨h3.os, h3.tape, h3.output, by have := h3.size; simpa using this, fun r hr => by
      rw [Below.heap_setCell _ _ _ _ (by show r ≠ H + 1 + 1; omega), Below.heap_setCell _ _ _ _ (by show r ≠ H + 1 + 1; omega)]
      exact h3.block r hr⟩
  rw [hV0]
  have HK0 := hide k0
  have HK1 := hide k1
  have HK2 := hide k2
  have HKS := hide hKS
  have HBV := hide hbV
  clear x0 f0 x1 f1 x2 f2 x3 f3 x4 f4 y0 q0 y1 q1 y2 q2 y3 q3 y4 q4 hV0 hKS ho k0 k1 k2 hbV hb1 hs1 HS HM2 HG0 HG1 HG2 HCL
  rcases Nat.lt_or_ge 1 lv with hlv | hlv
  · have jl : (1 : Int) < (lv : Int) := by omega
    have jw : IntKind.i64.wrap ((lv : Int) - 1) = (lv : Int) - 1 := IntWalk.i64_in _ (by omega)
    have hlt := fun r (hr : (Nd.mk k t ka kc ks da dc ds ln).blk r) => (unhide HIN).lt hr
    rw [hH] at hlt
    have HLT := hide hlt
    obtain ⟨n, hn⟩ : ∃ n, ds.length = n := ⟨_, rfl⟩
    have HK0' := hide (show V0.heap[H]? = some (.cells #[.int .u8 k, .string ⟨t.toArray⟩, .slice ka ks.length kc, .slice da n dc, .int .i64 ln] 61) by rw [← hn]; exact unhide HK0)
    obtain ⟨⟨x0, _⟩, ⟨x1, _⟩, ⟨x2, _⟩, ⟨x3, _⟩, ⟨x4, _⟩⟩ := five_cell (unhide HK0')
    have HN := hide hn
    have HLV := hide hlv
    rw [hn] at o4 ⊢
    have hon : (n : Int) ≤ 1000000000 := by omega
    clear hlt hn hlv HK0 HK0'
    go_wp2
    go_loopg [19] n (fun g s19 wx => ∃ (i : Nat) (dv : Value) (es : List Nd), i + g = n ∧ s19 = .int .i64 i ∧ es.length ≤ i ∧ Hid (KS wx (H + 1 + 1 + 1) (.slice a' ks.length c') dv ks es) ∧ Hid (bareL es = P20.cutL (lv - 1) (bareL (ds.take i))) ∧
      Hid (wx.heap[H + 1 + 1]? = some (.cells #[.int .u8 k, .string ⟨t.toArray⟩, .slice a' ks.length c', dv, .int .i64 ln] 61)) ∧ Hid (wx.heap[H + 1]? = some (.cells #[.int .u8 0, .string ⟨#[]⟩, .slice none 0 0, .slice none 0 0, .int .i64 0] 61)) ∧ Hid (Below H w wx))
    case atStart => exact ⟨0, _, [], by omega, by go_num, Nat.le_refl _, HKS, hide rfl, HK2, HK1, HBV⟩
    case round =>
      obtain ⟨i, dv, es, hig, rfl, hel, HKR, HE, HO, HZ, HB⟩ := hrel
      obtain ⟨ad, cd, rfl, _⟩ := (unhide HKR).kids.slice
      cases gk with
      | zero =>
        have e1 : (n : Int) = (i : Int) := by omega
        have HEI := hide (show i = n by omega)
        obtain ⟨⟨x0, f0⟩, ⟨x1, f1⟩, ⟨x2, f2⟩, ⟨x3, f3⟩, ⟨x4, f4⟩⟩ := five_cell (unhide HO)
        obtain ⟨⟨z0, q0⟩, ⟨z1, q1⟩, ⟨z2, q2⟩, ⟨z3, q3⟩, ⟨z4, q4⟩⟩ := five_cell (unhide HZ)
        go_wp2
        have hf := (unhide HIN).fit
        refine bodyPost_ret (results_cell_row rfl _ _ _ _ _ _ _ rfl (five_set (unhide HZ) _ _ _ _ _) Tryz.underlying61 rfl (by kernel_rfl)) rfl (clone_end (k := k) (t := t) (ks := ks) (ln := ln) hH hf.kind hf.text hf.keyL (unhide HKR) ?_ (unhide HB) _ _ _ _ _)
        unfold Nd.bare P20.T.cut
        rw [if_pos (unhide HLV), unhide HE, List.take_of_length_le (by rw [unhide HN]; have := unhide HEI; omega)]
      | succ g' =>
        have hlt : (i : Int) < (n : Int) := by omega
        have hki : IntKind.i64.wrap ((i : Int) + 1) = (i : Int) + 1 := IntWalk.i64_in _ (by omega)
        obtain ⟨d, hgd⟩ := nth_of (unhide HN) (show i < n by omega)
        have hdm := List.mem_of_getElem? hgd
        have hb := unhide HB
        have hbs := hb.size
        have hkr : InL wr da 0 ds := InL.below (unhide HKI) (by rw [hH]; exact hb)
        have hcall := unhide HDS d hdm (lv - 1)
        have hokd : okT d.bare := (okTs_iff _).1 (unhide HO5) _ (by rw [bareL_map]; exact List.mem_map_of_mem hdm)
        have htk := cutL_take (lv - 1) hgd
        obtain ⟨b1, o1, k1, t1, ka1, kc1, ks1, da1, dc1, ds1, l1, rfl, rfl, e0, e1, e2, e3, e4, hdin⟩ := kid_open hkr hgd
        obtain ⟨W5, hW5⟩ : ∃ W5, wr.alloc (.cells #[.int .u8 k1, .string ⟨t1.toArray⟩, .slice ka1 ks1.length kc1, .slice da1 ds1.length dc1, .int .i64 l1] 61) = W5 := ⟨_, rfl⟩
        have hb5 : Below wr.heap.size wr W5 := by rw [← hW5]; exact (Below.refl _ wr).alloc (Nat.le_refl _) _
        have hs5 : W5.heap.size = wr.heap.size + 1 := by rw [← hW5]; simp
        have g5 : W5.heap[wr.heap.size]? = some (.cells #[.int .u8 k1, .string ⟨t1.toArray⟩, .slice ka1 ks1.length kc1, .slice da1 ds1.length dc1, .int .i64 l1] 61) := by rw [← hW5]; exact World.alloc_heap_new wr _
        have hO1 : H + 1 + 1 < wr.heap.size := (Array.getElem?_eq_some_iff.1 (unhide HO)).1
        have hO5 := (hb5.block (H + 1 + 1) hO1).trans (unhide HO)
        have hZ5 := (hb5.block (H + 1) (by omega)).trans (unhide HZ)
        have hK5 := (unhide HKR).keep hb5
        have hcl := fun V (h : Below W5.heap.size W5 V) => hcall V ((hdin.below hb5).below h) hokd (by have := unhide HLV; omega) (by omega)
        rw [Nd.val_eq, show (((lv - 1 : Nat)) : Int) = (lv : Int) - 1 from by have := unhide HLV; omega] at hcl
        obtain ⟨T1, hT1⟩ : ∃ T1, (Nd.mk k1 t1 ka1 kc1 ks1 da1 dc1 ds1 l1).bare.cut (lv - 1) = T1 := ⟨_, rfl⟩
        rw [hT1] at hcl htk
        obtain ⟨⟨x0, f0⟩, ⟨x1, f1⟩, ⟨x2, f2⟩, ⟨x3, f3⟩, ⟨x4, f4⟩⟩ := five_cell hO5
        obtain ⟨⟨y0, _⟩, ⟨y1, _⟩, ⟨y2, _⟩, ⟨y3, _⟩, ⟨y4, _⟩⟩ := five_cell g5
        have HCL := hide hcl
        have HTK := hide htk
        have HI5 := hide g5
        have HKR5 := hide (unhide HKR).kids
        have HW5 := hide hW5
        have HO5' := hide hO5
        have HZ5 := hide hZ5
        have HK5 := hide hK5
        have HB5 := hide (show Below H w W5 from hb.trans (hb5.mono (by omega)))
        have hbl1 := cellLt e0
        have hmx : Tryz.prog.follows .mixedOrders = true := by kernel_rfl
        clear hcl htk hT1 hW5 hO5 hZ5 hK5 hcall hokd hdm hgd hdin hkr hb g5 HO HZ HKR HB
        go_upto_region 8 with fail
        rw [unhide HW5]
        have hcl2 := unhide HCL W5.drew ⟨rfl, rfl, rfl, Nat.le_refl _, fun _ _ => rfl⟩
        have HC2 := hide hcl2
        clear hcl2
        have heg := enters_of Tryz.func152 (by kernel_rfl) rfl
        go_region_law (first
          | (refine step_enter (f := 152) (args := #[.agg #[.int .u8 k1, .string ⟨t1.toArray⟩, .slice ka1 ks1.length kc1, .slice da1 ds1.length dc1, .int .i64 l1], .int .i64 ((lv : Int) - 1)]) (by rfl) (by simp [execOp, go_sem, heg]) (unhide HC2) ?_; rintro e w6 ⟨k6, t6, ka6, kc6, ks6, da6, dc6, ds6, l6, rfl, HN6, hb6'⟩; refine ⟨_, rfl, ?_⟩; have hb6 : Below W5.heap.size W5 w6 := ⟨hb6'.os, hb6'.tape, hb6'.output, hb6'.size, hb6'.block⟩; have hO6 := (hb6.block (H + 1 + 1) (by omega)).trans (unhide HO5'); obtain ⟨⟨p0, r0⟩, ⟨p1, r1⟩, ⟨p2, r2⟩, ⟨p3, r3⟩, ⟨p4, r4⟩⟩ := five_cell hO6; have HO6 := hide hO6; have HK6 := hide (((unhide HK5).keep hb6).alloc (.cells #[.int .u8 k6, .string ⟨t6.toArray⟩, .slice ka6 ks6.length kc6, .slice da6 ds6.length dc6, .int .i64 l6] 61)); have hs6 := hb6.size; have hs6' : H + 1 + 1 < w6.heap.size := (by omega); obtain ⟨⟨a0, _⟩, ⟨a1, _⟩, ⟨a2, _⟩, ⟨a3, _⟩, ⟨a4, _⟩⟩ := five_cell ((Below.heap_alloc w6 (.cells #[.int .u8 k6, .string ⟨t6.toArray⟩, .slice ka6 ks6.length kc6, .slice da6 ds6.length dc6, .int .i64 l6] 61) _ hs6').trans hO6); clear hO6 hb6')
          | (refine step_appNode (B := H + 1 + 1 + 1) (nd := .mk k6 t6 ka6 kc6 ks6 da6 dc6 ds6 l6) (by rfl) _ _ (by rfl) (by rfl) (unhide HK6).kids ((unhide HN6).2.1.alloc _) (fun g hg => by have h3 : W5.heap.size ≤ g := (unhide HN6).2.2 g hg; omega) (fun g hg e => by have h3 : W5.heap.size ≤ g := (unhide HN6).2.2 g hg; have h4 := (own_block_lt (unhide HK5).kids.own g e).2; omega) w6.heap.size 1 (by rfl) (cs_new _ _ _ _ _ _ _ _ _ _) (by omega) (by simp; omega) ?_; intro v' w7 hK7 hg7 hat7; obtain ⟨ad7, cd7, rfl, _⟩ := hK7.slice; have HK7 := hide hK7; clear hK7; have hown : ∀ g, (Value.slice ad es.length cd).ownBlock = some g → H + 1 + 1 + 1 ≤ g := (fun g e => (own_block_lt (unhide HK6).kids.own g e).1); have hO7 := (hg7.block (H + 1 + 1) (by simp; omega) (fun e => by have := hown _ e.symm; omega)).trans ((Below.heap_alloc _ _ _ hs6').trans (unhide HO6)); obtain ⟨⟨m0, n0⟩, ⟨m1, n1⟩, ⟨m2, n2⟩, ⟨m3, n3⟩, ⟨m4, n4⟩⟩ := five_cell hO7; have HO7 := hide hO7; clear hO7))
        all_goals
          have hks7 := (unhide HK6).kid (unhide HK7) hg7 hat7 (fun g hg e => by have h3 : W5.heap.size ≤ g := (unhide HN6).2.2 g hg; have h4 := (own_block_lt (unhide HK5).str.own g e).2; omega)
          have hks8 := hks7.set (O := H + 1 + 1) (i := 3) (v := .slice ad7 (es.length + 1) cd7) (by omega)
          rw [List.length_append, List.length_singleton] at hks8
          have HKS8 := hide hks8
          have hbn := (((unhide HB5).trans (hb6.mono (show H ≤ W5.heap.size by omega))).alloc (show H ≤ w6.heap.size by omega) (.cells #[.int .u8 k6, .string ⟨t6.toArray⟩, .slice ka6 ks6.length kc6, .slice da6 ds6.length dc6, .int .i64 l6] 61)).grown hg7 (by simp; omega) (fun k e => by have := hown k e; omega)
          have HBN := hide (hbn.setCell (p := ⟨H + 1 + 1, 3, none⟩) (show H ≤ H + 1 + 1 by omega) (.slice ad7 (es.length + 1) cd7))
          have HZN := hide ((Below.heap_setCell w7 ⟨H + 1 + 1, 3, none⟩ (.slice ad7 (es.length + 1) cd7) (H + 1) (show H + 1 ≠ H + 1 + 1 by omega)).trans ((hg7.block (H + 1) (by simp; omega) (fun e => by have := hown _ e.symm; omega)).trans ((Below.heap_alloc _ _ _ (show H + 1 < w6.heap.size by omega)).trans ((hb6.block (H + 1) (by omega)).trans (unhide HZ5)))))
          have HBE := hide (show bareL (es ++ [.mk k6 t6 ka6 kc6 ks6 da6 dc6 ds6 l6]) = P20.cutL (lv - 1) (bareL (ds.take (i + 1))) by rw [bareL_append, unhide HE, unhide HTK, ← (unhide HN6).1]; rfl)
          clear hks7 hks8 hbn
          go_wp2
          go_roundg g'
          case measure => omega
          case rel => exact ⟨i + 1, _, es ++ [.mk k6 t6 ka6 kc6 ks6 da6 dc6 ds6 l6], by omega, by go_num, by simp; omega, HKS8, HBE, hide (put5_3 (unhide HO7) _), HZN, HBN⟩
  · have jl : (lv : Int) ≤ 1 := by omega
    obtain ⟨⟨x0, f0⟩, ⟨x1, f1⟩, ⟨x2, f2⟩, ⟨x3, f3⟩, ⟨x4, f4⟩⟩ := five_cell (unhide HK2)
    obtain ⟨⟨z0, q0⟩, ⟨z1, q1⟩, ⟨z2, q2⟩, ⟨z3, q3⟩, ⟨z4, q4⟩⟩ := five_cell (unhide HK1)
    have HLV := hide hlv
    clear hlv
    go_wp2
    have hf := (unhide HIN).fit
    exact bodyPost_ret (results_cell_row rfl _ _ _ _ _ _ _ rfl (five_set (unhide HK1) _ _ _ _ _) Tryz.underlying61 rfl (by kernel_rfl)) rfl (clone_end (k := k) (t := t) (ks := ks) (ln := ln) hH hf.kind hf.text hf.keyL (unhide HKS) (by unfold Nd.bare P20.T.cut; rw [if_neg (by have := unhide HLV; omega)]; rfl) (unhide HBV) _ _ _ _ _)
theorem clone20_any (d : Nd) : CloneC d := Nd.ind (p := CloneC) clone_node d
set_option maxRecDepth 100000 in
set_option maxHeartbeats 1600000 in
theorem Copy20_any (d : Nd) (w : World) (hin : d.In w) (hok : okT d.bare) : Calls Tryz.prog 111 #[d.val] w (NewNd w (d.bare.cut 18)) := by
  obtain ⟨k, t, ka, kc, ks, da, dc, ds, ln⟩ := d
  have hcl := fun W (hb : Below w.heap.size w W) => clone20_any _ 18 W (hin.below hb) hok (by omega) (by omega)
  obtain ⟨T, hT⟩ : ∃ T, (Nd.mk k t ka kc ks da dc ds ln).bare.cut 18 = T := ⟨_, rfl⟩
  rw [Nd.val_eq, hT] at hcl
  rw [Nd.val_eq, hT]
  obtain ⟨H, hH⟩ : ∃ H, w.heap.size = H := ⟨_, rfl⟩
  obtain ⟨W, hW⟩ : ∃ W, (w.alloc (.cells #[.int .u8 k, .string ⟨t.toArray⟩, .slice ka ks.length kc, .slice da ds.length dc, .int .i64 ln] 61)).alloc (.cells #[.int .u8 0, .string ⟨#[]⟩, .slice none 0 0, .slice none 0 0, .int .i64 0] 61) = W := ⟨_, rfl⟩
  have hs0 : W.heap.size = H + 1 + 1 := by rw [← hW]; simp; omega
  have hb0 : Below H w W := by rw [← hW]; exact ((Below.refl _ w).alloc (by omega) _).alloc (by simp; omega) _
  have g0 : W.heap[H]? = some (.cells #[.int .u8 k, .string ⟨t.toArray⟩, .slice ka ks.length kc, .slice da ds.length dc, .int .i64 ln] 61) := by
    rw [← hW, ← hH]; exact (Below.heap_alloc _ _ _ (by simp)).trans (World.alloc_heap_new w _)
  have g1 : W.heap[H + 1]? = some (.cells #[.int .u8 0, .string ⟨#[]⟩, .slice none 0 0, .slice none 0 0, .int .i64 0] 61) := by
    rw [← hW, ← hH]; exact alloc2_new w _ _
  have HC := hide (hcl W (by rw [hH]; exact hb0))
  have HW := hide hW
  have HG1 := hide g1
  have HB0 := hide hb0
  obtain ⟨⟨x0, f0⟩, ⟨x1, f1⟩, ⟨x2, f2⟩, ⟨x3, f3⟩, ⟨x4, f4⟩⟩ := five_cell g0
  clear hcl hin hok hT hW g0 g1 hb0
  go_enter Tryz.func111, Tryz.ntmps111
  go_upto_region 1 with fail
  try rw [hH]
  rw [unhide HW]
  go_wp2_with (go_at_call 152; refine (unhide HC).mono ?_; rintro e w2 ⟨k2, t2, ka2, kc2, ks2, da2, dc2, ds2, l2, rfl, HN, hb2⟩; have m1 := (hb2.block (H + 1) (by omega)).trans (unhide HG1); obtain ⟨⟨y0, q0⟩, ⟨y1, q1⟩, ⟨y2, q2⟩, ⟨y3, q3⟩, ⟨y4, q4⟩⟩ := five_cell m1; have HM1 := hide m1; clear m1)
  obtain ⟨n1, n2, n3⟩ := unhide HN
  refine bodyPost_ret (results_cell_row rfl _ _ _ _ _ _ _ rfl (five_set (unhide HM1) _ _ _ _ _) Tryz.underlying61 rfl (by kernel_rfl)) rfl ⟨k2, t2, ka2, kc2, ks2, da2, dc2, ds2, l2, rfl, hide ⟨n1, n2.keep (fun g hg => five_other (by have := n3 g hg; omega) _ _ _ _ _), fun g hg => by have := n3 g hg; omega⟩, ?_⟩
  rw [hH]
  exact below_five ((unhide HB0).trans (hb2.mono (by omega))) (by omega) _ _ _ _ _
end Go.Proofs.YtefokfbgpfcbkaaGreat
