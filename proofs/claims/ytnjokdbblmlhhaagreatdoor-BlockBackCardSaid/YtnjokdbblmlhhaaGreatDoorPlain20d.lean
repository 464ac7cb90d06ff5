/- Plain law of layer 20: the lines of a tree's text, one by one, have that tree's tokens. -/
import Derived.Test.YtnjokdbblmlhhaaGreatDoorGW20
import Derived.Test.YtnjokdbblmlhhaaGreatDoorGR18
import Derived.Test.YtnjokdbblmlhhaaGreatDoorGL17
namespace Go.Proofs.YtnjokdbblmlhhaaGreatDoor
set_option linter.unusedVariables false
set_option linter.unusedSimpArgs false
/-- a byte that may not be there -/
abbrev oddC (c : UInt8) : Bool := oddB c
namespace P20
open P19 (turn close top adds skip signB line toks value)
open P18 (cut put plain quote quoteOne stands plainLen)
/-- a piece of a line: outside of quotes at both its ends, no byte that may not be, runes alone -/
structure Pc (x : List UInt8) : Prop where
  pass : ∀ bl k r, ∃ bl', remarkAt bl false false k (x ++ r) = remarkAt bl' false false (k + x.length) r
  clean : ∀ c ∈ x, oddC c = false
  vd : ∀ b, Vd b → Vd (x ++ b)
theorem Pc.nil : Pc [] := ⟨fun bl k r => ⟨bl, rfl⟩, by simp, fun b h => h⟩
theorem Pc.append {x y : List UInt8} (hx : Pc x) (hy : Pc y) : Pc (x ++ y) := by
  refine ⟨fun bl k r => ?_, fun c hc => ?_, fun b hb => ?_⟩
  · obtain ⟨b1, h1⟩ := hx.pass bl k (y ++ r)
    obtain ⟨b2, h2⟩ := hy.pass b1 (k + x.length) r
    exact ⟨b2, by rw [List.append_assoc, h1, h2, List.length_append, Nat.add_assoc]⟩
  · rcases List.mem_append.1 hc with h | h
    · exact hx.clean c h
    · exact hy.clean c h
  · rw [List.append_assoc]
    exact hx.vd _ (hy.vd b hb)
theorem Pc.cons {c : UInt8} {x : List UInt8} (h1 : c ≠ 34) (h2 : c ≠ 35) (h3 : oddC c = false) (h4 : c.toNat < 128) (hx : Pc x) : Pc (c :: x) := by
  refine ⟨fun bl k r => ?_, fun d hd => ?_, fun b hb => ?_⟩
  · obtain ⟨b1, h⟩ := hx.pass (c == 32) (k + 1) r
    refine ⟨b1, ?_⟩
    rw [List.cons_append, remarkAt, if_neg (by simp), if_neg (by simp), if_neg (by simpa using h1), if_pos (by simpa using h2), h, List.length_cons]
    congr 1
    omega
  · rcases List.mem_cons.1 hd with rfl | h
    · exact h3
    · exact hx.clean d h
  · rw [List.cons_append, vd_cons c h4]
    exact hx.vd b hb
theorem remark_plain : ∀ (l : List UInt8), (∀ c ∈ l, c ≠ 34 ∧ c ≠ 35 ∧ oddC c = false ∧ c.toNat < 128) → Pc l
  | [], h => .nil
  | c :: l, h => by
    obtain ⟨h1, h2, h3, h4⟩ := h c List.mem_cons_self
    exact .cons h1 h2 h3 h4 (remark_plain l (fun d hd => h d (List.mem_cons_of_mem _ hd)))
theorem stands_ok0 : ∀ n, n < 256 → stands (UInt8.ofNat n) true = true → (UInt8.ofNat n) ≠ 34 ∧ (UInt8.ofNat n) ≠ 35 ∧ oddC (UInt8.ofNat n) = false ∧ (UInt8.ofNat n).toNat < 128 := by decide +kernel
theorem stands_ok (c : UInt8) (h : stands c true = true) : c ≠ 34 ∧ c ≠ 35 ∧ oddC c = false ∧ c.toNat < 128 := by
  have := stands_ok0 c.toNat c.toNat_lt
  rw [UInt8.ofNat_toNat] at this
  exact this h
theorem stands_more0 : ∀ n, n < 256 → stands (UInt8.ofNat n) false = true → stands (UInt8.ofNat n) true = true := by decide +kernel
theorem stands_more (c : UInt8) (h : stands c false = true) : stands c true = true := by
  have := stands_more0 c.toNat c.toNat_lt
  rw [UInt8.ofNat_toNat] at this
  exact this h
theorem plainLen_mem : ∀ (l : List UInt8) (b : Bool), plainLen b l = l.length → ∀ c ∈ l, stands c true = true
  | [], b, h, c, hc => by simp at hc
  | d :: l, b, h, c, hc => by
    simp only [plainLen] at h
    split at h
    · rename_i hs
      rcases List.mem_cons.1 hc with rfl | hc
      · cases b
        · exact stands_more _ hs
        · exact hs
      · exact plainLen_mem l true (by simpa using h) c hc
    · simp at h
theorem plain_len {l : List UInt8} (h : plain l = true) : plainLen false l = l.length ∧ l ≠ [] := by
  unfold plain at h
  simp only [Bool.and_eq_true, beq_iff_eq] at h
  refine ⟨by omega, ?_⟩
  rintro rfl
  simp at h
/-- within quotes -/
structure Wq (x : List UInt8) : Prop where
  pass : ∀ bl k r, ∃ bl', remarkAt bl true false k (x ++ r) = remarkAt bl' true false (k + x.length) r
  clean : ∀ c ∈ x, oddC c = false
theorem Wq.nil : Wq [] := ⟨fun bl k r => ⟨bl, rfl⟩, by simp⟩
theorem Wq.append {x y : List UInt8} (hx : Wq x) (hy : Wq y) : Wq (x ++ y) := by
  refine ⟨fun bl k r => ?_, fun c hc => ?_⟩
  · obtain ⟨b1, h1⟩ := hx.pass bl k (y ++ r)
    obtain ⟨b2, h2⟩ := hy.pass b1 (k + x.length) r
    exact ⟨b2, by rw [List.append_assoc, h1, h2, List.length_append, Nat.add_assoc]⟩
  · rcases List.mem_append.1 hc with h | h
    · exact hx.clean c h
    · exact hy.clean c h
theorem Wq.one {c : UInt8} (h1 : c ≠ 34) (h2 : c ≠ 92) (h3 : oddC c = false) : Wq [c] := by
  refine ⟨fun bl k r => ⟨c == 32, ?_⟩, by simpa using h3⟩
  rw [List.singleton_append, remarkAt, if_neg (by simp), if_neg (by simpa using h2), if_neg (by simpa using h1), if_pos (by simp)]
  rfl
theorem Wq.esc {c : UInt8} (h3 : oddC c = false) : Wq [92, c] := by
  refine ⟨fun bl k r => ⟨c == 32, ?_⟩, ?_⟩
  · show remarkAt bl true false k (92 :: c :: r) = _
    rw [remarkAt, if_neg (by simp), if_pos (by rfl), remarkAt, if_pos rfl]
    rfl
  · intro d hd
    simp only [List.mem_cons, List.not_mem_nil, or_false] at hd
    rcases hd with rfl | rfl
    · rfl
    · exact h3
theorem hex_ok0 : ∀ n, n < 16 → P18.hexDigit n ≠ 34 ∧ P18.hexDigit n ≠ 92 ∧ oddC (P18.hexDigit n) = false ∧ (P18.hexDigit n).toNat < 128 := by decide +kernel
theorem odd_of {c : UInt8} (h1 : 32 ≤ c.toNat) (h2 : c.toNat ≠ 127) : oddC c = false := by
  unfold oddC _root_.Go.Proofs.YtnjokdbblmlhhaaGreatDoor.oddB
  simp only [Bool.or_eq_false_iff, decide_eq_false_iff_not, beq_eq_false_iff_ne, ne_eq, UInt8.lt_iff_toNat_lt]
  refine ⟨by simpa using h1, fun e => h2 (by rw [e]; rfl)⟩
theorem ne_of_nat {c d : UInt8} (h : c.toNat ≠ d.toNat) : c ≠ d := fun e => h (by rw [e])
theorem Wq.quoteOne (c : UInt8) : Wq (P18.quoteOne c) := by
  rcases R18.quoteOne_cases c with ⟨h, h1, h2, h3, h4⟩ | ⟨h, rfl⟩ | ⟨h, rfl⟩ | ⟨h, rfl⟩ | ⟨h, rfl⟩ | ⟨h, h1, h2, h3⟩
  · rw [h]; exact .one (ne_of_nat h4) (ne_of_nat h3) (odd_of h1 h2)
  · rw [h]; exact .esc rfl
  · rw [h]; exact .esc rfl
  · rw [h]; exact .esc rfl
  · rw [h]; exact .esc rfl
  · rw [h]
    obtain ⟨a1, a2, a3, _⟩ := hex_ok0 (c.toNat / 16) (by omega)
    obtain ⟨b1, b2, b3, _⟩ := hex_ok0 (c.toNat % 16) (by omega)
    exact (Wq.esc (c := 120) rfl).append ((Wq.one a1 a2 a3).append (.one b1 b2 b3))
theorem Wq.quotes : ∀ l : List UInt8, Wq (l.flatMap P18.quoteOne)
  | [] => .nil
  | c :: l => by rw [List.flatMap_cons]; exact (Wq.quoteOne c).append (Wq.quotes l)
/-- what a byte below 128 is put as has only such -/
theorem quoteOne_low {c : UInt8} (h : c.toNat < 128) : (∀ d ∈ P18.quoteOne c, d.toNat < 128) ∧ P18.quoteOne c ≠ [] := by
  rcases R18.quoteOne_cases c with ⟨h, h1, h2, h3, h4⟩ | ⟨h, rfl⟩ | ⟨h, rfl⟩ | ⟨h, rfl⟩ | ⟨h, rfl⟩ | ⟨h, h1, h2, h3⟩
  · rw [h]; simpa using ‹c.toNat < 128›
  · rw [h]; exact ⟨by decide, by simp⟩
  · rw [h]; exact ⟨by decide, by simp⟩
  · rw [h]; exact ⟨by decide, by simp⟩
  · rw [h]; exact ⟨by decide, by simp⟩
  · rw [h]
    obtain ⟨_, _, _, a4⟩ := hex_ok0 (c.toNat / 16) (by omega)
    obtain ⟨_, _, _, b4⟩ := hex_ok0 (c.toNat % 16) (by omega)
    refine ⟨fun d hd => ?_, by simp⟩
    simp only [List.mem_cons, List.not_mem_nil, or_false] at hd
    rcases hd with rfl | rfl | rfl | rfl
    · decide
    · decide
    · exact a4
    · exact b4
theorem quoteOne_high {c : UInt8} (hc : 128 ≤ c.toNat) : P18.quoteOne c = [c] := by
  rcases R18.quoteOne_cases c with ⟨h, h1, h2, h3, h4⟩ | ⟨h, rfl⟩ | ⟨h, rfl⟩ | ⟨h, rfl⟩ | ⟨h, rfl⟩ | ⟨h, h1, h2, h3⟩
  · exact h
  · exact absurd hc (by decide)
  · exact absurd hc (by decide)
  · exact absurd hc (by decide)
  · exact absurd hc (by decide)
  · omega
theorem vd_low : ∀ (e b : List UInt8), (∀ d ∈ e, d.toNat < 128) → (Vd (e ++ b) ↔ Vd b)
  | [], b, h => Iff.rfl
  | d :: e, b, h => by rw [List.cons_append, vd_cons d (h d List.mem_cons_self), vd_low e b (fun x hx => h x (List.mem_cons_of_mem _ hx))]
theorem vd_quotes : ∀ (n : Nat) (a l : List UInt8), l.length ≤ n → (∀ c ∈ a, 128 ≤ c.toNat) → Vd (a ++ l) → Vd (a ++ l.flatMap P18.quoteOne)
  | n, a, [], hn, ha, h => by simpa using h
  | 0, a, c :: l, hn, ha, h => by simp at hn
  | n + 1, a, c :: l, hn, ha, h => by
    simp only [List.length_cons] at hn
    rw [List.flatMap_cons]
    rcases Nat.lt_or_ge c.toNat 128 with hc | hc
    · obtain ⟨h1, h2⟩ := (vd_at hc).1 h
      obtain ⟨q1, q2⟩ := quoteOne_low hc
      cases hq : P18.quoteOne c with
      | nil => exact absurd hq q2
      | cons d e =>
        rw [hq] at q1
        rw [List.cons_append]
        refine (vd_at (q1 d List.mem_cons_self)).2 ⟨h1, (vd_low _ _ (fun x hx => q1 x (List.mem_cons_of_mem _ hx))).2 ?_⟩
        exact vd_quotes n [] l (by omega) (by simp) h2
    · rw [quoteOne_high hc]
      have := vd_quotes n (a ++ [c]) l (by omega) (fun x hx => by
        rcases List.mem_append.1 hx with hx | hx
        · exact ha x hx
        · rw [List.mem_singleton.1 hx]; exact hc) (by simpa using h)
      simpa using this
theorem vd_of_check {l : List UInt8} {m : Int} (h : P03.check l m = 0) : Vd l := by
  unfold P03.check at h
  split at h
  · exact absurd h (by decide)
  · split at h
    · exact absurd h (by decide)
    · unfold Vd; omega
/-- what is put is such a piece -/
theorem Pc.put {l : List UInt8} (h : Vd l) : Pc (P18.put l) := by
  unfold P18.put
  cases hp : plain l
  · rw [if_neg (by simp)]
    unfold P18.quote
    have hw := Wq.quotes l
    refine ⟨fun bl k r => ?_, fun c hc => ?_, fun b hb => ?_⟩
    · obtain ⟨b1, h1⟩ := hw.pass ((34 : UInt8) == 32) (k + 1) (34 :: r)
      refine ⟨(34 : UInt8) == 32, ?_⟩
      rw [List.cons_append, remarkAt, if_neg (by simp), if_neg (by simp), if_pos (by rfl)]
      show remarkAt ((34 : UInt8) == 32) true false (k + 1) (l.flatMap P18.quoteOne ++ [34] ++ r) = _
      rw [List.append_assoc, List.singleton_append, h1, remarkAt, if_neg (by simp), if_neg (by simp), if_pos (by rfl)]
      simp only [List.length_cons, List.length_append, List.length_nil]
      congr 1
      omega
    · rcases List.mem_cons.1 hc with rfl | hc
      · rfl
      · rcases List.mem_append.1 hc with hc | hc
        · exact hw.clean c hc
        · rw [List.mem_singleton.1 hc]; rfl
    · rw [List.cons_append, vd_cons 34 (by decide), List.append_assoc, List.singleton_append]
      exact (vd_at (by decide)).2 ⟨vd_quotes l.length [] l (Nat.le_refl _) (by simp) h, hb⟩
  · rw [if_pos rfl]
    exact remark_plain l (fun c hc => stands_ok c (plainLen_mem l false (plain_len hp).1 c hc))
theorem plainLen_stop {r : List UInt8} (hr : r = [] ∨ ∃ c r', r = c :: r' ∧ stands c true = false) : ∀ {l : List UInt8} {b : Bool}, plainLen b l = l.length → l ≠ [] → plainLen b (l ++ r) = l.length
  | [], b, h, hn => absurd rfl hn
  | c :: l, b, h, hn => by
    simp only [plainLen] at h
    split at h
    · rename_i hs
      simp only [List.cons_append, plainLen, hs, if_true, List.length_cons]
      by_cases hl : l = []
      · subst hl
        rcases hr with rfl | ⟨d, r', rfl, hd⟩
        · simp [plainLen]
        · simp [plainLen, hd]
      · rw [plainLen_stop hr (by simpa using h) hl]
    · simp at h
theorem cutp (l r : List UInt8) (hr : r = [] ∨ ∃ c r', r = c :: r' ∧ stands c true = false) : cut (put l ++ r) = ((put l).length, 0) := by
  unfold P18.put
  cases h : plain l
  · rw [if_neg (by simp)]; exact R18.cut_quote l _
  · rw [if_pos rfl]
    obtain ⟨h1, h2⟩ := R18.plain_head h
    obtain ⟨hpl, hne⟩ := plain_len h
    have hp : Lib.hasPrefix (l ++ r) [34] = false := by
      cases l with
      | nil => exact absurd rfl hne
      | cons c t => exact h1
    unfold P18.cut
    rw [if_neg (by rw [hp]; simp), plainLen_stop hr hpl hne, if_neg (by simp; exact hne)]
/-- with which byte a put text begins -/
def Hd (x : List UInt8) : Prop := ∃ a r, x = a :: r ∧ a ≠ 32 ∧ a ≠ 45 ∧ a ≠ 91 ∧ a ≠ 123
theorem stands_hd0 : ∀ n, n < 256 → stands (UInt8.ofNat n) false = true → (UInt8.ofNat n) ≠ 32 ∧ (UInt8.ofNat n) ≠ 45 ∧ (UInt8.ofNat n) ≠ 91 ∧ (UInt8.ofNat n) ≠ 123 := by decide +kernel
theorem hd_put (l : List UInt8) : Hd (put l) := by
  unfold P18.put
  cases h : plain l
  · rw [if_neg (by simp)]
    exact ⟨34, _, rfl, by decide, by decide, by decide, by decide⟩
  · rw [if_pos rfl]
    obtain ⟨hpl, hne⟩ := plain_len h
    cases l with
    | nil => exact absurd rfl hne
    | cons c r =>
      simp only [plainLen] at hpl
      split at hpl
      · rename_i hs
        have := stands_hd0 c.toNat c.toNat_lt
        rw [UInt8.ofNat_toNat] at this
        exact ⟨c, r, rfl, this hs⟩
      · simp at hpl
theorem put_last (l : List UInt8) : (put l).getLast? ≠ some 32 := by
  unfold P18.put
  cases h : plain l
  · rw [if_neg (by simp)]
    unfold P18.quote
    rw [← List.cons_append, List.getLast?_append]
    simp
  · rw [if_pos rfl]
    intro hl
    have := plainLen_mem l false (plain_len h).1 32 (List.mem_of_getLast? hl)
    exact absurd this (by decide)
theorem read_ok {l : List UInt8} {m : Int} (hm : m ≤ 4096) (h : P03.check l m = 0) : P18.read (put l) = (l, 0) := by
  rw [R18.read_put]
  have h2 : P03.check l 4096 = 0 := by
    have h3 := vd_of_check h
    unfold Vd at h3
    have h4 := check_len h
    unfold P03.check
    rw [if_neg (by omega), if_neg (by omega)]
  unfold P18.chk
  rw [h2]
  rfl
/-- a line's text has these tokens, wherever it stands -/
def Lx (x : List UInt8) (ts : Int → Int → List Tk) : Prop := ∀ f n c, x.length < f → line f n c x = (ts n c, 0)
theorem sign_no {x : List UInt8} (h : Hd x) : signB 45 x = false := by
  obtain ⟨a, r, rfl, _, h2, _⟩ := h
  simp [signB, h2]
theorem hd_no {x : List UInt8} (h : Hd x) : x ≠ [91, 93] ∧ x ≠ [123, 125] := by
  obtain ⟨a, r, rfl, _, _, h3, h4⟩ := h
  refine ⟨?_, ?_⟩
  · intro e; injection e with e; exact h3 e
  · intro e; injection e with e; exact h4 e
theorem hd_append {x : List UInt8} (h : Hd x) (y : List UInt8) : Hd (x ++ y) := by
  obtain ⟨a, r, rfl, h⟩ := h
  exact ⟨a, r ++ y, rfl, h⟩
theorem lx_put {t : List UInt8} (h : P03.check t 4096 = 0) : Lx (put t) (fun n c => [(5, t, n, c)]) := by
  intro f n c hf
  obtain ⟨f, rfl⟩ : ∃ g, f = g + 1 := ⟨f - 1, by omega⟩
  have hh := hd_put t
  have hc := cutp t [] (.inl rfl)
  rw [List.append_nil] at hc
  have ht : (put t).take (put t).length = put t := List.take_length
  unfold P19.line
  rw [if_neg (by rw [sign_no hh]; simp), if_neg (hd_no hh).1, if_neg (hd_no hh).2, hc]
  simp only [ht, read_ok (Int.le_refl _) h]
  rw [if_neg (by simp), if_neg (by simp), if_neg (by simp), if_pos trivial]
theorem lx_seq : Lx [91, 93] (fun n c => [(6, [], n, c)]) := by
  intro f n c hf
  obtain ⟨f, rfl⟩ : ∃ g, f = g + 1 := ⟨f - 1, by omega⟩
  unfold P19.line
  rw [if_neg (by decide), if_pos rfl]
theorem lx_map : Lx [123, 125] (fun n c => [(7, [], n, c)]) := by
  intro f n c hf
  obtain ⟨f, rfl⟩ : ∃ g, f = g + 1 := ⟨f - 1, by omega⟩
  unfold P19.line
  rw [if_neg (by decide), if_neg (by decide), if_pos rfl]
theorem skip_hd {x : List UInt8} {a : UInt8} {r : List UInt8} (h : x = a :: r) (ha : a ≠ 32) : skip x = 0 ∧ trimL x = x := by
  subst h
  unfold P19.skip trimL
  rw [List.takeWhile_cons_of_neg (by simpa using ha), List.dropWhile_cons_of_neg (by simpa using ha)]
  exact ⟨rfl, rfl⟩
theorem skip_two {x : List UInt8} {a : UInt8} {r : List UInt8} (h : x = a :: r) (ha : a ≠ 32) : skip (32 :: x) = 1 := by
  have := (skip_hd h ha).1
  unfold P19.skip at this ⊢
  rw [List.takeWhile_cons_of_pos (by rfl), List.length_cons, this]
theorem lx_dash {x : List UInt8} {a : UInt8} {r : List UInt8} {ts : Int → Int → List Tk} (h : Lx x ts) (hx : x = a :: r) (ha : a ≠ 32) : Lx (45 :: 32 :: x) (fun n c => (3, [], n, c) :: ts n (c + 2)) := by
  intro f n c hf
  obtain ⟨f, rfl⟩ : ∃ g, f = g + 1 := ⟨f - 1, by omega⟩
  have hs := skip_two hx ha
  have hl := h f n (c + 2) (by simp only [List.length_cons] at hf; omega)
  have hp : 0 < x.length := by rw [hx]; simp
  unfold P19.line
  rw [if_pos (by rfl)]
  simp only [List.drop_succ_cons, List.drop_zero, hs]
  rw [if_neg (by simp only [List.length_cons]; omega)]
  have e : (c + ((1 + 1 : Nat) : Int)) = c + 2 := by omega
  simp only [e, List.drop_succ_cons, List.drop_zero, hl]
  rw [if_neg (by simp)]
theorem key_facts {k r : List UInt8} (h : P03.check k 64 = 0) (hr : r = [] ∨ ∃ r', r = 32 :: r') :
    signB 45 (put k ++ 58 :: r) = false ∧ put k ++ 58 :: r ≠ [91, 93] ∧ put k ++ 58 :: r ≠ [123, 125] ∧ cut (put k ++ 58 :: r) = ((put k).length, 0) ∧
    (put k ++ 58 :: r).drop (put k).length = 58 :: r ∧ (put k ++ 58 :: r).take (put k).length = put k ∧ (put k ++ 58 :: r).drop ((put k).length + 1) = r ∧ signB 58 (58 :: r) = true ∧ P18.read (put k) = (k, 0) := by
  have hh := hd_append (hd_put k) (58 :: r)
  refine ⟨sign_no hh, (hd_no hh).1, (hd_no hh).2, cutp k _ (.inr ⟨58, r, rfl, by decide⟩), by simp, by simp, ?_, ?_, read_ok (by omega) h⟩
  · rw [← List.drop_drop]; simp
  · rcases hr with rfl | ⟨r', rfl⟩ <;> rfl
theorem lx_key {k : List UInt8} (h : P03.check k 64 = 0) : Lx (put k ++ [58]) (fun n c => [(4, k, n, c)]) := by
  intro f n c hf
  obtain ⟨f, rfl⟩ : ∃ g, f = g + 1 := ⟨f - 1, by omega⟩
  obtain ⟨e1, e2, e3, e4, e5, e6, e7, e8, e9⟩ := key_facts h (r := []) (.inl rfl)
  unfold P19.line
  rw [if_neg (by rw [e1]; simp), if_neg e2, if_neg e3, e4]
  simp only [e5, e6, e7, e8, e9]
  rw [if_neg (by simp), if_neg (by simp), if_neg (by simp), if_neg (by simp), if_pos (by simp [P19.skip])]
theorem lx_keyleaf {k x : List UInt8} {a : UInt8} {r : List UInt8} {t : Int → Int → Tk} (h : P03.check k 64 = 0) (hx : x = a :: r) (ha : a ≠ 32) (hv : ∀ n c, value n c x = (t n c, 0)) :
    Lx (put k ++ 58 :: 32 :: x) (fun n c => [(4, k, n, c), t n (c + ((put k).length + 2 : Nat))]) := by
  intro f n c hf
  obtain ⟨f, rfl⟩ : ∃ g, f = g + 1 := ⟨f - 1, by omega⟩
  obtain ⟨e1, e2, e3, e4, e5, e6, e7, e8, e9⟩ := key_facts h (r := 32 :: x) (.inr ⟨x, rfl⟩)
  have hs := skip_two hx ha
  have hp : 0 < x.length := by rw [hx]; simp
  have e10 : (put k ++ 58 :: 32 :: x).drop ((put k).length + 1 + 1) = x := by
    rw [← List.drop_drop, e7]; rfl
  unfold P19.line
  rw [if_neg (by rw [e1]; simp), if_neg e2, if_neg e3, e4]
  simp only [e5, e6, e7, e8, e9, hs, e10, hv]
  rw [if_neg (by simp), if_neg (by simp), if_neg (by simp), if_neg (by simp), if_neg (by simp only [List.length_append, List.length_cons]; omega), if_neg (by simp)]
theorem value_leaf {k : Nat} {t : List UInt8} {ks : List (List UInt8)} {l : Int} {lv : Nat} (h : T.check lv (.mk k t ks [] l) = 0) (n c : Int) : value n c (leaf k t) = (leafTk n c k t, 0) := by
  obtain ⟨h1, h2, h3, h4, h5, h6, _⟩ := check_mk h
  unfold leaf leafTk
  by_cases k2 : k = 2
  · simp [k2, P19.value]
  · by_cases k3 : k = 3
    · simp [k3, P19.value]
    · have hh := hd_put t
      have hc := cutp t [] (.inl rfl)
      rw [List.append_nil] at hc
      rw [if_neg k2, if_neg k3, if_neg k2, if_neg k3]
      unfold P19.value
      rw [if_neg (hd_no hh).1, if_neg (hd_no hh).2, hc, read_ok (Int.le_refl _) h5, if_neg (by simp)]
theorem lx_leaf {k : Nat} {t : List UInt8} {ks : List (List UInt8)} {l : Int} {lv : Nat} (h : T.check lv (.mk k t ks [] l) = 0) : Lx (leaf k t) (fun n c => [leafTk n c k t]) := by
  obtain ⟨h1, h2, h3, h4, h5, h6, _⟩ := check_mk h
  unfold leaf leafTk
  by_cases k2 : k = 2
  · rw [if_pos k2]; simp only [if_pos k2]; exact lx_seq
  · by_cases k3 : k = 3
    · rw [if_neg k2, if_pos k3]; simp only [if_neg k2, if_pos k3]; exact lx_map
    · rw [if_neg k2, if_neg k3]; simp only [if_neg k2, if_neg k3]; exact lx_put h5
/-- a leaf's text: it begins with no blank, ends with none, and is a piece -/
theorem leaf_piece {k : Nat} {t : List UInt8} {ks : List (List UInt8)} {l : Int} {lv : Nat} (h : T.check lv (.mk k t ks [] l) = 0) : Pc (leaf k t) ∧ (leaf k t).getLast? ≠ some 32 ∧ ∃ a r, leaf k t = a :: r ∧ a ≠ 32 := by
  obtain ⟨h1, h2, h3, h4, h5, h6, _⟩ := check_mk h
  unfold leaf
  by_cases k2 : k = 2
  · rw [if_pos k2]; exact ⟨remark_plain _ (by decide), by simp, 91, _, rfl, by decide⟩
  · by_cases k3 : k = 3
    · rw [if_neg k2, if_pos k3]; exact ⟨remark_plain _ (by decide), by simp, 123, _, rfl, by decide⟩
    · rw [if_neg k2, if_neg k3]
      obtain ⟨a, r, e, ha, _⟩ := hd_put t
      exact ⟨.put (vd_of_check h5), put_last t, a, r, e, ha⟩
/-- a line that may be: with all that is asked of it, whatever stands ahead -/
structure LOk (x : List UInt8) : Prop where
  pc : Pc x
  last : x.getLast? ≠ some 32
  ne : trimL x ≠ []
  tk : ∀ n c, (toks n c (trimL x)).2 = 0
theorem LOk.blanks {x : List UInt8} (h : LOk x) : LOk (32 :: 32 :: x) := by
  have e : trimL (32 :: 32 :: x) = trimL x := by
    unfold trimL
    rw [List.dropWhile_cons_of_pos (by rfl), List.dropWhile_cons_of_pos (by rfl)]
  refine ⟨.cons (by decide) (by decide) rfl (by decide) (.cons (by decide) (by decide) rfl (by decide) h.pc), ?_, by rw [e]; exact h.ne, by rw [e]; exact h.tk⟩
  have hn : x ≠ [] := by rintro rfl; exact h.ne rfl
  rw [List.getLast?_cons_cons, List.getLast?_cons_of_ne_nil hn]
  exact h.last
theorem LOk.of {x : List UInt8} {a : UInt8} {r : List UInt8} {ts : Int → Int → List Tk} (hp : Pc x) (hl : x.getLast? ≠ some 32) (hx : x = a :: r) (ha : a ≠ 32) (h : Lx x ts) : LOk x := by
  have e := (skip_hd hx ha).2
  refine ⟨hp, hl, by rw [e, hx]; simp, fun n c => ?_⟩
  rw [e]
  unfold P19.toks
  rw [h _ n c (Nat.lt_succ_self _)]
/-- a line's tokens, and where they stand -/
def tag (b : Bool) (k : Nat) : List Tk → List Mk
  | [] => []
  | t :: r => (b, k, t) :: tag false t.1 r
/-- the tokens of lines from a line on, moved in -/
def flatR (n c : Int) : List (List UInt8) → List Mk
  | [] => []
  | x :: r => tag true 0 (toks n (c + skip x) (trimL x)).1 ++ flatR (n + 1) c r
theorem flatR_append (c : Int) : ∀ (a b : List (List UInt8)) (n : Int), flatR n c (a ++ b) = flatR n c a ++ flatR (n + a.length) c b
  | [], b, n => by simp [flatR]
  | x :: a, b, n => by
    rw [List.cons_append, flatR, flatR, flatR_append c a b (n + 1), List.append_assoc]
    congr 3
    simp only [List.length_cons]
    omega
theorem flatR_in (c : Int) : ∀ (a : List (List UInt8)) (n : Int), flatR n c (a.map (fun x => [32, 32] ++ x)) = flatR n (c + 2) a
  | [], n => rfl
  | x :: a, n => by
    have e : trimL ([32, 32] ++ x) = trimL x := by
      show trimL (32 :: 32 :: x) = _
      unfold trimL
      rw [List.dropWhile_cons_of_pos (by rfl), List.dropWhile_cons_of_pos (by rfl)]
    have e2 : (c : Int) + (skip ([32, 32] ++ x) : Nat) = c + 2 + (skip x : Nat) := by
      show c + ((skip (32 :: 32 :: x) : Nat) : Int) = _
      unfold P19.skip
      rw [List.takeWhile_cons_of_pos (by rfl), List.takeWhile_cons_of_pos (by rfl)]
      simp only [List.length_cons]
      omega
    rw [List.map_cons, flatR, flatR, flatR_in c a (n + 1), e, e2]
end P20
end Go.Proofs.YtnjokdbblmlhhaaGreatDoor
