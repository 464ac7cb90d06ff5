/- The plain law of numbers and their digits: each the other's. -/
import Derived.Test.YthnfiijojamlaaaPlain18d
namespace Go.Proofs.Ythnfiijojamlaaa
set_option linter.unusedVariables false
set_option linter.unusedSimpArgs false
namespace P18
def isDig (c : UInt8) : Prop := 48 ≤ c.toNat ∧ c.toNat ≤ 57
def step (n : Nat) (c : UInt8) : Nat := n * 10 + (c.toNat - 48)
theorem numLoop_all (l : List UInt8) : ∀ n, (∀ c ∈ l, isDig c) → numLoop n l = (((l.foldl step n : Nat) : Int), 0) := by
  induction l with
  | nil => intro n _; rfl
  | cons c r ih =>
    intro n h
    have hc := h c (by simp)
    unfold isDig at hc
    simp only [numLoop, List.foldl_cons]
    rw [if_neg (by omega), ih _ (fun x hx => h x (by simp [hx]))]
    rfl
theorem numLoop_ok (l : List UInt8) : ∀ n m, numLoop n l = (m, 0) → (∀ c ∈ l, isDig c) ∧ m = ((l.foldl step n : Nat) : Int) := by
  induction l with
  | nil => intro n m h; simp [numLoop] at h; exact ⟨by simp, h.symm⟩
  | cons c r ih =>
    intro n m h
    simp only [numLoop] at h
    split at h
    · simp at h
    · rename_i hc
      have := ih _ _ h
      refine ⟨?_, this.2⟩
      intro x hx
      rcases List.mem_cons.1 hx with rfl | hx
      · unfold isDig; omega
      · exact this.1 x hx
/-- the value of digits, the lowest first -/
def val (l : List UInt8) : Nat := l.foldr (fun c n => step n c) 0
theorem val_rev (l : List UInt8) : l.reverse.foldl step 0 = val l := by rw [List.foldl_reverse]; rfl
theorem val_cons (c : UInt8) (r : List UInt8) : val (c :: r) = val r * 10 + (c.toNat - 48) := rfl
theorem ofNat_dig {x : Nat} (h : x < 10) : (UInt8.ofNat (48 + x)).toNat = 48 + x := by simp; omega
theorem isDig_ofNat (x : Nat) : isDig (UInt8.ofNat (48 + x % 10)) := by
  unfold isDig; rw [ofNat_dig (by omega)]; omega
theorem moreDigs_val : ∀ (f m : Nat), m < 10 ^ (f + 1) → val (moreDigs f m) = m / 10 ∧ (∀ c ∈ moreDigs f m, isDig c) ∧ (∀ k, m < 10 ^ (k + 1) → (moreDigs f m).length ≤ k) ∧ (∀ x, (moreDigs f m).getLast? = some x → x.toNat ≠ 48) := by
  intro f
  induction f with
  | zero => intro m h; refine ⟨?_, by simp [moreDigs], by simp [moreDigs], by simp [moreDigs]⟩; simp [moreDigs, val]; omega
  | succ f ih =>
    intro m h
    rw [moreDigs_step]
    by_cases h10 : m < 10
    · rw [if_pos h10]; refine ⟨?_, by simp, by simp, by simp⟩; simp [val]; omega
    · rw [if_neg h10]
      have h2 : m / 10 < 10 ^ (f + 1) := by rw [Nat.pow_succ] at h; omega
      obtain ⟨i1, i2, i3, i4⟩ := ih (m / 10) h2
      refine ⟨?_, ?_, ?_, ?_⟩
      · rw [val_cons, i1, ofNat_dig (by omega)]; omega
      · intro c hc
        rcases List.mem_cons.1 hc with rfl | hc
        · exact isDig_ofNat _
        · exact i2 c hc
      · intro k hk
        cases k with
        | zero => omega
        | succ k =>
          have := i3 k (by rw [Nat.pow_succ] at hk; omega)
          simp; omega
      · intro x hx
        rw [List.getLast?_cons] at hx
        cases hl : (moreDigs f (m / 10)).getLast? with
        | some y =>
          rw [hl] at hx; simp at hx; subst hx
          exact i4 _ hl
        | none =>
          rw [hl] at hx
          simp only [Option.getD_none, Option.some.injEq] at hx
          have he : moreDigs f (m / 10) = [] := List.getLast?_eq_none_iff.1 hl
          rw [he] at i1
          simp [val] at i1
          rw [← hx, ofNat_dig (by omega)]
          omega
theorem moreDigs_back : ∀ (r : List UInt8) (d : UInt8) (f : Nat), r.length ≤ f → isDig d → (∀ c ∈ r, isDig c) → (∀ x, r.getLast? = some x → x.toNat ≠ 48) →
    moreDigs f (val (d :: r)) = r ∧ (r ≠ [] → 0 < val r) := by
  intro r
  induction r with
  | nil =>
    intro d f _ hd _ _
    refine ⟨?_, by simp⟩
    cases f with
    | zero => rfl
    | succ f => rw [moreDigs_step, if_pos (by rw [val_cons]; simp [val]; unfold isDig at hd; omega)]
  | cons e r ih =>
    intro d f hf hd hr hl
    have he := hr e (by simp)
    have hl' : ∀ x, r.getLast? = some x → x.toNat ≠ 48 := by
      intro x hx
      apply hl
      rw [List.getLast?_cons, hx]; rfl
    cases f with
    | zero => simp at hf
    | succ f =>
      obtain ⟨i1, i2⟩ := ih e f (by simpa using hf) he (fun c hc => hr c (by simp [hc])) hl'
      have hpos : 0 < val (e :: r) := by
        rw [val_cons]
        cases r with
        | nil =>
          have := hl e (by simp)
          unfold isDig at he; omega
        | cons a b => have := i2 (by simp); omega
      refine ⟨?_, fun _ => hpos⟩
      have hdv : val (d :: e :: r) / 10 = val (e :: r) := by rw [val_cons]; unfold isDig at hd; omega
      rw [moreDigs_step, if_neg (by rw [val_cons]; omega), hdv, i1]
      have hm : val (e :: r) % 10 = e.toNat - 48 := by rw [val_cons]; unfold isDig at he; omega
      rw [hm]
      congr 1
      apply UInt8.toNat_inj.1
      unfold isDig at he
      rw [ofNat_dig (by omega)]; omega
theorem moreDigs_le : ∀ (f m : Nat), (moreDigs f m).length ≤ f := by
  intro f
  induction f with
  | zero => intro m; simp [moreDigs]
  | succ f ih => intro m; rw [moreDigs_step]; split <;> simp; exact ih _
theorem digits_len (n : Int) : (digits n).length ≤ 100 := by
  unfold digits digs
  split
  · simp
  · have := moreDigs_le 9 n.toNat
    simp; omega
theorem number_digits {n : Int} (h0 : 0 ≤ n) (h9 : n ≤ 999999999) : number (digits n) = (n, 0) := by
  obtain ⟨N, rfl⟩ := Int.eq_ofNat_of_zero_le h0
  have hN : N < 10 ^ (9 + 1) := by omega
  obtain ⟨i1, i2, i3, i4⟩ := moreDigs_val 9 N hN
  have hlen := i3 8 (by omega)
  unfold digits
  rw [if_neg (by omega), Int.toNat_natCast]
  have hall : ∀ c ∈ (digs N).reverse, isDig c := by
    intro c hc
    rw [List.mem_reverse] at hc
    rcases List.mem_cons.1 hc with rfl | hc
    · exact isDig_ofNat _
    · exact i2 c hc
  unfold number
  rw [if_neg ?_, numLoop_all _ _ hall, val_rev]
  · rw [digs, val_cons, i1, ofNat_dig (by omega)]
    congr 1
    omega
  · rintro (h | h | ⟨h, h48⟩)
    · simp [digs] at h
    · simp [digs] at h; omega
    · rw [List.getD_eq_getElem?_getD, ← List.head?_eq_getElem?, List.head?_reverse, digs, List.getLast?_cons] at h48
      cases hl : (moreDigs 9 N).getLast? with
      | some y => rw [hl] at h48; exact i4 y hl h48
      | none =>
        have he : moreDigs 9 N = [] := List.getLast?_eq_none_iff.1 hl
        rw [digs, he] at h; simp at h
theorem digits_number {s : List UInt8} {m : Int} (h : number s = (m, 0)) : digits m = s := by
  unfold number at h
  split at h
  · simp at h
  · rename_i hc
    obtain ⟨h1, rfl⟩ := numLoop_ok _ _ _ h
    obtain ⟨d, r, hdr⟩ : ∃ d r, s.reverse = d :: r := by
      cases hs : s.reverse with
      | nil => simp at hs; subst hs; simp at hc
      | cons d r => exact ⟨d, r, rfl⟩
    have hs : s = (d :: r).reverse := by rw [← hdr, List.reverse_reverse]
    have hl : s.length = r.length + 1 := by rw [hs]; simp
    have hd : ∀ c ∈ d :: r, isDig c := fun c hc => h1 c (by rw [hs]; simp only [List.mem_reverse]; exact hc)
    have hlast : ∀ x, r.getLast? = some x → x.toNat ≠ 48 := by
      intro x hx e48
      have hrl : 0 < r.length := by cases r with | nil => simp at hx | cons _ _ => simp
      refine hc (.inr (.inr ⟨by omega, ?_⟩))
      rw [List.getD_eq_getElem?_getD, ← List.head?_eq_getElem?, hs, List.head?_reverse, List.getLast?_cons, hx]
      exact e48
    obtain ⟨k1, k2⟩ := moreDigs_back r d 9 (by omega) (hd d (by simp)) (fun c hc => hd c (by simp [hc])) hlast
    have hv : s.foldl step 0 = val (d :: r) := by rw [hs, val_rev]
    rw [hv]
    have hlt : ∀ (l : List UInt8), (∀ c ∈ l, isDig c) → val l < 10 ^ l.length := by
      intro l
      induction l with
      | nil => intro _; simp [val]
      | cons a b ih =>
        intro hx
        have := ih (fun c hc => hx c (by simp [hc]))
        have ha := hx a (by simp)
        unfold isDig at ha
        rw [val_cons, List.length_cons, Nat.pow_succ]; omega
    have hb := hlt (d :: r) hd
    have hp : 10 ^ (d :: r).length ≤ 10 ^ 9 := Nat.pow_le_pow_right (by omega) (by simp; omega)
    unfold digits
    rw [if_neg (by omega), Int.toNat_natCast, digs, k1]
    have hdd := hd d (by simp)
    have hm : val (d :: r) % 10 = d.toNat - 48 := by rw [val_cons]; unfold isDig at hdd; omega
    rw [hm, hs]
    congr 2
    apply UInt8.toNat_inj.1
    unfold isDig at hdd
    rw [ofNat_dig (by omega)]; omega
end P18
end Go.Proofs.Ythnfiijojamlaaa
