/- Plain law of layer 20: what is read may be, is small, and is printed alike; what was printed is read. -/
import Derived.Test.YtnjokdbblmlhhaaGreatDoorPlain20e
import Derived.Test.YtnjokdbblmlhhaaGreatDoorGR20
import Derived.Test.YtnjokdbblmlhhaaGreatDoorWR20b
namespace Go.Proofs.YtnjokdbblmlhhaaGreatDoor
set_option linter.unusedVariables false
set_option linter.unusedSimpArgs false
namespace P20
open P19 (line value close turn adds allR rowT toks)
def sumL (l : List (List UInt8)) : Nat := (l.map List.length).sum
theorem sumL_cons (x : List UInt8) (l : List (List UInt8)) : sumL (x :: l) = x.length + sumL l := by simp [sumL]
theorem sumL_snoc (x : List UInt8) (l : List (List UInt8)) : sumL (l ++ [x]) = sumL l + x.length := by simp [sumL]
theorem sumL_head (l : List (List UInt8)) : (l.headD []).length + sumL l.tail = sumL l := by
  cases l with
  | nil => rfl
  | cons x r => rw [sumL_cons]; rfl
mutual
def T.wt : T → Nat
  | .mk k t ks ds l => 1 + t.length + sumL ks + wtL ds
def wtL : List T → Nat
  | [] => 0
  | d :: ds => d.wt + wtL ds
end
theorem wtL_snoc : ∀ (a : List T) (d : T), wtL (a ++ [d]) = wtL a + d.wt
  | [], d => by simp [wtL]
  | x :: a, d => by simp only [List.cons_append, wtL, wtL_snoc a d]; omega
theorem wtL_len : ∀ ds : List T, ds.length ≤ wtL ds
  | [] => Nat.le_refl _
  | d :: ds => by
    have h1 := wtL_len ds
    have h2 : 1 ≤ d.wt := by cases d; unfold T.wt; omega
    simp only [List.length_cons, wtL]; omega
def tw (t : Tk) : Nat := if t.1 = 1 ∨ t.1 = 2 then 0 else 1 + t.2.1.length
def tws (ts : List Tk) : Nat := (ts.map tw).sum
theorem tws_cons (t : Tk) (ts : List Tk) : tws (t :: ts) = tw t + tws ts := by simp [tws]
theorem tws_append (a b : List Tk) : tws (a ++ b) = tws a + tws b := by simp [tws]
theorem tw_k {k : Nat} {x : List UInt8} {n c : Int} (h : ¬ (k = 1 ∨ k = 2)) : tw (k, x, n, c) = 1 + x.length := by unfold tw; rw [if_neg h]
/-- what is read weighs no more than its tokens -/
theorem read_wt (last : Int) : ∀ f : Nat, (∀ lv ts d r, Val last f lv ts (.ok d r) → d.wt + tws r ≤ tws ts) ∧ (∀ lv l ts d r, Wi last f lv l ts (.ok d r) → d.wt + tws r ≤ tws ts) ∧
    (∀ lv acc ts ds r, Sq last f lv acc ts (.ok ds r) → wtL ds + tws r ≤ wtL acc + tws ts ∧ (kindOf ts = 3 → wtL ds + tws r + 1 ≤ wtL acc + tws ts)) ∧
    (∀ lv ks ds ts ks' ds' r, Ky last f lv ks ds ts (.ok (ks', ds') r) → sumL ks' + wtL ds' + tws r ≤ sumL ks + wtL ds + tws ts ∧ (kindOf ts = 4 → sumL ks' + wtL ds' + tws r + 1 ≤ sumL ks + wtL ds + tws ts))
  | 0 => ⟨fun _ _ _ _ h => (by cases h), fun _ _ _ _ _ h => (by cases h), fun _ _ _ _ _ h => (by cases h), fun _ _ _ _ _ _ _ h => (by cases h)⟩
  | f + 1 => by
    obtain ⟨hv, hw, hs, hk⟩ := read_wt last f
    refine ⟨fun lv ts d r h => ?_, fun lv l ts d r h => ?_, fun lv acc ts ds r h => ?_, fun lv ks ds ts ks' ds' r h => ?_⟩
    · cases h with
      | word h => rw [tws_cons, tw_k (by decide)]; simp [T.wt, wtL, sumL]
      | noseq h => rw [tws_cons, tw_k (by decide)]; simp [T.wt, wtL, sumL]
      | nomap h => rw [tws_cons, tw_k (by decide)]; simp [T.wt, wtL, sumL]
      | seq h h2 => have h3 := (hs _ _ _ _ _ h2).2 rfl; simp only [T.wt, wtL, sumL, List.map_nil, List.sum_nil, List.length_nil] at h3 ⊢; omega
      | keys h h2 => have h3 := (hk _ _ _ _ _ _ _ h2).2 rfl; simp only [T.wt, wtL, sumL, List.map_nil, List.sum_nil, List.length_nil] at h3 ⊢; omega
    · cases h with
      | ok h => have h2 := hv _ _ _ _ h; simp only [tws_cons] at h2 ⊢; omega
    · cases h with
      | done h => exact ⟨by omega, fun e => absurd e h⟩
      | next h h2 =>
        have h3 := hw _ _ _ _ _ h
        have h4 := (hs _ _ _ _ _ h2).1
        rw [wtL_snoc] at h4
        rw [tws_cons, tw_k (by decide)]
        exact ⟨by omega, fun _ => by omega⟩
    · cases h with
      | done h => exact ⟨by omega, fun e => absurd e h⟩
      | inl h h2 h3 h4 h5 =>
        have h6 := hv _ _ _ _ h4
        have h7 := (hk _ _ _ _ _ _ _ h5).1
        rw [wtL_snoc, sumL_snoc] at h7
        rw [tws_cons, tw_k (by decide)]
        exact ⟨by omega, fun _ => by omega⟩
      | wi h h2 h3 h4 h5 =>
        have h6 := hw _ _ _ _ _ h4
        have h7 := (hk _ _ _ _ _ _ _ h5).1
        rw [wtL_snoc, sumL_snoc] at h7
        rw [tws_cons, tw_k (by decide)]
        exact ⟨by omega, fun _ => by omega⟩
theorem checkL_iff (lv : Nat) : ∀ ds : List T, checkL lv ds = 0 ↔ ∀ d ∈ ds, d.check lv = 0
  | [] => by simp [checkL]
  | d :: ds => by
    unfold checkL
    have ih := checkL_iff lv ds
    by_cases hd : d.check lv = 0
    · rw [if_neg (by simpa using hd), ih]; simp [hd]
    · rw [if_pos hd]; simp [hd]
theorem checkL_snoc {lv : Nat} {ds : List T} {d : T} (h : checkL lv ds = 0) (hd : d.check lv = 0) : checkL lv (ds ++ [d]) = 0 := by
  rw [checkL_iff] at h ⊢
  intro x hx
  rcases List.mem_append.1 hx with hx | hx
  · exact h x hx
  · rw [List.mem_singleton.1 hx]; exact hd
theorem keysE_snoc : ∀ (ks seen : List (List UInt8)) (x : List UInt8), keysE seen ks = 0 → P03.check x 64 = 0 → x ∉ seen → x ∉ ks → keysE seen (ks ++ [x]) = 0
  | [], seen, x, h, hx, hs, hk => by
    simp only [List.nil_append, keysE]
    rw [if_neg (by simpa using hx), if_neg hs]
  | k :: ks, seen, x, h, hx, hs, hk => by
    simp only [List.cons_append, keysE] at h ⊢
    split at h
    · rename_i h1; exact absurd h h1
    · rename_i h1
      split at h
      · exact absurd h (by decide)
      · rename_i h2
        rw [if_neg h1, if_neg h2]
        refine keysE_snoc ks (seen ++ [k]) x h hx ?_ (fun hm => hk (List.mem_cons_of_mem _ hm))
        intro hm
        rcases List.mem_append.1 hm with hm | hm
        · exact hs hm
        · exact hk (by rw [List.mem_singleton.1 hm]; exact List.mem_cons_self)
theorem check_short {x : List UInt8} (h : P03.check x 4096 = 0) (hl : x.length ≤ 64) : P03.check x 64 = 0 := by
  unfold P03.check at h ⊢
  rw [if_neg (by omega)] at h
  rw [if_neg (by omega)]
  exact h
theorem check_empty : P03.check [] 4096 = 0 := by decide +kernel
theorem tk_text {k : Nat} {x : List UInt8} {n c : Int} (h : TkOk (k, x, n, c)) (hk : k = 4 ∨ k = 5) : P03.check x 4096 = 0 := by
  obtain ⟨_, h2⟩ := h
  rw [if_pos hk] at h2
  exact h2
theorem node_leaf1 {lv : Nat} {x : List UInt8} {n : Int} (h : lv ≤ 16) (hx : P03.check x 4096 = 0) : T.check lv (.mk 1 x [] [] n) = 0 := by
  unfold T.check
  have hn : nodeE lv (.mk 1 x [] [] n) = 0 := by
    simp only [nodeE]
    rw [if_neg (by omega), if_neg (by omega), if_neg (by simp [oddB]), if_neg (by simpa using hx)]
    rfl
  rw [hn]; rfl
theorem node_seq {lv : Nat} {ds : List T} {n : Int} (h : lv ≤ 16) (hd : checkL (lv + 1) ds = 0) : T.check lv (.mk 2 [] [] ds n) = 0 := by
  unfold T.check
  have hn : nodeE lv (.mk 2 [] [] ds n) = 0 := by
    simp only [nodeE]
    rw [if_neg (by omega), if_neg (by omega), if_neg (by simp [oddB]), if_neg (by rw [check_empty]; decide)]
    rfl
  rw [hn]; simpa using hd
theorem node_map {lv : Nat} {ks : List (List UInt8)} {ds : List T} {n : Int} (h : lv ≤ 16) (hk : keysE [] ks = 0) (hl : ks.length = ds.length) (hd : checkL (lv + 1) ds = 0) : T.check lv (.mk 3 [] ks ds n) = 0 := by
  unfold T.check
  have hn : nodeE lv (.mk 3 [] ks ds n) = 0 := by
    simp only [nodeE]
    rw [if_neg (by omega), if_neg (by omega), if_neg (by simp [oddB, hl]), if_neg (by rw [check_empty]; decide)]
    exact hk
  rw [hn]; simpa using hd
def AllOk (ts : List Tk) : Prop := ∀ t ∈ ts, TkOk t
theorem AllOk.tail {t : Tk} {ts : List Tk} (h : AllOk (t :: ts)) : AllOk ts := fun x hx => h x (List.mem_cons_of_mem _ hx)
/-- what is read may be -/
theorem read_check (last : Int) : ∀ f : Nat, (∀ lv ts d r, AllOk ts → Val last f lv ts (.ok d r) → d.check lv = 0 ∧ AllOk r) ∧ (∀ lv l ts d r, AllOk ts → Wi last f lv l ts (.ok d r) → d.check lv = 0 ∧ AllOk r) ∧
    (∀ lv acc ts ds r, AllOk ts → checkL lv acc = 0 → Sq last f lv acc ts (.ok ds r) → checkL lv ds = 0 ∧ AllOk r) ∧
    (∀ lv ks ds ts ks' ds' r, AllOk ts → keysE [] ks = 0 → ks.length = ds.length → checkL lv ds = 0 → Ky last f lv ks ds ts (.ok (ks', ds') r) → keysE [] ks' = 0 ∧ ks'.length = ds'.length ∧ checkL lv ds' = 0 ∧ AllOk r)
  | 0 => ⟨fun _ _ _ _ _ h => (by cases h), fun _ _ _ _ _ _ h => (by cases h), fun _ _ _ _ _ _ _ h => (by cases h), fun _ _ _ _ _ _ _ _ _ _ _ h => (by cases h)⟩
  | f + 1 => by
    obtain ⟨hv, hw, hs, hk⟩ := read_check last f
    refine ⟨fun lv ts d r ha h => ?_, fun lv l ts d r ha h => ?_, fun lv acc ts ds r ha hc h => ?_, fun lv ks ds ts ks' ds' r ha hke hle hc h => ?_⟩
    · cases h with
      | word h => exact ⟨node_leaf1 h (tk_text (ha _ List.mem_cons_self) (.inr rfl)), ha.tail⟩
      | noseq h => exact ⟨node_seq h rfl, ha.tail⟩
      | nomap h => exact ⟨node_map h rfl rfl rfl, ha.tail⟩
      | seq h h2 => have h3 := hs _ _ _ _ _ ha rfl h2; exact ⟨node_seq h h3.1, h3.2⟩
      | keys h h2 => have h3 := hk _ _ _ _ _ _ _ ha rfl rfl rfl h2; exact ⟨node_map h h3.1 h3.2.1 h3.2.2.1, h3.2.2.2⟩
    · cases h with
      | ok h => have h2 := hv _ _ _ _ ha.tail h; exact ⟨h2.1, h2.2.tail⟩
    · cases h with
      | done h => exact ⟨hc, ha⟩
      | next h h2 => have h3 := hw _ _ _ _ _ ha.tail h; exact hs _ _ _ _ _ h3.2 (checkL_snoc hc h3.1) h2
    · cases h with
      | done h => exact ⟨hke, hle, hc, ha⟩
      | inl h h2 h3 h4 h5 =>
        have hx := check_short (tk_text (ha _ List.mem_cons_self) (.inl rfl)) h
        have h6 := hv _ _ _ _ ha.tail h4
        exact hk _ _ _ _ _ _ _ h6.2 (keysE_snoc _ _ _ hke hx (by simp) h2) (by simp [hle]) (checkL_snoc hc h6.1) h5
      | wi h h2 h3 h4 h5 =>
        have hx := check_short (tk_text (ha _ List.mem_cons_self) (.inl rfl)) h
        have h6 := hw _ _ _ _ _ ha.tail h4
        exact hk _ _ _ _ _ _ _ h6.2 (keysE_snoc _ _ _ hke hx (by simp) h2) (by simp [hle]) (checkL_snoc hc h6.1) h5
mutual
theorem T.same_check : ∀ (d e : T) (lv : Nat), d.same e = true → d.check lv = e.check lv
  | .mk k t ks ds l, .mk k' t' ks' ds' l', lv, h => by
    simp only [T.same, Bool.and_eq_true, beq_iff_eq] at h
    obtain ⟨rfl, rfl, rfl, h⟩ := h
    have ih := sameL_check ds ds' (lv + 1) h
    have hn : nodeE lv (.mk k t ks ds l) = nodeE lv (.mk k t ks ds' l') := by simp only [nodeE, ih.2]
    unfold T.check
    rw [hn, ih.1]
theorem sameL_check : ∀ (ds es : List T) (lv : Nat), sameL ds es = true → checkL lv ds = checkL lv es ∧ ds.length = es.length
  | [], [], lv, h => ⟨rfl, rfl⟩
  | d :: ds, e :: es, lv, h => by
    simp only [sameL, Bool.and_eq_true] at h
    have h1 := T.same_check d e lv h.1
    have h2 := sameL_check ds es lv h.2
    unfold checkL
    rw [h1, h2.1]
    exact ⟨rfl, by simp [h2.2]⟩
  | [], _ :: _, lv, h => by simp [sameL] at h
  | _ :: _, [], lv, h => by simp [sameL] at h
end
theorem same_kids {d e : T} (h : d.same e = true) : d.kids.isEmpty = e.kids.isEmpty := by
  obtain ⟨k, t, ks, ds, l⟩ := d
  obtain ⟨k', t', ks', ds', l'⟩ := e
  simp only [T.same, Bool.and_eq_true, beq_iff_eq] at h
  have h2 := (sameL_check ds ds' 0 h.2.2.2).2
  simp only [T.kids]
  cases ds <;> cases ds' <;> simp_all
mutual
theorem T.same_write : ∀ (d e : T) (f a : List UInt8), d.same e = true → d.write f a = e.write f a
  | .mk k t ks ds l, .mk k' t' ks' ds' l', f, a, h => by
    have hk := same_kids h
    simp only [T.kids] at hk
    simp only [T.same, Bool.and_eq_true, beq_iff_eq] at h
    obtain ⟨rfl, rfl, rfl, h⟩ := h
    unfold T.write
    rw [hk, sameL_write ds ds' k f a ks h]
theorem sameL_write : ∀ (ds es : List T) (k : Nat) (f a : List UInt8) (ks : List (List UInt8)), sameL ds es = true → writeL k f a ks ds = writeL k f a ks es
  | [], [], k, f, a, ks, h => rfl
  | d :: ds, e :: es, k, f, a, ks, h => by
    simp only [sameL, Bool.and_eq_true] at h
    unfold writeL
    rw [same_kids h.1, T.same_write d e _ _ h.1, T.same_write d e _ _ h.1, T.same_write d e _ _ h.1, sameL_write ds es k a a ks.tail h.2]
  | [], _ :: _, k, f, a, ks, h => by simp [sameL] at h
  | _ :: _, [], k, f, a, ks, h => by simp [sameL] at h
end
theorem check_lv {d : T} {lv : Nat} (h : d.check lv = 0) : lv ≤ 16 ∧ checkL (lv + 1) d.kids = 0 := by
  obtain ⟨k, t, ks, ds, l⟩ := d
  unfold T.check at h
  by_cases hn : nodeE lv (.mk k t ks ds l) = 0
  · rw [if_neg (by simpa using hn)] at h
    refine ⟨?_, h⟩
    simp only [nodeE] at hn
    split at hn
    · exact absurd hn (by decide)
    · omega
  · rw [if_pos hn] at h; exact absurd h hn
mutual
theorem T.check_deep : ∀ (d : T) (lv k : Nat), d.check lv = 0 → (d.size k).1 + lv ≤ 17
  | .mk k0 t ks ds l, lv, k, h => by
    obtain ⟨h1, h2⟩ := check_lv h
    have h3 := checkL_deep ds (lv + 1) (k - 1) h2 (by omega)
    unfold T.size
    split
    · simp only; omega
    · simp only; omega
theorem checkL_deep : ∀ (ds : List T) (lv k : Nat), checkL lv ds = 0 → lv ≤ 17 → (sizeL k ds).1 + lv ≤ 17
  | [], lv, k, h, hl => by simp only [sizeL]; omega
  | d :: ds, lv, k, h, hl => by
    rw [checkL_iff] at h
    have h1 := T.check_deep d lv k (h d List.mem_cons_self)
    have h2 := checkL_deep ds lv k ((checkL_iff _ _).2 (fun x hx => h x (List.mem_cons_of_mem _ hx))) hl
    simp only [sizeL]
    omega
end
theorem check_keys {d : T} {lv : Nat} (h : d.check lv = 0) : d.keys.length ≤ d.kids.length ∧ (∀ x ∈ d.keys, x.length ≤ 64) ∧ d.text.length ≤ 4096 := by
  obtain ⟨k, t, ks, ds, l⟩ := d
  unfold T.check at h
  by_cases hn : nodeE lv (.mk k t ks ds l) = 0
  · simp only [nodeE] at hn
    split at hn
    · exact absurd hn (by decide)
    · split at hn
      · exact absurd hn (by decide)
      · split at hn
        · exact absurd hn (by decide)
        · rename_i h1 h2 h3
          split at hn
          · rename_i h4; exact absurd hn h4
          · rename_i h4
            refine ⟨?_, keysE_short hn, ?_⟩
            · simp only [T.keys, T.kids]
              unfold oddB at h3
              by_cases hk1 : k = 1
              · rw [if_pos hk1] at h3; simp at h3; simp [h3]
              · rw [if_neg hk1] at h3
                by_cases hk2 : k = 2
                · rw [if_pos hk2] at h3; simp at h3; simp [h3]
                · rw [if_neg hk2] at h3; simp at h3; omega
            · simp only [T.text]
              unfold P03.check at h4
              split at h4
              · exact absurd (by decide) h4
              · omega
  · rw [if_pos hn] at h; exact absurd h hn
mutual
theorem T.check_okT : ∀ (d : T) (lv : Nat), d.check lv = 0 → d.wt ≤ 1000000 → okT d
  | .mk k t ks ds l, lv, h, hw => by
    have h1 := check_keys h
    have h2 := check_lv h
    unfold T.wt at hw
    have h3 := wtL_len ds
    simp only [T.keys, T.kids, T.text] at h1 h2
    unfold okT
    exact ⟨by omega, by omega, fun x hx => by have := h1.2.1 x hx; omega, by omega, checkL_okT ds (lv + 1) h2.2 (by omega)⟩
theorem checkL_okT : ∀ (ds : List T) (lv : Nat), checkL lv ds = 0 → wtL ds ≤ 1000000 → okTs ds
  | [], lv, h, hw => trivial
  | d :: ds, lv, h, hw => by
    rw [checkL_iff] at h
    unfold wtL at hw
    exact ⟨T.check_okT d lv (h d List.mem_cons_self) (by omega), checkL_okT ds lv ((checkL_iff _ _).2 (fun x hx => h x (List.mem_cons_of_mem _ hx))) (by omega)⟩
end
theorem mul_step (a b D : Nat) : (a + b) * D = a * D + b * D := Nat.add_mul a b D
mutual
/-- how long a tree's text is -/
theorem T.write_wt : ∀ (d : T) (lv : Nat) (f h : List UInt8), d.check lv = 0 → (d.write f h).length + 2 * h.length + 10 ≤ f.length + d.wt * (3 * h.length + 6 * (17 - lv) + 20)
  | .mk k t ks ds l, lv, f, h, hc => by
    obtain ⟨h1, h2⟩ := check_lv hc
    simp only [T.kids] at h2
    have hL := writeL_wt ds k ks (lv + 1) f h h2 (by omega)
    obtain ⟨D, hD⟩ : ∃ D, 3 * h.length + 6 * (17 - lv) + 20 = D := ⟨_, rfl⟩
    have e2 : 3 * (h.length + 2) + 6 * (17 - (lv + 1)) + 20 = D := by omega
    rw [hD]
    rw [e2] at hL
    have hDb : h.length + 20 ≤ D := by omega
    have hDc : 3 * h.length + 20 ≤ D := by omega
    unfold T.write T.wt
    rw [mul_step, mul_step, mul_step, Nat.one_mul]
    have m1 : t.length * 20 ≤ t.length * D := Nat.mul_le_mul (Nat.le_refl _) (by omega)
    have m2 : sumL ks * 20 ≤ sumL ks * D := Nat.mul_le_mul (Nat.le_refl _) (by omega)
    split
    · have h3 := leaf_len k t
      simp only [List.length_append, List.length_cons, List.length_nil]
      omega
    · rename_i he
      rcases hL with rfl | hL
      · simp at he
      · omega
theorem writeL_wt : ∀ (ds : List T) (k : Nat) (ks : List (List UInt8)) (lv : Nat) (f h : List UInt8), checkL lv ds = 0 → lv ≤ 17 → ds = [] ∨ (writeL k f h ks ds).length + h.length ≤ f.length + 4 * sumL ks + wtL ds * (3 * (h.length + 2) + 6 * (17 - lv) + 20)
  | [], k, ks, lv, f, h, hc, hl => .inl rfl
  | d :: ds, k, ks, lv, f, h, hc, hl => by
    right
    rw [checkL_iff] at hc
    have hd := hc d List.mem_cons_self
    have hr := writeL_wt ds k ks.tail lv h h ((checkL_iff _ _).2 (fun x hx => hc x (List.mem_cons_of_mem _ hx))) hl
    have hp := put_len20 (ks.headD [])
    have hsm := sumL_head ks
    obtain ⟨D, hD⟩ : ∃ D, 3 * (h.length + 2) + 6 * (17 - lv) + 20 = D := ⟨_, rfl⟩
    rw [hD] at hr ⊢
    have hwp : 1 ≤ d.wt := by cases d; unfold T.wt; omega
    unfold writeL wtL
    rw [mul_step, List.length_append]
    have hr2 : (writeL k h h ks.tail ds).length ≤ 4 * sumL ks.tail + wtL ds * D := by
      rcases hr with rfl | hr
      · simp [writeL]
      · omega
    split
    · have h3 := T.write_wt d lv (f ++ [45, 32]) (h ++ [32, 32]) hd
      simp only [List.length_append, List.length_cons, List.length_nil] at h3
      rw [show 3 * (h.length + (0 + 1 + 1)) + 6 * (17 - lv) + 20 = D from by omega] at h3
      omega
    · split
      · have h3 := T.write_wt d lv (f ++ P18.put (ks.headD []) ++ [58] ++ [32]) [] hd
        simp only [List.length_append, List.length_cons, List.length_nil] at h3
        have m1 : d.wt * (3 * 0 + 6 * (17 - lv) + 20) + d.wt * (3 * (h.length + 2)) = d.wt * D := by rw [← Nat.mul_add]; congr 1; omega
        have m2 : 1 * (3 * (h.length + 2)) ≤ d.wt * (3 * (h.length + 2)) := Nat.mul_le_mul hwp (Nat.le_refl _)
        omega
      · have h3 := T.write_wt d lv (h ++ [32, 32]) (h ++ [32, 32]) hd
        simp only [List.length_append, List.length_cons, List.length_nil] at h3 ⊢
        rw [show 3 * (h.length + (0 + 1 + 1)) + 6 * (17 - lv) + 20 = D from by omega] at h3
        omega
end
theorem read_len (s : List UInt8) : (P18.read s).1.length ≤ s.length := by
  have hc : ∀ t : List UInt8, (P18.chk t).1.length ≤ t.length := fun t => by unfold P18.chk; split <;> simp
  unfold P18.read P18.readF
  split
  · simp
  · split
    · split
      · simp
      · rename_i b hb
        have h1 := P18.within_len hb
        have h2 := hc b
        simp only [List.length_take, List.length_drop] at h1
        omega
    · exact hc s
theorem value_wt (n c : Int) (s : List UInt8) : tw (value n c s).1 ≤ s.length + 1 := by
  unfold value
  split
  · simp [tw]
  · split
    · simp [tw]
    · split
      · simp [tw]
      · have := read_len s
        simp only [tw]
        rw [if_neg (by decide)]
        omega
theorem line_wt : ∀ (f : Nat) (n c : Int) (s : List UInt8), tws (line f n c s).1 ≤ s.length + 1
  | 0, n, c, s => by simp [line, tws]
  | f + 1, n, c, s => by
    have hone : ∀ (k : Nat) (x : List UInt8) (n c : Int), tws [(k, x, n, c)] ≤ 1 + x.length := fun k x n c => by
      simp only [tws, List.map_cons, List.map_nil, List.sum_cons, List.sum_nil, tw]
      split <;> omega
    have hr := read_len (s.take (P18.cut s).1)
    rw [List.length_take] at hr
    unfold line
    by_cases hs : P19.signB 45 s = true
    · rw [if_pos hs]
      have h2 := P19.dash_shorter s hs
      split
      · exact Nat.le_trans (hone 3 [] n c) (by simp)
      · split
        · simp [tws]
        · have h1 := line_wt f n (c + (1 + P19.skip (s.drop 1) : Nat)) (s.drop (1 + P19.skip (s.drop 1)))
          have h3 := hone 3 [] n c
          rw [tws_cons]
          simp only [List.length_nil, tws, List.map_cons, List.map_nil, List.sum_cons, List.sum_nil] at h3 h1 ⊢
          omega
    · rw [if_neg hs]
      split
      · exact Nat.le_trans (hone 6 [] n c) (by simp)
      · split
        · exact Nat.le_trans (hone 7 [] n c) (by simp)
        · split
          · simp [tws]
          · split
            · simp [tws]
            · split
              · simp [tws]
              · split
                · exact Nat.le_trans (hone 5 (P18.read (s.take (P18.cut s).1)).1 n c) (by omega)
                · split
                  · exact Nat.le_trans (hone 4 (P18.read (s.take (P18.cut s).1)).1 n c) (by omega)
                  · rename_i h4 h5
                    split
                    · simp [tws]
                    · have h6 := value_wt n (c + ((P18.cut s).1 + 1 + P19.skip (s.drop ((P18.cut s).1 + 1)) : Nat)) (s.drop ((P18.cut s).1 + 1 + P19.skip (s.drop ((P18.cut s).1 + 1))))
                      have h7 := hone 4 (P18.read (s.take (P18.cut s).1)).1 n c
                      have h8 := P19.cut_len s
                      rw [List.length_drop] at h6
                      simp only [tws, List.map_cons, List.map_nil, List.sum_cons, List.sum_nil] at h7 ⊢
                      omega
theorem close_wt (n c tc : Int) : ∀ st : List Int, tws (close n c tc st).1 = 0
  | [] => rfl
  | x :: st => by
    unfold close
    split
    · rw [tws_cons, close_wt n c tc st]; rfl
    · rfl
theorem turn_wt (b : Bool) (k : Nat) (n : Int) (t : Tk) (out : List Tk) (st : List Int) : tws (turn b k n t out st).2.1 ≤ tws out + tw t := by
  have h1 : tws [t] = tw t := by simp [tws]
  unfold turn
  split
  · split
    · simp [tws]
    · simp only [tws_append, close_wt, h1]; omega
  · split
    · split
      · simp [tws]
      · simp only [tws_append, h1]
        have : tws [((1 : Nat), ([] : List UInt8), n, t.2.2.2)] = 0 := rfl
        omega
    · simp only [tws_append, h1]; omega
theorem adds_wt {n : Int} : ∀ (ts : List Tk) (b : Bool) (k : Nat) (out : List Tk) (st : List Int), tws (adds n b k ts out st).2.1 ≤ tws out + tws ts
  | [], b, k, out, st => by simp [adds, tws]
  | t :: r, b, k, out, st => by
    unfold adds
    split
    · simp [tws]
    · have h1 := turn_wt b k n t out st
      have h2 := adds_wt (n := n) r false t.1 (turn b k n t out st).2.1 (turn b k n t out st).2.2
      rw [tws_cons]
      omega
theorem allR_wt : ∀ (rs : List (Nat × Nat × List UInt8)) (b : Bool) (out : List Tk) (st : List Int) (last : Int), tws (allR b rs out st last).1 ≤ tws out + P19.weight rs
  | [], b, out, st, last => by
    unfold allR
    rw [tws_append, close_wt]
    omega
  | r :: rs, b, out, st, last => by
    have hw : P19.weight (r :: rs) = r.2.2.length + 1 + P19.weight rs := by unfold P19.weight; rw [List.map_cons, List.sum_cons]
    unfold allR
    split
    · simp [tws]
    · split
      · simp [tws]
      · split
        · simp [tws]
        · have h1 : tws (rowT r).1 ≤ r.2.2.length + 1 := line_wt _ _ _ _
          have h2 := adds_wt (n := (r.1 : Int)) (rowT r).1 true 0 out st
          have h3 := allR_wt rs false (adds r.1 true 0 (rowT r).1 out st).2.1 (adds r.1 true 0 (rowT r).1 out st).2.2 r.1
          omega
theorem all_wt (s : List UInt8) : tws (P19.all s).1 ≤ 2 * s.length := by
  unfold P19.all
  split
  · simp [tws]
  · have h1 := allR_wt (rows17 s) true [] [0] 0
    have h2 := P19.weight_le s
    simp only [tws, List.map_nil, List.sum_nil] at h1 ⊢
    omega
/-- what is read of a text may be, and is not large -/
theorem PaR.fine {s : List UInt8} {d : T} (h : PaR s (.ok d)) (hs : s.length ≤ 3000) : d.check 1 = 0 ∧ d.wt ≤ 6000 ∧ okT d ∧ (d.write [] []).length ≤ 1048576 ∧ (d.size 18).1 ≤ 16 := by
  unfold PaR at h
  split at h
  · cases h
  · split at h
    · cases h
    · obtain ⟨f, h⟩ := h
      cases h with
      | ok h =>
        have h1 := ((read_check _ f).1 _ _ _ _ (all_ok s) h).1
        have h2 := (read_wt _ f).1 _ _ _ _ h
        have h3 := all_wt s
        have hw : d.wt ≤ 6000 := by omega
        have h4 := T.write_wt d 1 [] [] h1
        have h5 := T.check_deep d 1 18 h1
        simp only [List.length_nil] at h4
        have m1 : d.wt * (3 * 0 + 6 * (17 - 1) + 20) ≤ 6000 * 116 := Nat.mul_le_mul hw (by omega)
        exact ⟨h1, hw, T.check_okT d 1 h1 (by omega), by omega, by omega⟩
/-- what is wrong is told -/
theorem PaR.bad {s : List UInt8} {x : Int × Int} (h : PaR s (.error x)) : x.1 ≠ 0 := by
  unfold PaR at h
  split at h
  · rename_i h1; cases h; exact h1
  · split at h
    · cases h; decide
    · obtain ⟨f, h⟩ := h
      cases h with
      | left h => show (3 : Int) ≠ 0; decide
      | bad h => exact (bad_ne _ _).1 _ _ _ _ h
/-- what was printed is read -/
theorem PaR.back {d : T} (h : d.check 1 = 0) (hl : (d.write [] []).length ≤ 1048576) : ∃ d', PaR (d.write [] []) (.ok d') ∧ d'.same d = true := by
  obtain ⟨ts, _, _, ha, _, _⟩ := print_back d h hl 0
  obtain ⟨ts2, f, d', ha2, hr, hs⟩ := print_back d h hl (lastL ts)
  obtain rfl : ts2 = ts := by rw [ha] at ha2; injection ha2 with e _; exact e.symm
  refine ⟨d', ?_, hs⟩
  unfold PaR
  rw [ha]
  simp only
  rw [if_neg (by decide), if_neg]
  · exact ⟨f, hr⟩
  · rintro rfl
    cases hr with
    | ok h => cases h
theorem same_print {d e : T} (h : d.same e = true) : d.print = e.print := by
  unfold T.print
  rw [T.same_check d e 1 h, T.same_write d e [] [] h]
mutual
theorem okT_same : ∀ {d e : T}, d.same e = true → okT e → okT d
  | .mk k t ks ds l, .mk k' t' ks' ds' l', h, ho => by
    simp only [T.same, Bool.and_eq_true, beq_iff_eq] at h
    obtain ⟨rfl, rfl, rfl, h⟩ := h
    have hl := (sameL_check ds ds' 0 h).2
    unfold okT at ho ⊢
    exact ⟨ho.1, ho.2.1, ho.2.2.1, by rw [hl]; exact ho.2.2.2.1, okTs_same h ho.2.2.2.2⟩
theorem okTs_same : ∀ {ds es : List T}, sameL ds es = true → okTs es → okTs ds
  | [], [], h, ho => trivial
  | d :: ds, e :: es, h, ho => by
    simp only [sameL, Bool.and_eq_true] at h
    exact ⟨okT_same h.1 ho.1, okTs_same h.2 ho.2⟩
  | [], _ :: _, h, ho => by simp [sameL] at h
  | _ :: _, [], h, ho => by simp [sameL] at h
end
end P20
end Go.Proofs.YtnjokdbblmlhhaaGreatDoor
