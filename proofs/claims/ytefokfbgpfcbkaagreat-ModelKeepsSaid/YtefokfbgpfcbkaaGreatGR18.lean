/- walks of rescriptref18: plain, hex, Plain, Cut, Number; walks of rescriptref18: Cut; walks of rescriptref18: Quote, Put; The plain law: a text is read as it was put, and cut off whole. -/
import Derived.Test.YtefokfbgpfcbkaaGreatRows
import Derived.Test.YtefokfbgpfcbkaaGreatShelf
import Derived.Test.YtefokfbgpfcbkaaGreatGP
import Derived.Test.YtefokfbgpfcbkaaGreatGA
namespace Go.Proofs.YtefokfbgpfcbkaaGreat
set_option linter.unusedVariables false
set_option linter.unusedSimpArgs false
open Go.RowKit
set_option maxHeartbeats 800000 in
theorem refplain_any (c : UInt8) (b : Bool) (w : World)  :
    Calls Tryz.prog 174 #[.int .u8 (c.toNat : Int), .bool b] w fun e w' => e = .returned (.bool (P18.stands c (!b))) ∧ w' = w := by
  have hc := c.toNat_lt
  go_enter Tryz.func174, Tryz.ntmps174
  go_wp2_with fail
  all_goals go_ret
  all_goals refine ⟨ret_bool ?_, rfl⟩
  all_goals rw [R18.plain_key]
  all_goals try simp only [beq_iff_eq, beq_eq_false_iff_ne] at *
  all_goals cases b
  all_goals rw [Bool.eq_iff_iff]
  all_goals simp
  all_goals omega
set_option maxRecDepth 100000 in
set_option maxHeartbeats 800000 in
theorem refPlain_any (s : ByteArray) (w : World) (h : s.size ≤ maxLen) :
    Calls Tryz.prog 131 #[.string s] w fun e w' => e = .returned (.bool (P18.plain s.data.toList)) ∧ w' = w := by
  unfold maxLen at h
  rw [R18.plain_eq, ← Lib.size_eq]
  go_enter Tryz.func131, Tryz.ntmps131
  go_wp2
  go_loopg [3] s.size (fun g s3 wx => ∃ (k : Nat), k + g = s.size ∧ s3 = .int .i64 (k : Int) ∧ Hid (R18.allPlain false s.data.toList = R18.allPlain (!((k : Int) == 0)) (s.data.toList.drop k)) ∧ wx = w)
  case atStart => exact ⟨0, by omega, rfl, rfl, rfl⟩
  case round =>
    obtain ⟨k, hkg, rfl, HP, rfl⟩ := hrel
    cases gk with
    | zero =>
      obtain rfl : k = s.size := by omega
      have hfin : R18.allPlain false s.data.toList = true := by rw [unhide HP, List.drop_of_length_le (by rw [Lib.size_eq]; omega)]; rfl
      have HF := hide hfin
      clear hfin
      go_wp2
      go_ret
      exact ⟨ret_bool (by rw [unhide HF]; simp), rfl⟩
    | succ g =>
      have hlt : k < s.size := by omega
      have hle : (k : Int) < (s.size : Int) := by omega
      have HG := hide hkg
      clear hkg
      have hd := R18.allPlain_drop (pos := !((k : Int) == 0)) (l := s.data.toList) (k := k) (by simpa using hlt)
      have e0 : s.data.toList[k]'(by simpa using hlt) = s[k] := rfl
      rw [e0] at hd
      have HD := hide hd
      clear hd e0
      cases hs : P18.stands s[k] (!((k : Int) == 0))
      all_goals
        have HS := hide hs
        go_wp2_with (go_at_call 174; refine (refplain_any _ _ _).mono ?_; rw [hs]; rintro e w' ⟨rfl, rfl⟩)
        first
          | (go_ret
             exact ⟨ret_bool (by rw [unhide HP, unhide HD, unhide HS]; rfl), rfl⟩)
          | (go_roundg g
             case measure => omega
             case rel =>
              refine ⟨k + 1, by have := unhide HG; omega, by go_num, ?_, rfl⟩
              show _ = _
              rw [unhide HP, unhide HD, unhide HS, show (!(((k + 1 : Nat) : Int) == 0)) = true from by simp; omega]
              rfl)
end Go.Proofs.YtefokfbgpfcbkaaGreat
namespace Go.Proofs.YtefokfbgpfcbkaaGreat
set_option linter.unusedVariables false
set_option linter.unusedSimpArgs false
open Go.RowKit
end Go.Proofs.YtefokfbgpfcbkaaGreat
namespace Go.Proofs.YtefokfbgpfcbkaaGreat
set_option linter.unusedVariables false
set_option linter.unusedSimpArgs false
open Go.RowKit
end Go.Proofs.YtefokfbgpfcbkaaGreat
namespace Go.Proofs.YtefokfbgpfcbkaaGreat
set_option linter.unusedVariables false
set_option linter.unusedSimpArgs false
namespace R18
open P18
/-- the forms of a byte within quotes -/
def quoteForm (n : Nat) : Bool :=
  (quoteOne (UInt8.ofNat n) == [UInt8.ofNat n] && decide (32 ≤ n) && n != 127 && n != 92 && n != 34) ||
  (quoteOne (UInt8.ofNat n) == [92, 34] && n == 34) || (quoteOne (UInt8.ofNat n) == [92, 92] && n == 92) || (quoteOne (UInt8.ofNat n) == [92, 110] && n == 10) || (quoteOne (UInt8.ofNat n) == [92, 116] && n == 9) ||
  (quoteOne (UInt8.ofNat n) == [92, 120, P18.hexDigit (n / 16), P18.hexDigit (n % 16)] && hex (P18.hexDigit (n / 16)) == ((n / 16 : Nat) : Int) && hex (P18.hexDigit (n % 16)) == ((n % 16 : Nat) : Int) && decide (n < 128))
theorem quoteForm_all : ∀ n, n < 256 → quoteForm n = true := by decide +kernel
theorem quoteOne_cases (c : UInt8) : (quoteOne c = [c] ∧ 32 ≤ c.toNat ∧ c.toNat ≠ 127 ∧ c.toNat ≠ 92 ∧ c.toNat ≠ 34) ∨
    (quoteOne c = [92, 34] ∧ c = 34) ∨ (quoteOne c = [92, 92] ∧ c = 92) ∨ (quoteOne c = [92, 110] ∧ c = 10) ∨ (quoteOne c = [92, 116] ∧ c = 9) ∨
    (quoteOne c = [92, 120, P18.hexDigit (c.toNat / 16), P18.hexDigit (c.toNat % 16)] ∧ hex (P18.hexDigit (c.toNat / 16)) = ((c.toNat / 16 : Nat) : Int) ∧ hex (P18.hexDigit (c.toNat % 16)) = ((c.toNat % 16 : Nat) : Int) ∧ c.toNat < 128) := by
  have h := quoteForm_all c.toNat c.toNat_lt
  unfold quoteForm at h
  simp only [UInt8.ofNat_toNat, Bool.or_eq_true, Bool.and_eq_true, beq_iff_eq, bne_iff_ne, decide_eq_true_eq] at h
  rcases h with ((((h | h) | h) | h) | h) | h
  · exact .inl ⟨h.1.1.1.1, h.1.1.1.2, h.1.1.2, h.1.2, h.2⟩
  · exact .inr (.inl ⟨h.1, UInt8.toNat_inj.1 h.2⟩)
  · exact .inr (.inr (.inl ⟨h.1, UInt8.toNat_inj.1 h.2⟩))
  · exact .inr (.inr (.inr (.inl ⟨h.1, UInt8.toNat_inj.1 h.2⟩)))
  · exact .inr (.inr (.inr (.inr (.inl ⟨h.1, UInt8.toNat_inj.1 h.2⟩))))
  · exact .inr (.inr (.inr (.inr (.inr ⟨h.1.1.1, h.1.1.2, h.1.2, h.2⟩))))
theorem within_quoteOne (c : UInt8) (r : List UInt8) : within (quoteOne c ++ r) = (within r).map (c :: ·) := by
  rcases quoteOne_cases c with ⟨h, h1, h2, h3, h4⟩ | ⟨h, rfl⟩ | ⟨h, rfl⟩ | ⟨h, rfl⟩ | ⟨h, rfl⟩ | ⟨h, h1, h2, h3⟩
  · rw [h]; exact within_self (by simp; omega) h3
  · rw [h]; exact within_esc (c := 92) (r := 34 :: r) (v := 34) (n := 1) rfl (behind_34 r) (by omega)
  · rw [h]; exact within_esc (c := 92) (r := 92 :: r) (v := 92) (n := 1) rfl (behind_92 r) (by omega)
  · rw [h]; exact within_esc (c := 92) (r := 110 :: r) (v := 10) (n := 1) rfl (behind_110 r) (by omega)
  · rw [h]; exact within_esc (c := 92) (r := 116 :: r) (v := 9) (n := 1) rfl (behind_116 r) (by omega)
  · rw [h]
    have hb := behind_x (P18.hexDigit (c.toNat / 16)) (P18.hexDigit (c.toNat % 16)) r
    rw [h1, h2, if_neg (by omega)] at hb
    have hv : 16 * ((c.toNat / 16 : Nat) : Int) + ((c.toNat % 16 : Nat) : Int) = ((c.toNat : Nat) : Int) := by omega
    rw [hv] at hb
    have := within_esc (c := 92) (r := 120 :: P18.hexDigit (c.toNat / 16) :: P18.hexDigit (c.toNat % 16) :: r) (v := c.toNat) (n := 3) rfl hb (by omega)
    simpa using this
theorem within_quotes (l : List UInt8) : within (l.flatMap quoteOne) = some l := by
  induction l with
  | nil => exact within_nil
  | cons c r ih => rw [List.flatMap_cons, within_quoteOne, ih]; rfl
theorem cutQ_cons {i : Nat} {c : UInt8} {r : List UInt8} {t : Bool} (h0 : 0 < i) : cutQ i t (c :: r) = if t = true then cutQ (i + 1) false r else if c.toNat = 92 then cutQ (i + 1) true r else if c.toNat = 34 then some (i + 1) else cutQ (i + 1) t r := by
  rw [cutQ, if_neg (by simp; omega)]
  by_cases ht : t = true
  · rw [if_pos ht, if_pos ht]
  · rw [if_neg ht, if_neg ht]
    by_cases h1 : c.toNat = 92
    · rw [if_pos h1, if_pos (by simp; omega)]
    · rw [if_neg h1, if_neg (by simp; omega)]
      by_cases h2 : c.toNat = 34
      · rw [if_pos h2, if_pos (by simp; omega)]
      · rw [if_neg h2, if_neg (by simp; omega)]
theorem hexDigit_plain0 : ∀ n, n < 16 → (P18.hexDigit n).toNat ≠ 92 ∧ (P18.hexDigit n).toNat ≠ 34 := by decide +kernel
theorem cutQ_esc1 {i : Nat} {d : UInt8} {r : List UInt8} (h0 : 0 < i) : cutQ i false (92 :: d :: r) = cutQ (i + 2) false r := by
  rw [cutQ_cons h0, if_neg (by simp), if_pos (by rfl), cutQ_cons (by omega), if_pos (by rfl)]
theorem cutQ_quoteOne {i : Nat} (h0 : 0 < i) (c : UInt8) (r : List UInt8) : cutQ i false (quoteOne c ++ r) = cutQ (i + (quoteOne c).length) false r := by
  rcases quoteOne_cases c with ⟨h, h1, h2, h3, h4⟩ | ⟨h, rfl⟩ | ⟨h, rfl⟩ | ⟨h, rfl⟩ | ⟨h, rfl⟩ | ⟨h, h1, h2, h3⟩
  · rw [h]
    show cutQ i false (c :: r) = _
    rw [cutQ_cons h0, if_neg (by simp), if_neg h3, if_neg h4]; rfl
  · rw [h]; exact cutQ_esc1 h0
  · rw [h]; exact cutQ_esc1 h0
  · rw [h]; exact cutQ_esc1 h0
  · rw [h]; exact cutQ_esc1 h0
  · rw [h]
    show cutQ i false (92 :: 120 :: P18.hexDigit (c.toNat / 16) :: P18.hexDigit (c.toNat % 16) :: r) = _
    have k1 := hexDigit_plain0 (c.toNat / 16) (by omega)
    have k2 := hexDigit_plain0 (c.toNat % 16) (by omega)
    rw [cutQ_esc1 h0, cutQ_cons (by omega), if_neg (by simp), if_neg k1.1, if_neg k1.2, cutQ_cons (by omega), if_neg (by simp), if_neg k2.1, if_neg k2.2]
    rfl
theorem cutQ_quotes (l : List UInt8) (r : List UInt8) : ∀ {i : Nat}, 0 < i → cutQ i false (l.flatMap quoteOne ++ 34 :: r) = some (i + (l.flatMap quoteOne).length + 1) := by
  induction l with
  | nil =>
    intro i h0
    show cutQ i false (34 :: r) = _
    rw [cutQ_cons h0, if_neg (by simp), if_neg (by decide), if_pos (by rfl)]; rfl
  | cons c t ih =>
    intro i h0
    rw [List.flatMap_cons, List.append_assoc, cutQ_quoteOne h0, ih (by omega)]
    congr 1; simp; omega
theorem cut_quote (l r : List UInt8) : cut (quote l ++ r) = ((quote l).length, 0) := by
  have hp : Lib.hasPrefix (quote l ++ r) [34] = true := rfl
  have e : quote l ++ r = 34 :: (l.flatMap quoteOne ++ 34 :: r) := by simp [quote]
  rw [cut_quoted hp, cutQ_0 (by rw [e]; simp), e, List.drop_one, List.tail_cons, cutQ_quotes l r (by omega)]
  simp [quote]; omega
theorem body_quote (l : List UInt8) : ((quote l).drop 1).take ((quote l).length - 2) = l.flatMap quoteOne := by
  unfold quote
  rw [List.drop_one, List.tail_cons]
  rw [List.take_append_of_le_length (by simp), List.take_of_length_le (by simp)]
theorem read_quote (l : List UInt8) : P18.read (quote l) = chk l := by
  have hc := cut_quote l []
  rw [List.append_nil] at hc
  rw [P18.read, hc]
  exact readF_some (by rfl) (by rw [body_quote, within_quotes])
theorem read_put (l : List UInt8) : P18.read (P18.put l) = chk l := by
  unfold P18.put
  cases h : P18.plain l
  · rw [if_neg (by simp)]; exact read_quote l
  · rw [if_pos rfl, read_plain h]
    unfold chk
    rw [check_plain h]
    split <;> simp
theorem plainLen_append {l r : List UInt8} : ∀ {b : Bool}, plainLen b l = l.length → stands 32 true = false → plainLen b (l ++ 32 :: r) = l.length ∨ l = [] := by
  induction l with
  | nil => intro b _ _; exact .inr rfl
  | cons c t ih =>
    intro b h h32
    left
    simp only [plainLen] at h
    split at h
    · rename_i hs
      simp only [List.cons_append, plainLen, hs, if_true, List.length_cons]
      rcases ih (b := true) (by simpa using h) h32 with h' | rfl
      · rw [h']
      · simp [plainLen, h32]
    · simp at h
theorem cut_put (l r : List UInt8) : cut (P18.put l ++ 32 :: r) = ((P18.put l).length, 0) := by
  unfold P18.put
  cases h : P18.plain l
  · rw [if_neg (by simp)]; exact cut_quote l _
  · rw [if_pos rfl]
    obtain ⟨h1, h2⟩ := plain_head h
    have hne : l ≠ [] := by rintro rfl; simp [P18.plain] at h
    have hpl : plainLen false l = l.length := by
      unfold P18.plain at h
      simp only [Bool.and_eq_true, beq_iff_eq] at h
      omega
    have hp : Lib.hasPrefix (l ++ 32 :: r) [34] = false := by
      cases l with
      | nil => exact absurd rfl hne
      | cons c t => exact h1
    have hq : plainLen false (l ++ 32 :: r) = l.length := by
      rcases plainLen_append (r := r) hpl (by decide) with h' | h'
      · exact h'
      · exact absurd h' hne
    unfold cut
    rw [if_neg (by rw [hp]; simp), hq, if_neg (by simp; exact hne)]
theorem read_chk {l u : List UInt8} (h : P18.read l = (u, 0)) : chk u = (u, 0) := by
  have key : ∀ t, chk t = (u, 0) → chk u = (u, 0) := by
    intro t ht
    have h' := ht
    unfold chk at ht
    split at ht
    · rename_i hc
      simp only [Prod.mk.injEq] at ht
      rw [ht.2] at hc; simp at hc
    · simp only [Prod.mk.injEq, and_true] at ht
      rw [← ht]; rw [ht]; rw [← ht] at h' ⊢; exact h'
  unfold P18.read readF at h
  split at h
  · simp at h
  · split at h
    · split at h
      · simp at h
      · exact key _ h
    · exact key _ h
theorem read_put_read {l u : List UInt8} (h : P18.read l = (u, 0)) : P18.read (P18.put u) = (u, 0) := by rw [read_put, read_chk h]
theorem put_len (l : List UInt8) : (P18.put l).length ≤ 2 + 4 * l.length := by
  unfold P18.put
  split
  · omega
  · unfold quote
    have : ∀ t : List UInt8, (t.flatMap quoteOne).length ≤ 4 * t.length := by
      intro t
      induction t with
      | nil => simp
      | cons c t ih => rw [List.flatMap_cons, List.length_append, List.length_cons]; have := quoteOne_len c; omega
    have := this l
    rw [List.length_cons, List.length_append]
    simp only [List.length_cons, List.length_nil]
    omega
theorem chk_cases (l : List UInt8) : ((chk l).2 = P03.check l 4096) ∧ (P03.check l 4096 = 0 → (chk l).1 = l) ∧ (P03.check l 4096 ≠ 0 → (chk l).1 = []) := by
  unfold chk
  split
  · rename_i h
    exact ⟨rfl, fun h0 => by rw [h0] at h; simp at h, fun _ => rfl⟩
  · rename_i h
    have h0 : P03.check l 4096 = 0 := by simpa using h
    exact ⟨h0.symm, fun _ => rfl, fun h1 => absurd h0 h1⟩
theorem read_len {l u : List UInt8} (h : P18.read l = (u, 0)) : u.length ≤ 4096 := by
  have h1 := read_chk h
  have h2 := (chk_cases u).1
  rw [h1] at h2
  unfold P03.check at h2
  split at h2
  · simp at h2
  · omega
end R18
end Go.Proofs.YtefokfbgpfcbkaaGreat
