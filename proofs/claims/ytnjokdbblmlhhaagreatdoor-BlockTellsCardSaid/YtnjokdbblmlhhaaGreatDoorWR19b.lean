/- walk of rescriptref19.Line -/
import Derived.Test.YtnjokdbblmlhhaaGreatDoorGT19
import Derived.Test.YtnjokdbblmlhhaaGreatDoorGR17
import Derived.Deep.CutRange
import Derived.Deep.CutBlock
import Derived.Deep.RegionWith
import Derived.Shelf.RegionOpenPlain
namespace Go.Proofs.YtnjokdbblmlhhaaGreatDoor
set_option linter.unusedVariables false
set_option linter.unusedSimpArgs false
open Go.RowKit
theorem line_len : ∀ (f : Nat) (n col : Int) (s : List UInt8), (P19.line f n col s).1.length ≤ s.length + 2
  | 0, n, col, s => by simp [P19.line]
  | f + 1, n, col, s => by
    unfold P19.line
    by_cases hs : P19.signB 45 s = true
    · have h1 := line_len f n (col + (1 + P19.skip (s.drop 1) : Nat)) (s.drop (1 + P19.skip (s.drop 1)))
      have h2 := P19.dash_shorter s hs
      rw [if_pos hs]
      split
      · simp
      · split
        · simp
        · rw [List.length_cons]
          omega
    · rw [if_neg hs]
      repeat' split
      all_goals simp
theorem cut_le (l : List UInt8) : (P18.cut l).1 ≤ l.length := by
  unfold P18.cut
  split
  · split
    · rename_i n h
      have := P18.cutQ_bd l 0 false n h
      simpa using this.2
    · simp
  · split
    · simp
    · exact P18.plainLen_le l false
theorem sign_at (c : UInt8) (s : ByteArray) (k : Nat) (h : k < s.size) :
    (((s[k].toNat : Int) == (c.toNat : Int)) = false ∧ P19.signB c (s.data.toList.drop k) = false) ∨
    (((s[k].toNat : Int) == (c.toNat : Int)) = true ∧ (s.size : Int) ≤ (k : Int) + 1 ∧ P19.signB c (s.data.toList.drop k) = true) ∨
    (∃ h1 : k + 1 < s.size, ((s[k].toNat : Int) == (c.toNat : Int)) = true ∧ (k : Int) + 1 < (s.size : Int) ∧ ((s[k + 1].toNat : Int) == 32) = true ∧ P19.signB c (s.data.toList.drop k) = true) ∨
    (∃ h1 : k + 1 < s.size, ((s[k].toNat : Int) == (c.toNat : Int)) = true ∧ (k : Int) + 1 < (s.size : Int) ∧ ((s[k + 1].toNat : Int) == 32) = false ∧ P19.signB c (s.data.toList.drop k) = false) := by
  have key : ∀ a : UInt8, ((a.toNat : Int) == (c.toNat : Int)) = (a == c) := by
    intro a
    by_cases h : a = c
    · rw [h]; simp
    · have h2 : a.toNat ≠ c.toNat := fun e => h (UInt8.toNat_inj.1 e)
      have h3 : (a == c) = false := by simpa using h
      rw [h3]
      simp
      omega
  have hd := drop_byte s k h
  by_cases h0 : s[k] = c
  · right
    have hj : ((s[k].toNat : Int) == (c.toNat : Int)) = true := by rw [key, h0]; simp
    rcases Nat.lt_or_ge (k + 1) s.size with h1 | h1
    · right
      have hd1 := drop_byte s (k + 1) h1
      have hsg : P19.signB c (s.data.toList.drop k) = (s[k + 1] == 32) := by
        rw [hd, hd1, h0]
        simp [P19.signB]
      by_cases h2 : s[k + 1] = 32
      · left
        exact ⟨h1, hj, by omega, by rw [i32, h2]; rfl, by rw [hsg, h2]; rfl⟩
      · right
        have h3 : (s[k + 1] == 32) = false := by simpa using h2
        exact ⟨h1, hj, by omega, by rw [i32, h3], by rw [hsg, h3]⟩
    · left
      have hd1 : s.data.toList.drop (k + 1) = [] := List.drop_eq_nil_of_le (by rw [← Lib.size_eq]; omega)
      exact ⟨hj, by omega, by rw [hd, hd1, h0]; simp [P19.signB]⟩
  · left
    have hj : ((s[k].toNat : Int) == (c.toNat : Int)) = false := by rw [key]; simpa using h0
    have h3 : (s[k] == c) = false := by simpa using h0
    exact ⟨hj, by rw [hd]; simp [P19.signB, h3]⟩
theorem line_ne (f : Nat) (n col : Int) (s : List UInt8) (h : (P19.line (f + 1) n col s).2 = 0) : (P19.line (f + 1) n col s).1 ≠ [] := by
  unfold P19.line at h ⊢
  repeat' split at h
  all_goals first | (simp at h; done) | skip
  all_goals (repeat' split)
  all_goals first | (simp; done) | (simp_all; done) | skip
theorem sign_cases (c : UInt8) (s : ByteArray) :
    (((s.size : Int) ≤ 0) ∧ P19.signB c s.data.toList = false) ∨
    (∃ h : 0 < s.size, ((s[0].toNat : Int) == (c.toNat : Int)) = false ∧ P19.signB c s.data.toList = false) ∨
    (∃ h : 0 < s.size, (0 : Int) < (s.size : Int) ∧ ((s[0].toNat : Int) == (c.toNat : Int)) = true ∧ ((s.size : Int) == 1) = true ∧ P19.signB c s.data.toList = true) ∨
    (∃ h : 1 < s.size, (1 : Int) < (s.size : Int) ∧ ((s[0].toNat : Int) == (c.toNat : Int)) = true ∧ ((s.size : Int) == 1) = false ∧ ((s[1].toNat : Int) == 32) = true ∧ P19.signB c s.data.toList = true) ∨
    (∃ h : 1 < s.size, (1 : Int) < (s.size : Int) ∧ ((s[0].toNat : Int) == (c.toNat : Int)) = true ∧ ((s.size : Int) == 1) = false ∧ ((s[1].toNat : Int) == 32) = false ∧ P19.signB c s.data.toList = false) := by
  have key : ∀ a : UInt8, ((a.toNat : Int) == (c.toNat : Int)) = (a == c) := by
    intro a
    by_cases h : a = c
    · rw [h]; simp
    · have h2 : a.toNat ≠ c.toNat := fun e => h (UInt8.toNat_inj.1 e)
      have h3 : (a == c) = false := by simpa using h
      rw [h3]
      simp
      omega
  rcases Nat.eq_zero_or_pos s.size with h | h
  · left
    have hn : s.data.toList = [] := List.eq_nil_of_length_eq_zero (by rw [← Lib.size_eq]; exact h)
    exact ⟨by omega, by rw [hn]; rfl⟩
  right
  have hd := drop_byte s 0 h
  rw [List.drop_zero] at hd
  by_cases h0 : s[0] = c
  · right
    have hj : ((s[0].toNat : Int) == (c.toNat : Int)) = true := by rw [key, h0]; simp
    rcases Nat.lt_or_ge 1 s.size with h1 | h1
    · right
      have hd1 := drop_byte s 1 h1
      have hsg : P19.signB c s.data.toList = (s[1] == 32) := by
        rw [hd, hd1, h0]
        simp [P19.signB]
      by_cases h2 : s[1] = 32
      · left
        exact ⟨h1, by omega, hj, by simp; omega, by rw [i32, h2]; rfl, by rw [hsg, h2]; rfl⟩
      · right
        have h3 : (s[1] == 32) = false := by simpa using h2
        exact ⟨h1, by omega, hj, by simp; omega, by rw [i32, h3], by rw [hsg, h3]⟩
    · left
      have hd1 : s.data.toList.drop 1 = [] := List.drop_eq_nil_of_le (by rw [← Lib.size_eq]; omega)
      exact ⟨h, by omega, hj, by simp; omega, by rw [hd, hd1, h0]; simp [P19.signB]⟩
  · left
    have hj : ((s[0].toNat : Int) == (c.toNat : Int)) = false := by rw [key]; simpa using h0
    have h3 : (s[0] == c) = false := by simpa using h0
    exact ⟨h, hj, by rw [hd]; simp [P19.signB, h3]⟩
theorem extract_drop (s : ByteArray) (k : Nat) : (s.extract k s.size).data.toList = s.data.toList.drop k := by
  rw [Lib.extract_data, List.take_of_length_le (by rw [List.length_drop, ← Lib.size_eq]; exact Nat.le_refl _)]
theorem extract_len (s : ByteArray) (k : Nat) : (s.extract k s.size).size = s.size - k := by
  rw [ByteArray.size_extract, Nat.min_eq_left (Nat.le_refl _)]
theorem skip_from (s : ByteArray) (k q : Nat) (w : World) (h : s.size ≤ 4000000) (hq : P19.skip (s.data.toList.drop k) = q) :
    Calls Tryz.prog 114 #[.string (s.extract k s.size)] w fun e w' => e = .returned (.int .i64 q) ∧ w' = w := by
  refine (refskip_any _ w (by rw [extract_len]; omega)).mono ?_
  rintro e w' ⟨rfl, rfl⟩
  rw [extract_drop, hq]
  exact ⟨rfl, rfl⟩
theorem val_from (s : ByteArray) (j : Nat) (n col : Int) (V : Tk × Int) (w : World) (h : s.size ≤ 100000) (hv : P19.value n col (s.data.toList.drop j) = V) :
    Calls Tryz.prog 115 #[.string (s.extract j s.size), .int .i64 n, .int .i64 col] w fun e w' => e = .returned (.tuple #[.agg #[.int .u8 V.1.1, .string ⟨V.1.2.1.toArray⟩, .int .i64 V.1.2.2.1, .int .i64 V.1.2.2.2], .int .i64 V.2]) ∧ Below w.heap.size w w' := by
  have h1 := refvalue_any (s.extract j s.size) n col w (by rw [extract_len]; omega)
  rw [extract_drop, hv] at h1
  exact h1
theorem read_upto (s : ByteArray) (k : Nat) (x : List UInt8 × Int) (w : World) (h : s.size ≤ 100000) (hk : k ≤ s.size) (hx : P18.read (s.data.toList.take k) = x) :
    Calls Tryz.prog 117 #[.string (s.extract 0 k)] w fun e w' => e = .returned (.tuple #[.string ⟨x.1.toArray⟩, .int .i64 x.2]) ∧ Below w.heap.size w w' := by
  have hd : (s.extract 0 k).data.toList = s.data.toList.take k := by rw [Lib.extract_data, List.drop_zero, Nat.sub_zero]
  have h1 := refRead_any (s.extract 0 k) w (by rw [ByteArray.size_extract]; omega)
  rw [hd, hx] at h1
  refine h1.mono ?_
  rintro e w' ⟨b, rfl, hb, hbl⟩
  obtain rfl := str_of hb
  exact ⟨rfl, hbl⟩
theorem four_step {W : World} {g : Nat} {T : TypeId} {a b c d : Value} (h : W.heap[g]? = some (.cells #[a, b, c, d] T)) (v0 v1 v2 : Value) :
    ((W.setCell ⟨g, 0, none⟩ v0).cell? ⟨g, 1, none⟩ = some b ∧ (W.setCell ⟨g, 0, none⟩ v0).frozen? ⟨g, 1, none⟩ = false) ∧
    (((W.setCell ⟨g, 0, none⟩ v0).setCell ⟨g, 1, none⟩ v1).cell? ⟨g, 2, none⟩ = some c ∧ ((W.setCell ⟨g, 0, none⟩ v0).setCell ⟨g, 1, none⟩ v1).frozen? ⟨g, 2, none⟩ = false) ∧
    ((((W.setCell ⟨g, 0, none⟩ v0).setCell ⟨g, 1, none⟩ v1).setCell ⟨g, 2, none⟩ v2).cell? ⟨g, 3, none⟩ = some d ∧ (((W.setCell ⟨g, 0, none⟩ v0).setCell ⟨g, 1, none⟩ v1).setCell ⟨g, 2, none⟩ v2).frozen? ⟨g, 3, none⟩ = false) := by
  simp [World.cell?, World.frozen?, World.setCell, Array.getElem?_modify, h]
def set4 (W : World) (b : Nat) (v0 v1 v2 v3 : Value) : World := (((W.setCell ⟨b, 0, none⟩ v0).setCell ⟨b, 1, none⟩ v1).setCell ⟨b, 2, none⟩ v2).setCell ⟨b, 3, none⟩ v3
theorem own_set4 {W : World} {B g b m c : Nat} {ts : List Tk} (h : OwnT W B (.slice (some ⟨g, 0, none⟩) m c) ts) (hg : g ≠ b) (v0 v1 v2 v3 : Value) : OwnT (set4 W b v0 v1 v2 v3) B (.slice (some ⟨g, 0, none⟩) m c) ts := by
  have hne : (Value.slice (some ⟨g, 0, none⟩) m c).ownBlock ≠ some b := by simpa [Value.ownBlock] using hg
  have h1 := World.ownsRow.kept h (setCell_grown W b 0 v0) (.inr hne)
  have h2 := World.ownsRow.kept h1 (setCell_grown _ b 1 v1) (.inr hne)
  have h3 := World.ownsRow.kept h2 (setCell_grown _ b 2 v2) (.inr hne)
  exact World.ownsRow.kept h3 (setCell_grown _ b 3 v3) (.inr hne)
set_option maxRecDepth 100000 in
set_option maxHeartbeats 20000000 in
theorem refLine_step (f : Nat) (ih : ∀ (s : ByteArray) (n col : Int) (w : World), s.size < f → s.size ≤ 100000 → 0 ≤ col → col + s.size ≤ 1000000000 →
    Calls Tryz.prog 71 #[.agg #[.int .i64 n, .int .i64 col, .string s]] w fun e w' => ∃ v, e = .returned (.tuple #[v, .int .i64 (P19.line f n col s.data.toList).2]) ∧ OwnT w' w.heap.size v (P19.line f n col s.data.toList).1 ∧ Below w.heap.size w w')
    (s : ByteArray) (n col : Int) (w : World) (hf : s.size < f + 1) (hs : s.size ≤ 100000) (hc0 : 0 ≤ col) (hc1 : col + s.size ≤ 1000000000) :
    Calls Tryz.prog 71 #[.agg #[.int .i64 n, .int .i64 col, .string s]] w fun e w' => ∃ v, e = .returned (.tuple #[v, .int .i64 (P19.line (f + 1) n col s.data.toList).2]) ∧ OwnT w' w.heap.size v (P19.line (f + 1) n col s.data.toList).1 ∧ Below w.heap.size w w' := by
  have hmx : Tryz.prog.follows .mixedOrders = true := by kernel_rfl
  have IH := hide ih
  clear ih
  obtain ⟨⟨TS, E⟩, hR⟩ : ∃ x, P19.line (f + 1) n col s.data.toList = x := ⟨_, rfl⟩
  rw [hR]
  have HR := hide hR
  clear hR
  go_enter Tryz.func71, Tryz.ntmps71
  go_wp2
  go_region
  obtain ⟨W1, hW1⟩ : ∃ W1, (w.alloc (.cells #[.int .i64 n, .int .i64 col, .string s] 122)).drew = W1 := ⟨_, rfl⟩
  have hb1 : Below w.heap.size w W1 := by rw [← hW1]; exact ((Below.refl _ w).alloc (Nat.le_refl _) _).drew
  have hx : W1.heap[w.heap.size]? = some (.cells #[.int .i64 n, .int .i64 col, .string s] 122) := by rw [← hW1]; exact World.alloc_heap_new w _
  rw [hW1]
  obtain ⟨x0, x1, x2⟩ := cells3_of hx
  have hsz : w.heap.size < W1.heap.size := (Array.getElem?_eq_some_iff.1 hx).1
  clear hW1
  go_upto_region 2 with fail
  go_cut [39] from 22 to 39 (fun c wx => c = .bool (P19.signB 45 s.data.toList) ∧ W1 = wx)
  case first =>
    rcases sign_cases 45 s with ⟨h1, h2⟩ | ⟨h1, h2, h3⟩ | ⟨h1, h2, h3, h4, h5⟩ | ⟨h1, h2, h3, h4, h5, h6⟩ | ⟨h1, h2, h3, h4, h5, h6⟩
    · have HS := hide h2
      clear h2
      go_wp2
      go_meet
      exact ⟨by rw [unhide HS], rfl⟩
    · have h0 : (0 : Int) < (s.size : Int) := by omega
      have h2' : ((s[0].toNat : Int) == 45) = false := h2
      have HS := hide h3
      clear h3 h2
      go_wp2
      go_meet
      exact ⟨by rw [unhide HS], rfl⟩
    · have h3' : ((s[0].toNat : Int) == 45) = true := h3
      have HS := hide h5
      clear h5 h3
      go_wp2
      go_meet
      exact ⟨by rw [unhide HS], rfl⟩
    · have h0 : (0 : Int) < (s.size : Int) := by omega
      have h3' : ((s[0].toNat : Int) == 45) = true := h3
      have HS := hide h6
      clear h6 h3
      go_wp2
      go_meet
      exact ⟨by rw [unhide HS], rfl⟩
    · have h0 : (0 : Int) < (s.size : Int) := by omega
      have h3' : ((s[0].toNat : Int) == 45) = true := h3
      have HS := hide h6
      clear h6 h3
      go_wp2
      go_meet
      exact ⟨by rw [unhide HS], rfl⟩
  case rest =>
    obtain ⟨rfl, rfl⟩ := hcut
    by_cases hsg : P19.signB 45 s.data.toList = true
    · rw [hsg]
      obtain ⟨q, hq⟩ : ∃ q, P19.skip (s.data.toList.drop 1) = q := ⟨_, rfl⟩
      have hsp : 1 ≤ s.size := by
        rcases Nat.eq_zero_or_pos s.size with h | h
        · have hn : s.data.toList = [] := List.eq_nil_of_length_eq_zero (by rw [← Lib.size_eq]; exact h)
          rw [hn] at hsg
          cases hsg
        · exact h
      have hql : q ≤ s.size - 1 := by
        have h1 := P19.skip_le (s.data.toList.drop 1)
        rw [hq, List.length_drop, ← Lib.size_eq] at h1
        exact h1
      have hsp' : (1 : Int) ≤ (s.size : Int) := by omega
      have hw1 : IntKind.i64.wrap (1 + (q : Int)) = 1 + (q : Int) := IntWalk.i64_in _ (by omega)
      have hr := unhide HR
      rw [P19.line, if_pos hsg, hq, ← Lib.size_eq] at hr
      clear hsg
      have HQ := hide hq
      clear hq
      by_cases hk : 1 + q = s.size
      · rw [if_pos hk] at hr
        obtain ⟨rfl, rfl⟩ : TS = [(3, [], n, col)] ∧ E = 0 := by
          injection hr with h1 h2
          exact ⟨h1.symm, h2.symm⟩
        have jk : ((1 + (q : Int)) == (s.size : Int)) = true := by simp; omega
        clear hr hk
        go_wp2_with (first
          | (go_at_call 72; refine (reftok_any _ _ _ _ _).mono ?_; rintro e w2 ⟨rfl, hb2⟩)
          | (go_at_call 114; refine (skip_from s 1 q _ (by omega) (unhide HQ)).mono ?_; rintro e w3 ⟨rfl, rfl⟩))
        go_ret2
        refine ⟨_, rfl, own_one w2 w.heap.size (3, [], n, col) ?_ _ rfl, ?_⟩
        · have h1 := hb1.size
          have h2 := hb2.size
          omega
        · exact (hb1.trans (hb2.mono hb1.size)).alloc (Nat.le_trans hb1.size hb2.size) _
      · rw [if_neg hk] at hr
        have jk : ((1 + (q : Int)) == (s.size : Int)) = false := by simp; omega
        have hq2 : 1 + q < s.size := by omega
        go_wp2_with (first
          | (go_at_call 72; refine (reftok_any _ _ _ _ _).mono ?_; rintro e w2 ⟨rfl, hb2⟩)
          | (go_at_call 114; refine (skip_from s 1 q _ (by omega) (unhide HQ)).mono ?_; rintro e w3 ⟨rfl, rfl⟩))
        obtain ⟨W3, hW3⟩ : ∃ W3, w2.alloc (.cells #[.int .u8 3, .string ⟨#[]⟩, .int .i64 n, .int .i64 col] 124) = W3 := ⟨_, rfl⟩
        have hb3 : Below w.heap.size w W3 := by rw [← hW3]; exact (hb1.trans (hb2.mono hb1.size)).alloc (Nat.le_trans hb1.size hb2.size) _
        have ho3 : OwnT W3 w.heap.size (.slice (some ⟨w2.heap.size, 0, none⟩) 1 1) [(3, [], n, col)] := by rw [← hW3]; exact own_one w2 w.heap.size (3, [], n, col) (Nat.le_trans hb1.size hb2.size) _ rfl
        have hl3 : w2.heap.size < W3.heap.size := by rw [← hW3]; simp
        have hx3 : W3.heap[w.heap.size]? = some (.cells #[.int .i64 n, .int .i64 col, .string s] 122) := by
          rw [← hW3]
          exact (Below.heap_alloc w2 _ _ (by have := hb2.size; omega)).trans ((hb2.block _ hsz).trans hx)
        rw [hW3]
        clear hW3
        have z0 := (cells3_of hx3).1
        have hw2 : IntKind.i64.wrap (col + (1 + (q : Int))) = col + (1 + (q : Int)) := IntWalk.i64_in _ (by omega)
        have hIH := fun W => unhide IH (s.extract (1 + q) s.size) n (col + (1 + (q : Int))) W (by rw [extract_len]; omega) (by rw [extract_len]; omega) (by omega) (by rw [extract_len]; omega)
        rw [extract_drop] at hIH
        rw [show ((1 + q : Nat) : Int) = 1 + (q : Int) from by omega] at hr
        obtain ⟨⟨T4, E4⟩, hR4⟩ : ∃ x, P19.line f n (col + (1 + (q : Int))) (s.data.toList.drop (1 + q)) = x := ⟨_, rfl⟩
        rw [hR4] at hr hIH
        have hne4 : E4 = 0 → T4 ≠ [] := by
          intro h0
          cases f with
          | zero => omega
          | succ f' =>
            have h1 := line_ne f' n (col + (1 + (q : Int))) (s.data.toList.drop (1 + q))
            rw [hR4] at h1
            exact h1 h0
        have hT4 : T4.length ≤ 1000000 := by
          have h1 := line_len f n (col + (1 + (q : Int))) (s.data.toList.drop (1 + q))
          rw [hR4, List.length_drop, ← Lib.size_eq] at h1
          simp only at h1
          omega
        have HIH := hide hIH
        clear hIH hR4
        by_cases hE : E4 = 0
        · rw [if_neg (by simpa using hE)] at hr
          obtain ⟨rfl, rfl⟩ : TS = (3, [], n, col) :: T4 ∧ E = 0 := by
            injection hr with h1 h2
            exact ⟨h1.symm, h2.symm⟩
          have hT := hne4 hE
          have jE : (E4 != 0) = false := by simpa using hE
          clear hr hne4 hE hk
          go_region_with_o (first
            | (go_at_call 71; refine (unhide HIH _).mono ?_; rintro e w4 ⟨v4, rfl, ho4, hb4⟩; obtain ⟨g4, cap4, rfl, hg4a, hg4b⟩ := World.ownsRow.form ho4 (List.length_pos_iff.2 hT); have ho3' : OwnT w4 w.heap.size (.slice (some ⟨w2.heap.size, 0, none⟩) 1 1) [(3, [], n, col)] := owns_below (World.ownsRow.drew ho3) hb4; have hb4' : Below w.heap.size w w4 := (hb3.drew).trans (hb4.mono hb3.size)))
          all_goals
            go_wp2_with (at_builtin; refine wpList_appToks rfl (.tmp 70) (.tmp 71) rfl rfl ho3' g4 cap4 _ rfl rfl (World.ownsRow.cells ho4 rfl) (by simp; omega) hb4'.size ?_; intro v5 w5 ho5 hg5)
            go_ret2
            refine ⟨_, rfl, ho5, ?_⟩
            exact hb4'.grown hg5 hb4'.size (fun k hk => (World.ownsRow.lt ho3' k hk).1)
        · rw [if_pos (by simpa using hE)] at hr
          obtain ⟨rfl, rfl⟩ : TS = [] ∧ E = E4 := by
            injection hr with h1 h2
            exact ⟨h1.symm, h2.symm⟩
          have jE : (E != 0) = true := by simpa using hE
          clear hr hne4 hE hk
          go_region_with_o (first
            | (go_at_call 71; refine (unhide HIH _).mono ?_; rintro e w4 ⟨v4, rfl, ho4, hb4⟩; have hb4' : Below w.heap.size w w4 := (hb3.drew).trans (hb4.mono hb3.size)))
          all_goals
            go_wp2
            go_ret2
            exact ⟨_, rfl, World.ownsRow_nil _ _ _ _, hb4'⟩
    · have hsg' : P19.signB 45 s.data.toList = false := by simpa using hsg
      rw [hsg']
      have hr := unhide HR
      rw [P19.line, if_neg hsg] at hr
      clear hsg hsg'
      by_cases h1 : s.data.toList = [91, 93]
      · rw [if_pos h1] at hr
        obtain ⟨rfl, rfl⟩ : TS = [(6, [], n, col)] ∧ E = 0 := by
          injection hr with h1 h2
          exact ⟨h1.symm, h2.symm⟩
        obtain rfl := str_of h1
        clear hr h1
        go_wp2_with (go_at_call 115; refine (refvalue_none _ 6 _ _ _ (.inl ⟨rfl, rfl⟩)).mono ?_; rintro e w2 ⟨rfl, hb2⟩; obtain ⟨⟨c0, _⟩, ⟨c1, _⟩, ⟨c2, _⟩, ⟨c3, _⟩⟩ := four_cell (World.alloc_heap_new w2 (.cells #[.int .u8 6, .string ⟨#[]⟩, .int .i64 n, .int .i64 col] 124)))
        have hb12 := hb1.trans (hb2.mono hb1.size)
        go_ret2
        refine ⟨_, rfl, own_one' _ w.heap.size _ (6, [], n, col) (World.size_alloc _ _) ?_ _ rfl, (hb12.alloc hb12.size _).alloc ?_ _⟩
        · rw [World.size_alloc]; have := hb12.size; omega
        · rw [World.size_alloc]; have := hb12.size; omega
      rw [if_neg h1] at hr
      by_cases h2 : s.data.toList = [123, 125]
      · rw [if_pos h2] at hr
        obtain ⟨rfl, rfl⟩ : TS = [(7, [], n, col)] ∧ E = 0 := by
          injection hr with h1 h2
          exact ⟨h1.symm, h2.symm⟩
        obtain rfl := str_of h2
        clear hr h1 h2
        go_wp2_with (go_at_call 115; refine (refvalue_none _ 7 _ _ _ (.inr ⟨rfl, rfl⟩)).mono ?_; rintro e w2 ⟨rfl, hb2⟩; obtain ⟨⟨c0, _⟩, ⟨c1, _⟩, ⟨c2, _⟩, ⟨c3, _⟩⟩ := four_cell (World.alloc_heap_new w2 (.cells #[.int .u8 7, .string ⟨#[]⟩, .int .i64 n, .int .i64 col] 124)))
        have hb12 := hb1.trans (hb2.mono hb1.size)
        go_ret2
        refine ⟨_, rfl, own_one' _ w.heap.size _ (7, [], n, col) (World.size_alloc _ _) ?_ _ rfl, (hb12.alloc hb12.size _).alloc ?_ _⟩
        · rw [World.size_alloc]; have := hb12.size; omega
        · rw [World.size_alloc]; have := hb12.size; omega
      rw [if_neg h2] at hr
      have n1 := ne_list h1
      have n2 := ne_list h2
      have n3 := str_ne h1
      have n4 := str_ne h2
      clear h1 h2
      have hcut := refCut_any s
      have hkle := cut_le s.data.toList
      obtain ⟨⟨k, c⟩, hkc⟩ : ∃ x, P18.cut s.data.toList = x := ⟨_, rfl⟩
      rw [hkc] at hr hkle
      simp only [hkc] at hcut
      simp only at hr hkle
      rw [← Lib.size_eq] at hkle
      have HCUT := hide hcut
      clear hcut hkc
      by_cases hc : c = 0
      rotate_left
      · rw [if_pos hc] at hr
        obtain ⟨rfl, rfl⟩ : TS = [] ∧ E = 3 := by
          injection hr with h1 h2
          exact ⟨h1.symm, h2.symm⟩
        have jc : ((c : Int) != 0) = true := by simp; omega
        clear hr hc
        go_wp2_with (go_at_call 116; refine (unhide HCUT _ (by omega)).mono ?_; rintro e w' ⟨rfl, rfl⟩)
        go_ret2
        exact ⟨_, rfl, World.ownsRow_nil _ _ _ _, hb1⟩
      rw [if_neg (by simpa using hc)] at hr
      have jc : ((c : Int) != 0) = false := by simp; omega
      clear hc
      have HR2 := hide hr
      clear hr
      go_upto_region 17 with (go_at_call 116; refine (unhide HCUT _ (by omega)).mono ?_; rintro e w' ⟨rfl, hww⟩; rw [hww]; clear hww)
      go_cut [119] from 96 to 119 (fun c wx => c = .bool (decide (k < s.size ∧ P19.signB 58 (s.data.toList.drop k) = false)) ∧ W1 = wx)
      case first =>
        rcases Nat.lt_or_ge k s.size with hlt | hge
        · have j1 : (k : Int) < (s.size : Int) := by omega
          have jw : IntKind.i64.wrap ((k : Int) + 1) = (k : Int) + 1 := IntWalk.i64_in _ (by omega)
          rcases sign_at 58 s k hlt with ⟨h3, h4⟩ | ⟨h3, h4, h5⟩ | ⟨h3, h4, h5, h6, h7⟩ | ⟨h3, h4, h5, h6, h7⟩
          · have j3 : ((s[k].toNat : Int) != 58) = true := by simpa using h3
            have HS := hide h4
            clear h3 h4
            go_wp2
            go_meet
            exact ⟨by rw [unhide HS, decide_eq_true ⟨hlt, rfl⟩], rfl⟩
          · have j3 : ((s[k].toNat : Int) != 58) = false := by simpa using h3
            have HS := hide h5
            clear h3 h5
            go_wp2
            go_meet
            exact ⟨by rw [unhide HS]; simp, rfl⟩
          · have j3 : ((s[k].toNat : Int) != 58) = false := by simpa using h4
            have j6 : ((s[k + 1].toNat : Int) != 32) = false := by simpa using h6
            have HS := hide h7
            clear h4 h6 h7
            go_wp2
            go_meet
            exact ⟨by rw [unhide HS]; simp, rfl⟩
          · have j3 : ((s[k].toNat : Int) != 58) = false := by simpa using h4
            have j6 : ((s[k + 1].toNat : Int) != 32) = true := by simpa using h6
            have HS := hide h7
            clear h4 h6 h7
            go_wp2
            go_meet
            exact ⟨by rw [unhide HS, decide_eq_true ⟨hlt, rfl⟩], rfl⟩
        · have j1 : (s.size : Int) ≤ (k : Int) := by omega
          go_wp2
          go_meet
          exact ⟨by rw [decide_eq_false (by omega)], rfl⟩
      case rest =>
        obtain ⟨rfl, rfl⟩ := hcut
        have hr := unhide HR2
        by_cases hbad : k < s.size ∧ P19.signB 58 (s.data.toList.drop k) = false
        · rw [if_pos (by rw [← Lib.size_eq]; exact hbad)] at hr
          obtain ⟨rfl, rfl⟩ : TS = [] ∧ E = 3 := by
            injection hr with h1 h2
            exact ⟨h1.symm, h2.symm⟩
          rw [decide_eq_true hbad]
          clear hr hbad
          go_wp2
          go_ret2
          exact ⟨_, rfl, World.ownsRow_nil _ _ _ _, hb1⟩
        rw [if_neg (by rw [← Lib.size_eq]; exact hbad)] at hr
        rw [decide_eq_false hbad]
        clear hbad
        obtain ⟨⟨t, e⟩, hte⟩ : ∃ x, P18.read (s.data.toList.take k) = x := ⟨_, rfl⟩
        rw [hte] at hr
        have HRD := hide (fun W => read_upto s k (t, e) W hs hkle hte)
        have hki : (k : Int) ≤ (s.size : Int) := by omega
        clear hte
        by_cases he : e = 0
        rotate_left
        · rw [if_pos he] at hr
          obtain ⟨rfl, rfl⟩ : TS = [] ∧ E = e := by
            injection hr with h1 h2
            exact ⟨h1.symm, h2.symm⟩
          have je : (E != 0) = true := by simpa using he
          clear hr he
          go_wp2_with (go_at_call 117; refine (unhide HRD _).mono ?_; rintro e' w2 ⟨rfl, hb2⟩)
          go_ret2
          exact ⟨_, rfl, World.ownsRow_nil _ _ _ _, hb1.trans (hb2.mono hb1.size)⟩
        rw [if_neg (by simpa using he), ← Lib.size_eq] at hr
        have je : (e != 0) = false := by simpa using he
        clear he
        by_cases hke : k = s.size
        · rw [if_pos hke] at hr
          obtain ⟨rfl, rfl⟩ : TS = [(5, t, n, col)] ∧ E = 0 := by
            injection hr with h1 h2
            exact ⟨h1.symm, h2.symm⟩
          have jke : ((k : Int) == (s.size : Int)) = true := by simp; omega
          clear hr hke
          go_wp2_with (first
            | (go_at_call 117; refine (unhide HRD _).mono ?_; rintro e' w2 ⟨rfl, hb2⟩; have z0 := (cells3_of ((hb2.block _ hsz).trans hx)).1)
            | (go_at_call 72; refine (reftok_any _ _ _ _ _).mono ?_; rintro e' w3 ⟨rfl, hb3⟩))
          have hb12 := hb1.trans (hb2.mono hb1.size)
          have hb13 := hb12.trans (hb3.mono hb12.size)
          go_ret2
          exact ⟨_, rfl, own_one' _ w.heap.size _ (5, t, n, col) rfl hb13.size _ rfl, hb13.alloc hb13.size _⟩
        rw [if_neg hke] at hr
        have jke : ((k : Int) == (s.size : Int)) = false := by simp; omega
        have hkl : k + 1 ≤ s.size := by omega
        have hkl' : (k : Int) + 1 ≤ (s.size : Int) := by omega
        have jw : IntKind.i64.wrap ((k : Int) + 1) = (k : Int) + 1 := IntWalk.i64_in _ (by omega)
        obtain ⟨q, hq⟩ : ∃ q, P19.skip (s.data.toList.drop (k + 1)) = q := ⟨_, rfl⟩
        have hql : k + 1 + q ≤ s.size := by
          have h1 := P19.skip_le (s.data.toList.drop (k + 1))
          rw [hq, List.length_drop, ← Lib.size_eq] at h1
          omega
        rw [hq] at hr
        have HQ := hide hq
        have jw2 : IntKind.i64.wrap ((k : Int) + 1 + (q : Int)) = (k : Int) + 1 + (q : Int) := IntWalk.i64_in _ (by omega)
        clear hq hke
        by_cases hj : k + 1 + q = s.size
        · rw [if_pos hj] at hr
          obtain ⟨rfl, rfl⟩ : TS = [(4, t, n, col)] ∧ E = 0 := by
            injection hr with h1 h2
            exact ⟨h1.symm, h2.symm⟩
          have jj : (((k : Int) + 1 + (q : Int)) == (s.size : Int)) = true := by simp; omega
          clear hr hj
          go_wp2_with (first
            | (go_at_call 117; refine (unhide HRD _).mono ?_; rintro e' w2 ⟨rfl, hb2⟩; have z0 := (cells3_of ((hb2.block _ hsz).trans hx)).1)
            | (go_at_call 72; refine (reftok_any _ _ _ _ _).mono ?_; rintro e' w3 ⟨rfl, hb3⟩)
            | (go_at_call 114; refine (skip_from s (k + 1) q _ (by omega) (unhide HQ)).mono ?_; rintro e' w4 ⟨rfl, rfl⟩))
          have hb12 := hb1.trans (hb2.mono hb1.size)
          have hb13 := hb12.trans (hb3.mono hb12.size)
          go_ret2
          exact ⟨_, rfl, own_one' _ w.heap.size _ (4, t, n, col) rfl hb13.size _ rfl, hb13.alloc hb13.size _⟩
        rw [if_neg hj] at hr
        have jj : (((k : Int) + 1 + (q : Int)) == (s.size : Int)) = false := by simp; omega
        rw [show ((k + 1 + q : Nat) : Int) = (k : Int) + 1 + (q : Int) from by omega] at hr
        have jw3 : IntKind.i64.wrap (col + ((k : Int) + 1 + (q : Int))) = col + ((k : Int) + 1 + (q : Int)) := IntWalk.i64_in _ (by omega)
        obtain ⟨⟨tv, ev⟩, hv⟩ : ∃ x, P19.value n (col + ((k : Int) + 1 + (q : Int))) (s.data.toList.drop (k + 1 + q)) = x := ⟨_, rfl⟩
        rw [hv] at hr
        have HV := hide (fun W => val_from s (k + 1 + q) n (col + ((k : Int) + 1 + (q : Int))) (tv, ev) W hs hv)
        have hjl' : (k : Int) + 1 + (q : Int) ≤ (s.size : Int) := by omega
        clear hv hj
        obtain ⟨tv1, tv2, tv3, tv4⟩ := tv
        have hf4 := fun W : World => four_cell (World.alloc_heap_new W (.cells #[.int .u8 tv1, .string ⟨tv2.toArray⟩, .int .i64 tv3, .int .i64 tv4] 124))
        go_wp2_with (first
          | (go_at_call 117; refine (unhide HRD _).mono ?_; rintro e' w2 ⟨rfl, hb2⟩; have hx2 := (hb2.block _ hsz).trans hx; have z0 := (cells3_of hx2).1)
          | (go_at_call 72; refine (reftok_any _ _ _ _ _).mono ?_; rintro e' w3 ⟨rfl, hb3⟩)
          | (go_at_call 114; refine (skip_from s (k + 1) q _ (by omega) (unhide HQ)).mono ?_; rintro e' w4 ⟨rfl, hww⟩; rw [hww]; clear hww))
        have hb12 := hb1.trans (hb2.mono hb1.size)
        have hb13 := hb12.trans (hb3.mono hb12.size)
        obtain ⟨W5, hW5⟩ : ∃ W5, w3.alloc (.cells #[.int .u8 4, .string ⟨t.toArray⟩, .int .i64 n, .int .i64 col] 124) = W5 := ⟨_, rfl⟩
        have hb5 : Below w.heap.size w W5 := by rw [← hW5]; exact hb13.alloc hb13.size _
        have ho5 : OwnT W5 w.heap.size (.slice (some ⟨w3.heap.size, 0, none⟩) 1 1) [(4, t, n, col)] := by rw [← hW5]; exact own_one w3 w.heap.size (4, t, n, col) hb13.size _ rfl
        have hx5 : W5.heap[w.heap.size]? = some (.cells #[.int .i64 n, .int .i64 col, .string s] 122) := by
          rw [← hW5]
          have hl2 := (Array.getElem?_eq_some_iff.1 hx2).1
          exact (Below.heap_alloc w3 _ _ (by have := hb3.size; omega)).trans ((hb3.block _ hl2).trans hx2)
        have hlt35 : w3.heap.size < W5.heap.size := by rw [← hW5]; simp
        rw [hW5]
        clear hW5 hx2 z0
        have z5 := (cells3_of hx5).1
        have z5a := (cells3_of ((Below.heap_alloc W5 (.cells #[.int .u8 0, .string ⟨#[]⟩, .int .i64 0, .int .i64 0] 124) _ (Array.getElem?_eq_some_iff.1 hx5).1).trans hx5)).1
        by_cases hev : ev = 0
        · rw [if_neg (by simpa using hev)] at hr
          obtain ⟨rfl, rfl⟩ : TS = [(4, t, n, col), (tv1, tv2, tv3, tv4)] ∧ E = 0 := by
            injection hr with h1 h2
            exact ⟨h1.symm, h2.symm⟩
          have jev : (ev != 0) = false := by simpa using hev
          clear hr hev
          go_region_with_o (first
            | (go_at_call 115; refine (unhide HV _).mono ?_; rintro e' w6 ⟨rfl, hb6⟩; have hb5a := hb5.alloc hb5.size (.cells #[.int .u8 0, .string ⟨#[]⟩, .int .i64 0, .int .i64 0] 124); have hb6' : Below w.heap.size w w6 := (hb5a.drew).trans (hb6.mono hb5a.size); have hbx6 : w6.heap[W5.heap.size]? = some (.cells #[.int .u8 0, .string ⟨#[]⟩, .int .i64 0, .int .i64 0] 124) := (hb6.block _ (by show W5.heap.size < (W5.alloc _).heap.size; simp)).trans (World.alloc_heap_new W5 _); have ho6 : OwnT w6 w.heap.size (.slice (some ⟨w3.heap.size, 0, none⟩) 1 1) [(4, t, n, col)] := owns_below (World.ownsRow.drew (World.ownsRow.alloc ho5 _)) hb6; obtain ⟨⟨x60, y60⟩, _⟩ := four_cell hbx6; obtain ⟨⟨x61, y61⟩, ⟨x62, y62⟩, ⟨x63, y63⟩⟩ := four_step hbx6 (.int .u8 tv1) (.string ⟨tv2.toArray⟩) (.int .i64 tv3))
            | (go_at_call 115; refine (unhide HV _).mono ?_; rintro e' w6 ⟨rfl, hb6⟩; have hb6' : Below w.heap.size w w6 := (hb5.drew).trans (hb6.mono hb5.size); have ho6 : OwnT w6 w.heap.size (.slice (some ⟨w3.heap.size, 0, none⟩) 1 1) [(4, t, n, col)] := owns_below (World.ownsRow.drew ho5) hb6; obtain ⟨⟨c0, _⟩, ⟨c1, _⟩, ⟨c2, _⟩, ⟨c3, _⟩⟩ := hf4 w6))
          all_goals first
            | (have hset := four_set hbx6 (.int .u8 tv1) (.string ⟨tv2.toArray⟩) (.int .i64 tv3) (.int .i64 tv4)
               have hl35 : w3.heap.size < W5.heap.size := hlt35
               have ho6s := own_set4 (b := W5.heap.size) ho6 (by omega) (.int .u8 tv1) (.string ⟨tv2.toArray⟩) (.int .i64 tv3) (.int .i64 tv4)
               have hb6s := below_four hb6' hb5.size (.int .u8 tv1) (.string ⟨tv2.toArray⟩) (.int .i64 tv3) (.int .i64 tv4)
               unfold set4 at ho6s
               obtain ⟨W7, hW7⟩ : ∃ W7, (((w6.setCell ⟨W5.heap.size, 0, none⟩ (.int .u8 tv1)).setCell ⟨W5.heap.size, 1, none⟩ (.string ⟨tv2.toArray⟩)).setCell ⟨W5.heap.size, 2, none⟩ (.int .i64 tv3)).setCell ⟨W5.heap.size, 3, none⟩ (.int .i64 tv4) = W7 := ⟨_, rfl⟩
               rw [hW7] at hset ho6s hb6s ⊢
               clear hW7 x60 x61 x62 x63 y60 y61 y62 y63 hbx6
               obtain ⟨⟨d0, _⟩, ⟨d1, _⟩, ⟨d2, _⟩, ⟨d3, _⟩⟩ := four_cell hset
               have ho7 := own_one' W7 w.heap.size W7.heap.size (tv1, tv2, tv3, tv4) rfl hb6s.size #[.int .u8 tv1, .string ⟨tv2.toArray⟩, .int .i64 tv3, .int .i64 tv4] rfl
               have ho8 : OwnT (W7.alloc (.cells #[.int .u8 tv1, .string ⟨tv2.toArray⟩, .int .i64 tv3, .int .i64 tv4] 124)) w.heap.size (.slice (some ⟨w3.heap.size, 0, none⟩) 1 1) [(4, t, n, col)] := World.ownsRow.alloc ho6s _
               have hb8 := hb6s.alloc hb6s.size (.cells #[.int .u8 tv1, .string ⟨tv2.toArray⟩, .int .i64 tv3, .int .i64 tv4] 124)
               go_wp2_with (at_builtin; refine wpList_appToks (more := [(tv1, tv2, tv3, tv4)]) rfl (.tmp 174) (.tmp 176) rfl rfl ho8 W7.heap.size 1 1 rfl rfl (World.ownsRow.cells ho7 rfl) (by simp) hb8.size ?_; intro v9 w9 ho9 hg9)
               go_ret2
               refine ⟨_, rfl, ho9, ?_⟩
               exact hb8.grown hg9 hb8.size (fun k hk => (World.ownsRow.lt ho8 k hk).1))
            | (skip
               have hb7 : Below w.heap.size w (w6.alloc (.cells #[.int .u8 tv1, .string ⟨tv2.toArray⟩, .int .i64 tv3, .int .i64 tv4] 124)) := hb6'.alloc hb6'.size _
               have ho7 := own_one' (w6.alloc (.cells #[.int .u8 tv1, .string ⟨tv2.toArray⟩, .int .i64 tv3, .int .i64 tv4] 124)) w.heap.size (w6.heap.size + 1) (tv1, tv2, tv3, tv4) (World.size_alloc _ _) hb7.size #[.int .u8 tv1, .string ⟨tv2.toArray⟩, .int .i64 tv3, .int .i64 tv4] rfl
               have ho8 : OwnT ((w6.alloc (.cells #[.int .u8 tv1, .string ⟨tv2.toArray⟩, .int .i64 tv3, .int .i64 tv4] 124)).alloc (.cells #[.int .u8 tv1, .string ⟨tv2.toArray⟩, .int .i64 tv3, .int .i64 tv4] 124)) w.heap.size (.slice (some ⟨w3.heap.size, 0, none⟩) 1 1) [(4, t, n, col)] := World.ownsRow.alloc (World.ownsRow.alloc ho6 _) _
               have hb8 := hb7.alloc hb7.size (.cells #[.int .u8 tv1, .string ⟨tv2.toArray⟩, .int .i64 tv3, .int .i64 tv4] 124)
               go_wp2_with (at_builtin; refine wpList_appToks (more := [(tv1, tv2, tv3, tv4)]) rfl (.tmp 174) (.tmp 176) rfl rfl ho8 (w6.heap.size + 1) 1 1 rfl rfl (World.ownsRow.cells ho7 rfl) (by simp) hb8.size ?_; intro v9 w9 ho9 hg9)
               go_ret2
               refine ⟨_, rfl, ho9, ?_⟩
               exact hb8.grown hg9 hb8.size (fun k hk => (World.ownsRow.lt ho8 k hk).1))
        · rw [if_pos (by simpa using hev)] at hr
          obtain ⟨rfl, rfl⟩ : TS = [] ∧ E = ev := by
            injection hr with h1 h2
            exact ⟨h1.symm, h2.symm⟩
          have jev : (E != 0) = true := by simpa using hev
          clear hr hev
          go_region_with_o (first
            | (go_at_call 115; refine (unhide HV _).mono ?_; rintro e' w6 ⟨rfl, hb6⟩; have hb5a := hb5.alloc hb5.size (.cells #[.int .u8 0, .string ⟨#[]⟩, .int .i64 0, .int .i64 0] 124); have hb6' : Below w.heap.size w w6 := (hb5a.drew).trans (hb6.mono hb5a.size); have hbx6 : w6.heap[W5.heap.size]? = some (.cells #[.int .u8 0, .string ⟨#[]⟩, .int .i64 0, .int .i64 0] 124) := (hb6.block _ (by show W5.heap.size < (W5.alloc _).heap.size; simp)).trans (World.alloc_heap_new W5 _); have ho6 : OwnT w6 w.heap.size (.slice (some ⟨w3.heap.size, 0, none⟩) 1 1) [(4, t, n, col)] := owns_below (World.ownsRow.drew (World.ownsRow.alloc ho5 _)) hb6; obtain ⟨⟨x60, y60⟩, _⟩ := four_cell hbx6; obtain ⟨⟨x61, y61⟩, ⟨x62, y62⟩, ⟨x63, y63⟩⟩ := four_step hbx6 (.int .u8 tv1) (.string ⟨tv2.toArray⟩) (.int .i64 tv3))
            | (go_at_call 115; refine (unhide HV _).mono ?_; rintro e' w6 ⟨rfl, hb6⟩; have hb6' : Below w.heap.size w w6 := (hb5.drew).trans (hb6.mono hb5.size)))
          all_goals
            go_wp2
            go_ret2
            first
              | exact ⟨_, rfl, World.ownsRow_nil _ _ _ _, hb6'.alloc hb6'.size _⟩
              | exact ⟨_, rfl, World.ownsRow_nil _ _ _ _, below_four hb6' hb5.size _ _ _ _⟩
theorem refLine_any : ∀ (f : Nat) (s : ByteArray) (n col : Int) (w : World), s.size < f → s.size ≤ 100000 → 0 ≤ col → col + s.size ≤ 1000000000 →
    Calls Tryz.prog 71 #[.agg #[.int .i64 n, .int .i64 col, .string s]] w fun e w' => ∃ v, e = .returned (.tuple #[v, .int .i64 (P19.line f n col s.data.toList).2]) ∧ OwnT w' w.heap.size v (P19.line f n col s.data.toList).1 ∧ Below w.heap.size w w'
  | 0, s, n, col, w, h, _, _, _ => absurd h (Nat.not_lt_zero _)
  | f + 1, s, n, col, w, h1, h2, h3, h4 => refLine_step f (refLine_any f) s n col w h1 h2 h3 h4
end Go.Proofs.YtnjokdbblmlhhaaGreatDoor
