/- walks of rescriptref19: tok, skip, value -/
import Derived.Test.YtbnheebblicgkaaDoorOwnT
import Derived.Test.YtbnheebblicgkaaDoorWR18d
import Derived.Test.YtbnheebblicgkaaDoorWR17c
namespace Go.Proofs.YtbnheebblicgkaaDoor
set_option linter.unusedVariables false
set_option linter.unusedSimpArgs false
open Go.RowKit
set_option maxRecDepth 100000 in
set_option maxHeartbeats 800000 in
theorem reftok_any (k : Nat) (t : ByteArray) (n col : Int) (w : World) :
    Calls Tryd.prog 39 #[.int .u8 k, .string t, .int .i64 n, .int .i64 col] w fun e w' => e = .returned (.agg #[.int .u8 k, .string t, .int .i64 n, .int .i64 col]) ∧ Below w.heap.size w w' := by
  go_enter Tryd.func39, Tryd.ntmps39
  go_wp2
  refine bodyPost_ret (results_cell_row rfl _ _ _ _ _ _ _ rfl (World.alloc_heap_new w (.cells #[.int .u8 k, .string t, .int .i64 n, .int .i64 col] 54)) Tryd.underlying54 rfl (by kernel_rfl)) rfl ⟨rfl, ?_⟩
  exact (Below.refl _ w).alloc (Nat.le_refl _) _
theorem skip_at (s : ByteArray) (k : Nat) (h : k < s.size) : P19.skip (s.data.toList.drop k) = if s[k] = 32 then P19.skip (s.data.toList.drop (k + 1)) + 1 else 0 := by
  have hl : k < s.data.toList.length := by rw [← Lib.size_eq]; exact h
  rw [drop_byte s k h]
  unfold P19.skip
  by_cases h32 : s[k] = 32
  · rw [if_pos h32, h32, List.takeWhile_cons_of_pos (by rfl), List.length_cons]
  · rw [if_neg h32, List.takeWhile_cons_of_neg (by simpa using h32)]
    rfl
set_option maxRecDepth 100000 in
set_option maxHeartbeats 800000 in
theorem refskip_any (s : ByteArray) (w : World) (h : s.size ≤ 4000000) :
    Calls Tryd.prog 41 #[.string s] w fun e w' => e = .returned (.int .i64 (P19.skip s.data.toList)) ∧ w' = w := by
  go_enter Tryd.func41, Tryd.ntmps41
  go_wp2
  go_loopg [3] s.size (fun g s3 wx => ∃ k : Nat, k + g = s.size ∧ s3 = .int .i64 k ∧ Hid (P19.skip s.data.toList = k + P19.skip (s.data.toList.drop k)) ∧ w = wx)
  case atStart => exact ⟨0, by omega, by go_num, hide (by rw [List.drop_zero, Nat.zero_add]), rfl⟩
  case round =>
    obtain ⟨k, hkg, rfl, HP, rfl⟩ := hrel
    cases gk with
    | zero =>
      have e1 : (s.size : Int) = (k : Int) := by omega
      have hn : s.data.toList.drop k = [] := List.drop_eq_nil_of_le (by rw [← Lib.size_eq]; omega)
      rw [hn] at HP
      clear hn
      go_wp2
      go_ret
      exact ⟨ret_int (by rw [unhide HP]; rfl), rfl⟩
    | succ g' =>
      have hk : k < s.size := by omega
      have hk2 : (k : Int) < (s.size : Int) := by omega
      have hkw : IntKind.i64.wrap ((k : Int) + 1) = (k : Int) + 1 := IntWalk.i64_in _ (by omega)
      rw [skip_at s k hk] at HP
      by_cases c32 : s[k] = 32
      · have j32 : ((s[k].toNat : Int) == 32) = true := by rw [i32, c32]; rfl
        rw [if_pos c32] at HP
        clear c32
        go_wp2
        go_roundg g'
        case measure => omega
        case rel => exact ⟨k + 1, by omega, by go_num, hide (by rw [unhide HP]; omega), rfl⟩
      · have j32 : ((s[k].toNat : Int) == 32) = false := by rw [i32]; simpa using c32
        rw [if_neg c32] at HP
        clear c32
        go_wp2
        go_ret
        exact ⟨ret_int (by rw [unhide HP]; rfl), rfl⟩
theorem str_eq_iff (s : ByteArray) (l : List UInt8) : (s.toList == l) = decide (s.data.toList = l) := by
  rw [Lib.toList_data]
  by_cases h : s.data.toList = l
  · rw [h]; simp
  · rw [decide_eq_false h]; simpa using h
theorem str_of {s : ByteArray} {l : List UInt8} (h : s.data.toList = l) : s = ⟨l.toArray⟩ := P18.bytes_ext h
theorem str_ne {s : ByteArray} {l : List UInt8} (h : s.data.toList ≠ l) : (s.toList == l) = false := by rw [str_eq_iff, decide_eq_false h]
theorem ne_list {s : ByteArray} {l : List UInt8} (h : s.data.toList ≠ l) : (s.toList == (⟨l.toArray⟩ : ByteArray).toList) = false := by
  rw [Lib.toList_data, Lib.toList_data, beq_eq_false_iff_ne]
  simpa using h
theorem results_cell_tmp {fn : Func} {p u : Tmp} {ty : TypeId} (h : fn.results = #[.cell p ty, .tmp u]) (tmps : Array Value) (P : Program) (w : World) (g : Nat) (v : Value)
    (hp : tmps.getD p undef = .pointer (some ⟨g, 0, none⟩)) (hl : (loadVar ty ⟨g, 0, none⟩).run P w = .ok v w) :
    (results fn tmps).run P w = .ok (.tuple #[v, tmps.getD u undef]) w := by
  have hp' : tmps[p]?.getD undef = .pointer (some ⟨g, 0, none⟩) := by simpa using hp
  simp [results, h, hp', asAddr, Sem.run_bind, Result.andThen, hl]
theorem below_four {w W : World} {g : Nat} (h : Below w.heap.size w W) (hg : w.heap.size ≤ g) (v0 v1 v2 v3 : Value) : Below w.heap.size w ((((W.setCell ⟨g, 0, none⟩ v0).setCell ⟨g, 1, none⟩ v1).setCell ⟨g, 2, none⟩ v2).setCell ⟨g, 3, none⟩ v3) :=
  below_set (below_set (below_set (below_set h 0 _ hg) 1 _ hg) 2 _ hg) 3 _ hg
set_option maxRecDepth 100000 in
set_option maxHeartbeats 1600000 in
theorem refvalue_none (s : ByteArray) (k : Nat) (n col : Int) (w : World) (h : s = ⟨#[91, 93]⟩ ∧ k = 6 ∨ s = ⟨#[123, 125]⟩ ∧ k = 7) :
    Calls Tryd.prog 42 #[.string s, .int .i64 n, .int .i64 col] w fun e w' => e = .returned (.tuple #[.agg #[.int .u8 k, .string ⟨#[]⟩, .int .i64 n, .int .i64 col], .int .i64 0]) ∧ Below w.heap.size w w' := by
  rcases h with ⟨rfl, rfl⟩ | ⟨rfl, rfl⟩
  all_goals
    go_enter Tryd.func42, Tryd.ntmps42
    go_wp2_with (go_at_call 39; refine (reftok_any _ _ _ _ _).mono ?_; rintro e w' ⟨rfl, hb⟩; have hbx : w'.heap[w.heap.size]? = some (.cells #[.int .u8 0, .string ⟨#[]⟩, .int .i64 0, .int .i64 0] 54) := (hb.block _ (by simp)).trans (World.alloc_heap_new w _); have hbw : Below w.heap.size w w' := ((Below.refl _ w).alloc (Nat.le_refl _) _).trans (hb.mono (by simp)); obtain ⟨⟨x0, y0⟩, ⟨x1, y1⟩, ⟨x2, y2⟩, ⟨x3, y3⟩⟩ := four_cell hbx)
    refine bodyPost_ret (results_cell_tmp rfl _ _ _ _ _ rfl (run_loadVar_row _ _ _ _ _ _ _ (four_set hbx _ _ _ _) Tryd.underlying54 rfl (by kernel_rfl))) rfl ⟨rfl, ?_⟩
    exact below_four hbw (Nat.le_refl _) _ _ _ _
set_option maxRecDepth 100000 in
set_option maxHeartbeats 1600000 in
theorem refvalue_any (s : ByteArray) (n col : Int) (w : World) (h : s.size ≤ 100000) :
    Calls Tryd.prog 42 #[.string s, .int .i64 n, .int .i64 col] w fun e w' => e = .returned (.tuple #[tkV (P19.value n col s.data.toList).1, .int .i64 (P19.value n col s.data.toList).2]) ∧ Below w.heap.size w w' := by
  by_cases h1 : s.data.toList = [91, 93]
  · have e1 : P19.value n col s.data.toList = ((6, [], n, col), 0) := by rw [P19.value, if_pos h1]
    rw [e1]
    exact refvalue_none s 6 n col w (.inl ⟨str_of h1, rfl⟩)
  by_cases h2 : s.data.toList = [123, 125]
  · have e1 : P19.value n col s.data.toList = ((7, [], n, col), 0) := by rw [P19.value, if_neg h1, if_pos h2]
    rw [e1]
    exact refvalue_none s 7 n col w (.inr ⟨str_of h2, rfl⟩)
  have n1 := ne_list h1
  have n2 := ne_list h2
  have n3 := str_ne h1
  have n4 := str_ne h2
  have hcut := refCut_any s
  have hsz := Lib.size_eq s
  have hv : P19.value n col s.data.toList = if (P18.cut s.data.toList).2 ≠ 0 ∨ (P18.cut s.data.toList).1 ≠ s.size then ((0, [], 0, 0), 3) else ((5, (P18.read s.data.toList).1, n, col), (P18.read s.data.toList).2) := by
    rw [P19.value, if_neg h1, if_neg h2, hsz]
  clear h1 h2
  obtain ⟨⟨k, c⟩, hkc⟩ : ∃ x, P18.cut s.data.toList = x := ⟨_, rfl⟩
  obtain ⟨⟨t, e⟩, hte⟩ : ∃ x, P18.read s.data.toList = x := ⟨_, rfl⟩
  have hrd := refRead_any s
  rw [hkc] at hv
  simp only [hkc] at hcut
  rw [hte] at hv
  simp only [hte] at hrd
  have HCUT := hide hcut
  have HRD := hide hrd
  clear hcut hrd hkc hte hsz
  by_cases hbad : c ≠ 0 ∨ k ≠ s.size
  · rw [if_pos hbad] at hv
    rw [hv]
    clear hv
    unfold tkV bsOf
    have hj : c ≠ 0 ∨ (c = 0 ∧ k ≠ s.size) := by omega
    clear hbad
    rcases hj with hc | ⟨hc, hk⟩
    · have jc : ((c : Int) != 0) = true := by simp; omega
      go_enter Tryd.func42, Tryd.ntmps42
      go_wp2_with (go_at_call 43; refine (unhide HCUT _ (by omega)).mono ?_; rintro e w' ⟨rfl, rfl⟩)
      refine bodyPost_ret (results_cell_tmp rfl _ _ _ _ _ rfl (run_loadVar_row _ _ _ _ _ _ _ (World.alloc_heap_new w (.cells #[.int .u8 0, .string ⟨#[]⟩, .int .i64 0, .int .i64 0] 54)) Tryd.underlying54 rfl (by kernel_rfl))) rfl ⟨rfl, ?_⟩
      exact (Below.refl _ w).alloc (Nat.le_refl _) _
    · have jk : ((k : Int) != (s.size : Int)) = true := by simp; omega
      have jc : ((c : Int) != 0) = false := by simp; omega
      clear hk hc
      go_enter Tryd.func42, Tryd.ntmps42
      go_wp2_with (go_at_call 43; refine (unhide HCUT _ (by omega)).mono ?_; rintro e w' ⟨rfl, rfl⟩)
      refine bodyPost_ret (results_cell_tmp rfl _ _ _ _ _ rfl (run_loadVar_row _ _ _ _ _ _ _ (World.alloc_heap_new w (.cells #[.int .u8 0, .string ⟨#[]⟩, .int .i64 0, .int .i64 0] 54)) Tryd.underlying54 rfl (by kernel_rfl))) rfl ⟨rfl, ?_⟩
      exact (Below.refl _ w).alloc (Nat.le_refl _) _
  · rw [if_neg hbad] at hv
    rw [hv]
    clear hv
    have jc : ((c : Int) != 0) = false := by simp; omega
    have jk : ((k : Int) != (s.size : Int)) = false := by simp; omega
    clear hbad
    unfold tkV
    go_enter Tryd.func42, Tryd.ntmps42
    go_wp2_with (first
      | (go_at_call 43; refine (unhide HCUT _ (by omega)).mono ?_; rintro e w' ⟨rfl, rfl⟩)
      | (go_at_call 44; refine (unhide HRD _ (by omega)).mono ?_; rintro e' w1 ⟨b, rfl, hb, hbl⟩; have hbb : b = ⟨t.toArray⟩ := str_of hb; subst hbb; have hbx : w1.heap[w.heap.size]? = some (.cells #[.int .u8 0, .string ⟨#[]⟩, .int .i64 0, .int .i64 0] 54) := (hbl.block _ (by simp)).trans (World.alloc_heap_new w _); have hbw : Below w.heap.size w w1 := ((Below.refl _ w).alloc (Nat.le_refl _) _).trans (hbl.mono (by simp)); clear hbl hb)
      | (go_at_call 39; refine (reftok_any _ _ _ _ _).mono ?_; rintro e' w2 ⟨rfl, hb2⟩; have hbx2 : w2.heap[w.heap.size]? = some (.cells #[.int .u8 0, .string ⟨#[]⟩, .int .i64 0, .int .i64 0] 54) := (hb2.block _ (Array.getElem?_eq_some_iff.1 hbx).1).trans hbx; have hbw2 : Below w.heap.size w w2 := hbw.trans (hb2.mono hbw.size); obtain ⟨⟨x0, y0⟩, ⟨x1, y1⟩, ⟨x2, y2⟩, ⟨x3, y3⟩⟩ := four_cell hbx2))
    refine bodyPost_ret (results_cell_tmp rfl _ _ _ _ _ rfl (run_loadVar_row _ _ _ _ _ _ _ (four_set hbx2 _ _ _ _) Tryd.underlying54 rfl (by kernel_rfl))) rfl ⟨rfl, ?_⟩
    exact below_four hbw2 (Nat.le_refl _) _ _ _ _
end Go.Proofs.YtbnheebblicgkaaDoor
