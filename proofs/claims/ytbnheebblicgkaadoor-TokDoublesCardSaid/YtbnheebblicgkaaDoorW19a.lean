/- walks of tok.sign, part.tok, part.behind, part.none -/
import Derived.Test.YtbnheebblicgkaaDoorWR19a
import Derived.Test.YtbnheebblicgkaaDoorShelf
import Derived.Test.YtbnheebblicgkaaDoorW17g
namespace Go.Proofs.YtbnheebblicgkaaDoor
set_option linter.unusedVariables false
set_option linter.unusedSimpArgs false
open Go.RowKit Go.Shelf
theorem extract_drop' (s : ByteArray) (k : Nat) : (s.extract k s.size).data.toList = s.data.toList.drop k := by
  rw [Lib.extract_data, List.take_of_length_le (by rw [List.length_drop, ← Lib.size_eq]; exact Nat.le_refl _)]
theorem alloc2_new (w : World) (o1 o2 : Obj) : ((w.alloc o1).alloc o2).heap[w.heap.size + 1]? = some o2 := by
  have h := World.alloc_heap_new (w.alloc o1) o2
  rw [World.size_alloc] at h
  exact h
theorem hasPrefix_nil (c : UInt8) : Lib.hasPrefix [] [c] = false := rfl
theorem hasPrefix_one (a c : UInt8) (r : List UInt8) : Lib.hasPrefix (a :: r) [c] = (a == c) := by
  show (List.isPrefixOf [c] (a :: r)) = _
  simp only [List.isPrefixOf, Bool.and_true]
  by_cases h : a = c
  · subst h; simp
  · rw [beq_eq_false_iff_ne.2 h, beq_eq_false_iff_ne.2 (fun e => h e.symm)]
theorem trimPrefix_yes (c : UInt8) (r : List UInt8) : Lib.trimPrefix (c :: r) [c] = r := by
  unfold Lib.trimPrefix
  rw [hasPrefix_one]
  simp
theorem trimPrefix_no {l : List UInt8} {c : UInt8} (h : Lib.hasPrefix l [c] = false) : Lib.trimPrefix l [c] = l := by
  unfold Lib.trimPrefix
  rw [h]
  simp
set_option maxRecDepth 100000 in
set_option maxHeartbeats 800000 in
theorem tokpart_any (n col : Int) (s t : ByteArray) (k : Nat) (w : World) :
    Calls Tryd.prog 92 #[.agg #[.int .i64 n, .int .i64 col, .string s], .int .u8 k, .string t] w fun e w' => e = .returned (.agg #[.int .u8 k, .string t, .int .i64 n, .int .i64 col]) ∧ Below w.heap.size w w' := by
  go_enter Tryd.func92, Tryd.ntmps92
  go_wp2
  have h0 := World.alloc_heap_new (w.alloc (.cells #[.int .i64 n, .int .i64 col, .string s] 112)) (.cells #[.int .u8 k, .string t, .int .i64 n, .int .i64 col] 54)
  rw [World.size_alloc] at h0
  refine bodyPost_ret (results_cell_row rfl _ _ _ _ _ _ _ rfl h0 Tryd.underlying54 rfl (by kernel_rfl)) rfl ⟨rfl, ?_⟩
  exact ((Below.refl _ w).alloc (Nat.le_refl _) _).alloc (by simp) _
set_option maxRecDepth 100000 in
set_option maxHeartbeats 800000 in
theorem sign_any (s : ByteArray) (c : UInt8) (w : World) (h : s.size ≤ 1000000) :
    Calls Tryd.prog 91 #[.string s, .string ⟨#[c]⟩] w fun e w' => e = .returned (.bool (P19.signB c s.data.toList)) ∧ w' = w := by
  have hcp := Tryd.strings_CutPrefix s ⟨#[c]⟩ w
  have hx : (⟨#[c]⟩ : ByteArray).data.toList = [c] := rfl
  rw [hx] at hcp
  clear hx
  cases hp : Lib.hasPrefix s.data.toList [c] with
  | false =>
    have hs : P19.signB c s.data.toList = false := by
      cases hl : s.data.toList with
      | nil => rfl
      | cons a r =>
        rw [hl, hasPrefix_one] at hp
        simp [P19.signB, hp]
    rw [hs]
    rw [hp, trimPrefix_no hp] at hcp
    have HCP := hide hcp
    clear hcp hs hp
    go_enter Tryd.func91, Tryd.ntmps91
    go_wp2_with (go_at_call 105; refine (unhide HCP).mono ?_; rintro e w' ⟨rfl, hw⟩; rw [hw]; clear hw)
    go_ret
    exact ⟨rfl, rfl⟩
  | true =>
    obtain ⟨r, hl⟩ : ∃ r, s.data.toList = c :: r := by
      cases hl : s.data.toList with
      | nil => rw [hl] at hp; cases hp
      | cons a r =>
        rw [hl, hasPrefix_one] at hp
        exact ⟨r, by rw [show a = c from by simpa using hp]⟩
    rw [hp, hl, trimPrefix_yes] at hcp
    rw [hl]
    cases r with
    | nil =>
      rw [show P19.signB c [c] = true from by simp [P19.signB]]
      have HCP := hide hcp
      clear hcp hp hl
      go_enter Tryd.func91, Tryd.ntmps91
      go_wp2_with (go_at_call 105; refine (unhide HCP).mono ?_; rintro e w' ⟨rfl, hw⟩; rw [hw]; clear hw)
      go_ret
      exact ⟨rfl, rfl⟩
    | cons b r =>
      rw [show P19.signB c (c :: b :: r) = (b == 32) from by simp [P19.signB]]
      have hhp := Tryd.strings_HasPrefix ⟨(b :: r).toArray⟩ ⟨#[32]⟩ w
      have hx : Lib.hasPrefix (⟨(b :: r).toArray⟩ : ByteArray).data.toList (⟨#[32]⟩ : ByteArray).data.toList = (b == 32) := hasPrefix_one b 32 r
      rw [hx] at hhp
      have HHP := hide hhp
      have hne : (⟨(b :: r).toArray⟩ : ByteArray).toList.isEmpty = false := by rw [Lib.toList_data]; rfl
      obtain ⟨lb, hlb⟩ : ∃ lb : ByteArray, (⟨(b :: r).toArray⟩ : ByteArray) = lb := ⟨_, rfl⟩
      rw [hlb] at hcp HHP hne
      have HCP := hide hcp
      clear hcp hp hl hhp hx hlb
      go_enter Tryd.func91, Tryd.ntmps91
      go_wp2_with (first
        | (go_at_call 105; refine (unhide HCP).mono ?_; rintro e w' ⟨rfl, hw⟩; rw [hw]; clear hw)
        | (go_at_call 61; refine (unhide HHP).mono ?_; rintro e w' ⟨rfl, hw⟩; rw [hw]; clear hw))
      go_ret
      exact ⟨rfl, rfl⟩
theorem trimL_skip (s : ByteArray) (k : Nat) : trimL (s.data.toList.drop k) = s.data.toList.drop (k + P19.skip (s.data.toList.drop k)) := by
  rw [← P19.skip_drop, List.drop_drop]
set_option maxRecDepth 100000 in
set_option maxHeartbeats 800000 in
/-- what is left of a part behind k bytes, and blanks -/
theorem behind_part (n col : Int) (s : ByteArray) (k : Nat) (w : World) (hs : s.size ≤ 1000000) (hk : k ≤ s.size) (hc0 : 0 ≤ col) (hc1 : col ≤ 1000000000) :
    Calls Tryd.prog 93 #[.agg #[.int .i64 n, .int .i64 col, .string s], .int .i64 k] w fun e w' => ∃ b : ByteArray, e = .returned (.agg #[.int .i64 n, .int .i64 (col + (k + P19.skip (s.data.toList.drop k) : Nat)), .string b]) ∧ b.data.toList = s.data.toList.drop (k + P19.skip (s.data.toList.drop k)) ∧ Below w.heap.size w w' := by
  obtain ⟨q, hq⟩ : ∃ q, P19.skip (s.data.toList.drop k) = q := ⟨_, rfl⟩
  have hql : k + q ≤ s.size := by
    have h1 := P19.skip_le (s.data.toList.drop k)
    rw [hq, List.length_drop, ← Lib.size_eq] at h1
    omega
  have htr := TrimLB_any (s.extract k s.size)
  rw [extract_drop', trimL_skip, hq] at htr
  rw [hq]
  have HTR := hide htr
  have hk' : (k : Int) ≤ (s.size : Int) := by omega
  clear htr hq
  go_enter Tryd.func93, Tryd.ntmps93
  go_wp2_with (go_at_call 30; refine (unhide HTR _).mono ?_; rintro e w1 ⟨o, rfl, HO, hw⟩; rw [hw]; clear hw; have hos : o.size = s.size - (k + q) := (by rw [Lib.size_eq, unhide HO, List.length_drop, ← Lib.size_eq]); have hz : IntKind.i64.wrap (IntKind.i64.wrap (col + (s.size : Int)) - (o.size : Int)) = col + ((k + q : Nat) : Int) := (by rw [IntWalk.i64_in (col + (s.size : Int)) (by omega), IntWalk.i64_in _ (by omega)]; omega))
  have hzz : col + (s.size : Int) - ((s.size - (k + q) : Nat) : Int) = col + ((k + q : Nat) : Int) := by omega
  have h0 := World.alloc_heap_new (w.alloc (.cells #[.int .i64 n, .int .i64 col, .string s] 112)) (.cells #[.int .i64 n, .int .i64 (col + (s.size : Int) - ((s.size - (k + q) : Nat) : Int)), .string o] 112)
  rw [World.size_alloc] at h0
  refine bodyPost_ret (results_cell_row rfl _ _ _ _ _ _ _ rfl h0 Tryd.underlying112 rfl (by kernel_rfl)) rfl ⟨o, ?_, unhide HO, ?_⟩
  · rw [hzz]
  · exact ((Below.refl _ w).alloc (Nat.le_refl _) _).alloc (by simp) _
set_option maxRecDepth 100000 in
set_option maxHeartbeats 1600000 in
theorem none_yes (n col : Int) (s : ByteArray) (k : Nat) (w : World) (h : s = ⟨#[91, 93]⟩ ∧ k = 6 ∨ s = ⟨#[123, 125]⟩ ∧ k = 7) :
    Calls Tryd.prog 94 #[.agg #[.int .i64 n, .int .i64 col, .string s]] w fun e w' => e = .returned (.tuple #[.agg #[.int .u8 k, .string ⟨#[]⟩, .int .i64 n, .int .i64 col], .bool true]) ∧ Below w.heap.size w w' := by
  rcases h with ⟨rfl, rfl⟩ | ⟨rfl, rfl⟩
  all_goals
    go_enter Tryd.func94, Tryd.ntmps94
    go_wp2_with (go_at_call 92; refine (tokpart_any _ _ _ _ _ _).mono ?_; rintro e w' ⟨rfl, hb⟩; have hbx : w'.heap[w.heap.size + 1]? = some (.cells #[.int .u8 0, .string ⟨#[]⟩, .int .i64 0, .int .i64 0] 54) := (hb.block _ (by simp)).trans (alloc2_new _ _ _); have hbw : Below w.heap.size w w' := (((Below.refl _ w).alloc (Nat.le_refl _) _).alloc (by simp) _).trans (hb.mono (by simp; omega)); obtain ⟨⟨x0, y0⟩, ⟨x1, y1⟩, ⟨x2, y2⟩, ⟨x3, y3⟩⟩ := four_cell hbx)
    refine bodyPost_ret (results_cell_tmp rfl _ _ _ _ _ rfl (run_loadVar_row _ _ _ _ _ _ _ (four_set hbx _ _ _ _) Tryd.underlying54 rfl (by kernel_rfl))) rfl ⟨rfl, ?_⟩
    exact below_four hbw (by omega) _ _ _ _
set_option maxRecDepth 100000 in
set_option maxHeartbeats 1600000 in
theorem none_no (n col : Int) (s : ByteArray) (w : World) (h1 : s.data.toList ≠ [91, 93]) (h2 : s.data.toList ≠ [123, 125]) :
    Calls Tryd.prog 94 #[.agg #[.int .i64 n, .int .i64 col, .string s]] w fun e w' => e = .returned (.tuple #[.agg #[.int .u8 0, .string ⟨#[]⟩, .int .i64 0, .int .i64 0], .bool false]) ∧ Below w.heap.size w w' := by
  have n1 := ne_list h1
  have n2 := ne_list h2
  have n3 := str_ne h1
  have n4 := str_ne h2
  clear h1 h2
  go_enter Tryd.func94, Tryd.ntmps94
  go_wp2
  refine bodyPost_ret (results_cell_tmp rfl _ _ _ _ _ rfl (run_loadVar_row _ _ _ _ _ _ _ (alloc2_new w (.cells #[.int .i64 n, .int .i64 col, .string s] 112) (.cells #[.int .u8 0, .string ⟨#[]⟩, .int .i64 0, .int .i64 0] 54)) Tryd.underlying54 rfl (by kernel_rfl))) rfl ⟨rfl, ?_⟩
  exact ((Below.refl _ w).alloc (Nat.le_refl _) _).alloc (by simp) _
end Go.Proofs.YtbnheebblicgkaaDoor
