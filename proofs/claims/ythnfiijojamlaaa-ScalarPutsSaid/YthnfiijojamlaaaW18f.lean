/- walks of scalar.Number, rescriptref18.Number, scalar.Digits -/
import Derived.Test.YthnfiijojamlaaaRows
import Derived.Test.YthnfiijojamlaaaBytes
import Derived.Test.YthnfiijojamlaaaPlain18d
namespace Go.Proofs.Ythnfiijojamlaaa
set_option linter.unusedVariables false
set_option linter.unusedSimpArgs false
open Go.RowKit
theorem below_bytesWorld (w : World) (e : TypeId) (s : ByteArray) : Below w.heap.size w (Lib.bytesWorld w e s) :=
  ⟨by simp [Lib.bytesWorld, World.freeze, World.alloc, World.drew, -World.alloc_eq, -World.drew_eq], by simp [Lib.bytesWorld, World.freeze, World.alloc, World.drew, -World.alloc_eq, -World.drew_eq], by simp [Lib.bytesWorld, World.freeze, World.alloc, World.drew, -World.alloc_eq, -World.drew_eq], by rw [Lib.bytesWorld_size]; omega, fun k hk => Lib.bytesWorld_at_old w e s k hk⟩
/-- '[]byte(s)' read cell by cell: what the walk is told of it -/
theorem bytes_made (w : World) (e : TypeId) (s : ByteArray) : ∃ W, Lib.bytesWorld w e s = W ∧ Below w.heap.size w W ∧ ∀ j (h : j < s.size), W.cell? ⟨w.heap.size, j, none⟩ = some (.int .u8 (s[j].toNat : Int)) :=
  ⟨_, rfl, below_bytesWorld w e s, fun j h => by
    rw [Lib.bytesWorld_cell w e s j h, List.getD_eq_getElem?_getD, Lib.data_getElem? s j h]; rfl⟩
set_option maxRecDepth 100000 in
set_option maxHeartbeats 800000 in
theorem Number_any (s : ByteArray) (w : World) (h : s.size ≤ 100000) :
    Calls Try.prog 20 #[.string s] w fun e w' => e = .returned (.tuple #[.int .i64 (P18.number s.data.toList).1, .int .i64 (P18.number s.data.toList).2]) ∧ Below w.heap.size w w' := by
  have hsz := Lib.size_eq s
  by_cases hb : s.size = 0 ∨ 9 < s.size ∨ (1 < s.size ∧ (s.data.toList.getD 0 0).toNat = 48)
  · have hfin : P18.number s.data.toList = (0, 3) := by rw [P18.number, if_pos (by rw [← hsz]; exact hb)]
    rw [hfin]
    clear hfin
    by_cases h0 : s.size = 0
    · have hne : s.toList.isEmpty = true := by
        rw [Lib.toList_data]
        have : s.data.toList = [] := List.eq_nil_of_length_eq_zero (by omega)
        rw [this]; rfl
      clear hb hsz
      go_enter Try.func20, Try.ntmps20
      go_wp2
      go_ret2
      exact ⟨rfl, Below.refl _ _⟩
    · have hne : s.toList.isEmpty = false := ne_of_size (by omega)
      have g0 : s.data.toList.getD 0 0 = s[0]'(by omega) := by rw [List.getD_eq_getElem?_getD, Lib.data_getElem? s 0 (by omega)]; rfl
      rw [g0] at hb
      have hp : 0 < s.size := by omega
      by_cases h9 : 9 < s.size
      · clear hb hsz g0
        go_enter Try.func20, Try.ntmps20
        go_wp2
        go_ret2
        exact ⟨rfl, Below.refl _ _⟩
      · have h1 : 1 < s.size := by omega
        have h48 : ((s[0].toNat : Int) == 48) = true := by simp; omega
        clear hb hsz g0
        go_enter Try.func20, Try.ntmps20
        go_wp2
        go_ret2
        exact ⟨rfl, Below.refl _ _⟩
  · have hfin : P18.number s.data.toList = P18.numLoop 0 s.data.toList := by rw [P18.number, if_neg (by rw [← hsz]; exact hb)]
    rw [hfin]
    clear hfin
    obtain ⟨W, hW, hbW, hcell⟩ := bytes_made w 5 s
    have hcv := Lib.run_convert_string_bytes (P := Try.prog) w 9 34 5 s Try.underlying9 Try.underlying34 Try.underlying5
    rw [hW] at hcv
    have HC := hide hcell
    clear hcell hW
    have h1 : 0 < s.size := by omega
    have h9 : s.size ≤ 9 := by omega
    have hne : s.toList.isEmpty = false := ne_of_size (by omega)
    have g0 : s.data.toList.getD 0 0 = s[0] := by rw [List.getD_eq_getElem?_getD, Lib.data_getElem? s 0 (by omega)]; rfl
    rw [g0] at hb
    have h9i : (s.size : Int) ≤ 9 := by omega
    have HB := hide hb
    clear hb hsz g0
    by_cases h1s : 1 < s.size
    · have h48 : ((s[0].toNat : Int) == 48) = false := by have := unhide HB; simp; omega
      go_enter Try.func20, Try.ntmps20
      go_wp2_with fail
      go_loopg [4, 27] s.size (fun g s4 s27 wx => ∃ k n : Nat, k + g = s.size ∧ s27 = .int .i64 (k : Int) ∧ s4 = .int .i64 (n : Int) ∧ Hid (P18.numLoop 0 s.data.toList = P18.numLoop n (s.data.toList.drop k)) ∧ n < 10 ^ k ∧ wx = W)
      case atStart => exact ⟨0, 0, by omega, rfl, rfl, rfl, by omega, rfl⟩
      case round =>
        obtain ⟨k, n, hkg, rfl, rfl, HP, hn, rfl⟩ := hrel
        cases gk with
        | zero =>
          obtain rfl : k = s.size := by omega
          have hfin : P18.numLoop 0 s.data.toList = ((n : Int), 0) := by rw [unhide HP, List.drop_of_length_le (by rw [Lib.size_eq]; omega)]; rfl
          have HF := hide hfin
          clear hfin hn
          go_wp2
          go_ret2
          rw [unhide HF]
          exact ⟨rfl, hbW⟩
        | succ g =>
          have hlt : k < s.size := by omega
          have hle : (k : Int) < (s.size : Int) := by omega
          have hn9 : n < 100000000 := Nat.lt_of_lt_of_le hn (P18.pow_le (by omega))
          have hc := unhide HC k hlt
          have hd := P18.numLoop_drop (n := n) (l := s.data.toList) (k := k) (by simpa using hlt)
          have e0 : s.data.toList[k]'(by simpa using hlt) = s[k] := rfl
          rw [e0] at hd
          have HD := hide hd
          have hb8 := s[k].toNat_lt
          have HG := hide hkg
          have HN := hide hn
          clear hd e0 hkg hn
          by_cases hbad : (s[k].toNat : Int) < 48 ∨ 57 < (s[k].toNat : Int)
          · have hfin : P18.numLoop 0 s.data.toList = (0, 3) := by rw [unhide HP, unhide HD, if_pos hbad]
            have HF := hide hfin
            clear hfin
            rcases hbad with hbad | hbad
            all_goals
              go_wp2
              go_ret2
              rw [unhide HF]
              exact ⟨rfl, hbW⟩
          · have h48 : ¬ (s[k].toNat : Int) < 48 := by omega
            have h57 : ¬ 57 < (s[k].toNat : Int) := by omega
            have hr := unhide HD
            rw [if_neg hbad] at hr
            have HR := hide hr
            clear hr hbad
            go_wp2
            go_roundg g
            case measure => omega
            case rel =>
              refine ⟨k + 1, n * 10 + (s[k].toNat - 48), by have := unhide HG; omega, by go_num, by go_num, ?_, ?_, rfl⟩
              · show _ = _
                rw [unhide HP, unhide HR]
              · have := unhide HN
                rw [Nat.pow_succ]; omega
    · go_enter Try.func20, Try.ntmps20
      go_wp2_with fail
      go_loopg [4, 27] s.size (fun g s4 s27 wx => ∃ k n : Nat, k + g = s.size ∧ s27 = .int .i64 (k : Int) ∧ s4 = .int .i64 (n : Int) ∧ Hid (P18.numLoop 0 s.data.toList = P18.numLoop n (s.data.toList.drop k)) ∧ n < 10 ^ k ∧ wx = W)
      case atStart => exact ⟨0, 0, by omega, rfl, rfl, rfl, by omega, rfl⟩
      case round =>
        obtain ⟨k, n, hkg, rfl, rfl, HP, hn, rfl⟩ := hrel
        cases gk with
        | zero =>
          obtain rfl : k = s.size := by omega
          have hfin : P18.numLoop 0 s.data.toList = ((n : Int), 0) := by rw [unhide HP, List.drop_of_length_le (by rw [Lib.size_eq]; omega)]; rfl
          have HF := hide hfin
          clear hfin hn
          go_wp2
          go_ret2
          rw [unhide HF]
          exact ⟨rfl, hbW⟩
        | succ g =>
          have hlt : k < s.size := by omega
          have hle : (k : Int) < (s.size : Int) := by omega
          have hn9 : n < 100000000 := Nat.lt_of_lt_of_le hn (P18.pow_le (by omega))
          have hc := unhide HC k hlt
          have hd := P18.numLoop_drop (n := n) (l := s.data.toList) (k := k) (by simpa using hlt)
          have e0 : s.data.toList[k]'(by simpa using hlt) = s[k] := rfl
          rw [e0] at hd
          have HD := hide hd
          have hb8 := s[k].toNat_lt
          have HG := hide hkg
          have HN := hide hn
          clear hd e0 hkg hn
          by_cases hbad : (s[k].toNat : Int) < 48 ∨ 57 < (s[k].toNat : Int)
          · have hfin : P18.numLoop 0 s.data.toList = (0, 3) := by rw [unhide HP, unhide HD, if_pos hbad]
            have HF := hide hfin
            clear hfin
            rcases hbad with hbad | hbad
            all_goals
              go_wp2
              go_ret2
              rw [unhide HF]
              exact ⟨rfl, hbW⟩
          · have h48 : ¬ (s[k].toNat : Int) < 48 := by omega
            have h57 : ¬ 57 < (s[k].toNat : Int) := by omega
            have hr := unhide HD
            rw [if_neg hbad] at hr
            have HR := hide hr
            clear hr hbad
            go_wp2
            go_roundg g
            case measure => omega
            case rel =>
              refine ⟨k + 1, n * 10 + (s[k].toNat - 48), by have := unhide HG; omega, by go_num, by go_num, ?_, ?_, rfl⟩
              · show _ = _
                rw [unhide HP, unhide HR]
              · have := unhide HN
                rw [Nat.pow_succ]; omega
end Go.Proofs.Ythnfiijojamlaaa
