/- walks of layer 17: line.odd.; walks of layer 17: line.Strip.; walks of layer 17: line.check.; walks of layer 17: line.All.; walks of strings.Builder's writing methods, strings.Repeat at a blank, and line.Join -/
import Derived.Test.YtnjokdbblmlhhaaGreatDoorGW03
import Derived.Test.YtnjokdbblmlhhaaGreatDoorGP
import Derived.Test.YtnjokdbblmlhhaaGreatDoorShelf
import Derived.Test.YtnjokdbblmlhhaaGreatDoorGW17
import Derived.Test.YtnjokdbblmlhhaaGreatDoorGA
import Derived.Lib.Builder
import Derived.Lib.OthersKept
namespace Go.Proofs.YtnjokdbblmlhhaaGreatDoor
set_option linter.unusedVariables false
set_option linter.unusedSimpArgs false
open Go.RowKit
theorem odd1_any (r : Nat) (w : World) :
    Calls Tryz.prog 154 #[.int .i32 r] w fun e w' => e = .returned (.bool (oddN r)) ∧ w' = w := by
  by_cases h1 : r < 32
  · have h2 : (r : Int) < 32 := by omega
    have h3 : oddN r = true := by simp [oddN, h1]
    rw [h3]
    clear h1 h3
    go_enter Tryz.func154, Tryz.ntmps154
    go_wp2
    go_ret
    exact ⟨rfl, rfl⟩
  · by_cases h2 : r = 127
    · subst h2
      rw [show oddN 127 = true from rfl]
      go_enter Tryz.func154, Tryz.ntmps154
      go_wp2
      go_ret
      exact ⟨rfl, rfl⟩
    · have h3 : oddN r = false := by unfold oddN; simp; omega
      rw [h3]
      have h4 : (32 : Int) ≤ (r : Int) := by omega
      have h5 : ((r : Int) == 127) = false := by simp; omega
      clear h1 h2 h3
      go_enter Tryz.func154, Tryz.ntmps154
      go_wp2
      go_ret
      exact ⟨ret_bool (decide_eq_false (by omega)), rfl⟩
set_option maxRecDepth 100000 in
set_option maxHeartbeats 800000 in
theorem oddIndex_any (s : ByteArray) (w : World) (h : s.size ≤ 1099511627776) :
    Calls Tryz.prog 185 #[.string s, .func (.func 154) #[] #[], .bool true] w fun e w' =>
      ∃ k : Int, e = .returned (.int .i64 k) ∧ (decide (0 ≤ k) = s.data.toList.any oddB) ∧ Below w.heap.size w w' := by
  go_enter Tryz.func185, Tryz.ntmps185
  go_wp2
  go_loopg [] s.size (fun g wx => ∃ (k : Nat), k ≤ s.size ∧ s.size ≤ k + g ∧ Hid (s.data.toList.any oddB = (s.data.toList.drop k).any oddB) ∧ wx = w.iter s k)
  case atStart => exact ⟨0, by omega, by omega, hide rfl, rfl⟩
  case round =>
    obtain ⟨k, hk, hkg, HP, rfl⟩ := hrel
    by_cases hlt : k < s.size
    · have hnx := fun ty => run_next_any (P := Tryz.prog) w s k ty hlt
      obtain ⟨d1, d2, d3⟩ := decode_odd s k hlt
      have hsp : (s.data.toList.drop k).any oddB = (oddN (Utf8.decode s k).1 || (s.data.toList.drop (k + (Utf8.decode s k).2)).any oddB) := by
        rw [← d3, ← List.drop_drop, ← List.any_append, List.take_append_drop]
      have HS := hide hsp
      clear hsp d3
      cases ho : oddN (Utf8.decode s k).1 with
      | true =>
        have HO := hide ho
        clear ho
        go_wp2_with (go_at_call 154; refine (odd1_any _ _).mono ?_; rintro e w' ⟨rfl, rfl⟩; rw [unhide HO])
        go_ret
        refine ⟨_, rfl, ?_, iter_below w s _⟩
        rw [unhide HP, unhide HS, unhide HO]
        simp
      | false =>
        have HO := hide ho
        clear ho
        go_wp2_with (go_at_call 154; refine (odd1_any _ _).mono ?_; rintro e w' ⟨rfl, rfl⟩; rw [unhide HO])
        go_roundg (gk - 1)
        case measure => omega
        case rel =>
          refine ⟨k + (Utf8.decode s k).2, d2, by omega, hide ?_, rfl⟩
          rw [unhide HP, unhide HS, unhide HO, Bool.false_or]
    · have hnx := fun ty => run_next_end (P := Tryz.prog) w s k ty hlt
      go_wp2
      go_ret
      refine ⟨_, rfl, ?_, iter_below w s _⟩
      rw [unhide HP, List.drop_eq_nil_of_le (by rw [← Lib.size_eq]; omega)]
      rfl
set_option maxHeartbeats 400000 in
theorem odd_any (s : ByteArray) (w : World) (h : s.size ≤ 1099511627776) :
    Calls Tryz.prog 130 #[.string s] w fun e w' => e = .returned (.bool (s.data.toList.any oddB)) ∧ Below w.heap.size w w' := by
  obtain ⟨B, hB⟩ : ∃ B, s.data.toList.any oddB = B := ⟨_, rfl⟩
  rw [hB]
  have hI : ∀ w, Calls Tryz.prog 174 #[.string s, .func (.func 154) #[] #[]] w fun e w' =>
      ∃ k : Int, e = .returned (.int .i64 k) ∧ (decide (0 ≤ k) = B) ∧ Below w.heap.size w w' := by
    intro w
    go_enter Tryz.func174, Tryz.ntmps174
    go_wp2_with (go_at_call 185; refine (oddIndex_any s _ h).mono ?_; rintro e w' ⟨k, rfl, hk, hb⟩)
    go_ret
    exact ⟨k, rfl, hk.trans hB, hb⟩
  have hC : ∀ w, Calls Tryz.prog 153 #[.string s, .func (.func 154) #[] #[]] w fun e w' =>
      e = .returned (.bool (B)) ∧ Below w.heap.size w w' := by
    intro w
    go_enter Tryz.func153, Tryz.ntmps153
    go_wp2_with (go_at_call 174; refine (hI _).mono ?_; rintro e w' ⟨k, rfl, hk, hb⟩; have HK := hide hk; clear hk)
    all_goals go_ret
    all_goals exact ⟨ret_bool (unhide HK), hb⟩
  go_enter Tryz.func130, Tryz.ntmps130
  go_wp2_with (go_at_call 153; refine (hC _).mono ?_; rintro e w' ⟨rfl, hb⟩)
  all_goals go_ret
  all_goals exact ⟨rfl, hb⟩
end Go.Proofs.YtnjokdbblmlhhaaGreatDoor
namespace Go.Proofs.YtnjokdbblmlhhaaGreatDoor
set_option linter.unusedVariables false
set_option linter.unusedSimpArgs false
open Go.RowKit
def blAt (l : List UInt8) (k : Nat) : Bool := k == 0 || l[k - 1]? == some 32
theorem i34 (c : UInt8) : ((c.toNat : Int) == 34) = (c == 34) := by revert c; apply all_bytes; decide +kernel
theorem i35 (c : UInt8) : ((c.toNat : Int) == 35) = (c == 35) := by revert c; apply all_bytes; decide +kernel
theorem i92 (c : UInt8) : ((c.toNat : Int) == 92) = (c == 92) := by revert c; apply all_bytes; decide +kernel
theorem i32 (c : UInt8) : ((c.toNat : Int) == 32) = (c == 32) := by revert c; apply all_bytes; decide +kernel
theorem blAt_succ (s : ByteArray) (k : Nat) (h : k < s.size) : blAt s.data.toList (k + 1) = (s[k] == 32) := by
  unfold blAt
  rw [Nat.add_sub_cancel, Lib.data_getElem? s k h]
  have : (k + 1 == 0) = false := by simp
  rw [this, Bool.false_or]
  cases hc : (s[k] == 32)
  · simp at hc ⊢; exact hc
  · simp at hc ⊢; exact hc
theorem remark_step (s : ByteArray) (k : Nat) (w t : Bool) (h : k < s.size) :
    remarkAt (blAt s.data.toList k) w t k (s.data.toList.drop k) =
      if t then remarkAt (blAt s.data.toList (k + 1)) w false (k + 1) (s.data.toList.drop (k + 1))
      else if w && s[k] == 92 then remarkAt (blAt s.data.toList (k + 1)) w true (k + 1) (s.data.toList.drop (k + 1))
      else if s[k] == 34 then remarkAt (blAt s.data.toList (k + 1)) (!w) false (k + 1) (s.data.toList.drop (k + 1))
      else if w || s[k] != 35 then remarkAt (blAt s.data.toList (k + 1)) w false (k + 1) (s.data.toList.drop (k + 1))
      else if blAt s.data.toList k then k
      else remarkAt (blAt s.data.toList (k + 1)) w false (k + 1) (s.data.toList.drop (k + 1)) := by
  have hl : k < s.data.toList.length := by rw [← Lib.size_eq]; exact h
  rw [List.drop_eq_getElem_cons hl, remarkAt, blAt_succ s k h]
  rfl
theorem remark_end (s : ByteArray) (k : Nat) (b w t : Bool) (h : s.size ≤ k) : remarkAt b w t k (s.data.toList.drop k) = k := by
  rw [List.drop_eq_nil_of_le (by rw [← Lib.size_eq]; exact h), remarkAt]
theorem TrimR_any (s : ByteArray) (w : World) (hs : s.size ≤ 1099511627776) :
    Calls Tryz.prog 134 #[.string s, .string ⟨#[32]⟩] w fun e w' => e = .returned (.string ⟨(trimR s.data.toList).toArray⟩) ∧ w' = w :=
  Tryz.strings_TrimRight_one s 32 (by decide) w (by omega)
theorem TrimL_any (s : ByteArray) (w : World) :
    Calls Tryz.prog 101 #[.string s, .string ⟨#[32]⟩] w fun e w' => e = .returned (.string ⟨(trimL s.data.toList).toArray⟩) ∧ w' = w :=
  Tryz.strings_TrimLeft_one s 32 (by decide) w
theorem strip_at {s : ByteArray} {k : Nat} (h : remarkAt true false false 0 s.data.toList = k) : strip17 s.data.toList = trimR (s.extract 0 k).data.toList := by
  rw [strip17, h, Lib.extract_data, List.drop_zero, Nat.sub_zero]
theorem extract_full (s : ByteArray) : s.extract 0 s.size = s := by
  rw [Lib.extract_eq, List.drop_zero, Nat.sub_zero, List.take_of_length_le (by rw [← Lib.size_eq]; exact Nat.le_refl _)]
set_option maxRecDepth 100000 in
set_option maxHeartbeats 1600000 in
theorem Strip_any (s : ByteArray) (w : World) (h : s.size ≤ 1099511627776) :
    Calls Tryz.prog 100 #[.string s] w fun e w' => e = .returned (.string ⟨(strip17 s.data.toList).toArray⟩) ∧ ∃ n, w' = w.drewN n := by
  go_enter Tryz.func100, Tryz.ntmps100
  go_wp2
  go_step3
  go_wp2
  go_step3
  go_wp2
  go_loopg [3, 4, 5, 11] s.size (fun g s3 s4 s5 s11 wx => ∃ (k n : Nat) (wi ta : Bool), k + g = s.size ∧ s3 = .int .i64 s.size ∧ s4 = .bool wi ∧ s5 = .bool ta ∧ s11 = .int .i64 k ∧
    Hid (remarkAt true false false 0 s.data.toList = remarkAt (blAt s.data.toList k) wi ta k (s.data.toList.drop k)) ∧ wx = w.drewN n)
  case atStart => exact ⟨0, 0, false, false, by omega, rfl, rfl, rfl, rfl, hide rfl, rfl⟩
  case round =>
    obtain ⟨k, n, wi, ta, hkg, rfl, rfl, rfl, rfl, HP, hw⟩ := hrel
    have HW := hide hw
    clear hw
    cases gk with
    | zero =>
      have e1 : (s.size : Int) = (k : Int) := by omega
      have hks : s.size ≤ k := by omega
      have HE := hide (remark_end s k (blAt s.data.toList k) wi ta hks)
      have HF := hide (strip_at ((unhide HP).trans (unhide HE)))
      have hkk : k = s.size := by omega
      subst hkk
      clear HE e1 hks
      go_wp2_with (go_at_call 134; refine (TrimR_any _ _ (by first | assumption | (rw [ByteArray.size_extract]; omega))).mono ?_; rintro e w' ⟨rfl, rfl⟩)
      all_goals (try rw [Exit.noGoto_ret])
      all_goals go_ret
      all_goals refine ⟨ret_str ?_, n, unhide HW⟩
      all_goals rw [unhide HF]
      all_goals first | rfl | rw [extract_full]
    | succ g' =>
      have hlt : k < s.size := by omega
      have hlt' : (k : Int) < (s.size : Int) := by omega
      have HS := hide ((unhide HP).trans (remark_step s k wi ta hlt))
      have hki : IntKind.i64.wrap ((k : Int) + 1) = (k : Int) + 1 := IntWalk.i64_in _ (by omega)
      clear HP
      cases ta with
      | true =>
        rw [if_pos rfl] at HS
        go_wp2
        go_roundg g'
        case measure => omega
        case rel => exact ⟨k + 1, n, wi, false, by omega, rfl, rfl, rfl, by go_num, HS, unhide HW⟩
      | false =>
        rw [if_neg (by simp)] at HS
        cases wi with
        | true =>
          by_cases c92 : (s[k] == 92) = true
          · have j92 : ((s[k].toNat : Int) == 92) = true := by rw [i92]; exact c92
            rw [if_pos (by rw [c92]; rfl)] at HS
            clear c92
            go_wp2
            go_roundg g'
            case measure => omega
            case rel => exact ⟨k + 1, n, true, true, by omega, rfl, rfl, rfl, by go_num, HS, unhide HW⟩

          · have c92' : (s[k] == 92) = false := by simpa using c92
            have j92 : ((s[k].toNat : Int) == 92) = false := by rw [i92]; exact c92'
            rw [if_neg (by rw [c92']; simp)] at HS
            clear c92 c92'
            by_cases c34 : (s[k] == 34) = true
            · have j34 : ((s[k].toNat : Int) == 34) = true := by rw [i34]; exact c34
              rw [if_pos c34] at HS
              clear c34
              go_wp2
              go_roundg g'
              case measure => omega
              case rel => exact ⟨k + 1, n, false, false, by omega, rfl, rfl, rfl, by go_num, HS, unhide HW⟩

            · have c34' : (s[k] == 34) = false := by simpa using c34
              have j34 : ((s[k].toNat : Int) == 34) = false := by rw [i34]; exact c34'
              rw [if_neg c34, if_pos (by simp)] at HS
              clear c34 c34'
              go_wp2
              go_roundg g'
              case measure => omega
              case rel => exact ⟨k + 1, n, true, false, by omega, rfl, rfl, rfl, by go_num, HS, unhide HW⟩

        | false =>
          rw [if_neg (by simp)] at HS
          by_cases c34 : (s[k] == 34) = true
          · have j34 : ((s[k].toNat : Int) == 34) = true := by rw [i34]; exact c34
            rw [if_pos c34] at HS
            clear c34
            go_wp2
            go_roundg g'
            case measure => omega
            case rel => exact ⟨k + 1, n, true, false, by omega, rfl, rfl, rfl, by go_num, HS, unhide HW⟩

          · have c34' : (s[k] == 34) = false := by simpa using c34
            have j34 : ((s[k].toNat : Int) == 34) = false := by rw [i34]; exact c34'
            rw [if_neg c34] at HS
            clear c34 c34'
            by_cases c35 : (s[k] == 35) = true
            · have j35 : ((s[k].toNat : Int) != 35) = false := by rw [bne, i35, c35]; rfl
              rw [if_neg (by rw [bne, c35]; simp)] at HS
              clear c35
              cases k with
              | zero =>
                rw [if_pos (show blAt s.data.toList 0 = true from rfl)] at HS
                have HF := hide (strip_at (unhide HS))
                clear HS
                go_wp2
                go_quiet (fail)
                go_wp2_with (go_at_call 134; refine (TrimR_any ByteArray.empty _ (by decide)).mono ?_; rintro e w' ⟨rfl, rfl⟩)
                all_goals (try rw [Exit.noGoto_ret])
                all_goals go_ret
                all_goals refine ⟨ret_str ?_, _, by rw [unhide HW, World.drewN_drewN]⟩
                all_goals rw [unhide HF]
                all_goals first | rfl | (rw [show s.extract 0 0 = ByteArray.empty from by rw [Lib.extract_eq]; rfl]; rfl) | (simp; rfl)
              | succ k' =>
                have hlt2 : k' < s.size := by omega
                have hlt3 : (k' : Int) < (s.size : Int) := by omega
                have hkm : IntKind.i64.wrap (k' : Int) = (k' : Int) := IntWalk.i64_in _ (by omega)
                have hkz : ((k' : Int) + 1 == 0) = false := by simp; omega
                have hbl := blAt_succ s k' hlt2
                rw [hbl] at HS
                by_cases c32 : (s[k'] == 32) = true
                · have j32 : ((s[k'].toNat : Int) == (((⟨#[32]⟩ : ByteArray)[0]'(by decide)).toNat : Int)) = true := by show ((s[k'].toNat : Int) == 32) = true; rw [i32]; exact c32
                  have hex : (s.extract 0 (k' + 1)).size ≤ 1099511627776 := by rw [ByteArray.size_extract]; omega
                  rw [if_pos c32] at HS
                  have HF := hide (strip_at (unhide HS))
                  clear c32 HS hbl
                  go_wp2
                  go_quiet (fail)
                  go_wp2_with (go_at_call 134; refine (TrimR_any (s.extract 0 (k' + 1)) _ hex).mono ?_; rintro e w' ⟨rfl, rfl⟩)
                  all_goals (try rw [Exit.noGoto_ret])
                  all_goals go_ret
                  all_goals refine ⟨ret_str ?_, _, by rw [unhide HW, World.drewN_drewN]⟩
                  all_goals rw [unhide HF]
                  all_goals (rw [Lib.extract_data]; try simp)
                · have c32' : (s[k'] == 32) = false := by simpa using c32
                  have j32 : ((s[k'].toNat : Int) == (((⟨#[32]⟩ : ByteArray)[0]'(by decide)).toNat : Int)) = false := by show ((s[k'].toNat : Int) == 32) = false; rw [i32]; exact c32'
                  rw [if_neg c32] at HS
                  clear c32 c32' hbl
                  go_wp2
                  go_quiet (fail)
                  go_wp2_with fail
                  go_roundg g'
                  case measure => omega
                  case rel => exact ⟨k' + 1 + 1, _, false, false, by omega, rfl, rfl, rfl, by go_num, HS, by rw [unhide HW, World.drewN_drewN]⟩
            · have c35' : (s[k] == 35) = false := by simpa using c35
              have j35 : ((s[k].toNat : Int) != 35) = true := by rw [bne, i35, c35']; rfl
              rw [if_pos (by rw [bne, c35']; rfl)] at HS
              clear c35 c35'
              go_wp2
              go_roundg g'
              case measure => omega
              case rel => exact ⟨k + 1, n, false, false, by omega, rfl, rfl, rfl, by go_num, HS, unhide HW⟩

end Go.Proofs.YtnjokdbblmlhhaaGreatDoor
namespace Go.Proofs.YtnjokdbblmlhhaaGreatDoor
set_option linter.unusedVariables false
set_option linter.unusedSimpArgs false
open Go.RowKit Go.Shelf
attribute [local go_sem] Oper.semAt_some
/-- where an odd byte stands first, by lines -/
def oddLine (s : List UInt8) : Option Nat := (lines17 s).findIdx? (·.any oddB)
/-- what is wrong with a text: 2: ErrLong, 9: ErrUtf, 3: ErrForm; and in which line -/
def check17 (s : List UInt8) : Int × Int :=
  if 1048576 < s.length then (2, 0)
  else if 0 ≤ P03.first s then (9, (Lib.countByte (s.take (P03.first s).toNat) 10 : Int) + 1)
  else match oddLine s with
    | some i => (3, (i : Int) + 1)
    | none => (0, 0)
def faultV (f : Int × Int) : Value := .agg #[.int .i64 f.1, .int .i64 f.2]
theorem firstBad_bd : ∀ (f p : Nat) (l : List UInt8), P03.firstBad f p l ≤ (p : Int) + l.length
  | 0, p, l => by unfold P03.firstBad; omega
  | f + 1, p, l => by
    unfold P03.firstBad
    split
    · omega
    · split
      · omega
      · rename_i h0 h1
        have h2 := P03.one_bd l (by omega)
        have h3 := firstBad_bd f (p + (P03.one l).1.toNat) (l.drop (P03.one l).1.toNat)
        rw [List.length_drop] at h3
        omega
theorem first_bd (l : List UInt8) : P03.first l ≤ l.length := by
  have := firstBad_bd (l.length + 1) 0 l
  unfold P03.first
  omega
theorem two_set0 {W : World} {g : Nat} {t : TypeId} {a b : Value} (h : W.heap[g]? = some (.cells #[a, b] t)) (v : Value) : (W.setCell ⟨g, 0, none⟩ v).heap[g]? = some (.cells #[v, b] t) := by
  obtain ⟨hlt, hk⟩ := Array.getElem?_eq_some_iff.1 h
  show (W.heap.modify g _)[g]? = _
  rw [Array.getElem?_eq_getElem (by rw [Array.size_modify]; exact hlt), Array.getElem_modify_self, hk]
  rfl
theorem two_set1 {W : World} {g : Nat} {t : TypeId} {a b : Value} (h : W.heap[g]? = some (.cells #[a, b] t)) (v : Value) : (W.setCell ⟨g, 1, none⟩ v).heap[g]? = some (.cells #[a, v] t) := by
  obtain ⟨hlt, hk⟩ := Array.getElem?_eq_some_iff.1 h
  show (W.heap.modify g _)[g]? = _
  rw [Array.getElem?_eq_getElem (by rw [Array.size_modify]; exact hlt), Array.getElem_modify_self, hk]
  rfl
theorem two_cell0 {W : World} {g : Nat} {t : TypeId} {a b : Value} (h : W.heap[g]? = some (.cells #[a, b] t)) : W.cell? ⟨g, 0, none⟩ = some a ∧ W.frozen? ⟨g, 0, none⟩ = false := by simp [World.cell?, World.frozen?, h]
theorem two_cell1 {W : World} {g : Nat} {t : TypeId} {a b : Value} (h : W.heap[g]? = some (.cells #[a, b] t)) : W.cell? ⟨g, 1, none⟩ = some b ∧ W.frozen? ⟨g, 1, none⟩ = false := by simp [World.cell?, World.frozen?, h]
theorem setCell_grown (W : World) (g i : Nat) (v : Value) : W.grownBy (W.setCell ⟨g, i, none⟩ v) (some g) :=
  ⟨rfl, rfl, rfl, (KeepsWalks.setCell W _ v).size, fun k _ hk => Below.heap_setCell _ _ _ k (fun e => hk (by rw [e]))⟩
set_option maxRecDepth 100000 in
set_option maxHeartbeats 2000000 in
theorem check_bad (s : ByteArray) (w : World) (hs : s.size ≤ 1048576) (hf : 0 ≤ P03.first s.data.toList) :
    Calls Tryz.prog 98 #[.string s] w fun e w' => e = .returned (faultV (check17 s.data.toList)) ∧ Below w.heap.size w w' := by
  have hlen : s.data.toList.length = s.size := (Lib.size_eq s).symm
  obtain ⟨k, hk⟩ := Int.eq_ofNat_of_zero_le hf
  have hks : k ≤ s.size := by have := first_bd s.data.toList; omega
  have hks' : (k : Int) ≤ (s.size : Int) := by omega
  obtain ⟨c, hc⟩ : ∃ c : Nat, Lib.countByte (s.extract 0 k).data.toList 10 = c := ⟨_, rfl⟩
  have hcl : c ≤ 1048576 := by
    rw [← hc, Lib.countByte]
    refine Nat.le_trans (List.count_le_length) ?_
    rw [← Lib.size_eq, ByteArray.size_extract]
    omega
  have hch : check17 s.data.toList = (9, (c : Int) + 1) := by
    rw [check17, if_neg (by omega), if_pos hf, hk, Int.toNat_natCast, ← hc, Lib.extract_data, List.drop_zero, Nat.sub_zero]
  have hw1 : IntKind.i64.wrap ((c : Int) + 1) = (c : Int) + 1 := IntWalk.i64_in _ (by omega)
  rw [hch]
  have HC := hide hc
  have HK := hide hk
  clear hc hch hf hk
  refine (callsIn_wide (n := 40)).1 ?_
  refine callsIn_of_wp_marks Tryz.func98 rfl trivial ?_ rfl
  simp only [Tryz.ntmps98, List.size_toArray, List.length_cons, List.length_nil, Nat.reduceAdd, Nat.reduceSub, Array.replicate_succ, Array.replicate_zero, List.push_toArray, List.append_toArray, List.nil_append, List.cons_append]
  gi_wp2_with (first
    | (refine ⟨trivial, ?_⟩; gi_at_call 82; refine (callsIn_wide.2 (First_any s _ (by omega))).mono ?_; rintro e w' ⟨rfl, hb⟩; rw [unhide HK]; have hR : w'.heap[w.heap.size]? = some (.cells #[.int .i64 0, .int .i64 0] 29) := (hb.block _ (by simp)).trans (World.alloc_heap_new w _); have hc0 := (two_cell0 hR).1; have hf0 := (two_cell0 hR).2; have hc1 := (two_cell1 hR).1; have hf1 := (two_cell1 hR).2)
    | (refine ⟨trivial, ?_⟩; gi_at_call 129; refine (callsIn_wide.2 (Tryz.strings_Count_one (s.extract 0 k) 10 _)).mono ?_; rintro e w'' ⟨rfl, rfl⟩; rw [unhide HC]))
  refine ⟨_, results_cell_row rfl _ _ _ _ _ _ _ rfl (two_set1 (two_set0 hR _) _) Tryz.underlying29 rfl (by kernel_rfl), rfl, ?_⟩
  have hbw : Below w.heap.size w w'' := ((Below.refl _ w).alloc (Nat.le_refl _) _).trans (hb.mono (by simp))
  exact (hbw.grown (setCell_grown w'' w.heap.size 0 _) hbw.size (fun k e => by cases e; exact Nat.le_refl _)).grown (setCell_grown _ w.heap.size 1 _) (Nat.le_trans hbw.size (setCell_grown w'' w.heap.size 0 _).size) (fun k e => by cases e; exact Nat.le_refl _)
theorem KeepsT.of_below {T : Nat → Prop} {V V' : World} (h : Below V.heap.size V V') : KeepsT T V V' := ⟨h.size, fun r _ hl => h.block r hl⟩
theorem below_set {w V : World} (h : Below w.heap.size w V) (i : Nat) (v : Value) {D : Nat} (hD : w.heap.size ≤ D) : Below w.heap.size w (V.setCell ⟨D, i, none⟩ v) :=
  h.grown (setCell_grown V D i v) h.size (fun k e => by cases e; exact hD)
theorem numbered_inv {s : List UInt8} {i : Nat} {x : Nat × List UInt8} (h : (numbered s)[i]? = some x) : x.1 = i + 1 ∧ (lines17 s)[i]? = some x.2 := by
  unfold numbered at h
  rw [List.getElem?_map, List.getElem?_zipIdx] at h
  unfold lines17
  rw [List.getElem?_map]
  cases hr : (rawL s)[i]? with
  | none => rw [hr] at h; simp at h
  | some l => rw [hr] at h; simp at h; subst h; exact ⟨rfl, rfl⟩
theorem oddLine_some {s : List UInt8} {i : Nat} {l : List UInt8} (h0 : ∀ j l, j < i → (lines17 s)[j]? = some l → l.any oddB = false) (h : (lines17 s)[i]? = some l) (ho : l.any oddB = true) : oddLine s = some i := by
  unfold oddLine
  obtain ⟨hi, hl⟩ := List.getElem?_eq_some_iff.1 h
  rw [List.findIdx?_eq_some_iff_getElem]
  refine ⟨hi, by rw [hl]; exact ho, fun j hj => ?_⟩
  rw [h0 j _ hj (List.getElem?_eq_getElem (Nat.lt_trans hj hi))]
  simp
theorem oddLine_none {s : List UInt8} (h0 : ∀ j l, j < (lines17 s).length → (lines17 s)[j]? = some l → l.any oddB = false) : oddLine s = none := by
  unfold oddLine
  rw [List.findIdx?_eq_none_iff]
  intro l hl
  obtain ⟨j, hj, rfl⟩ := List.mem_iff_getElem.1 hl
  exact h0 j _ hj (List.getElem?_eq_getElem hj)
theorem numbered_lines (s : List UInt8) : (numbered s).length = (lines17 s).length := by rw [numbered_len]; simp [lines17]
theorem lines17_le {s l : List UInt8} (h : l ∈ lines17 s) : l.length ≤ s.length := by
  unfold lines17 at h
  obtain ⟨r, hr, rfl⟩ := List.mem_map.1 h
  have := rawL_mem s r hr
  unfold chop
  split
  · simp; omega
  · exact this
set_option maxRecDepth 100000 in
set_option maxHeartbeats 2000000 in
theorem check_good (s : ByteArray) (w : World) (hs : s.size ≤ 1048576) (hf : P03.first s.data.toList < 0) :
    Calls Tryz.prog 98 #[.string s] w fun e w' => e = .returned (faultV (check17 s.data.toList)) ∧ Below w.heap.size w w' := by
  have hlen : s.data.toList.length = s.size := (Lib.size_eq s).symm
  obtain ⟨R, hRR⟩ : ∃ R, check17 s.data.toList = R := ⟨_, rfl⟩
  have hch1 : ∀ j, oddLine s.data.toList = some j → R = (3, (j : Int) + 1) := fun j hj => by
    rw [← hRR, check17, if_neg (by omega), if_neg (by omega), hj]
  have hch0 : oddLine s.data.toList = none → R = (0, 0) := fun hj => by
    rw [← hRR, check17, if_neg (by omega), if_neg (by omega), hj]
  rw [hRR]
  have HR1 := hide hch1
  have HR0 := hide hch0
  clear hch1 hch0 hRR
  have HK := hide hf
  refine (callsIn_wide (n := 40)).1 ?_
  refine callsIn_of_wp_marks Tryz.func98 rfl trivial ?_ rfl
  simp only [Tryz.ntmps98, List.size_toArray, List.length_cons, List.length_nil, Nat.reduceAdd, Nat.reduceSub, Array.replicate_succ, Array.replicate_zero, List.push_toArray, List.append_toArray, List.nil_append, List.cons_append]
  generalize hp : P03.first s.data.toList = p at hf
  gi_wp2_with (first
    | (refine ⟨trivial, ?_⟩; gi_at_call 82; refine (callsIn_wide.2 (First_any s _ (by omega))).mono ?_; rintro e w' ⟨rfl, hb⟩; rw [hp]; have hR : w'.heap[w.heap.size]? = some (.cells #[.int .i64 0, .int .i64 0] 29) := (hb.block _ (by simp)).trans (World.alloc_heap_new w _); have hbw : Below w.heap.size w w' := ((Below.refl _ w).alloc (Nat.le_refl _) _).trans (hb.mono (by simp)); clear hb)
    | (refine ⟨trivial, ?_⟩; gi_at_call 99; refine (callsIn_wide.2 (lines_any s _)).mono ?_; rintro e w' ⟨rfl, rfl⟩))
  have hlt : w.heap.size < w'.heap.size := (Array.getElem?_eq_some_iff.1 hR).1
  obtain ⟨b, hb⟩ : ∃ b, w'.heap.size = b := ⟨_, rfl⟩
  have hb1 : Boxed (w'.alloc (.cells #[.string s] 9)) b 9 (.string s) := by rw [← hb]; exact Boxed.new _ _ _
  have hR2 : (w'.alloc (.cells #[.string s] 9)).heap[w.heap.size]? = some (.cells #[.int .i64 0, .int .i64 0] 29) := (Below.heap_alloc _ _ _ hlt).trans hR
  have hbw2 : Below w.heap.size w (w'.alloc (.cells #[.string s] 9)) := hbw.alloc hbw.size _
  obtain ⟨W2, hW2⟩ : ∃ W2, w'.alloc (.cells #[.string s] 9) = W2 := ⟨_, rfl⟩
  have hsz : W2.heap.size = b + 1 := by rw [← hW2, ← hb]; simp
  rw [hW2] at hb1 hR2 hbw2 ⊢
  rw [hb] at hlt ⊢
  clear hW2 hR hbw hb
  refine wpIn_rangeFunc_T rfl (by omega) (gf := 131) (lb := #[.pointer (some ⟨b, 0, none⟩)]) rfl trivial (enters_of Tryz.func131 (by kernel_rfl) rfl)
    (encs := encL) (numbered s.data.toList) (fun _ => False) 5 (fun r hr => hr.elim)
    (fun V hg hV => linesIter_seq (40 - 1) s _ _ V (hb1.kept hg (by simp)).cell (fun r h1 h2 => .inr ⟨by omega, by omega⟩) (by omega) (by omega)) (fun _ => rfl)
    (fun i V => V.heap[w.heap.size]? = some (.cells #[.int .i64 0, .int .i64 0] 29) ∧ Below w.heap.size w V ∧ Hid (∀ j l, j < i → (lines17 s.data.toList)[j]? = some l → l.any oddB = false))
    (fun c i V => c = .ret ∧ ∃ j : Nat, V.heap[w.heap.size]? = some (.cells #[.int .i64 3, .int .i64 ((j : Int) + 1)] 29) ∧ Below w.heap.size w V ∧ Hid (oddLine s.data.toList = some j))
    (fun i V V' row h hg hr => ⟨(hg.block _ (Array.getElem?_eq_some_iff.1 h.1).1 (fun e => by rcases hr _ e.symm with h3 | h3; exact h3.elim; omega)).trans h.1, h.2.1.grown hg h.2.1.size (fun k e => by rcases hr k e with h3 | h3; exact h3.elim; omega), h.2.2⟩)
    (fun c i V V' row h hg hr => by
      obtain ⟨hc, j, h1, h2, h3⟩ := h
      exact ⟨hc, j, (hg.block _ (Array.getElem?_eq_some_iff.1 h1).1 (fun e => by rcases hr _ e.symm with h3 | h3; exact h3.elim; omega)).trans h1, h2.grown hg h2.size (fun k e => by rcases hr k e with h3 | h3; exact h3.elim; omega), h3⟩)
    ⟨hR2, hbw2, hide (fun j l hj => absurd hj (Nat.not_lt_zero _))⟩
    (fun x => { tmps := #[.string s, undef, .pointer (some ⟨w.heap.size, 0, none⟩), .int .i64 p, .int .i64 x.1, bsOf x.2, .string s, .int .i64 s.size, .bool (decide ((1048576 : Int) < (s.size : Int))), undef, .string s, .int .i64 p, .int .i64 p, .bool (decide ((0 : Int) ≤ p)), undef, undef, undef, undef, undef, undef, .string s,
      .func (.func 131) #[] #[.pointer (some ⟨b, 0, none⟩)], .int .i64 x.1, bsOf x.2, undef, undef, undef, undef, undef], defers := [] }) ?assign ?body ?done ?stop
  case assign =>
    intro l2 x V K hK
    unfold encL
    gi_wp2
    exact hK
  case body =>
    rintro l2 i x V hx ⟨hc1, hc2, HO⟩ hV
    obtain ⟨hx1, hx2⟩ := numbered_inv hx
    have hxl : x.2.length ≤ 1099511627776 := Nat.le_trans (lines17_le (List.mem_of_getElem? hx2)) (by omega)
    obtain ⟨n1, l⟩ := x
    simp only at hx1 hx2 hxl
    subst hx1
    have HX := hide hx2
    clear hx hx2
    unfold bsOf
    have hn2 : 1 ≤ 40 - 1 - 1 := by omega
    cases ho : l.any oddB with
    | true =>
      have HB := hide ho
      clear ho
      gi_wp2_with (refine ⟨trivial, ?_⟩; gi_at_call 130; refine (CallsIn.inRound l2 (callsIn_wide.2 (odd_any ⟨l.toArray⟩ _ hxl))).mono ?_; rintro e w3 ⟨rfl, hb3⟩; rw [show (⟨l.toArray⟩ : ByteArray).data.toList.any oddB = true from unhide HB]; have hr3 : w3.heap[w.heap.size]? = some (.cells #[.int .i64 0, .int .i64 0] 29) := (hb3.block _ (Array.getElem?_eq_some_iff.1 hc1).1).trans hc1; have hd0 := (two_cell0 hr3).1; have hg0 := (two_cell0 hr3).2; have hd1 := (two_cell1 hr3).1; have hg1 := (two_cell1 hr3).2)
      refine ⟨((KeepsT.of_below hb3).trans (.of_grownBy (setCell_grown w3 _ 0 _) (fun r e hr => by cases e; rcases hr with hr | hr; exact hr; omega))).trans (.of_grownBy (setCell_grown _ _ 1 _) (fun r e hr => by cases e; rcases hr with hr | hr; exact hr; omega)),
        rfl, i, two_set1 (two_set0 hr3 _) _, below_set (below_set (hc2.trans (hb3.mono hc2.size)) 0 _ (Nat.le_refl _)) 1 _ (Nat.le_refl _), hide (oddLine_some (unhide HO) (unhide HX) (unhide HB))⟩
    | false =>
      have HB := hide ho
      clear ho
      gi_wp2_with (refine ⟨trivial, ?_⟩; gi_at_call 130; refine (CallsIn.inRound l2 (callsIn_wide.2 (odd_any ⟨l.toArray⟩ _ hxl))).mono ?_; rintro e w3 ⟨rfl, hb3⟩; rw [show (⟨l.toArray⟩ : ByteArray).data.toList.any oddB = false from unhide HB]; have hr3 : w3.heap[w.heap.size]? = some (.cells #[.int .i64 0, .int .i64 0] 29) := (hb3.block _ (Array.getElem?_eq_some_iff.1 hc1).1).trans hc1; have hd0 := (two_cell0 hr3).1; have hg0 := (two_cell0 hr3).2; have hd1 := (two_cell1 hr3).1; have hg1 := (two_cell1 hr3).2)
      refine ⟨KeepsT.of_below hb3, hr3, hc2.trans (hb3.mono hc2.size), hide (fun j l' hj hl' => ?_)⟩
      rcases Nat.lt_or_ge j i with h4 | h4
      · exact unhide HO j l' h4 hl'
      · obtain rfl : j = i := by omega
        rw [unhide HX] at hl'
        cases hl'
        exact unhide HB
  case done =>
    rintro D V rfl ⟨hc1, hc2, HO⟩ hK
    have hd0 := (two_cell0 hc1).1
    have hg0 := (two_cell0 hc1).2
    have hd1 := (two_cell1 hc1).1
    have hg1 := (two_cell1 hc1).2
    have HN := hide (oddLine_none (fun j l hj hl => unhide HO j l (by rw [numbered_lines]; exact hj) hl))
    gi_wp2
    have hK2 : ((V.setCell ⟨w.heap.size, 0, none⟩ (.int .i64 0)).setCell ⟨w.heap.size, 1, none⟩ (.int .i64 0)).heap[W2.heap.size]? = some (.deferred (some [])) :=
      (Below.heap_setCell _ _ _ _ (by show W2.heap.size ≠ w.heap.size; omega)).trans ((Below.heap_setCell _ _ _ _ (by show W2.heap.size ≠ w.heap.size; omega)).trans hK)
    refine ⟨by simp, .inl ⟨_, _, rfl, run_takeDeferred hK2, ?_⟩⟩
    refine ⟨_, results_cell_row rfl _ _ _ _ _ _ _ rfl ((World.putObj_heap_other (by omega)).trans (two_set1 (two_set0 hc1 _) _)) Tryz.underlying29 rfl (by kernel_rfl), ?_, below_putObj (below_set (below_set hc2 0 _ (Nat.le_refl _)) 1 _ (Nat.le_refl _)) _ (by omega)⟩
    rw [unhide HR0 (unhide HN)]
    rfl
  case stop =>
    rintro D c i V rfl hi ⟨rfl, j, hc1, hc2, HO⟩ hK
    gi_wp2
    refine ⟨by simp, .inl ⟨_, _, rfl, run_takeDeferred hK, ?_⟩⟩
    refine ⟨_, results_cell_row rfl _ _ _ _ _ _ _ rfl ((World.putObj_heap_other (by omega)).trans hc1) Tryz.underlying29 rfl (by kernel_rfl), ?_, below_putObj hc2 _ (by omega)⟩
    rw [unhide HR1 j (unhide HO)]
    rfl
theorem check_any (s : ByteArray) (w : World) (hs : s.size ≤ 1048576) :
    Calls Tryz.prog 98 #[.string s] w fun e w' => e = .returned (faultV (check17 s.data.toList)) ∧ Below w.heap.size w w' := by
  by_cases hf : 0 ≤ P03.first s.data.toList
  · exact check_bad s w hs hf
  · exact check_good s w hs (by omega)
end Go.Proofs.YtnjokdbblmlhhaaGreatDoor
namespace Go.Proofs.YtnjokdbblmlhhaaGreatDoor
set_option linter.unusedVariables false
set_option linter.unusedSimpArgs false
open Go.RowKit Go.Shelf
attribute [local go_sem] Oper.semAt_some
/-- what a line has: its number, how far it is moved in, its text -/
def rowOf (k : Nat) (l : List UInt8) : Option (Nat × Nat × List UInt8) :=
  if trimL (strip17 l) = [] then none else some (k + 1, (strip17 l).length - (trimL (strip17 l)).length, trimL (strip17 l))
def rowsFrom : Nat → List (List UInt8) → List (Nat × Nat × List UInt8)
  | _, [] => []
  | k, l :: r => match rowOf k l with
    | none => rowsFrom (k + 1) r
    | some x => x :: rowsFrom (k + 1) r
/-- a text's lines that have something -/
def rows17 (s : List UInt8) : List (Nat × Nat × List UInt8) := rowsFrom 0 (lines17 s)
theorem rowsFrom_snoc : ∀ (k : Nat) (ls : List (List UInt8)) (l : List UInt8), rowsFrom k (ls ++ [l]) = rowsFrom k ls ++ (rowOf (k + ls.length) l).toList
  | k, [], l => by
    show (match rowOf k l with | none => [] | some x => [x]) = (rowOf k l).toList
    cases rowOf k l <;> rfl
  | k, a :: r, l => by
    have ih := rowsFrom_snoc (k + 1) r l
    have e : k + 1 + r.length = k + (a :: r).length := by simp; omega
    rw [e] at ih
    show (match rowOf k a with | none => rowsFrom (k + 1) (r ++ [l]) | some x => x :: rowsFrom (k + 1) (r ++ [l])) = (match rowOf k a with | none => rowsFrom (k + 1) r | some x => x :: rowsFrom (k + 1) r) ++ _
    cases rowOf k a
    · exact ih
    · simp only; rw [ih]; rfl
theorem rowsFrom_len : ∀ (k : Nat) (ls : List (List UInt8)), (rowsFrom k ls).length ≤ ls.length
  | k, [] => Nat.le_refl _
  | k, a :: r => by
    have ih := rowsFrom_len (k + 1) r
    unfold rowsFrom
    split <;> simp <;> omega
def rowCells (r : Nat × Nat × List UInt8) : List Value := [.int .i64 r.1, .int .i64 r.2.1, bsOf r.2.2]
def rowsCells (rs : List (Nat × Nat × List UInt8)) : List Value := rs.flatMap rowCells
theorem rowsCells_snoc (rs : List (Nat × Nat × List UInt8)) (r : Nat × Nat × List UInt8) : rowsCells (rs ++ [r]) = rowsCells rs ++ rowCells r := by simp [rowsCells]
/-- the slice v of line.Line owns the rows rs, in blocks from base on -/
def OwnL (W : World) (base : Nat) (e : TypeId) (v : Value) (rs : List (Nat × Nat × List UInt8)) : Prop := W.ownsRow base e 3 v rs.length (rowsCells rs)
theorem ownsRow_base {W : World} {b b' : Nat} {e : TypeId} {size n : Nat} {v : Value} {xs : List Value} (h : W.ownsRow b e size v n xs) (hb : b' ≤ b) : W.ownsRow b' e size v n xs := by
  refine ⟨h.1, ?_⟩
  rcases h.2 with h1 | ⟨g, cap, cur, h1, h2, h3⟩
  · exact .inl h1
  · exact .inr ⟨g, cap, cur, h1, Nat.le_trans hb h2, h3⟩
theorem results_tmp_cell {fn : Func} {p u : Tmp} {ty : TypeId} (h : fn.results = #[.tmp u, .cell p ty]) (tmps : Array Value) (P : Program) (w : World) (g : Nat) (v : Value)
    (hp : tmps.getD p undef = .pointer (some ⟨g, 0, none⟩)) (hl : (loadVar ty ⟨g, 0, none⟩).run P w = .ok v w) :
    (results fn tmps).run P w = .ok (.tuple #[tmps.getD u undef, v]) w := by
  have hp' : tmps[p]?.getD undef = .pointer (some ⟨g, 0, none⟩) := by simpa using hp
  simp [results, h, hp', asAddr, Sem.run_bind, Result.andThen, hl]
theorem below_drew {a : World} {B : Nat} {w : World} (h : Below B a w) : Below B a w.drew := ⟨h.os, h.tape, h.output, h.size, h.block⟩
theorem below_drewN' {a : World} {B n : Nat} {w : World} (h : Below B a w) : Below B a (w.drewN n) := ⟨h.os, h.tape, h.output, h.size, h.block⟩
theorem check_zero {s : List UInt8} (h : (check17 s).1 = 0) : check17 s = (0, 0) := by
  unfold check17 at h ⊢
  split at h
  · simp at h
  · rename_i h1
    rw [if_neg h1]
    split at h
    · simp at h
    · rename_i h2
      rw [if_neg h2]
      split at h
      · simp at h
      · rfl
set_option maxRecDepth 100000 in
set_option maxHeartbeats 2000000 in
theorem All_bad (s : ByteArray) (w : World) (hs : s.size ≤ 1048576) (hf : (check17 s.data.toList).1 ≠ 0) :
    Calls Tryz.prog 63 #[.string s] w fun e w' => e = .returned (.tuple #[.slice none 0 0, faultV (check17 s.data.toList)]) ∧ Below w.heap.size w w' := by
  obtain ⟨R, hRR⟩ : ∃ R, check17 s.data.toList = R := ⟨_, rfl⟩
  rw [hRR] at hf ⊢
  obtain ⟨r1, r2⟩ := R
  have hne : (r1 != 0) = true := by simpa using hf
  have HR := hide hRR
  clear hRR hf
  refine (callsIn_wide (n := 40)).1 ?_
  refine callsIn_of_wp_marks Tryz.func63 rfl trivial ?_ rfl
  simp only [Tryz.ntmps63, List.size_toArray, List.length_cons, List.length_nil, Nat.reduceAdd, Nat.reduceSub, Array.replicate_succ, Array.replicate_zero, List.push_toArray, List.append_toArray, List.nil_append, List.cons_append]
  gi_wp2_with (refine ⟨trivial, ?_⟩; gi_at_call 98; refine (callsIn_wide.2 (check_any s _ hs)).mono ?_; rintro e w' ⟨rfl, hb⟩; rw [unhide HR]; have hR : w'.heap[w.heap.size]? = some (.cells #[.int .i64 0, .int .i64 0] 29) := (hb.block _ (by simp)).trans (World.alloc_heap_new w _); have hbw : Below w.heap.size w w' := ((Below.refl _ w).alloc (Nat.le_refl _) _).trans (hb.mono (by simp)); clear hb; unfold faultV)
  obtain ⟨W2, hW2⟩ : ∃ W2, w'.alloc (.cells #[.int .i64 r1, .int .i64 r2] 29) = W2 := ⟨_, rfl⟩
  have hR2 : W2.heap[w.heap.size]? = some (.cells #[.int .i64 0, .int .i64 0] 29) := by rw [← hW2]; exact (Below.heap_alloc _ _ _ (Array.getElem?_eq_some_iff.1 hR).1).trans hR
  have hF2 : W2.heap[w'.heap.size]? = some (.cells #[.int .i64 r1, .int .i64 r2] 29) := by rw [← hW2]; exact World.alloc_heap_new w' _
  have hb2 : Below w.heap.size w W2 := by rw [← hW2]; exact hbw.alloc hbw.size _
  rw [hW2]
  have x0 := (two_cell0 hR2).1
  have x1 := (two_cell0 hR2).2
  have x2 := (two_cell1 hR2).1
  have x3 := (two_cell1 hR2).2
  have y0 := (two_cell0 hF2).1
  have y2 := (two_cell1 hF2).1
  clear hW2 hR
  gi_region
  gi_wp2
  refine ⟨_, results_tmp_cell rfl _ _ _ _ _ rfl (run_loadVar_row _ _ _ _ _ _ _ (two_set1 (two_set0 hR2 _) _) Tryz.underlying29 rfl (by kernel_rfl)), rfl, ?_⟩
  exact below_drew (below_set (below_set hb2 0 _ (Nat.le_refl _)) 1 _ (Nat.le_refl _))
theorem StripL_any (l : List UInt8) (w : World) (h : l.length ≤ 1099511627776) :
    Calls Tryz.prog 100 #[.string ⟨l.toArray⟩] w fun e w' => ∃ b : ByteArray, e = .returned (.string b) ∧ Hid (b.data.toList = strip17 l) ∧ ∃ n, w' = w.drewN n :=
  (Strip_any ⟨l.toArray⟩ w h).mono fun e w' ⟨h1, h2⟩ => ⟨_, h1, rfl, h2⟩
theorem TrimLB_any (b : ByteArray) (w : World) :
    Calls Tryz.prog 101 #[.string b, .string ⟨#[32]⟩] w fun e w' => ∃ o : ByteArray, e = .returned (.string o) ∧ Hid (o.data.toList = trimL b.data.toList) ∧ w' = w :=
  (TrimL_any b w).mono fun e w' ⟨h1, h2⟩ => ⟨_, h1, rfl, h2⟩
theorem ownsRow_span {W V : World} {row : Option Nat} {base : Nat} {e : TypeId} {size n : Nat} {v : Value} {xs : List Value} (h : W.ownsRow base e size v n xs) (hg : W.grownBy V row) (hr : ∀ r, row = some r → r < base) : V.ownsRow base e size v n xs := by
  refine h.kept hg ?_
  cases hv : v.ownBlock with
  | none => exact .inl rfl
  | some k =>
    refine .inr fun e => ?_
    have := (h.lt k hv).1
    have := hr k e.symm
    omega
theorem lineInfo : (Tryz.prog.info? 107).map (fun i => (i.zero, i.size, i.bytes)) = some (some (.agg #[.int .i64 0, .int .i64 0, .string ⟨#[]⟩]), 3, 32) := by kernel_rfl
theorem cells3_new (W : World) (a b c : Value) (t : TypeId) : ∀ j u, [a, b, c][j]? = some u → (W.alloc (.cells #[a, b, c] t)).cell? ((⟨W.heap.size, 0, none⟩ : Addr).add j) = some u := by
  have key : ∀ (X : World) (g : Nat), X.heap[g]? = some (.cells #[a, b, c] t) → X.cell? ⟨g, 0, none⟩ = some a ∧ X.cell? ⟨g, 1, none⟩ = some b ∧ X.cell? ⟨g, 2, none⟩ = some c := by
    intro X g h
    simp [World.cell?, h]
  obtain ⟨k0, k1, k2⟩ := key _ _ (World.alloc_heap_new W (.cells #[a, b, c] t))
  intro j u h
  match j, h with
  | 0, h => simp at h; subst h; exact k0
  | 1, h => simp at h; subst h; exact k1
  | 2, h => simp at h; subst h; exact k2
theorem trimL_len (l : List UInt8) : (trimL l).length ≤ l.length := (List.dropWhile_suffix _).length_le
theorem strip_len (l : List UInt8) : (strip17 l).length ≤ l.length := by
  unfold strip17 trimR
  rw [List.length_reverse]
  refine Nat.le_trans ((List.dropWhile_suffix _).length_le) ?_
  rw [List.length_reverse, List.length_take]
  omega
theorem rows_step {s : List UInt8} {i : Nat} {l : List UInt8} (h : (lines17 s)[i]? = some l) : rowsFrom 0 ((lines17 s).take (i + 1)) = rowsFrom 0 ((lines17 s).take i) ++ (rowOf i l).toList := by
  have hi : i < (lines17 s).length := (List.getElem?_eq_some_iff.1 h).1
  rw [List.take_add_one, h, show (some l).toList = [l] from rfl, rowsFrom_snoc, List.length_take, Nat.zero_add, Nat.min_eq_left (Nat.le_of_lt hi)]
theorem row_cells {i : Nat} {l : List UInt8} {tb ob : ByteArray} (HT : tb.data.toList = strip17 l) (HO : ob.data.toList = trimL tb.data.toList) (hne : ob.data.toList ≠ []) (hl : l.length ≤ 1048576) :
    ∃ r, rowOf i l = some r ∧ rowCells r = [.int .i64 ((i : Int) + 1), .int .i64 (wrap64 ((tb.size : Int) - (ob.size : Int))), .string ob] := by
  have h1 : ob.size ≤ tb.size := by rw [Lib.size_eq, Lib.size_eq, HO]; exact trimL_len _
  have h2 : tb.size ≤ 1048576 := by rw [Lib.size_eq, HT]; exact Nat.le_trans (strip_len l) hl
  rw [HT] at HO
  refine ⟨(i + 1, tb.size - ob.size, ob.data.toList), ?_, ?_⟩
  · rw [rowOf, if_neg (by rw [← HO]; exact hne), Lib.size_eq tb, Lib.size_eq ob, HT, HO]
  · have h3 : wrap64 ((tb.size : Int) - (ob.size : Int)) = ((tb.size - ob.size : Nat) : Int) := by unfold wrap64; omega
    rw [h3]
    rfl
theorem row_none {i : Nat} {l : List UInt8} {tb ob : ByteArray} (HT : tb.data.toList = strip17 l) (HO : ob.data.toList = trimL tb.data.toList) (hne : ob.data.toList = []) : rowOf i l = none := by
  rw [HT] at HO
  rw [rowOf, if_pos (by rw [← HO]; exact hne)]
theorem box_ne {W : World} {B base : Nat} {e : TypeId} {size n : Nat} {v : Value} {xs : List Value} (h : W.ownsRow base e size v n xs) (hB : B < base) : some B ≠ v.ownBlock := fun e => by have := (h.lt B e.symm).1; omega
set_option maxRecDepth 100000 in
set_option maxHeartbeats 2000000 in
theorem All_good (s : ByteArray) (w : World) (hs : s.size ≤ 1048576) (hf : (check17 s.data.toList).1 = 0) :
    Calls Tryz.prog 63 #[.string s] w fun e w' => ∃ v, e = .returned (.tuple #[v, faultV (0, 0)]) ∧ OwnL w' w.heap.size 107 v (rows17 s.data.toList) ∧ Below w.heap.size w w' := by
  have HR := hide (check_zero hf)
  clear hf
  refine (callsIn_wide (n := 60)).1 ?_
  refine callsIn_of_wp_marks Tryz.func63 rfl trivial ?_ rfl
  simp only [Tryz.ntmps63, List.size_toArray, List.length_cons, List.length_nil, Nat.reduceAdd, Nat.reduceSub, Array.replicate_succ, Array.replicate_zero, List.push_toArray, List.append_toArray, List.nil_append, List.cons_append]
  gi_wp2_with (first
    | (refine ⟨trivial, ?_⟩; gi_at_call 98; refine (callsIn_wide.2 (check_any s _ hs)).mono ?_; rintro e w' ⟨rfl, hb⟩; rw [unhide HR]; have hR : w'.heap[w.heap.size]? = some (.cells #[.int .i64 0, .int .i64 0] 29) := (hb.block _ (by simp)).trans (World.alloc_heap_new w _); have hbw : Below w.heap.size w w' := ((Below.refl _ w).alloc (Nat.le_refl _) _).trans (hb.mono (by simp)); clear hb; unfold faultV)
    | (refine ⟨trivial, ?_⟩; gi_at_call 99; refine (callsIn_wide.2 (lines_any s _)).mono ?_; rintro e w4 ⟨rfl, rfl⟩))
  have hlt : w.heap.size < w'.heap.size := (Array.getElem?_eq_some_iff.1 hR).1
  obtain ⟨b, hb⟩ : ∃ b, w'.heap.size = b := ⟨_, rfl⟩
  obtain ⟨W2, hW2⟩ : ∃ W2, ((w'.alloc (.cells #[.int .i64 0, .int .i64 0] 29)).alloc (.cells #[.slice none 0 0] 99)).alloc (.cells #[.string s] 9) = W2 := ⟨_, rfl⟩
  have hsz : W2.heap.size = b + 3 := by rw [← hW2, ← hb]; simp
  have b1 : Boxed W2 (b + 1) 99 (.slice none 0 0) := by
    rw [← hW2, ← hb]; have := Boxed.new (w'.alloc (.cells #[.int .i64 0, .int .i64 0] 29)) 99 (.slice none 0 0); rw [World.size_alloc] at this; exact this.alloc _
  have b2 : Boxed W2 (b + 1 + 1) 9 (.string s) := by
    rw [← hW2, ← hb]; have := Boxed.new ((w'.alloc (.cells #[.int .i64 0, .int .i64 0] 29)).alloc (.cells #[.slice none 0 0] 99)) 9 (.string s); rw [World.size_alloc, World.size_alloc] at this; exact this
  have hR2 : W2.heap[w.heap.size]? = some (.cells #[.int .i64 0, .int .i64 0] 29) := by
    rw [← hW2]; exact (Below.heap_alloc _ _ _ (by simp; omega)).trans ((Below.heap_alloc _ _ _ (by simp; omega)).trans ((Below.heap_alloc _ _ _ hlt).trans hR))
  have hbw2 : Below w.heap.size w W2 := by
    rw [← hW2]; exact ((hbw.alloc hbw.size _).alloc (by simp; omega) _).alloc (by simp; omega) _
  rw [hW2]
  rw [hb] at hlt ⊢
  clear hW2 hR hbw hb
  have hlen : s.data.toList.length = s.size := (Lib.size_eq s).symm
  refine wpIn_rangeFunc_T rfl (by omega) (gf := 131) (lb := #[.pointer (some ⟨b + 1 + 1, 0, none⟩)]) rfl trivial (enters_of Tryz.func131 (by kernel_rfl) rfl)
    (encs := encL) (numbered s.data.toList) (fun _ => False) 5 (fun r hr => hr.elim)
    (fun V hg hV => linesIter_seq (60 - 1) s _ _ V (b2.kept hg (by simp)).cell (fun r h1 h2 => .inr ⟨by omega, by omega⟩) (by omega) (by omega)) (fun _ => rfl)
    (fun i V => V.heap[w.heap.size]? = some (.cells #[.int .i64 0, .int .i64 0] 29) ∧ Below w.heap.size w V ∧ ∃ v, Boxed V (b + 1) 99 v ∧ OwnL V (b + 10) 107 v (rowsFrom 0 ((lines17 s.data.toList).take i)))
    (fun c i V => False)
    (fun i V V' row h hg hr => by
      obtain ⟨h1, h2, v, h3, h4⟩ := h
      exact ⟨(hg.block _ (Array.getElem?_eq_some_iff.1 h1).1 (fun e => by rcases hr _ e.symm with h3 | h3; exact h3.elim; omega)).trans h1, h2.grown hg h2.size (fun k e => by rcases hr k e with h3 | h3; exact h3.elim; omega), v,
        h3.kept hg (fun e => by rcases hr _ e.symm with h3 | h3; exact h3.elim; omega), ownsRow_span h4 hg (fun r e => by rcases hr r e with h3 | h3; exact h3.elim; omega)⟩)
    (fun c i V V' row h hg hr => h)
    ⟨hR2, hbw2, _, b1, World.ownsRow_nil _ _ _ _⟩
    (fun x => { tmps := #[.string s, undef, .slice none 0 0, .pointer (some ⟨w.heap.size, 0, none⟩), .pointer (some ⟨b, 0, none⟩), .pointer (some ⟨b + 1, 0, none⟩), .int .i64 x.1, bsOf x.2, undef, .string s, .agg #[.int .i64 0, .int .i64 0], .pointer (some ⟨b, 0, none⟩), .int .i64 0, .bool false, undef, .string s,
      .func (.func 131) #[] #[.pointer (some ⟨b + 1 + 1, 0, none⟩)], .int .i64 x.1, bsOf x.2, undef, undef, undef, undef, undef, undef, undef, undef, undef, undef, undef, undef, undef, undef, undef, undef, undef, undef, undef], defers := [] }) ?assign ?body ?done ?stop
  case assign =>
    intro l2 x V K hK
    unfold encL
    gi_wp2
    exact hK
  case body =>
    rintro l2 i x V hx ⟨hc1, hc2, v, hv1, hv2⟩ hV
    obtain ⟨hx1, hx2⟩ := numbered_inv hx
    have hxl : x.2.length ≤ 1048576 := Nat.le_trans (lines17_le (List.mem_of_getElem? hx2)) (by omega)
    obtain ⟨n1, l⟩ := x
    simp only at hx1 hx2 hxl
    subst hx1
    have HX := hide hx2
    clear hx hx2
    unfold bsOf
    have hn2 : 1 ≤ 60 - 1 - 1 := by omega
    have hrl : (rowsFrom 0 ((lines17 s.data.toList).take i)).length ≤ 1048576 := by
      refine Nat.le_trans (rowsFrom_len _ _) ?_
      rw [List.length_take]
      have h1 : (lines17 s.data.toList).length ≤ s.data.toList.length := by unfold lines17; rw [List.length_map]; exact rawL_le _
      omega
    obtain ⟨i0, hi, hz0, hz1, hz2⟩ := info_parts lineInfo
    have hB1 : (rowsFrom 0 ((lines17 s.data.toList).take i)).length + 1 ≤ maxLen := by unfold maxLen; omega
    have hB2 : ((rowsFrom 0 ((lines17 s.data.toList).take i)).length + 1) * 32 ≤ 140737488355328 := by omega
    have hvc := hv1.cell
    have hvf := hv1.frozen
    gi_wp2_with (first
      | (refine ⟨trivial, ?_⟩; gi_at_call 100; refine (CallsIn.inRound l2 (callsIn_wide.2 (StripL_any l _ (by omega)))).mono ?_; rintro e w3 ⟨tb, rfl, HT, nd, rfl⟩)
      | (refine ⟨trivial, ?_⟩; gi_at_call 101; refine (CallsIn.inRound l2 (callsIn_wide.2 (TrimLB_any tb _))).mono ?_; rintro e w3 ⟨ob, rfl, HO, rfl⟩)
      | (gi_at_builtin; refine wpListIn_append_own _ rfl _ _ 99 rfl (b + 10) 107 i0 (.agg #[.int .i64 0, .int .i64 0, .string ⟨#[]⟩]) 3 32 Tryz.underlying99 hi hz0 hz1 hz2 rfl (by decide) _ _ _ rfl (World.ownsRow.alloc (show (V.drewN nd).ownsRow (b + 10) 107 3 v _ _ from hv2) _) ⟨V.heap.size, 0, none⟩ 1 1 [.int .i64 ((i : Int) + 1), .int .i64 (wrap64 ((tb.size : Int) - (ob.size : Int))), .string ob] rfl rfl (cells3_new _ _ _ _ _) (by intro u hu; simp at hu; rcases hu with rfl | rfl | rfl <;> rfl) hB1 hB2 (by rw [World.size_alloc]; show b + 10 ≤ V.heap.size + 1; omega) ?_; intro v' w1 hown' hgrow _; obtain ⟨g', cap', rfl⟩ := ownsRow_succ hown'; have hbx := (Boxed.alloc (show Boxed (V.drewN nd) (b + 1) 99 v from hv1) _).kept hgrow (box_ne hv2 (by omega)); have hbc := hbx.cell; have hbf := hbx.frozen))
    · have hne : (!ob.toList.isEmpty) = true := by assumption
      have hne2 : ob.data.toList ≠ [] := fun e => by rw [Lib.toList_data, e] at hne; cases hne
      obtain ⟨r, hr1, hr2⟩ := row_cells (i := i) (unhide HT) (unhide HO) hne2 hxl
      have hstep := rows_step (unhide HX)
      rw [hr1] at hstep
      have hlo : ∀ k, v.ownBlock = some k → b + 10 ≤ k := fun k e => (World.ownsRow.lt (show V.ownsRow (b + 10) 107 3 v _ _ from hv2) k e).1
      have hq : w.heap.size < V.heap.size := (Array.getElem?_eq_some_iff.1 hc1).1
      have hA := (below_drewN' (n := nd) hc2).alloc hc2.size (.cells #[.int .i64 ((i : Int) + 1), .int .i64 (wrap64 ((tb.size : Int) - (ob.size : Int))), .string ob] 107)
      have hG := hA.grown hgrow hA.size (fun k e => by have := hlo k e; omega)
      refine ⟨(((show KeepsT _ V (V.drewN nd) from ⟨Nat.le_refl _, fun _ _ _ => rfl⟩).trans (KeepsT.alloc _ (V.drewN nd) _)).trans (.of_grownBy hgrow (fun r e hr => by have := hlo r e; rcases hr with hr | hr; exact hr; omega))).trans (.of_grownBy (grownBy_setCell' w1 (b + 1) _) (fun r e hr => by cases e; rcases hr with hr | hr; exact hr; omega)), ?_, below_cell hG _ (by omega), _, hbx.set _, ?_⟩
      · refine (Below.heap_setCell _ _ _ _ (by show w.heap.size ≠ b + 1; omega)).trans ((hgrow.block _ (by rw [World.size_alloc]; show w.heap.size < V.heap.size + 1; omega) (fun e => by have := hlo _ e.symm; omega)).trans ((Below.heap_alloc (V.drewN nd) _ _ hq).trans hc1))
      · rw [hstep]
        unfold OwnL
        rw [show (some r).toList = [r] from rfl, rowsCells_snoc, List.length_append, hr2]
        exact ownsRow_span hown' (grownBy_setCell' w1 (b + 1) _) (fun r e => by cases e; omega)
    · have hne : (!ob.toList.isEmpty) = false := by assumption
      have hne2 : ob.data.toList = [] := by
        rw [Lib.toList_data] at hne
        cases hd : ob.data.toList with
        | nil => rfl
        | cons a t => rw [hd] at hne; cases hne
      have hstep := rows_step (unhide HX)
      rw [row_none (unhide HT) (unhide HO) hne2, show (none : Option (Nat × Nat × List UInt8)).toList = [] from rfl, List.append_nil] at hstep
      refine ⟨⟨Nat.le_refl _, fun _ _ _ => rfl⟩, hc1, below_drewN' hc2, v, hv1, ?_⟩
      rw [hstep]
      exact hv2
  case done =>
    rintro D V rfl ⟨hc1, hc2, v, hv1, hv2⟩ hK
    have hvc := hv1.cell
    have x0 := (two_cell0 hc1).1
    have x1 := (two_cell0 hc1).2
    have x2 := (two_cell1 hc1).1
    have x3 := (two_cell1 hc1).2
    gi_wp2
    have hgr1 := setCell_grown V w.heap.size 0 (.int .i64 0)
    have hgr2 := setCell_grown (V.setCell ⟨w.heap.size, 0, none⟩ (.int .i64 0)) w.heap.size 1 (.int .i64 0)
    have hK2 : ((V.setCell ⟨w.heap.size, 0, none⟩ (.int .i64 0)).setCell ⟨w.heap.size, 1, none⟩ (.int .i64 0)).heap[W2.heap.size]? = some (.deferred (some [])) :=
      (Below.heap_setCell _ _ _ _ (by show W2.heap.size ≠ w.heap.size; omega)).trans ((Below.heap_setCell _ _ _ _ (by show W2.heap.size ≠ w.heap.size; omega)).trans hK)
    refine ⟨by simp, .inl ⟨_, _, rfl, run_takeDeferred hK2, ?_⟩⟩
    refine ⟨_, results_tmp_cell rfl _ _ _ _ _ rfl (run_loadVar_row _ _ _ _ _ _ _ ((World.putObj_heap_other (by omega)).trans (two_set1 (two_set0 hc1 _) _)) Tryz.underlying29 rfl (by kernel_rfl)), v, rfl, ?_, below_putObj (below_set (below_set hc2 0 _ (Nat.le_refl _)) 1 _ (Nat.le_refl _)) _ (by omega)⟩
    have hrows : rowsFrom 0 ((lines17 s.data.toList).take (numbered s.data.toList).length) = rows17 s.data.toList := by
      rw [rows17, numbered_lines, List.take_of_length_le (Nat.le_refl _)]
    rw [hrows] at hv2
    exact ownsRow_base (ownsRow_span (ownsRow_span (ownsRow_span hv2 hgr1 (fun r e => by cases e; omega)) hgr2 (fun r e => by cases e; omega)) (grownBy_putObj' _ W2.heap.size _) (fun r e => by cases e; omega)) (by omega)
  case stop =>
    rintro D c i V rfl hi h hK
    exact h.elim
end Go.Proofs.YtnjokdbblmlhhaaGreatDoor
namespace Go.Proofs.YtnjokdbblmlhhaaGreatDoor
set_option linter.unusedVariables false
set_option linter.unusedSimpArgs false
open Go.RowKit Go.Shelf
/-- block b holds a strings.Builder with the bytes l -/
def Bld (w : World) (b : Nat) (p : Value) (l : List UInt8) : Prop := ∃ v, w.heap[b]? = some (.cells #[p, v] 69) ∧ OwnB w (b + 1) 5 v l
theorem bldByteInfo : (Tryz.prog.info? 5).map (fun i => (i.zero, i.size, i.bytes)) = some (some (.int .u8 0), 1, 1) := by kernel_rfl
theorem bldSize : (Tryz.prog.info? 69).map (·.size) = some 2 := by kernel_rfl
theorem bldLies : liesAt Tryz.prog Tryz.prog.depth 69 (2 / Tryz.prog.cellsOf 69) 0 69 1 = true := by kernel_rfl
theorem grownBy_set (w : World) (b j : Nat) (v : Value) : w.grownBy (w.setCell ⟨b, j, none⟩ v) (some b) := setCell_grown w b j v
set_option maxRecDepth 100000 in
set_option maxHeartbeats 800000 in
theorem copyCheck_any (b : Nat) (p v : Value) (w : World) (h : w.heap[b]? = some (.cells #[p, v] 69)) (hp : p = .pointer none ∨ p = .pointer (some ⟨b, 0, none⟩)) :
    Calls Tryz.prog 118 #[.pointer (some ⟨b, 0, none⟩)] w fun e w' => e = .returned (.tuple #[]) ∧ w'.heap[b]? = some (.cells #[.pointer (some ⟨b, 0, none⟩), v] 69) ∧ w.grownBy w' (some b) := by
  obtain ⟨j, hj, hjs⟩ := Option.map_eq_some_iff.1 bldSize
  have h0 := (two_cell0 h).1
  have h1 := (two_cell0 h).2
  have hsh : w.shape? b = some (69, 2) := by simp [World.shape?, h]
  rcases hp with rfl | rfl
  · go_enter Tryz.func118, Tryz.ntmps118
    go_wp2
    rw [Lib.run_to_unsafe w ⟨b, 0, none⟩ Tryz.underlying66 Tryz.underlying196 hj (by rw [hjs]; decide) hsh (Nat.zero_lt_succ 1)]
    simp only [Result.andThen]
    rw [Oper.upon_value]
    go_wp2
    rw [run_callFunc_extern Tryz.func146 (by kernel_rfl) (by kernel_rfl) (by kernel_rfl) (e := Extern.AbiNoEscape.same) (by kernel_rfl)]
    rw [Lib.run_noEscape]
    simp only [Result.andThen]
    rw [Oper.upon_value]
    go_wp2
    rw [Lib.run_from_unsafe w ⟨b, 0, none⟩ Tryz.underlying196 Tryz.underlying66 hj hsh bldLies]
    simp only [Result.andThen]
    rw [Oper.upon_value]
    go_wp2
    go_end0
    exact ⟨rfl, two_set0 h _, grownBy_set w b 0 _⟩
  · go_enter Tryz.func118, Tryz.ntmps118
    go_wp2
    rw [Lib.run_neq_ptr_same w _ Tryz.underlying66 hj]
    go_wp2
    go_end0
    exact ⟨rfl, h, ⟨rfl, rfl, rfl, Nat.le_refl _, fun _ _ _ => rfl⟩⟩
theorem kind_of_own {w : World} {B : Nat} {e : TypeId} {v : Value} {l : List UInt8} (h : OwnB w B e v l) : ∀ g, v.ownBlock = some g → ∃ c fz, w.heap[g]? = some (.cells c e fz) := by
  intro g hg
  rcases h.2 with ⟨rfl, _⟩ | ⟨g', cap, cur, rfl, _, h3, _⟩
  · simp [Value.ownBlock] at hg
  · simp only [Value.ownBlock, Option.some.injEq] at hg
    subst hg
    exact ⟨cur, _, h3⟩
theorem bld_put {w w' : World} {b : Nat} {p v v' : Value} {l : List UInt8} (h : w'.heap[b]? = some (.cells #[p, v] 69)) (ho : OwnB w' (b + 1) 5 v' l) : Bld (w'.setCell ⟨b, 1, none⟩ v') b p l :=
  ⟨v', two_set1 h v', ownsRow_span ho (setCell_grown w' b 1 v') (fun r e => by cases e; omega)⟩
theorem others_grown {w w' : World} {b : Nat} (h : w.grownBy w' (some b)) : Lib.OthersKept 5 (some b) w w' := fun k o h1 h2 h3 => by
  refine (h.block k ?_ (fun e => ?_)).trans h1
  · exact (Array.getElem?_eq_some_iff.1 h1).1
  · exact absurd e (by simpa using h2)
theorem own_slice {w : World} {B : Nat} {e : TypeId} {size n : Nat} {v : Value} {xs : List Value} (h : w.ownsRow B e size v n xs) : ∃ ao m cap, v = .slice ao m cap := by
  rcases h.2 with ⟨hv, h0⟩ | ⟨g, cap, cur, hv, _⟩
  · exact ⟨_, _, _, hv⟩
  · exact ⟨_, _, _, hv⟩
set_option maxRecDepth 100000 in
set_option maxHeartbeats 800000 in
theorem WriteString_any (b : Nat) (p : Value) (l : List UInt8) (s : ByteArray) (w : World) (h : Bld w b p l) (hp : p = .pointer none ∨ p = .pointer (some ⟨b, 0, none⟩)) (hlen : l.length + s.size < 1099511627776) :
    Calls Tryz.prog 76 #[.pointer (some ⟨b, 0, none⟩), .string s] w fun e w' => e = .returned (.tuple #[.int .i64 s.size, .nilIface]) ∧ Bld w' b (.pointer (some ⟨b, 0, none⟩)) (l ++ s.data.toList) ∧ Below b w w' ∧ Lib.OthersKept 5 (some b) w w' := by
  obtain ⟨v, hb, hown⟩ := h
  have hlt : b < w.heap.size := (Array.getElem?_eq_some_iff.1 hb).1
  go_enter Tryz.func76, Tryz.ntmps76
  go_wp2_with (first
    | (go_at_call 118; refine (copyCheck_any b p v w hb hp).mono ?_; rintro e w1 ⟨rfl, hb1, hg1⟩; have hown1 : OwnB w1 (b + 1) 5 v l := ownsRow_span hown hg1 (fun r e => by cases e; omega); have c0 := (two_cell0 hb1).1; have c1 := (two_cell1 hb1).1; have c2 := (two_cell1 hb1).2; have hs1 := hg1.size)
    | (at_builtin; refine wpList_appS rfl (.tmp 12) (.tmp 13) 67 9 rfl Tryz.underlying67 Tryz.underlying9 bldByteInfo rfl hown1 s rfl hlen (by omega) ?_; intro v' w2 hown2 hg2; obtain ⟨ao, nn, cap, rfl⟩ := own_slice hown2; have hb2 : w2.heap[b]? = some (.cells #[.pointer (some ⟨b, 0, none⟩), v] 69) := (hg2.block b (by omega) (fun e => by have := (hown1.lt b e.symm).1; omega)).trans hb1; have d0 := (two_cell0 hb2).1; have d1 := (two_cell1 hb2).1; have d2 := (two_cell1 hb2).2))
  go_ret2
  refine ⟨rfl, bld_put (w := w2) hb2 hown2, ?_, ?_⟩
  · exact (((Below.refl b w).grown hg1 (by omega) (fun k e => by cases e; omega)).grown hg2 (by omega) (fun k e => by have := (hown1.lt k e).1; omega)).setCell (p := ⟨b, 1, none⟩) (Nat.le_refl _) _
  · exact ((others_grown hg1).grown hg2 (kind_of_own hown1)).setCell ⟨b, 1, none⟩ rfl _
/-- strings.Repeat of a blank, at most 100 times -/
theorem hasPrefix_blank (l : List UInt8) : Lib.hasPrefix (32 :: l) [32] = true := by simp [Lib.hasPrefix]
end Go.Proofs.YtnjokdbblmlhhaaGreatDoor
