/- walks of rescriptref17.Split: a slice of strings that the call makes; Plain words of rescriptref17.Strip against strip17.; walks of rescriptref17.Strip; walks of rescriptref17.All; walk of line.Join; walks of layer 17's laws: same, live; walk of layer 17's laws: live -/
import Derived.Test.YtnjokdbblmlhhaaGreatDoorGP
import Derived.Test.YtnjokdbblmlhhaaGreatDoorGA
import Derived.Test.YtnjokdbblmlhhaaGreatDoorGW17
import Derived.Test.YtnjokdbblmlhhaaGreatDoorGV17
namespace Go.Proofs.YtnjokdbblmlhhaaGreatDoor
set_option linter.unusedVariables false
set_option linter.unusedSimpArgs false
open Go.RowKit
/-- the slice value v owns the strings ls -/
def OwnS (w : World) (B : Nat) (e : TypeId) (v : Value) (ls : List (List UInt8)) : Prop := w.ownsRow B e 1 v ls.length (ls.map bsOf)
theorem strInfo : (Tryz.prog.info? 9).map (fun i => (i.zero, i.size, i.bytes)) = some (some (.string ⟨#[]⟩), 1, 16) := by kernel_rfl
theorem wpList_appStr {w : World} {B : Nat} {v : Value} {ls : List (List UInt8)} {ops : Array Oper} {rest : List Oper} {o : Oper} {a : Act} {Q : Exit → Act → World → Prop} (hgd : o.guard = none) (s x : Operand) (t : TypeId)
    (ho : o.op = .call { callee := .builtin .append, args := #[s, x], argTypes := #[t, t] }) (ht : Tryz.prog.underlying t = some (.slice 9))
    (hs : a.eval s = v) (hown : OwnS w B 9 v ls) (b : ByteArray) (hx : a.eval x = .slice (some ⟨w.heap.size, 0, none⟩) 1 1)
    (hlen : ls.length < 10000000) (hB : B ≤ w.heap.size)
    (h : ∀ v' w', OwnS w' B 9 v' (ls ++ [b.data.toList]) → (w.alloc (.cells #[.string b] 9)).grownBy w' v.ownBlock → wpList Tryz.prog ops Q rest (a.put o.dst v') w') :
    wpList Tryz.prog ops Q (o :: rest) a (w.alloc (.cells #[.string b] 9)) := by
  obtain ⟨i, hi, hz, hsz, hby⟩ := info_parts strInfo
  refine wpList_append_own_at (w := w.alloc (.cells #[.string b] 9)) (P := Tryz.prog) hgd s x t ho B 9 i (.string ⟨#[]⟩) 1 16 ht hi hz hsz hby rfl (by decide) v ls.length (ls.map bsOf) hs (World.ownsRow.alloc hown _)
    ⟨w.heap.size, 0, none⟩ 1 1 [.string b] hx rfl (cell_one_new _ _ _) (by intro u hu; simp at hu; subst hu; rfl) (by unfold maxLen; omega) (by omega) (by simp; omega) ?_
  intro v' w' h2 h3 _ h5
  refine h v' w' ?_ h3
  unfold OwnS
  rw [List.map_append, List.length_append]
  exact h2
theorem below_appStr {w w' w0 : World} {v : Value} {ls : List (List UInt8)} {o : Obj} (hb : Below w0.heap.size w0 w) (hown : OwnS w w0.heap.size 9 v ls) (hg : (w.alloc o).grownBy w' v.ownBlock) : Below w0.heap.size w0 w' :=
  (hb.alloc hb.size o).grown hg (by have := hb.size; simp; omega) (fun k hk => (World.ownsRow.lt hown k hk).1)
theorem i10 (c : UInt8) : ((c.toNat : Int) == 10) = (c == 10) := by revert c; apply all_bytes; decide +kernel
theorem one_byte (s : ByteArray) (k : Nat) (h : k < s.size) : (s.extract k (k + 1)).data.toList = [s[k]] := by
  have hl : k < s.data.toList.length := by rw [← Lib.size_eq]; exact h
  rw [Lib.extract_data, List.drop_eq_getElem_cons hl, Nat.add_sub_cancel_left]
  rfl
theorem drop_byte (s : ByteArray) (k : Nat) (h : k < s.size) : s.data.toList.drop k = s[k] :: s.data.toList.drop (k + 1) := by
  have hl : k < s.data.toList.length := by rw [← Lib.size_eq]; exact h
  rw [List.drop_eq_getElem_cons hl]
  rfl
set_option maxRecDepth 100000 in
set_option maxHeartbeats 800000 in
theorem refSplit_any (s : ByteArray) (w : World) (h : s.size ≤ 4000000) :
    Calls Tryz.prog 112 #[.string s] w fun e w' => ∃ v, e = .returned v ∧ OwnS w' w.heap.size 9 v (lines17 s.data.toList) ∧ Below w.heap.size w w' := by
  rw [← splitA_nil]
  go_enter Tryz.func112, Tryz.ntmps112
  go_wp2
  go_loopg [3, 4, 5] s.size (fun g s3 s4 s5 wx => ∃ (k : Nat) (done : List (List UInt8)) (now : ByteArray), k + g = s.size ∧ s4 = .string now ∧ s5 = .int .i64 k ∧ now.size ≤ k ∧ done.length ≤ k ∧ OwnS wx w.heap.size 9 s3 done ∧ Below w.heap.size w wx ∧
    Hid (splitA [] s.data.toList = done ++ splitA now.data.toList (s.data.toList.drop k)))
  case atStart => exact ⟨0, [], ⟨#[]⟩, by omega, rfl, rfl, Nat.le_refl _, Nat.le_refl _, World.ownsRow_nil _ _ _ _, Below.refl _ _, hide rfl⟩
  case round =>
    obtain ⟨k, done, now, hkg, rfl, rfl, hnk, hdk, hown, hb, HP⟩ := hrel
    cases gk with
    | zero =>
      have e1 : (s.size : Int) = (k : Int) := by omega
      have hend : s.data.toList.drop k = [] := List.drop_eq_nil_of_le (by rw [← Lib.size_eq]; omega)
      rw [hend, splitA] at HP
      clear hend
      go_wp2_with (at_builtin; refine wpList_appStr rfl (.tmp 29) (.tmp 31) 23 rfl Tryz.underlying23 rfl hown now rfl (by omega) hb.size ?_; intro v1 w1 hown1 hg1; have hb1 := below_appStr hb hown hg1)
      · have hne : (!now.toList.isEmpty) = true := by assumption
        have hne2 : now.data.toList ≠ [] := fun e => by rw [Lib.toList_data, e] at hne; cases hne
        go_ret
        refine ⟨_, rfl, ?_, hb1⟩
        rw [unhide HP, if_neg hne2]
        exact hown1
      · have hne : (!now.toList.isEmpty) = false := by assumption
        have hne2 : now.data.toList = [] := by
          rw [Lib.toList_data] at hne
          cases hd : now.data.toList with
          | nil => rfl
          | cons a t => rw [hd] at hne; cases hne
        go_ret
        refine ⟨_, rfl, ?_, hb⟩
        rw [unhide HP, if_pos hne2, List.append_nil]
        exact hown
    | succ g' =>
      have hlt : k < s.size := by omega
      have hlt' : (k : Int) < (s.size : Int) := by omega
      have hki : IntKind.i64.wrap ((k : Int) + 1) = (k : Int) + 1 := IntWalk.i64_in _ (by omega)
      rw [drop_byte s k hlt, splitA] at HP
      by_cases c10 : (s[k] == 10) = true
      · have j10 : ((s[k].toNat : Int) == 10) = true := by rw [i10]; exact c10
        rw [if_pos (by simpa using c10)] at HP
        clear c10
        go_wp2_with (at_builtin; refine wpList_appStr rfl (.tmp 16) (.tmp 18) 23 rfl Tryz.underlying23 rfl hown now rfl (by omega) hb.size ?_; intro v1 w1 hown1 hg1; have hb1 := below_appStr hb hown hg1)
        go_roundg g'
        case measure => omega
        case rel => exact ⟨k + 1, done ++ [now.data.toList], ⟨#[]⟩, by omega, rfl, by go_num, Nat.zero_le _, by simp; omega, hown1, hb1, hide (by rw [unhide HP]; simp)⟩
      · have j10 : ((s[k].toNat : Int) == 10) = false := by rw [i10]; simpa using c10
        rw [if_neg (by simpa using c10)] at HP
        clear c10
        have hex : (s.extract k (k + 1)).size = 1 := by rw [Lib.size_eq, one_byte s k hlt]; rfl
        have hex2 := one_byte s k hlt
        have HE := hide hex
        have HE2 := hide hex2
        clear hex hex2
        go_wp2
        go_roundg g'
        case measure => omega
        case rel =>
          refine ⟨k + 1, done, now ++ s.extract k (k + 1), by omega, rfl, by go_num, ?_, by omega, hown, hb, hide ?_⟩
          · rw [ByteArray.size_append, unhide HE]; omega
          · rw [unhide HP]
            congr 2
            rw [ByteArray.data_append, Array.toList_append, unhide HE2]
end Go.Proofs.YtnjokdbblmlhhaaGreatDoor
namespace Go.Proofs.YtnjokdbblmlhhaaGreatDoor
set_option linter.unusedVariables false
set_option linter.unusedSimpArgs false
open Go.RowKit
/-- where the reference's loop stands: at k, within quotes or not -/
def refAt (s : ByteArray) (q : Bool) (k : Nat) : Nat := remarkAt (blAt s.data.toList k) q false (min k s.size) (s.data.toList.drop k)
theorem refAt_start (s : ByteArray) : remarkAt true false false 0 s.data.toList = refAt s false 0 := by
  unfold refAt; rw [Nat.zero_min]; rfl
theorem refAt_end (s : ByteArray) (q : Bool) (k : Nat) (h : s.size ≤ k) : refAt s q k = s.size := by
  unfold refAt
  rw [List.drop_eq_nil_of_le (by rw [← Lib.size_eq]; exact h), remarkAt, Nat.min_eq_right h]
theorem refAt_step (s : ByteArray) (q : Bool) (k : Nat) (h : k < s.size) : refAt s q k =
    if q && s[k] == 92 then refAt s q (k + 2)
    else if s[k] == 34 then refAt s (!q) (k + 1)
    else if q || s[k] != 35 then refAt s q (k + 1)
    else if blAt s.data.toList k then k
    else refAt s q (k + 1) := by
  have h1 : refAt s q k = remarkAt (blAt s.data.toList k) q false k (s.data.toList.drop k) := by unfold refAt; rw [Nat.min_eq_left (Nat.le_of_lt h)]
  have h2 : ∀ q', remarkAt (blAt s.data.toList (k + 1)) q' false (k + 1) (s.data.toList.drop (k + 1)) = refAt s q' (k + 1) := fun q' => by unfold refAt; rw [Nat.min_eq_left h]
  rw [h1, remark_step s k q false h, if_neg (by simp), h2, h2]
  by_cases h3 : (q && s[k] == 92) = true
  · rw [if_pos h3, if_pos h3]
    by_cases h4 : k + 1 < s.size
    · rw [remark_step s (k + 1) q true h4, if_pos rfl]
      unfold refAt
      rw [Nat.min_eq_left h4]
    · rw [refAt_end s q (k + 2) (by omega), remark_end s (k + 1) _ _ _ (by omega)]
      omega
  · rw [if_neg h3, if_neg h3]
theorem trimR_nil : trimR [] = [] := rfl
theorem trimR_blank (l : List UInt8) : trimR (l ++ [32]) = trimR l := by simp [trimR]
theorem trimR_stop (l : List UInt8) (c : UInt8) (h : c ≠ 32) : trimR (l ++ [c]) = l ++ [c] := by
  unfold trimR
  rw [List.reverse_append, List.reverse_singleton, List.singleton_append, List.dropWhile_cons_of_neg (by simpa using h), List.reverse_cons, List.reverse_reverse]
theorem take_step (s : ByteArray) (k : Nat) (h : k < s.size) : s.data.toList.take (k + 1) = s.data.toList.take k ++ [s[k]] := by
  rw [List.take_add_one, Lib.data_getElem? s k h]
  rfl
end Go.Proofs.YtnjokdbblmlhhaaGreatDoor
namespace Go.Proofs.YtnjokdbblmlhhaaGreatDoor
set_option linter.unusedVariables false
set_option linter.unusedSimpArgs false
open Go.RowKit
set_option maxRecDepth 100000 in
set_option maxHeartbeats 1600000 in
theorem refStrip_any (s : ByteArray) (w : World) (h : s.size ≤ 4000000) :
    Calls Tryz.prog 113 #[.string s] w fun e w' => e = .returned (.string ⟨(strip17 s.data.toList).toArray⟩) ∧ w' = w := by
  have hst : ∀ k, remarkAt true false false 0 s.data.toList = k → strip17 s.data.toList = trimR (s.data.toList.take k) := fun k hk => by rw [strip17, hk]
  have HST := hide hst
  clear hst
  go_enter Tryz.func113, Tryz.ntmps113
  go_wp2
  go_loopg [3, 4, 5] (s.size + 1) (fun g s3 s4 s5 wx => ∃ (k : Nat) (q : Bool), k ≤ s.size + 1 ∧ s.size + 1 ≤ k + g ∧ s3 = .bool q ∧ s4 = .int .i64 s.size ∧ s5 = .int .i64 k ∧
    Hid (remarkAt true false false 0 s.data.toList = refAt s q k) ∧ Hid (wx = w))
  case atStart => exact ⟨0, false, by omega, by omega, rfl, rfl, rfl, hide (refAt_start s), hide rfl⟩
  case round =>
    obtain ⟨k, q, hk1, hkg, rfl, rfl, rfl, HP, HW⟩ := hrel
    by_cases hlt : k < s.size
    · have hlt' : (k : Int) < (s.size : Int) := by omega
      have hki : IntKind.i64.wrap ((k : Int) + 1) = (k : Int) + 1 := IntWalk.i64_in _ (by omega)
      have hki2 : IntKind.i64.wrap ((k : Int) + 1 + 1) = (k : Int) + 1 + 1 := IntWalk.i64_in _ (by omega)
      have hki3 : IntKind.i64.wrap ((k : Int) + 2) = (k : Int) + 2 := IntWalk.i64_in _ (by omega)
      have HS := hide ((unhide HP).trans (refAt_step s q k hlt))
      clear HP
      cases q with
      | true =>
        by_cases c92 : (s[k] == 92) = true
        · have j92 : ((s[k].toNat : Int) == 92) = true := by rw [i92]; exact c92
          rw [if_pos (by rw [c92]; rfl)] at HS
          clear c92
          go_wp2
          go_roundg (gk - 1)
          case measure => omega
          case rel => exact ⟨k + 2, true, by omega, by omega, rfl, rfl, by go_num, HS, HW⟩

        · have c92' : (s[k] == 92) = false := by simpa using c92
          have j92 : ((s[k].toNat : Int) == 92) = false := by rw [i92]; exact c92'
          rw [if_neg (by rw [c92']; simp)] at HS
          clear c92 c92'
          by_cases c34 : (s[k] == 34) = true
          · have j34 : ((s[k].toNat : Int) == 34) = true := by rw [i34]; exact c34
            rw [if_pos c34] at HS
            clear c34
            go_wp2
            go_roundg (gk - 1)
            case measure => omega
            case rel => exact ⟨k + 1, false, by omega, by omega, rfl, rfl, by go_num, HS, HW⟩

          · have c34' : (s[k] == 34) = false := by simpa using c34
            have j34 : ((s[k].toNat : Int) == 34) = false := by rw [i34]; exact c34'
            rw [if_neg c34, if_pos (by simp)] at HS
            clear c34 c34'
            cases c35 : (s[k] == 35)
            · have j35 : ((s[k].toNat : Int) == 35) = false := by rw [i35]; exact c35
              clear c35
              go_wp2
              go_roundg (gk - 1)
              case measure => omega
              case rel => exact ⟨k + 1, true, by omega, by omega, rfl, rfl, by go_num, HS, HW⟩

            · have j35 : ((s[k].toNat : Int) == 35) = true := by rw [i35]; exact c35
              clear c35
              go_wp2
              go_roundg (gk - 1)
              case measure => omega
              case rel => exact ⟨k + 1, true, by omega, by omega, rfl, rfl, by go_num, HS, HW⟩

      | false =>
        rw [if_neg (by simp)] at HS
        by_cases c34 : (s[k] == 34) = true
        · have j34 : ((s[k].toNat : Int) == 34) = true := by rw [i34]; exact c34
          rw [if_pos c34] at HS
          clear c34
          go_wp2
          go_roundg (gk - 1)
          case measure => omega
          case rel => exact ⟨k + 1, true, by omega, by omega, rfl, rfl, by go_num, HS, HW⟩

        · have c34' : (s[k] == 34) = false := by simpa using c34
          have j34 : ((s[k].toNat : Int) == 34) = false := by rw [i34]; exact c34'
          rw [if_neg c34] at HS
          clear c34 c34'
          by_cases c35 : (s[k] == 35) = true
          · have j35 : ((s[k].toNat : Int) == 35) = true := by rw [i35]; exact c35
            rw [if_neg (by rw [bne, c35]; simp)] at HS
            clear c35
            cases k with
            | zero =>
              rw [if_pos (show blAt s.data.toList 0 = true from rfl)] at HS
              have HF := hide (unhide HST _ (unhide HS))
              clear HS
              go_wp2
              go_loopg [4] 0 (fun g s4 wx => ∃ k2 : Nat, k2 = g ∧ k2 ≤ s.size ∧ s4 = .int .i64 k2 ∧ Hid (strip17 s.data.toList = trimR (s.data.toList.take k2)) ∧ Hid (wx = w))
              case atStart => exact ⟨0, rfl, by omega, by go_num, HF, HW⟩
              case round =>
                obtain ⟨k2, hk2, hks2, rfl, HQ, HW2⟩ := hrel
                cases gk with
                | zero =>
                  subst hk2
                  go_wp2
                  go_ret
                  refine ⟨ret_str ?_, unhide HW2⟩
                  rw [unhide HQ]
                  rfl
                | succ g2 =>
                  subst hk2
                  have hlt2 : g2 < s.size := by omega
                  have hlt3 : (g2 : Int) < (s.size : Int) := by omega
                  have hgz : (0 : Int) < (g2 : Int) + 1 := by omega
                  have hgm : IntKind.i64.wrap (g2 : Int) = (g2 : Int) := IntWalk.i64_in _ (by omega)
                  rw [take_step s g2 hlt2] at HQ
                  by_cases c32 : (s[g2] == 32) = true
                  · have j32 : ((s[g2].toNat : Int) == 32) = true := by rw [i32]; exact c32
                    rw [show s[g2] = 32 from by simpa using c32, trimR_blank] at HQ
                    clear c32
                    go_wp2
                    go_roundg g2
                    case measure => omega
                    case rel => exact ⟨g2, rfl, by omega, by go_num, HQ, HW2⟩
                  · have j32 : ((s[g2].toNat : Int) == 32) = false := by rw [i32]; simpa using c32
                    rw [trimR_stop _ _ (by simpa using c32), ← take_step s g2 hlt2] at HQ
                    clear c32
                    go_wp2
                    go_ret
                    refine ⟨ret_str ?_, unhide HW2⟩
                    rw [unhide HQ, Lib.extract_eq, List.drop_zero, Nat.sub_zero]

            | succ k' =>
              have hlt2 : k' < s.size := by omega
              have hlt3 : (k' : Int) < (s.size : Int) := by omega
              have hkm : IntKind.i64.wrap (k' : Int) = (k' : Int) := IntWalk.i64_in _ (by omega)
              have hkz : ((k' : Int) + 1 == 0) = false := by simp; omega
              have hbl := blAt_succ s k' hlt2
              rw [hbl] at HS
              by_cases c32 : (s[k'] == 32) = true
              · have j32 : ((s[k'].toNat : Int) == 32) = true := by rw [i32]; exact c32
                rw [if_pos c32] at HS
                have HF := hide (unhide HST _ (unhide HS))
                clear c32 HS hbl
                go_wp2
                go_loopg [4] (k' + 1) (fun g s4 wx => ∃ k2 : Nat, k2 = g ∧ k2 ≤ s.size ∧ s4 = .int .i64 k2 ∧ Hid (strip17 s.data.toList = trimR (s.data.toList.take k2)) ∧ Hid (wx = w))
                case atStart => exact ⟨(k' + 1), rfl, by omega, by go_num, HF, HW⟩
                case round =>
                  obtain ⟨k2, hk2, hks2, rfl, HQ, HW2⟩ := hrel
                  cases gk with
                  | zero =>
                    subst hk2
                    go_wp2
                    go_ret
                    refine ⟨ret_str ?_, unhide HW2⟩
                    rw [unhide HQ]
                    rfl
                  | succ g2 =>
                    subst hk2
                    have hlt2 : g2 < s.size := by omega
                    have hlt3 : (g2 : Int) < (s.size : Int) := by omega
                    have hgz : (0 : Int) < (g2 : Int) + 1 := by omega
                    have hgm : IntKind.i64.wrap (g2 : Int) = (g2 : Int) := IntWalk.i64_in _ (by omega)
                    rw [take_step s g2 hlt2] at HQ
                    by_cases c32 : (s[g2] == 32) = true
                    · have j32 : ((s[g2].toNat : Int) == 32) = true := by rw [i32]; exact c32
                      rw [show s[g2] = 32 from by simpa using c32, trimR_blank] at HQ
                      clear c32
                      go_wp2
                      go_roundg g2
                      case measure => omega
                      case rel => exact ⟨g2, rfl, by omega, by go_num, HQ, HW2⟩
                    · have j32 : ((s[g2].toNat : Int) == 32) = false := by rw [i32]; simpa using c32
                      rw [trimR_stop _ _ (by simpa using c32), ← take_step s g2 hlt2] at HQ
                      clear c32
                      go_wp2
                      go_ret
                      refine ⟨ret_str ?_, unhide HW2⟩
                      rw [unhide HQ, Lib.extract_eq, List.drop_zero, Nat.sub_zero]

              · have j32 : ((s[k'].toNat : Int) == 32) = false := by rw [i32]; simpa using c32
                rw [if_neg c32] at HS
                clear c32 hbl
                go_wp2
                go_roundg (gk - 1)
                case measure => omega
                case rel => exact ⟨k' + 1 + 1, false, by omega, by omega, rfl, rfl, by go_num, HS, HW⟩

          · have c35' : (s[k] == 35) = false := by simpa using c35
            have j35 : ((s[k].toNat : Int) == 35) = false := by rw [i35]; exact c35'
            rw [if_pos (by rw [bne, c35']; rfl)] at HS
            clear c35 c35'
            go_wp2
            go_roundg (gk - 1)
            case measure => omega
            case rel => exact ⟨k + 1, false, by omega, by omega, rfl, rfl, by go_num, HS, HW⟩

    · have hge : s.size ≤ k := by omega
      have hge' : (s.size : Int) ≤ (k : Int) := by omega
      have HF := hide (unhide HST _ ((unhide HP).trans (refAt_end s q k hge)))
      clear HP
      go_wp2
      go_loopg [4] s.size (fun g s4 wx => ∃ k2 : Nat, k2 = g ∧ k2 ≤ s.size ∧ s4 = .int .i64 k2 ∧ Hid (strip17 s.data.toList = trimR (s.data.toList.take k2)) ∧ Hid (wx = w))
      case atStart => exact ⟨s.size, rfl, by omega, by go_num, HF, HW⟩
      case round =>
        obtain ⟨k2, hk2, hks2, rfl, HQ, HW2⟩ := hrel
        cases gk with
        | zero =>
          subst hk2
          go_wp2
          go_ret
          refine ⟨ret_str ?_, unhide HW2⟩
          rw [unhide HQ]
          rfl
        | succ g2 =>
          subst hk2
          have hlt2 : g2 < s.size := by omega
          have hlt3 : (g2 : Int) < (s.size : Int) := by omega
          have hgz : (0 : Int) < (g2 : Int) + 1 := by omega
          have hgm : IntKind.i64.wrap (g2 : Int) = (g2 : Int) := IntWalk.i64_in _ (by omega)
          rw [take_step s g2 hlt2] at HQ
          by_cases c32 : (s[g2] == 32) = true
          · have j32 : ((s[g2].toNat : Int) == 32) = true := by rw [i32]; exact c32
            rw [show s[g2] = 32 from by simpa using c32, trimR_blank] at HQ
            clear c32
            go_wp2
            go_roundg g2
            case measure => omega
            case rel => exact ⟨g2, rfl, by omega, by go_num, HQ, HW2⟩
          · have j32 : ((s[g2].toNat : Int) == 32) = false := by rw [i32]; simpa using c32
            rw [trimR_stop _ _ (by simpa using c32), ← take_step s g2 hlt2] at HQ
            clear c32
            go_wp2
            go_ret
            refine ⟨ret_str ?_, unhide HW2⟩
            rw [unhide HQ, Lib.extract_eq, List.drop_zero, Nat.sub_zero]

end Go.Proofs.YtnjokdbblmlhhaaGreatDoor
namespace Go.Proofs.YtnjokdbblmlhhaaGreatDoor
set_option linter.unusedVariables false
set_option linter.unusedSimpArgs false
open Go.RowKit
/-- the slice v of rescriptref17.Line owns the rows rs, in blocks from base on -/
abbrev OwnR (W : World) (base : Nat) (v : Value) (rs : List (Nat × Nat × List UInt8)) : Prop := OwnL W base 122 v rs
theorem refLineInfo : (Tryz.prog.info? 122).map (fun i => (i.zero, i.size, i.bytes)) = some (some (.agg #[.int .i64 0, .int .i64 0, .string ⟨#[]⟩]), 3, 32) := by kernel_rfl
/-- the shape of an owned slice of strings -/
theorem ownS_shape {w : World} {B : Nat} {e : TypeId} {v : Value} {ls : List (List UInt8)} (h : OwnS w B e v ls) :
    ∃ ao cap, v = .slice ao ls.length cap ∧ ∀ i l, ls[i]? = some l → ∃ g, ao = some ⟨g, 0, none⟩ ∧ B ≤ g ∧ g < w.heap.size ∧ w.cell? ⟨g, i, none⟩ = some (bsOf l) := by
  unfold OwnS at h
  rcases Nat.eq_zero_or_pos ls.length with h0 | h0
  · rcases h.2 with ⟨hv, _⟩ | ⟨g, cap, cur, hv, _⟩
    · exact ⟨none, 0, by rw [hv, h0], fun i l hl => by rw [List.eq_nil_of_length_eq_zero h0] at hl; simp at hl⟩
    · exact ⟨_, _, hv, fun i l hl => by rw [List.eq_nil_of_length_eq_zero h0] at hl; simp at hl⟩
  · obtain ⟨g, cap, hv, hb, hlt⟩ := h.form h0
    refine ⟨_, _, hv, fun i l hl => ⟨g, rfl, hb, hlt, ?_⟩⟩
    subst hv
    rw [h.cellAt i (by have := (List.getElem?_eq_some_iff.1 hl).1; omega), List.getElem?_map, hl]
    rfl
theorem i127 (c : UInt8) : ((c.toNat : Int) == 127) = (c == 127) := by revert c; apply all_bytes; decide +kernel
theorem lt32 (c : UInt8) : (c < 32) ↔ ((c.toNat : Int) < 32) := by revert c; apply all_bytes; decide +kernel
theorem getByte (l : List UInt8) (k : Nat) (h : k < l.length) : (⟨l.toArray⟩ : ByteArray)[k]'(by show k < l.toArray.size; simpa using h) = l[k] := by
  show (⟨l.toArray⟩ : ByteArray).data[k]'_ = _
  simp
set_option maxRecDepth 100000 in
set_option maxHeartbeats 1600000 in
theorem refAll_utf (s : ByteArray) (w : World) (hs : s.size ≤ 1048576) (hf : 0 ≤ P03.first s.data.toList) :
    Calls Tryz.prog 70 #[.string s] w fun e w' => e = .returned (.tuple #[.slice none 0 0, faultV (check17 s.data.toList)]) ∧ Below w.heap.size w w' := by
  have hR : check17 s.data.toList = (9, (Lib.countByte (s.data.toList.take (P03.first s.data.toList).toNat) 10 : Int) + 1) := by
    rw [check17, if_neg (by rw [← Lib.size_eq]; omega), if_pos hf]
  rw [hR]
  clear hR
  have hbd := first_bd s.data.toList
  rw [← Lib.size_eq] at hbd
  generalize hp : P03.first s.data.toList = p at hf hbd ⊢
  have HP := hide hp
  clear hp
  obtain ⟨k, rfl⟩ : ∃ k : Nat, p = k := ⟨p.toNat, by omega⟩
  rw [Int.toNat_natCast]
  go_enter Tryz.func70, Tryz.ntmps70
  have hsz : (s.extract 0 k ++ ⟨#[120]⟩).size ≤ 4000000 := by
    rw [ByteArray.size_append, ByteArray.size_extract, Nat.min_eq_left (by omega)]
    show k - 0 + 1 ≤ 4000000
    omega
  have hln : (lines17 (s.extract 0 k ++ ⟨#[120]⟩ : ByteArray).data.toList).length = Lib.countByte (s.data.toList.take k) 10 + 1 := by
    rw [ByteArray.data_append, Array.toList_append, Lib.extract_data, Nat.sub_zero, List.drop_zero]
    exact lines17_x 120 (by decide) _
  go_wp2_with (first
    | (go_at_call 111; refine (refFirst_any s _ (by omega)).mono ?_; rintro e w' ⟨rfl, rfl⟩; rw [unhide HP])
    | (go_at_call 112; refine (refSplit_any _ _ hsz).mono ?_; rintro e w' ⟨v, rfl, hown, hb⟩; obtain ⟨ao, cap, rfl, _⟩ := ownS_shape hown; clear hown; have hR : w'.heap[w.heap.size]? = some (.cells #[.int .i64 0, .int .i64 0] 29) := (hb.block _ (by simp)).trans (World.alloc_heap_new w _); have hbw : Below w.heap.size w w' := ((Below.refl _ w).alloc (Nat.le_refl _) _).trans (hb.mono (by simp)); have x0 := (two_cell0 hR).1; have x1 := (two_cell0 hR).2; have x2 := (two_cell1 hR).1; have x3 := (two_cell1 hR).2))
  have hfin := two_set1 (two_set0 hR (.int .i64 9)) (.int .i64 ((lines17 (List.take k s.data.toList ++ [120])).length : Int))
  refine bodyPost_ret (results_tmp_cell rfl _ _ _ _ _ rfl (run_loadVar_row _ _ _ _ _ _ _ hfin Tryz.underlying29 rfl (by kernel_rfl))) rfl ⟨?_, below_set (below_set hbw 0 _ (Nat.le_refl _)) 1 _ (Nat.le_refl _)⟩
  rw [lines17_x 120 (by decide)]
  rfl
theorem wpList_appRow {w : World} {B : Nat} {T L : TypeId} {v : Value} {rs : List (Nat × Nat × List UInt8)} {ops : Array Oper} {rest : List Oper} {o : Oper} {a : Act} {Q : Exit → Act → World → Prop} (hgd : o.guard = none) (s x : Operand)
    (ho : o.op = .call { callee := .builtin .append, args := #[s, x], argTypes := #[L, L] }) (ht : Tryz.prog.underlying L = some (.slice T))
    (hinf : (Tryz.prog.info? T).map (fun i => (i.zero, i.size, i.bytes)) = some (some (.agg #[.int .i64 0, .int .i64 0, .string ⟨#[]⟩]), 3, 32))
    (hs : a.eval s = v) (hown : OwnL w B T v rs) (n c : Int) (b : ByteArray) (r : Nat × Nat × List UInt8) (hr : rowCells r = [.int .i64 n, .int .i64 c, .string b]) (hx : a.eval x = .slice (some ⟨w.heap.size, 0, none⟩) 1 1)
    (hlen : rs.length < 10000000) (hB : B ≤ w.heap.size)
    (h : ∀ v' w', OwnL w' B T v' (rs ++ [r]) → (w.alloc (.cells #[.int .i64 n, .int .i64 c, .string b] T)).grownBy w' v.ownBlock → wpList Tryz.prog ops Q rest (a.put o.dst v') w') :
    wpList Tryz.prog ops Q (o :: rest) a (w.alloc (.cells #[.int .i64 n, .int .i64 c, .string b] T)) := by
  obtain ⟨i, hi, hz, hsz, hby⟩ := info_parts hinf
  refine wpList_append_own_at (w := w.alloc (.cells #[.int .i64 n, .int .i64 c, .string b] T)) (P := Tryz.prog) hgd s x L ho B T i (.agg #[.int .i64 0, .int .i64 0, .string ⟨#[]⟩]) 3 32 ht hi hz hsz hby rfl (by decide) v rs.length (rowsCells rs) hs (World.ownsRow.alloc hown _)
    ⟨w.heap.size, 0, none⟩ 1 1 [.int .i64 n, .int .i64 c, .string b] hx rfl (cells3_new _ _ _ _ _) (by intro u hu; simp at hu; rcases hu with rfl | rfl | rfl <;> rfl) (by unfold maxLen; omega) (by omega) (by simp; omega) ?_
  intro v' w' h2 h3 _ h5
  refine h v' w' ?_ h3
  unfold OwnL
  rw [rowsCells_snoc, List.length_append, hr]
  exact h2
theorem cell_below {B : Nat} {a w : World} (h : Below B a w) {g : Nat} (hg : g < B) (j : Nat) : w.cell? ⟨g, j, none⟩ = a.cell? ⟨g, j, none⟩ := by
  unfold World.cell?
  simp only [h.block g hg]
theorem any_take_succ (l : List UInt8) (k : Nat) (h : k < l.length) : (l.take (k + 1)).any oddB = ((l.take k).any oddB || oddB l[k]) := by
  rw [List.take_add_one, List.getElem?_eq_getElem h, List.any_append]
  simp
theorem any_of_get (l : List UInt8) (k : Nat) (h : k < l.length) (ho : oddB l[k] = true) : l.any oddB = true := List.any_eq_true.2 ⟨_, List.getElem_mem h, ho⟩
theorem bytesOf (l : List UInt8) : ∃ b : ByteArray, bsOf l = .string b ∧ b.data.toList = l := ⟨⟨l.toArray⟩, rfl, rfl⟩
theorem trimL_drop_blank (l : List UInt8) (k : Nat) (h : k < l.length) (hc : l[k] = 32) : trimL (l.drop k) = trimL (l.drop (k + 1)) := by
  rw [List.drop_eq_getElem_cons h, hc]; rfl
theorem trimL_drop_stop (l : List UInt8) (k : Nat) (h : k < l.length) (hc : l[k] ≠ 32) : trimL (l.drop k) = l.drop k := by
  rw [List.drop_eq_getElem_cons h]
  exact List.dropWhile_cons_of_neg (by simpa using hc)
theorem data_get (s : ByteArray) (k : Nat) (h : k < s.size) (h2 : k < s.data.toList.length) : s.data.toList[k] = s[k] := rfl
theorem row_at {i k : Nat} {l : List UInt8} {tb : ByteArray} (HT : tb.data.toList = strip17 l) (HC : trimL (tb.data.toList.drop k) = trimL tb.data.toList) (hk : k < tb.size) (h32 : tb[k] ≠ 32) :
    rowOf i l = some (i + 1, k, tb.data.toList.drop k) := by
  have hl : k < tb.data.toList.length := by rw [← Lib.size_eq]; exact hk
  have h1 : trimL (strip17 l) = tb.data.toList.drop k := by
    rw [← HT, ← HC]; exact trimL_drop_stop _ k hl (by rw [data_get tb k hk hl]; exact h32)
  rw [rowOf, h1, if_neg (by rw [List.drop_eq_getElem_cons hl]; exact List.cons_ne_nil _ _), ← HT, List.length_drop]
  congr 3
  omega
theorem row_at_none {i : Nat} {l : List UInt8} {tb : ByteArray} (HT : tb.data.toList = strip17 l) (HC : trimL (tb.data.toList.drop tb.size) = trimL tb.data.toList) : rowOf i l = none := by
  rw [rowOf, if_pos]
  rw [← HT, ← HC, List.drop_eq_nil_of_le (by rw [← Lib.size_eq]; exact Nat.le_refl _)]
  rfl
set_option maxRecDepth 100000 in
set_option maxHeartbeats 3200000 in
theorem refAll_good (s : ByteArray) (w : World) (hs : s.size ≤ 1048576) (hf : P03.first s.data.toList < 0) :
    Calls Tryz.prog 70 #[.string s] w fun e w' => ∃ v, e = .returned (.tuple #[v, faultV (check17 s.data.toList)]) ∧ OwnR w' w.heap.size v (if (check17 s.data.toList).1 = 0 then rows17 s.data.toList else []) ∧ Below w.heap.size w w' := by
  have hlen : s.data.toList.length = s.size := (Lib.size_eq s).symm
  obtain ⟨R, hRR⟩ : ∃ R, check17 s.data.toList = R := ⟨_, rfl⟩
  have hch1 : ∀ j, oddLine s.data.toList = some j → R = (3, (j : Int) + 1) := fun j hj => by
    rw [← hRR, check17, if_neg (by omega), if_neg (by omega), hj]
  have hch0 : oddLine s.data.toList = none → R = (0, 0) := fun hj => by
    rw [← hRR, check17, if_neg (by omega), if_neg (by omega), hj]
  rw [hRR]
  obtain ⟨RS, hrs⟩ : ∃ RS, (if R.1 = 0 then rows17 s.data.toList else []) = RS := ⟨_, rfl⟩
  rw [hrs]
  have HRS := hide hrs
  have HR1 := hide hch1
  have HR0 := hide hch0
  clear hch1 hch0 hRR hrs
  have hnl : (lines17 s.data.toList).length ≤ 1048576 := by
    have h1 : (lines17 s.data.toList).length ≤ s.data.toList.length := by unfold lines17; rw [List.length_map]; exact rawL_le _
    omega
  have hll : ∀ l ∈ lines17 s.data.toList, l.length ≤ 1048576 := fun l hl => Nat.le_trans (lines17_le hl) (by omega)
  have HLL := hide hll
  clear hll hlen
  generalize hp : P03.first s.data.toList = p at hf
  have HP := hide hp
  clear hp
  go_enter Tryz.func70, Tryz.ntmps70
  go_wp2_with (first
    | (go_at_call 111; refine (refFirst_any s _ (by omega)).mono ?_; rintro e w' ⟨rfl, rfl⟩; rw [unhide HP])
    | (go_at_call 112; refine (refSplit_any _ _ (by omega)).mono ?_; rintro e W ⟨v, rfl, hown, hb⟩; obtain ⟨ao, cap, rfl, hcell⟩ := ownS_shape hown; clear hown; have hR : W.heap[w.heap.size]? = some (.cells #[.int .i64 0, .int .i64 0] 29) := (hb.block _ (by simp)).trans (World.alloc_heap_new w _); have hbw : Below w.heap.size w W := ((Below.refl _ w).alloc (Nat.le_refl _) _).trans (hb.mono (by simp)); have HC := hide hcell; clear hcell hb))
  obtain ⟨n, hn⟩ : ∃ n, (lines17 s.data.toList).length = n := ⟨_, rfl⟩
  rw [hn] at hnl ⊢
  have HN := hide hn
  clear hn
  have hWs : w.heap.size < W.heap.size := (Array.getElem?_eq_some_iff.1 hR).1
  go_loopg [7, 8] n (fun g s7 s8 wx => ∃ i : Nat, i + g = n ∧ s7 = .int .i64 i ∧ Hid (∀ j l, j < i → (lines17 s.data.toList)[j]? = some l → l.any oddB = false) ∧ W = wx)
  case atStart => exact ⟨0, by omega, by go_num, hide (fun j l hj => absurd hj (Nat.not_lt_zero _)), rfl⟩
  case round =>
    obtain ⟨i, hig, rfl, HO, rfl⟩ := hrel
    cases gk with
    | zero =>
      have e1 : (n : Int) = (i : Int) := by omega
      have HON := hide (oddLine_none (fun j l hj hl => unhide HO j l (by rw [unhide HN] at hj; omega) hl))
      have HRR := hide (unhide HR0 (unhide HON))
      go_wp2
      go_loopg [6, 9] n (fun g s6 s9 wx => ∃ i : Nat, i + g = n ∧ s9 = .int .i64 i ∧ OwnR wx W.heap.size s6 (rowsFrom 0 ((lines17 s.data.toList).take i)) ∧ Below W.heap.size W wx)
      case atStart => exact ⟨0, by omega, by go_num, World.ownsRow_nil _ _ _ _, Below.refl _ _⟩
      case round =>
        obtain ⟨i2, hig2, rfl, hown, hbx⟩ := hrel
        have hRx : wr.heap[w.heap.size]? = some (.cells #[.int .i64 0, .int .i64 0] 29) := (hbx.block _ hWs).trans hR
        have hbwx : Below w.heap.size w wr := hbw.trans (hbx.mono (by omega))
        cases gk with
        | zero =>
          have e2 : (n : Int) = (i2 : Int) := by omega
          have x0 := (two_cell0 hRx).1; have x1 := (two_cell0 hRx).2; have x2 := (two_cell1 hRx).1; have x3 := (two_cell1 hRx).2
          go_wp2
          refine bodyPost_ret (results_tmp_cell rfl _ _ _ _ _ rfl (run_loadVar_row _ _ _ _ _ _ _ (two_set1 (two_set0 hRx _) _) Tryz.underlying29 rfl (by kernel_rfl))) rfl ⟨u6, ?_, ?_, below_set (below_set hbwx 0 _ (Nat.le_refl _)) 1 _ (Nat.le_refl _)⟩
          · rw [unhide HRR]; rfl
          · rw [← unhide HRS, unhide HRR, if_pos rfl, rows17]
            have hall : (lines17 s.data.toList).take i2 = lines17 s.data.toList := List.take_of_length_le (by rw [unhide HN]; omega)
            rw [hall] at hown
            unfold OwnR OwnL at hown ⊢
            exact ownsRow_base (ownsRow_span (ownsRow_span hown (setCell_grown _ w.heap.size 0 _) (fun r e => by cases e; omega)) (setCell_grown _ w.heap.size 1 _) (fun r e => by cases e; omega)) (by omega)
        | succ g2 =>
          have hil : i2 < (lines17 s.data.toList).length := by rw [unhide HN]; omega
          have hgl : (lines17 s.data.toList)[i2]? = some (lines17 s.data.toList)[i2] := List.getElem?_eq_getElem hil
          have hll := unhide HLL _ (List.getElem_mem hil)
          generalize (lines17 s.data.toList)[i2] = l at hgl hll
          obtain ⟨g, rfl, hg1, hg2, hcl⟩ := unhide HC i2 l hgl
          obtain ⟨lb, hlb1, hlb2⟩ := bytesOf l
          rw [hlb1] at hcl
          have hcx := (cell_below hbx hg2 i2).trans hcl
          have hlt : (i2 : Int) < (n : Int) := by omega
          have hki : IntKind.i64.wrap ((i2 : Int) + 1) = (i2 : Int) + 1 := IntWalk.i64_in _ (by omega)
          have hlbs : lb.size ≤ 1048576 := by rw [Lib.size_eq, hlb2]; exact hll
          have HGL := hide hgl
          have HLB := hide hlb2
          have hst := rows_step (unhide HGL)
          have HST := hide hst
          have hrl : (rowsFrom 0 ((lines17 s.data.toList).take i2)).length ≤ 1048576 := by
            refine Nat.le_trans (rowsFrom_len _ _) ?_
            rw [List.length_take]
            omega
          clear hst hgl hlb1 hlb2 hcl hil
          go_wp2_with (go_at_call 113; refine (refStrip_any lb _ (by omega)).mono ?_; rintro e w5 ⟨rfl, rfl⟩; rw [unhide HLB])
          obtain ⟨tb, htb⟩ : ∃ tb : ByteArray, (⟨(strip17 l).toArray⟩ : ByteArray) = tb := ⟨_, rfl⟩
          have htb2 : tb.data.toList = strip17 l := by rw [← htb]
          rw [htb]
          clear htb
          have hts : tb.size ≤ 1048576 := by rw [Lib.size_eq, htb2]; exact Nat.le_trans (strip_len l) hll
          have HTB := hide htb2
          clear htb2
          go_loopg [11] tb.size (fun g s11 wx => ∃ k : Nat, k + g = tb.size ∧ s11 = .int .i64 k ∧ Hid (trimL (tb.data.toList.drop k) = trimL tb.data.toList) ∧ w5 = wx)
          case atStart => exact ⟨0, by omega, by go_num, hide rfl, rfl⟩
          case round =>
            obtain ⟨k, hkg, rfl, HT, rfl⟩ := hrel
            cases gk with
            | zero =>
              have e3 : (tb.size : Int) = (k : Int) := by omega
              have e4 : tb.size = k := by omega
              subst e4
              have hno := row_at_none (i := i2) (unhide HTB) (unhide HT)
              have hstep := unhide HST
              rw [hno, show (none : Option (Nat × Nat × List UInt8)).toList = [] from rfl, List.append_nil] at hstep
              rw [← hstep] at hown
              clear hstep hno
              go_wp2
              go_roundg g2
              case measure => omega
              case rel => exact ⟨i2 + 1, by omega, by go_num, hown, hbx⟩
            | succ g3 =>
              have hk : k < tb.size := by omega
              have hk2 : (k : Int) < (tb.size : Int) := by omega
              have hk3 : k < tb.data.toList.length := by rw [← Lib.size_eq]; exact hk
              have hkw : IntKind.i64.wrap ((k : Int) + 1) = (k : Int) + 1 := IntWalk.i64_in _ (by omega)
              by_cases c32 : tb[k] = 32
              · have j32 : ((tb[k].toNat : Int) == 32) = true := by rw [i32, c32]; rfl
                have HT2 := hide ((trimL_drop_blank _ k hk3 (by rw [data_get tb k hk hk3]; exact c32)).symm.trans (unhide HT))
                clear c32
                go_wp2
                go_roundg g3
                case measure => omega
                case rel => exact ⟨k + 1, by omega, by go_num, HT2, rfl⟩
              · have j32 : ((tb[k].toNat : Int) == 32) = false := by rw [i32]; simpa using c32
                have hrow := row_at (i := i2) (unhide HTB) (unhide HT) hk c32
                have hstep := unhide HST
                rw [hrow, show (some (i2 + 1, k, tb.data.toList.drop k)).toList = [(i2 + 1, k, tb.data.toList.drop k)] from rfl] at hstep
                have HSP := hide hstep
                have hrc : rowCells (i2 + 1, k, tb.data.toList.drop k) = [.int .i64 ((i2 : Int) + 1), .int .i64 (k : Int), .string (tb.extract k tb.size)] := by
                  show [Value.int .i64 (((i2 + 1 : Nat)) : Int), Value.int .i64 (k : Int), bsOf (tb.data.toList.drop k)] = _
                  rw [show bsOf (tb.data.toList.drop k) = .string (tb.extract k tb.size) from ?_, Int.natCast_add]
                  · rfl
                  · unfold bsOf
                    congr 1
                    rw [Lib.extract_eq, List.take_of_length_le (by rw [List.length_drop, ← Lib.size_eq]; exact Nat.le_refl _)]
                have HRC := hide hrc
                clear c32 hrow hstep hrc
                go_wp2_with (at_builtin; refine wpList_appRow rfl (.tmp 90) (.tmp 98) (L := 118) rfl Tryz.underlying118 refLineInfo rfl hown _ _ _ (i2 + 1, k, tb.data.toList.drop k) (unhide HRC) rfl (by omega) hbx.size ?_; intro v1 w1 hown1 hg1)
                have hb1 : Below W.heap.size W w1 := (hbx.alloc hbx.size _).grown hg1 (by have := hbx.size; simp; omega) (fun k hk => (World.ownsRow.lt hown k hk).1)
                go_roundg g2
                case measure => omega
                case rel =>
                  refine ⟨i2 + 1, by omega, by go_num, ?_, hb1⟩
                  rw [unhide HSP]
                  exact hown1
    | succ g' =>
      have hil : i < (lines17 s.data.toList).length := by rw [unhide HN]; omega
      have hgl : (lines17 s.data.toList)[i]? = some (lines17 s.data.toList)[i] := List.getElem?_eq_getElem hil
      have hll := unhide HLL _ (List.getElem_mem hil)
      generalize (lines17 s.data.toList)[i] = l at hgl hll
      obtain ⟨g, rfl, hg1, hg2, hcl⟩ := unhide HC i l hgl
      obtain ⟨lb, hlb1, hlb2⟩ := bytesOf l
      rw [hlb1] at hcl
      have hlt : (i : Int) < (n : Int) := by omega
      have hki : IntKind.i64.wrap ((i : Int) + 1) = (i : Int) + 1 := IntWalk.i64_in _ (by omega)
      have hlbs : lb.size ≤ 1048576 := by rw [Lib.size_eq, hlb2]; exact hll
      have HGL := hide hgl
      have HLB := hide hlb2
      clear hgl hlb1 hlb2 hil
      go_wp2
      go_loopg [8] lb.size (fun g s8 wx => ∃ k : Nat, k + g = lb.size ∧ s8 = .int .i64 k ∧ Hid ((l.take k).any oddB = false) ∧ W = wx)
      case atStart => exact ⟨0, by omega, by go_num, hide rfl, rfl⟩
      case round =>
        obtain ⟨k, hkg, rfl, HA, rfl⟩ := hrel
        cases gk with
        | zero =>
          have e3 : (lb.size : Int) = (k : Int) := by omega
          have HO2 := hide (show ∀ j l, j < i + 1 → (lines17 s.data.toList)[j]? = some l → l.any oddB = false from fun j l' hj hl' => by
            rcases Nat.lt_or_ge j i with h4 | h4
            · exact unhide HO j l' h4 hl'
            · obtain rfl : j = i := by omega
              rw [unhide HGL] at hl'
              cases hl'
              have := unhide HA
              rw [List.take_of_length_le (by rw [← unhide HLB, ← Lib.size_eq]; omega)] at this
              exact this)
          go_wp2
          go_roundg g'
          case measure => omega
          case rel => exact ⟨i + 1, by omega, by go_num, HO2, rfl⟩
        | succ g3 =>
          have hk : k < lb.size := by omega
          have hk2 : (k : Int) < (lb.size : Int) := by omega
          have hk3 : k < l.length := by rw [← unhide HLB, ← Lib.size_eq]; exact hk
          have hkl : l[k] = lb[k] := by
            have h1 : lb.data.toList[k]? = some lb[k] := Lib.data_getElem? lb k hk
            rw [unhide HLB, List.getElem?_eq_getElem hk3] at h1
            exact Option.some.inj h1
          have hkw : IntKind.i64.wrap ((k : Int) + 1) = (k : Int) + 1 := IntWalk.i64_in _ (by omega)
          have hst := any_take_succ l k hk3
          rw [unhide HA, hkl, Bool.false_or] at hst
          have hst2 : oddB lb[k] = true → l.any oddB = true := fun ho => any_of_get l k hk3 (by rw [hkl]; exact ho)
          have HS := hide hst
          have HS2 := hide hst2
          clear hst hst2 hkl
          by_cases c1 : lb[k] < 32
          · have j1 : (lb[k].toNat : Int) < 32 := (lt32 _).1 c1
            have HOD := hide (unhide HR1 i (oddLine_some (unhide HO) (unhide HGL) (unhide HS2 (by simp [oddB, c1]))))
            clear c1
            have x0 := (two_cell0 hR).1; have x1 := (two_cell0 hR).2; have x2 := (two_cell1 hR).1; have x3 := (two_cell1 hR).2
            go_wp2
            refine bodyPost_ret (results_tmp_cell rfl _ _ _ _ _ rfl (run_loadVar_row _ _ _ _ _ _ _ (two_set1 (two_set0 hR _) _) Tryz.underlying29 rfl (by kernel_rfl))) rfl ⟨.slice none 0 0, ?_, ?_, below_set (below_set hbw 0 _ (Nat.le_refl _)) 1 _ (Nat.le_refl _)⟩
            · rw [unhide HOD]; rfl
            · rw [← unhide HRS, unhide HOD, if_neg (show ¬ (3 : Int) = 0 by decide)]; exact World.ownsRow_nil _ _ _ _
          · have j1 : 32 ≤ (lb[k].toNat : Int) := by have := mt (lt32 lb[k]).2 c1; omega
            by_cases c2 : lb[k] = 127
            · have j2 : ((lb[k].toNat : Int) == 127) = true := by rw [i127, c2]; rfl
              have HOD := hide (unhide HR1 i (oddLine_some (unhide HO) (unhide HGL) (unhide HS2 (by simp [oddB, c2]))))
              clear c1 c2
              have x0 := (two_cell0 hR).1; have x1 := (two_cell0 hR).2; have x2 := (two_cell1 hR).1; have x3 := (two_cell1 hR).2
              go_wp2
              refine bodyPost_ret (results_tmp_cell rfl _ _ _ _ _ rfl (run_loadVar_row _ _ _ _ _ _ _ (two_set1 (two_set0 hR _) _) Tryz.underlying29 rfl (by kernel_rfl))) rfl ⟨.slice none 0 0, ?_, ?_, below_set (below_set hbw 0 _ (Nat.le_refl _)) 1 _ (Nat.le_refl _)⟩
              · rw [unhide HOD]; rfl
              · rw [← unhide HRS, unhide HOD, if_neg (show ¬ (3 : Int) = 0 by decide)]; exact World.ownsRow_nil _ _ _ _
            · have j2 : ((lb[k].toNat : Int) == 127) = false := by rw [i127]; simpa using c2
              have HA2 := hide ((unhide HS).trans (show oddB lb[k] = false by simp [oddB, c1, c2]))
              clear c1 c2
              go_wp2
              go_roundg g3
              case measure => omega
              case rel => exact ⟨k + 1, by omega, by go_num, HA2, rfl⟩
theorem refAll_any (s : ByteArray) (w : World) (hs : s.size ≤ 1048576) :
    Calls Tryz.prog 70 #[.string s] w fun e w' => ∃ v, e = .returned (.tuple #[v, faultV (check17 s.data.toList)]) ∧ OwnR w' w.heap.size v (if (check17 s.data.toList).1 = 0 then rows17 s.data.toList else []) ∧ Below w.heap.size w w' := by
  by_cases hf : 0 ≤ P03.first s.data.toList
  · refine (refAll_utf s w hs hf).mono ?_
    rintro e w' ⟨rfl, hb⟩
    refine ⟨_, rfl, ?_, hb⟩
    have : (check17 s.data.toList).1 ≠ 0 := by rw [check17, if_neg (by rw [← Lib.size_eq]; omega), if_pos hf]; simp
    rw [if_neg this]
    exact World.ownsRow_nil _ _ _ _
  · exact refAll_good s w hs (by omega)
theorem lineAll_any (s : ByteArray) (w : World) (hs : s.size ≤ 1048576) :
    Calls Tryz.prog 63 #[.string s] w fun e w' => ∃ v, e = .returned (.tuple #[v, faultV (check17 s.data.toList)]) ∧ OwnL w' w.heap.size 107 v (if (check17 s.data.toList).1 = 0 then rows17 s.data.toList else []) ∧ Below w.heap.size w w' := by
  by_cases hf : (check17 s.data.toList).1 = 0
  · refine (All_good s w hs hf).mono ?_
    rintro e w' ⟨v, rfl, ho, hb⟩
    rw [if_pos hf, check_zero hf]
    exact ⟨v, rfl, ho, hb⟩
  · refine (All_bad s w hs hf).mono ?_
    rintro e w' ⟨rfl, hb⟩
    rw [if_neg hf]
    exact ⟨_, rfl, World.ownsRow_nil _ _ _ _, hb⟩
end Go.Proofs.YtnjokdbblmlhhaaGreatDoor
namespace Go.Proofs.YtnjokdbblmlhhaaGreatDoor
set_option linter.unusedVariables false
set_option linter.unusedSimpArgs false
open Go.RowKit Go.Shelf
/-- the slice v of lines may be read: each has its number, how far it is moved in, its text -/
def RdL (w : World) (B : Nat) (v : Value) (rs : List (Int × Int × ByteArray)) : Prop :=
  ∃ ao cap, v = .slice ao rs.length cap ∧ ∀ i r, rs[i]? = some r → ∃ g o, ao = some ⟨g, o, none⟩ ∧ g < B ∧ w.cell? ⟨g, o + i * 3, none⟩ = some (.int .i64 r.1) ∧ w.cell? ⟨g, o + i * 3 + 1, none⟩ = some (.int .i64 r.2.1) ∧ w.cell? ⟨g, o + i * 3 + 2, none⟩ = some (.string r.2.2)
/-- a line as Join writes it -/
def joinRow (r : Int × Int × ByteArray) : List UInt8 := List.replicate (min (max r.2.1 0) 100).toNat 32 ++ r.2.2.data.toList ++ [10]
def joinT (rs : List (Int × Int × ByteArray)) : List UInt8 := rs.flatMap joinRow
theorem joinT_snoc (rs : List (Int × Int × ByteArray)) (r : Int × Int × ByteArray) : joinT (rs ++ [r]) = joinT rs ++ joinRow r := by simp [joinT]
theorem joinT_take (rs : List (Int × Int × ByteArray)) (i : Nat) (r : Int × Int × ByteArray) (h : rs[i]? = some r) : joinT (rs.take (i + 1)) = joinT (rs.take i) ++ joinRow r ∧ (joinT (rs.take i)).length + (joinRow r).length ≤ (joinT rs).length := by
  have e1 : rs.take (i + 1) = rs.take i ++ [r] := by rw [List.take_add_one, h]; rfl
  have e2 : joinT (rs.take (i + 1)) = joinT (rs.take i) ++ joinRow r := by rw [e1, joinT_snoc]
  refine ⟨e2, ?_⟩
  have e3 : joinT rs = joinT (rs.take (i + 1)) ++ joinT (rs.drop (i + 1)) := by
    unfold joinT
    rw [← List.flatMap_append, List.take_append_drop]
  rw [e3, e2]
  simp only [List.length_append]
  omega
theorem joinT_len : ∀ l : List (Int × Int × ByteArray), l.length ≤ (joinT l).length
  | [] => Nat.zero_le _
  | a :: r => by
    have h1 : (joinT (a :: r)).length = (joinRow a).length + (joinT r).length := by simp [joinT]
    have h2 : 1 ≤ (joinRow a).length := by simp [joinRow]; omega
    have h3 := joinT_len r
    rw [h1, List.length_cons]
    omega
theorem Bld.alloc {w : World} {b : Nat} {p : Value} {l : List UInt8} (h : Bld w b p l) (o : Obj) : Bld (w.alloc o) b p l := by
  obtain ⟨v, h1, h2⟩ := h
  exact ⟨v, (Below.heap_alloc _ _ _ (Array.getElem?_eq_some_iff.1 h1).1).trans h1, World.ownsRow.alloc h2 o⟩
theorem cells3_of {X : World} {g : Nat} {a b c : Value} {t : TypeId} (h : X.heap[g]? = some (.cells #[a, b, c] t)) : X.cell? ⟨g, 0, none⟩ = some a ∧ X.cell? ⟨g, 1, none⟩ = some b ∧ X.cell? ⟨g, 2, none⟩ = some c := by simp [World.cell?, h]
theorem String_any (b : Nat) (p : Value) (l : List UInt8) (w : World) (h : Bld w b p l) (hp : p = .pointer none ∨ p = .pointer (some ⟨b, 0, none⟩)) :
    Calls Tryz.prog 40 #[.pointer (some ⟨b, 0, none⟩)] w fun e w' => ∃ o : ByteArray, e = .returned (.string o) ∧ Hid (o.data.toList = l) ∧ Below b w w' := by
  obtain ⟨v, h1, h2⟩ := h
  have e1 : Lib.byteCells l = l.map bc := rfl
  have hA : Lib.BuilderAt 69 5 b b p (Lib.byteCells l) w := by
    refine ⟨Nat.le_refl _, v, h1, ?_, fun e => by have := (OwnB.lt h2 b e).1; omega⟩
    rw [e1, List.length_map]
    exact ownsRow_base h2 (by omega)
  have hI : Lib.IsBuilder 69 5 b b (Lib.byteCells l) w := by
    rcases hp with rfl | rfl
    · exact .inl hA
    · exact .inr hA
  refine (Tryz.Builder_String_any b b l w hI (by have := (Array.getElem?_eq_some_iff.1 h1).1; omega)).mono ?_
  rintro e w' ⟨rfl, hb⟩
  exact ⟨_, rfl, rfl, hb⟩
end Go.Proofs.YtnjokdbblmlhhaaGreatDoor
namespace Go.Proofs.YtnjokdbblmlhhaaGreatDoor
set_option linter.unusedVariables false
set_option linter.unusedSimpArgs false
open Go.RowKit Go.Shelf
end Go.Proofs.YtnjokdbblmlhhaaGreatDoor
namespace Go.Proofs.YtnjokdbblmlhhaaGreatDoor
set_option linter.unusedVariables false
set_option linter.unusedSimpArgs false
open Go.RowKit Go.Shelf
/-- a row as it is read -/
def castR (r : Nat × Nat × List UInt8) : Int × Int × ByteArray := (r.1, r.2.1, ⟨r.2.2.toArray⟩)
theorem rowsCells_get : ∀ (rs : List (Nat × Nat × List UInt8)) (i : Nat) (r : Nat × Nat × List UInt8), rs[i]? = some r → (rowsCells rs)[i * 3]? = some (.int .i64 r.1) ∧ (rowsCells rs)[i * 3 + 1]? = some (.int .i64 r.2.1) ∧ (rowsCells rs)[i * 3 + 2]? = some (bsOf r.2.2)
  | [], i, r, h => by simp at h
  | a :: rs, 0, r, h => by
    simp at h
    subst h
    exact ⟨rfl, rfl, rfl⟩
  | a :: rs, i + 1, r, h => by
    have ih := rowsCells_get rs i r (by simpa using h)
    have e : rowsCells (a :: rs) = rowCells a ++ rowsCells rs := rfl
    have l3 : (rowCells a).length = 3 := rfl
    rw [e, List.getElem?_append_right (by omega), List.getElem?_append_right (by omega), List.getElem?_append_right (by omega), l3]
    rw [show (i + 1) * 3 - 3 = i * 3 from by omega, show (i + 1) * 3 + 1 - 3 = i * 3 + 1 from by omega, show (i + 1) * 3 + 2 - 3 = i * 3 + 2 from by omega]
    exact ih
theorem rdl_of_own {w : World} {B : Nat} {e : TypeId} {v : Value} {rs : List (Nat × Nat × List UInt8)} (h : OwnL w B e v rs) : RdL w w.heap.size v (rs.map castR) := by
  unfold OwnL at h
  rcases Nat.eq_zero_or_pos rs.length with h0 | h0
  · have hnil := List.eq_nil_of_length_eq_zero h0
    subst hnil
    obtain ⟨ao, m, cap, hv⟩ := own_slice h
    rcases h.2 with ⟨hv, _⟩ | ⟨g, cap, cur, hv, _⟩
    · exact ⟨_, _, hv, fun i r hr => by simp at hr⟩
    · exact ⟨_, _, hv, fun i r hr => by simp at hr⟩
  · obtain ⟨g, cap, hv, hb, hlt⟩ := h.form h0
    subst hv
    refine ⟨_, _, by rw [List.length_map], fun i r hr => ⟨g, 0, rfl, hlt, ?_⟩⟩
    rw [List.getElem?_map, Option.map_eq_some_iff] at hr
    obtain ⟨a, ha, rfl⟩ := hr
    obtain ⟨c0, c1, c2⟩ := rowsCells_get rs i a ha
    have hi : i < rs.length := (List.getElem?_eq_some_iff.1 ha).1
    rw [Nat.zero_add, h.cellAt _ (by omega), h.cellAt _ (by omega), h.cellAt _ (by omega)]
    exact ⟨c0, c1, c2⟩
theorem RdL.below {w w' : World} {B : Nat} {v : Value} {rs : List (Int × Int × ByteArray)} (h : RdL w B v rs) (hb : Below B w w') {B' : Nat} (hB : B ≤ B') : RdL w' B' v rs := by
  obtain ⟨ao, cap, hv, hc⟩ := h
  refine ⟨ao, cap, hv, fun i r hr => ?_⟩
  obtain ⟨g, o, h1, h2, h3, h4, h5⟩ := hc i r hr
  exact ⟨g, o, h1, by omega, (cell_below hb h2 _).trans h3, (cell_below hb h2 _).trans h4, (cell_below hb h2 _).trans h5⟩
theorem live1 : check17 [97, 10, 32, 32, 10, 35, 32, 120, 10, 32, 32, 98, 32, 35, 32, 99] = (0, 0) ∧ rows17 [97, 10, 32, 32, 10, 35, 32, 120, 10, 32, 32, 98, 32, 35, 32, 99] = [(1, 0, [97]), (4, 2, [98])] := by decide +kernel
theorem live2 : check17 [97, 10, 9, 98] = (3, 2) := by decide +kernel
theorem live3 : check17 [97, 10, 255] = (9, 2) := by decide +kernel
theorem live4 : strip17 [97, 32, 34, 98, 32, 35, 32, 99, 34, 32, 35, 32, 100] = [97, 32, 34, 98, 32, 35, 32, 99, 34] := by decide +kernel
theorem liveA (w : World) : Calls Tryz.prog 63 #[.string ⟨#[97, 10, 32, 32, 10, 35, 32, 120, 10, 32, 32, 98, 32, 35, 32, 99]⟩] w fun e w' => ∃ g cap, e = .returned (.tuple #[.slice (some ⟨g, 0, none⟩) 2 cap, .agg #[.int .i64 0, .int .i64 0]]) ∧ g < w'.heap.size ∧
    w'.cell? ⟨g, 3, none⟩ = some (.int .i64 4) ∧ w'.cell? ⟨g, 4, none⟩ = some (.int .i64 2) ∧ w'.cell? ⟨g, 5, none⟩ = some (.string ⟨#[98]⟩) ∧ Hid (RdL w' w'.heap.size (.slice (some ⟨g, 0, none⟩) 2 cap) [(1, 0, ⟨#[97]⟩), (4, 2, ⟨#[98]⟩)]) ∧ Below w.heap.size w w' := by
  refine (lineAll_any _ w (by decide)).mono ?_
  rintro e w' ⟨v, rfl, ho, hb⟩
  rw [live1.1, live1.2, if_pos rfl] at ho
  rw [live1.1]
  have hr := rdl_of_own ho
  obtain ⟨ao, cap, hv, hc⟩ := hr
  obtain ⟨g, o, h1, h2, h3, h4, h5⟩ := hc 1 (4, 2, ⟨#[98]⟩) rfl
  subst hv
  subst h1
  have ho2 : o = 0 := by
    obtain ⟨g', cap', hv', _, _⟩ := World.ownsRow.form ho (by decide)
    simp at hv'
    exact hv'.1.2
  subst ho2
  exact ⟨g, cap, rfl, h2, h3, h4, h5, ⟨_, _, rfl, hc⟩, hb⟩
theorem liveB (w : World) : Calls Tryz.prog 63 #[.string ⟨#[97, 10, 9, 98]⟩] w fun e w' => ∃ v, e = .returned (.tuple #[v, .agg #[.int .i64 3, .int .i64 2]]) ∧ Below w.heap.size w w' := by
  refine (lineAll_any _ w (by decide)).mono ?_
  rintro e w' ⟨v, rfl, ho, hb⟩
  rw [live2]
  exact ⟨v, rfl, hb⟩
theorem liveC (w : World) : Calls Tryz.prog 63 #[.string ⟨#[97, 10, 255]⟩] w fun e w' => ∃ v, e = .returned (.tuple #[v, .agg #[.int .i64 9, .int .i64 2]]) ∧ Below w.heap.size w w' := by
  refine (lineAll_any _ w (by decide)).mono ?_
  rintro e w' ⟨v, rfl, ho, hb⟩
  rw [live3]
  exact ⟨v, rfl, hb⟩
theorem liveS (w : World) : Calls Tryz.prog 100 #[.string ⟨#[97, 32, 34, 98, 32, 35, 32, 99, 34, 32, 35, 32, 100]⟩] w fun e w' => e = .returned (.string ⟨#[97, 32, 34, 98, 32, 35, 32, 99, 34]⟩) ∧ ∃ n, w' = w.drewN n := by
  refine (Strip_any _ w (by decide)).mono ?_
  rintro e w' ⟨rfl, hb⟩
  rw [show (⟨#[97, 32, 34, 98, 32, 35, 32, 99, 34, 32, 35, 32, 100]⟩ : ByteArray).data.toList = [97, 32, 34, 98, 32, 35, 32, 99, 34, 32, 35, 32, 100] from rfl, live4]
  exact ⟨rfl, hb⟩
theorem lines17_len (s : List UInt8) : (lines17 s).length = (rawL s).length := by unfold lines17; rw [List.length_map]
theorem rows_len (s : List UInt8) (R : Int) : (if R = 0 then rows17 s else []).length ≤ s.length := by
  split
  · refine Nat.le_trans (rowsFrom_len _ _) ?_
    rw [lines17_len]
    exact rawL_le _
  · exact Nat.zero_le _
end Go.Proofs.YtnjokdbblmlhhaaGreatDoor
