/- walks of rescriptref17.Split: a slice of strings that the call makes -/
import Derived.Test.YtbnheebblicgkaaDoorPlain17
import Derived.Test.YtbnheebblicgkaaDoorBytes
import Derived.Test.YtbnheebblicgkaaDoorW17a
namespace Go.Proofs.YtbnheebblicgkaaDoor
set_option linter.unusedVariables false
set_option linter.unusedSimpArgs false
open Go.RowKit
/-- the slice value v owns the strings ls -/
def OwnS (w : World) (B : Nat) (e : TypeId) (v : Value) (ls : List (List UInt8)) : Prop := w.ownsRow B e 1 v ls.length (ls.map bsOf)
theorem strInfo : (Tryd.prog.info? 9).map (fun i => (i.zero, i.size, i.bytes)) = some (some (.string ⟨#[]⟩), 1, 16) := by kernel_rfl
theorem wpList_appStr {w : World} {B : Nat} {v : Value} {ls : List (List UInt8)} {ops : Array Oper} {rest : List Oper} {o : Oper} {a : Act} {Q : Exit → Act → World → Prop} (hgd : o.guard = none) (s x : Operand) (t : TypeId)
    (ho : o.op = .call { callee := .builtin .append, args := #[s, x], argTypes := #[t, t] }) (ht : Tryd.prog.underlying t = some (.slice 9))
    (hs : a.eval s = v) (hown : OwnS w B 9 v ls) (b : ByteArray) (hx : a.eval x = .slice (some ⟨w.heap.size, 0, none⟩) 1 1)
    (hlen : ls.length < 10000000) (hB : B ≤ w.heap.size)
    (h : ∀ v' w', OwnS w' B 9 v' (ls ++ [b.data.toList]) → (w.alloc (.cells #[.string b] 9)).grownBy w' v.ownBlock → wpList Tryd.prog ops Q rest (a.put o.dst v') w') :
    wpList Tryd.prog ops Q (o :: rest) a (w.alloc (.cells #[.string b] 9)) := by
  obtain ⟨i, hi, hz, hsz, hby⟩ := info_parts strInfo
  refine wpList_append_own_at (w := w.alloc (.cells #[.string b] 9)) (P := Tryd.prog) hgd s x t ho B 9 i (.string ⟨#[]⟩) 1 16 ht hi hz hsz hby rfl (by decide) v ls.length (ls.map bsOf) hs (World.ownsRow.alloc hown _)
    ⟨w.heap.size, 0, none⟩ 1 1 [.string b] hx rfl (cell_one_new _ _ _) (by intro u hu; simp at hu; subst hu; rfl) (by unfold maxLen; omega) (by omega) (by simp; omega) ?_
  intro v' w' h2 h3 _ h5
  refine h v' w' ?_ h3
  unfold OwnS
  rw [List.map_append, List.length_append]
  exact h2
theorem below_appStr {w w' w0 : World} {v : Value} {ls : List (List UInt8)} {o : Obj} (hb : Below w0.heap.size w0 w) (hown : OwnS w w0.heap.size 9 v ls) (hg : (w.alloc o).grownBy w' v.ownBlock) : Below w0.heap.size w0 w' :=
  (hb.alloc hb.size o).grown hg (by have := hb.size; simp; omega) (fun k hk => (World.ownsRow.lt hown k hk).1)
theorem i10 (c : UInt8) : ((c.toNat : Int) == 10) = (c == 10) := by revert c; apply all_bytes; decide +kernel
theorem one_byte (s : ByteArray) (k : Nat) (h : k < s.size) : (s.extract k (k + 1)).data.toList = [s[k]] := by
  have hl : k < s.data.toList.length := by rw [← Lib.size_eq]; exact h
  rw [Lib.extract_data, List.drop_eq_getElem_cons hl, Nat.add_sub_cancel_left]
  rfl
theorem drop_byte (s : ByteArray) (k : Nat) (h : k < s.size) : s.data.toList.drop k = s[k] :: s.data.toList.drop (k + 1) := by
  have hl : k < s.data.toList.length := by rw [← Lib.size_eq]; exact h
  rw [List.drop_eq_getElem_cons hl]
  rfl
set_option maxRecDepth 100000 in
set_option maxHeartbeats 800000 in
theorem refSplit_any (s : ByteArray) (w : World) (h : s.size ≤ 4000000) :
    Calls Tryd.prog 15 #[.string s] w fun e w' => ∃ v, e = .returned v ∧ OwnS w' w.heap.size 9 v (lines17 s.data.toList) ∧ Below w.heap.size w w' := by
  rw [← splitA_nil]
  go_enter Tryd.func15, Tryd.ntmps15
  go_wp2
  go_loopg [3, 4, 5] s.size (fun g s3 s4 s5 wx => ∃ (k : Nat) (done : List (List UInt8)) (now : ByteArray), k + g = s.size ∧ s4 = .string now ∧ s5 = .int .i64 k ∧ now.size ≤ k ∧ done.length ≤ k ∧ OwnS wx w.heap.size 9 s3 done ∧ Below w.heap.size w wx ∧
    Hid (splitA [] s.data.toList = done ++ splitA now.data.toList (s.data.toList.drop k)))
  case atStart => exact ⟨0, [], ⟨#[]⟩, by omega, rfl, rfl, Nat.le_refl _, Nat.le_refl _, World.ownsRow_nil _ _ _ _, Below.refl _ _, hide rfl⟩
  case round =>
    obtain ⟨k, done, now, hkg, rfl, rfl, hnk, hdk, hown, hb, HP⟩ := hrel
    cases gk with
    | zero =>
      have e1 : (s.size : Int) = (k : Int) := by omega
      have hend : s.data.toList.drop k = [] := List.drop_eq_nil_of_le (by rw [← Lib.size_eq]; omega)
      rw [hend, splitA] at HP
      clear hend
      go_wp2_with (at_builtin; refine wpList_appStr rfl (.tmp 29) (.tmp 31) 34 rfl Tryd.underlying34 rfl hown now rfl (by omega) hb.size ?_; intro v1 w1 hown1 hg1; have hb1 := below_appStr hb hown hg1)
      · have hne : (!now.toList.isEmpty) = true := by assumption
        have hne2 : now.data.toList ≠ [] := fun e => by rw [Lib.toList_data, e] at hne; cases hne
        go_ret
        refine ⟨_, rfl, ?_, hb1⟩
        rw [unhide HP, if_neg hne2]
        exact hown1
      · have hne : (!now.toList.isEmpty) = false := by assumption
        have hne2 : now.data.toList = [] := by
          rw [Lib.toList_data] at hne
          cases hd : now.data.toList with
          | nil => rfl
          | cons a t => rw [hd] at hne; cases hne
        go_ret
        refine ⟨_, rfl, ?_, hb⟩
        rw [unhide HP, if_pos hne2, List.append_nil]
        exact hown
    | succ g' =>
      have hlt : k < s.size := by omega
      have hlt' : (k : Int) < (s.size : Int) := by omega
      have hki : IntKind.i64.wrap ((k : Int) + 1) = (k : Int) + 1 := IntWalk.i64_in _ (by omega)
      rw [drop_byte s k hlt, splitA] at HP
      by_cases c10 : (s[k] == 10) = true
      · have j10 : ((s[k].toNat : Int) == 10) = true := by rw [i10]; exact c10
        rw [if_pos (by simpa using c10)] at HP
        clear c10
        go_wp2_with (at_builtin; refine wpList_appStr rfl (.tmp 16) (.tmp 18) 34 rfl Tryd.underlying34 rfl hown now rfl (by omega) hb.size ?_; intro v1 w1 hown1 hg1; have hb1 := below_appStr hb hown hg1)
        go_roundg g'
        case measure => omega
        case rel => exact ⟨k + 1, done ++ [now.data.toList], ⟨#[]⟩, by omega, rfl, by go_num, Nat.zero_le _, by simp; omega, hown1, hb1, hide (by rw [unhide HP]; simp)⟩
      · have j10 : ((s[k].toNat : Int) == 10) = false := by rw [i10]; simpa using c10
        rw [if_neg (by simpa using c10)] at HP
        clear c10
        have hex : (s.extract k (k + 1)).size = 1 := by rw [Lib.size_eq, one_byte s k hlt]; rfl
        have hex2 := one_byte s k hlt
        have HE := hide hex
        have HE2 := hide hex2
        clear hex hex2
        go_wp2
        go_roundg g'
        case measure => omega
        case rel =>
          refine ⟨k + 1, done, now ++ s.extract k (k + 1), by omega, rfl, by go_num, ?_, by omega, hown, hb, hide ?_⟩
          · rw [ByteArray.size_append, unhide HE]; omega
          · rw [unhide HP]
            congr 2
            rw [ByteArray.data_append, Array.toList_append, unhide HE2]
end Go.Proofs.YtbnheebblicgkaaDoor
