/- Slices of tokens that a call owns.; walks of rescriptref19: tok, skip, value; walks of tok.sign, part.tok, part.behind, part.none -/
import Derived.Test.YtnjokdbblmlhhaaGreatDoorGP
import Derived.Test.YtnjokdbblmlhhaaGreatDoorGR17
import Derived.Test.YtnjokdbblmlhhaaGreatDoorWR18d
import Derived.Test.YtnjokdbblmlhhaaGreatDoorShelf
import Derived.Test.YtnjokdbblmlhhaaGreatDoorGV17
namespace Go.Proofs.YtnjokdbblmlhhaaGreatDoor
set_option linter.unusedVariables false
set_option linter.unusedSimpArgs false
open Go.RowKit
/-- a token as a value -/
def tkV (t : Tk) : Value := .agg #[.int .u8 t.1, bsOf t.2.1, .int .i64 t.2.2.1, .int .i64 t.2.2.2]
def tkCells (t : Tk) : List Value := [.int .u8 t.1, bsOf t.2.1, .int .i64 t.2.2.1, .int .i64 t.2.2.2]
theorem four_set {W : World} {g : Nat} {t : TypeId} {a b c d : Value} (h : W.heap[g]? = some (.cells #[a, b, c, d] t)) (v0 v1 v2 v3 : Value) :
    ((((W.setCell ⟨g, 0, none⟩ v0).setCell ⟨g, 1, none⟩ v1).setCell ⟨g, 2, none⟩ v2).setCell ⟨g, 3, none⟩ v3).heap[g]? = some (.cells #[v0, v1, v2, v3] t) := by
  simp [World.setCell, Array.getElem?_modify, h]
theorem four_cell {W : World} {g : Nat} {t : TypeId} {a b c d : Value} (h : W.heap[g]? = some (.cells #[a, b, c, d] t)) :
    (W.cell? ⟨g, 0, none⟩ = some a ∧ W.frozen? ⟨g, 0, none⟩ = false) ∧ (W.cell? ⟨g, 1, none⟩ = some b ∧ W.frozen? ⟨g, 1, none⟩ = false) ∧ (W.cell? ⟨g, 2, none⟩ = some c ∧ W.frozen? ⟨g, 2, none⟩ = false) ∧ (W.cell? ⟨g, 3, none⟩ = some d ∧ W.frozen? ⟨g, 3, none⟩ = false) := by
  simp [World.cell?, World.frozen?, h]
def tksCells (ts : List Tk) : List Value := ts.flatMap tkCells
theorem tksCells_append (a b : List Tk) : tksCells (a ++ b) = tksCells a ++ tksCells b := by simp [tksCells]
/-- the slice v owns the tokens ts -/
def OwnT (W : World) (B : Nat) (v : Value) (ts : List Tk) : Prop := W.ownsRow B 124 4 v ts.length (tksCells ts)
theorem tokInfo : (Tryz.prog.info? 124).map (fun i => (i.zero, i.size, i.bytes)) = some (some (.agg #[.int .u8 0, .string ⟨#[]⟩, .int .i64 0, .int .i64 0]), 4, 40) := by kernel_rfl
theorem tksCells_len : ∀ ts : List Tk, (tksCells ts).length = ts.length * 4
  | [] => rfl
  | t :: ts => by
    have ih := tksCells_len ts
    have e : tksCells (t :: ts) = tkCells t ++ tksCells ts := rfl
    rw [e, List.length_append, ih, List.length_cons]
    show 4 + _ = _
    omega
theorem own_one (W : World) (B : Nat) (t : Tk) (hB : B ≤ W.heap.size) (cs : Array Value) (hc : cs.toList = tkCells t) : OwnT (W.alloc (.cells cs 124)) B (.slice (some ⟨W.heap.size, 0, none⟩) 1 1) [t] := by
  have hs : cs.size = 1 * 4 := by rw [← Array.length_toList, hc]; rfl
  have h := World.ownsRow_lit (e := 124) (size := 4) W cs 1 hB (by unfold maxLen; omega) hs
  unfold OwnT
  have e : tksCells [t] = cs.toList := by rw [hc]; simp [tksCells]
  rw [e]
  exact h
theorem own_one' (W : World) (B H : Nat) (t : Tk) (hH : W.heap.size = H) (hB : B ≤ W.heap.size) (cs : Array Value) (hc : cs.toList = tkCells t) : OwnT (W.alloc (.cells cs 124)) B (.slice (some ⟨H, 0, none⟩) 1 1) [t] := by
  rw [← hH]
  exact own_one W B t hB cs hc
theorem tk_one : ∀ (ts : List Tk), ∀ u ∈ tksCells ts, u.oneCell' = true := by
  intro ts u hu
  simp only [tksCells, List.mem_flatMap] at hu
  obtain ⟨t, _, ht⟩ := hu
  simp only [tkCells, List.mem_cons, List.not_mem_nil, or_false] at ht
  rcases ht with rfl | rfl | rfl | rfl <;> rfl
theorem wpList_appToks {w : World} {B : Nat} {v : Value} {ts more : List Tk} {ops : Array Oper} {rest : List Oper} {o : Oper} {a : Act} {Q : Exit → Act → World → Prop} (hgd : o.guard = none) (s x : Operand)
    (ho : o.op = .call { callee := .builtin .append, args := #[s, x], argTypes := #[55, 55] })
    (hs : a.eval s = v) (hown : OwnT w B v ts) (g cap m : Nat) (hm : more.length = m) (hx : a.eval x = .slice (some ⟨g, 0, none⟩) m cap) (hnews : ∀ j u, (tksCells more)[j]? = some u → w.cell? ((⟨g, 0, none⟩ : Addr).add j) = some u)
    (hlen : ts.length + m ≤ 1000000000) (hB : B ≤ w.heap.size)
    (h : ∀ v' w', OwnT w' B v' (ts ++ more) → w.grownBy w' v.ownBlock → wpList Tryz.prog ops Q rest (a.put o.dst v') w') :
    wpList Tryz.prog ops Q (o :: rest) a w := by
  obtain ⟨i, hi, hz, hsz, hby⟩ := info_parts tokInfo
  refine wpList_append_own_at (w := w) (P := Tryz.prog) hgd s x 55 ho B 124 i (.agg #[.int .u8 0, .string ⟨#[]⟩, .int .i64 0, .int .i64 0]) 4 40 Tryz.underlying55 hi hz hsz hby rfl (by decide) v ts.length (tksCells ts) hs hown
    ⟨g, 0, none⟩ m cap (tksCells more) hx (by rw [tksCells_len, hm]) hnews (tk_one more) (by unfold maxLen; omega) (by omega) hB ?_
  intro v' w' h2 h3 _ h5
  refine h v' w' ?_ h3
  unfold OwnT
  rw [tksCells_append, List.length_append, hm]
  exact h2
end Go.Proofs.YtnjokdbblmlhhaaGreatDoor
namespace Go.Proofs.YtnjokdbblmlhhaaGreatDoor
set_option linter.unusedVariables false
set_option linter.unusedSimpArgs false
open Go.RowKit
set_option maxRecDepth 100000 in
set_option maxHeartbeats 800000 in
theorem reftok_any (k : Nat) (t : ByteArray) (n col : Int) (w : World) :
    Calls Tryz.prog 72 #[.int .u8 k, .string t, .int .i64 n, .int .i64 col] w fun e w' => e = .returned (.agg #[.int .u8 k, .string t, .int .i64 n, .int .i64 col]) ∧ Below w.heap.size w w' := by
  go_enter Tryz.func72, Tryz.ntmps72
  go_wp2
  refine bodyPost_ret (results_cell_row rfl _ _ _ _ _ _ _ rfl (World.alloc_heap_new w (.cells #[.int .u8 k, .string t, .int .i64 n, .int .i64 col] 124)) Tryz.underlying124 rfl (by kernel_rfl)) rfl ⟨rfl, ?_⟩
  exact (Below.refl _ w).alloc (Nat.le_refl _) _
theorem skip_at (s : ByteArray) (k : Nat) (h : k < s.size) : P19.skip (s.data.toList.drop k) = if s[k] = 32 then P19.skip (s.data.toList.drop (k + 1)) + 1 else 0 := by
  have hl : k < s.data.toList.length := by rw [← Lib.size_eq]; exact h
  rw [drop_byte s k h]
  unfold P19.skip
  by_cases h32 : s[k] = 32
  · rw [if_pos h32, h32, List.takeWhile_cons_of_pos (by rfl), List.length_cons]
  · rw [if_neg h32, List.takeWhile_cons_of_neg (by simpa using h32)]
    rfl
set_option maxRecDepth 100000 in
set_option maxHeartbeats 800000 in
theorem refskip_any (s : ByteArray) (w : World) (h : s.size ≤ 4000000) :
    Calls Tryz.prog 114 #[.string s] w fun e w' => e = .returned (.int .i64 (P19.skip s.data.toList)) ∧ w' = w := by
  go_enter Tryz.func114, Tryz.ntmps114
  go_wp2
  go_loopg [3] s.size (fun g s3 wx => ∃ k : Nat, k + g = s.size ∧ s3 = .int .i64 k ∧ Hid (P19.skip s.data.toList = k + P19.skip (s.data.toList.drop k)) ∧ w = wx)
  case atStart => exact ⟨0, by omega, by go_num, hide (by rw [List.drop_zero, Nat.zero_add]), rfl⟩
  case round =>
    obtain ⟨k, hkg, rfl, HP, rfl⟩ := hrel
    cases gk with
    | zero =>
      have e1 : (s.size : Int) = (k : Int) := by omega
      have hn : s.data.toList.drop k = [] := List.drop_eq_nil_of_le (by rw [← Lib.size_eq]; omega)
      rw [hn] at HP
      clear hn
      go_wp2
      go_ret
      exact ⟨ret_int (by rw [unhide HP]; rfl), rfl⟩
    | succ g' =>
      have hk : k < s.size := by omega
      have hk2 : (k : Int) < (s.size : Int) := by omega
      have hkw : IntKind.i64.wrap ((k : Int) + 1) = (k : Int) + 1 := IntWalk.i64_in _ (by omega)
      rw [skip_at s k hk] at HP
      by_cases c32 : s[k] = 32
      · have j32 : ((s[k].toNat : Int) == 32) = true := by rw [i32, c32]; rfl
        rw [if_pos c32] at HP
        clear c32
        go_wp2
        go_roundg g'
        case measure => omega
        case rel => exact ⟨k + 1, by omega, by go_num, hide (by rw [unhide HP]; omega), rfl⟩
      · have j32 : ((s[k].toNat : Int) == 32) = false := by rw [i32]; simpa using c32
        rw [if_neg c32] at HP
        clear c32
        go_wp2
        go_ret
        exact ⟨ret_int (by rw [unhide HP]; rfl), rfl⟩
theorem str_eq_iff (s : ByteArray) (l : List UInt8) : (s.toList == l) = decide (s.data.toList = l) := by
  rw [Lib.toList_data]
  by_cases h : s.data.toList = l
  · rw [h]; simp
  · rw [decide_eq_false h]; simpa using h
theorem str_of {s : ByteArray} {l : List UInt8} (h : s.data.toList = l) : s = ⟨l.toArray⟩ := P18.bytes_ext h
theorem str_ne {s : ByteArray} {l : List UInt8} (h : s.data.toList ≠ l) : (s.toList == l) = false := by rw [str_eq_iff, decide_eq_false h]
theorem ne_list {s : ByteArray} {l : List UInt8} (h : s.data.toList ≠ l) : (s.toList == (⟨l.toArray⟩ : ByteArray).toList) = false := by
  rw [Lib.toList_data, Lib.toList_data, beq_eq_false_iff_ne]
  simpa using h
theorem results_cell_tmp {fn : Func} {p u : Tmp} {ty : TypeId} (h : fn.results = #[.cell p ty, .tmp u]) (tmps : Array Value) (P : Program) (w : World) (g : Nat) (v : Value)
    (hp : tmps.getD p undef = .pointer (some ⟨g, 0, none⟩)) (hl : (loadVar ty ⟨g, 0, none⟩).run P w = .ok v w) :
    (results fn tmps).run P w = .ok (.tuple #[v, tmps.getD u undef]) w := by
  have hp' : tmps[p]?.getD undef = .pointer (some ⟨g, 0, none⟩) := by simpa using hp
  simp [results, h, hp', asAddr, Sem.run_bind, Result.andThen, hl]
theorem below_four {w W : World} {g : Nat} (h : Below w.heap.size w W) (hg : w.heap.size ≤ g) (v0 v1 v2 v3 : Value) : Below w.heap.size w ((((W.setCell ⟨g, 0, none⟩ v0).setCell ⟨g, 1, none⟩ v1).setCell ⟨g, 2, none⟩ v2).setCell ⟨g, 3, none⟩ v3) :=
  below_set (below_set (below_set (below_set h 0 _ hg) 1 _ hg) 2 _ hg) 3 _ hg
set_option maxRecDepth 100000 in
set_option maxHeartbeats 1600000 in
theorem refvalue_none (s : ByteArray) (k : Nat) (n col : Int) (w : World) (h : s = ⟨#[91, 93]⟩ ∧ k = 6 ∨ s = ⟨#[123, 125]⟩ ∧ k = 7) :
    Calls Tryz.prog 115 #[.string s, .int .i64 n, .int .i64 col] w fun e w' => e = .returned (.tuple #[.agg #[.int .u8 k, .string ⟨#[]⟩, .int .i64 n, .int .i64 col], .int .i64 0]) ∧ Below w.heap.size w w' := by
  rcases h with ⟨rfl, rfl⟩ | ⟨rfl, rfl⟩
  all_goals
    go_enter Tryz.func115, Tryz.ntmps115
    go_wp2_with (go_at_call 72; refine (reftok_any _ _ _ _ _).mono ?_; rintro e w' ⟨rfl, hb⟩; have hbx : w'.heap[w.heap.size]? = some (.cells #[.int .u8 0, .string ⟨#[]⟩, .int .i64 0, .int .i64 0] 124) := (hb.block _ (by simp)).trans (World.alloc_heap_new w _); have hbw : Below w.heap.size w w' := ((Below.refl _ w).alloc (Nat.le_refl _) _).trans (hb.mono (by simp)); obtain ⟨⟨x0, y0⟩, ⟨x1, y1⟩, ⟨x2, y2⟩, ⟨x3, y3⟩⟩ := four_cell hbx)
    refine bodyPost_ret (results_cell_tmp rfl _ _ _ _ _ rfl (run_loadVar_row _ _ _ _ _ _ _ (four_set hbx _ _ _ _) Tryz.underlying124 rfl (by kernel_rfl))) rfl ⟨rfl, ?_⟩
    exact below_four hbw (Nat.le_refl _) _ _ _ _
set_option maxRecDepth 100000 in
set_option maxHeartbeats 1600000 in
theorem refvalue_any (s : ByteArray) (n col : Int) (w : World) (h : s.size ≤ 100000) :
    Calls Tryz.prog 115 #[.string s, .int .i64 n, .int .i64 col] w fun e w' => e = .returned (.tuple #[tkV (P19.value n col s.data.toList).1, .int .i64 (P19.value n col s.data.toList).2]) ∧ Below w.heap.size w w' := by
  by_cases h1 : s.data.toList = [91, 93]
  · have e1 : P19.value n col s.data.toList = ((6, [], n, col), 0) := by rw [P19.value, if_pos h1]
    rw [e1]
    exact refvalue_none s 6 n col w (.inl ⟨str_of h1, rfl⟩)
  by_cases h2 : s.data.toList = [123, 125]
  · have e1 : P19.value n col s.data.toList = ((7, [], n, col), 0) := by rw [P19.value, if_neg h1, if_pos h2]
    rw [e1]
    exact refvalue_none s 7 n col w (.inr ⟨str_of h2, rfl⟩)
  have n1 := ne_list h1
  have n2 := ne_list h2
  have n3 := str_ne h1
  have n4 := str_ne h2
  have hcut := refCut_any s
  have hsz := Lib.size_eq s
  have hv : P19.value n col s.data.toList = if (P18.cut s.data.toList).2 ≠ 0 ∨ (P18.cut s.data.toList).1 ≠ s.size then ((0, [], 0, 0), 3) else ((5, (P18.read s.data.toList).1, n, col), (P18.read s.data.toList).2) := by
    rw [P19.value, if_neg h1, if_neg h2, hsz]
  clear h1 h2
  obtain ⟨⟨k, c⟩, hkc⟩ : ∃ x, P18.cut s.data.toList = x := ⟨_, rfl⟩
  obtain ⟨⟨t, e⟩, hte⟩ : ∃ x, P18.read s.data.toList = x := ⟨_, rfl⟩
  have hrd := refRead_any s
  rw [hkc] at hv
  simp only [hkc] at hcut
  rw [hte] at hv
  simp only [hte] at hrd
  have HCUT := hide hcut
  have HRD := hide hrd
  clear hcut hrd hkc hte hsz
  by_cases hbad : c ≠ 0 ∨ k ≠ s.size
  · rw [if_pos hbad] at hv
    rw [hv]
    clear hv
    unfold tkV bsOf
    have hj : c ≠ 0 ∨ (c = 0 ∧ k ≠ s.size) := by omega
    clear hbad
    rcases hj with hc | ⟨hc, hk⟩
    · have jc : ((c : Int) != 0) = true := by simp; omega
      go_enter Tryz.func115, Tryz.ntmps115
      go_wp2_with (go_at_call 116; refine (unhide HCUT _ (by omega)).mono ?_; rintro e w' ⟨rfl, rfl⟩)
      refine bodyPost_ret (results_cell_tmp rfl _ _ _ _ _ rfl (run_loadVar_row _ _ _ _ _ _ _ (World.alloc_heap_new w (.cells #[.int .u8 0, .string ⟨#[]⟩, .int .i64 0, .int .i64 0] 124)) Tryz.underlying124 rfl (by kernel_rfl))) rfl ⟨rfl, ?_⟩
      exact (Below.refl _ w).alloc (Nat.le_refl _) _
    · have jk : ((k : Int) != (s.size : Int)) = true := by simp; omega
      have jc : ((c : Int) != 0) = false := by simp; omega
      clear hk hc
      go_enter Tryz.func115, Tryz.ntmps115
      go_wp2_with (go_at_call 116; refine (unhide HCUT _ (by omega)).mono ?_; rintro e w' ⟨rfl, rfl⟩)
      refine bodyPost_ret (results_cell_tmp rfl _ _ _ _ _ rfl (run_loadVar_row _ _ _ _ _ _ _ (World.alloc_heap_new w (.cells #[.int .u8 0, .string ⟨#[]⟩, .int .i64 0, .int .i64 0] 124)) Tryz.underlying124 rfl (by kernel_rfl))) rfl ⟨rfl, ?_⟩
      exact (Below.refl _ w).alloc (Nat.le_refl _) _
  · rw [if_neg hbad] at hv
    rw [hv]
    clear hv
    have jc : ((c : Int) != 0) = false := by simp; omega
    have jk : ((k : Int) != (s.size : Int)) = false := by simp; omega
    clear hbad
    unfold tkV
    go_enter Tryz.func115, Tryz.ntmps115
    go_wp2_with (first
      | (go_at_call 116; refine (unhide HCUT _ (by omega)).mono ?_; rintro e w' ⟨rfl, rfl⟩)
      | (go_at_call 117; refine (unhide HRD _ (by omega)).mono ?_; rintro e' w1 ⟨b, rfl, hb, hbl⟩; have hbb : b = ⟨t.toArray⟩ := str_of hb; subst hbb; have hbx : w1.heap[w.heap.size]? = some (.cells #[.int .u8 0, .string ⟨#[]⟩, .int .i64 0, .int .i64 0] 124) := (hbl.block _ (by simp)).trans (World.alloc_heap_new w _); have hbw : Below w.heap.size w w1 := ((Below.refl _ w).alloc (Nat.le_refl _) _).trans (hbl.mono (by simp)); clear hbl hb)
      | (go_at_call 72; refine (reftok_any _ _ _ _ _).mono ?_; rintro e' w2 ⟨rfl, hb2⟩; have hbx2 : w2.heap[w.heap.size]? = some (.cells #[.int .u8 0, .string ⟨#[]⟩, .int .i64 0, .int .i64 0] 124) := (hb2.block _ (Array.getElem?_eq_some_iff.1 hbx).1).trans hbx; have hbw2 : Below w.heap.size w w2 := hbw.trans (hb2.mono hbw.size); obtain ⟨⟨x0, y0⟩, ⟨x1, y1⟩, ⟨x2, y2⟩, ⟨x3, y3⟩⟩ := four_cell hbx2))
    refine bodyPost_ret (results_cell_tmp rfl _ _ _ _ _ rfl (run_loadVar_row _ _ _ _ _ _ _ (four_set hbx2 _ _ _ _) Tryz.underlying124 rfl (by kernel_rfl))) rfl ⟨rfl, ?_⟩
    exact below_four hbw2 (Nat.le_refl _) _ _ _ _
end Go.Proofs.YtnjokdbblmlhhaaGreatDoor
namespace Go.Proofs.YtnjokdbblmlhhaaGreatDoor
set_option linter.unusedVariables false
set_option linter.unusedSimpArgs false
open Go.RowKit Go.Shelf
theorem extract_drop' (s : ByteArray) (k : Nat) : (s.extract k s.size).data.toList = s.data.toList.drop k := by
  rw [Lib.extract_data, List.take_of_length_le (by rw [List.length_drop, ← Lib.size_eq]; exact Nat.le_refl _)]
theorem alloc2_new (w : World) (o1 o2 : Obj) : ((w.alloc o1).alloc o2).heap[w.heap.size + 1]? = some o2 := by
  have h := World.alloc_heap_new (w.alloc o1) o2
  rw [World.size_alloc] at h
  exact h
theorem hasPrefix_nil (c : UInt8) : Lib.hasPrefix [] [c] = false := rfl
theorem hasPrefix_one (a c : UInt8) (r : List UInt8) : Lib.hasPrefix (a :: r) [c] = (a == c) := by
  show (List.isPrefixOf [c] (a :: r)) = _
  simp only [List.isPrefixOf, Bool.and_true]
  by_cases h : a = c
  · subst h; simp
  · rw [beq_eq_false_iff_ne.2 h, beq_eq_false_iff_ne.2 (fun e => h e.symm)]
theorem trimPrefix_yes (c : UInt8) (r : List UInt8) : Lib.trimPrefix (c :: r) [c] = r := by
  unfold Lib.trimPrefix
  rw [hasPrefix_one]
  simp
theorem trimPrefix_no {l : List UInt8} {c : UInt8} (h : Lib.hasPrefix l [c] = false) : Lib.trimPrefix l [c] = l := by
  unfold Lib.trimPrefix
  rw [h]
  simp
set_option maxRecDepth 100000 in
set_option maxHeartbeats 800000 in
theorem tokpart_any (n col : Int) (s t : ByteArray) (k : Nat) (w : World) :
    Calls Tryz.prog 165 #[.agg #[.int .i64 n, .int .i64 col, .string s], .int .u8 k, .string t] w fun e w' => e = .returned (.agg #[.int .u8 k, .string t, .int .i64 n, .int .i64 col]) ∧ Below w.heap.size w w' := by
  go_enter Tryz.func165, Tryz.ntmps165
  go_wp2
  have h0 := World.alloc_heap_new (w.alloc (.cells #[.int .i64 n, .int .i64 col, .string s] 187)) (.cells #[.int .u8 k, .string t, .int .i64 n, .int .i64 col] 124)
  rw [World.size_alloc] at h0
  refine bodyPost_ret (results_cell_row rfl _ _ _ _ _ _ _ rfl h0 Tryz.underlying124 rfl (by kernel_rfl)) rfl ⟨rfl, ?_⟩
  exact ((Below.refl _ w).alloc (Nat.le_refl _) _).alloc (by simp) _
set_option maxRecDepth 100000 in
set_option maxHeartbeats 800000 in
theorem sign_any (s : ByteArray) (c : UInt8) (w : World) (h : s.size ≤ 1100000) :
    Calls Tryz.prog 164 #[.string s, .string ⟨#[c]⟩] w fun e w' => e = .returned (.bool (P19.signB c s.data.toList)) ∧ w' = w := by
  have hcp := Tryz.strings_CutPrefix s ⟨#[c]⟩ w
  have hx : (⟨#[c]⟩ : ByteArray).data.toList = [c] := rfl
  rw [hx] at hcp
  clear hx
  cases hp : Lib.hasPrefix s.data.toList [c] with
  | false =>
    have hs : P19.signB c s.data.toList = false := by
      cases hl : s.data.toList with
      | nil => rfl
      | cons a r =>
        rw [hl, hasPrefix_one] at hp
        simp [P19.signB, hp]
    rw [hs]
    rw [hp, trimPrefix_no hp] at hcp
    have HCP := hide hcp
    clear hcp hs hp
    go_enter Tryz.func164, Tryz.ntmps164
    go_wp2_with (go_at_call 180; refine (unhide HCP).mono ?_; rintro e w' ⟨rfl, hw⟩; rw [hw]; clear hw)
    go_ret
    exact ⟨rfl, rfl⟩
  | true =>
    obtain ⟨r, hl⟩ : ∃ r, s.data.toList = c :: r := by
      cases hl : s.data.toList with
      | nil => rw [hl] at hp; cases hp
      | cons a r =>
        rw [hl, hasPrefix_one] at hp
        exact ⟨r, by rw [show a = c from by simpa using hp]⟩
    rw [hp, hl, trimPrefix_yes] at hcp
    rw [hl]
    cases r with
    | nil =>
      rw [show P19.signB c [c] = true from by simp [P19.signB]]
      have HCP := hide hcp
      clear hcp hp hl
      go_enter Tryz.func164, Tryz.ntmps164
      go_wp2_with (go_at_call 180; refine (unhide HCP).mono ?_; rintro e w' ⟨rfl, hw⟩; rw [hw]; clear hw)
      go_ret
      exact ⟨rfl, rfl⟩
    | cons b r =>
      rw [show P19.signB c (c :: b :: r) = (b == 32) from by simp [P19.signB]]
      have hhp := Tryz.strings_HasPrefix ⟨(b :: r).toArray⟩ ⟨#[32]⟩ w
      have hx : Lib.hasPrefix (⟨(b :: r).toArray⟩ : ByteArray).data.toList (⟨#[32]⟩ : ByteArray).data.toList = (b == 32) := hasPrefix_one b 32 r
      rw [hx] at hhp
      have HHP := hide hhp
      have hne : (⟨(b :: r).toArray⟩ : ByteArray).toList.isEmpty = false := by rw [Lib.toList_data]; rfl
      obtain ⟨lb, hlb⟩ : ∃ lb : ByteArray, (⟨(b :: r).toArray⟩ : ByteArray) = lb := ⟨_, rfl⟩
      rw [hlb] at hcp HHP hne
      have HCP := hide hcp
      clear hcp hp hl hhp hx hlb
      go_enter Tryz.func164, Tryz.ntmps164
      go_wp2_with (first
        | (go_at_call 180; refine (unhide HCP).mono ?_; rintro e w' ⟨rfl, hw⟩; rw [hw]; clear hw)
        | (go_at_call 149; refine (unhide HHP).mono ?_; rintro e w' ⟨rfl, hw⟩; rw [hw]; clear hw))
      go_ret
      exact ⟨rfl, rfl⟩
theorem trimL_skip (s : ByteArray) (k : Nat) : trimL (s.data.toList.drop k) = s.data.toList.drop (k + P19.skip (s.data.toList.drop k)) := by
  rw [← P19.skip_drop, List.drop_drop]
set_option maxRecDepth 100000 in
set_option maxHeartbeats 800000 in
/-- what is left of a part behind k bytes, and blanks -/
theorem behind_part (n col : Int) (s : ByteArray) (k : Nat) (w : World) (hs : s.size ≤ 1100000) (hk : k ≤ s.size) (hc0 : 0 ≤ col) (hc1 : col ≤ 1000000000) :
    Calls Tryz.prog 166 #[.agg #[.int .i64 n, .int .i64 col, .string s], .int .i64 k] w fun e w' => ∃ b : ByteArray, e = .returned (.agg #[.int .i64 n, .int .i64 (col + (k + P19.skip (s.data.toList.drop k) : Nat)), .string b]) ∧ b.data.toList = s.data.toList.drop (k + P19.skip (s.data.toList.drop k)) ∧ Below w.heap.size w w' := by
  obtain ⟨q, hq⟩ : ∃ q, P19.skip (s.data.toList.drop k) = q := ⟨_, rfl⟩
  have hql : k + q ≤ s.size := by
    have h1 := P19.skip_le (s.data.toList.drop k)
    rw [hq, List.length_drop, ← Lib.size_eq] at h1
    omega
  have htr := TrimLB_any (s.extract k s.size)
  rw [extract_drop', trimL_skip, hq] at htr
  rw [hq]
  have HTR := hide htr
  have hk' : (k : Int) ≤ (s.size : Int) := by omega
  clear htr hq
  go_enter Tryz.func166, Tryz.ntmps166
  go_wp2_with (go_at_call 101; refine (unhide HTR _).mono ?_; rintro e w1 ⟨o, rfl, HO, hw⟩; rw [hw]; clear hw; have hos : o.size = s.size - (k + q) := (by rw [Lib.size_eq, unhide HO, List.length_drop, ← Lib.size_eq]); have hz : IntKind.i64.wrap (IntKind.i64.wrap (col + (s.size : Int)) - (o.size : Int)) = col + ((k + q : Nat) : Int) := (by rw [IntWalk.i64_in (col + (s.size : Int)) (by omega), IntWalk.i64_in _ (by omega)]; omega))
  have hzz : col + (s.size : Int) - ((s.size - (k + q) : Nat) : Int) = col + ((k + q : Nat) : Int) := by omega
  have h0 := World.alloc_heap_new (w.alloc (.cells #[.int .i64 n, .int .i64 col, .string s] 187)) (.cells #[.int .i64 n, .int .i64 (col + (s.size : Int) - ((s.size - (k + q) : Nat) : Int)), .string o] 187)
  rw [World.size_alloc] at h0
  refine bodyPost_ret (results_cell_row rfl _ _ _ _ _ _ _ rfl h0 Tryz.underlying187 rfl (by kernel_rfl)) rfl ⟨o, ?_, unhide HO, ?_⟩
  · rw [hzz]
  · exact ((Below.refl _ w).alloc (Nat.le_refl _) _).alloc (by simp) _
set_option maxRecDepth 100000 in
set_option maxHeartbeats 1600000 in
theorem none_yes (n col : Int) (s : ByteArray) (k : Nat) (w : World) (h : s = ⟨#[91, 93]⟩ ∧ k = 6 ∨ s = ⟨#[123, 125]⟩ ∧ k = 7) :
    Calls Tryz.prog 167 #[.agg #[.int .i64 n, .int .i64 col, .string s]] w fun e w' => e = .returned (.tuple #[.agg #[.int .u8 k, .string ⟨#[]⟩, .int .i64 n, .int .i64 col], .bool true]) ∧ Below w.heap.size w w' := by
  rcases h with ⟨rfl, rfl⟩ | ⟨rfl, rfl⟩
  all_goals
    go_enter Tryz.func167, Tryz.ntmps167
    go_wp2_with (go_at_call 165; refine (tokpart_any _ _ _ _ _ _).mono ?_; rintro e w' ⟨rfl, hb⟩; have hbx : w'.heap[w.heap.size + 1]? = some (.cells #[.int .u8 0, .string ⟨#[]⟩, .int .i64 0, .int .i64 0] 124) := (hb.block _ (by simp)).trans (alloc2_new _ _ _); have hbw : Below w.heap.size w w' := (((Below.refl _ w).alloc (Nat.le_refl _) _).alloc (by simp) _).trans (hb.mono (by simp; omega)); obtain ⟨⟨x0, y0⟩, ⟨x1, y1⟩, ⟨x2, y2⟩, ⟨x3, y3⟩⟩ := four_cell hbx)
    refine bodyPost_ret (results_cell_tmp rfl _ _ _ _ _ rfl (run_loadVar_row _ _ _ _ _ _ _ (four_set hbx _ _ _ _) Tryz.underlying124 rfl (by kernel_rfl))) rfl ⟨rfl, ?_⟩
    exact below_four hbw (by omega) _ _ _ _
set_option maxRecDepth 100000 in
set_option maxHeartbeats 1600000 in
theorem none_no (n col : Int) (s : ByteArray) (w : World) (h1 : s.data.toList ≠ [91, 93]) (h2 : s.data.toList ≠ [123, 125]) :
    Calls Tryz.prog 167 #[.agg #[.int .i64 n, .int .i64 col, .string s]] w fun e w' => e = .returned (.tuple #[.agg #[.int .u8 0, .string ⟨#[]⟩, .int .i64 0, .int .i64 0], .bool false]) ∧ Below w.heap.size w w' := by
  have n1 := ne_list h1
  have n2 := ne_list h2
  have n3 := str_ne h1
  have n4 := str_ne h2
  clear h1 h2
  go_enter Tryz.func167, Tryz.ntmps167
  go_wp2
  refine bodyPost_ret (results_cell_tmp rfl _ _ _ _ _ rfl (run_loadVar_row _ _ _ _ _ _ _ (alloc2_new w (.cells #[.int .i64 n, .int .i64 col, .string s] 187) (.cells #[.int .u8 0, .string ⟨#[]⟩, .int .i64 0, .int .i64 0] 124)) Tryz.underlying124 rfl (by kernel_rfl))) rfl ⟨rfl, ?_⟩
  exact ((Below.refl _ w).alloc (Nat.le_refl _) _).alloc (by simp) _
end Go.Proofs.YtnjokdbblmlhhaaGreatDoor
