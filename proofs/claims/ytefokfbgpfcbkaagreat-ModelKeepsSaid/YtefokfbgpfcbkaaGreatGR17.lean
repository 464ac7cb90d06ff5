/- walks of rescriptref17.Split: a slice of strings that the call makes; Plain words of rescriptref17.Strip against strip17.; walks of rescriptref17.Strip; walks of rescriptref17.All; walk of line.Join; walks of layer 17's laws: same, live; walk of layer 17's laws: live -/
import Derived.Test.YtefokfbgpfcbkaaGreatGP
import Derived.Test.YtefokfbgpfcbkaaGreatGA
import Derived.Test.YtefokfbgpfcbkaaGreatGW17
import Derived.Test.YtefokfbgpfcbkaaGreatGV17
namespace Go.Proofs.YtefokfbgpfcbkaaGreat
set_option linter.unusedVariables false
set_option linter.unusedSimpArgs false
open Go.RowKit
/-- the slice value v owns the strings ls -/
def OwnS (w : World) (B : Nat) (e : TypeId) (v : Value) (ls : List (List UInt8)) : Prop := w.ownsRow B e 1 v ls.length (ls.map bsOf)
theorem strInfo : (Tryz.prog.info? 9).map (fun i => (i.zero, i.size, i.bytes)) = some (some (.string ⟨#[]⟩), 1, 16) := by kernel_rfl
theorem wpList_appStr {w : World} {B : Nat} {v : Value} {ls : List (List UInt8)} {ops : Array Oper} {rest : List Oper} {o : Oper} {a : Act} {Q : Exit → Act → World → Prop} (hgd : o.guard = none) (s x : Operand) (t : TypeId)
    (ho : o.op = .call { callee := .builtin .append, args := #[s, x], argTypes := #[t, t] }) (ht : Tryz.prog.underlying t = some (.slice 9))
    (hs : a.eval s = v) (hown : OwnS w B 9 v ls) (b : ByteArray) (hx : a.eval x = .slice (some ⟨w.heap.size, 0, none⟩) 1 1)
    (hlen : ls.length < 10000000) (hB : B ≤ w.heap.size)
    (h : ∀ v' w', OwnS w' B 9 v' (ls ++ [b.data.toList]) → (w.alloc (.cells #[.string b] 9)).grownBy w' v.ownBlock → wpList Tryz.prog ops Q rest (a.put o.dst v') w') :
    wpList Tryz.prog ops Q (o :: rest) a (w.alloc (.cells #[.string b] 9)) := by
  obtain ⟨i, hi, hz, hsz, hby⟩ := info_parts strInfo
  refine wpList_append_own_at (w := w.alloc (.cells #[.string b] 9)) (P := Tryz.prog) hgd s x t ho B 9 i (.string ⟨#[]⟩) 1 16 ht hi hz hsz hby rfl (by decide) v ls.length (ls.map bsOf) hs (World.ownsRow.alloc hown _)
    ⟨w.heap.size, 0, none⟩ 1 1 [.string b] hx rfl (cell_one_new _ _ _) (by intro u hu; simp at hu; subst hu; rfl) (by unfold maxLen; omega) (by omega) (by simp; omega) ?_
  intro v' w' h2 h3 _ h5
  refine h v' w' ?_ h3
  unfold OwnS
  rw [List.map_append, List.length_append]
  exact h2
theorem below_appStr {w w' w0 : World} {v : Value} {ls : List (List UInt8)} {o : Obj} (hb : Below w0.heap.size w0 w) (hown : OwnS w w0.heap.size 9 v ls) (hg : (w.alloc o).grownBy w' v.ownBlock) : Below w0.heap.size w0 w' :=
  (hb.alloc hb.size o).grown hg (by have := hb.size; simp; omega) (fun k hk => (World.ownsRow.lt hown k hk).1)
theorem i10 (c : UInt8) : ((c.toNat : Int) == 10) = (c == 10) := by revert c; apply all_bytes; decide +kernel
theorem one_byte (s : ByteArray) (k : Nat) (h : k < s.size) : (s.extract k (k + 1)).data.toList = [s[k]] := by
  have hl : k < s.data.toList.length := by rw [← Lib.size_eq]; exact h
  rw [Lib.extract_data, List.drop_eq_getElem_cons hl, Nat.add_sub_cancel_left]
  rfl
theorem drop_byte (s : ByteArray) (k : Nat) (h : k < s.size) : s.data.toList.drop k = s[k] :: s.data.toList.drop (k + 1) := by
  have hl : k < s.data.toList.length := by rw [← Lib.size_eq]; exact h
  rw [List.drop_eq_getElem_cons hl]
  rfl
end Go.Proofs.YtefokfbgpfcbkaaGreat
namespace Go.Proofs.YtefokfbgpfcbkaaGreat
set_option linter.unusedVariables false
set_option linter.unusedSimpArgs false
open Go.RowKit
/-- where the reference's loop stands: at k, within quotes or not -/
def refAt (s : ByteArray) (q : Bool) (k : Nat) : Nat := remarkAt (blAt s.data.toList k) q false (min k s.size) (s.data.toList.drop k)
theorem refAt_start (s : ByteArray) : remarkAt true false false 0 s.data.toList = refAt s false 0 := by
  unfold refAt; rw [Nat.zero_min]; rfl
theorem refAt_end (s : ByteArray) (q : Bool) (k : Nat) (h : s.size ≤ k) : refAt s q k = s.size := by
  unfold refAt
  rw [List.drop_eq_nil_of_le (by rw [← Lib.size_eq]; exact h), remarkAt, Nat.min_eq_right h]
theorem refAt_step (s : ByteArray) (q : Bool) (k : Nat) (h : k < s.size) : refAt s q k =
    if q && s[k] == 92 then refAt s q (k + 2)
    else if s[k] == 34 then refAt s (!q) (k + 1)
    else if q || s[k] != 35 then refAt s q (k + 1)
    else if blAt s.data.toList k then k
    else refAt s q (k + 1) := by
  have h1 : refAt s q k = remarkAt (blAt s.data.toList k) q false k (s.data.toList.drop k) := by unfold refAt; rw [Nat.min_eq_left (Nat.le_of_lt h)]
  have h2 : ∀ q', remarkAt (blAt s.data.toList (k + 1)) q' false (k + 1) (s.data.toList.drop (k + 1)) = refAt s q' (k + 1) := fun q' => by unfold refAt; rw [Nat.min_eq_left h]
  rw [h1, remark_step s k q false h, if_neg (by simp), h2, h2]
  by_cases h3 : (q && s[k] == 92) = true
  · rw [if_pos h3, if_pos h3]
    by_cases h4 : k + 1 < s.size
    · rw [remark_step s (k + 1) q true h4, if_pos rfl]
      unfold refAt
      rw [Nat.min_eq_left h4]
    · rw [refAt_end s q (k + 2) (by omega), remark_end s (k + 1) _ _ _ (by omega)]
      omega
  · rw [if_neg h3, if_neg h3]
theorem trimR_nil : trimR [] = [] := rfl
theorem trimR_blank (l : List UInt8) : trimR (l ++ [32]) = trimR l := by simp [trimR]
theorem trimR_stop (l : List UInt8) (c : UInt8) (h : c ≠ 32) : trimR (l ++ [c]) = l ++ [c] := by
  unfold trimR
  rw [List.reverse_append, List.reverse_singleton, List.singleton_append, List.dropWhile_cons_of_neg (by simpa using h), List.reverse_cons, List.reverse_reverse]
theorem take_step (s : ByteArray) (k : Nat) (h : k < s.size) : s.data.toList.take (k + 1) = s.data.toList.take k ++ [s[k]] := by
  rw [List.take_add_one, Lib.data_getElem? s k h]
  rfl
end Go.Proofs.YtefokfbgpfcbkaaGreat
namespace Go.Proofs.YtefokfbgpfcbkaaGreat
set_option linter.unusedVariables false
set_option linter.unusedSimpArgs false
open Go.RowKit
end Go.Proofs.YtefokfbgpfcbkaaGreat
namespace Go.Proofs.YtefokfbgpfcbkaaGreat
set_option linter.unusedVariables false
set_option linter.unusedSimpArgs false
open Go.RowKit
/-- the shape of an owned slice of strings -/
theorem ownS_shape {w : World} {B : Nat} {e : TypeId} {v : Value} {ls : List (List UInt8)} (h : OwnS w B e v ls) :
    ∃ ao cap, v = .slice ao ls.length cap ∧ ∀ i l, ls[i]? = some l → ∃ g, ao = some ⟨g, 0, none⟩ ∧ B ≤ g ∧ g < w.heap.size ∧ w.cell? ⟨g, i, none⟩ = some (bsOf l) := by
  unfold OwnS at h
  rcases Nat.eq_zero_or_pos ls.length with h0 | h0
  · rcases h.2 with ⟨hv, _⟩ | ⟨g, cap, cur, hv, _⟩
    · exact ⟨none, 0, by rw [hv, h0], fun i l hl => by rw [List.eq_nil_of_length_eq_zero h0] at hl; simp at hl⟩
    · exact ⟨_, _, hv, fun i l hl => by rw [List.eq_nil_of_length_eq_zero h0] at hl; simp at hl⟩
  · obtain ⟨g, cap, hv, hb, hlt⟩ := h.form h0
    refine ⟨_, _, hv, fun i l hl => ⟨g, rfl, hb, hlt, ?_⟩⟩
    subst hv
    rw [h.cellAt i (by have := (List.getElem?_eq_some_iff.1 hl).1; omega), List.getElem?_map, hl]
    rfl
theorem i127 (c : UInt8) : ((c.toNat : Int) == 127) = (c == 127) := by revert c; apply all_bytes; decide +kernel
theorem lt32 (c : UInt8) : (c < 32) ↔ ((c.toNat : Int) < 32) := by revert c; apply all_bytes; decide +kernel
theorem getByte (l : List UInt8) (k : Nat) (h : k < l.length) : (⟨l.toArray⟩ : ByteArray)[k]'(by show k < l.toArray.size; simpa using h) = l[k] := by
  show (⟨l.toArray⟩ : ByteArray).data[k]'_ = _
  simp
theorem wpList_appRow {w : World} {B : Nat} {T L : TypeId} {v : Value} {rs : List (Nat × Nat × List UInt8)} {ops : Array Oper} {rest : List Oper} {o : Oper} {a : Act} {Q : Exit → Act → World → Prop} (hgd : o.guard = none) (s x : Operand)
    (ho : o.op = .call { callee := .builtin .append, args := #[s, x], argTypes := #[L, L] }) (ht : Tryz.prog.underlying L = some (.slice T))
    (hinf : (Tryz.prog.info? T).map (fun i => (i.zero, i.size, i.bytes)) = some (some (.agg #[.int .i64 0, .int .i64 0, .string ⟨#[]⟩]), 3, 32))
    (hs : a.eval s = v) (hown : OwnL w B T v rs) (n c : Int) (b : ByteArray) (r : Nat × Nat × List UInt8) (hr : rowCells r = [.int .i64 n, .int .i64 c, .string b]) (hx : a.eval x = .slice (some ⟨w.heap.size, 0, none⟩) 1 1)
    (hlen : rs.length < 10000000) (hB : B ≤ w.heap.size)
    (h : ∀ v' w', OwnL w' B T v' (rs ++ [r]) → (w.alloc (.cells #[.int .i64 n, .int .i64 c, .string b] T)).grownBy w' v.ownBlock → wpList Tryz.prog ops Q rest (a.put o.dst v') w') :
    wpList Tryz.prog ops Q (o :: rest) a (w.alloc (.cells #[.int .i64 n, .int .i64 c, .string b] T)) := by
  obtain ⟨i, hi, hz, hsz, hby⟩ := info_parts hinf
  refine wpList_append_own_at (w := w.alloc (.cells #[.int .i64 n, .int .i64 c, .string b] T)) (P := Tryz.prog) hgd s x L ho B T i (.agg #[.int .i64 0, .int .i64 0, .string ⟨#[]⟩]) 3 32 ht hi hz hsz hby rfl (by decide) v rs.length (rowsCells rs) hs (World.ownsRow.alloc hown _)
    ⟨w.heap.size, 0, none⟩ 1 1 [.int .i64 n, .int .i64 c, .string b] hx rfl (cells3_new _ _ _ _ _) (by intro u hu; simp at hu; rcases hu with rfl | rfl | rfl <;> rfl) (by unfold maxLen; omega) (by omega) (by simp; omega) ?_
  intro v' w' h2 h3 _ h5
  refine h v' w' ?_ h3
  unfold OwnL
  rw [rowsCells_snoc, List.length_append, hr]
  exact h2
theorem cell_below {B : Nat} {a w : World} (h : Below B a w) {g : Nat} (hg : g < B) (j : Nat) : w.cell? ⟨g, j, none⟩ = a.cell? ⟨g, j, none⟩ := by
  unfold World.cell?
  simp only [h.block g hg]
theorem any_take_succ (l : List UInt8) (k : Nat) (h : k < l.length) : (l.take (k + 1)).any oddB = ((l.take k).any oddB || oddB l[k]) := by
  rw [List.take_add_one, List.getElem?_eq_getElem h, List.any_append]
  simp
theorem any_of_get (l : List UInt8) (k : Nat) (h : k < l.length) (ho : oddB l[k] = true) : l.any oddB = true := List.any_eq_true.2 ⟨_, List.getElem_mem h, ho⟩
theorem bytesOf (l : List UInt8) : ∃ b : ByteArray, bsOf l = .string b ∧ b.data.toList = l := ⟨⟨l.toArray⟩, rfl, rfl⟩
theorem trimL_drop_blank (l : List UInt8) (k : Nat) (h : k < l.length) (hc : l[k] = 32) : trimL (l.drop k) = trimL (l.drop (k + 1)) := by
  rw [List.drop_eq_getElem_cons h, hc]; rfl
theorem trimL_drop_stop (l : List UInt8) (k : Nat) (h : k < l.length) (hc : l[k] ≠ 32) : trimL (l.drop k) = l.drop k := by
  rw [List.drop_eq_getElem_cons h]
  exact List.dropWhile_cons_of_neg (by simpa using hc)
theorem data_get (s : ByteArray) (k : Nat) (h : k < s.size) (h2 : k < s.data.toList.length) : s.data.toList[k] = s[k] := rfl
theorem row_at {i k : Nat} {l : List UInt8} {tb : ByteArray} (HT : tb.data.toList = strip17 l) (HC : trimL (tb.data.toList.drop k) = trimL tb.data.toList) (hk : k < tb.size) (h32 : tb[k] ≠ 32) :
    rowOf i l = some (i + 1, k, tb.data.toList.drop k) := by
  have hl : k < tb.data.toList.length := by rw [← Lib.size_eq]; exact hk
  have h1 : trimL (strip17 l) = tb.data.toList.drop k := by
    rw [← HT, ← HC]; exact trimL_drop_stop _ k hl (by rw [data_get tb k hk hl]; exact h32)
  rw [rowOf, h1, if_neg (by rw [List.drop_eq_getElem_cons hl]; exact List.cons_ne_nil _ _), ← HT, List.length_drop]
  congr 3
  omega
theorem row_at_none {i : Nat} {l : List UInt8} {tb : ByteArray} (HT : tb.data.toList = strip17 l) (HC : trimL (tb.data.toList.drop tb.size) = trimL tb.data.toList) : rowOf i l = none := by
  rw [rowOf, if_pos]
  rw [← HT, ← HC, List.drop_eq_nil_of_le (by rw [← Lib.size_eq]; exact Nat.le_refl _)]
  rfl
end Go.Proofs.YtefokfbgpfcbkaaGreat
namespace Go.Proofs.YtefokfbgpfcbkaaGreat
set_option linter.unusedVariables false
set_option linter.unusedSimpArgs false
open Go.RowKit Go.Shelf
/-- the slice v of lines may be read: each has its number, how far it is moved in, its text -/
def RdL (w : World) (B : Nat) (v : Value) (rs : List (Int × Int × ByteArray)) : Prop :=
  ∃ ao cap, v = .slice ao rs.length cap ∧ ∀ i r, rs[i]? = some r → ∃ g o, ao = some ⟨g, o, none⟩ ∧ g < B ∧ w.cell? ⟨g, o + i * 3, none⟩ = some (.int .i64 r.1) ∧ w.cell? ⟨g, o + i * 3 + 1, none⟩ = some (.int .i64 r.2.1) ∧ w.cell? ⟨g, o + i * 3 + 2, none⟩ = some (.string r.2.2)
/-- a line as Join writes it -/
def joinRow (r : Int × Int × ByteArray) : List UInt8 := List.replicate (min (max r.2.1 0) 100).toNat 32 ++ r.2.2.data.toList ++ [10]
def joinT (rs : List (Int × Int × ByteArray)) : List UInt8 := rs.flatMap joinRow
theorem joinT_snoc (rs : List (Int × Int × ByteArray)) (r : Int × Int × ByteArray) : joinT (rs ++ [r]) = joinT rs ++ joinRow r := by simp [joinT]
theorem joinT_take (rs : List (Int × Int × ByteArray)) (i : Nat) (r : Int × Int × ByteArray) (h : rs[i]? = some r) : joinT (rs.take (i + 1)) = joinT (rs.take i) ++ joinRow r ∧ (joinT (rs.take i)).length + (joinRow r).length ≤ (joinT rs).length := by
  have e1 : rs.take (i + 1) = rs.take i ++ [r] := by rw [List.take_add_one, h]; rfl
  have e2 : joinT (rs.take (i + 1)) = joinT (rs.take i) ++ joinRow r := by rw [e1, joinT_snoc]
  refine ⟨e2, ?_⟩
  have e3 : joinT rs = joinT (rs.take (i + 1)) ++ joinT (rs.drop (i + 1)) := by
    unfold joinT
    rw [← List.flatMap_append, List.take_append_drop]
  rw [e3, e2]
  simp only [List.length_append]
  omega
theorem joinT_len : ∀ l : List (Int × Int × ByteArray), l.length ≤ (joinT l).length
  | [] => Nat.zero_le _
  | a :: r => by
    have h1 : (joinT (a :: r)).length = (joinRow a).length + (joinT r).length := by simp [joinT]
    have h2 : 1 ≤ (joinRow a).length := by simp [joinRow]; omega
    have h3 := joinT_len r
    rw [h1, List.length_cons]
    omega
theorem cells3_of {X : World} {g : Nat} {a b c : Value} {t : TypeId} (h : X.heap[g]? = some (.cells #[a, b, c] t)) : X.cell? ⟨g, 0, none⟩ = some a ∧ X.cell? ⟨g, 1, none⟩ = some b ∧ X.cell? ⟨g, 2, none⟩ = some c := by simp [World.cell?, h]
end Go.Proofs.YtefokfbgpfcbkaaGreat
namespace Go.Proofs.YtefokfbgpfcbkaaGreat
set_option linter.unusedVariables false
set_option linter.unusedSimpArgs false
open Go.RowKit Go.Shelf
end Go.Proofs.YtefokfbgpfcbkaaGreat
namespace Go.Proofs.YtefokfbgpfcbkaaGreat
set_option linter.unusedVariables false
set_option linter.unusedSimpArgs false
open Go.RowKit Go.Shelf
/-- a row as it is read -/
def castR (r : Nat × Nat × List UInt8) : Int × Int × ByteArray := (r.1, r.2.1, ⟨r.2.2.toArray⟩)
theorem rowsCells_get : ∀ (rs : List (Nat × Nat × List UInt8)) (i : Nat) (r : Nat × Nat × List UInt8), rs[i]? = some r → (rowsCells rs)[i * 3]? = some (.int .i64 r.1) ∧ (rowsCells rs)[i * 3 + 1]? = some (.int .i64 r.2.1) ∧ (rowsCells rs)[i * 3 + 2]? = some (bsOf r.2.2)
  | [], i, r, h => by simp at h
  | a :: rs, 0, r, h => by
    simp at h
    subst h
    exact ⟨rfl, rfl, rfl⟩
  | a :: rs, i + 1, r, h => by
    have ih := rowsCells_get rs i r (by simpa using h)
    have e : rowsCells (a :: rs) = rowCells a ++ rowsCells rs := rfl
    have l3 : (rowCells a).length = 3 := rfl
    rw [e, List.getElem?_append_right (by omega), List.getElem?_append_right (by omega), List.getElem?_append_right (by omega), l3]
    rw [show (i + 1) * 3 - 3 = i * 3 from by omega, show (i + 1) * 3 + 1 - 3 = i * 3 + 1 from by omega, show (i + 1) * 3 + 2 - 3 = i * 3 + 2 from by omega]
    exact ih
theorem rdl_of_own {w : World} {B : Nat} {e : TypeId} {v : Value} {rs : List (Nat × Nat × List UInt8)} (h : OwnL w B e v rs) : RdL w w.heap.size v (rs.map castR) := by
  unfold OwnL at h
  rcases Nat.eq_zero_or_pos rs.length with h0 | h0
  · have hnil := List.eq_nil_of_length_eq_zero h0
    subst hnil
    obtain ⟨ao, m, cap, hv⟩ := own_slice h
    rcases h.2 with ⟨hv, _⟩ | ⟨g, cap, cur, hv, _⟩
    · exact ⟨_, _, hv, fun i r hr => by simp at hr⟩
    · exact ⟨_, _, hv, fun i r hr => by simp at hr⟩
  · obtain ⟨g, cap, hv, hb, hlt⟩ := h.form h0
    subst hv
    refine ⟨_, _, by rw [List.length_map], fun i r hr => ⟨g, 0, rfl, hlt, ?_⟩⟩
    rw [List.getElem?_map, Option.map_eq_some_iff] at hr
    obtain ⟨a, ha, rfl⟩ := hr
    obtain ⟨c0, c1, c2⟩ := rowsCells_get rs i a ha
    have hi : i < rs.length := (List.getElem?_eq_some_iff.1 ha).1
    rw [Nat.zero_add, h.cellAt _ (by omega), h.cellAt _ (by omega), h.cellAt _ (by omega)]
    exact ⟨c0, c1, c2⟩
theorem RdL.below {w w' : World} {B : Nat} {v : Value} {rs : List (Int × Int × ByteArray)} (h : RdL w B v rs) (hb : Below B w w') {B' : Nat} (hB : B ≤ B') : RdL w' B' v rs := by
  obtain ⟨ao, cap, hv, hc⟩ := h
  refine ⟨ao, cap, hv, fun i r hr => ?_⟩
  obtain ⟨g, o, h1, h2, h3, h4, h5⟩ := hc i r hr
  exact ⟨g, o, h1, by omega, (cell_below hb h2 _).trans h3, (cell_below hb h2 _).trans h4, (cell_below hb h2 _).trans h5⟩
theorem live1 : check17 [97, 10, 32, 32, 10, 35, 32, 120, 10, 32, 32, 98, 32, 35, 32, 99] = (0, 0) ∧ rows17 [97, 10, 32, 32, 10, 35, 32, 120, 10, 32, 32, 98, 32, 35, 32, 99] = [(1, 0, [97]), (4, 2, [98])] := by decide +kernel
theorem live2 : check17 [97, 10, 9, 98] = (3, 2) := by decide +kernel
theorem live3 : check17 [97, 10, 255] = (9, 2) := by decide +kernel
theorem live4 : strip17 [97, 32, 34, 98, 32, 35, 32, 99, 34, 32, 35, 32, 100] = [97, 32, 34, 98, 32, 35, 32, 99, 34] := by decide +kernel
theorem lines17_len (s : List UInt8) : (lines17 s).length = (rawL s).length := by unfold lines17; rw [List.length_map]
theorem rows_len (s : List UInt8) (R : Int) : (if R = 0 then rows17 s else []).length ≤ s.length := by
  split
  · refine Nat.le_trans (rowsFrom_len _ _) ?_
    rw [lines17_len]
    exact rawL_le _
  · exact Nat.zero_le _
end Go.Proofs.YtefokfbgpfcbkaaGreat
