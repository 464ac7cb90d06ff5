/- walk of line.Join -/
import Derived.Test.YtbnheebblicgkaaDoorW17h
import Derived.Test.YtbnheebblicgkaaDoorWR17c
namespace Go.Proofs.YtbnheebblicgkaaDoor
set_option linter.unusedVariables false
set_option linter.unusedSimpArgs false
open Go.RowKit Go.Shelf
/-- the slice v of lines may be read: each has its number, how far it is moved in, its text -/
def RdL (w : World) (B : Nat) (v : Value) (rs : List (Int × Int × ByteArray)) : Prop :=
  ∃ ao cap, v = .slice ao rs.length cap ∧ ∀ i r, rs[i]? = some r → ∃ g o, ao = some ⟨g, o, none⟩ ∧ g < B ∧ w.cell? ⟨g, o + i * 3, none⟩ = some (.int .i64 r.1) ∧ w.cell? ⟨g, o + i * 3 + 1, none⟩ = some (.int .i64 r.2.1) ∧ w.cell? ⟨g, o + i * 3 + 2, none⟩ = some (.string r.2.2)
/-- a line as Join writes it -/
def joinRow (r : Int × Int × ByteArray) : List UInt8 := List.replicate (min (max r.2.1 0) 100).toNat 32 ++ r.2.2.data.toList ++ [10]
def joinT (rs : List (Int × Int × ByteArray)) : List UInt8 := rs.flatMap joinRow
theorem joinT_snoc (rs : List (Int × Int × ByteArray)) (r : Int × Int × ByteArray) : joinT (rs ++ [r]) = joinT rs ++ joinRow r := by simp [joinT]
theorem joinT_take (rs : List (Int × Int × ByteArray)) (i : Nat) (r : Int × Int × ByteArray) (h : rs[i]? = some r) : joinT (rs.take (i + 1)) = joinT (rs.take i) ++ joinRow r ∧ (joinT (rs.take i)).length + (joinRow r).length ≤ (joinT rs).length := by
  have e1 : rs.take (i + 1) = rs.take i ++ [r] := by rw [List.take_add_one, h]; rfl
  have e2 : joinT (rs.take (i + 1)) = joinT (rs.take i) ++ joinRow r := by rw [e1, joinT_snoc]
  refine ⟨e2, ?_⟩
  have e3 : joinT rs = joinT (rs.take (i + 1)) ++ joinT (rs.drop (i + 1)) := by
    unfold joinT
    rw [← List.flatMap_append, List.take_append_drop]
  rw [e3, e2]
  simp only [List.length_append]
  omega
theorem joinT_len : ∀ l : List (Int × Int × ByteArray), l.length ≤ (joinT l).length
  | [] => Nat.zero_le _
  | a :: r => by
    have h1 : (joinT (a :: r)).length = (joinRow a).length + (joinT r).length := by simp [joinT]
    have h2 : 1 ≤ (joinRow a).length := by simp [joinRow]; omega
    have h3 := joinT_len r
    rw [h1, List.length_cons]
    omega
theorem RepeatZ (z : Int) (w : World) (h0 : 0 ≤ z) (h1 : z ≤ 100) :
    Calls Tryd.prog 34 #[.string ⟨#[32]⟩, .int .i64 z] w fun e w' => ∃ b : ByteArray, e = .returned (.string b) ∧ Hid (b.data.toList = List.replicate z.toNat 32) ∧ w' = w := by
  obtain ⟨n, rfl⟩ := Int.eq_ofNat_of_zero_le h0
  exact Repeat_blank n w (by omega)
theorem Bld.alloc {w : World} {b : Nat} {p : Value} {l : List UInt8} (h : Bld w b p l) (o : Obj) : Bld (w.alloc o) b p l := by
  obtain ⟨v, h1, h2⟩ := h
  exact ⟨v, (Below.heap_alloc _ _ _ (Array.getElem?_eq_some_iff.1 h1).1).trans h1, World.ownsRow.alloc h2 o⟩
theorem cells3_of {X : World} {g : Nat} {a b c : Value} {t : TypeId} (h : X.heap[g]? = some (.cells #[a, b, c] t)) : X.cell? ⟨g, 0, none⟩ = some a ∧ X.cell? ⟨g, 1, none⟩ = some b ∧ X.cell? ⟨g, 2, none⟩ = some c := by simp [World.cell?, h]
theorem String_any (b : Nat) (p : Value) (l : List UInt8) (w : World) (h : Bld w b p l) (hp : p = .pointer none ∨ p = .pointer (some ⟨b, 0, none⟩)) :
    Calls Tryd.prog 36 #[.pointer (some ⟨b, 0, none⟩)] w fun e w' => ∃ o : ByteArray, e = .returned (.string o) ∧ Hid (o.data.toList = l) ∧ Below b w w' := by
  obtain ⟨v, h1, h2⟩ := h
  have e1 : Lib.byteCells l = l.map bc := rfl
  have hA : Lib.BuilderAt 65 5 b b p (Lib.byteCells l) w := by
    refine ⟨Nat.le_refl _, v, h1, ?_, fun e => by have := (OwnB.lt h2 b e).1; omega⟩
    rw [e1, List.length_map]
    exact ownsRow_base h2 (by omega)
  have hI : Lib.IsBuilder 65 5 b b (Lib.byteCells l) w := by
    rcases hp with rfl | rfl
    · exact .inl hA
    · exact .inr hA
  refine (Tryd.Builder_String_any b b l w hI (by have := (Array.getElem?_eq_some_iff.1 h1).1; omega)).mono ?_
  rintro e w' ⟨rfl, hb⟩
  exact ⟨_, rfl, rfl, hb⟩
set_option maxRecDepth 100000 in
set_option maxHeartbeats 1600000 in
theorem Join_any (v : Value) (rs : List (Int × Int × ByteArray)) (w : World) (hv : RdL w w.heap.size v rs) (hlen : (joinT rs).length ≤ 100000000) :
    Calls Tryd.prog 18 #[v] w fun e w' => ∃ b : ByteArray, e = .returned (.string b) ∧ Hid (b.data.toList = joinT rs) ∧ Below w.heap.size w w' := by
  obtain ⟨ao, cap, rfl, hcell⟩ := hv
  have HC := hide hcell
  clear hcell
  have HL := hide hlen
  clear hlen
  obtain ⟨n, hn⟩ : ∃ n, rs.length = n := ⟨_, rfl⟩
  rw [hn]
  have hnl : n ≤ 100000000 := by
    have h1 := joinT_len rs
    have h2 := unhide HL
    omega
  have HN := hide hn
  clear hn
  go_enter Tryd.func18, Tryd.ntmps18
  go_wp2
  go_loopg [8] n (fun g s8 wx => ∃ i : Nat, i + g = n ∧ s8 = .int .i64 i ∧ (∃ p, (p = .pointer none ∨ p = .pointer (some ⟨w.heap.size, 0, none⟩)) ∧ Bld wx w.heap.size p (joinT (rs.take i))) ∧ Below w.heap.size w wx)
  case atStart => exact ⟨0, by omega, by go_num, ⟨_, .inl rfl, _, World.alloc_heap_new _ _, World.ownsRow_nil _ _ _ _⟩, (Below.refl _ w).alloc (Nat.le_refl _) _⟩
  case round =>
    obtain ⟨i, hig, rfl, ⟨p, hp, hB⟩, hb⟩ := hrel
    cases gk with
    | zero =>
      have e1 : (n : Int) = (i : Int) := by omega
      have hall : rs.take i = rs := List.take_of_length_le (by rw [unhide HN]; omega)
      rw [hall] at hB
      clear hall
      go_wp2_with (go_at_call 36; refine (String_any _ p _ _ hB hp).mono ?_; rintro e w2 ⟨ob, rfl, HO, hb2⟩)
      go_ret
      exact ⟨_, rfl, HO, hb.trans hb2⟩
    | succ g' =>
      have hlt : (i : Int) < (n : Int) := by omega
      have hki : IntKind.i64.wrap ((i : Int) + 1) = (i : Int) + 1 := IntWalk.i64_in _ (by omega)
      have hil : i < rs.length := by rw [unhide HN]; omega
      have hgl : rs[i]? = some rs[i] := List.getElem?_eq_getElem hil
      obtain ⟨⟨r1, r2, r3⟩, hr⟩ : ∃ r, rs[i] = r := ⟨_, rfl⟩
      rw [hr] at hgl
      obtain ⟨g, o, rfl, hg, hc0, hc1, hc2⟩ := unhide HC i _ hgl
      have hx0 := (cell_below hb hg _).trans hc0
      have hx1 := (cell_below hb hg _).trans hc1
      have hx2 := (cell_below hb hg _).trans hc2
      obtain ⟨hJ1, hJ2⟩ := joinT_take rs i _ hgl
      have hJ3 : (joinRow (r1, r2, r3)).length = (min (max r2 0) 100).toNat + r3.size + 1 := by simp [joinRow]; omega
      have hJ4 : (joinT (rs.take i)).length + ((min (max r2 0) 100).toNat + r3.size + 1) ≤ 100000000 := by have := unhide HL; omega
      have HJ := hide hJ1
      have hz0 : 0 ≤ min (max r2 0) 100 := by omega
      have hz1 : min (max r2 0) 100 ≤ 100 := by omega
      obtain ⟨L, hL⟩ : ∃ L, joinT (rs.take i) = L := ⟨_, rfl⟩
      rw [hL] at hJ4 hB HJ
      clear hgl hr hc0 hc1 hc2 hJ1 hJ2 hJ3 hL
      have hwr := hb.size
      have hwl : w.heap.size < wr.heap.size := by obtain ⟨_, hq, _⟩ := hB; exact (Array.getElem?_eq_some_iff.1 hq).1
      go_wp2_with (first
        | (go_at_call 34; refine (RepeatZ _ _ hz0 hz1).mono ?_; rintro e w' ⟨b1, rfl, HB1, rfl⟩; have hs1 : b1.size = (min (max r2 0) 100).toNat := (by rw [Lib.size_eq, unhide HB1, List.length_replicate]))
        | (go_at_call 33; refine (WriteString_any w.heap.size (.pointer (some ⟨w.heap.size, 0, none⟩)) (L ++ b1.data.toList) r3 W1 hB1 (.inr rfl) hl2).mono ?_; rintro e W2 ⟨rfl, hB2, hb2, hk2⟩; have hl3 : (L ++ b1.data.toList ++ r3.data.toList).length < 1099511627776 := (by rw [List.length_append, ← Lib.size_eq]; exact hl2))
        | (have hl1 : L.length + b1.size < 1099511627776 := (by omega); go_at_call 33; refine (WriteString_any w.heap.size p L b1 _ (hB.alloc (.cells #[.int .i64 r1, .int .i64 r2, .string r3] 39)) hp hl1).mono ?_; rintro e W1 ⟨rfl, hB1, hb1, hk1⟩; have hX1 := hk1 _ _ (World.alloc_heap_new _ _) (by simp; omega) (by intro c fz h; cases h); have y1 := (cells3_of hX1).2.2; have hl2 : (L ++ b1.data.toList).length + r3.size < 1099511627776 := (by rw [List.length_append, ← Lib.size_eq]; omega); clear hX1)
        | (go_at_call 35; refine (WriteByte_any w.heap.size (.pointer (some ⟨w.heap.size, 0, none⟩)) (L ++ b1.data.toList ++ r3.data.toList) 10 W2 hB2 (.inr rfl) hl3).mono ?_; rintro e W3 ⟨rfl, hB3, hb3, hk3⟩))
      go_roundg g'
      case measure => omega
      case rel =>
        refine ⟨i + 1, by omega, by go_num, ⟨_, .inr rfl, ?_⟩, (((hb.alloc hwr _).trans hb1).trans hb2).trans hb3⟩
        rw [unhide HJ]
        rw [unhide HB1] at hB3
        rw [joinRow, ← List.append_assoc, ← List.append_assoc]
        exact hB3
end Go.Proofs.YtbnheebblicgkaaDoor
