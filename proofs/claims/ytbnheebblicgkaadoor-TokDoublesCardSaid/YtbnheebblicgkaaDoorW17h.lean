/- walks of strings.Builder's writing methods, strings.Repeat at a blank, and line.Join -/
import Derived.Test.YtbnheebblicgkaaDoorBytes
import Derived.Test.YtbnheebblicgkaaDoorShelf
import Derived.Test.YtbnheebblicgkaaDoorW17g
import Derived.Lib.Builder
import Derived.Lib.OthersKept
namespace Go.Proofs.YtbnheebblicgkaaDoor
set_option linter.unusedVariables false
set_option linter.unusedSimpArgs false
open Go.RowKit Go.Shelf
/-- block b holds a strings.Builder with the bytes l -/
def Bld (w : World) (b : Nat) (p : Value) (l : List UInt8) : Prop := ∃ v, w.heap[b]? = some (.cells #[p, v] 65) ∧ OwnB w (b + 1) 5 v l
theorem bldByteInfo : (Tryd.prog.info? 5).map (fun i => (i.zero, i.size, i.bytes)) = some (some (.int .u8 0), 1, 1) := by kernel_rfl
theorem bldSize : (Tryd.prog.info? 65).map (·.size) = some 2 := by kernel_rfl
theorem bldLies : liesAt Tryd.prog Tryd.prog.depth 65 (2 / Tryd.prog.cellsOf 65) 0 65 1 = true := by kernel_rfl
theorem grownBy_set (w : World) (b j : Nat) (v : Value) : w.grownBy (w.setCell ⟨b, j, none⟩ v) (some b) := setCell_grown w b j v
set_option maxRecDepth 100000 in
set_option maxHeartbeats 800000 in
theorem copyCheck_any (b : Nat) (p v : Value) (w : World) (h : w.heap[b]? = some (.cells #[p, v] 65)) (hp : p = .pointer none ∨ p = .pointer (some ⟨b, 0, none⟩)) :
    Calls Tryd.prog 59 #[.pointer (some ⟨b, 0, none⟩)] w fun e w' => e = .returned (.tuple #[]) ∧ w'.heap[b]? = some (.cells #[.pointer (some ⟨b, 0, none⟩), v] 65) ∧ w.grownBy w' (some b) := by
  obtain ⟨j, hj, hjs⟩ := Option.map_eq_some_iff.1 bldSize
  have h0 := (two_cell0 h).1
  have h1 := (two_cell0 h).2
  have hsh : w.shape? b = some (65, 2) := by simp [World.shape?, h]
  rcases hp with rfl | rfl
  · go_enter Tryd.func59, Tryd.ntmps59
    go_wp2
    rw [Lib.run_to_unsafe w ⟨b, 0, none⟩ Tryd.underlying62 Tryd.underlying126 hj (by rw [hjs]; decide) hsh (Nat.zero_lt_succ 1)]
    simp only [Result.andThen]
    rw [Oper.upon_value]
    go_wp2
    rw [run_callFunc_extern Tryd.func86 (by kernel_rfl) (by kernel_rfl) (by kernel_rfl) (e := Extern.AbiNoEscape.same) (by kernel_rfl)]
    rw [Lib.run_noEscape]
    simp only [Result.andThen]
    rw [Oper.upon_value]
    go_wp2
    rw [Lib.run_from_unsafe w ⟨b, 0, none⟩ Tryd.underlying126 Tryd.underlying62 hj hsh bldLies]
    simp only [Result.andThen]
    rw [Oper.upon_value]
    go_wp2
    go_end0
    exact ⟨rfl, two_set0 h _, grownBy_set w b 0 _⟩
  · go_enter Tryd.func59, Tryd.ntmps59
    go_wp2
    rw [Lib.run_neq_ptr_same w _ Tryd.underlying62 hj]
    go_wp2
    go_end0
    exact ⟨rfl, h, ⟨rfl, rfl, rfl, Nat.le_refl _, fun _ _ _ => rfl⟩⟩
theorem kind_of_own {w : World} {B : Nat} {e : TypeId} {v : Value} {l : List UInt8} (h : OwnB w B e v l) : ∀ g, v.ownBlock = some g → ∃ c fz, w.heap[g]? = some (.cells c e fz) := by
  intro g hg
  rcases h.2 with ⟨rfl, _⟩ | ⟨g', cap, cur, rfl, _, h3, _⟩
  · simp [Value.ownBlock] at hg
  · simp only [Value.ownBlock, Option.some.injEq] at hg
    subst hg
    exact ⟨cur, _, h3⟩
theorem bld_put {w w' : World} {b : Nat} {p v v' : Value} {l : List UInt8} (h : w'.heap[b]? = some (.cells #[p, v] 65)) (ho : OwnB w' (b + 1) 5 v' l) : Bld (w'.setCell ⟨b, 1, none⟩ v') b p l :=
  ⟨v', two_set1 h v', ownsRow_span ho (setCell_grown w' b 1 v') (fun r e => by cases e; omega)⟩
theorem others_grown {w w' : World} {b : Nat} (h : w.grownBy w' (some b)) : Lib.OthersKept 5 (some b) w w' := fun k o h1 h2 h3 => by
  refine (h.block k ?_ (fun e => ?_)).trans h1
  · exact (Array.getElem?_eq_some_iff.1 h1).1
  · exact absurd e (by simpa using h2)
theorem own_slice {w : World} {B : Nat} {e : TypeId} {size n : Nat} {v : Value} {xs : List Value} (h : w.ownsRow B e size v n xs) : ∃ ao m cap, v = .slice ao m cap := by
  rcases h.2 with ⟨hv, h0⟩ | ⟨g, cap, cur, hv, _⟩
  · exact ⟨_, _, _, hv⟩
  · exact ⟨_, _, _, hv⟩
set_option maxRecDepth 100000 in
set_option maxHeartbeats 800000 in
theorem WriteString_any (b : Nat) (p : Value) (l : List UInt8) (s : ByteArray) (w : World) (h : Bld w b p l) (hp : p = .pointer none ∨ p = .pointer (some ⟨b, 0, none⟩)) (hlen : l.length + s.size < 1099511627776) :
    Calls Tryd.prog 33 #[.pointer (some ⟨b, 0, none⟩), .string s] w fun e w' => e = .returned (.tuple #[.int .i64 s.size, .nilIface]) ∧ Bld w' b (.pointer (some ⟨b, 0, none⟩)) (l ++ s.data.toList) ∧ Below b w w' ∧ Lib.OthersKept 5 (some b) w w' := by
  obtain ⟨v, hb, hown⟩ := h
  have hlt : b < w.heap.size := (Array.getElem?_eq_some_iff.1 hb).1
  go_enter Tryd.func33, Tryd.ntmps33
  go_wp2_with (first
    | (go_at_call 59; refine (copyCheck_any b p v w hb hp).mono ?_; rintro e w1 ⟨rfl, hb1, hg1⟩; have hown1 : OwnB w1 (b + 1) 5 v l := ownsRow_span hown hg1 (fun r e => by cases e; omega); have c0 := (two_cell0 hb1).1; have c1 := (two_cell1 hb1).1; have c2 := (two_cell1 hb1).2; have hs1 := hg1.size)
    | (at_builtin; refine wpList_appS rfl (.tmp 12) (.tmp 13) 63 9 rfl Tryd.underlying63 Tryd.underlying9 bldByteInfo rfl hown1 s rfl hlen (by omega) ?_; intro v' w2 hown2 hg2; obtain ⟨ao, nn, cap, rfl⟩ := own_slice hown2; have hb2 : w2.heap[b]? = some (.cells #[.pointer (some ⟨b, 0, none⟩), v] 65) := (hg2.block b (by omega) (fun e => by have := (hown1.lt b e.symm).1; omega)).trans hb1; have d0 := (two_cell0 hb2).1; have d1 := (two_cell1 hb2).1; have d2 := (two_cell1 hb2).2))
  go_ret2
  refine ⟨rfl, bld_put (w := w2) hb2 hown2, ?_, ?_⟩
  · exact (((Below.refl b w).grown hg1 (by omega) (fun k e => by cases e; omega)).grown hg2 (by omega) (fun k e => by have := (hown1.lt k e).1; omega)).setCell (p := ⟨b, 1, none⟩) (Nat.le_refl _) _
  · exact ((others_grown hg1).grown hg2 (kind_of_own hown1)).setCell ⟨b, 1, none⟩ rfl _
set_option maxRecDepth 100000 in
set_option maxHeartbeats 800000 in
theorem WriteByte_any (b : Nat) (p : Value) (l : List UInt8) (c : UInt8) (w : World) (h : Bld w b p l) (hp : p = .pointer none ∨ p = .pointer (some ⟨b, 0, none⟩)) (hlen : l.length < 1099511627776) :
    Calls Tryd.prog 35 #[.pointer (some ⟨b, 0, none⟩), .int .u8 c.toNat] w fun e w' => e = .returned .nilIface ∧ Bld w' b (.pointer (some ⟨b, 0, none⟩)) (l ++ [c]) ∧ Below b w w' ∧ Lib.OthersKept 5 (some b) w w' := by
  obtain ⟨v, hb, hown⟩ := h
  have hlt : b < w.heap.size := (Array.getElem?_eq_some_iff.1 hb).1
  have hc : UInt8.ofNat ((c.toNat : Int)).toNat = c := by simp
  go_enter Tryd.func35, Tryd.ntmps35
  go_wp2_with (first
    | (go_at_call 59; refine (copyCheck_any b p v w hb hp).mono ?_; rintro e w1 ⟨rfl, hb1, hg1⟩; have hown1 : OwnB w1 (b + 1) 5 v l := ownsRow_span hown hg1 (fun r e => by cases e; omega); have c0 := (two_cell0 hb1).1; have c1 := (two_cell1 hb1).1; have c2 := (two_cell1 hb1).2; have hs1 := hg1.size)
    | (at_builtin; refine wpList_app1 rfl (.tmp 11) (.tmp 13) 63 rfl Tryd.underlying63 bldByteInfo rfl hown1 c.toNat (by omega) (by have := c.toNat_lt; omega) rfl (by omega) (by omega) ?_; intro v' w2 hown2 hg2 _; obtain ⟨ao, nn, cap, rfl⟩ := own_slice hown2; have hb2 : w2.heap[b]? = some (.cells #[.pointer (some ⟨b, 0, none⟩), v] 65) := (hg2.block b (by simp; omega) (fun e => by have := (hown1.lt b e.symm).1; omega)).trans ((Below.heap_alloc _ _ _ (by omega)).trans hb1); have d0 := (two_cell0 hb2).1; have d1 := (two_cell1 hb2).1; have d2 := (two_cell1 hb2).2))
  go_ret
  rw [hc] at hown2
  refine ⟨rfl, bld_put (w := w2) hb2 hown2, ?_, ?_⟩
  · exact ((((Below.refl b w).grown hg1 (by omega) (fun k e => by cases e; omega)).alloc (by omega) _).grown hg2 (by simp; omega) (fun k e => by have := (hown1.lt k e).1; omega)).setCell (p := ⟨b, 1, none⟩) (Nat.le_refl _) _
  · exact (((others_grown hg1).alloc _).grown hg2 (kind_of_own (hown1.alloc _))).setCell ⟨b, 1, none⟩ rfl _
theorem Mul_one (n : Nat) (w : World) (h : n ≤ 100) : Calls Tryd.prog 60 #[.int .u64 1, .int .u64 n] w fun e w' => e = .returned (.tuple #[.int .u64 0, .int .u64 n]) ∧ w' = w := by
  refine (Tryd.bits_Mul 1 n (by decide) (by omega) w).mono ?_
  rintro e w' ⟨rfl, rfl⟩
  rw [Nat.one_mul, Nat.div_eq_of_lt (by omega), Nat.mod_eq_of_lt (by omega)]
  exact ⟨rfl, rfl⟩
/-- strings.Repeat of a blank, at most 100 times -/
theorem hasPrefix_blank (l : List UInt8) : Lib.hasPrefix (32 :: l) [32] = true := by simp [Lib.hasPrefix]
set_option maxRecDepth 100000 in
set_option maxHeartbeats 800000 in
theorem Repeat_blank (n : Nat) (w : World) (h : n ≤ 100) :
    Calls Tryd.prog 34 #[.string ⟨#[32]⟩, .int .i64 n] w fun e w' => ∃ b : ByteArray, e = .returned (.string b) ∧ Hid (b.data.toList = List.replicate n 32) ∧ w' = w := by
  have hn2 : (n : Int) ≤ 100 := by omega
  have hn0 : (0 : Int) ≤ (n : Int) := by omega
  go_enter Tryd.func34, Tryd.ntmps34
  go_wp2_with (first
    | (go_at_call 60; refine (Mul_one n _ h).mono ?_; rintro e w' ⟨rfl, rfl⟩)
    | (go_at_call 61; refine (Tryd.strings_HasPrefix _ _ _).mono ?_; rintro e w' ⟨rfl, rfl⟩))
  · have h0 : ((n : Int) == 0) = true := by assumption
    have hz : n = 0 := by simpa using h0
    subst hz
    go_ret
    exact ⟨_, rfl, rfl, rfl⟩
  · have h0 : ((n : Int) == 1) = true := by assumption
    have hz : n = 1 := by have h1 : (n : Int) = 1 := by simpa using h0
                          omega
    subst hz
    go_ret
    exact ⟨_, rfl, rfl, rfl⟩
  · go_ret
    refine ⟨_, rfl, ?_, rfl⟩
    show _ = _
    rw [Lib.extract_data, List.drop_zero, Nat.sub_zero]
    exact (show (List.replicate 128 32).take n = List.replicate n 32 by rw [List.take_replicate, Nat.min_eq_left (by omega)])
end Go.Proofs.YtbnheebblicgkaaDoor
