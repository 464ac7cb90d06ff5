/- Buckets: the program's and the reference's.; quota's shelf of definitions: get, full, put.; Book.Put.; Book.Get; a book that is none.; Book.Names at a book of one entry.; The walk of live: Names at one entry, plain.; The laws on buckets, behind live.; The law on a bucket that never gives more than came in, behind live.; live: the laws' own trial of a bucket and a book.; Arguments as they are read: a slice of Ask. The laws on one bucket. -/
import Derived.Test.YtefokfbgpfcbkaaGreatN28x
import Derived.Test.YtefokfbgpfcbkaaGreatN21x
import Derived.Test.YtefokfbgpfcbkaaGreatN26x
import Derived.Test.YtefokfbgpfcbkaaGreatShelfF
import Derived.Shelf.SlIter.Collect
import Derived.Shelf.SortM.Plain
import Derived.Shelf.SortM.SortNone
import Derived.WalkKit
import Derived.ProofKit
import Derived.Deep.Slices
import Derived.ChangeSame
import Derived.ChangeArms
namespace Go.Proofs.YtefokfbgpfcbkaaGreat
set_option linter.unusedVariables false
set_option linter.unusedSimpArgs false
open Go.RowKit
namespace P36
/-- a number as it counts -/
def cnt (n : Int) : Int := min (max n 0) 1048576
theorem cnt_le (n : Int) : 0 ≤ cnt n ∧ cnt n ≤ 1048576 := by unfold cnt; omega
def tick (most back left n : Int) : Int := min most (left + back * cnt n)
def takes (left n : Int) : Bool := decide (0 ≤ n) && decide (n ≤ left)
def taken (left n : Int) : Int := if takes left n then left - n else left
end P36
theorem counts_any (n : Int) (w : World) : Calls Tryz.prog 82 #[.int .i64 n] w fun e w' => e = .returned (.int .i64 (P36.cnt n)) ∧ w' = w := by
  unfold P36.cnt
  go_enter Tryz.func82, Tryz.ntmps82
  go_wp2
  go_ret
  exact ⟨rfl, rfl⟩
theorem cap36_any (n : Int) (w : World) : Calls Tryz.prog 83 #[.int .i64 n] w fun e w' => e = .returned (.int .i64 (P36.cnt n)) ∧ w' = w := by
  unfold P36.cnt
  go_enter Tryz.func83, Tryz.ntmps83
  go_wp2
  go_ret
  exact ⟨rfl, rfl⟩
/-- a bucket in block b -/
def BK (T : TypeId) (W : World) (b : Nat) (most back left : Int) : Prop := W.heap[b]? = some (.cells #[.int .i64 most, .int .i64 back, .int .i64 left] T)
theorem BK.set {T : TypeId} {W : World} {b : Nat} {most back left : Int} (h : BK T W b most back left) (x : Int) : BK T (W.setCell ⟨b, 2, none⟩ (.int .i64 x)) b most back x := by
  unfold BK at *
  simp [World.setCell, Array.getElem?_modify, h]
theorem setC_grown (W : World) (g o : Nat) (v : Value) : W.grownBy (W.setCell ⟨g, o, none⟩ v) (some g) ∧ (W.setCell ⟨g, o, none⟩ v).heap.size = W.heap.size := ⟨⟨rfl, rfl, rfl, by simp, fun k _ hk => Below.heap_setCell _ _ _ _ (fun e => hk (by rw [e]))⟩, by simp⟩
theorem setC_drew (W : World) (n g o : Nat) (v : Value) : W.grownBy ((W.drewN n).setCell ⟨g, o, none⟩ v) (some g) ∧ ((W.drewN n).setCell ⟨g, o, none⟩ v).heap.size = W.heap.size := ⟨⟨rfl, rfl, rfl, by simp, fun k _ hk => Below.heap_setCell _ _ _ _ (fun e => hk (by rw [e]))⟩, by simp⟩
theorem NewBucket_any (m c : Int) (w : World) : Calls Tryz.prog 33 #[.int .i64 m, .int .i64 c] w fun e w' => e = .returned (.pointer (some ⟨w.heap.size, 0, none⟩)) ∧ BK 142 w' w.heap.size (P36.cnt m) (P36.cnt c) (P36.cnt m) ∧ Below w.heap.size w w' ∧ w'.heap.size = w.heap.size + 1 := by
  have hc := counts_any
  go_enter Tryz.func33, Tryz.ntmps33
  go_wp2_with (go_at_call 82; refine (hc _ _).mono ?_; rintro e w' ⟨rfl, hw⟩; have hw := hw.symm; subst hw)
  go_ret
  exact ⟨rfl, World.alloc_heap_new _ _, (Below.refl _ _).alloc (Nat.le_refl _) _, by simp⟩
theorem RNewBucket_any (m c : Int) (w : World) : Calls Tryz.prog 34 #[.int .i64 m, .int .i64 c] w fun e w' => e = .returned (.pointer (some ⟨w.heap.size, 0, none⟩)) ∧ BK 75 w' w.heap.size (P36.cnt m) (P36.cnt c) (P36.cnt m) ∧ Below w.heap.size w w' ∧ w'.heap.size = w.heap.size + 1 := by
  have hc := cap36_any
  go_enter Tryz.func34, Tryz.ntmps34
  go_wp2_with (go_at_call 83; refine (hc _ _).mono ?_; rintro e w' ⟨rfl, hw⟩; have hw := hw.symm; subst hw)
  go_ret
  exact ⟨rfl, World.alloc_heap_new _ _, (Below.refl _ _).alloc (Nat.le_refl _) _, by simp⟩
theorem Left_any (b : Nat) (most back left : Int) (w : World) (h : BK 142 w b most back left) : Calls Tryz.prog 39 #[.pointer (some ⟨b, 0, none⟩)] w fun e w' => e = .returned (.int .i64 left) ∧ w' = w := by
  obtain ⟨_, _, ⟨c2, _⟩⟩ := cell3 h
  clear h
  go_enter Tryz.func39, Tryz.ntmps39
  go_wp2
  go_ret
  exact ⟨rfl, rfl⟩
theorem Left_nil (w : World) : Calls Tryz.prog 39 #[.pointer none] w fun e w' => e = .returned (.int .i64 0) ∧ w' = w := by
  go_enter Tryz.func39, Tryz.ntmps39
  go_wp2
  go_ret
  exact ⟨rfl, rfl⟩
theorem Take_nil (n : Int) (w : World) : Calls Tryz.prog 37 #[.pointer none, .int .i64 n] w fun e w' => e = .returned (.bool false) ∧ w' = w := by
  go_enter Tryz.func37, Tryz.ntmps37
  go_wp2
  go_ret
  exact ⟨rfl, rfl⟩
theorem Tick_nil (n : Int) (w : World) : Calls Tryz.prog 35 #[.pointer none, .int .i64 n] w fun e w' => e = .returned (.tuple #[]) ∧ w' = w := by
  go_enter Tryz.func35, Tryz.ntmps35
  go_wp2
  (try simp only [Exit.inBlock, Exit.then])
  refine bodyPost_ret (results_none rfl _ _ _) rfl ?_
  exact ⟨rfl, rfl⟩
theorem Take_any (b : Nat) (most back left n : Int) (w : World) (h : BK 142 w b most back left) (h0 : 0 ≤ left) (h1 : left ≤ 1048576) :
    Calls Tryz.prog 37 #[.pointer (some ⟨b, 0, none⟩), .int .i64 n] w fun e w' => e = .returned (.bool (P36.takes left n)) ∧ BK 142 w' b most back (P36.taken left n) ∧ w.grownBy w' (some b) ∧ w'.heap.size = w.heap.size := by
  obtain ⟨_, _, ⟨c2, f2⟩⟩ := cell3 h
  have HH := hide h
  clear h
  unfold P36.taken P36.takes
  by_cases hn : 0 ≤ n
  · have d1 : decide (n < 0) = false := by simpa using hn
    by_cases hl : n ≤ left
    · have d2 : decide (n > left) = false := by simpa using hl
      have hw : IntKind.i64.wrap (left - n) = left - n := IntWalk.i64_in _ (by omega)
      rw [if_pos (by simp [hn, hl])]
      go_enter Tryz.func37, Tryz.ntmps37
      go_wp2
      go_ret
      exact ⟨ret_bool (by simp [hn, hl]), (unhide HH).set _, (setC_grown _ _ _ _).1, (setC_grown _ _ _ _).2⟩
    · have hl' : left < n := by omega
      have d2 : decide (n > left) = true := by simpa using hl'
      rw [if_neg (by simp [hl])]
      clear hl
      go_enter Tryz.func37, Tryz.ntmps37
      go_wp2
      go_ret
      exact ⟨ret_bool (by simp; omega), unhide HH, ⟨rfl, rfl, rfl, Nat.le_refl _, fun _ _ _ => rfl⟩, rfl⟩
  · have hn' : n < 0 := by omega
    have d1 : decide (n < 0) = true := by simpa using hn'
    rw [if_neg (by simp [hn])]
    clear hn
    go_enter Tryz.func37, Tryz.ntmps37
    go_wp2
    go_ret
    exact ⟨ret_bool (by simp; omega), unhide HH, ⟨rfl, rfl, rfl, Nat.le_refl _, fun _ _ _ => rfl⟩, rfl⟩
theorem RTake_any (b : Nat) (most back left n : Int) (w : World) (h : BK 75 w b most back left) (h0 : 0 ≤ left) (h1 : left ≤ 1048576) :
    Calls Tryz.prog 38 #[.pointer (some ⟨b, 0, none⟩), .int .i64 n] w fun e w' => e = .returned (.bool (P36.takes left n)) ∧ BK 75 w' b most back (P36.taken left n) ∧ w.grownBy w' (some b) ∧ w'.heap.size = w.heap.size := by
  obtain ⟨_, _, ⟨c2, f2⟩⟩ := cell3 h
  have HH := hide h
  clear h
  unfold P36.taken P36.takes
  by_cases hn : 0 ≤ n
  · have d1 : decide (n < 0) = false := by simpa using hn
    by_cases hl : n ≤ left
    · have d2 : decide (n > left) = false := by simpa using hl
      have hw : IntKind.i64.wrap (left - n) = left - n := IntWalk.i64_in _ (by omega)
      rw [if_pos (by simp [hn, hl])]
      go_enter Tryz.func38, Tryz.ntmps38
      go_wp2
      go_ret
      exact ⟨ret_bool (by simp [hn, hl]), (unhide HH).set _, (setC_grown _ _ _ _).1, (setC_grown _ _ _ _).2⟩
    · have hl' : left < n := by omega
      have d2 : decide (n > left) = true := by simpa using hl'
      rw [if_neg (by simp [hl])]
      clear hl
      go_enter Tryz.func38, Tryz.ntmps38
      go_wp2
      go_ret
      exact ⟨ret_bool (by simp; omega), unhide HH, ⟨rfl, rfl, rfl, Nat.le_refl _, fun _ _ _ => rfl⟩, rfl⟩
  · have hn' : n < 0 := by omega
    have d1 : decide (n < 0) = true := by simpa using hn'
    rw [if_neg (by simp [hn])]
    clear hn
    go_enter Tryz.func38, Tryz.ntmps38
    go_wp2
    go_ret
    exact ⟨ret_bool (by simp; omega), unhide HH, ⟨rfl, rfl, rfl, Nat.le_refl _, fun _ _ _ => rfl⟩, rfl⟩
set_option maxRecDepth 100000 in
theorem Tick_any (b : Nat) (most back left n : Int) (w : World) (h : BK 142 w b most back left) (h0 : 0 ≤ left) (h1 : left ≤ 1048576) (b0 : 0 ≤ back) (b1 : back ≤ 1048576) :
    Calls Tryz.prog 35 #[.pointer (some ⟨b, 0, none⟩), .int .i64 n] w fun e w' => e = .returned (.tuple #[]) ∧ BK 142 w' b most back (P36.tick most back left n) ∧ w.grownBy w' (some b) ∧ w'.heap.size = w.heap.size := by
  obtain ⟨⟨c0, f0⟩, ⟨c1, f1⟩, ⟨c2, f2⟩⟩ := cell3 h
  have HH := hide h
  have hc := fun V => counts_any n V
  unfold P36.tick
  have hq := P36.cnt_le n
  obtain ⟨N, hN⟩ : ∃ N, P36.cnt n = N := ⟨_, rfl⟩
  rw [hN] at hc hq ⊢
  have hm0 : 0 ≤ back * N := Int.mul_nonneg b0 hq.1
  have hm1 : back * N ≤ 1048576 * 1048576 := Int.mul_le_mul b1 hq.2 hq.1 (by omega)
  have hw1 : IntKind.i64.wrap (back * N) = back * N := IntWalk.i64_in _ (by omega)
  have hw2 : IntKind.i64.wrap (left + back * N) = left + back * N := IntWalk.i64_in _ (by omega)
  clear h hN hq
  go_enter Tryz.func35, Tryz.ntmps35
  go_upto_region 1 with fail
  refine wp_region_tail 20 (by kernel_rfl) (by kernel_rfl) (by kernel_rfl) (by kernel_rfl) (by kernel_rfl) ?_
  simp only [List.take_succ_cons, List.take_zero, List.drop_succ_cons, List.drop_zero]
  repeat (go_big_quiet_step (exact Calls.quiet_of_same (hc _)))
  refine wpQuiet_nil ?_
  intro _ hw'
  obtain ⟨nq, hw''⟩ := hw'
  subst hw''
  go_wp2
  go_end0
  refine ⟨rfl, ?_, (setC_drew _ _ _ _ _).1, (setC_drew _ _ _ _ _).2⟩
  exact BK.set (W := w.drewN nq) (unhide HH) _
set_option maxRecDepth 100000 in
theorem RTick_any (b : Nat) (most back left n : Int) (w : World) (h : BK 75 w b most back left) (h0 : 0 ≤ left) (h1 : left ≤ 1048576) (b0 : 0 ≤ back) (b1 : back ≤ 1048576) :
    Calls Tryz.prog 36 #[.pointer (some ⟨b, 0, none⟩), .int .i64 n] w fun e w' => e = .returned (.tuple #[]) ∧ BK 75 w' b most back (P36.tick most back left n) ∧ w.grownBy w' (some b) ∧ w'.heap.size = w.heap.size := by
  obtain ⟨⟨c0, f0⟩, ⟨c1, f1⟩, ⟨c2, f2⟩⟩ := cell3 h
  have HH := hide h
  have hc := fun V => cap36_any n V
  unfold P36.tick
  have hq := P36.cnt_le n
  obtain ⟨N, hN⟩ : ∃ N, P36.cnt n = N := ⟨_, rfl⟩
  rw [hN] at hc hq ⊢
  have hm0 : 0 ≤ back * N := Int.mul_nonneg b0 hq.1
  have hm1 : back * N ≤ 1048576 * 1048576 := Int.mul_le_mul b1 hq.2 hq.1 (by omega)
  have hw1 : IntKind.i64.wrap (back * N) = back * N := IntWalk.i64_in _ (by omega)
  have hw2 : IntKind.i64.wrap (left + back * N) = left + back * N := IntWalk.i64_in _ (by omega)
  clear h hN hq
  go_enter Tryz.func36, Tryz.ntmps36
  go_upto_region 0 with fail
  refine wp_region_tail 19 (by kernel_rfl) (by kernel_rfl) (by kernel_rfl) (by kernel_rfl) (by kernel_rfl) ?_
  simp only [List.take_succ_cons, List.take_zero, List.drop_succ_cons, List.drop_zero]
  repeat (go_big_quiet_step (exact Calls.quiet_of_same (hc _)))
  refine wpQuiet_nil ?_
  intro _ hw'
  obtain ⟨nq, hw''⟩ := hw'
  subst hw''
  go_wp2
  go_end0
  refine ⟨rfl, ?_, (setC_drew _ _ _ _ _).1, (setC_drew _ _ _ _ _).2⟩
  rw [Int.min_comm]
  exact BK.set (W := w.drewN nq) (unhide HH) _
end Go.Proofs.YtefokfbgpfcbkaaGreat
namespace Go.Proofs.YtefokfbgpfcbkaaGreat
set_option linter.unusedVariables false
set_option linter.unusedSimpArgs false
open Go.RowKit
abbrev zeroD : Value := .agg #[.string ⟨#[]⟩, .string ⟨#[]⟩, .slice none 0 0]
theorem zeroDef (w : World) : (zeroValue 24).run Tryz.prog w = .ok zeroD w := by kernel_rfl
/-- definitions by their names, as a map's entries -/
def entD (L : List (List UInt8 × PDef)) : List (List UInt8 × Value) := L.map fun p => (p.1, p.2.val)
/-- a book: its room and its map -/
structure Bk (W : World) (bb bm : Nat) (most : Int) (L : List (List UInt8 × PDef)) : Prop where
  bx : W.heap[bb]? = some (.cells #[.int .i64 most, .map (some bm)] 147)
  mp : MapG encS W bm (entD L)
theorem Bk.keep {W W' : World} {bb bm : Nat} {most : Int} {L : List (List UInt8 × PDef)} (h : Bk W bb bm most L) (h1 : W'.heap[bb]? = W.heap[bb]?) (h2 : W'.heap[bm]? = W.heap[bm]?) : Bk W' bb bm most L := ⟨h1.trans h.bx, h.mp.keep h2⟩
theorem Bk.lt {W : World} {bb bm : Nat} {most : Int} {L : List (List UInt8 × PDef)} (h : Bk W bb bm most L) : bb < W.heap.size ∧ bm < W.heap.size := ⟨(Array.getElem?_eq_some_iff.1 h.bx).1, h.mp.lt⟩
theorem Bk.below {W W' : World} {bb bm : Nat} {most : Int} {L : List (List UInt8 × PDef)} (h : Bk W bb bm most L) (hb : Below W.heap.size W W') : Bk W' bb bm most L := h.keep (hb.block _ h.lt.1) (hb.block _ h.lt.2)
/-- what stands under a name -/
def findD : List (List UInt8 × PDef) → List UInt8 → Option PDef
  | [], _ => none
  | p :: L, x => if x = p.1 then some p.2 else findD L x
theorem lk_entD : ∀ (L : List (List UInt8 × PDef)) (x : List UInt8), lk (entD L) x = (findD L x).map PDef.val
  | [], x => rfl
  | p :: L, x => by
    have ih := lk_entD L x
    unfold findD entD
    rw [List.map_cons]
    unfold lk
    by_cases h : x = p.1
    · rw [if_pos h, if_pos h]
      rfl
    · rw [if_neg h, if_neg h]
      exact ih
/-- a definition's value, or none's -/
def orZero (o : Option PDef) : PDef := o.getD PDef.zero
set_option maxRecDepth 100000 in
set_option maxHeartbeats 4000000 in
theorem get36_any (bb bm : Nat) (most : Int) (L : List (List UInt8 × PDef)) (x : List UInt8) (w : World) (h : Bk w bb bm most L) :
    Calls Tryz.prog 84 #[.pointer (some ⟨bb, 0, none⟩), .string ⟨x.toArray⟩] w fun e w' => e = .returned (.tuple #[(orZero (findD L x)).val, .bool (findD L x).isSome]) ∧ Below w.heap.size w w' := by
  have hl := lk_entD L x
  obtain ⟨FD, hFD⟩ : ∃ o, findD L x = o := ⟨_, rfl⟩
  rw [hFD] at hl ⊢
  obtain ⟨⟨k0, _⟩, ⟨k1, _⟩⟩ := two_cells h.bx
  have HMP := hide h.mp
  have hbl := h.lt
  obtain ⟨H, hH⟩ : ∃ H, w.heap.size = H := ⟨_, rfl⟩
  rw [hH] at hbl ⊢
  obtain ⟨W1, hW1, hb1, g0, hs1⟩ := new1 w (.cells #[.string ⟨#[]⟩, .string ⟨#[]⟩, .slice none 0 0] 24) H hH
  have hk0 := (hb1.block bb hbl.1)
  rw [← World.cell?_of_block (a := ⟨bb, 0, none⟩) hk0] at k0
  rw [← World.cell?_of_block (a := ⟨bb, 1, none⟩) hk0] at k1
  have hm1 := (unhide HMP).keep (hb1.block bm hbl.2)
  have HM1 := hide hm1
  have HW1 := hide hW1
  have HB1 := hide hb1
  have HG0 := hide g0
  cases FD with
  | none =>
    have hl2 : lk (entD L) x = none := hl
    have HL := hide hl2
    obtain ⟨W2, hW2, hb2, g1, hs2⟩ := new1 W1 (.cells #[.string ⟨#[]⟩, .string ⟨#[]⟩, .slice none 0 0] 24) (H + 1) hs1
    obtain ⟨⟨q0, _⟩, ⟨q1, _⟩, ⟨q2, _⟩⟩ := cell3 g1
    obtain ⟨⟨p0, f0⟩, ⟨p1, f1⟩, ⟨p2, f2⟩⟩ := cell3 ((hb2.block H (by omega)).trans g0)
    have HW2 := hide hW2
    have HB2 := hide hb2
    have HG2 := hide ((hb2.block H (by omega)).trans g0)
    clear hl hl2 h hW1 hb1 g0 hm1 hW2 hb2 g1 hk0 hFD
    go_enter Tryz.func84, Tryz.ntmps84
    go_upto_region 1 with fail
    try rw [hH]
    rw [unhide HW1]
    go_upto_region 2 with (at_lookup; refine wpList_lookOk rfl _ _ rfl (unhide HM1) keyS Tryz.underlying143 (zeroDef _) rfl x rfl (unhide HL) ?_)
    rw [unhide HW2]
    go_wp2
    (try simp only [Exit.inBlock, Exit.then])
    have g4 : (((W2.setCell ⟨H, 0, none⟩ (.string ⟨#[]⟩)).setCell ⟨H, 1, none⟩ (.string ⟨#[]⟩)).setCell ⟨H, 2, none⟩ (.slice none 0 0)).heap[H]? = some (.cells #[.string ⟨#[]⟩, .string ⟨#[]⟩, .slice none 0 0] 24) := by
      have h := unhide HG2
      simp [World.setCell, Array.getElem?_modify, h]
    refine bodyPost_ret (results_ct rfl _ _ _ H _ _ rfl (cellDef g4) rfl) rfl ?_
    refine ⟨rfl, ?_⟩
    exact ((((unhide HB1).trans ((unhide HB2).mono (by omega))).setCell (p := ⟨H, 0, none⟩) (Nat.le_refl H) _).setCell (p := ⟨H, 1, none⟩) (Nat.le_refl H) _).setCell (p := ⟨H, 2, none⟩) (Nat.le_refl H) _
  | some d =>
    obtain ⟨nm, tx, sa, sc, ss⟩ := d
    have hl2 : lk (entD L) x = some (.agg #[.string ⟨nm.toArray⟩, .string ⟨tx.toArray⟩, .slice sa ss.length sc]) := hl
    have HL := hide hl2
    obtain ⟨W2, hW2, hb2, g1, hs2⟩ := new1 W1 (.cells #[.string ⟨nm.toArray⟩, .string ⟨tx.toArray⟩, .slice sa ss.length sc] 24) (H + 1) hs1
    obtain ⟨⟨q0, _⟩, ⟨q1, _⟩, ⟨q2, _⟩⟩ := cell3 g1
    obtain ⟨⟨p0, f0⟩, ⟨p1, f1⟩, ⟨p2, f2⟩⟩ := cell3 ((hb2.block H (by omega)).trans g0)
    have HW2 := hide hW2
    have HB2 := hide hb2
    have HG2 := hide ((hb2.block H (by omega)).trans g0)
    clear hl hl2 h hW1 hb1 g0 hm1 hW2 hb2 g1 hk0 hFD
    go_enter Tryz.func84, Tryz.ntmps84
    go_upto_region 1 with fail
    try rw [hH]
    rw [unhide HW1]
    go_upto_region 2 with (at_lookup; refine wpList_lookOk rfl _ _ rfl (unhide HM1) keyS Tryz.underlying143 (zeroDef _) rfl x rfl (unhide HL) ?_)
    rw [unhide HW2]
    go_wp2
    (try simp only [Exit.inBlock, Exit.then])
    have g4 : (((W2.setCell ⟨H, 0, none⟩ (.string ⟨nm.toArray⟩)).setCell ⟨H, 1, none⟩ (.string ⟨tx.toArray⟩)).setCell ⟨H, 2, none⟩ (.slice sa ss.length sc)).heap[H]? = some (.cells #[.string ⟨nm.toArray⟩, .string ⟨tx.toArray⟩, .slice sa ss.length sc] 24) := by
      have h := unhide HG2
      simp [World.setCell, Array.getElem?_modify, h]
    refine bodyPost_ret (results_ct rfl _ _ _ H _ _ rfl (cellDef g4) rfl) rfl ?_
    refine ⟨rfl, ?_⟩
    exact ((((unhide HB1).trans ((unhide HB2).mono (by omega))).setCell (p := ⟨H, 0, none⟩) (Nat.le_refl H) _).setCell (p := ⟨H, 1, none⟩) (Nat.le_refl H) _).setCell (p := ⟨H, 2, none⟩) (Nat.le_refl H) _
theorem mapG_size {κ : Type} {enc : κ → Value} {W : World} {bm : Nat} {L : List (κ × Value)} (h : MapG enc W bm L) : ∃ es clock, W.heap[bm]? = some (.map es clock) ∧ es.size = L.length := by
  obtain ⟨es, clock, h1, _, h2⟩ := h
  refine ⟨es, clock, h1, ?_⟩
  have := congrArg List.length h2
  simpa using this
theorem run_len_map {W : World} {bm : Nat} {L : List (List UInt8 × Value)} (h : MapG encS W bm L) (ty : TypeId) : (Builtin.len_ #[143] ty #[.map (some bm)]).run Tryz.prog W = .ok (.int .i64 L.length) W := by
  obtain ⟨es, clock, h1, h2⟩ := mapG_size h
  have hg := Go.MapKept.run_getObj_map (P := Tryz.prog) h1
  unfold getObj at hg
  simp [Builtin.len_, run_underlying Tryz.underlying143, getObj, hg, goInt, h2, Result.andThen]
theorem entD_len (L : List (List UInt8 × PDef)) : (entD L).length = L.length := by simp [entD]
set_option maxRecDepth 100000 in
theorem full36_any (bb bm : Nat) (most : Int) (L : List (List UInt8 × PDef)) (w : World) (h : Bk w bb bm most L) :
    Calls Tryz.prog 86 #[.pointer (some ⟨bb, 0, none⟩)] w fun e w' => e = .returned (.bool (decide ((L.length : Int) ≥ most))) ∧ ∃ n, w' = w.drewN n := by
  obtain ⟨⟨k0, _⟩, ⟨k1, _⟩⟩ := two_cells h.bx
  have hlen : ∀ q, (Builtin.len_ #[143] 3 #[.map (some bm)]).run Tryz.prog (w.drewN q) = .ok (.int .i64 L.length) (w.drewN q) := fun q => by
    have := run_len_map (h.mp.keep (W' := w.drewN q) rfl) 3
    rw [entD_len] at this
    exact this
  clear h
  go_enter Tryz.func86, Tryz.ntmps86
  go_upto_region 1 with fail
  go_quiet (fail)
  go_wp2
  go_ret
  exact ⟨ret_bool (by simp), _, rfl⟩
set_option maxRecDepth 100000 in
theorem put36_any (bb bm : Nat) (most : Int) (L : List (List UInt8 × PDef)) (x : List UInt8) (d : PDef) (w : World) (h : Bk w bb bm most L) :
    Calls Tryz.prog 87 #[.pointer (some ⟨bb, 0, none⟩), .string ⟨x.toArray⟩, d.val] w fun e w' => e = .returned (.tuple #[]) ∧ MapG encS w' bm (putL (entD L) x d.val) ∧ w.grownBy w' (some bm) := by
  obtain ⟨⟨k0, _⟩, ⟨k1, _⟩⟩ := two_cells h.bx
  have hbl := h.lt
  obtain ⟨nm, tx, sa, sc, ss⟩ := d
  obtain ⟨H, hH⟩ : ∃ H, w.heap.size = H := ⟨_, rfl⟩
  obtain ⟨W1, hW1, hb1, g0, hs1⟩ := new1 w (.cells #[.string ⟨nm.toArray⟩, .string ⟨tx.toArray⟩, .slice sa ss.length sc] 24) H hH
  have hk0 := (hb1.block bb (by omega))
  rw [← World.cell?_of_block (a := ⟨bb, 0, none⟩) hk0] at k0
  rw [← World.cell?_of_block (a := ⟨bb, 1, none⟩) hk0] at k1
  obtain ⟨⟨q0, _⟩, ⟨q1, _⟩, ⟨q2, _⟩⟩ := cell3 g0
  have hm1 := h.mp.keep (hb1.block bm (by omega))
  have HM1 := hide hm1
  have HW1 := hide hW1
  have HB1 := hide hb1
  clear hm1 hW1 hb1 g0 hk0 h
  unfold PDef.val
  go_enter Tryz.func87, Tryz.ntmps87
  go_upto_region 1 with fail
  try rw [hH]
  rw [unhide HW1]
  refine wp_region_tail 6 (by kernel_rfl) (by kernel_rfl) (by kernel_rfl) (by kernel_rfl) (by kernel_rfl) ?_
  simp only [List.take_succ_cons, List.take_zero, List.drop_succ_cons, List.drop_zero]
  repeat (go_big_quiet_step (fail))
  refine wpQuiet_nil ?_
  intro _ hw'
  obtain ⟨nq, hw''⟩ := hw'
  subst hw''
  go_wp2_with (at_mapUpdate; refine wpList_putG rfl _ _ _ rfl ((unhide HM1).keep (W' := W1.drewN nq) rfl) keyS Tryz.underlying143 rfl x rfl (.agg #[.string ⟨nm.toArray⟩, .string ⟨tx.toArray⟩, .slice sa ss.length sc]) rfl ?_; intro W2 hm2 hg2 hs2 ho2)
  go_end0
  have hb1 := unhide HB1
  refine ⟨rfl, hm2, hg2.os.trans hb1.os, hg2.tape.trans hb1.tape, hg2.output.trans hb1.output, ?_, fun k hk hne => ?_⟩
  · have := hg2.size
    have := hb1.size
    show w.heap.size ≤ W2.heap.size
    simp at *
    omega
  · exact (hg2.block k (by show k < W1.heap.size; omega) hne).trans (hb1.block k (by omega))
theorem NewBook_any (n : Int) (w : World) : Calls Tryz.prog 40 #[.int .i64 n] w fun e w' => e = .returned (.pointer (some ⟨w.heap.size + 1, 0, none⟩)) ∧ Bk w' (w.heap.size + 1) w.heap.size (P36.cnt n) [] ∧ Below w.heap.size w w' ∧ w'.heap.size = w.heap.size + 2 := by
  have hc := counts_any
  have hmm := @run_makeMap Tryz.prog
  obtain ⟨H, hH⟩ : ∃ H, w.heap.size = H := ⟨_, rfl⟩
  obtain ⟨W1, hW1, hb1, g0, g1, hs1⟩ := new2 w (.map #[] 0) (.cells #[.int .i64 (P36.cnt n), .map (some H)] 147) H hH
  have HW1 := hide hW1
  have hbk : Bk W1 (H + 1) H (P36.cnt n) [] := ⟨g1, #[], 0, g0, ⟨by simp, by simp⟩, rfl⟩
  have HB := hide (And.intro hbk hb1)
  clear hW1 hbk g0 g1 hb1
  go_enter Tryz.func40, Tryz.ntmps40
  go_wp2_with (go_at_call 82; refine (hc _ _).mono ?_; rintro e w' ⟨rfl, hw⟩; have hw := hw.symm; subst hw)
  try rw [hH]
  rw [unhide HW1]
  go_ret
  exact ⟨rfl, (unhide HB).1, (unhide HB).2, by omega⟩
end Go.Proofs.YtefokfbgpfcbkaaGreat
namespace Go.Proofs.YtefokfbgpfcbkaaGreat
set_option linter.unusedVariables false
set_option linter.unusedSimpArgs false
open Go.RowKit
attribute [local go_sem] run_field_fault
def setD : List (List UInt8 × PDef) → List UInt8 → PDef → List (List UInt8 × PDef)
  | [], x, d => [(x, d)]
  | p :: L, x, d => if x = p.1 then (x, d) :: L else p :: setD L x d
theorem entD_set : ∀ (L : List (List UInt8 × PDef)) (x : List UInt8) (d : PDef), entD (setD L x d) = putL (entD L) x d.val
  | [], x, d => rfl
  | p :: L, x, d => by
    have ih := entD_set L x d
    unfold setD
    unfold entD at ih ⊢
    rw [List.map_cons]
    unfold putL
    by_cases h : x = p.1
    · rw [if_pos h, if_pos h]; rfl
    · rw [if_neg h, if_neg h, List.map_cons, ih]
/-- a copied definition is one that lies in the world -/
theorem Copy_any (d : PDef) (w : World) (hin : d.In w) (hcp : d.cp) : Calls Tryz.prog 67 #[d.val] w (CopyR w d) := by
  obtain ⟨nm, tx, sa, sc, ss⟩ := d
  by_cases h : ss = []
  · subst h
    have := hcp.none_ rfl
    simp only at this
    subst this
    exact Copy_none nm tx sc w
  · obtain ⟨x, r, rfl⟩ : ∃ x r, ss = x :: r := by cases ss with | nil => exact absurd rfl h | cons x r => exact ⟨x, r, rfl⟩
    obtain ⟨⟨b, o, e, _⟩, _⟩ := hin.steps 0 x rfl
    simp only at e
    subst e
    exact Copy_some nm tx b o sc (x :: r) w hin hcp h
def putE (right cl has again full : Bool) : Int := if !right then 18 else if !cl then 3 else if has && !again then 6 else if !has && full then 14 else 0
/-- what region 12 of Put has done so far -/
def PutPh (U : World) (d : PDef) (bm : Nat) (L : List (List UInt8 × PDef)) (x : List UInt8) : Nat → Value → World → Prop
  | 0, _, W => W = U
  | 1, X, W => ∃ d' : PDef, X = d'.val ∧ d'.In W ∧ (∀ g, d'.blk g → U.heap.size ≤ g) ∧ d'.bare = cutD d.bare ∧ Below U.heap.size U W
  | _, X, W => ∃ (d' : PDef) (W5 : World), X = d'.val ∧ d'.In W5 ∧ (∀ g, d'.blk g → U.heap.size ≤ g) ∧ d'.bare = cutD d.bare ∧ Below U.heap.size U W5 ∧ MapG encS W bm (putL (entD L) x d'.val) ∧ W5.grownBy W (some bm)
theorem putEnd {w U W5 W6 : World} {H bb bm : Nat} {most : Int} {L : List (List UInt8 × PDef)} {x : List UInt8} {d d' : PDef} (hH : w.heap.size = H) (hbl : bb < H ∧ bm < H) (hbk : Bk W5 bb bm most L) (hbU : Below H w U) (h1 : d'.In W5) (h2 : ∀ g, d'.blk g → U.heap.size ≤ g) (h3 : d'.bare = cutD d.bare) (h4 : Below U.heap.size U W5)
    (q1 : MapG encS W6 bm (putL (entD L) x d'.val)) (q2 : W5.grownBy W6 (some bm)) : w.grownBy W6 (some bm) ∧ ∃ d' : PDef, d'.In W6 ∧ (∀ g, d'.blk g → w.heap.size ≤ g) ∧ d'.bare = cutD d.bare ∧ Bk W6 bb bm most (setD L x d') := by
  have hzU : H ≤ U.heap.size := by have := hbU.size; omega
  have hbw : Below H w W5 := hbU.trans (h4.mono hzU)
  have hz5 : H ≤ W5.heap.size := by have := hbw.size; omega
  have hne : bb ≠ bm := fun e => by
    obtain ⟨es, cl, hm, _⟩ := hbk.mp
    have hb := hbk.bx
    rw [e, hm] at hb
    cases hb
  refine ⟨⟨q2.os.trans hbw.os, q2.tape.trans hbw.tape, q2.output.trans hbw.output, by rw [hH]; exact Nat.le_trans hz5 q2.size, fun k hk hkne => (q2.block k (by omega) hkne).trans (hbw.block k (by omega))⟩, d', h1.keep (fun g hg => q2.block g (h1.lt hg) (fun e => by have := h2 g hg; cases e; omega)), fun g hg => by have := h2 g hg; omega, h3, (q2.block bb (by omega) (fun e => hne (by cases e; rfl))).trans hbk.bx, by rw [entD_set]; exact q1⟩
set_option maxRecDepth 100000 in
set_option maxHeartbeats 8000000 in
theorem Put_any (bb bm : Nat) (most : Int) (L : List (List UInt8 × PDef)) (x : List UInt8) (d : PDef) (again : Bool) (w : World) (h : Bk w bb bm most L) (hx : x.length ≤ maxLen) (hin : d.In w) (hok : d.ok) (hcp : d.cp) :
    Calls Tryz.prog 41 #[.pointer (some ⟨bb, 0, none⟩), .string ⟨x.toArray⟩, d.val, .bool again] w fun e w' =>
      e = .returned (.int .i64 (putE (P28.right x) (P28.clean d.bare) (findD L x).isSome again (decide ((L.length : Int) ≥ most)))) ∧ w.grownBy w' (some bm) ∧
      (putE (P28.right x) (P28.clean d.bare) (findD L x).isSome again (decide ((L.length : Int) ≥ most)) ≠ 0 → Bk w' bb bm most L) ∧
      (putE (P28.right x) (P28.clean d.bare) (findD L x).isSome again (decide ((L.length : Int) ≥ most)) = 0 → ∃ d', d'.In w' ∧ (∀ g, d'.blk g → w.heap.size ≤ g) ∧ d'.bare = cutD d.bare ∧ Bk w' bb bm most (setD L x d')) := by
  obtain ⟨H, hH⟩ : ∃ H, w.heap.size = H := ⟨_, rfl⟩
  have hbl := h.lt
  rw [hH] at hbl
  obtain ⟨RI, hRI⟩ : ∃ b, P28.right x = b := ⟨_, rfl⟩
  obtain ⟨CL, hCL⟩ : ∃ b, P28.clean d.bare = b := ⟨_, rfl⟩
  obtain ⟨HA, hHA⟩ : ∃ b, (findD L x).isSome = b := ⟨_, rfl⟩
  obtain ⟨FU, hFU⟩ : ∃ b, decide ((L.length : Int) ≥ most) = b := ⟨_, rfl⟩
  have hright := fun V => Right_any x V hx
  rw [hRI] at hright
  have hinV : ∀ V, Below H w V → d.In V := fun V hV => hin.below (by rw [hH]; exact hV)
  have hclean := fun V (hV : Below H w V) => Clean_any d V (hinV V hV) hok
  have hcopy := fun V (hV : Below H w V) => Copy_any d V (hinV V hV) hcp
  have hbkV : ∀ V, Below H w V → Bk V bb bm most L := fun V hV => h.below (by rw [hH]; exact hV)
  have hget := fun V (hV : Below H w V) => get36_any bb bm most L x V (hbkV V hV)
  have hfull := fun V (hV : Below H w V) => full36_any bb bm most L V (hbkV V hV)
  have hput := fun V (hV : Below H w V) d' => put36_any bb bm most L x d' V (hbkV V hV)
  rw [hCL] at hclean
  rw [hFU] at hfull
  rw [hHA] at hget
  rw [hRI, hCL, hHA, hFU]
  obtain ⟨⟨n0, t0, s0, z0, y0⟩, hD0⟩ : ∃ d0, orZero (findD L x) = d0 := ⟨_, rfl⟩
  rw [hD0] at hget
  obtain ⟨Y0, hY0⟩ : ∃ n, y0.length = n := ⟨_, rfl⟩
  unfold PDef.val at hget
  simp only [hY0] at hget
  obtain ⟨W1, hW1, hb1, g0, hs1⟩ := new1 w (defO d) H hH
  obtain ⟨⟨k0, _⟩, ⟨k1, _⟩, ⟨k2, _⟩⟩ := cell3 g0
  have HR := hide hright
  have HCL := hide hclean
  have HCP := hide hcopy
  have HBK := hide hbkV
  have HGET := hide hget
  have HFULL := hide hfull
  have HPUT := hide hput
  have HW1 := hide hW1
  have HB1 := hide hb1
  have HG0 := hide g0
  have e67 : ∀ args W, (callFunc 67 args).run Tryz.prog W = .ok (.enter 67 args) W := enters_of Tryz.func67 (by kernel_rfl) rfl
  have e87 : ∀ args W, (callFunc 87 args).run Tryz.prog W = .ok (.enter 87 args) W := enters_of Tryz.func87 (by kernel_rfl) rfl
  clear hright hclean hcopy hbkV hget hfull hput hW1 hb1 g0 hinV hRI hCL hHA hFU hD0 hY0 h hin hok hcp
  unfold defO at HW1 HG0
  obtain ⟨nm, tx, sa, sc, ss⟩ := d
  obtain ⟨M, hM⟩ : ∃ M, ss.length = M := ⟨_, rfl⟩
  unfold PDef.val at HCL HCP ⊢
  simp only at k0 k1 k2 HW1 HG0 HCL HCP ⊢
  rw [hM] at k2 HW1 HG0 HCL HCP ⊢
  clear hM
  go_enter Tryz.func41, Tryz.ntmps41
  go_upto_region 1 with fail
  try rw [hH]
  rw [unhide HW1]
  go_upto_region 4 with (go_at_call 84; refine (unhide HGET _ (unhide HB1)).mono ?_; rintro e w2 ⟨rfl, hb2⟩)
  obtain ⟨W3, hW3, hb3, g3, hs3⟩ := new1 w2 (.cells #[.string ⟨n0.toArray⟩, .string ⟨t0.toArray⟩, .slice s0 Y0 z0] 24) w2.heap.size rfl
  rw [hW3]
  have hz2 := hb2.size
  have hb13 : Below H w W3 := ((unhide HB1).trans (hb2.mono (by omega))).trans (hb3.mono (by omega))
  have g0' := (hb3.block H (by omega)).trans ((hb2.block H (by omega)).trans (unhide HG0))
  clear k0 k1 k2
  obtain ⟨⟨k0, _⟩, ⟨k1, _⟩, ⟨k2, _⟩⟩ := cell3 g0'
  have HB13 := hide hb13
  have HG3 := hide g0'
  clear hW3 hb2 hb3 g3 hb13 g0' HW1 HG0 HB1 HGET
  have hgr : ∀ V, Below H w V → w.grownBy V (some bm) := fun V hV => ⟨hV.os, hV.tape, hV.output, by rw [hH]; have := hV.size; rw [hH] at this; exact this, fun k hk _ => hV.block k (by omega)⟩
  have HGR := hide hgr
  clear hgr
  cases RI with
  | false =>
    go_wp2_with (go_at_call 85; refine (unhide HR _).mono ?_; rintro e w' ⟨rfl, hw⟩; have hw := hw.symm; subst hw)
    go_ret
    exact ⟨rfl, unhide HGR _ (unhide HB13), fun _ => unhide HBK _ (unhide HB13), fun h => by simp [putE] at h⟩
  | true =>
    cases CL with
    | false =>
      go_wp2_with (first | (go_at_call 85; refine (unhide HR _).mono ?_; rintro e w' ⟨rfl, hw⟩; have hw := hw.symm; subst hw) | (go_at_call 30; refine (unhide HCL _ (unhide HB13)).mono ?_; rintro e w4 ⟨rfl, hb4⟩))
      go_ret
      have hb := (unhide HB13).trans (hb4.mono (by have := (unhide HB13).size; omega))
      exact ⟨rfl, unhide HGR _ hb, fun _ => unhide HBK _ hb, fun h => by simp [putE] at h⟩
    | true =>
      go_upto_region 8 with (first | (go_at_call 85; refine (unhide HR _).mono ?_; rintro e w' ⟨rfl, hw⟩; have hw := hw.symm; subst hw) | (go_at_call 30; refine (unhide HCL _ (unhide HB13)).mono ?_; rintro e w4 ⟨rfl, hb4⟩))
      have hz3 : H ≤ W3.heap.size := by omega
      have hb := (unhide HB13).trans (hb4.mono hz3)
      have g4 := (hb4.block H (by omega)).trans (unhide HG3)
      clear k0 k1 k2
      obtain ⟨⟨k0, _⟩, ⟨k1, _⟩, ⟨k2, _⟩⟩ := cell3 g4
      have hz4 := hb4.size
      have HB4 := hide hb
      have HG4 := hide g4
      clear hb hb4 g4
      cases HA with
      | true =>
        cases again with
        | false =>
          go_wp2
          go_ret
          exact ⟨rfl, unhide HGR _ (unhide HB4), fun _ => unhide HBK _ (unhide HB4), fun h => by simp [putE] at h⟩
        | true =>
          go_upto_region 12 with fail
          obtain ⟨U, hU⟩ : ∃ U, w4.drew = U := ⟨_, rfl⟩
          have hbU : Below H w U := by rw [← hU]; exact (unhide HB4).drew
          have hgU : U.heap[H]? = some (.cells #[.string ⟨nm.toArray⟩, .string ⟨tx.toArray⟩, .slice sa M sc] 24) := by rw [← hU]; exact unhide HG4
          obtain ⟨⟨x0, _⟩, ⟨x1, _⟩, ⟨x2, _⟩⟩ := cell3 hgU
          refine wp_region_phase hmixed [5, 6] (fun k aF W => ∃ X Y, aF = { tmps := #[.pointer (some ⟨bb, 0, none⟩), .string ⟨x.toArray⟩, .agg #[.string ⟨nm.toArray⟩, .string ⟨tx.toArray⟩, .slice sa M sc], .bool true, undef, undef, .pointer (some ⟨H, 0, none⟩), undef, .int .i64 0, .pointer (some ⟨w2.heap.size, 0, none⟩), .bool true, .pointer (some ⟨bb, 0, none⟩), .bool false, .tuple #[.agg #[.string ⟨n0.toArray⟩, .string ⟨t0.toArray⟩, .slice s0 Y0 z0], .bool true], .pointer (some ⟨bb, 0, none⟩), .pointer (some ⟨bb, 0, none⟩), .pointer (some ⟨bb, 0, none⟩), .string ⟨x.toArray⟩, .tuple #[.agg #[.string ⟨n0.toArray⟩, .string ⟨t0.toArray⟩, .slice s0 Y0 z0], .bool true], .agg #[.string ⟨n0.toArray⟩, .string ⟨t0.toArray⟩, .slice s0 Y0 z0], .bool true, .bool false, .string ⟨x.toArray⟩, .bool true, .bool false, .bool false, .agg #[.string ⟨nm.toArray⟩, .string ⟨tx.toArray⟩, .slice sa M sc], .bool true, .bool false, .bool false, .bool true, .bool true, .bool true, .bool false, .bool false, .bool false, .bool true, .bool false, .bool false, undef, undef, undef, undef, .bool false, .pointer (some ⟨bb, 0, none⟩), .pointer (some ⟨bb, 0, none⟩), .pointer (some ⟨bb, 0, none⟩), .string ⟨x.toArray⟩, .agg #[.string ⟨nm.toArray⟩, .string ⟨tx.toArray⟩, .slice sa M sc], X, Y], defers := [] } ∧ PutPh U ⟨nm, tx, sa, sc, ss⟩ bm L x k X W) (aF := (fun X Y => { tmps := #[.pointer (some ⟨bb, 0, none⟩), .string ⟨x.toArray⟩, .agg #[.string ⟨nm.toArray⟩, .string ⟨tx.toArray⟩, .slice sa M sc], .bool true, undef, undef, .pointer (some ⟨H, 0, none⟩), undef, .int .i64 0, .pointer (some ⟨w2.heap.size, 0, none⟩), .bool true, .pointer (some ⟨bb, 0, none⟩), .bool false, .tuple #[.agg #[.string ⟨n0.toArray⟩, .string ⟨t0.toArray⟩, .slice s0 Y0 z0], .bool true], .pointer (some ⟨bb, 0, none⟩), .pointer (some ⟨bb, 0, none⟩), .pointer (some ⟨bb, 0, none⟩), .string ⟨x.toArray⟩, .tuple #[.agg #[.string ⟨n0.toArray⟩, .string ⟨t0.toArray⟩, .slice s0 Y0 z0], .bool true], .agg #[.string ⟨n0.toArray⟩, .string ⟨t0.toArray⟩, .slice s0 Y0 z0], .bool true, .bool false, .string ⟨x.toArray⟩, .bool true, .bool false, .bool false, .agg #[.string ⟨nm.toArray⟩, .string ⟨tx.toArray⟩, .slice sa M sc], .bool true, .bool false, .bool false, .bool true, .bool true, .bool true, .bool false, .bool false, .bool false, .bool true, .bool false, .bool false, undef, undef, undef, undef, .bool false, .pointer (some ⟨bb, 0, none⟩), .pointer (some ⟨bb, 0, none⟩), .pointer (some ⟨bb, 0, none⟩), .string ⟨x.toArray⟩, .agg #[.string ⟨nm.toArray⟩, .string ⟨tx.toArray⟩, .slice sa M sc], X, Y], defers := [] }) undef undef) (by kernel_rfl) (by kernel_rfl) (by simp) ⟨undef, undef, rfl, hU⟩ rfl rfl (same_mid 44 7 (by kernel_rfl) rfl rfl) ?pure ?write ?fin
          case pure =>
            rintro k aF W ix o ⟨X, Y, rfl, hph⟩ ho hni hanc
            rcases ix with _ | _ | _ | _ | _ | _ | _ | ix
            · have ho' : some _ = some o := ho
              cases ho'
              refine (if_pos (show Region.wanted _ (yielded _ _) = true from rfl)).mpr ?_
              refine ⟨_, _, rfl, rfl, .inl ?_⟩
              go_simp
            · have ho' : some _ = some o := ho
              cases ho'
              refine (if_pos (show Region.wanted _ (yielded _ _) = true from rfl)).mpr ?_
              refine ⟨_, _, rfl, rfl, .inl ?_⟩
              go_simp
            · have ho' : some _ = some o := ho
              cases ho'
              refine (if_pos (show Region.wanted _ (yielded _ _) = true from rfl)).mpr ?_
              refine ⟨_, _, rfl, rfl, .inl ?_⟩
              go_simp
            · have ho' : some _ = some o := ho
              cases ho'
              refine (if_pos (show Region.wanted _ (yielded _ _) = true from rfl)).mpr ?_
              refine ⟨_, _, rfl, rfl, .inl ?_⟩
              go_simp
            · have ho' : some _ = some o := ho
              cases ho'
              have hk0 : k ≤ 0 := hanc 0 5 rfl (by kernel_rfl)
              obtain rfl : k = 0 := by omega
              have hWU : W = U := hph
              subst hWU
              refine (if_pos (show Region.wanted _ (yielded _ _) = true from rfl)).mpr ?_
              refine ⟨_, _, rfl, rfl, .inl ?_⟩
              go_simp
            · exfalso; simp at hni
            · exfalso; simp at hni
            · exfalso; simp at ho
          case write =>
            rintro k aF W ix o ⟨X, Y, rfl, hph⟩ hi ho
            rcases k with _ | _ | k
            · cases (show some 5 = some ix from hi)
              have ho' : some _ = some o := ho
              cases ho'
              have hWU : W = U := hph
              subst hWU
              refine ⟨rfl, .inr (.inr ⟨67, #[.agg #[.string ⟨nm.toArray⟩, .string ⟨tx.toArray⟩, .slice sa M sc]], W, ?_, ?_⟩)⟩
              · simp [execOp, resolve, invoke, Act.eval, e67, Result.andThen, Deferred.ofValue]
              · refine (unhide HCP W hbU).mono ?_
                rintro e w5 ⟨d', rfl, h1, h2, h3, h4⟩
                exact ⟨_, rfl, ⟨_, Y, rfl, d', rfl, h1, h2, h3, h4⟩⟩
            · cases (show some 6 = some ix from hi)
              have ho' : some _ = some o := ho
              cases ho'
              obtain ⟨d', rfl, h1, h2, h3, h4⟩ := hph
              refine ⟨rfl, .inr (.inr ⟨87, #[.pointer (some ⟨bb, 0, none⟩), .string ⟨x.toArray⟩, d'.val], W, ?_, ?_⟩)⟩
              · simp [execOp, resolve, invoke, Act.eval, e87, Result.andThen, Deferred.ofValue]
              · refine (unhide HPUT W (hbU.trans (h4.mono (by rw [← hH]; exact hbU.size))) d').mono ?_
                rintro e w6 ⟨rfl, q1, q2⟩
                exact ⟨_, rfl, ⟨_, _, rfl, d', W, rfl, h1, h2, h3, h4, q1, q2⟩⟩
            · simp at hi
          case fin =>
            rintro k aF W6 hk ⟨X, Y, rfl, hph⟩
            obtain ⟨k, rfl⟩ : ∃ k', k = k' + 2 := ⟨k - 2, by simp at hk; omega⟩
            obtain ⟨d', W5, rfl, h1, h2, h3, h4, q1, q2⟩ := id hph
            have hfin : w.grownBy W6 (some bm) ∧ ∃ d' : PDef, d'.In W6 ∧ (∀ g, d'.blk g → w.heap.size ≤ g) ∧ d'.bare = cutD (PDef.bare ⟨nm, tx, sa, sc, ss⟩) ∧ Bk W6 bb bm most (setD L x d') :=
              putEnd hH hbl (unhide HBK _ (hbU.trans (h4.mono (by rw [← hH]; exact hbU.size)))) hbU h1 h2 h3 h4 q1 q2
            have HFIN := hide hfin
            clear hfin hph h1 h2 h3 h4 q1 q2 hbU hgU
            go_wp2
            go_ret
            exact ⟨rfl, (unhide HFIN).1, fun h => absurd rfl h, fun _ => (unhide HFIN).2⟩
      | false =>
        cases FU with
        | true =>
          go_wp2_with (go_at_call 86; refine (unhide HFULL _ (unhide HB4)).mono ?_; rintro e w' ⟨rfl, n, rfl⟩)
          go_ret
          exact ⟨rfl, unhide HGR _ (below_drewN (unhide HB4)), fun _ => unhide HBK _ (below_drewN (unhide HB4)), fun h => by simp [putE] at h⟩
        | false =>
          go_upto_region 12 with (go_at_call 86; refine (unhide HFULL _ (unhide HB4)).mono ?_; rintro e w' ⟨rfl, n, rfl⟩)
          obtain ⟨U, hU⟩ : ∃ U, (w4.drewN n).drew = U := ⟨_, rfl⟩
          have hbU : Below H w U := by rw [← hU]; exact (below_drewN (unhide HB4)).drew
          have hgU : U.heap[H]? = some (.cells #[.string ⟨nm.toArray⟩, .string ⟨tx.toArray⟩, .slice sa M sc] 24) := by rw [← hU]; exact unhide HG4
          obtain ⟨⟨x0, _⟩, ⟨x1, _⟩, ⟨x2, _⟩⟩ := cell3 hgU
          refine wp_region_phase hmixed [5, 6] (fun k aF W => ∃ X Y, aF = { tmps := #[.pointer (some ⟨bb, 0, none⟩), .string ⟨x.toArray⟩, .agg #[.string ⟨nm.toArray⟩, .string ⟨tx.toArray⟩, .slice sa M sc], .bool again, undef, undef, .pointer (some ⟨H, 0, none⟩), undef, .int .i64 0, .pointer (some ⟨w2.heap.size, 0, none⟩), .bool false, .pointer (some ⟨bb, 0, none⟩), .bool false, .tuple #[.agg #[.string ⟨n0.toArray⟩, .string ⟨t0.toArray⟩, .slice s0 Y0 z0], .bool false], .pointer (some ⟨bb, 0, none⟩), .pointer (some ⟨bb, 0, none⟩), .pointer (some ⟨bb, 0, none⟩), .string ⟨x.toArray⟩, .tuple #[.agg #[.string ⟨n0.toArray⟩, .string ⟨t0.toArray⟩, .slice s0 Y0 z0], .bool false], .agg #[.string ⟨n0.toArray⟩, .string ⟨t0.toArray⟩, .slice s0 Y0 z0], .bool false, .bool false, .string ⟨x.toArray⟩, .bool true, .bool false, .bool false, .agg #[.string ⟨nm.toArray⟩, .string ⟨tx.toArray⟩, .slice sa M sc], .bool true, .bool false, .bool false, .bool false, .bool false, undef, undef, .bool false, .bool false, .bool false, .bool true, .bool true, .pointer (some ⟨bb, 0, none⟩), .pointer (some ⟨bb, 0, none⟩), .pointer (some ⟨bb, 0, none⟩), .bool false, .bool false, .pointer (some ⟨bb, 0, none⟩), .pointer (some ⟨bb, 0, none⟩), .pointer (some ⟨bb, 0, none⟩), .string ⟨x.toArray⟩, .agg #[.string ⟨nm.toArray⟩, .string ⟨tx.toArray⟩, .slice sa M sc], X, Y], defers := [] } ∧ PutPh U ⟨nm, tx, sa, sc, ss⟩ bm L x k X W) (aF := (fun X Y => { tmps := #[.pointer (some ⟨bb, 0, none⟩), .string ⟨x.toArray⟩, .agg #[.string ⟨nm.toArray⟩, .string ⟨tx.toArray⟩, .slice sa M sc], .bool again, undef, undef, .pointer (some ⟨H, 0, none⟩), undef, .int .i64 0, .pointer (some ⟨w2.heap.size, 0, none⟩), .bool false, .pointer (some ⟨bb, 0, none⟩), .bool false, .tuple #[.agg #[.string ⟨n0.toArray⟩, .string ⟨t0.toArray⟩, .slice s0 Y0 z0], .bool false], .pointer (some ⟨bb, 0, none⟩), .pointer (some ⟨bb, 0, none⟩), .pointer (some ⟨bb, 0, none⟩), .string ⟨x.toArray⟩, .tuple #[.agg #[.string ⟨n0.toArray⟩, .string ⟨t0.toArray⟩, .slice s0 Y0 z0], .bool false], .agg #[.string ⟨n0.toArray⟩, .string ⟨t0.toArray⟩, .slice s0 Y0 z0], .bool false, .bool false, .string ⟨x.toArray⟩, .bool true, .bool false, .bool false, .agg #[.string ⟨nm.toArray⟩, .string ⟨tx.toArray⟩, .slice sa M sc], .bool true, .bool false, .bool false, .bool false, .bool false, undef, undef, .bool false, .bool false, .bool false, .bool true, .bool true, .pointer (some ⟨bb, 0, none⟩), .pointer (some ⟨bb, 0, none⟩), .pointer (some ⟨bb, 0, none⟩), .bool false, .bool false, .pointer (some ⟨bb, 0, none⟩), .pointer (some ⟨bb, 0, none⟩), .pointer (some ⟨bb, 0, none⟩), .string ⟨x.toArray⟩, .agg #[.string ⟨nm.toArray⟩, .string ⟨tx.toArray⟩, .slice sa M sc], X, Y], defers := [] }) undef undef) (by kernel_rfl) (by kernel_rfl) (by simp) ⟨undef, undef, rfl, hU⟩ rfl rfl (same_mid 44 7 (by kernel_rfl) rfl rfl) ?pure ?write ?fin
          case pure =>
            rintro k aF W ix o ⟨X, Y, rfl, hph⟩ ho hni hanc
            rcases ix with _ | _ | _ | _ | _ | _ | _ | ix
            · have ho' : some _ = some o := ho
              cases ho'
              refine (if_pos (show Region.wanted _ (yielded _ _) = true from rfl)).mpr ?_
              refine ⟨_, _, rfl, rfl, .inl ?_⟩
              go_simp
            · have ho' : some _ = some o := ho
              cases ho'
              refine (if_pos (show Region.wanted _ (yielded _ _) = true from rfl)).mpr ?_
              refine ⟨_, _, rfl, rfl, .inl ?_⟩
              go_simp
            · have ho' : some _ = some o := ho
              cases ho'
              refine (if_pos (show Region.wanted _ (yielded _ _) = true from rfl)).mpr ?_
              refine ⟨_, _, rfl, rfl, .inl ?_⟩
              go_simp
            · have ho' : some _ = some o := ho
              cases ho'
              refine (if_pos (show Region.wanted _ (yielded _ _) = true from rfl)).mpr ?_
              refine ⟨_, _, rfl, rfl, .inl ?_⟩
              go_simp
            · have ho' : some _ = some o := ho
              cases ho'
              have hk0 : k ≤ 0 := hanc 0 5 rfl (by kernel_rfl)
              obtain rfl : k = 0 := by omega
              have hWU : W = U := hph
              subst hWU
              refine (if_pos (show Region.wanted _ (yielded _ _) = true from rfl)).mpr ?_
              refine ⟨_, _, rfl, rfl, .inl ?_⟩
              go_simp
            · exfalso; simp at hni
            · exfalso; simp at hni
            · exfalso; simp at ho
          case write =>
            rintro k aF W ix o ⟨X, Y, rfl, hph⟩ hi ho
            rcases k with _ | _ | k
            · cases (show some 5 = some ix from hi)
              have ho' : some _ = some o := ho
              cases ho'
              have hWU : W = U := hph
              subst hWU
              refine ⟨rfl, .inr (.inr ⟨67, #[.agg #[.string ⟨nm.toArray⟩, .string ⟨tx.toArray⟩, .slice sa M sc]], W, ?_, ?_⟩)⟩
              · simp [execOp, resolve, invoke, Act.eval, e67, Result.andThen, Deferred.ofValue]
              · refine (unhide HCP W hbU).mono ?_
                rintro e w5 ⟨d', rfl, h1, h2, h3, h4⟩
                exact ⟨_, rfl, ⟨_, Y, rfl, d', rfl, h1, h2, h3, h4⟩⟩
            · cases (show some 6 = some ix from hi)
              have ho' : some _ = some o := ho
              cases ho'
              obtain ⟨d', rfl, h1, h2, h3, h4⟩ := hph
              refine ⟨rfl, .inr (.inr ⟨87, #[.pointer (some ⟨bb, 0, none⟩), .string ⟨x.toArray⟩, d'.val], W, ?_, ?_⟩)⟩
              · simp [execOp, resolve, invoke, Act.eval, e87, Result.andThen, Deferred.ofValue]
              · refine (unhide HPUT W (hbU.trans (h4.mono (by rw [← hH]; exact hbU.size))) d').mono ?_
                rintro e w6 ⟨rfl, q1, q2⟩
                exact ⟨_, rfl, ⟨_, _, rfl, d', W, rfl, h1, h2, h3, h4, q1, q2⟩⟩
            · simp at hi
          case fin =>
            rintro k aF W6 hk ⟨X, Y, rfl, hph⟩
            obtain ⟨k, rfl⟩ : ∃ k', k = k' + 2 := ⟨k - 2, by simp at hk; omega⟩
            obtain ⟨d', W5, rfl, h1, h2, h3, h4, q1, q2⟩ := id hph
            have hfin : w.grownBy W6 (some bm) ∧ ∃ d' : PDef, d'.In W6 ∧ (∀ g, d'.blk g → w.heap.size ≤ g) ∧ d'.bare = cutD (PDef.bare ⟨nm, tx, sa, sc, ss⟩) ∧ Bk W6 bb bm most (setD L x d') :=
              putEnd hH hbl (unhide HBK _ (hbU.trans (h4.mono (by rw [← hH]; exact hbU.size)))) hbU h1 h2 h3 h4 q1 q2
            have HFIN := hide hfin
            clear hfin hph h1 h2 h3 h4 q1 q2 hbU hgU
            go_wp2
            go_ret
            exact ⟨rfl, (unhide HFIN).1, fun h => absurd rfl h, fun _ => (unhide HFIN).2⟩
end Go.Proofs.YtefokfbgpfcbkaaGreat
namespace Go.Proofs.YtefokfbgpfcbkaaGreat
set_option linter.unusedVariables false
set_option linter.unusedSimpArgs false
open Go.RowKit
theorem Put_nil (x : List UInt8) (d : PDef) (again : Bool) (w : World) : Calls Tryz.prog 41 #[.pointer none, .string ⟨x.toArray⟩, d.val, .bool again] w fun e w' => e = .returned (.int .i64 14) ∧ Below w.heap.size w w' := by
  obtain ⟨nm, tx, sa, sc, ss⟩ := d
  unfold PDef.val
  go_enter Tryz.func41, Tryz.ntmps41
  go_wp2
  go_ret
  exact ⟨rfl, (Below.refl _ _).alloc (Nat.le_refl _) _⟩
theorem Names_nil (w : World) : Calls Tryz.prog 47 #[.pointer none] w fun e w' => e = .returned (.slice none 0 0) ∧ w' = w := by
  go_enter Tryz.func47, Tryz.ntmps47
  go_wp2
  go_ret
  exact ⟨rfl, rfl⟩
set_option maxRecDepth 100000 in
set_option maxHeartbeats 4000000 in
theorem Get_nil (x : List UInt8) (w : World) : Calls Tryz.prog 43 #[.pointer none, .string ⟨x.toArray⟩] w fun e w' => e = .returned (.tuple #[zeroD, .bool false]) ∧ Below w.heap.size w w' := by
  obtain ⟨H, hH⟩ : ∃ H, w.heap.size = H := ⟨_, rfl⟩
  rw [hH]
  obtain ⟨W1, hW1, hb1, g0, hs1⟩ := new1 w (.cells #[.string ⟨#[]⟩, .string ⟨#[]⟩, .slice none 0 0] 24) H hH
  obtain ⟨⟨p0, f0⟩, ⟨p1, f1⟩, ⟨p2, f2⟩⟩ := cell3 g0
  have HW1 := hide hW1
  have HB1 := hide hb1
  have HG0 := hide g0
  clear hW1 hb1 g0
  go_enter Tryz.func43, Tryz.ntmps43
  go_upto_region 1 with fail
  try rw [hH]
  rw [unhide HW1]
  go_wp2
  (try simp only [Exit.inBlock, Exit.then])
  have g4 : (((W1.setCell ⟨H, 0, none⟩ (.string ⟨#[]⟩)).setCell ⟨H, 1, none⟩ (.string ⟨#[]⟩)).setCell ⟨H, 2, none⟩ (.slice none 0 0)).heap[H]? = some (.cells #[.string ⟨#[]⟩, .string ⟨#[]⟩, .slice none 0 0] 24) := by
    have h := unhide HG0
    simp [World.setCell, Array.getElem?_modify, h]
  refine bodyPost_ret (results_ct rfl _ _ _ H _ _ rfl (cellDef g4) rfl) rfl ?_
  refine ⟨rfl, ?_⟩
  exact (((unhide HB1).setCell (p := ⟨H, 0, none⟩) (Nat.le_refl H) _).setCell (p := ⟨H, 1, none⟩) (Nat.le_refl H) _).setCell (p := ⟨H, 2, none⟩) (Nat.le_refl H) _
set_option maxRecDepth 100000 in
set_option maxHeartbeats 4000000 in
theorem Get_any (bb bm : Nat) (most : Int) (L : List (List UInt8 × PDef)) (x : List UInt8) (w : World) (h : Bk w bb bm most L) (hin : (orZero (findD L x)).In w) (hcp : (orZero (findD L x)).cp) :
    Calls Tryz.prog 43 #[.pointer (some ⟨bb, 0, none⟩), .string ⟨x.toArray⟩] w fun e w' => ∃ d' : PDef, e = .returned (.tuple #[d'.val, .bool (findD L x).isSome]) ∧ d'.In w' ∧ d'.bare = cutD (orZero (findD L x)).bare ∧ Below w.heap.size w w' := by
  obtain ⟨H, hH⟩ : ∃ H, w.heap.size = H := ⟨_, rfl⟩
  have hbkV : ∀ V, Below H w V → Bk V bb bm most L := fun V hV => h.below (by rw [hH]; exact hV)
  have hget := fun V (hV : Below H w V) => get36_any bb bm most L x V (hbkV V hV)
  have hcopy := fun V (hV : Below H w V) => Copy_any (orZero (findD L x)) V (hin.below (by rw [hH]; exact hV)) hcp
  obtain ⟨HA, hHA⟩ : ∃ b, (findD L x).isSome = b := ⟨_, rfl⟩
  obtain ⟨⟨n0, t0, s0, z0, y0⟩, hD0⟩ : ∃ d0, orZero (findD L x) = d0 := ⟨_, rfl⟩
  rw [hHA, hD0] at hget
  rw [hD0] at hcopy
  rw [hHA, hD0, hH]
  obtain ⟨Y0, hY0⟩ : ∃ n, y0.length = n := ⟨_, rfl⟩
  unfold PDef.val at hget hcopy
  simp only [hY0] at hget hcopy
  obtain ⟨W1, hW1, hb1, g0, hs1⟩ := new1 w (.cells #[.string ⟨#[]⟩, .string ⟨#[]⟩, .slice none 0 0] 24) H hH
  have HGET := hide hget
  have HCP := hide hcopy
  have HW1 := hide hW1
  have HB1 := hide hb1
  have HG0 := hide g0
  clear hget hcopy hW1 hb1 g0 hbkV h hin hcp hHA hD0 hY0
  go_enter Tryz.func43, Tryz.ntmps43
  go_upto_region 1 with fail
  try rw [hH]
  rw [unhide HW1]
  go_upto_region 4 with (go_at_call 84; refine (unhide HGET _ (unhide HB1)).mono ?_; rintro e w2 ⟨rfl, hb2⟩)
  obtain ⟨W3, hW3, hb3, g3, hs3⟩ := new1 w2 (.cells #[.string ⟨n0.toArray⟩, .string ⟨t0.toArray⟩, .slice s0 Y0 z0] 24) w2.heap.size rfl
  rw [hW3]
  have hz2 := hb2.size
  have hb13 : Below H w W3 := ((unhide HB1).trans (hb2.mono (by omega))).trans (hb3.mono (by omega))
  have g0' := (hb3.block H (by omega)).trans ((hb2.block H (by omega)).trans (unhide HG0))
  obtain ⟨⟨k0, _⟩, ⟨k1, _⟩, ⟨k2, _⟩⟩ := cell3 g3
  have HB13 := hide hb13
  have HG3 := hide g0'
  clear hW3 hb2 hb3 g3 hb13 g0' HW1 HG0 HB1 HGET
  go_wp2_with (go_at_call 67; refine (unhide HCP _ (unhide HB13)).mono ?_; rintro e w5 ⟨⟨n5, t5, s5, z5, y5⟩, rfl, h1, h2, h3, h4⟩; have hg5 := (h4.block H (by omega)).trans (unhide HG3); obtain ⟨⟨_, f0⟩, ⟨_, f1⟩, ⟨_, f2⟩⟩ := cell3 hg5; have HG5 := hide hg5; clear hg5; obtain ⟨Y5, hY5⟩ : ∃ n, y5.length = n := ⟨_, rfl⟩; unfold PDef.val; simp only [hY5]; have HY5 := hide hY5; clear hY5; have HCR := hide (And.intro h1 (And.intro h2 (And.intro h3 h4))); clear h1 h2 h3 h4)
  (try simp only [Exit.inBlock, Exit.then])
  have g5 := unhide HG5
  have g4 : (((w5.setCell ⟨H, 0, none⟩ (.string ⟨n5.toArray⟩)).setCell ⟨H, 1, none⟩ (.string ⟨t5.toArray⟩)).setCell ⟨H, 2, none⟩ (.slice s5 Y5 z5)).heap[H]? = some (.cells #[.string ⟨n5.toArray⟩, .string ⟨t5.toArray⟩, .slice s5 Y5 z5] 24) := by
    simp [World.setCell, Array.getElem?_modify, g5]
  refine bodyPost_ret (results_ct rfl _ _ _ H _ _ rfl (cellDef g4) rfl) rfl ?_
  obtain ⟨h1, h2, h3, h4⟩ := unhide HCR
  have hz3 : H + 1 ≤ W3.heap.size := by omega
  refine ⟨⟨n5, t5, s5, z5, y5⟩, by unfold PDef.val; simp only [unhide HY5]; rfl, h1.keep (fun g hg => ?_), h3, ?_⟩
  · have hgH : g ≠ H := by have := h2 g hg; omega
    rw [Below.heap_setCell _ _ _ _ hgH, Below.heap_setCell _ _ _ _ hgH, Below.heap_setCell _ _ _ _ hgH]
  · exact ((((unhide HB13).trans (h4.mono (by omega))).setCell (p := ⟨H, 0, none⟩) (Nat.le_refl H) _).setCell (p := ⟨H, 1, none⟩) (Nat.le_refl H) _).setCell (p := ⟨H, 2, none⟩) (Nat.le_refl H) _
end Go.Proofs.YtefokfbgpfcbkaaGreat
namespace Go.Proofs.YtefokfbgpfcbkaaGreat
set_option linter.unusedVariables false
set_option linter.unusedSimpArgs false
open Go.RowKit Go.Maps Go.Shelf
def R0 : Value → Option (DataW Unit × List MemPlace) := fun _ => some (.nil, [])
theorem MapG.one {W : World} {bm : Nat} {x : List UInt8} {v : Value} (h : MapG encS W bm [(x, v)]) (hx : x.length ≤ maxLen) : W.ownsMap Tryz.prog 9 R0 bm 1 (.map [(.string x, .nil)]) := by
  obtain ⟨es, clock, h1, h2, h3⟩ := h
  obtain ⟨e, he, hk, hv⟩ : ∃ e : MapEntry, es.toList = [e] ∧ e.key = encS x ∧ e.val = v := by
    match hes : es.toList, h3 with
    | [e], h3 =>
      simp only [List.map_cons, List.map_nil, List.cons.injEq, Prod.mk.injEq, and_true] at h3
      exact ⟨e, rfl, h3.1, h3.2⟩
    | _ :: _ :: _, h3 => simp at h3
    | [], h3 => simp at h3
  have hs : es.size = 1 := by rw [← Array.length_toList, he]; rfl
  have hko : keyOf Tryz.prog 9 e.key = some (.string x) := by
    rw [hk]
    exact Go.WideMaps.keyOf_string_mk Tryz.underlying9 hx
  have hrd : Go.WideElems.rd Tryz.prog 9 R0 e = some (.string x, .nil) := by
    unfold Go.WideElems.rd
    rw [hko]
    rfl
  refine ⟨es, clock, h1, ⟨by rw [hs]; unfold maxLen; omega, ?_, fun y hy => ?_⟩, by omega, ?_⟩
  · exact ⟨h2.1, h2.2, by rw [he]; simp⟩
  · rw [he, List.mem_singleton] at hy
    subst hy
    exact ⟨_, hrd⟩
  · rw [he]
    simp only [List.map_cons, List.map_nil, Go.WideElems.rg, hrd]
    rfl
theorem sortsS (m : Nat) : AnyZ.SortsIn Tryz.prog Tryz.sortedA_ren Fence.wide m :=
  ⟨fun blk off cap ss W hH hblk hsz => callsIn_wide.2 (AnyM.slices_Sort_string Tryz.sortStr blk off cap ss W hH hblk hsz), fun p cap W => callsIn_wide.2 (AnyM.slices_Sort_string_none Tryz.sortStr p cap W)⟩
theorem keysS_any (mb : Option Nat) (W : World) : Calls Tryz.prog 133 #[.map mb] W fun e w' => e = .returned (.func (.func (Tryz.keysA_ren.f 10)) #[] #[.pointer (some ⟨W.heap.size, 0, none⟩)]) ∧ w' = W.alloc (.cells #[.map mb] (Tryz.keysA_ren.t 23)) :=
  (callsIn_wide (n := 5)).1 (AnyZ.keys_in Tryz.keysA Fence.wide 5 trivial rfl mb W)
theorem perm_one {α : Type} {x : α} {l : List α} (h : l.Perm [x]) : l.length = 1 := h.length_eq
theorem sortedOne_any (W : World) (bm : Nat) (x : List UInt8) (v : Value) (hm : MapG encS W bm [(x, v)]) (hx : x.length ≤ maxLen) :
    Calls Tryz.prog 132 #[.func (.func (Tryz.keysA_ren.f 10)) #[] #[.pointer (some ⟨W.heap.size, 0, none⟩)]] (W.alloc (.cells #[.map (some bm)] (Tryz.keysA_ren.t 23))) fun e w' => ∃ g cap, e = .returned (.slice (some ⟨g, 0, none⟩) 1 cap) ∧ Below (W.heap.size + 1) (W.alloc (.cells #[.map (some bm)] (Tryz.keysA_ren.t 23))) w' := by
  have hown := hm.one hx
  have hseq : SeqGives Fence.wide 2 Tryz.prog (Tryz.keysA_ren.f 10) #[.pointer (some ⟨W.heap.size, 0, none⟩)] encStr (fun ss => ss.Perm (strKeys (.map [(.string x, .nil)] : DataW Unit))) (Maps.size (.map [(.string x, .nil)] : DataW Unit)) (W.alloc (.cells #[.map (some bm)] (Tryz.keysA_ren.t 23))) :=
    AnyZ.keys_gives (ρ := Tryz.keysA_ren) { Tryz.keysA with } Fence.wide _ trivial rfl (by omega) W.heap.size bm 1 (.map [(.string x, .nil)]) _ (by simp) (one_cell (World.alloc_heap_new W _)).1 (hown.alloc _)
  have cS := AnyZ.sorted_in Tryz.sortedA Fence.wide 5 trivial trivial trivial trivial rfl (by omega) (sortsS _) (enters_of Tryz.func176 (by kernel_rfl) rfl) (Tryz.keysA_ren.f 10) #[.pointer (some ⟨W.heap.size, 0, none⟩)] trivial (enters_of Tryz.func177 (by kernel_rfl) rfl) _ 1 (by unfold maxLen; omega) (by omega) _ hseq
  refine ((callsIn_wide (n := 5)).1 cS).mono ?_
  rintro e w' ⟨v', ss, rfl, hS, hrow, hnil, hb⟩
  rw [World.size_alloc] at hrow hb
  have h1 : ss.length = 1 := perm_one hS
  rw [h1] at hrow
  obtain ⟨g, cap, rfl, _, _⟩ := World.ownsRow.form hrow (by omega)
  exact ⟨g, cap, rfl, hb⟩
end Go.Proofs.YtefokfbgpfcbkaaGreat
namespace Go.Proofs.YtefokfbgpfcbkaaGreat
set_option linter.unusedVariables false
set_option linter.unusedSimpArgs false
open Go.RowKit
theorem names36_one (bb bm : Nat) (most : Int) (x : List UInt8) (d : PDef) (w : World) (h : Bk w bb bm most [(x, d)]) (hx : x.length ≤ maxLen) :
    Calls Tryz.prog 90 #[.pointer (some ⟨bb, 0, none⟩)] w fun e w' => ∃ a cap, e = .returned (.slice a 1 cap) ∧ Below w.heap.size w w' := by
  obtain ⟨⟨k0, _⟩, ⟨k1, _⟩⟩ := two_cells h.bx
  have hs := sortedOne_any w bm x d.val h.mp hx
  have hk := keysS_any (some bm) w
  have HS := hide hs
  have HK := hide hk
  clear h hs hk
  go_enter Tryz.func90, Tryz.ntmps90
  go_wp2_with (first | (go_at_call 133; refine (unhide HK).mono ?_; rintro e w1 ⟨rfl, rfl⟩) | (go_at_call 132; refine (unhide HS).mono ?_; rintro e w2 ⟨g, cap, rfl, hb2⟩))
  go_ret
  exact ⟨_, _, rfl, ((Below.refl _ _).alloc (Nat.le_refl _) _).trans (hb2.mono (by omega))⟩
theorem Names_one (bb bm : Nat) (most : Int) (x : List UInt8) (d : PDef) (w : World) (h : Bk w bb bm most [(x, d)]) (hx : x.length ≤ maxLen) :
    Calls Tryz.prog 47 #[.pointer (some ⟨bb, 0, none⟩)] w fun e w' => ∃ a cap, e = .returned (.slice a 1 cap) ∧ Below w.heap.size w w' := by
  have hs := names36_one bb bm most x d w h hx
  have HS := hide hs
  clear h hs
  go_enter Tryz.func47, Tryz.ntmps47
  go_wp2_with (go_at_call 90; refine (unhide HS).mono ?_; rintro e w1 ⟨a, cap, rfl, hb⟩)
  go_ret
  exact ⟨_, _, rfl, hb⟩
/-- the step of live's definitions -/
def stA : PSt := { PSt.zero with name := [97], action := [120] }
def dfA (x : List UInt8) (g : Nat) : PDef := ⟨x, [], some ⟨g, 0, none⟩, 1, [stA]⟩
theorem nt_ok : okT stA.note.bare := ⟨Nat.zero_le _, Nat.zero_le _, (fun x hx => nomatch hx), Nat.zero_le _, trivial⟩
theorem stA_in (W : World) : stA.In W := ⟨fun i x h => by simp [stA, PSt.zero] at h, Nat.le_refl _, Nat.zero_le _, Nd.zero_in W⟩
theorem dfA_in {W : World} {g : Nat} {x : List UInt8} (h : W.heap[g]? = some (.cells stA.cs.toArray 63)) : (dfA x g).In W where
  steps := fun j s hj => by
    match j, hj with
    | 0, hj =>
      cases (show some stA = some s from hj)
      refine ⟨⟨g, 0, rfl, fun k v hk => ?_⟩, stA_in W⟩
      simp only [Nat.zero_mul, Nat.zero_add, Nat.add_zero]
      simp only [World.cell?, h, Option.bind_some]
      exact (List.getElem?_toArray ..).trans hk
  len := Nat.le_refl _
  cap := by show 1 ≤ maxLen; unfold maxLen; omega
theorem dfA_ok (x : List UInt8) (g : Nat) (hx : x.length ≤ 1000000) : (dfA x g).ok where
  fit := ⟨by show 1 ≤ 100000; omega, by show x.length ≤ maxLen; unfold maxLen; omega, fun s hs => by
    cases (List.mem_singleton.1 (show s ∈ [stA] from hs))
    exact ⟨by show 1 ≤ maxLen; unfold maxLen; omega, by show 1 ≤ maxLen; unfold maxLen; omega, Nat.zero_le _⟩, fun s hs => by
    cases (List.mem_singleton.1 (show s ∈ [stA] from hs))
    exact Nat.zero_le _⟩
  short := ⟨hx, Nat.zero_le _, by show 1 ≤ 100000; omega, fun s hs => by
    cases (List.mem_singleton.1 (show s ∈ [stA] from hs))
    exact ⟨by show 1 ≤ 1000000; omega, by show 1 ≤ 1000000; omega, Nat.zero_le _, (fun x hx => nomatch hx), Nat.zero_le _, nt_ok⟩⟩
theorem dfA_cp (x : List UInt8) (g : Nat) : (dfA x g).cp :=
  ⟨by show 1 ≤ 100000; omega, (fun h => nomatch h), fun s hs => by
    cases (List.mem_singleton.1 (show s ∈ [stA] from hs))
    exact Nat.zero_le _, fun s hs => by
    cases (List.mem_singleton.1 (show s ∈ [stA] from hs))
    exact nt_ok⟩
set_option maxRecDepth 100000 in
set_option maxHeartbeats 2000000 in
theorem plain36_any (x : List UInt8) (w : World) : Calls Tryz.prog 81 #[.string ⟨x.toArray⟩] w fun e w' => ∃ g, e = .returned (dfA x g).val ∧ (dfA x g).In w' ∧ Below w.heap.size w w' := by
  obtain ⟨H, hH⟩ : ∃ H, w.heap.size = H := ⟨_, rfl⟩
  rw [hH]
  obtain ⟨W, hW, hb, g0, g1, hs⟩ := new2 w (.cells #[.string ⟨x.toArray⟩, .string ⟨#[]⟩, .slice (some ⟨H + 1, 0, none⟩) 1 1] 24) (.cells #[.string ⟨#[97]⟩, .string ⟨#[120]⟩, .string ⟨#[]⟩, .slice none 0 0, .int .i64 0, .int .i64 0, .int .i64 0, .int .i64 0, .int .u8 0, .string ⟨#[]⟩, .slice none 0 0, .slice none 0 0, .int .i64 0] 63) H hH
  have HW := hide hW
  have HB := hide hb
  clear hW hb
  go_enter Tryz.func81, Tryz.ntmps81
  go_upto_region 1 with fail
  try rw [hH]
  go_wp2
  rw [unhide HW]
  refine bodyPost_ret (results_c1 rfl _ _ _ H _ rfl (cellDef g0)) rfl ?_
  refine ⟨H + 1, rfl, dfA_in g1, unhide HB⟩
theorem clean_s (g : Nat) : P28.clean (dfA [115] g).bare = true := by kernel_rfl
theorem clean_t (g : Nat) : P28.clean (dfA [116] g).bare = true := by kernel_rfl
theorem clean_u (g : Nat) : P28.clean (dfA [117] g).bare = true := by kernel_rfl
theorem right_s : P28.right [115] = true := by kernel_rfl
theorem right_u : P28.right [117] = true := by kernel_rfl
end Go.Proofs.YtefokfbgpfcbkaaGreat
namespace Go.Proofs.YtefokfbgpfcbkaaGreat
set_option linter.unusedVariables false
set_option linter.unusedSimpArgs false
open Go.RowKit
/-- what is done: Tick of, or Take of -/
abbrev Ask36 := Bool × Int
def InA (W : World) (a : Option Addr) (l : List Ask36) : Prop := ∀ i p, l[i]? = some p → ∃ b o, a = some ⟨b, o, none⟩ ∧ W.cell? ⟨b, o + i * 2, none⟩ = some (.bool p.1) ∧ W.cell? ⟨b, o + i * 2 + 1, none⟩ = some (.int .i64 p.2)
theorem cell_lt36 {W : World} {b o : Nat} {v : Value} (h : W.cell? ⟨b, o, none⟩ = some v) : b < W.heap.size := by
  apply Classical.byContradiction
  intro hn
  have : W.heap[b]? = none := Array.getElem?_eq_none (by omega)
  simp [World.cell?, this] at h
theorem InA.below {W W' : World} {a : Option Addr} {l : List Ask36} (h : InA W a l) (hb : Below W.heap.size W W') : InA W' a l := fun i p hi => by
  obtain ⟨b, o, e, h1, h2⟩ := h i p hi
  have hl := cell_lt36 h1
  exact ⟨b, o, e, (World.cell?_of_block (a := ⟨b, o + i * 2, none⟩) (hb.block b hl)).trans h1, (World.cell?_of_block (a := ⟨b, o + i * 2 + 1, none⟩) (hb.block b hl)).trans h2⟩
/-- both buckets are alike -/
structure TwoB (w V : World) (H : Nat) (m c left : Int) : Prop where
  p : BK 142 V H m c left
  r : BK 75 V (H + 1) m c left
  bel : Below H w V
  l0 : 0 ≤ left
  l1 : left ≤ m
theorem BK.keep {T : TypeId} {W W' : World} {b : Nat} {m c l : Int} (h : BK T W b m c l) (hb : W'.heap[b]? = W.heap[b]?) : BK T W' b m c l := hb.trans h
theorem BK.lt {T : TypeId} {W : World} {b : Nat} {m c l : Int} (h : BK T W b m c l) : b < W.heap.size := (Array.getElem?_eq_some_iff.1 h).1
theorem tick_le (m c l n : Int) (hm : 0 ≤ m) (hc : 0 ≤ c) (hl : 0 ≤ l) : 0 ≤ P36.tick m c l n ∧ P36.tick m c l n ≤ m := by
  unfold P36.tick
  have h := P36.cnt_le n
  have : 0 ≤ c * P36.cnt n := Int.mul_nonneg hc h.1
  omega
theorem taken_le (m l n : Int) (hl : 0 ≤ l) (hm : l ≤ m) : 0 ≤ P36.taken l n ∧ P36.taken l n ≤ m := by
  unfold P36.taken P36.takes
  split
  · rename_i h
    simp only [Bool.and_eq_true, decide_eq_true_eq] at h
    omega
  · omega
/-- two Takes in a row -/
def TkPh (w U : World) (H : Nat) (m c left n : Int) : Nat → Value → Value → Value → World → Prop
  | 0, _, _, _, W => W = U
  | 1, X, _, _, W => X = .bool (P36.takes left n) ∧ BK 142 W H m c (P36.taken left n) ∧ BK 75 W (H + 1) m c left ∧ Below H w W
  | 2, X, Y, _, W => X = .bool (P36.takes left n) ∧ Y = .bool (P36.takes left n) ∧ TwoB w W H m c (P36.taken left n)
  | _, X, Y, Z, W => X = .bool (P36.takes left n) ∧ Y = .bool (P36.takes left n) ∧ Z = .bool false ∧ TwoB w W H m c (P36.taken left n)
theorem TkPh.bel {w U W : World} {H : Nat} {m c left n : Int} {k : Nat} {X Y Z : Value} (hU : Below H w U) (h : TkPh w U H m c left n k X Y Z W) : Below H w W := by
  match k, h with
  | 0, h => rw [show W = U from h]; exact hU
  | 1, h => exact h.2.2.2
  | 2, h => exact h.2.2.bel
  | k + 3, h => exact h.2.2.2.bel
set_option maxRecDepth 100000 in
set_option maxHeartbeats 8000000 in
theorem QuotaBuckets_any (m c : Int) (a : Option Addr) (cap : Nat) (l : List Ask36) (w : World) (ha : InA w a l) (hl : l.length ≤ maxLen) (hlive : ∀ V, Calls Tryz.prog 32 #[] V fun e w' => e = .returned (.bool true) ∧ Below V.heap.size V w') :
    Calls Tryz.prog 5 #[.int .i64 m, .int .i64 c, .slice a l.length cap] w fun e w' => e = .returned (.bool true) ∧ Below w.heap.size w w' := by
  obtain ⟨N, hN⟩ : ∃ N, l.length = N := ⟨_, rfl⟩
  unfold maxLen at hl
  rw [hN] at hl ⊢
  have HL := hide hlive
  have HN := hide hN
  have HA := hide ha
  clear hlive hN ha
  by_cases hb : 200 < N
  · have d1 : (200 : Int) < (N : Int) := by omega
    clear hb
    go_enter Tryz.func5, Tryz.ntmps5
    go_wp2_with (go_at_call 32; refine (unhide HL _).mono ?_; rintro e w1 ⟨rfl, hb1⟩)
    go_ret
    exact ⟨rfl, hb1⟩
  have d1 : (N : Int) ≤ 200 := by omega
  have hm := P36.cnt_le m
  have hc := P36.cnt_le c
  have hn1 := NewBucket_any m c
  have hn2 := RNewBucket_any m c
  obtain ⟨cm, hcm⟩ : ∃ x, P36.cnt m = x := ⟨_, rfl⟩
  obtain ⟨cc, hcc⟩ : ∃ x, P36.cnt c = x := ⟨_, rfl⟩
  rw [hcm] at hm hn1 hn2
  rw [hcc] at hc hn1 hn2
  have HN1 := hide hn1
  have HN2 := hide hn2
  clear hb hn1 hn2 hcm hcc
  go_enter Tryz.func5, Tryz.ntmps5
  go_upto_region 6 with (first | (go_at_call 32; refine (unhide HL _).mono ?_; rintro e w1 ⟨rfl, hb1⟩) | (go_at_call 33; refine (unhide HN1 _).mono ?_; rintro e w2 ⟨rfl, hp2, hb2, hz2⟩) | (go_at_call 34; refine (unhide HN2 _).mono ?_; rintro e w3 ⟨rfl, hp3, hb3, hz3⟩))
  have hz1 := hb1.size
  obtain ⟨H, hH⟩ : ∃ H, w1.heap.size = H := ⟨_, rfl⟩
  rw [hH] at hp2 hz2 hb2
  try rw [hH]
  rw [hz2] at hp3 hb3
  have hI : TwoB w1 w3 H cm cc cm := ⟨hp2.keep (hb3.block H (by omega)), hp3, hb2.trans (hb3.mono (by omega)), hm.1, Int.le_refl _⟩
  have hA1 := (unhide HA).below hb1
  have HI := hide hI
  have HA1 := hide hA1
  have HB1 := hide hb1
  clear hp2 hp3 hb1 hb2 hb3 hI hA1 HA
  go_wp2
  go_loopg [9] N (fun g s9 wx => ∃ (i : Nat) (left : Int), i + g = N ∧ s9 = .int .i64 i ∧ Hid (TwoB w1 wx H cm cc left))
  case atStart => exact ⟨0, cm, by omega, by go_num, HI⟩
  case round =>
    obtain ⟨i, left, hig, rfl, HI2⟩ := hrel
    have hi := unhide HI2
    have hl0 := hi.l0
    have hl1 := hi.l1
    cases gk with
    | zero =>
      have e1 : (N : Int) ≤ (i : Int) := by omega
      have j1 : decide ((i : Int) < (N : Int)) = false := by simp; omega
      clear hi
      go_wp2
      go_ret
      exact ⟨rfl, (unhide HB1).trans ((unhide HI2).bel.mono (by omega))⟩
    | succ g' =>
      have hlt : (i : Int) < (N : Int) := by omega
      have hki : IntKind.i64.wrap ((i : Int) + 1) = (i : Int) + 1 := IntWalk.i64_in _ (by omega)
      obtain ⟨⟨tk, n⟩, hx⟩ := nth_of (unhide HN) (show i < N by omega)
      obtain ⟨b, o, rfl, c0, c1⟩ := (unhide HA1) i _ hx
      simp only at c0 c1
      have hbl := cell_lt36 c0
      rw [hH] at hbl
      have hcw : ∀ V, Below H w1 V → V.cell? ⟨b, o + i * 2, none⟩ = some (.bool tk) ∧ V.cell? ⟨b, o + i * 2 + 1, none⟩ = some (.int .i64 n) := fun V hV => ⟨(World.cell?_of_block (a := ⟨b, o + i * 2, none⟩) (hV.block b hbl)).trans c0, (World.cell?_of_block (a := ⟨b, o + i * 2 + 1, none⟩) (hV.block b hbl)).trans c1⟩
      obtain ⟨d0, d2⟩ := hcw wr hi.bel
      have HCW := hide hcw
      clear hcw c0 c1 hx
      cases tk with
      | true =>
        have ht1 := Tick_any H cm cc left n wr hi.p hl0 (by omega) hc.1 hc.2
        have ht2 := fun V (hV : BK 75 V (H + 1) cm cc left) => RTick_any (H + 1) cm cc left n V hV hl0 (by omega) hc.1 hc.2
        have hle := tick_le cm cc left n hm.1 hc.1 hl0
        obtain ⟨NL, hNL⟩ : ∃ x, P36.tick cm cc left n = x := ⟨_, rfl⟩
        rw [hNL] at ht1 ht2 hle
        have HT1 := hide ht1
        have HT2 := hide ht2
        clear ht1 ht2 hNL hi
        go_upto_region 13 with (go_at_call 35; refine (unhide HT1).mono ?_; rintro e w4 ⟨rfl, hp4, hg4, hz4⟩)
        have hi := unhide HI2
        have hr4 := hi.r.keep (hg4.block (H + 1) hi.r.lt (by simp))
        have hb4 := hi.bel.grown hg4 (by have := hi.p.lt; omega) (fun k e => by cases e; exact Nat.le_refl _)
        obtain ⟨d4, d5⟩ := (unhide HCW) w4 hb4
        have HT3 := hide ((unhide HT2) w4 hr4)
        have HP4 := hide hp4
        have HB4 := hide hb4
        clear hp4 hg4 hr4 hb4 hi d0 d2
        go_upto_region 16 with (go_at_call 36; refine (unhide HT3).mono ?_; rintro e w5 ⟨rfl, hp5, hg5, hz5⟩)
        have hp4 := (unhide HP4).keep (hg5.block H (unhide HP4).lt (by simp))
        have hi5 : TwoB w1 w5 H cm cc NL := ⟨hp4, hp5, (unhide HB4).grown hg5 (by have := (unhide HP4).lt; omega) (fun k e => by cases e; omega), hle.1, hle.2⟩
        obtain ⟨_, _, ⟨x2, _⟩⟩ := cell3 hi5.r
        have hlf := fun q => Left_any H cm cc NL (w5.drewN q) (hi5.p.keep rfl)
        have HI5 := hide hi5
        have HLF := hide hlf
        clear hp4 hp5 hg5 hi5 hlf d4 d5
        go_quiet (exact Calls.quiet_of_same (unhide HLF _))
        go_wp2
        go_roundg g'
        case measure => omega
        case rel =>
          have h5 := unhide HI5
          exact ⟨i + 1, NL, by omega, by go_num, hide ⟨h5.p.keep rfl, h5.r.keep rfl, below_drewN h5.bel, h5.l0, h5.l1⟩⟩
      | false =>
        clear hi
        go_upto_region 14 with fail
        obtain ⟨U, hU⟩ : ∃ U, wr.drew = U := ⟨_, rfl⟩
        have hi := unhide HI2
        have hbU : Below H w1 U := by rw [← hU]; exact hi.bel.drew
        have hpU : BK 142 U H cm cc left := hi.p.keep (by rw [← hU]; rfl)
        have hrU : BK 75 U (H + 1) cm cc left := hi.r.keep (by rw [← hU]; rfl)
        have hle := taken_le cm left n hl0 hl1
        have hTK := fun V hV => Take_any H cm cc left n V hV hl0 (by omega)
        have hRT := fun V hV => RTake_any (H + 1) cm cc left n V hV hl0 (by omega)
        have e37 : ∀ args W, (callFunc 37 args).run Tryz.prog W = .ok (.enter 37 args) W := enters_of Tryz.func37 (by kernel_rfl) rfl
        have e38 : ∀ args W, (callFunc 38 args).run Tryz.prog W = .ok (.enter 38 args) W := enters_of Tryz.func38 (by kernel_rfl) rfl
        clear d0 d2
        refine wp_region_phase hmixed [6, 13, 14] (fun k aF W => ∃ X Y Z, aF = { tmps := #[.int .i64 m, .int .i64 c, .slice (some ⟨b, o, none⟩) N cap, undef, undef, undef, u6, .pointer (some ⟨H, 0, none⟩), .pointer (some ⟨H + 1, 0, none⟩), .int .i64 i, .bool true, .bool false, .slice (some ⟨b, o, none⟩) N cap, .int .i64 N, .bool (decide ((200 : Int) < (N : Int))), .int .i64 m, .int .i64 c, .pointer (some ⟨H, 0, none⟩), .int .i64 m, .int .i64 c, .pointer (some ⟨H + 1, 0, none⟩), .pointer (some ⟨H, 0, none⟩), .bool false, .int .i64 i, .slice (some ⟨b, o, none⟩) N cap, .int .i64 N, .bool true, u27, u28, .slice (some ⟨b, o, none⟩) N cap, .int .i64 i, .pointer (some ⟨b, o + i * 2, none⟩), .pointer (some ⟨b, o + i * 2, none⟩), .bool false, u34, u35, u36, u37, u38, u39, u40, u41, u42, u43, u44, u45, u46, u47, .pointer (some ⟨H, 0, none⟩), .slice (some ⟨b, o, none⟩) N cap, .int .i64 i, .pointer (some ⟨b, o + i * 2, none⟩), .pointer (some ⟨b, o + i * 2 + 1, none⟩), .int .i64 n, X, .pointer (some ⟨H + 1, 0, none⟩), .slice (some ⟨b, o, none⟩) N cap, .int .i64 i, .pointer (some ⟨b, o + i * 2, none⟩), .pointer (some ⟨b, o + i * 2 + 1, none⟩), .int .i64 n, Y, Z, u63, u64, u65, u66, u67, u68, u69], defers := [] } ∧ TkPh w1 U H cm cc left n k X Y Z W) (aF := (fun X Y Z => { tmps := #[.int .i64 m, .int .i64 c, .slice (some ⟨b, o, none⟩) N cap, undef, undef, undef, u6, .pointer (some ⟨H, 0, none⟩), .pointer (some ⟨H + 1, 0, none⟩), .int .i64 i, .bool true, .bool false, .slice (some ⟨b, o, none⟩) N cap, .int .i64 N, .bool (decide ((200 : Int) < (N : Int))), .int .i64 m, .int .i64 c, .pointer (some ⟨H, 0, none⟩), .int .i64 m, .int .i64 c, .pointer (some ⟨H + 1, 0, none⟩), .pointer (some ⟨H, 0, none⟩), .bool false, .int .i64 i, .slice (some ⟨b, o, none⟩) N cap, .int .i64 N, .bool true, u27, u28, .slice (some ⟨b, o, none⟩) N cap, .int .i64 i, .pointer (some ⟨b, o + i * 2, none⟩), .pointer (some ⟨b, o + i * 2, none⟩), .bool false, u34, u35, u36, u37, u38, u39, u40, u41, u42, u43, u44, u45, u46, u47, .pointer (some ⟨H, 0, none⟩), .slice (some ⟨b, o, none⟩) N cap, .int .i64 i, .pointer (some ⟨b, o + i * 2, none⟩), .pointer (some ⟨b, o + i * 2 + 1, none⟩), .int .i64 n, X, .pointer (some ⟨H + 1, 0, none⟩), .slice (some ⟨b, o, none⟩) N cap, .int .i64 i, .pointer (some ⟨b, o + i * 2, none⟩), .pointer (some ⟨b, o + i * 2 + 1, none⟩), .int .i64 n, Y, Z, u63, u64, u65, u66, u67, u68, u69], defers := [] }) undef undef undef) (by kernel_rfl) (by kernel_rfl) (by simp) ⟨undef, undef, undef, rfl, hU⟩ rfl rfl (same_mid 48 15 (by kernel_rfl) rfl rfl) ?pure ?write ?fin
        case pure =>
          rintro k aF W ix o2 ⟨X, Y, Z, rfl, hph⟩ ho hni hanc
          rcases ix with _ | _ | _ | _ | _ | _ | _ | _ | _ | _ | _ | _ | _ | _ | _ | ix
          · have ho' : some _ = some o2 := ho
            cases ho'
            obtain ⟨q0, q1⟩ := (unhide HCW) W (hph.bel hbU)
            refine (if_pos (show Region.wanted _ (yielded _ _) = true from rfl)).mpr ?_
            refine ⟨_, _, rfl, rfl, .inl ?_⟩
            go_simp
          · have ho' : some _ = some o2 := ho
            cases ho'
            obtain ⟨q0, q1⟩ := (unhide HCW) W (hph.bel hbU)
            refine (if_pos (show Region.wanted _ (yielded _ _) = true from rfl)).mpr ?_
            refine ⟨_, _, rfl, rfl, .inl ?_⟩
            go_simp
          · have ho' : some _ = some o2 := ho
            cases ho'
            obtain ⟨q0, q1⟩ := (unhide HCW) W (hph.bel hbU)
            refine (if_pos (show Region.wanted _ (yielded _ _) = true from rfl)).mpr ?_
            refine ⟨_, _, rfl, rfl, .inl ?_⟩
            go_simp
          · have ho' : some _ = some o2 := ho
            cases ho'
            obtain ⟨q0, q1⟩ := (unhide HCW) W (hph.bel hbU)
            refine (if_pos (show Region.wanted _ (yielded _ _) = true from rfl)).mpr ?_
            refine ⟨_, _, rfl, rfl, .inl ?_⟩
            go_simp
          · have ho' : some _ = some o2 := ho
            cases ho'
            obtain ⟨q0, q1⟩ := (unhide HCW) W (hph.bel hbU)
            refine (if_pos (show Region.wanted _ (yielded _ _) = true from rfl)).mpr ?_
            refine ⟨_, _, rfl, rfl, .inl ?_⟩
            go_simp
          · have ho' : some _ = some o2 := ho
            cases ho'
            obtain ⟨q0, q1⟩ := (unhide HCW) W (hph.bel hbU)
            refine (if_pos (show Region.wanted _ (yielded _ _) = true from rfl)).mpr ?_
            refine ⟨_, _, rfl, rfl, .inl ?_⟩
            go_simp
          · exfalso; simp at hni
          · have ho' : some _ = some o2 := ho
            cases ho'
            obtain ⟨q0, q1⟩ := (unhide HCW) W (hph.bel hbU)
            refine (if_pos (show Region.wanted _ (yielded _ _) = true from rfl)).mpr ?_
            refine ⟨_, _, rfl, rfl, .inl ?_⟩
            go_simp
          · have ho' : some _ = some o2 := ho
            cases ho'
            obtain ⟨q0, q1⟩ := (unhide HCW) W (hph.bel hbU)
            refine (if_pos (show Region.wanted _ (yielded _ _) = true from rfl)).mpr ?_
            refine ⟨_, _, rfl, rfl, .inl ?_⟩
            go_simp
          · have ho' : some _ = some o2 := ho
            cases ho'
            obtain ⟨q0, q1⟩ := (unhide HCW) W (hph.bel hbU)
            refine (if_pos (show Region.wanted _ (yielded _ _) = true from rfl)).mpr ?_
            refine ⟨_, _, rfl, rfl, .inl ?_⟩
            go_simp
          · have ho' : some _ = some o2 := ho
            cases ho'
            obtain ⟨q0, q1⟩ := (unhide HCW) W (hph.bel hbU)
            refine (if_pos (show Region.wanted _ (yielded _ _) = true from rfl)).mpr ?_
            refine ⟨_, _, rfl, rfl, .inl ?_⟩
            go_simp
          · have ho' : some _ = some o2 := ho
            cases ho'
            obtain ⟨q0, q1⟩ := (unhide HCW) W (hph.bel hbU)
            refine (if_pos (show Region.wanted _ (yielded _ _) = true from rfl)).mpr ?_
            refine ⟨_, _, rfl, rfl, .inl ?_⟩
            go_simp
          · have ho' : some _ = some o2 := ho
            cases ho'
            obtain ⟨q0, q1⟩ := (unhide HCW) W (hph.bel hbU)
            refine (if_pos (show Region.wanted _ (yielded _ _) = true from rfl)).mpr ?_
            refine ⟨_, _, rfl, rfl, .inl ?_⟩
            go_simp
          · exfalso; simp at hni
          · exfalso; simp at hni
          · exfalso; simp at ho
        case write =>
          rintro k aF W ix o2 ⟨X, Y, Z, rfl, hph⟩ hwi ho
          rcases k with _ | _ | _ | k
          · cases (show some 6 = some ix from hwi)
            have ho' : some _ = some o2 := ho
            cases ho'
            have hWU : W = U := hph
            subst hWU
            refine ⟨rfl, .inr (.inr ⟨37, #[.pointer (some ⟨H, 0, none⟩), .int .i64 n], W, ?_, ?_⟩)⟩
            · simp [execOp, resolve, invoke, Act.eval, e37, Result.andThen, Deferred.ofValue]
            · refine (hTK W hpU).mono ?_
              rintro e w5 ⟨rfl, h1, h2, h3⟩
              exact ⟨_, rfl, ⟨_, Y, Z, rfl, rfl, h1, hrU.keep (h2.block (H + 1) hrU.lt (by simp)), hbU.grown h2 (by have := hpU.lt; omega) (fun k e => by cases e; exact Nat.le_refl _)⟩⟩
          · cases (show some 13 = some ix from hwi)
            have ho' : some _ = some o2 := ho
            cases ho'
            obtain ⟨rfl, h1, h2, h3⟩ := hph
            refine ⟨rfl, .inr (.inr ⟨38, #[.pointer (some ⟨H + 1, 0, none⟩), .int .i64 n], W, ?_, ?_⟩)⟩
            · simp [execOp, resolve, invoke, Act.eval, e38, Result.andThen, Deferred.ofValue]
            · refine (hRT W h2).mono ?_
              rintro e w6 ⟨rfl, q1, q2, q3⟩
              exact ⟨_, rfl, ⟨_, _, Z, rfl, rfl, rfl, h1.keep (q2.block H h1.lt (by simp)), q1, h3.grown q2 (by have := h1.lt; omega) (fun k e => by cases e; omega), hle.1, hle.2⟩⟩
          · cases (show some 14 = some ix from hwi)
            have ho' : some _ = some o2 := ho
            cases ho'
            obtain ⟨rfl, rfl, h3⟩ := hph
            refine ⟨rfl, .inl ⟨.bool false, W, ?_, ⟨_, _, _, rfl, rfl, rfl, rfl, h3⟩⟩⟩
            go_simp
          · simp at hwi
        case fin =>
          rintro k aF W6 hk ⟨X, Y, Z, rfl, hph⟩
          obtain ⟨k, rfl⟩ : ∃ k', k = k' + 3 := ⟨k - 3, by simp at hk; omega⟩
          obtain ⟨rfl, rfl, rfl, h3⟩ := id hph
          obtain ⟨NL, hNL⟩ : ∃ x, P36.taken left n = x := ⟨_, rfl⟩
          rw [hNL] at h3
          obtain ⟨_, _, ⟨x2, _⟩⟩ := cell3 h3.r
          have hlf := fun q => Left_any H cm cc NL (W6.drewN q) (h3.p.keep rfl)
          have HI5 := hide h3
          have HLF := hide hlf
          clear hlf hTK hRT hpU hrU hbU hi hph h3 hNL hle
          go_upto_region 16 with fail
          go_quiet (exact Calls.quiet_of_same (unhide HLF _))
          go_wp2
          go_roundg g'
          case measure => omega
          case rel =>
            have h5 := unhide HI5
            exact ⟨i + 1, NL, by omega, by go_num, hide ⟨h5.p.keep rfl, h5.r.keep rfl, below_drewN h5.bel, h5.l0, h5.l1⟩⟩
end Go.Proofs.YtefokfbgpfcbkaaGreat
namespace Go.Proofs.YtefokfbgpfcbkaaGreat
set_option linter.unusedVariables false
set_option linter.unusedSimpArgs false
open Go.RowKit
structure OneB (w V : World) (H : Nat) (m c left : Int) : Prop where
  p : BK 142 V H m c left
  bel : Below H w V
  l0 : 0 ≤ left
  l1 : left ≤ m
theorem OneB.lt {w V : World} {H : Nat} {m c left : Int} (h : OneB w V H m c left) : H < V.heap.size := h.p.lt
theorem mulc (c K : Int) (c0 : 0 ≤ c) (c1 : c ≤ 65535) (k0 : 0 ≤ K) (k1 : K ≤ 1048576) : 0 ≤ c * K ∧ c * K ≤ 68718428160 :=
  ⟨Int.mul_nonneg c0 k0, Int.le_trans (Int.mul_le_mul c1 k1 k0 (by omega)) (by omega)⟩
set_option maxRecDepth 100000 in
set_option maxHeartbeats 2000000 in
theorem QuotaNever_any (m c fr : Int) (a : Option Addr) (cap : Nat) (l : List Ask36) (w : World) (hm0 : 0 ≤ m) (hm1 : m ≤ 65535) (hc0 : 0 ≤ c) (hc1 : c ≤ 65535) (ha : InA w a l) (hl : l.length ≤ maxLen) (hlive : ∀ V, Calls Tryz.prog 32 #[] V fun e w' => e = .returned (.bool true) ∧ Below V.heap.size V w') :
    Calls Tryz.prog 6 #[.int .u16 m, .int .u16 c, .slice a l.length cap, .int .i64 fr] w fun e w' => e = .returned (.bool true) ∧ Below w.heap.size w w' := by
  obtain ⟨N, hN⟩ : ∃ N, l.length = N := ⟨_, rfl⟩
  unfold maxLen at hl
  rw [hN] at hl ⊢
  have wm : IntKind.i64.wrap m = m := IntWalk.i64_in _ (by omega)
  have wc : IntKind.i64.wrap c = c := IntWalk.i64_in _ (by omega)
  have HL := hide hlive
  have HN := hide hN
  have HA := hide ha
  clear hlive hN ha
  by_cases hb : 200 < N
  · have d1 : (200 : Int) < (N : Int) := by omega
    clear hb
    go_enter Tryz.func6, Tryz.ntmps6
    go_wp2_with (go_at_call 32; refine (unhide HL _).mono ?_; rintro e w1 ⟨rfl, hb1⟩)
    go_ret
    exact ⟨rfl, hb1⟩
  have d1 : (N : Int) ≤ 200 := by omega
  have hn1 := NewBucket_any m c
  rw [show P36.cnt m = m by unfold P36.cnt; omega, show P36.cnt c = c by unfold P36.cnt; omega] at hn1
  have HN1 := hide hn1
  clear hb hn1
  go_enter Tryz.func6, Tryz.ntmps6
  go_upto_region 6 with (first | (go_at_call 32; refine (unhide HL _).mono ?_; rintro e w1 ⟨rfl, hb1⟩) | (go_at_call 33; refine (unhide HN1 _).mono ?_; rintro e w2 ⟨rfl, hp2, hb2, hz2⟩))
  obtain ⟨H, hH⟩ : ∃ H, w1.heap.size = H := ⟨_, rfl⟩
  have hz1 := hb1.size
  rw [hH] at hp2 hz2 hb2 hz1
  try rw [hH]
  have hI : OneB w1 w2 H m c m := ⟨hp2, hb2, hm0, Int.le_refl _⟩
  have hA1 := (unhide HA).below hb1
  have HI := hide hI
  have HA1 := hide hA1
  have HB1 := hide hb1
  clear hp2 hb1 hb2 hz2 hI hA1 HA
  go_wp2
  go_loopg [10, 11, 12] N (fun g s10 s11 s12 wx => ∃ (i : Nat) (T M left : Int), i + g = N ∧ s10 = .int .i64 T ∧ s11 = .int .i64 M ∧ s12 = .int .i64 i ∧ (0 ≤ T ∧ T + left ≤ M ∧ M ≤ 65535 + 68718428160 * (i : Int)) ∧ Hid (OneB w1 wx H m c left))
  case atStart => exact ⟨0, 0, m, m, by omega, by go_num, by go_num, by go_num, by omega, HI⟩
  case round =>
    obtain ⟨i, T, M, left, hig, rfl, rfl, rfl, ht, HI2⟩ := hrel
    have hi := unhide HI2
    have hl0 := hi.l0
    have hl1 := hi.l1
    cases gk with
    | zero =>
      have e1 : (N : Int) ≤ (i : Int) := by omega
      have j1 : decide ((i : Int) < (N : Int)) = false := by simp; omega
      clear hi
      go_wp2
      go_ret
      exact ⟨rfl, (unhide HB1).trans ((unhide HI2).bel.mono (by omega))⟩
    | succ g' =>
      have hlt : (i : Int) < (N : Int) := by omega
      have hki : IntKind.i64.wrap ((i : Int) + 1) = (i : Int) + 1 := IntWalk.i64_in _ (by omega)
      obtain ⟨⟨tk, n⟩, hx⟩ := nth_of (unhide HN) (show i < N by omega)
      obtain ⟨b, o, rfl, c0, c1⟩ := (unhide HA1) i _ hx
      simp only at c0 c1
      have hbl := cell_lt36 c0
      rw [hH] at hbl
      have hcw : ∀ V, Below H w1 V → V.cell? ⟨b, o + i * 2, none⟩ = some (.bool tk) ∧ V.cell? ⟨b, o + i * 2 + 1, none⟩ = some (.int .i64 n) := fun V hV => ⟨(World.cell?_of_block (a := ⟨b, o + i * 2, none⟩) (hV.block b hbl)).trans c0, (World.cell?_of_block (a := ⟨b, o + i * 2 + 1, none⟩) (hV.block b hbl)).trans c1⟩
      obtain ⟨d0, d2⟩ := hcw wr hi.bel
      have HCW := hide hcw
      clear hcw c0 c1 hx
      cases tk with
      | true =>
        have ht1 := Tick_any H m c left n wr hi.p hl0 (by omega) hc0 (by omega)
        have hle := tick_le m c left n hm0 hc0 hl0
        have htk : P36.tick m c left n ≤ left + c * P36.cnt n := Int.min_le_right _ _
        have hkk := mulc c (P36.cnt n) hc0 hc1 (P36.cnt_le n).1 (P36.cnt_le n).2
        obtain ⟨NL, hNL⟩ : ∃ x, P36.tick m c left n = x := ⟨_, rfl⟩
        rw [hNL] at ht1 hle htk
        obtain ⟨K, hK⟩ : ∃ x, c * P36.cnt n = x := ⟨_, rfl⟩
        rw [hK] at hkk htk
        have hK2 : c * min (max n 0) 1048576 = K := hK
        have wk : IntKind.i64.wrap K = K := IntWalk.i64_in _ (by omega)
        have HT1 := hide ht1
        clear ht1 hNL hK hi
        by_cases hf : (i : Int) = fr
        · subst hf
          have wM : IntKind.i64.wrap (m + K) = m + K := IntWalk.i64_in _ (by omega)
          clear d2
          have d2 := ((unhide HCW) wr (unhide HI2).bel).2
          go_upto_region 16 with (go_at_call 35; refine (unhide HT1).mono ?_; rintro e w4 ⟨rfl, hp4, hg4, hz4⟩)
          have hi := unhide HI2
          have hi4 : OneB w1 w4 H m c NL := ⟨hp4, hi.bel.grown hg4 (by have := hi.p.lt; omega) (fun k e => by cases e; exact Nat.le_refl _), hle.1, hle.2⟩
          obtain ⟨d4, d5⟩ := (unhide HCW) w4 hi4.bel
          have hlf := fun V (hV : V.heap[H]? = w4.heap[H]?) => Left_any H m c NL V (hi4.p.keep hV)
          have HI4 := hide hi4
          have HLF := hide hlf
          have k1 : NL ≤ m := hle.2
          have k0 : 0 ≤ NL := hle.1
          have x1 : (0 : Int) ≤ m + K := by omega
          clear hp4 hg4 hi4 hi d0 d2 hlf
          go_upto_region 19 with fail
          go_wp2_with (go_at_call 39; refine (unhide HLF _ rfl).mono ?_; rintro e w5 ⟨rfl, rfl⟩)
          go_roundg g'
          case measure => omega
          case rel =>
            have h5 := unhide HI4
            exact ⟨i + 1, (0 : Int), m + K, NL, by omega, by go_num, by go_num, by go_num, by omega, hide ⟨h5.p.keep rfl, h5.bel, h5.l0, h5.l1⟩⟩
        · have wM : IntKind.i64.wrap (M + K) = M + K := IntWalk.i64_in _ (by omega)
          clear d2
          have d2 := ((unhide HCW) wr (unhide HI2).bel).2
          go_upto_region 16 with (go_at_call 35; refine (unhide HT1).mono ?_; rintro e w4 ⟨rfl, hp4, hg4, hz4⟩)
          have hi := unhide HI2
          have hi4 : OneB w1 w4 H m c NL := ⟨hp4, hi.bel.grown hg4 (by have := hi.p.lt; omega) (fun k e => by cases e; exact Nat.le_refl _), hle.1, hle.2⟩
          obtain ⟨d4, d5⟩ := (unhide HCW) w4 hi4.bel
          have hlf := fun V (hV : V.heap[H]? = w4.heap[H]?) => Left_any H m c NL V (hi4.p.keep hV)
          have HI4 := hide hi4
          have HLF := hide hlf
          have k1 : NL ≤ m := hle.2
          have k0 : 0 ≤ NL := hle.1
          have x1 : T ≤ M + K := by omega
          clear hp4 hg4 hi4 hi d0 d2 hlf
          go_upto_region 19 with fail
          go_wp2_with (go_at_call 39; refine (unhide HLF _ rfl).mono ?_; rintro e w5 ⟨rfl, rfl⟩)
          go_roundg g'
          case measure => omega
          case rel =>
            have h5 := unhide HI4
            exact ⟨i + 1, T, M + K, NL, by omega, by go_num, by go_num, by go_num, by omega, hide ⟨h5.p.keep rfl, h5.bel, h5.l0, h5.l1⟩⟩
      | false =>
        by_cases hf : (i : Int) = fr
        · subst hf
          by_cases hk : P36.takes left n = true
          · have hk2 := hk
            unfold P36.takes at hk2
            simp only [Bool.and_eq_true, decide_eq_true_eq] at hk2
            have x0 : (0 : Int) ≤ left - n := by omega
            have x2 : left - n ≤ m := by omega
            have x1 : (0 : Int) + n ≤ m := by omega
            have wT : IntKind.i64.wrap ((0 : Int) + n) = (0 : Int) + n := IntWalk.i64_in _ (by omega)
            have ht1 := Take_any H m c left n wr hi.p hl0 (by omega)
            rw [show P36.takes left n = true from hk, show P36.taken left n = left - n by simp [P36.taken, hk]] at ht1
            have HT1 := hide ht1
            clear ht1 hi
            go_upto_region 18 with (go_at_call 37; refine (unhide HT1).mono ?_; rintro e w4 ⟨rfl, hp4, hg4, hz4⟩)
            have hi := unhide HI2
            have hi4 : OneB w1 w4 H m c (left - n) := ⟨hp4, hi.bel.grown hg4 (by have := hi.p.lt; omega) (fun k e => by cases e; exact Nat.le_refl _), by omega, by omega⟩
            obtain ⟨d4, d5⟩ := (unhide HCW) w4 hi4.bel
            have hlf := fun V (hV : V.heap[H]? = w4.heap[H]?) => Left_any H m c (left - n) V (hi4.p.keep hV)
            have HI4 := hide hi4
            have HLF := hide hlf
            clear hp4 hg4 hi4 hi d0 d2 hlf
            go_upto_region 19 with fail
            go_wp2_with (go_at_call 39; refine (unhide HLF _ rfl).mono ?_; rintro e w5 ⟨rfl, rfl⟩)
            go_roundg g'
            case measure => omega
            case rel =>
              have h5 := unhide HI4
              exact ⟨i + 1, (0 : Int) + n, m, left - n, by omega, by go_num, by go_num, by go_num, by omega, hide ⟨h5.p.keep rfl, h5.bel, h5.l0, h5.l1⟩⟩
          · replace hk : P36.takes left n = false := by simpa using hk
            have x1 : (0 : Int) ≤ m := by omega
            have ht1 := Take_any H m c left n wr hi.p hl0 (by omega)
            rw [show P36.takes left n = false from hk, show P36.taken left n = left by simp [P36.taken, hk]] at ht1
            have HT1 := hide ht1
            clear ht1 hi
            go_upto_region 19 with (go_at_call 37; refine (unhide HT1).mono ?_; rintro e w4 ⟨rfl, hp4, hg4, hz4⟩)
            have hi := unhide HI2
            have hi4 : OneB w1 w4 H m c (left) := ⟨hp4, hi.bel.grown hg4 (by have := hi.p.lt; omega) (fun k e => by cases e; exact Nat.le_refl _), by omega, by omega⟩
            obtain ⟨d4, d5⟩ := (unhide HCW) w4 hi4.bel
            have hlf := fun V (hV : V.heap[H]? = w4.heap[H]?) => Left_any H m c (left) V (hi4.p.keep hV)
            have HI4 := hide hi4
            have HLF := hide hlf
            clear hp4 hg4 hi4 hi d0 d2 hlf
            go_wp2_with (go_at_call 39; refine (unhide HLF _ rfl).mono ?_; rintro e w5 ⟨rfl, rfl⟩)
            go_roundg g'
            case measure => omega
            case rel =>
              have h5 := unhide HI4
              exact ⟨i + 1, (0 : Int), m, left, by omega, by go_num, by go_num, by go_num, by omega, hide ⟨h5.p.keep rfl, h5.bel, h5.l0, h5.l1⟩⟩
        · by_cases hk : P36.takes left n = true
          · have hk2 := hk
            unfold P36.takes at hk2
            simp only [Bool.and_eq_true, decide_eq_true_eq] at hk2
            have x0 : (0 : Int) ≤ left - n := by omega
            have x2 : left - n ≤ m := by omega
            have x1 : T + n ≤ M := by omega
            have wT : IntKind.i64.wrap (T + n) = T + n := IntWalk.i64_in _ (by omega)
            have ht1 := Take_any H m c left n wr hi.p hl0 (by omega)
            rw [show P36.takes left n = true from hk, show P36.taken left n = left - n by simp [P36.taken, hk]] at ht1
            have HT1 := hide ht1
            clear ht1 hi
            go_upto_region 18 with (go_at_call 37; refine (unhide HT1).mono ?_; rintro e w4 ⟨rfl, hp4, hg4, hz4⟩)
            have hi := unhide HI2
            have hi4 : OneB w1 w4 H m c (left - n) := ⟨hp4, hi.bel.grown hg4 (by have := hi.p.lt; omega) (fun k e => by cases e; exact Nat.le_refl _), by omega, by omega⟩
            obtain ⟨d4, d5⟩ := (unhide HCW) w4 hi4.bel
            have hlf := fun V (hV : V.heap[H]? = w4.heap[H]?) => Left_any H m c (left - n) V (hi4.p.keep hV)
            have HI4 := hide hi4
            have HLF := hide hlf
            clear hp4 hg4 hi4 hi d0 d2 hlf
            go_upto_region 19 with fail
            go_wp2_with (go_at_call 39; refine (unhide HLF _ rfl).mono ?_; rintro e w5 ⟨rfl, rfl⟩)
            go_roundg g'
            case measure => omega
            case rel =>
              have h5 := unhide HI4
              exact ⟨i + 1, T + n, M, left - n, by omega, by go_num, by go_num, by go_num, by omega, hide ⟨h5.p.keep rfl, h5.bel, h5.l0, h5.l1⟩⟩
          · replace hk : P36.takes left n = false := by simpa using hk
            have x1 : T ≤ M := by omega
            have ht1 := Take_any H m c left n wr hi.p hl0 (by omega)
            rw [show P36.takes left n = false from hk, show P36.taken left n = left by simp [P36.taken, hk]] at ht1
            have HT1 := hide ht1
            clear ht1 hi
            go_upto_region 19 with (go_at_call 37; refine (unhide HT1).mono ?_; rintro e w4 ⟨rfl, hp4, hg4, hz4⟩)
            have hi := unhide HI2
            have hi4 : OneB w1 w4 H m c (left) := ⟨hp4, hi.bel.grown hg4 (by have := hi.p.lt; omega) (fun k e => by cases e; exact Nat.le_refl _), by omega, by omega⟩
            obtain ⟨d4, d5⟩ := (unhide HCW) w4 hi4.bel
            have hlf := fun V (hV : V.heap[H]? = w4.heap[H]?) => Left_any H m c (left) V (hi4.p.keep hV)
            have HI4 := hide hi4
            have HLF := hide hlf
            clear hp4 hg4 hi4 hi d0 d2 hlf
            go_wp2_with (go_at_call 39; refine (unhide HLF _ rfl).mono ?_; rintro e w5 ⟨rfl, rfl⟩)
            go_roundg g'
            case measure => omega
            case rel =>
              have h5 := unhide HI4
              exact ⟨i + 1, T, M, left, by omega, by go_num, by go_num, by go_num, by omega, hide ⟨h5.p.keep rfl, h5.bel, h5.l0, h5.l1⟩⟩
end Go.Proofs.YtefokfbgpfcbkaaGreat
namespace Go.Proofs.YtefokfbgpfcbkaaGreat
set_option linter.unusedVariables false
set_option linter.unusedSimpArgs false
open Go.RowKit
/-- what live holds: the bucket, the book; what the book holds lies ahead of none of them -/
structure LvI (w V : World) (H : Nat) (l : Int) (L : List (List UInt8 × PDef)) : Prop where
  k : BK 142 V H 3 1 l
  b : Bk V (H + 2) (H + 1) 1 L
  bel : Below H w V
  ins : ∀ p ∈ L, p.2.In V ∧ ∀ g, p.2.blk g → H + 2 < g
theorem LvI.size {w V : World} {H : Nat} {l : Int} {L : List (List UInt8 × PDef)} (h : LvI w V H l L) : H + 2 < V.heap.size := h.b.lt.1
theorem LvI.below {w V V' : World} {H : Nat} {l : Int} {L : List (List UInt8 × PDef)} (h : LvI w V H l L) (hb : Below V.heap.size V V') : LvI w V' H l L := by
  have := h.size
  exact ⟨h.k.keep (hb.block _ h.k.lt), h.b.below hb, h.bel.trans (hb.mono (by omega)), fun p hp => ⟨(h.ins p hp).1.below hb, (h.ins p hp).2⟩⟩
theorem LvI.tick {w V V' : World} {H : Nat} {l l' : Int} (h : LvI w V H l []) (hk : BK 142 V' H 3 1 l') (hg : V.grownBy V' (some H)) : LvI w V' H l' [] := by
  have := h.size
  exact ⟨hk, h.b.keep (hg.block _ (by omega) (by simp)) (hg.block _ (by omega) (by simp)), h.bel.grown hg (by omega) (fun k e => by cases e; exact Nat.le_refl _), fun p hp => nomatch hp⟩
theorem LvI.put {w V V' : World} {H : Nat} {l : Int} {L L' : List (List UInt8 × PDef)} (h : LvI w V H l L) (hb : Bk V' (H + 2) (H + 1) 1 L') (hg : V.grownBy V' (some (H + 1))) (hi : ∀ p ∈ L', p ∈ L ∨ (p.2.In V' ∧ ∀ g, p.2.blk g → V.heap.size ≤ g)) : LvI w V' H l L' := by
  have := h.size
  refine ⟨h.k.keep (hg.block _ (by omega) (by simp)), hb, h.bel.grown hg (by omega) (fun k e => by cases e; omega), fun p hp => ?_⟩
  rcases hi p hp with h1 | ⟨h1, h2⟩
  · obtain ⟨q1, q2⟩ := h.ins p h1
    exact ⟨q1.keep (fun r hr => hg.block r (q1.lt hr) (by have := q2 r hr; intro e; cases e; omega)), q2⟩
  · exact ⟨h1, fun g hg2 => by have := h2 g hg2; omega⟩
theorem lv_t1 {w V : World} {H : Nat} (h : LvI w V H 3 []) : Calls Tryz.prog 37 #[.pointer (some ⟨H, 0, none⟩), .int .i64 3] V fun e V' => e = .returned (.bool true) ∧ LvI w V' H 0 [] := by
  refine (Take_any H 3 1 3 3 V h.k (by omega) (by omega)).mono ?_
  rintro e V' ⟨rfl, p, g, _⟩
  exact ⟨rfl, h.tick p g⟩
theorem lv_t2 {w V : World} {H : Nat} (h : LvI w V H 0 []) : Calls Tryz.prog 37 #[.pointer (some ⟨H, 0, none⟩), .int .i64 1] V fun e V' => e = .returned (.bool false) ∧ LvI w V' H 0 [] := by
  refine (Take_any H 3 1 0 1 V h.k (by omega) (by omega)).mono ?_
  rintro e V' ⟨rfl, p, g, _⟩
  exact ⟨rfl, h.tick p g⟩
theorem lv_t3 {w V : World} {H : Nat} (h : LvI w V H 1 []) : Calls Tryz.prog 37 #[.pointer (some ⟨H, 0, none⟩), .int .i64 1] V fun e V' => e = .returned (.bool true) ∧ LvI w V' H 0 [] := by
  refine (Take_any H 3 1 1 1 V h.k (by omega) (by omega)).mono ?_
  rintro e V' ⟨rfl, p, g, _⟩
  exact ⟨rfl, h.tick p g⟩
theorem lv_tk {w V : World} {H : Nat} (h : LvI w V H 0 []) : Calls Tryz.prog 35 #[.pointer (some ⟨H, 0, none⟩), .int .i64 1] V fun e V' => e = .returned (.tuple #[]) ∧ LvI w V' H 1 [] := by
  refine (Tick_any H 3 1 0 1 V h.k (by omega) (by omega) (by omega) (by omega)).mono ?_
  rintro e V' ⟨rfl, p, g, _⟩
  exact ⟨rfl, h.tick p g⟩
theorem pl_s (V : World) : Calls Tryz.prog 81 #[.string ⟨#[115]⟩] V fun e w' => ∃ g, e = .returned (dfA [115] g).val ∧ (dfA [115] g).In w' ∧ Below V.heap.size V w' := plain36_any [115] V
theorem pl_t (V : World) : Calls Tryz.prog 81 #[.string ⟨#[116]⟩] V fun e w' => ∃ g, e = .returned (dfA [116] g).val ∧ (dfA [116] g).In w' ∧ Below V.heap.size V w' := plain36_any [116] V
theorem pl_u (V : World) : Calls Tryz.prog 81 #[.string ⟨#[117]⟩] V fun e w' => ∃ g, e = .returned (dfA [117] g).val ∧ (dfA [117] g).In w' ∧ Below V.heap.size V w' := plain36_any [117] V
theorem lv_p1 {w V : World} {H g : Nat} (h : LvI w V H 0 ([] : List (List UInt8 × PDef))) (hin : (dfA [115] g).In V) : Calls Tryz.prog 41 #[.pointer (some ⟨H + 2, 0, none⟩), .string ⟨#[115]⟩, (dfA [115] g).val, .bool false] V fun e V' => e = .returned (.int .i64 0) ∧ ∃ d' : PDef, d'.bare = cutD (dfA [115] g).bare ∧ LvI w V' H 0 [([115], d')] := by
  have hz : putE (P28.right [115]) (P28.clean (dfA [115] g).bare) (findD ([] : List (List UInt8 × PDef)) [115]).isSome false (decide (((([] : List (List UInt8 × PDef)) : List (List UInt8 × PDef)).length : Int) ≥ 1)) = 0 := by
    rw [right_s, clean_s]
    rfl
  refine (Put_any (H + 2) (H + 1) 1 ([] : List (List UInt8 × PDef)) [115] (dfA [115] g) false V h.b (by show 1 ≤ maxLen; unfold maxLen; omega) hin (dfA_ok _ _ (by show 1 ≤ 1000000; omega)) (dfA_cp _ _)).mono ?_
  rintro e V' ⟨rfl, h2, h3, h4⟩
  rw [hz]
  obtain ⟨d', q1, q2, q3, q4⟩ := h4 hz
  exact ⟨rfl, d', q3, h.put q4 h2 (fun p hp => .inr (by cases (List.mem_singleton.1 (show p ∈ [(([115] : List UInt8), d')] from hp)); exact ⟨q1, q2⟩))⟩
theorem lv_p2 {w V : World} {H g : Nat} {d0 : PDef} (h : LvI w V H 0 [([115], d0)]) (hin : (dfA [116] g).In V) : Calls Tryz.prog 41 #[.pointer (some ⟨H + 2, 0, none⟩), .string ⟨#[115]⟩, (dfA [116] g).val, .bool false] V fun e V' => e = .returned (.int .i64 6) ∧ LvI w V' H 0 [([115], d0)] := by
  have hz : putE (P28.right [115]) (P28.clean (dfA [116] g).bare) (findD [([115], d0)] [115]).isSome false (decide ((([([115], d0)] : List (List UInt8 × PDef)).length : Int) ≥ 1)) = 6 := by
    rw [right_s, clean_t]
    rfl
  refine (Put_any (H + 2) (H + 1) 1 [([115], d0)] [115] (dfA [116] g) false V h.b (by show 1 ≤ maxLen; unfold maxLen; omega) hin (dfA_ok _ _ (by show 1 ≤ 1000000; omega)) (dfA_cp _ _)).mono ?_
  rintro e V' ⟨rfl, h2, h3, h4⟩
  rw [hz]
  exact ⟨rfl, h.put (h3 (by rw [hz]; decide)) h2 (fun p hp => .inl hp)⟩
theorem lv_p3 {w V : World} {H g : Nat} {d0 : PDef} (h : LvI w V H 0 [([115], d0)]) (hin : (dfA [116] g).In V) : Calls Tryz.prog 41 #[.pointer (some ⟨H + 2, 0, none⟩), .string ⟨#[115]⟩, (dfA [116] g).val, .bool true] V fun e V' => e = .returned (.int .i64 0) ∧ ∃ d' : PDef, d'.bare = cutD (dfA [116] g).bare ∧ LvI w V' H 0 [([115], d')] := by
  have hz : putE (P28.right [115]) (P28.clean (dfA [116] g).bare) (findD [([115], d0)] [115]).isSome true (decide ((([([115], d0)] : List (List UInt8 × PDef)).length : Int) ≥ 1)) = 0 := by
    rw [right_s, clean_t]
    rfl
  refine (Put_any (H + 2) (H + 1) 1 [([115], d0)] [115] (dfA [116] g) true V h.b (by show 1 ≤ maxLen; unfold maxLen; omega) hin (dfA_ok _ _ (by show 1 ≤ 1000000; omega)) (dfA_cp _ _)).mono ?_
  rintro e V' ⟨rfl, h2, h3, h4⟩
  rw [hz]
  obtain ⟨d', q1, q2, q3, q4⟩ := h4 hz
  exact ⟨rfl, d', q3, h.put q4 h2 (fun p hp => .inr (by cases (List.mem_singleton.1 (show p ∈ [(([115] : List UInt8), d')] from hp)); exact ⟨q1, q2⟩))⟩
theorem lv_p4 {w V : World} {H g : Nat} {d0 : PDef} (h : LvI w V H 0 [([115], d0)]) (hin : (dfA [117] g).In V) : Calls Tryz.prog 41 #[.pointer (some ⟨H + 2, 0, none⟩), .string ⟨#[117]⟩, (dfA [117] g).val, .bool false] V fun e V' => e = .returned (.int .i64 14) ∧ LvI w V' H 0 [([115], d0)] := by
  have hz : putE (P28.right [117]) (P28.clean (dfA [117] g).bare) (findD [([115], d0)] [117]).isSome false (decide ((([([115], d0)] : List (List UInt8 × PDef)).length : Int) ≥ 1)) = 14 := by
    rw [right_u, clean_u]
    rfl
  refine (Put_any (H + 2) (H + 1) 1 [([115], d0)] [117] (dfA [117] g) false V h.b (by show 1 ≤ maxLen; unfold maxLen; omega) hin (dfA_ok _ _ (by show 1 ≤ 1000000; omega)) (dfA_cp _ _)).mono ?_
  rintro e V' ⟨rfl, h2, h3, h4⟩
  rw [hz]
  exact ⟨rfl, h.put (h3 (by rw [hz]; decide)) h2 (fun p hp => .inl hp)⟩
theorem cp_of {d : PDef} {g : Nat} (hb : d.bare = cutD (dfA [116] g).bare) : d.cp := by
  have h := congrArg P22.Def.steps hb
  have h : d.steps.map PSt.bare = [cutS stA.bare] := h
  obtain ⟨s, hs, hq⟩ : ∃ s, d.steps = [s] ∧ s.bare = cutS stA.bare := by
    match d.steps, h with
    | [s], h => exact ⟨s, rfl, (List.cons.inj h).1⟩
    | [], h => cases h
    | _ :: _ :: _, h => cases (List.cons.inj h).2
  have ha : s.after = [] := congrArg P22.Step.after hq
  have hn : s.note.bare = stA.note.bare := congrArg P22.Step.note hq
  refine ⟨by rw [hs]; show 1 ≤ 100000; omega, (fun e => by rw [hs] at e; cases e), fun x hx => ?_, fun x hx => ?_⟩
  · rw [hs] at hx
    cases (List.mem_singleton.1 hx)
    rw [ha]
    exact Nat.zero_le _
  · rw [hs] at hx
    cases (List.mem_singleton.1 hx)
    rw [hn]
    exact nt_ok
theorem lv_get {w V : World} {H g : Nat} {d0 : PDef} (h : LvI w V H 0 [([115], d0)]) (hb : d0.bare = cutD (dfA [116] g).bare) : Calls Tryz.prog 43 #[.pointer (some ⟨H + 2, 0, none⟩), .string ⟨#[115]⟩] V fun e V' => ∃ (t : List UInt8) (s : Option Addr) (Y z : Nat), e = .returned (.tuple #[.agg #[.string ⟨#[116]⟩, .string ⟨t.toArray⟩, .slice s Y z], .bool true]) ∧ LvI w V' H 0 [([115], d0)] := by
  refine (Get_any (H + 2) (H + 1) 1 [([115], d0)] [115] V h.b (h.ins _ (List.mem_singleton.2 rfl)).1 ?_).mono ?_
  · exact cp_of (d := d0) hb
  · rintro e V' ⟨⟨n5, t5, s5, z5, y5⟩, rfl, h1, h2, h3⟩
    have h2 : (⟨n5, t5, s5, z5, y5⟩ : PDef).bare = cutD d0.bare := h2
    have := congrArg P22.Def.name h2
    rw [hb] at this
    obtain rfl : n5 = [116] := this
    exact ⟨t5, s5, y5.length, z5, rfl, h.below h3⟩
theorem lv_left {w V : World} {H : Nat} {L : List (List UInt8 × PDef)} (h : LvI w V H 0 L) : Calls Tryz.prog 39 #[.pointer (some ⟨H, 0, none⟩)] V fun e V' => e = .returned (.int .i64 0) ∧ V' = V := Left_any H 3 1 0 V h.k
theorem lv_names {w V : World} {H : Nat} {d0 : PDef} (h : LvI w V H 0 [([115], d0)]) : Calls Tryz.prog 47 #[.pointer (some ⟨H + 2, 0, none⟩)] V fun e V' => ∃ a cap, e = .returned (.slice a 1 cap) ∧ LvI w V' H 0 [([115], d0)] := by
  refine (Names_one (H + 2) (H + 1) 1 [115] d0 V h.b (by show 1 ≤ maxLen; unfold maxLen; omega)).mono ?_
  rintro e V' ⟨a, cap, rfl, hb⟩
  exact ⟨a, cap, rfl, h.below hb⟩
theorem lv_pnil {g : Nat} (V : World) : Calls Tryz.prog 41 #[.pointer none, .string ⟨#[115]⟩, (dfA [115] g).val, .bool true] V fun e V' => e = .returned (.int .i64 14) ∧ Below V.heap.size V V' := Put_nil [115] (dfA [115] g) true V
theorem lv_gnil (V : World) : Calls Tryz.prog 43 #[.pointer none, .string ⟨#[115]⟩] V fun e V' => e = .returned (.tuple #[.agg #[.string ⟨#[]⟩, .string ⟨#[]⟩, .slice none 0 0], .bool false]) ∧ Below V.heap.size V V' := Get_nil [115] V
set_option maxRecDepth 100000 in
set_option maxHeartbeats 2000000 in
theorem live36_any (w : World) : Calls Tryz.prog 32 #[] w fun e w' => e = .returned (.bool true) ∧ Below w.heap.size w w' := by
  obtain ⟨H, hH⟩ : ∃ H, w.heap.size = H := ⟨_, rfl⟩
  rw [hH]
  have hn1 := NewBucket_any 3 1 w
  rw [show P36.cnt 3 = 3 by decide, show P36.cnt 1 = 1 by decide, hH] at hn1
  have hn2 := NewBook_any 1
  rw [show P36.cnt 1 = 1 by decide] at hn2
  have HN1 := hide hn1
  have HN2 := hide hn2
  clear hn1 hn2
  go_enter Tryz.func32, Tryz.ntmps32
  go_upto_region 3 with (first | (go_at_call 33; with_reducible refine (unhide HN1).mono ?_; rintro e w1 ⟨rfl, p1, b1, z1⟩) | (go_at_call 40; with_reducible refine (unhide HN2 _).mono ?_; rintro e w2 ⟨rfl, p2, b2, z2⟩))
  rw [z1] at p2 b2 z2
  try rw [z1]
  have hi : LvI w w2 H 3 [] := ⟨BK.keep p1 (b2.block _ (by omega)), p2, b1.trans (b2.mono (by omega)), fun p hp => nomatch hp⟩
  have HI2 := hide hi
  clear p1 b1 z1 p2 b2 z2 hi HN1 HN2
  go_upto_region 8 with (first
    | (go_at_call 37; with_reducible refine (lv_t1 (unhide HI2)).mono ?_; rintro e w3 ⟨rfl, q3⟩; replace HI2 := hide q3; clear q3)
    | (go_at_call 37; with_reducible refine (lv_t2 (unhide HI2)).mono ?_; rintro e w3 ⟨rfl, q3⟩; replace HI2 := hide q3; clear q3)
    | (go_at_call 37; with_reducible refine (lv_t3 (unhide HI2)).mono ?_; rintro e w3 ⟨rfl, q3⟩; replace HI2 := hide q3; clear q3)
    | (go_at_call 35; with_reducible refine (lv_tk (unhide HI2)).mono ?_; rintro e w3 ⟨rfl, q3⟩; replace HI2 := hide q3; clear q3))
  go_upto_region 9 with (first
    | (go_at_call 81; with_reducible refine (pl_s _).mono ?_; rintro e w4 ⟨g1, rfl, in1, b4⟩; replace HI2 := hide ((unhide HI2).below b4); have HIN := hide in1; clear b4 in1)
    | (go_at_call 81; with_reducible refine (pl_t _).mono ?_; rintro e w4 ⟨g1, rfl, in1, b4⟩; replace HI2 := hide ((unhide HI2).below b4); have HIN := hide in1; clear b4 in1)
    | (go_at_call 81; with_reducible refine (pl_u _).mono ?_; rintro e w4 ⟨g1, rfl, in1, b4⟩; replace HI2 := hide ((unhide HI2).below b4); have HIN := hide in1; clear b4 in1)
    | (go_at_call 41; with_reducible refine (lv_p1 (unhide HI2) (unhide HIN)).mono ?_; rintro e w5 ⟨rfl, d1, hb1, q3⟩; replace HI2 := hide q3; have HBR := hide hb1; clear hb1 q3)
    | (go_at_call 41; with_reducible refine (lv_p2 (unhide HI2) (unhide HIN)).mono ?_; rintro e w5 ⟨rfl, q3⟩; replace HI2 := hide q3; clear q3)
    | (go_at_call 41; with_reducible refine (lv_p3 (unhide HI2) (unhide HIN)).mono ?_; rintro e w5 ⟨rfl, d1, hb1, q3⟩; replace HI2 := hide q3; have HBR := hide hb1; clear hb1 q3)
    | (go_at_call 41; with_reducible refine (lv_p4 (unhide HI2) (unhide HIN)).mono ?_; rintro e w5 ⟨rfl, q3⟩; replace HI2 := hide q3; clear q3))
  go_upto_region 10 with (go_at_call 43; with_reducible refine (lv_get (unhide HI2) (unhide HBR)).mono ?_; rintro e w6 ⟨t, s, Y, z, rfl, q3⟩; replace HI2 := hide q3; clear q3)
  obtain ⟨W9, hW9, hb9, g9, hs9⟩ := new1 w6 (.cells #[.string ⟨#[116]⟩, .string ⟨t.toArray⟩, .slice s Y z] 24) w6.heap.size rfl
  rw [hW9]
  have HI9 := hide ((unhide HI2).below hb9)
  have HG9 := hide g9
  obtain ⟨G, hG⟩ : ∃ G, w6.heap.size = G := ⟨_, rfl⟩
  rw [hG] at hs9 HG9
  try rw [hG]
  clear hW9 hb9 g9 HI2 HIN HBR
  go_upto_region 13 with (go_at_call 35; with_reducible refine (Tick_nil _ _).mono ?_; rintro e w' ⟨rfl, hw⟩; have hw := hw.symm; subst hw)
  go_upto_region 14 with (go_at_call 43; with_reducible refine (lv_gnil _).mono ?_; rintro e w8 ⟨rfl, b8⟩)
  obtain ⟨W13, hW13, hb13, g13, hs13⟩ := new1 w8 (.cells #[.string ⟨#[]⟩, .string ⟨#[]⟩, .slice none 0 0] 24) w8.heap.size rfl
  rw [hW13]
  have HI := hide (((unhide HI9).below b8).below hb13)
  have hz8 := b8.size
  obtain ⟨⟨k0, _⟩, _⟩ := cell3 ((hb13.block G (by omega)).trans ((b8.block G (by omega)).trans (unhide HG9)))
  clear hW13 hb13 g13 b8 HI9 HG9
  go_wp2_with (first
    | (go_at_call 39; with_reducible refine (lv_left (unhide HI)).mono ?_; rintro e w' ⟨rfl, hw⟩; have hw := hw.symm; subst hw)
    | (go_at_call 39; with_reducible refine (Left_nil _).mono ?_; rintro e w' ⟨rfl, hw⟩; have hw := hw.symm; subst hw)
    | (go_at_call 37; with_reducible refine (Take_nil _ _).mono ?_; rintro e w' ⟨rfl, hw⟩; have hw := hw.symm; subst hw)
    | (go_at_call 47; with_reducible refine (lv_names (unhide HI)).mono ?_; rintro e w10 ⟨na, ncap, rfl, q3⟩; replace HI := hide q3; clear q3)
    | (go_at_call 47; with_reducible refine (Names_nil _).mono ?_; rintro e w' ⟨rfl, hw⟩; have hw := hw.symm; subst hw)
    | (go_at_call 81; with_reducible refine (pl_s _).mono ?_; rintro e w4 ⟨g1, rfl, in1, b4⟩; replace HI := hide ((unhide HI).below b4); clear b4 in1)
    | (go_at_call 41; with_reducible refine (lv_pnil _).mono ?_; rintro e w4 ⟨rfl, b4⟩; replace HI := hide ((unhide HI).below b4); clear b4))
  go_ret
  exact ⟨by rfl, (unhide HI).bel⟩
end Go.Proofs.YtefokfbgpfcbkaaGreat
namespace Go.Proofs.YtefokfbgpfcbkaaGreat
set_option linter.unusedVariables false
set_option linter.unusedSimpArgs false
open Go.RowKit Go.Deep Go.ChangeShapes
def Asks36 (W : World) (v : Value) : Prop := ∃ ad l cap, v = .slice ad (l : List Ask36).length cap ∧ InA W ad l ∧ l.length ≤ maxLen
theorem choose_asks36 {p : Nat → Ask36 → Prop} {n : Nat} (h : ∀ i, i < n → ∃ x, p i x) : ∃ f : Nat → Ask36, ∀ i, i < n → p i (f i) := by
  refine ⟨fun i => if hi : i < n then Classical.choose (h i hi) else (false, 0), fun i hi => ?_⟩
  simp only [hi, dif_pos]
  exact Classical.choose_spec (h i hi)
set_option maxRecDepth 100000 in
theorem openAsks36 {H : Type} {enc : TypeId × Value → H} {W : World} {r : Reach} {b0 : Nat} {v : Value} {d : DataW H} {ps : List MemPlace} (hval : Value.okWide Tryz.prog W r b0 65 v)
    (hd : DataW.Trod enc Tryz.prog W 0 (fun _ => true) true 65 v d ps) : Asks36 W v := by
  obtain ⟨fuel, hf⟩ := hd
  obtain ⟨sa, sl, sc, rfl⟩ := Go.WideShapes.okWide_slice Tryz.underlying65 hval
  rcases open_slice Tryz.underlying65 hf with ⟨h0, _⟩ | ⟨a, len, cap, m, n, D, Pl, hcs, hb, hl, hm, hmm, _, hx⟩
  · simp [Value.cells] at h0
    obtain ⟨rfl, rfl, rfl⟩ := h0
    exact ⟨none, [], 0, rfl, fun i r hr => by simp at hr, Nat.zero_le _⟩
  · simp [Value.cells] at hcs
    obtain ⟨rfl, rfl, rfl⟩ := hcs
    have hc1 : Tryz.prog.cellsOf 71 = 2 := by kernel_rfl
    rcases Nat.eq_zero_or_pos sl with hz | hpos
    · exact ⟨some a, [], sc, by rw [hz]; rfl, fun i r hr => by simp at hr, Nat.zero_le _⟩
    have hsp : ∃ ab ao, a = ⟨ab, ao, none⟩ ∧ ab < W.heap.size := by
      obtain ⟨cs', h1, _⟩ := hx 0 (by rw [hmm, if_pos rfl]; omega)
      rw [hc1] at h1
      obtain ⟨_, hlen, hcell⟩ := World.cells?_some h1
      have d0 := hcell 0 (by omega)
      rw [Nat.zero_mul, List.getElem?_eq_getElem (by omega)] at d0
      obtain ⟨ab, ao, asp⟩ := a
      have e0 : ((Addr.add ⟨ab, ao, asp⟩ 0).add 0) = ⟨ab, ao, asp⟩ := rfl
      rw [e0] at d0
      have hlt : ab < W.heap.size := by
        rcases Nat.lt_or_ge ab W.heap.size with h | h
        · exact h
        · have h9 : W.heap[ab]? = none := Array.getElem?_eq_none h
          simp [World.cell?, h9] at d0
      cases asp with
      | none => exact ⟨ab, ao, rfl, hlt⟩
      | some q =>
        unfold World.cell? at d0
        split at d0
        · simp at d0
        · cases d0
    obtain ⟨ab, ao, rfl, hlt⟩ := hsp
    have plain : ∀ x y, (Addr.add ⟨ab, ao, none⟩ x).add y = ⟨ab, ao + x + y, none⟩ := by
      intro x y
      unfold Addr.add
      split <;> split <;> simp_all
    have each : ∀ i, i < sl → ∃ z : Ask36, W.cell? ⟨ab, ao + i * 2, none⟩ = some (.bool z.1) ∧ W.cell? ⟨ab, ao + i * 2 + 1, none⟩ = some (.int .i64 z.2) := by
      intro i hi
      obtain ⟨cs', h1, h2⟩ := hx i (by rw [hmm, if_pos rfl]; omega)
      rw [hc1] at h1
      obtain ⟨_, hlen, hcell⟩ := World.cells?_some h1
      obtain ⟨y0, y1, k, _, _, g0, g1⟩ := trod_struct2 Tryz.underlying71 h2
      match cs', hlen with
      | [c0, c1], _ =>
        have ci : Tryz.prog.cellsOf 3 = 1 := by kernel_rfl
        have cb : Tryz.prog.cellsOf 4 = 1 := by kernel_rfl
        simp only [ci, cb] at g0 g1
        obtain ⟨n0, e0, w0⟩ := DataW.trod_bool Tryz.underlying4 g0
        obtain ⟨n1, e1, w1⟩ := DataW.trod_int Tryz.underlying3 g1
        have d0 := hcell 0 (by omega)
        have d1 := hcell 1 (by omega)
        rw [plain] at d0 d1
        simp only [List.drop_zero, List.drop_succ_cons, List.take_succ_cons, List.take_zero, List.cons.injEq, and_true] at e0 e1
        subst e0
        subst e1
        exact ⟨(n0, n1), d0, d1⟩
    obtain ⟨f, hf2⟩ := choose_asks36 each
    refine ⟨some ⟨ab, ao, none⟩, (List.range sl).map f, sc, by simp, fun i r hr => ?_, by simp; omega⟩
    have hi : i < sl := by have := (List.getElem?_eq_some_iff.1 hr).1; simpa using this
    rw [List.getElem?_map, List.getElem?_range hi] at hr
    simp at hr
    subst hr
    exact ⟨ab, ao, rfl, hf2 i hi⟩
theorem QuotaBuckets_row (m c : Int) (v : Value) (w : World) (hm : (Lit.int .i64 m).wf = true) (hc : (Lit.int .i64 c).wf = true) (hv : Asks36 w v) :
    Calls Tryz.prog 5 #[.int .i64 m, .int .i64 c, v] w fun e w' => e = .returned (.bool true) ∧ Below w.heap.size w w' := by
  obtain ⟨ad, l, cap, rfl, h1, h2⟩ := hv
  exact QuotaBuckets_any m c ad cap l w h1 h2 live36_any
theorem wf16 {a : Int} (h : (Lit.int .u16 a).wf = true) : 0 ≤ a ∧ a ≤ 65535 := by
  simp only [Lit.wf, Bool.and_eq_true, decide_eq_true_eq] at h
  exact ⟨h.1, h.2⟩
theorem QuotaNever_row (m c : Int) (v : Value) (fr : Int) (w : World) (hm : (Lit.int .u16 m).wf = true) (hc : (Lit.int .u16 c).wf = true) (hv : Asks36 w v) (hf : (Lit.int .i64 fr).wf = true) :
    Calls Tryz.prog 6 #[.int .u16 m, .int .u16 c, v, .int .i64 fr] w fun e w' => e = .returned (.bool true) ∧ Below w.heap.size w w' := by
  obtain ⟨ad, l, cap, rfl, h1, h2⟩ := hv
  exact QuotaNever_any m c fr ad cap l w (wf16 hm).1 (wf16 hm).2 (wf16 hc).1 (wf16 hc).2 h1 h2 live36_any
end Go.Proofs.YtefokfbgpfcbkaaGreat
