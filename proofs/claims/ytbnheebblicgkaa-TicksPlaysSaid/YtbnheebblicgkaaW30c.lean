/- the keys of the clock's map, in order; the comparison in every world that the sort passes through; the sort at nothing -/
import Derived.Test.YtbnheebblicgkaaW30b
import Derived.Test.YtbnheebblicgkaaShelf
import Derived.Deep.AppendLies
namespace Go.Proofs.Ytbnheebblicgkaa
set_option linter.unusedVariables false
set_option linter.unusedSimpArgs false
open Go.RowKit Go.Maps Go.Shelf Go.Sort
/-- the slice v owns the numbers zs -/
def OwnI (W : World) (B : Nat) (v : Value) (zs : List Int) : Prop := W.ownsRow B 3 1 v zs.length (zs.map (Value.int .i64))
theorem intInfo : (Try.prog.info? 3).map (fun i => (i.zero, i.size, i.bytes)) = some (some (.int .i64 0), 1, 8) := by kernel_rfl
theorem wpList_appInt1 {w : World} {B : Nat} {v : Value} {zs : List Int} {z : Int} {ops : Array Oper} {rest : List Oper} {o : Oper} {a : Act} {Q : Exit → Act → World → Prop} (hgd : o.guard = none) (s x : Operand)
    (ho : o.op = .call { callee := .builtin .append, args := #[s, x], argTypes := #[35, 35] })
    (hs : a.eval s = v) (hown : OwnI w B v zs) (g cap : Nat) (hx : a.eval x = .slice (some ⟨g, 0, none⟩) 1 cap) (hnew : w.cell? ⟨g, 0, none⟩ = some (.int .i64 z))
    (hlen : zs.length + 1 ≤ 10000000) (hB : B ≤ w.heap.size)
    (h : ∀ g' cap' w', OwnI w' B (.slice (some ⟨g', 0, none⟩) (zs.length + 1) cap') (zs ++ [z]) → w.grownBy w' v.ownBlock → wpList Try.prog ops Q rest (a.put o.dst (.slice (some ⟨g', 0, none⟩) (zs.length + 1) cap')) w') :
    wpList Try.prog ops Q (o :: rest) a w := by
  obtain ⟨i, hi, hz, hsz, hby⟩ := info_parts intInfo
  refine wpList_append_lies (P := Try.prog) w hgd s x 35 ho B 3 i (.int .i64 0) 1 8 Try.underlying35 hi hz hsz hby rfl (by decide) v zs.length (zs.map (Value.int .i64)) hs hown
    ⟨g, 0, none⟩ 1 cap [.int .i64 z] hx rfl (by intro j u hj; match j, hj with | 0, hj => simp at hj; subst hj; exact hnew) (by intro u hu; simp at hu; subst hu; rfl) (by decide) (by unfold maxLen; omega) (by omega) hB _ rfl ?_
  intro g' cap' w' h2 h3 hat _
  refine h g' cap' w' ?_ h3
  unfold OwnI
  rw [List.length_append, List.map_append]
  exact h2
theorem OwnI.block {W : World} {B : Nat} {v : Value} {zs : List Int} (h : OwnI W B v zs) (hz : 0 < zs.length) : ∃ g cap, v = .slice (some ⟨g, 0, none⟩) zs.length cap ∧ B ≤ g ∧ g < W.heap.size ∧ ∀ i z, zs[i]? = some z → W.cell? ⟨g, i, none⟩ = some (.int .i64 z) := by
  obtain ⟨g, cap, hv, hb, hlt⟩ := World.ownsRow.form h hz
  subst hv
  refine ⟨g, cap, rfl, hb, hlt, fun i z hi => ?_⟩
  rw [World.ownsRow.cellAt h i (by have := (List.getElem?_eq_some_iff.1 hi).1; omega), List.getElem?_map, hi]
  rfl
theorem sortsA (m : Nat) : AnyZI.SortsIn Try.prog Try.sortedA_ren Fence.wide m :=
  ⟨fun blk off cap ss W hH hblk hsz => callsIn_wide.2 (Try.slices_Sort_int blk off cap ss W hH hblk hsz), fun p cap W => callsIn_wide.2 (Try.slices_Sort_int_none p cap W)⟩
theorem keys_any (mb : Option Nat) (W : World) : Calls Try.prog 21 #[.map mb] W fun e w' => e = .returned (.func (.func 27) #[] #[.pointer (some ⟨W.heap.size, 0, none⟩)]) ∧ w' = W.alloc (.cells #[.map mb] 48) :=
  (callsIn_wide (n := 5)).1 (AnyZI.keys_in Try.keysA Fence.wide 5 trivial rfl mb W)
theorem rep_keys {W : World} {bm n : Nat} {D : DataW Unit} {L : List P30.En} (hown : W.ownsMap Try.prog 3 (plainElem Try.prog 2) bm n D) (hr : Rep D L) (hok : P30.Ok L) : (L.map (·.1)).Perm (intKeys D) := by
  obtain ⟨es, hD, hpw, _⟩ := hown.entries keyI
  obtain ⟨es', hD', hko⟩ := hown.keysOf
  obtain rfl : es = es' := by rw [hD] at hD'; simpa using hD'
  subst hD
  refine perm_intKeys hpw (fun p hp => by obtain ⟨v, hv⟩ := hko p hp; obtain ⟨x, _, hx, _⟩ := Maps.keyOf_i64 Try.underlying3 hv; exact ⟨x, hx⟩) hok.nodup (fun x => ?_)
  rw [hr.has]
  cases hl : P30.look L x with
  | none => simpa using P30.look_none.1 hl
  | some a =>
    simp only [Option.isSome_some, iff_true]
    exact List.mem_map.2 ⟨(x, a), (P30.look_mem hok.nodup).1 hl, rfl⟩
theorem keys_wf {W : World} {bm : Nat} {L : List P30.En} (h : MapOf W bm L) (hok : P30.Ok L) : ∀ x ∈ L.map (·.1), (Lit.int .i64 x).wf = true := by
  obtain ⟨n, D, hown, hr⟩ := h
  intro x hx
  exact intKeys_wf hown Try.underlying3 x ((rep_keys hown hr hok).subset hx)
theorem sorted_strict {l : List Int} (hn : l.Nodup) : (l.mergeSort (fun x y => decide (x ≤ y))).Pairwise (· < ·) := by
  have h1 : (l.mergeSort (fun x y => decide (x ≤ y))).Pairwise (fun x y => decide (x ≤ y) = true) := List.pairwise_mergeSort (fun a b c h1 h2 => by simp at *; omega) (fun a b => by simp; omega) l
  have h2 : (l.mergeSort (fun x y => decide (x ≤ y))).Nodup := (List.mergeSort_perm l _).nodup_iff.2 hn
  refine List.Pairwise.imp₂ (fun a b h3 h4 => ?_) h1 h2
  simp at h3
  have : a ≠ b := h4
  omega
theorem sortedKeys_any (W : World) (bm : Nat) (L : List P30.En) (hm : MapOf W bm L) (hok : P30.Ok L) (hl : L.length ≤ 1000000) :
    Calls Try.prog 20 #[.func (.func 27) #[] #[.pointer (some ⟨W.heap.size, 0, none⟩)]] (W.alloc (.cells #[.map (some bm)] 48)) fun e w' => ∃ v ss, e = .returned v ∧ Hid (ss.Pairwise (· < ·)) ∧ Hid (ss.Perm (L.map (·.1))) ∧
      OwnI w' (W.heap.size + 1) v ss ∧ (ss = [] → v = .slice none 0 0) ∧ Below (W.heap.size + 1) (W.alloc (.cells #[.map (some bm)] 48)) w' := by
  obtain ⟨nn, D0, hown, hrep⟩ := hm
  have hbl := hown.lt
  have hsz := hrep.size
  have hseq : SeqGives Fence.wide 2 Try.prog 27 #[.pointer (some ⟨W.heap.size, 0, none⟩)] encZ (fun ss => ss.Perm (intKeys D0)) (Maps.size D0) (W.alloc (.cells #[.map (some bm)] 48)) :=
    AnyZI.keys_gives (ρ := Try.keysA_ren) { Try.keysA with } Fence.wide _ trivial rfl (by omega) W.heap.size bm nn D0 _ (by simp) (one_cell (World.alloc_heap_new W _)).1 (hown.alloc _)
  have cS := AnyZI.sorted_in Try.sortedA Fence.wide 5 trivial trivial trivial trivial rfl (by omega) (sortsA _) (enters_of Try.func26 (by kernel_rfl) rfl) 27 #[.pointer (some ⟨W.heap.size, 0, none⟩)] trivial (enters_of Try.func27 (by kernel_rfl) rfl) _ _ (by rw [hsz]; unfold maxLen; omega) (by rw [hsz]; omega) _ hseq
  refine ((callsIn_wide (n := 5)).1 cS).mono ?_
  rintro e w' ⟨v, ss, rfl, hS, hrow, hnil, hb⟩
  rw [World.size_alloc] at hrow hb
  have hp := hS.trans (rep_keys hown hrep hok).symm
  have hms := List.mergeSort_perm ss (fun x y => decide (x ≤ y))
  refine ⟨v, ss.mergeSort (fun x y => decide (x ≤ y)), rfl, sorted_strict (hp.nodup_iff.2 hok.nodup), hms.trans hp, ?_, ?_, hb⟩
  · unfold OwnI
    rw [hms.length_eq]
    exact hrow
  · intro h
    refine hnil.2 ?_
    have := hms.length_eq
    rw [h] at this
    exact List.eq_nil_of_length_eq_zero this.symm
/-- the blocks of a clock, of its map and of a box stay -/
def Stay (sb bm bx : Nat) (W W' : World) : Prop := W'.heap[sb]? = W.heap[sb]? ∧ W'.heap[bm]? = W.heap[bm]? ∧ W'.heap[bx]? = W.heap[bx]?
theorem cell_same {W W' : World} {b o : Nat} (h : W'.heap[b]? = W.heap[b]?) : W'.cell? ⟨b, o, none⟩ = W.cell? ⟨b, o, none⟩ := by unfold World.cell?; rw [h]
theorem MapOf.same {W W' : World} {bm : Nat} {L : List P30.En} (h : MapOf W bm L) (he : W'.heap[bm]? = W.heap[bm]?) : MapOf W' bm L := by
  obtain ⟨n, D, ⟨es, clock, hb, F, hs, hD⟩, hr⟩ := h
  exact ⟨n, D, ⟨es, clock, he.trans hb, F, hs, hD⟩, hr⟩
theorem Ck.stay {W W' : World} {sb bm bx : Nat} {L : List P30.En} (h : Ck W sb bm L) (hs : Stay sb bm bx W W') : Ck W' sb bm L :=
  ⟨(cell_same hs.1).trans h.cell, h.map.same hs.2.1⟩
theorem heap_putRow {W : World} {g b : Nat} {d : Array Z} (h : b ≠ g) : (putRow encI W g 0 d).heap[b]? = W.heap[b]? := by
  unfold putRow mapBlock
  simp only [Array.getElem?_modify]
  rw [if_neg (fun e => h e.symm)]
theorem stay_put {sb bm bx g : Nat} {W : World} {d : Array Z} {n : Nat} (h1 : sb ≠ g) (h2 : bm ≠ g) (h3 : bx ≠ g) : Stay sb bm bx W ((putRow encI W g 0 d).drewN n) :=
  ⟨heap_putRow h1, heap_putRow h2, heap_putRow h3⟩
theorem cmp_world (sb bm bx : Nat) (L : List P30.En) (W W' : World) (hc : Ck W sb bm L) (hb : W.cell? ⟨bx, 0, none⟩ = some (.pointer (some ⟨sb, 0, none⟩))) (hs : Stay sb bm bx W W') (x y : Z) :
    Calls Try.prog 23 (#[.int .i64 x.1, .int .i64 y.1] ++ #[.pointer (some ⟨bx, 0, none⟩)]) W' fun e w' => e = .returned (.int .i64 (cmpI (P30.atOf L x.1) (P30.atOf L y.1))) ∧ ∃ q, w' = W'.drewN q :=
  due1_any sb bm bx L x.1 y.1 W' (hc.stay hs) x.2 y.2 ((cell_same hs.2.2).trans hb)
theorem cmp_ok (sb bm bx g N : Nat) (L : List P30.En) (W : World) (hc : Ck W sb bm L) (hb : W.cell? ⟨bx, 0, none⟩ = some (.pointer (some ⟨sb, 0, none⟩))) (h1 : sb ≠ g) (h2 : bm ≠ g) (h3 : bx ≠ g) :
    CmpOk 23 #[.pointer (some ⟨bx, 0, none⟩)] (fun x y => cmpI (P30.atOf L x.1) (P30.atOf L y.1)) W g 0 N := fun X x y hX m n =>
  cmp_world sb bm bx L W _ hc hb (show Stay sb bm bx W (((putRow encI W g 0 X).drewN m).drewN n) from stay_put (n := m) h1 h2 h3) x y
theorem cmp_reads (sb bm bx g N : Nat) (L : List P30.En) (W : World) (hc : Ck W sb bm L) (hb : W.cell? ⟨bx, 0, none⟩ = some (.pointer (some ⟨sb, 0, none⟩))) (h1 : sb ≠ g) (h2 : bm ≠ g) (h3 : bx ≠ g) (hl : bx < W.heap.size) :
    ∀ (X : Array Z) (m : Nat), X.size = N → CmpReads Try.prog 23 #[.pointer (some ⟨bx, 0, none⟩)] encI (fun x y => cmpI (P30.atOf L x.1) (P30.atOf L y.1)) g 0 N ((putRow encI W g 0 X).drewN m) := by
  intro X m hX m' os dk hdk x y
  refine cmp_world sb bm bx L W _ hc hb ?_ x y
  have l1 := cell_lt hc.cell
  have l2 := hc.map.lt
  have key : ∀ b, b ≠ g → b < W.heap.size → (sortWorld encI ((putRow encI W g 0 X).drewN m) g 0 m' dk os).heap[b]? = W.heap[b]? := by
    intro b hbg hbl
    have e1 : (putRow encI (Sort.ahead ((putRow encI W g 0 X).drewN m) m') g 0 dk).heap[b]? = W.heap[b]? := (heap_putRow hbg).trans (heap_putRow hbg)
    have e2 : b < (putRow encI (Sort.ahead ((putRow encI W g 0 X).drewN m) m') g 0 dk).heap.size := by
      rw [Array.getElem?_eq_getElem hbl] at e1
      exact (Array.getElem?_eq_some_iff.1 e1).1
    show ((putRow encI (Sort.ahead ((putRow encI W g 0 X).drewN m) m') g 0 dk).heap ++ os)[b]? = _
    rw [Array.getElem?_append_left e2]
    exact e1
  exact ⟨key sb h1 l1, key bm h2 l2, key bx h3 hl⟩
theorem wo_cmp (L : List P30.En) : St.Wo (ltOf (fun x y : Z => cmpI (P30.atOf L x.1) (P30.atOf L y.1))) where
  asym x y h := by
    unfold ltOf cmpI at *
    simp only [decide_eq_true_eq, decide_eq_false_iff_not] at *
    split at h
    · rw [if_neg (by omega)]; split <;> omega
    · split at h <;> omega
  ntr x y z h1 h2 := by
    unfold ltOf cmpI at *
    simp only [decide_eq_false_iff_not] at *
    have a1 : ¬ P30.atOf L x.1 < P30.atOf L y.1 := fun h => h1 (by rw [if_pos h]; omega)
    have a2 : ¬ P30.atOf L y.1 < P30.atOf L z.1 := fun h => h2 (by rw [if_pos h]; omega)
    rw [if_neg (by omega)]
    split <;> omega
theorem ins_nil (cmp : Value) (w : World) : Calls Try.prog 33 #[.slice none 0 0, .int .i64 0, .int .i64 0, cmp] w fun e w' => e = .returned (.tuple #[]) ∧ w' = w := by
  go_enter Try.func33, Try.ntmps33
  go_wp2
  refine wp_loop_rounds 1 ?_
  rw [rounds_succ]
  go_wp2
  go_end0
  exact ⟨rfl, rfl⟩
theorem stable_nil (cmp : Value) (w : World) : Calls Try.prog 28 #[.slice none 0 0, .int .i64 0, cmp] w fun e w' => e = .returned (.tuple #[]) ∧ w' = w := by
  go_enter Try.func28, Try.ntmps28
  go_wp2
  refine wp_loop_rounds 1 ?_
  rw [rounds_succ]
  go_wp2_with (go_at_call 33; refine (ins_nil _ _).mono ?_; rintro e w1 ⟨rfl, rfl⟩)
  refine wp_loop_rounds 1 ?_
  rw [rounds_succ]
  go_wp2
  go_end0
  exact ⟨rfl, rfl⟩
theorem SortStable_nil (cmp : Value) (w : World) : Calls Try.prog 22 #[.slice none 0 0, cmp] w fun e w' => e = .returned (.tuple #[]) ∧ w' = w := by
  go_enter Try.func22, Try.ntmps22
  go_wp2_with (go_at_call 28; refine (stable_nil _ _).mono ?_; rintro e w1 ⟨rfl, rfl⟩)
  go_end0
  exact ⟨rfl, rfl⟩
end Go.Proofs.Ytbnheebblicgkaa
