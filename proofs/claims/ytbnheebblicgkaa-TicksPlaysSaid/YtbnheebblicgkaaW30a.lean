/- the clock's map, and walks of ticks.New, At, Len, Set, Unset -/
import Derived.Test.YtbnheebblicgkaaPlain30
import Derived.Test.YtbnheebblicgkaaProg
import Derived.Maps.OwnSet
import Derived.Maps.RangeWalk
import Derived.RangeFuncRecord
namespace Go.Proofs.Ytbnheebblicgkaa
set_option linter.unusedVariables false
set_option linter.unusedSimpArgs false
open Go.RowKit Go.Maps
theorem keyI : Keyed Try.prog 3 := int_keyed Try.underlying3
theorem zero64 (w : World) : (zeroValue 2).run Try.prog w = .ok (.int .i64 0) w := by kernel_rfl
/-- the map's datum holds who waits -/
structure Rep (D : DataW Unit) (L : List P30.En) : Prop where
  has : ∀ k, Maps.has D (.int .i64 k) = (P30.look L k).isSome
  at_ : ∀ k, D.atKey (.int .i64 k) (.lit (.int .i64 0)) = .lit (.int .i64 (P30.atOf L k))
  size : Maps.size D = L.length
/-- block bm is a map of who waits -/
def MapOf (W : World) (bm : Nat) (L : List P30.En) : Prop := ∃ n D, W.ownsMap Try.prog 3 (plainElem Try.prog 2) bm n D ∧ Rep D L
/-- the clock at sb, whose map is in block bm -/
structure Ck (W : World) (sb bm : Nat) (L : List P30.En) : Prop where
  cell : W.cell? ⟨sb, 0, none⟩ = some (.map (some bm))
  map : MapOf W bm L
theorem own_tight {H : Type} {P : Program} {k : TypeId} {R : Value → Option (DataW H × List MemPlace)} {w : World} {b n : Nat} {D : DataW H} (h : w.ownsMap P k R b n D) : w.ownsMap P k R b (Maps.size D) D := by
  obtain ⟨es, clock, hb, F, hs, rfl⟩ := h
  exact ⟨es, clock, hb, F, by simp [Maps.size, length_sorted], rfl⟩
theorem MapOf.kept {W W' : World} {bm : Nat} {L : List P30.En} {row : Option Nat} (h : MapOf W bm L) (hg : W.grownBy W' row) (hne : some bm ≠ row) : MapOf W' bm L := by
  obtain ⟨n, D, h1, h2⟩ := h
  exact ⟨n, D, h1.kept hg hne, h2⟩
theorem MapOf.lt {W : World} {bm : Nat} {L : List P30.En} (h : MapOf W bm L) : bm < W.heap.size := by obtain ⟨n, D, h1, h2⟩ := h; exact h1.lt
theorem cell_lt {W : World} {b o : Nat} {v : Value} (h : W.cell? ⟨b, o, none⟩ = some v) : b < W.heap.size := by
  unfold World.cell? at h
  cases hb : W.heap[b]? with
  | none => simp [hb] at h
  | some ob => exact (Array.getElem?_eq_some_iff.1 hb).1
theorem cell_ne_map {W : World} {b o bm : Nat} {v : Value} {L : List P30.En} (h : W.cell? ⟨b, o, none⟩ = some v) (hm : MapOf W bm L) : b ≠ bm := by
  rintro rfl
  obtain ⟨n, D, ⟨es, clock, hb, _⟩, _⟩ := hm
  simp [World.cell?, hb] at h
theorem one_cell {W : World} {g : Nat} {t : TypeId} {v : Value} (h : W.heap[g]? = some (.cells #[v] t)) : W.cell? ⟨g, 0, none⟩ = some v ∧ W.frozen? ⟨g, 0, none⟩ = false := by simp [World.cell?, World.frozen?, h]
theorem Ck.ne {W : World} {sb bm : Nat} {L : List P30.En} (h : Ck W sb bm L) : sb ≠ bm := cell_ne_map h.cell h.map
theorem cell_kept {W W' : World} {row : Option Nat} (hg : W.grownBy W' row) {b o : Nat} {v : Value} (h : W.cell? ⟨b, o, none⟩ = some v) (hne : some b ≠ row) : W'.cell? ⟨b, o, none⟩ = some v := by
  have := hg.block b (cell_lt h) hne
  unfold World.cell? at h ⊢
  rw [this]
  exact h
theorem Ck.kept {W W' : World} {sb bm : Nat} {L : List P30.En} {row : Option Nat} (h : Ck W sb bm L) (hg : W.grownBy W' row) (h1 : some sb ≠ row) (h2 : some bm ≠ row) : Ck W' sb bm L :=
  ⟨cell_kept hg h.cell h1, h.map.kept hg h2⟩
theorem rep_nil : Rep (.map []) [] := ⟨fun k => rfl, fun k => rfl, rfl⟩
theorem rep_put {D : DataW Unit} {L : List P30.En} (h : Rep D L) (hok : P30.Ok L) (ht : Tidy D) (k a : Int) (L' : List P30.En) (hk : ∀ j, P30.look L' j = if j = k then some a else P30.look L j) (hl : L'.length = if (P30.look L k).isSome then L.length else L.length + 1) :
    Rep (D.put (.int .i64 k) (.lit (.int .i64 a))) L' := by
  have hkl : WideAt.IsKeyLit (.int .i64 k) := by simp [WideAt.IsKeyLit]
  refine ⟨fun j => ?_, fun j => ?_, ?_⟩
  · by_cases hj : j = k
    · subst hj; rw [has_put_same ht.isMap hkl, hk, if_pos rfl]; rfl
    · rw [has_put_other (by simpa using hj), h.has, hk, if_neg hj]
  · by_cases hj : j = k
    · subst hj; rw [atKey_put_same ht.isMap hkl, P30.atOf, hk, if_pos rfl]; rfl
    · rw [atKey_put_other (by simpa using hj), h.at_, P30.atOf, P30.atOf, hk, if_neg hj]
  · rw [size_put ht, h.has, h.size, hl]
theorem rep_del {D : DataW Unit} {L : List P30.En} (h : Rep D L) (ht : Tidy D) (k : Int) (L' : List P30.En) (hk : ∀ j, P30.look L' j = if j = k then none else P30.look L j) (hl : L'.length + (if (P30.look L k).isSome then 1 else 0) = L.length) :
    Rep (D.del (.int .i64 k)) L' := by
  refine ⟨fun j => ?_, fun j => ?_, ?_⟩
  · by_cases hj : j = k
    · subst hj; rw [has_del_same, hk, if_pos rfl]; rfl
    · rw [has_del_other (by simpa using hj), h.has, hk, if_neg hj]
  · by_cases hj : j = k
    · subst hj; rw [atKey_del_same, P30.atOf, hk, if_pos rfl]; rfl
    · rw [atKey_del_other (by simpa using hj), h.at_, P30.atOf, P30.atOf, hk, if_neg hj]
  · have := size_del (k := .int .i64 k) ht
    rw [h.has, h.size] at this
    omega
theorem look_unset (L : List P30.En) (k j : Int) : P30.look (P30.unset L k) j = if j = k then none else P30.look L j := by
  unfold P30.look P30.unset
  induction L with
  | nil => simp
  | cons y r ih =>
    rw [List.filter_cons]
    by_cases hy : y.1 = k
    · have h1 : (y.1 != k) = false := by simpa using hy
      simp only [h1, Bool.false_eq_true, if_false]
      rw [ih]
      by_cases hj : j = k
      · rw [if_pos hj, if_pos hj]
      · rw [if_neg hj, if_neg hj, List.find?_cons]
        have h2 : (y.1 == j) = false := by simp; omega
        rw [h2]
    · have h1 : (y.1 != k) = true := by simpa using hy
      simp only [h1, if_true, List.find?_cons]
      by_cases hyj : y.1 = j
      · have h2 : (y.1 == j) = true := by simpa using hyj
        have h3 : j ≠ k := by omega
        simp only [h2, if_neg h3]
      · have h2 : (y.1 == j) = false := by simpa using hyj
        simp only [h2]
        exact ih
theorem look_ins {L : List P30.En} {k a : Int} (hn : ∀ y ∈ L, y.1 ≠ k) (j : Int) : P30.look (P30.ins (k, a) L) j = if j = k then some a else P30.look L j := by
  unfold P30.look
  induction L with
  | nil =>
    by_cases hj : j = k
    · subst hj; simp [P30.ins]
    · have : (k == j) = false := by simp; omega
      simp [P30.ins, hj, this]
  | cons y r ih =>
    have hy := hn y (by simp)
    have ih2 := ih (fun z hz => hn z (by simp [hz]))
    unfold P30.ins
    split
    · rw [List.find?_cons]
      by_cases hj : j = k
      · subst hj; simp
      · have : (k == j) = false := by simp; omega
        rw [this, if_neg hj]
    · rw [List.find?_cons, List.find?_cons]
      by_cases hyj : y.1 = j
      · have h2 : (y.1 == j) = true := by simpa using hyj
        have h3 : j ≠ k := by omega
        simp only [h2, if_neg h3]
      · have h2 : (y.1 == j) = false := by simpa using hyj
        simp only [h2]
        exact ih2
theorem rep_unset {D : DataW Unit} {L : List P30.En} (h : Rep D L) (hok : P30.Ok L) (ht : Tidy D) (k : Int) : Rep (D.del (.int .i64 k)) (P30.unset L k) :=
  rep_del h ht k _ (look_unset L k) (P30.unset_len hok.nodup k)
theorem rep_set {D : DataW Unit} {L : List P30.En} (h : Rep D L) (hok : P30.Ok L) (ht : Tidy D) (k a : Int) : Rep (D.put (.int .i64 k) (.lit (.int .i64 a))) (P30.ins (k, a) (P30.unset L k)) := by
  refine rep_put h hok ht k a _ (fun j => ?_) ?_
  · rw [look_ins (P30.unset_key L k), look_unset]
    by_cases hj : j = k
    · rw [if_pos hj, if_pos hj]
    · rw [if_neg hj, if_neg hj, if_neg hj]
  · rw [P30.ins_len]
    have := P30.unset_len hok.nodup k
    cases hs : (P30.look L k).isSome
    · rw [hs] at this; simp at this ⊢; omega
    · rw [hs] at this; simp at this ⊢; omega
set_option maxRecDepth 100000 in
theorem At_any (sb bm : Nat) (L : List P30.En) (k : Int) (w : World) (hc : Ck w sb bm L) (hk : (Lit.int .i64 k).wf = true) :
    Calls Try.prog 15 #[.pointer (some ⟨sb, 0, none⟩), .int .i64 k] w fun e w' => e = .returned (.tuple #[.int .i64 (P30.atOf L k), .bool (P30.look L k).isSome]) ∧ w' = w := by
  obtain ⟨c0, n, D, hown, hrep⟩ := hc
  have hkey := keyOf_int_mk Try.underlying3 hk
  have HA := hide (hrep.at_ k)
  have HH := hide (hrep.has k)
  clear hrep
  go_enter Try.func15, Try.ntmps15
  go_wp2_with (at_lookup; refine wpList_lookup_own_ok_int _ rfl _ _ 48 rfl 3 2 .i64 keyI Try.underlying48 Try.underlying2 (zero64 _) bm n D rfl hown _ _ rfl hkey ?_; intro c hat hwc; obtain rfl : c = P30.atOf L k := (by have := hat.symm.trans (unhide HA); simpa using this); clear hat; rw [unhide HH])
  go_ret2
  exact ⟨rfl, rfl⟩
set_option maxRecDepth 100000 in
theorem Len_any (sb bm : Nat) (L : List P30.En) (w : World) (hc : Ck w sb bm L) :
    Calls Try.prog 18 #[.pointer (some ⟨sb, 0, none⟩)] w fun e w' => e = .returned (.int .i64 (L.length : Int)) ∧ w' = w := by
  obtain ⟨c0, n, D, hown, hrep⟩ := hc
  have HS := hide hrep.size
  clear hrep
  go_enter Try.func18, Try.ntmps18
  go_wp2_with (at_len; refine wpList_len_own _ rfl _ 48 rfl 3 2 Try.underlying48 _ bm n D rfl hown ?_; rw [unhide HS])
  go_ret
  exact ⟨rfl, rfl⟩
set_option maxRecDepth 100000 in
theorem Unset_any (sb bm : Nat) (L : List P30.En) (k : Int) (w : World) (hc : Ck w sb bm L) (hok : P30.Ok L) (hk : (Lit.int .i64 k).wf = true) :
    Calls Try.prog 10 #[.pointer (some ⟨sb, 0, none⟩), .int .i64 k] w fun e w' => e = .returned (.bool (P30.look L k).isSome) ∧ Ck w' sb bm (P30.unset L k) ∧ w.grownBy w' (some bm) := by
  have hat := At_any sb bm L k w hc hk
  have HC := hide hc
  obtain ⟨c0, n, D, hown, hrep⟩ := hc
  have hne := (unhide HC).ne
  have hkey := keyOf_int_mk Try.underlying3 hk
  have HR := hide (rep_unset hrep hok (hown.tidy keyI) k)
  have HAT := hide hat
  clear hrep hat
  obtain ⟨b, hb⟩ : ∃ b, (P30.look L k).isSome = b := ⟨_, rfl⟩
  rw [hb] at HAT ⊢
  cases b with
  | true =>
    clear hb
    go_enter Try.func10, Try.ntmps10
    go_wp2_with (first
      | (go_at_call 15; refine (unhide HAT).mono ?_; rintro e w1 ⟨rfl, rfl⟩)
      | (at_delete; refine wpList_delete_own _ rfl _ _ 48 3 rfl 2 keyI Try.underlying48 _ bm n D rfl hown _ _ rfl hkey ?_; intro w2 hown2 hturn2))
    go_ret
    exact ⟨rfl, ⟨cell_kept hturn2.grown c0 (by simpa using hne), n, _, hown2, unhide HR⟩, hturn2.grown⟩
  | false =>
    have hno : P30.unset L k = L := P30.unset_none (by simpa using hb)
    have HNO := hide hno
    clear hb hno HR
    go_enter Try.func10, Try.ntmps10
    go_wp2_with (first
      | (go_at_call 15; refine (unhide HAT).mono ?_; rintro e w1 ⟨rfl, rfl⟩))
    go_ret
    exact ⟨rfl, by rw [unhide HNO]; exact unhide HC, hown.turned_refl.grown⟩
set_option maxRecDepth 100000 in
set_option maxHeartbeats 800000 in
theorem Set_any (sb bm : Nat) (L : List P30.En) (k a : Int) (w : World) (hc : Ck w sb bm L) (hok : P30.Ok L) (hk : (Lit.int .i64 k).wf = true) (ha : (Lit.int .i64 a).wf = true) (hl : L.length ≤ 1000000) :
    Calls Try.prog 8 #[.pointer (some ⟨sb, 0, none⟩), .int .i64 k, .int .i64 a] w fun e w' => e = .returned (.bool (!P30.full L k)) ∧ Ck w' sb bm (P30.set L k a) ∧ w.grownBy w' (some bm) := by
  have HC := hide hc
  obtain ⟨c0, n0, D, hown0, hrep⟩ := hc
  have hown := own_tight hown0
  have hsz : Maps.size D < maxLen := by rw [hrep.size]; unfold maxLen; omega
  have hne := (unhide HC).ne
  have hkey := keyOf_int_mk Try.underlying3 hk
  have HR := hide (rep_set hrep hok (hown0.tidy keyI) k a)
  have HH := hide (hrep.has k)
  have HS := hide hrep.size
  have hel := plainElem_int (H := Unit) Try.underlying2 ha
  clear hrep hown0
  by_cases hb : (P30.look L k).isSome = true
  · have HB := hide hb
    have hf : P30.full L k = false := by
      unfold P30.full
      rw [decide_eq_false]
      rintro ⟨h1, _⟩
      rw [Option.isNone_iff_eq_none] at h1
      rw [h1] at hb
      cases hb
    have HF := hide hf
    clear hb hf
    go_enter Try.func8, Try.ntmps8
    go_wp2_with (first
      | (at_lookup; refine wpList_lookup_own_ok_int _ rfl _ _ 48 rfl 3 2 .i64 keyI Try.underlying48 Try.underlying2 (zero64 _) bm _ D rfl hown _ _ rfl hkey ?_; intro c hat hwc; clear hat hwc; rw [unhide HH, unhide HB])
      | (at_len; refine wpList_len_own _ rfl _ 48 rfl 3 2 Try.underlying48 _ bm _ D rfl hown ?_)
      | (at_mapUpdate; refine wpList_mapUpdate_in _ rfl _ _ _ 48 rfl 3 2 keyI Try.underlying48 _ bm _ D rfl hown hsz _ _ _ rfl rfl hkey _ [] hel ?_; intro w1 hown1 hturn1))
    go_ret
    refine ⟨by rw [unhide HF]; rfl, ⟨cell_kept hturn1.grown c0 (by simpa using hne), _, _, hown1, ?_⟩, hturn1.grown⟩
    unfold P30.set
    rw [unhide HF]
    exact unhide HR
  · have hb' : (P30.look L k).isSome = false := by simpa using hb
    have hn : P30.look L k = none := by simpa using hb'
    have HB := hide hb'
    by_cases hfull : 4096 ≤ L.length
    · have hf : P30.full L k = true := by
        unfold P30.full
        exact decide_eq_true ⟨by rw [hn]; rfl, hfull⟩
      have HF := hide hf
      have HST : Hid (P30.set L k a = L) := hide (by unfold P30.set; rw [if_pos hf])
      have hf2 : (4096 : Int) ≤ (L.length : Int) := by omega
      have hrun : ∀ ty, (Builtin.len_ #[48] ty #[.map (some bm)]).run Try.prog w = .ok (.int .i64 (L.length : Int)) w := fun ty => by
        have := hown.len Try.underlying48 ty
        rw [unhide HS] at this
        exact this
      clear hb hb' hn hf hfull
      go_enter Try.func8, Try.ntmps8
      go_wp2_with (first
        | (at_lookup; refine wpList_lookup_own_ok_int _ rfl _ _ 48 rfl 3 2 .i64 keyI Try.underlying48 Try.underlying2 (zero64 _) bm _ D rfl hown _ _ rfl hkey ?_; intro c hat hwc; clear hat hwc; rw [unhide HH, unhide HB]))
      go_ret
      exact ⟨by rw [unhide HF]; rfl, by rw [unhide HST]; exact unhide HC, hown.turned_refl.grown⟩
    · have hf : P30.full L k = false := by
        unfold P30.full
        exact decide_eq_false (fun h => hfull h.2)
      have HF := hide hf
      have hf2 : (L.length : Int) < 4096 := by omega
      have hrun : ∀ ty, (Builtin.len_ #[48] ty #[.map (some bm)]).run Try.prog w = .ok (.int .i64 (L.length : Int)) w := fun ty => by
        have := hown.len Try.underlying48 ty
        rw [unhide HS] at this
        exact this
      clear hb hb' hn hf hfull
      go_enter Try.func8, Try.ntmps8
      go_wp2_with (first
        | (at_lookup; refine wpList_lookup_own_ok_int _ rfl _ _ 48 rfl 3 2 .i64 keyI Try.underlying48 Try.underlying2 (zero64 _) bm _ D rfl hown _ _ rfl hkey ?_; intro c hat hwc; clear hat hwc; rw [unhide HH, unhide HB])
        | (at_mapUpdate; refine wpList_mapUpdate_in _ rfl _ _ _ 48 rfl 3 2 keyI Try.underlying48 _ bm _ D rfl hown hsz _ _ _ rfl rfl hkey _ [] hel ?_; intro w1 hown1 hturn1))
      go_ret
      refine ⟨by rw [unhide HF]; rfl, ⟨cell_kept hturn1.grown c0 (by simpa using hne), _, _, hown1, ?_⟩, hturn1.grown⟩
      unfold P30.set
      rw [unhide HF]
      exact unhide HR
set_option maxRecDepth 100000 in
/-- a clock for which nobody waits -/
theorem New_any (w : World) :
    Calls Try.prog 7 #[] w fun e w' => e = .returned (.pointer (some ⟨w.heap.size + 1, 0, none⟩)) ∧ Ck w' (w.heap.size + 1) w.heap.size [] ∧ w.grownBy w' none ∧ w'.frozen? ⟨w.heap.size + 1, 0, none⟩ = false := by
  have hmm := @run_makeMap Try.prog
  go_enter Try.func7, Try.ntmps7
  go_wp2
  go_ret
  have h1 := World.ownsMap_made w Try.prog 3 (plainElem (H := Unit) Try.prog 2)
  refine ⟨rfl, ⟨?_, _, _, h1.alloc _, rep_nil⟩, (World.grownBy_alloc w _ none).trans (World.grownBy_alloc _ _ none), ?_⟩
  · have := World.alloc_heap_new (w.alloc (.map #[] 0)) (.cells #[.map (some w.heap.size)] 50)
    rw [World.size_alloc] at this
    exact (one_cell this).1
  · have := World.alloc_heap_new (w.alloc (.map #[] 0)) (.cells #[.map (some w.heap.size)] 50)
    rw [World.size_alloc] at this
    exact (one_cell this).2
/-- the law for no clock: none waits -/
theorem At_nil (k : Int) (w : World) : Calls Try.prog 15 #[.pointer none, .int .i64 k] w fun e w' => e = .returned (.tuple #[.int .i64 0, .bool false]) ∧ w' = w := by
  go_enter Try.func15, Try.ntmps15
  go_wp2
  go_ret2
  exact ⟨rfl, rfl⟩
theorem Len_nil (w : World) : Calls Try.prog 18 #[.pointer none] w fun e w' => e = .returned (.int .i64 0) ∧ w' = w := by
  go_enter Try.func18, Try.ntmps18
  go_wp2
  go_ret
  exact ⟨rfl, rfl⟩
theorem Set_nil (k a : Int) (w : World) : Calls Try.prog 8 #[.pointer none, .int .i64 k, .int .i64 a] w fun e w' => e = .returned (.bool false) ∧ w' = w := by
  go_enter Try.func8, Try.ntmps8
  go_wp2
  go_ret
  exact ⟨rfl, rfl⟩
theorem Unset_nil (k : Int) (w : World) : Calls Try.prog 10 #[.pointer none, .int .i64 k] w fun e w' => e = .returned (.bool false) ∧ w' = w := by
  go_enter Try.func10, Try.ntmps10
  go_wp2_with (go_at_call 15; refine (At_nil k _).mono ?_; rintro e w1 ⟨rfl, rfl⟩)
  go_ret
  exact ⟨rfl, rfl⟩
theorem Next_nil (w : World) : Calls Try.prog 17 #[.pointer none] w fun e w' => e = .returned (.tuple #[.int .i64 0, .bool false]) ∧ w' = w := by
  go_enter Try.func17, Try.ntmps17
  go_wp2
  go_ret2
  exact ⟨rfl, rfl⟩
theorem Due_nil (now : Int) (w : World) : Calls Try.prog 13 #[.pointer none, .int .i64 now] w fun e w' => e = .returned (.slice none 0 0) ∧ w.grownBy w' none := by
  go_enter Try.func13, Try.ntmps13
  go_wp2
  go_ret
  exact ⟨rfl, World.grownBy_alloc w _ none⟩
end Go.Proofs.Ytbnheebblicgkaa
