/- walk of (*ticks.Clock).Due -/
import Derived.Test.YtbnheebblicgkaaW30c
namespace Go.Proofs.Ytbnheebblicgkaa
set_option linter.unusedVariables false
set_option linter.unusedSimpArgs false
namespace St
variable {α β : Type} {lt : α → α → Bool} {lt' : β → β → Bool} (f : β → α)
theorem merge_map (h : ∀ x y, lt' x y = lt (f x) (f y)) : ∀ (n : Nat) (a b : List β), a.length + b.length ≤ n → (merge lt' a b).map f = merge lt (a.map f) (b.map f)
  | n, [], b, _ => by rw [merge_nil, List.map_nil, merge_nil]
  | n, x :: a, [], _ => by rw [merge_nil_right, List.map_nil, merge_nil_right]
  | 0, x :: a, y :: b, hl => by simp at hl
  | n + 1, x :: a, y :: b, hl => by
    cases hc : lt' y x with
    | true =>
      have ih := merge_map h n (x :: a) b (by simp at hl ⊢; omega)
      rw [merge_lt _ _ hc, List.map_cons, ih, List.map_cons, List.map_cons, merge_lt _ _ (by rw [← h]; exact hc)]
    | false =>
      have ih := merge_map h n a (y :: b) (by simp at hl ⊢; omega)
      rw [merge_ge _ _ hc, List.map_cons, ih, List.map_cons, List.map_cons, merge_ge _ _ (by rw [← h]; exact hc)]
theorem isort_map (h : ∀ x y, lt' x y = lt (f x) (f y)) (l : List β) : (isort lt' l).map f = isort lt (l.map f) := by
  have key : ∀ (l acc : List β), (l.foldl (fun acc x => merge lt' acc [x]) acc).map f = (l.map f).foldl (fun acc x => merge lt acc [x]) (acc.map f) := by
    intro l
    induction l with
    | nil => intro acc; rfl
    | cons x l ih =>
      intro acc
      rw [List.foldl_cons, ih, List.map_cons, List.foldl_cons, merge_map f h _ acc [x] (Nat.le_refl _)]
      rfl
  exact key l []
end St
open Go.RowKit Go.Maps Go.Shelf Go.Sort
/-- the slice v may be read: the numbers zs, in a block from B on -/
def RdI (W : World) (B : Nat) (v : Value) (zs : List Int) : Prop :=
  ∃ ao cap, v = .slice ao zs.length cap ∧ ∀ i z, zs[i]? = some z → ∃ g, ao = some ⟨g, 0, none⟩ ∧ B ≤ g ∧ W.cell? ⟨g, i, none⟩ = some (.int .i64 z)
theorem ltOf_at (L : List P30.En) (x y : Z) : ltOf (fun x y : Z => cmpI (P30.atOf L x.1) (P30.atOf L y.1)) x y = P30.ltAt L x.1 y.1 := by
  show decide ((if P30.atOf L x.1 < P30.atOf L y.1 then -1 else if P30.atOf L y.1 < P30.atOf L x.1 then 1 else 0 : Int) < 0) = decide (P30.atOf L x.1 < P30.atOf L y.1)
  by_cases h : P30.atOf L x.1 < P30.atOf L y.1
  · rw [if_pos h, decide_eq_true h]; rfl
  · rw [if_neg h, decide_eq_false h]
    split <;> rfl
/-- numbers, each with its proof -/
def toZ (l : List Int) (h : ∀ x ∈ l, (Lit.int .i64 x).wf = true) : List Z := l.pmap (fun x hx => ⟨x, hx⟩) h
theorem toZ_map (l : List Int) (h : ∀ x ∈ l, (Lit.int .i64 x).wf = true) : (toZ l h).map (·.1) = l := by
  unfold toZ
  rw [List.map_pmap]
  simp
theorem dels_unset (L : List P30.En) (ks : List Int) (k : Int) : (ks ++ [k]).foldl P30.unset L = P30.unset (ks.foldl P30.unset L) k := by rw [List.foldl_append]; rfl
theorem dels_filter : ∀ (ks : List Int) (L : List P30.En), ks.foldl P30.unset L = L.filter (fun p => !ks.contains p.1)
  | [], L => (List.filter_eq_self.2 (fun p _ => rfl)).symm
  | k :: ks, L => by
    rw [List.foldl_cons, dels_filter ks, P30.unset, List.filter_filter]
    congr 1
    funext p
    simp only [List.contains_cons, Bool.not_or]
    by_cases h : p.1 = k
    · simp [h]
    · have h2 : (p.1 == k) = false := by simpa using h
      have h3 : (p.1 != k) = true := by simpa using h
      rw [h2, h3]
      simp
theorem dels_rest {L : List P30.En} (hok : P30.Ok L) (now : Int) : ((P30.due L now).map (·.1)).foldl P30.unset L = P30.rest L now := by
  rw [dels_filter, P30.dropWhile_filter hok.sort, P30.takeWhile_filter hok.sort]
  apply List.filter_congr
  intro p hp
  congr 1
  by_cases h : p.2 ≤ now
  · rw [decide_eq_true h]
    simp only [List.contains_iff_mem, List.mem_map, List.mem_filter]
    exact ⟨p, ⟨hp, by simpa using h⟩, rfl⟩
  · rw [decide_eq_false h]
    rw [Bool.eq_false_iff]
    intro hm
    simp only [ne_eq, List.contains_iff_mem, List.mem_map, List.mem_filter] at hm
    obtain ⟨q, ⟨hq, hqn⟩, he⟩ := hm
    have a1 := P30.atOf_mem hok.nodup hp
    have a2 := P30.atOf_mem hok.nodup hq
    rw [he] at a2
    simp at hqn
    omega
theorem dels_ok {L : List P30.En} (h : P30.Ok L) : ∀ ks : List Int, P30.Ok (ks.foldl P30.unset L) := by
  intro ks
  induction ks generalizing L with
  | nil => exact h
  | cons k ks ih => exact ih (P30.unset_ok h k)
theorem below_stay {sb bm bx B : Nat} {W W' : World} (hb : Below B W W') (h1 : sb < B) (h2 : bm < B) (h3 : bx < B) : Stay sb bm bx W W' := ⟨hb.block _ h1, hb.block _ h2, hb.block _ h3⟩
theorem Stay.trans {sb bm bx : Nat} {A B C : World} (h : Stay sb bm bx A B) (k : Stay sb bm bx B C) : Stay sb bm bx A C := ⟨k.1.trans h.1, k.2.1.trans h.2.1, k.2.2.trans h.2.2⟩
theorem hb_size {W W' : World} {bx : Nat} (h : Below bx W W') (hb : W.heap.size = bx) : W.heap.size ≤ W'.heap.size := by subst hb; exact h.size
theorem below_grown {W W' : World} {bx : Nat} (h : Below bx W W') (hb : W.heap.size = bx) (row : Option Nat) : W.grownBy W' row := ⟨h.os, h.tape, h.output, hb_size h hb, fun i hi _ => h.block i (by omega)⟩
theorem map_get {oz : List Z} {zs : List Int} (h : oz.map (·.1) = zs) {j : Nat} {z : Int} (hj : zs[j]? = some z) : ∃ y : Z, oz[j]? = some y ∧ y.1 = z := by
  rw [← h, List.getElem?_map, Option.map_eq_some_iff] at hj
  exact hj
theorem ownI_frozen {W : World} {B g cap : Nat} {zs : List Int} (h : OwnI W B (.slice (some ⟨g, 0, none⟩) zs.length cap) zs) (j : Nat) : W.frozen? ⟨g, j, none⟩ = false := by
  rcases h.2 with ⟨hv, _⟩ | ⟨gb, cap', cur, hv, hbase, hgb, _⟩
  · cases hv
  · injection hv with hv _ _
    injection hv with hv
    injection hv with hv _ _
    subst hv
    simp [World.frozen?, hgb]
theorem grown_put (W : World) (g : Nat) (d : Array Z) (n : Nat) : W.grownBy ((putRow encI W g 0 d).drewN n) (some g) :=
  ⟨rfl, rfl, rfl, by show W.heap.size ≤ (W.heap.modify g _).size; rw [Array.size_modify]; exact Nat.le_refl _, fun i _ hi => heap_putRow (fun e => hi (by rw [e]))⟩
theorem below_alloc2 {B : Nat} {a w : World} (h : Below B a w) (hB : B ≤ w.heap.size) (o : Obj) : Below B a (w.alloc o) := h.grown (World.grownBy_alloc w o none) hB (fun k e => by cases e)
set_option maxRecDepth 100000 in
set_option maxHeartbeats 3200000 in
theorem Due_any (sb bm : Nat) (L : List P30.En) (now : Int) (w : World) (hc : Ck w sb bm L) (hok : P30.Ok L) (hl : L.length ≤ 1000000) :
    Calls Try.prog 13 #[.pointer (some ⟨sb, 0, none⟩), .int .i64 now] w fun e w' => ∃ v, e = .returned v ∧ RdI w' w.heap.size v ((P30.due L now).map (·.1)) ∧ Ck w' sb bm (P30.rest L now) ∧ w.grownBy w' (some bm) := by
  have l1 := cell_lt hc.cell
  have l2 := hc.map.lt
  have hne := hc.ne
  obtain ⟨bx, hbx⟩ : ∃ bx, w.heap.size = bx := ⟨_, rfl⟩
  have c0 := (one_cell (World.alloc_heap_new w (.cells #[.pointer (some ⟨sb, 0, none⟩)] 24))).1
  have hc0 := hc.kept (World.grownBy_alloc w (.cells #[.pointer (some ⟨sb, 0, none⟩)] 24) none) (by simp) (by simp)
  have c1 := hc0.cell
  have hz0 := World.size_alloc w (.cells #[.pointer (some ⟨sb, 0, none⟩)] 24)
  have hb0 : Below w.heap.size w (w.alloc (.cells #[.pointer (some ⟨sb, 0, none⟩)] 24)) := (Below.refl _ w).alloc (Nat.le_refl _) _
  rw [hbx] at c0 hz0 hb0 l1 l2
  have hsk := sortedKeys_any (w.alloc (.cells #[.pointer (some ⟨sb, 0, none⟩)] 24)) bm L hc0.map hok hl
  have HSK := hide hsk
  have HC0 := hide hc0
  have HOK := hide hok
  have HB0 := hide hb0
  have HZ0 := hide hz0
  rw [hbx]
  clear hsk hc0 hc hb0 hz0
  go_enter Try.func13, Try.ntmps13
  go_upto_region 1 with fail
  have HWX := hide hbx
  clear hbx hok
  obtain ⟨W0, hW0⟩ : ∃ W0, w.alloc (.cells #[.pointer (some ⟨sb, 0, none⟩)] 24) = W0 := ⟨_, rfl⟩
  rw [hW0] at c0 c1 HSK HC0 HB0 HZ0 ⊢
  clear hW0
  go_wp2_with (first
    | (go_at_call 21; refine (keys_any _ _).mono ?_; rintro e w1 ⟨rfl, rfl⟩)
    | (go_at_call 20; refine (unhide HSK).mono ?_; rintro e W2 ⟨v2, ss, rfl, HS1, HS2, ho2, hn2, hb2⟩; have HO2 := hide ho2; have HN2 := hide hn2; have HB2 := hide hb2; obtain ⟨ao2, m2, cap2, rfl⟩ := (show ∃ ao m cap, v2 = .slice ao m cap from (by rcases ho2.2 with ⟨hv, _⟩ | ⟨g, cap, cur, hv, _⟩; exact ⟨_, _, _, hv⟩; exact ⟨_, _, _, hv⟩)); clear ho2 hn2 hb2))
  have hm2 : m2 = ss.length := by
    rcases (unhide HO2).2 with ⟨hv, h0⟩ | ⟨g, cap, cur, hv, _⟩
    · injection hv with _ h3; omega
    · injection hv
  have hssl : ss.length = L.length := by rw [(unhide HS2).length_eq, List.length_map]
  obtain ⟨n, hn⟩ : ∃ n, ss.length = n := ⟨_, rfl⟩
  rw [hn] at hm2 hssl
  obtain rfl : n = m2 := hm2.symm
  obtain ⟨B, hB⟩ : ∃ B, W2.heap.size = B := ⟨_, rfl⟩
  have hz0 := unhide HZ0
  have hst0 : Stay sb bm bx W0 W2 := Stay.trans (B := W0.alloc (.cells #[.map (some bm)] 48))
    ⟨Below.heap_alloc _ _ _ (by omega), Below.heap_alloc _ _ _ (by omega), Below.heap_alloc _ _ _ (by omega)⟩ (below_stay (unhide HB2) (by omega) (by omega) (by omega))
  have hbz := (unhide HB2).size
  rw [World.size_alloc, hB, hz0] at hbz
  have hbw2 : Below bx w W2 := (unhide HB0).trans (((Below.refl _ W0).alloc (Nat.le_refl _) (.cells #[.map (some bm)] 48) |>.mono (by omega)).trans ((unhide HB2).mono (by omega)))
  have hck2 := (unhide HC0).stay hst0
  have hbx2 := (cell_same (o := 0) hst0.2.2).trans c0
  have HCK := hide hck2
  have HBX := hide hbx2
  have HBW := hide hbw2
  have HN := hide hn
  have hnl : n ≤ 1000000 := by omega
  have HSSL := hide hssl
  clear hst0 hz0 hck2 hbx2 hbw2 HB0 HB2 HC0 HZ0 HSK c0 c1 hm2 hn hssl
  have hwf : ∀ x ∈ ss, (Lit.int .i64 x).wf = true := fun x hx => keys_wf (unhide HCK).map (unhide HOK) x ((unhide HS2).subset hx)
  have HWF := hide hwf
  clear hwf
  have HBB := hide hB
  clear hB
  go_loopg [5, 19] n (fun g s5 s19 wx => ∃ (i : Nat) (v : Value), i + g = n ∧ s19 = .int .i64 (i : Int) ∧ s5 = v ∧ Hid (OwnI wx B v ((ss.take i).filter (fun k => decide (P30.atOf L k ≤ now)))) ∧ Hid ((ss.take i).filter (fun k => decide (P30.atOf L k ≤ now)) = [] → v = .slice none 0 0) ∧ Below B W2 wx)
  case atStart => exact ⟨0, _, by omega, by go_num, rfl, hide (World.ownsRow_nil _ _ _ _), hide (fun _ => rfl), Below.refl _ _⟩
  case round =>
    obtain ⟨i, v, hig, rfl, rfl, HO, HNL, hbx3⟩ := hrel
    have hst : Stay sb bm bx W2 wr := below_stay hbx3 (by omega) (by omega) (by omega)
    have hck := (unhide HCK).stay hst
    have c0 := (cell_same (o := 0) hst.2.2).trans (unhide HBX)
    have c1 := hck.cell
    cases gk with
    | zero =>
      have e1 : (n : Int) = (i : Int) := by omega
      have hta : ss.take i = ss := List.take_of_length_le (by rw [unhide HN]; omega)
      rw [hta] at HO HNL
      clear hta
      have hsrt := P30.due_sorted (unhide HOK) now ss (unhide HS2) (unhide HS1)
      have hwfo : ∀ x ∈ ss.filter (fun k => decide (P30.atOf L k ≤ now)), (Lit.int .i64 x).wf = true := fun x hx => unhide HWF x (List.mem_filter.1 hx).1
      have hfl : (ss.filter (fun k => decide (P30.atOf L k ≤ now))).length ≤ n := by
        refine Nat.le_trans (List.length_filter_le _ _) ?_
        rw [unhide HN]; omega
      obtain ⟨zs, hzs⟩ : ∃ zs, ss.filter (fun k => decide (P30.atOf L k ≤ now)) = zs := ⟨_, rfl⟩
      rw [hzs] at HO HNL hsrt hwfo hfl
      have hdl := dels_rest (unhide HOK) now
      obtain ⟨ds, hds⟩ : ∃ ds, (P30.due L now).map (·.1) = ds := ⟨_, rfl⟩
      rw [hds] at hsrt hdl
      have HDS := hide hds
      have hwd : ∀ x ∈ ds, (Lit.int .i64 x).wf = true := by
        intro x hx
        rw [← hsrt] at hx
        exact hwfo x ((St.isort_perm _).subset hx)
      have HSRT := hide hsrt
      have HDL := hide hdl
      have HWD := hide hwd
      have hBw : B ≤ wr.heap.size := by have := hbx3.size; rw [unhide HBB] at this; exact this
      have hbwr : Below bx w wr := (unhide HBW).trans (hbx3.mono (by omega))
      have HBWR := hide hbwr
      have HCK3 := hide hck
      clear hzs hds hsrt hdl hwd hbwr hst HS1 HS2 HN HN2 HO2 HBW HCK HBX
      rcases Nat.eq_zero_or_pos zs.length with hz0 | hzp
      · have hz := List.eq_nil_of_length_eq_zero hz0
        subst hz
        have hu := unhide HNL rfl
        subst hu
        have hd0 : ds = [] := by rw [← unhide HSRT]; rfl
        subst hd0
        clear hz0 HO HNL hfl hwfo
        go_wp2_with (go_at_call 22; refine (SortStable_nil _ _).mono ?_; rintro e w3 ⟨rfl, rfl⟩)
        refine wp_loop_rounds 1 ?_
        rw [rounds_succ]
        go_wp2
        go_ret
        refine ⟨_, rfl, ?_, ?_, ?_⟩
        · rw [unhide HDS]; exact ⟨_, _, rfl, fun i z h => by simp at h⟩
        · rw [← unhide HDL]; exact unhide HCK3
        · exact below_grown (unhide HBWR) (unhide HWX) _
      · obtain ⟨g0, cap0, hv0, hg1, hg2, hcell⟩ := (unhide HO).block hzp
        subst hv0
        obtain ⟨N, hN⟩ : ∃ N, zs.length = N := ⟨_, rfl⟩
        obtain ⟨oz, hoz⟩ : ∃ oz : List Z, oz.map (·.1) = zs := ⟨_, toZ_map zs hwfo⟩
        have hozl : oz.length = zs.length := by rw [← hoz, List.length_map]
        have hHo : Holds encI wr g0 0 oz.toArray := by
          intro j hj
          have hj2 : j < zs.length := by simp at hj; omega
          obtain ⟨y, hy1, hy2⟩ := map_get hoz (List.getElem?_eq_getElem hj2)
          have e : oz.toArray[j]! = y := St.get_list _ _ _ hy1
          rw [Nat.zero_add, e]
          exact ⟨by show _ = some (Value.int .i64 y.1); rw [hy2]; exact hcell j _ (List.getElem?_eq_getElem hj2), ownI_frozen (unhide HO) j⟩
        have hdN : oz.toArray.size = N := by simp; omega
        have hNn : N ≤ n := by omega
        have hsb : sb ≠ g0 := by omega
        have hbm : bm ≠ g0 := by omega
        have hbxg : bx ≠ g0 := by omega
        have hss := SortStable_any _ (wo_cmp L) 23 #[.pointer (some ⟨bx, 0, none⟩)] wr g0 0 cap0 N oz.toArray hHo hdN (by omega) (enters_of Try.func23 (by kernel_rfl) rfl) (cmp_ok sb bm bx g0 N L wr hck c0 hsb hbm hbxg) (cmp_reads sb bm bx g0 N L wr hck c0 hsb hbm hbxg (by omega))
        have himap : (St.isort (ltOf (fun x y : Z => cmpI (P30.atOf L x.1) (P30.atOf L y.1))) oz).map (·.1) = ds := by
          rw [St.isort_map (lt := P30.ltAt L) (fun z : Z => z.1) (fun x y => ltOf_at L x y), hoz]
          exact unhide HSRT
        have HIM := hide himap
        have HSS := hide hss
        have HHO := hide hHo
        have HDN := hide hdN
        rw [hN]
        have HC0b := hide c0
        clear himap hss hHo hdN hcell HO HNL hwfo hfl hN hzp e1 hck hoz hozl
        go_wp2_with (go_at_call 22; refine (unhide HSS).mono ?_; rintro e W4 ⟨rfl, n4, d4, k1, k2, k3⟩; have K1 := hide k1; have K2 := hide k2; have K3 := hide k3; clear k1 k2 k3)
        have hds : d4.toList.map (·.1) = ds := by rw [unhide K2]; exact unhide HIM
        have hdlen : ds.length = N := by rw [← hds, List.length_map, Array.length_toList]; exact unhide K1
        have hgp : wr.grownBy W4 (some g0) := by rw [unhide K3]; exact grown_put wr g0 d4 n4
        have hck4 : Ck W4 sb bm L := (unhide HCK3).kept hgp (by simpa using hsb) (by simpa using hbm)
        have c04 := cell_kept hgp (unhide HC0b) (by simpa using hbxg)
        have hcell4 : ∀ i z, ds[i]? = some z → W4.cell? ⟨g0, i, none⟩ = some (.int .i64 z) := by
          intro i z hi
          rw [← hds, List.getElem?_map, Option.map_eq_some_iff] at hi
          obtain ⟨y, hy, hyz⟩ := hi
          have e : d4[i]! = y := St.get_list d4 _ _ hy
          have hlt : i < d4.size := by rw [← Array.length_toList]; exact (List.getElem?_eq_some_iff.1 hy).1
          have hp := (holds_putRow encI wr g0 0 _ d4 (unhide HHO) (by rw [unhide K1, unhide HDN]) i hlt).1
          rw [Nat.zero_add, e] at hp
          have e2 : encI y = .int .i64 z := by show Value.int .i64 y.1 = _; rw [hyz]
          rw [e2] at hp
          rw [unhide K3]
          exact hp
        have HCL4 := hide hcell4
        have HCK4 := hide hck4
        have HC04 := hide c04
        have HGP := hide hgp
        have HLEN := hide hdlen
        clear hds hdlen hgp hck4 c04 hcell4 K1 K2 K3 HIM HSS HHO HDN HC0b HCK3 c0 c1
        go_loopg [9, 41] N (fun g s9 s41 wx => ∃ (i : Nat) (v9 : Value), i + g = N ∧ s41 = .int .i64 (i : Int) ∧ s9 = v9 ∧ Hid (Ck wx sb bm ((ds.take i).foldl P30.unset L)) ∧ Hid (W4.grownBy wx (some bm)))
        case atStart => exact ⟨0, _, by omega, by go_num, rfl, HCK4, hide (by obtain ⟨n, D, h, _⟩ := (unhide HCK4).map; exact h.turned_refl.grown)⟩
        case round =>
          obtain ⟨i, v9, hig, rfl, rfl, HCKi, HGi⟩ := hrel
          have c0 := cell_kept (unhide HGi) (unhide HC04) (by simp; omega)
          have c1 := (unhide HCKi).cell
          cases gk with
          | zero =>
            have e1 : (N : Int) = (i : Int) := by omega
            have hta : ds.take i = ds := List.take_of_length_le (by rw [unhide HLEN]; omega)
            rw [hta] at HCKi
            clear hta
            go_wp2
            go_ret
            refine ⟨_, rfl, ?_, ?_, ?_⟩
            · rw [unhide HDS]
              refine ⟨_, _, by rw [unhide HLEN]; rfl, fun j z hj => ⟨g0, rfl, by omega, cell_kept (unhide HGi) (unhide HCL4 j z hj) (by simp; omega)⟩⟩
            · rw [← unhide HDL]; exact unhide HCKi
            · have a1 := unhide HBWR
              have a2 := unhide HGP
              have a3 := unhide HGi
              have a4 := unhide HWX
              refine ⟨a3.os.trans (a2.os.trans a1.os), a3.tape.trans (a2.tape.trans a1.tape), a3.output.trans (a2.output.trans a1.output), Nat.le_trans (hb_size a1 a4) (Nat.le_trans a2.size a3.size), fun k hk hkr => ?_⟩
              have hkg : k ≠ g0 := by omega
              exact (a3.block k (by have := hb_size a1 a4; have := a2.size; omega) hkr).trans ((a2.block k (by have := hb_size a1 a4; omega) (by simpa using hkg)).trans (a1.block k (by omega)))
          | succ g' =>
            have hlt : (i : Int) < (N : Int) := by omega
            have hki : IntKind.i64.wrap ((i : Int) + 1) = (i : Int) + 1 := IntWalk.i64_in _ (by omega)
            have hil : i < ds.length := by rw [unhide HLEN]; omega
            have hgl : ds[i]? = some ds[i] := List.getElem?_eq_getElem hil
            have hzw := unhide HWD _ (List.getElem_mem hil)
            have htk : ds.take (i + 1) = ds.take i ++ [ds[i]] := List.take_succ_eq_append_getElem hil
            generalize ds[i] = z at hgl hzw htk
            have hcz := cell_kept (unhide HGi) (unhide HCL4 i z hgl) (by simp; omega)
            have hokd := dels_ok (unhide HOK) (ds.take i)
            have hnx := dels_unset L (ds.take i) z
            rw [← htk] at hnx
            obtain ⟨nD, D, hown, hrep⟩ := (unhide HCKi).map
            have HR := hide (rep_unset hrep hokd (hown.tidy keyI) z)
            have hkey := keyOf_int_mk Try.underlying3 hzw
            have HNX := hide hnx
            clear hgl htk hnx hrep hokd
            go_wp2_with (at_delete; refine wpList_delete_own _ rfl _ _ 48 3 rfl 2 keyI Try.underlying48 _ bm nD D rfl hown _ _ rfl hkey ?_; intro w2 hown2 hturn2)
            go_roundg g'
            case measure => omega
            case rel => exact ⟨i + 1, _, by omega, by go_num, rfl, hide ⟨cell_kept hturn2.grown c1 (by simpa using hne), nD, _, hown2, by rw [unhide HNX]; exact unhide HR⟩, hide ((unhide HGi).trans hturn2.grown)⟩
    | succ g' =>
      have hlt : (i : Int) < (n : Int) := by omega
      have hki : IntKind.i64.wrap ((i : Int) + 1) = (i : Int) + 1 := IntWalk.i64_in _ (by omega)
      have hil : i < ss.length := by rw [unhide HN]; omega
      have hzw := unhide HWF _ (List.getElem_mem hil)
      have htk : ss.take (i + 1) = ss.take i ++ [ss[i]] := List.take_succ_eq_append_getElem hil
      have hgl : ss[i]? = some ss[i] := List.getElem?_eq_getElem hil
      generalize ss[i] = z at hzw htk hgl
      obtain ⟨g0, cap0, hv0, hg1, hg2, hcell⟩ := (unhide HO2).block (by omega)
      have hcz := hcell i z hgl
      rw [unhide HBB] at hg2
      have hcz2 := (cell_same (o := i) (hbx3.block g0 hg2)).trans hcz
      injection hv0 with hv0a hv0b hv0c
      clear hv0b
      subst hv0a
      subst hv0c
      have hrun := look_run hck hzw
      have hBw : B ≤ wr.heap.size := by have := hbx3.size; rw [unhide HBB] at this; exact this
      have hfl : ((ss.take i).filter (fun k => decide (P30.atOf L k ≤ now))).length ≤ i := by
        refine Nat.le_trans (List.length_filter_le _ _) ?_
        rw [List.length_take]; omega
      by_cases hd : P30.atOf L z ≤ now
      · have hf : (ss.take (i + 1)).filter (fun k => decide (P30.atOf L k ≤ now)) = (ss.take i).filter (fun k => decide (P30.atOf L k ≤ now)) ++ [z] := by
          rw [htk, List.filter_append, List.filter_cons_of_pos (by simpa using hd), List.filter_nil]
        have HF := hide hf
        obtain ⟨zs, hzs⟩ : ∃ zs, (ss.take i).filter (fun k => decide (P30.atOf L k ≤ now)) = zs := ⟨_, rfl⟩
        rw [hzs] at HO HF hfl
        obtain ⟨aa, haa⟩ : ∃ a, P30.atOf L z = a := ⟨_, rfl⟩
        rw [haa] at hrun hd
        have hOX : Hid (OwnI (wr.alloc (.cells #[.int .i64 z] 3)) B u5 zs) := hide (World.ownsRow.alloc (unhide HO) _)
        have hNX := hide (one_cell (World.alloc_heap_new wr (.cells #[.int .i64 z] 3))).1
        have hbe := below_alloc2 hbx3 hBw (.cells #[.int .i64 z] 3)
        have hzl : zs.length + 1 ≤ 10000000 := by omega
        have hBX : B ≤ (wr.alloc (.cells #[.int .i64 z] 3)).heap.size := by rw [World.size_alloc]; omega
        clear hf hzs haa htk hgl hcz hck hst hcell HNL
        go_wp2_with (at_builtin; refine wpList_appInt1 rfl _ _ rfl rfl (unhide hOX) wr.heap.size 1 rfl (unhide hNX) hzl hBX ?_; intro g2 cap2 w2 hown2 hgrow2)
        have hb3 := hbe.grown hgrow2 hBX (fun k e => (World.ownsRow.lt (unhide HO) k e).1)
        go_roundg g'
        case measure => omega
        case rel => exact ⟨i + 1, _, by omega, by go_num, rfl, hide (by rw [unhide HF]; exact hown2), hide (fun h => by rw [unhide HF] at h; simp at h), hb3⟩
      · have hf : (ss.take (i + 1)).filter (fun k => decide (P30.atOf L k ≤ now)) = (ss.take i).filter (fun k => decide (P30.atOf L k ≤ now)) := by
          rw [htk, List.filter_append, List.filter_cons_of_neg (by simpa using hd), List.filter_nil, List.append_nil]
        have HF := hide hf
        have hd2 : now < P30.atOf L z := by omega
        obtain ⟨aa, haa⟩ : ∃ a, P30.atOf L z = a := ⟨_, rfl⟩
        rw [haa] at hrun hd2
        clear hf hd haa htk hgl hcz hck hst hcell
        go_wp2
        go_roundg g'
        case measure => omega
        case rel => exact ⟨i + 1, _, by omega, by go_num, rfl, hide (by rw [unhide HF]; exact unhide HO), hide (by rw [unhide HF]; exact unhide HNL), hbx3⟩
end Go.Proofs.Ytbnheebblicgkaa
