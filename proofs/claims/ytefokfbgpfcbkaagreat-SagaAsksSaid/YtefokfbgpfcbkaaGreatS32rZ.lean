/- Lemmas of this claim (a part of its texts, kept as far as the claim reaches them). -/
import Derived.Test.YtefokfbgpfcbkaaGreatS32qZ
import Derived.Test.YtefokfbgpfcbkaaGreatS32pZ
namespace Go.Proofs.YtefokfbgpfcbkaaGreat
set_option linter.unusedVariables false
set_option linter.unusedSimpArgs false
open Go.RowKit
attribute [local go_sem] run_store_func Oper.semAt_some
open P32 (waysL waysL_len waysL_get waysL_of)
def openX (s : P32.S) (N j : Nat) : List P32.Order := ((waysL N).take j).flatMap fun p => P32.openU s p.1 p.2
theorem openX_next {s : P32.S} {N j : Nat} {p : Nat × Bool} (h : (waysL N)[j]? = some p) : openX s N (j + 1) = openX s N j ++ P32.openU s p.1 p.2 := by
  unfold openX
  rw [List.take_add_one, h, List.flatMap_append]
  simp
theorem openX_len (s : P32.S) (N : Nat) : ∀ j, (openX s N j).length ≤ j
  | 0 => by simp [openX]
  | j + 1 => by
    have ih := openX_len s N j
    cases h : (waysL N)[j]? with
    | none =>
      have : openX s N (j + 1) = openX s N j := by unfold openX; rw [List.take_add_one, h]; simp
      rw [this]; omega
    | some p =>
      rw [openX_next h, List.length_append]
      have : (P32.openU s p.1 p.2).length ≤ 1 := by unfold P32.openU; split <;> simp
      omega
theorem openU_step {s : P32.S} {i : Nat} {u : Bool} : ∀ o ∈ P32.openU s i u, o.step = i ∧ o.undo = u := by
  unfold P32.openU
  split
  · intro o ho; simp at ho; subst ho; exact ⟨rfl, rfl⟩
  · intro o ho; simp at ho
theorem sorted_flat {f : Nat → List P32.Order} (h1 : ∀ i, ∀ o ∈ f i, o.step = i) (h2 : ∀ i, (f i).length ≤ 1) : ∀ n, SortedO ((List.range n).flatMap f)
  | 0 => fun i j o p _ ho _ => by simp at ho
  | n + 1 => by
    rw [List.range_succ, List.flatMap_append]
    have ih := sorted_flat h1 h2 n
    have hlt : ∀ o ∈ (List.range n).flatMap f, o.step < n := fun o ho => by
      obtain ⟨k, hk, hok⟩ := List.mem_flatMap.1 ho
      rw [h1 k o hok]
      exact List.mem_range.1 hk
    obtain ⟨l, hl⟩ : ∃ l, (List.range n).flatMap f = l := ⟨_, rfl⟩
    rw [hl] at ih hlt ⊢
    have ht : ([n].flatMap f) = f n := by simp
    rw [ht]
    intro i j o p hij ho hp
    by_cases hi : i < l.length
    · rw [List.getElem?_append_left hi] at ho
      by_cases hj : j < l.length
      · rw [List.getElem?_append_left hj] at hp
        exact ih i j o p hij ho hp
      · rw [List.getElem?_append_right (by omega)] at hp
        rw [h1 n p (List.mem_of_getElem? hp)]
        exact hlt o (List.mem_of_getElem? ho)
    · rw [List.getElem?_append_right (by omega)] at ho hp
      have := h2 n
      have a1 := (List.getElem?_eq_some_iff.1 ho).1
      have a2 := (List.getElem?_eq_some_iff.1 hp).1
      omega
theorem open_ways {d : P22.Def} {s : P32.S} (h : P32.Inv d s) : openX s d.steps.length (waysL d.steps.length).length = P32.open_ d s ∧ SortedO (P32.open_ d s) := by
  have e1 : openX s d.steps.length (waysL d.steps.length).length = (List.range d.steps.length).flatMap (fun i => P32.openU s i false) ++ (List.range d.steps.length).flatMap (fun i => P32.openU s i true) := by
    unfold openX waysL
    rw [List.take_of_length_le (Nat.le_refl _), List.flatMap_append, List.flatMap_map, List.flatMap_map]
  have hU : ∀ i u, (P32.openU s i u).length ≤ 1 := fun i u => by unfold P32.openU; split <;> simp
  rw [e1]
  by_cases hc : ∃ i, (s.run i true).phase = 1
  · obtain ⟨i, hi⟩ := hc
    have hf : ∀ k, P32.openU s k false = [] := fun k => by
      unfold P32.openU
      rw [if_neg (h.tru i (by omega) k)]
    have e2 : P32.open_ d s = (List.range d.steps.length).flatMap (fun i => P32.openU s i true) := by
      unfold P32.open_
      simp only [hf, List.nil_append]
    rw [e2]
    refine ⟨by simp [hf], sorted_flat (fun k o ho => (openU_step o ho).1) (fun k => hU k true) _⟩
  · have hf : ∀ k, P32.openU s k true = [] := fun k => by
      unfold P32.openU
      rw [if_neg (fun e => hc ⟨k, e⟩)]
    have e2 : P32.open_ d s = (List.range d.steps.length).flatMap (fun i => P32.openU s i false) := by
      unfold P32.open_
      simp only [hf, List.append_nil]
    rw [e2]
    refine ⟨by simp [hf], sorted_flat (fun k o ho => (openU_step o ho).1) (fun k => hU k false) _⟩
theorem wpListIn_appO {F : Fence} {nF : Nat} {w : World} {B : Nat} {v : Value} {l : List P32.Order} {j : P32.Order} {ops : Array Oper} {rest : List Oper} {o : Oper} {a : Act} {Q : Exit → Act → World → Prop} (hgd : o.guard = none) (s x : Operand)
    (ho : o.op = .call { callee := .builtin .append, args := #[s, x], argTypes := #[105, 105] })
    (hs : a.eval s = v) (hown : OwnO w B v l) (g cap : Nat) (hx : a.eval x = .slice (some ⟨g, 0, none⟩) 1 cap) (hnew : w.heap[g]? = some (.cells #[.int .i64 (j.step : Int), .int .i64 j.att, .bool j.undo, .int .i64 j.til] 35))
    (m : Nat) (hm : l.length = m) (hlen : m + 1 ≤ 1000000000) (hB : B ≤ w.heap.size)
    (h : ∀ g' cap' w', OwnO w' B (.slice (some ⟨g', 0, none⟩) (m + 1) cap') (l ++ [j]) → w.grownBy w' v.ownBlock → (some g' = v.ownBlock ∨ some g' = some w.heap.size) → wpListIn F nF Tryz.prog ops Q rest (a.put o.dst (.slice (some ⟨g', 0, none⟩) (m + 1) cap')) w') :
    wpListIn F nF Tryz.prog ops Q (o :: rest) a w := by
  refine wpListIn_plain hgd fun K hK => ?_
  obtain ⟨g', cap', w', hr, h2, h3, h4⟩ := run_appO o.type hown g cap hnew m hm hlen hB
  unfold Oper.wpIn
  refine ⟨by simp [Oper.about, ho, resolve, Target.leads, Sem.run_pure], ?_⟩
  rw [Oper.semAt_plain F _ _ (by rw [ho]; intro c hc'; cases hc')]
  simp [execOp, ho, resolve, invoke, builtin, hs, hx, hr, Result.andThen]
  exact hK _ _ (h g' cap' w' h2 h3 h4)
theorem BxPh.start1 (U : World) (RA : P31.Run) : BxPh U RA 1 false undef U := ⟨Below.refl _ _, fun h => by cases h⟩
def OpR (H : Nat) (r : Nat) : Prop := r ≤ H ∨ r = H + 1 + 1
structure OpI (w : World) (b H : Nat) (os : List P32.Order) (M : Nat → Prop) (V : World) : Prop where
  bel : Below H w V
  bS : V.heap[H]? = some (.cells #[.pointer (some ⟨b, 0, none⟩)] 96)
  ex : ∃ v, V.heap[H + 1]? = some (.cells #[v] 105) ∧ OwnO V (H + 1 + 1 + 1) v os ∧ ∀ r, M r ↔ r = H + 1 ∨ v.ownBlock = some r
  sz : H + 1 + 1 + 1 ≤ V.heap.size
namespace OpI
variable {w V V' : World} {b H : Nat} {os : List P32.Order} {M : Nat → Prop}
theorem lt (h : OpI w b H os M V) {r : Nat} (hr : M r) : r < V.heap.size ∧ ¬ OpR H r := by
  obtain ⟨v, k1, k2, hm⟩ := h.ex
  have hz := h.sz
  rcases (hm r).1 hr with rfl | e
  · exact ⟨by omega, fun q => by rcases q with q | q <;> omega⟩
  · have := k2.lt e
    exact ⟨this.2, fun q => by rcases q with q | q <;> omega⟩
theorem abides {row : Option Nat} (h : OpI w b H os M V) (hg : V.grownBy V' row) (hr : ∀ r, row = some r → ¬ M r ∧ ¬ OpR H r) : OpI w b H os M V' := by
  obtain ⟨v, k1, k2, hm⟩ := h.ex
  have hz := h.sz
  refine ⟨h.bel.grown hg (by omega) (fun k e => ?_), (hg.block H (by omega) (fun e => (hr H e.symm).2 (.inl (Nat.le_refl _)))).trans h.bS, ⟨v, (hg.block (H + 1) (by omega) (fun e => (hr _ e.symm).1 ((hm _).2 (.inl rfl)))).trans k1, k2.keep (fun g e => hg.block g (k2.lt e).2 (fun q => (hr g q.symm).1 ((hm g).2 (.inr e)))), hm⟩, Nat.le_trans hz hg.size⟩
  have := (hr k e).2
  exact Nat.le_of_lt (Nat.lt_of_not_le (fun q => this (.inl q)))
theorem below (h : OpI w b H os M V) (hb : Below V.heap.size V V') : OpI w b H os M V' := h.abides (grown_of_below hb none) (fun r e => by cases e)
end OpI
set_option maxRecDepth 100000 in
set_option maxHeartbeats 4000000 in
theorem Open_any {b bm rb C : Nat} {vs : Nat → Value} {d : PDef} {dn un : Value} {s : P32.S} (w : World) (h : Sg w b bm rb C vs d dn un s) (hi : P32.Inv d.bare s) :
    Calls Tryz.prog 56 #[.pointer (some ⟨b, 0, none⟩)] w fun e w' => ∃ a c, e = .returned (.slice a (P32.open_ d.bare s).length c) ∧ (P32.open_ d.bare s).length ≤ c ∧ InOr w' a (P32.open_ d.bare s) ∧ Below w.heap.size w w' := by
  obtain ⟨H, hH⟩ : ∃ H, w.heap.size = H := ⟨_, rfl⟩
  rw [hH]
  obtain ⟨W1, hW1, hb1, g0, hz1⟩ := new1 w (.cells #[.pointer (some ⟨b, 0, none⟩)] 96) H hH
  obtain ⟨W2, hW2, hb2, g1, hz2⟩ := new1 W1 (.cells #[.slice none 0 0] 105) (H + 1) hz1
  obtain ⟨W3, hW3, hb3, g2, hz3⟩ := new1 W2 (.cells #[.pointer (some ⟨b, 0, none⟩)] 96) (H + 1 + 1) hz2
  have s1 := h.below (by rw [hH]; exact hb1)
  have hmd := made_any b bm W1 s1.cells.2.2.1.1
  have hwy := ways_any b W2
  rw [hz2, hW3] at hwy
  have h02 := (hb2.block H (by omega)).trans g0
  have hop := open_ways hi
  rw [Md.blen] at hop
  obtain ⟨RES, hRES⟩ : ∃ R, P32.open_ d.bare s = R := ⟨_, rfl⟩
  rw [hRES] at hop ⊢
  have hN9 := h.nle
  have hbH : b < H := by rw [← hH]; exact h.lt (.inl (.inl rfl))
  have hoi : OpI w b H (openX s d.steps.length 0) (fun r => r = H + 1) W3 := ⟨hb1.trans ((hb2.mono (by omega)).trans (hb3.mono (by omega))), (hb3.block H (by omega)).trans h02, ⟨_, (hb3.block _ (by omega)).trans g1, OwnO.nil _ _, fun r => ⟨.inl, fun q => q.elim id (fun e => by cases e)⟩⟩, by omega⟩
  have hit := fun V (hgr : W3.grownBy V none) => waysIter_seq (40 - 1) b (H + 1 + 1) d.steps.length d.sc d.sa (OpR H) (fun _ => False) V ((hgr.block _ (by omega) (by simp)).trans g2) (.inr rfl) (fun r hr => by
    have := hgr.size
    rcases hr with q | q <;> omega) hN9
  obtain ⟨x0, _⟩ := cell1 g0
  obtain ⟨z0, _⟩ := cell1 h02
  have HMD := hide hmd
  have HWY := hide hwy
  have HOP := hide hop
  have HOI := hide hoi
  have HIT := hide hit
  have H0 := hide h
  have HW1 := hide hW1
  have HW2 := hide hW2
  clear hW1 hW2 hW3 hb1 hb2 hb3 g0 g1 g2 h02 hmd hwy hop hoi hit h hi s1 hRES
  refine (callsIn_wide (n := 40)).1 ?_
  refine callsIn_of_wp_marks Tryz.func56 rfl trivial ?_ rfl
  simp only [Tryz.ntmps56, List.size_toArray, List.length_cons, List.length_nil, Nat.reduceAdd, Nat.reduceSub, Array.replicate_succ, Array.replicate_zero, List.push_toArray, List.append_toArray, List.nil_append, List.cons_append]
  refine wpIn_wide.2 ?_
  go_upto_region 1 with fail
  try rw [hH]
  rw [unhide HW1]
  go_upto_region 4 with (go_at_call 96; refine (unhide HMD).mono ?_; rintro e w' ⟨rfl, hw⟩; have hw := hw.symm; subst hw)
  try rw [hz1]
  rw [unhide HW2]
  go_wp2_with (go_at_call 97; refine (unhide HWY).mono ?_; rintro e w' ⟨rfl, hw⟩; have hw := hw.symm; subst hw)
  refine (wpIn_wide (n := 40)).1 ?_
  generalize hA : ({ tmps := _, defers := _ } : Act) = A
  refine wpIn_rangeFunc_X rfl (by omega) (gf := 139) (lb := #[.pointer (some ⟨H + 1 + 1, 0, none⟩)]) (by rw [← hA]; rfl) trivial (enters_of Tryz.func139 (by kernel_rfl) rfl)
    (encs := encW) (waysL d.steps.length) (fun _ V => V.cell? ⟨b, 2, none⟩ = some (.slice d.sa d.steps.length d.sc)) (OpR H) (fun _ => False) (fun r hr => by rcases hr with q | q <;> omega)
    (fun V hgr _ => unhide HIT V hgr) (fun _ => rfl)
    (fun j M V => OpI w b H (openX s d.steps.length j) M V) (fun _ _ _ _ => False)
    (fun j M V V' row hi hg hr => hi.abides hg hr) (fun c j M V V' row hi hg hr => hi) (fun j M V hi r hr => hi.lt hr)
    (fun r => r = H + 1) (fun r hr => hr.elim) (unhide HOI)
    (fun j p M' a' V => ∃ M q, (M' = fun r => M r ∨ r = q) ∧ OpI w b H (openX s d.steps.length j) M V ∧ ¬ M q ∧ ¬ OpR H q ∧ V.heap[q]? = some (.cells #[.int .i64 (p.1 : Int), .bool p.2] 157) ∧ a' = (A.put (some 11) (.agg #[.int .i64 (p.1 : Int), .bool p.2])).put (some 4) (.pointer (some ⟨q, 0, none⟩)))
    ?hB ?assign ?body (fun j M V hi => ((unhide H0).below (by rw [hH]; exact hi.bel)).cells.1.1) ?done ?stop
  case hB =>
    rintro j p M' a' V V' row ⟨M, q, rfl, hi, hMq, hRq, gq, rfl⟩ hg hr
    exact ⟨M, q, rfl, hi.abides hg (fun r e => ⟨fun h => (hr r e).1 (.inl h), (hr r e).2⟩), hMq, hRq, (hg.block q (Array.getElem?_eq_some_iff.1 gq).1 (fun e => (hr q e.symm).1 (.inr rfl))).trans gq, rfl⟩
  case assign =>
    rintro l2 j ⟨i, u⟩ M V K hx hi hV hK
    subst hA
    unfold encW
    obtain ⟨q, hq⟩ : ∃ q, V.heap.size = q := ⟨_, rfl⟩
    obtain ⟨V1, hV1, hbv, gq, hzq⟩ := new1 V (.cells #[.int .i64 (i : Int), .bool u] 157) q hq
    have hMq : ¬ M q := fun h => by have := (hi.lt h).1; omega
    have hsz := hi.sz
    have hKK := hK (fun r => M r ∨ r = q) _ V1 (by rw [← hV1]; exact World.grownBy_alloc _ _ none) (fun r hr => hr.imp id (fun e => by omega)) ⟨M, q, rfl, hi.below (by rw [hq]; exact hbv), hMq, fun h => by rcases h with q1 | q1 <;> omega, gq, rfl⟩
    have HK := hide hKK
    have HV1 := hide hV1
    clear hKK hK hV1 hbv gq
    gi_wp2
    try rw [hq]
    rw [unhide HV1]
    exact unhide HK
  case stop =>
    rintro D c j M V rfl hMD hj hi hK
    exact hi.elim
  case done =>
    rintro D M V rfl hMD hi hK
    subst hA
    obtain ⟨hop, hso⟩ := unhide HOP
    rw [hop] at hi
    have hlenR : RES.length ≤ 1000000 := by rw [← hop]; have := openX_len s d.steps.length (waysL d.steps.length).length; rw [waysL_len] at this ⊢; omega
    obtain ⟨v, k1, k2, hm⟩ := hi.ex
    obtain ⟨va, vc, hve, hvc, hin⟩ := k2.slice
    subst hve
    obtain ⟨o0, _⟩ := cell1 k1
    have hga : ∀ g q, va = some ⟨g, q, none⟩ → M g := fun g q e => (hm g).2 (.inr (by rw [e]; rfl))
    have HGA := hide hga
    have HMD := hide hMD
    have hst := sortO va vc RES.length RES V hin hso rfl hlenR
    obtain ⟨R, hR⟩ : ∃ R, RES.length = R := ⟨_, rfl⟩
    rw [hR] at o0 hst hvc
    have hsz := hi.sz
    have HST := hide hst
    have HI2 := hide hi
    have HIN := hide hin
    have HK1 := hide k1
    have HDF := hide hK
    have HR := hide hR
    have hbox : ∀ V', Below V.heap.size V V' → V'.cell? ⟨H + 1, 0, none⟩ = some (.slice va R vc) := fun V' hV' => (cell_of_block (hV'.block (H + 1) (by omega)) 0).trans o0
    have HBX := hide hbox
    clear hop hso hi k1 k2 hm hin hst hK hR hbox hga hMD
    go_wp2_with (go_at_call 98; refine (unhide HST).mono ?_; rintro q w4 ⟨rfl, b4⟩; have o4 := unhide HBX w4 b4; have HB4 := hide b4; clear b4)
    have hb4 := unhide HB4
    have hdf := unhide HDF
    have hd4 := (hb4.block _ (Array.getElem?_eq_some_iff.1 hdf).1).trans hdf
    have hD : W3.heap.size = H + 1 + 1 + 1 := hz3
    rw [hD] at hd4
    refine ⟨by simp, .inl ⟨_, _, rfl, run_takeDeferred hd4, _, results_tmp rfl _ _ _, va, vc, by rw [unhide HR]; rfl, by rw [unhide HR]; exact hvc, ?_, ?_⟩⟩
    · intro j o ho
      obtain ⟨g, qq, e, c0, c1, c2, c3⟩ := (unhide HIN).below hb4 j o ho
      have hgD : g ≠ H + 1 + 1 + 1 := fun e2 => by
        have := unhide HGA g qq e
        exact unhide HMD (by rw [hD, ← e2]; exact this)
      have hb := fun k => cell_of_block (World.putObj_heap_other (w := w4) (o := .deferred none) hgD) k
      exact ⟨g, qq, e, (hb _).trans c0, (hb _).trans c1, (hb _).trans c2, (hb _).trans c3⟩
    · exact ((unhide HI2).bel.trans (hb4.mono (by omega))).grown (grownBy_putObj' _ (H + 1 + 1 + 1) (.deferred none)) (by have := hb4.size; omega) (fun k e => by cases e; omega)
  case body =>
    rintro l2 j ⟨i, u⟩ M' a' V hx ⟨M, q, rfl, hi, hMq, hRq, gq, rfl⟩ hV
    subst hA
    obtain ⟨hiN, hju⟩ := waysL_of hx
    have hnx := openX_next (s := s) hx
    have hj9 : j < 2 * d.steps.length := by have := (List.getElem?_eq_some_iff.1 hx).1; rwa [waysL_len] at this
    have hlen := openX_len s d.steps.length j
    obtain ⟨X, hX⟩ : ∃ X, openX s d.steps.length j = X := ⟨_, rfl⟩
    rw [hX] at hi hnx hlen
    have k1 := (unhide H0).below (show Below w.heap.size w V by rw [hH]; exact hi.bel)
    obtain ⟨xS, _⟩ := cell1 hi.bS
    obtain ⟨⟨y0, _⟩, ⟨y1, _⟩⟩ := two_cells gq
    have c4 := k1.cells.2.2.1.1
    obtain ⟨⟨rp, ra, rt, rl⟩, hwr⟩ : ∃ y, s.run i u = y := ⟨_, rfl⟩
    have hlk : ∀ W, W.heap[bm]? = V.heap[bm]? → (Instr.lookup 151 (.map (some bm)) (.agg #[.int .i64 (i : Int), .bool u]) false).run Tryz.prog W = .ok (.agg #[.int .u8 (rp : Int), .int .i64 ra, .int .i64 rt, .bool rl]) W := fun W hW => by
      have := (k1.mp.keep hW).look i u
      rw [hwr] at this
      exact this
    have hbl : bm < V.heap.size := k1.mp.lt
    have hou : P32.openU s i u = if rp = 1 then [⟨i, ra, u, rt⟩] else [] := by unfold P32.openU; rw [hwr]
    simp only at hnx
    rw [hou] at hnx
    have HNX := hide hnx
    have HLK := hide hlk
    have HBM := hide hbl
    have HTK := hide hi
    have HGQ := hide gq
    have HMQ := hide hMq
    have HRQ := hide hRq
    clear hnx hlk hbl hi gq hMq hRq hx hju hX k1 hwr hou hiN
    gi_upto_region 6 with fail
    refine wpIn_region_phaseF hmixed [7] 6 (fun k f aF W => ∃ Bx, aF = { tmps := #[.pointer (some ⟨b, 0, none⟩), .pointer (some ⟨H, 0, none⟩), .slice none 0 0, .pointer (some ⟨H + 1, 0, none⟩), .pointer (some ⟨q, 0, none⟩), Bx, .pointer (some ⟨b, 0, none⟩), .bool true, .bool false, .pointer (some ⟨b, 0, none⟩), .func (.func 139) #[] #[.pointer (some ⟨H + 1 + 1, 0, none⟩)], .agg #[.int .i64 (i : Int), .bool u], .pointer (some ⟨b, 0, none⟩), .pointer (some ⟨b, 0, none⟩), .pointer (some ⟨b, 4, none⟩), .map (some bm), .agg #[.int .i64 (i : Int), .bool u], .agg #[.int .u8 (rp : Int), .int .i64 ra, .int .i64 rt, .bool rl], undef, undef, undef, undef, undef, undef, undef, undef, undef, undef, undef, undef, undef, undef, undef, undef, undef, undef], defers := [] } ∧ BxPh V.drew ⟨rp, ra, rt, rl⟩ (k + 1) f Bx W) (by kernel_rfl) (by kernel_rfl) (by decide) (by decide) (by decide) ⟨undef, rfl, BxPh.start1 _ _⟩ rfl rfl (same_two 5 1 12 6 (by kernel_rfl) (by kernel_rfl) (by decide) rfl rfl rfl) ?pure ?write ?free ?fin
    case pure =>
      rintro k f aF W ix o ⟨Bx, rfl, hph⟩ ho hni hnf hbe haf hff
      have hbW := hph.1
      have hc := fun g o (h : g < V.heap.size) => cell_of_block (hbW.block g h) o
      have hlW := (unhide HLK) W (hbW.block bm (unhide HBM))
      have v0 := (hc H 0 (cellLt xS)).trans xS
      have u0 := (hc q 0 (cellLt y0)).trans y0
      have u1 := (hc q 1 (cellLt y1)).trans y1
      have e4 := (hc b 4 (cellLt c4)).trans c4
      clear hc hbW
      rcases ix with _ | _ | _ | _ | _ | _ | _ | _ | ix
      · have ho' : some _ = some o := ho
        cases ho'
        refine (if_pos (show Region.wanted _ (yielded _ _) = true from rfl)).mpr ?_
        refine ⟨_, _, rfl, rfl, .inl ?_⟩
        go_simp
      · have ho' : some _ = some o := ho
        cases ho'
        refine (if_pos (show Region.wanted _ (yielded _ _) = true from rfl)).mpr ?_
        refine ⟨_, _, rfl, rfl, .inl ?_⟩
        go_simp
      · have ho' : some _ = some o := ho
        cases ho'
        refine (if_pos (show Region.wanted _ (yielded _ _) = true from rfl)).mpr ?_
        refine ⟨_, _, rfl, rfl, .inl ?_⟩
        go_simp
      · have ho' : some _ = some o := ho
        cases ho'
        refine (if_pos (show Region.wanted _ (yielded _ _) = true from rfl)).mpr ?_
        refine ⟨_, _, rfl, rfl, .inl ?_⟩
        go_simp
      · have ho' : some _ = some o := ho
        cases ho'
        refine (if_pos (show Region.wanted _ (yielded _ _) = true from rfl)).mpr ?_
        refine ⟨_, _, rfl, rfl, .inl ?_⟩
        go_simp
      · have ho' : some _ = some o := ho
        cases ho'
        refine (if_pos (show Region.wanted _ (yielded _ _) = true from rfl)).mpr ?_
        refine ⟨_, _, rfl, rfl, .inl ?_⟩
        go_simp
      · exact absurd rfl hnf
      · exact absurd (by simp) hni
      · exfalso; simp at ho
    case write =>
      rintro k f aF W ix o ⟨Bx, rfl, hph⟩ hi ho hff
      rcases k with _ | k
      · cases (show some 7 = some ix from hi)
        have ho' : some _ = some o := ho
        cases ho'
        have hf : f = true := hff (by kernel_rfl)
        subst hf
        obtain ⟨p, rfl, hp1, hp2⟩ := hph.2 rfl
        have hp3 : RunB W p P31.Run.zero := hp2
        obtain ⟨⟨z0, f0⟩, ⟨z1, f1⟩, ⟨z2, f2⟩, ⟨z3, f3⟩⟩ := hp3.cells
        refine ⟨rfl, .inr (.inl ⟨_, ?_, ⟨_, rfl, hph.store⟩⟩)⟩
        go_simp
      · simp at hi
    case free =>
      rintro k aF W o ⟨Bx, rfl, hph⟩ ho hbe
      have ho' : some _ = some o := ho
      cases ho'
      have hk : k ≤ 0 := hbe 0 7 rfl (by kernel_rfl)
      refine ⟨rfl, .inl ⟨_, _, ?_, ⟨_, rfl, hph.alloc (by omega)⟩⟩⟩
      go_simp
    case fin =>
      rintro k aF W6 hk ⟨Bx, rfl, hph⟩
      obtain ⟨k, rfl⟩ : ∃ k', k = k' + 1 := ⟨k - 1, by simp at hk; omega⟩
      obtain ⟨p, rfl, hp1, hp2⟩ := hph.2 rfl
      have hp3 : RunB W6 p ⟨rp, ra, rt, rl⟩ := by rw [if_neg (by omega)] at hp2; exact hp2
      have hb6 : Below V.heap.size V W6 := ((Below.refl _ _).drew).trans hph.1
      have hi6 := (unhide HTK).below hb6
      have hk6 : KeepsM (fun r => M r ∨ r = q) V M W6 := ⟨hb6.size, fun r _ hl => hb6.block r hl, fun r h => .inl (.inl h)⟩
      obtain ⟨⟨v0, _⟩, ⟨v1, _⟩, ⟨v2, _⟩, ⟨v3, _⟩⟩ := RunB.cells hp3
      clear hph hp2 xS y0 y1 c4 z0
      simp only at v0 v1 v2 v3
      by_cases h1 : rp = 1
      · have p1 : ((rp : Int) == 1) = true := by rw [h1]; rfl
        obtain ⟨⟨u0, _⟩, ⟨u1, _⟩⟩ := two_cells ((hb6.block q (Array.getElem?_eq_some_iff.1 (unhide HGQ)).1).trans (unhide HGQ))
        obtain ⟨v, k1, k2, hm⟩ := hi6.ex
        obtain ⟨va, vc, hve⟩ := k2.form
        subst hve
        obtain ⟨o0, f0⟩ := cell1 k1
        have hsz := hi6.sz
        have hfin : openX s d.steps.length (j + 1) = X ++ [⟨i, ra, u, rt⟩] := by rw [unhide HNX, if_pos h1]
        obtain ⟨m, hm9⟩ : ∃ m, X.length = m := ⟨_, rfl⟩
        rw [hm9] at o0 hlen
        have HFN := hide hfin
        have HI6 := hide hi6
        have HK6 := hide hk6
        have HM9 := hide hm9
        obtain ⟨Q, hQ⟩ : ∃ Q, W6.heap.size = Q := ⟨_, rfl⟩
        obtain ⟨W7, hW7, hb7, g7, hz7⟩ := new1 W6 (.cells #[.int .i64 (i : Int), .int .i64 ra, .bool u, .int .i64 rt] 35) Q hQ
        have i7 := hi6.below (by rw [hQ]; exact hb7)
        have k27 : OwnO W7 (H + 1 + 1 + 1) (.slice va m vc) X := by
          rw [hm9] at k2
          exact k2.keep (fun g hg => hb7.block g (by have := (k2.lt hg).2; omega))
        have k17 := (hb7.block (H + 1) (by omega)).trans k1
        obtain ⟨o7, f7⟩ := cell1 k17
        rw [hm9] at o7
        have HW7 := hide hW7
        have HB7 := hide hb7
        have HI7 := hide i7
        have HG7 := hide g7
        have HK27 := hide k27
        have HK17 := hide k17
        rw [hm9] at hm
        have HHM := hide hm
        clear hfin hi6 hk6 hb6 hp3 h1 hm9 k1 k2 hW7 hb7 g7 i7 k27 k17 hm
        gi_wp2_with (gi_at_builtin; revert hQ)
        intro hQ
        try rw [hQ]
        rw [unhide HW7]
        refine wpListIn_appO (v := .slice va m vc) (j := ⟨i, ra, u, rt⟩) (by rfl) _ _ (by rfl) (by rfl) (unhide HK27) Q 1 (by rfl) (unhide HG7) m (unhide HM9) (by omega) (by have := hsz; omega) ?_
        intro g' cap' w8 hown hgrow hat
        have hlo : ∀ g, (Value.slice va m vc).ownBlock = some g → H + 3 ≤ g ∧ g < W7.heap.size := fun g e => (unhide HK27).lt e
        have hbb := hgrow.block (H + 1) (by omega) (fun e => by have := hlo _ e.symm; omega)
        have f8 := (World.frozen?_of_block (a := ⟨H + 1, 0, none⟩) hbb).trans f7
        have o8 := (World.cell?_of_block (a := ⟨H + 1, 0, none⟩) hbb).trans o7
        have HE := hide (And.intro hown (And.intro hgrow (And.intro hat (And.intro hlo hbb))))
        clear hown hgrow hat hlo hbb o0 f0 f7 o7
        gi_wp2
        obtain ⟨hown, hgrow, hat, hlo, hbb⟩ := unhide HE
        have hi7 := unhide HI7
        have hg3 : H + 3 ≤ g' := (hown.lt (g := g') rfl).1
        have hz8 := hgrow.size
        have hmr := unhide HHM
        have k7 : KeepsM M W6 M W7 := ⟨by omega, fun r _ hl => (unhide HB7).block r (by omega), fun r h => .inl h⟩
        have hgs := grownBy_setCell' w8 (H + 1) (.slice (some ⟨g', 0, none⟩) (m + 1) cap')
        have k9 := (((unhide HK6).trans k7).trans (KeepsM.grown (M := M) hgrow (fun r e => .inl ((hmr r).2 (.inr e))))).trans (KeepsM.grown (M := M) hgs (fun r e => by cases e; exact .inl ((hmr _).2 (.inl rfl))))
        have hV7 : V.heap.size ≤ W7.heap.size := ((unhide HK6).trans k7).size
        refine ⟨fun r => r = H + 1 ∨ (Value.slice (some ⟨g', 0, none⟩) (m + 1) cap').ownBlock = some r, ⟨k9.size, k9.same, fun r hr => ?_⟩, ?_, ?_, ⟨_, ?_, ?_, fun r => Iff.rfl⟩, ?_⟩
        · rcases hr with rfl | e
          · exact .inl (.inl ((hmr _).2 (.inl rfl)))
          · have e : some g' = some r := e
            cases e
            rcases hat with e | e
            · exact .inl (.inl ((hmr _).2 (.inr e.symm)))
            · cases e; exact .inr hV7
        · exact (hi7.bel.grown hgrow (by omega) (fun k e => by have := hlo k e; omega)).setCell (p := ⟨H + 1, 0, none⟩) (by show H ≤ H + 1; omega) _
        · exact (Below.heap_setCell _ _ _ _ (by show H ≠ H + 1; omega)).trans ((hgrow.block H (by omega) (fun e => by have := hlo _ e.symm; omega)).trans hi7.bS)
        · exact put1 (hbb.trans (unhide HK17)) _
        · rw [unhide HFN]
          exact hown.keep (fun g e => Below.heap_setCell _ _ _ _ (by have e : some g' = some g := e; cases e; show g' ≠ H + 1; omega))
        · simp; omega
      · have p1 : ((rp : Int) == 1) = false := by simp; omega
        have hfin : ∃ M', KeepsM (fun r => M r ∨ r = q) V M' W6 ∧ OpI w b H (openX s d.steps.length (j + 1)) M' W6 := ⟨M, hk6, by rw [unhide HNX, if_neg h1, List.append_nil]; exact hi6⟩
        have HF := hide hfin
        clear hfin hi6 hk6 hb6 hp3 h1
        gi_wp2
        exact unhide HF
end Go.Proofs.YtefokfbgpfcbkaaGreat
