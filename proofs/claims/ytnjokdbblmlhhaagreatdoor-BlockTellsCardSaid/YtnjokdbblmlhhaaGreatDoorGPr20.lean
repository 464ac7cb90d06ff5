/- A tree's text: leaf, write, Print.; A tree's text: write, at a node with kids; Print.; Print: a tree's text.; At: a part of a tree. -/
import Derived.Test.YtnjokdbblmlhhaaGreatDoorGN20
import Derived.Test.YtnjokdbblmlhhaaGreatDoorGW20
import Derived.Test.YtnjokdbblmlhhaaGreatDoorGR17
import Derived.Test.YtnjokdbblmlhhaaGreatDoorGW18
import Derived.Test.YtnjokdbblmlhhaaGreatDoorGR18
import Derived.Laws.Concat
import Derived.Deep.CutRange
import Derived.Deep.CutBlock
import Derived.Deep.RegionWith
import Derived.Shelf.RegionOpenPlain
import Derived.RangeFuncRecord
namespace Go.Proofs.YtnjokdbblmlhhaaGreatDoor
set_option linter.unusedVariables false
set_option linter.unusedSimpArgs false
open Go.RowKit
theorem add_run (a b : ByteArray) (h : a.size + b.size ≤ 9223372036854775807) : ∀ W, (binOp .add 9 (.string a) (.string b)).run Tryz.prog W = .ok (.string (a ++ b)) W := fun W => by
  rw [binOp_string_add]; exact run_string_add_sum W a b h
theorem leaf_len (k : Nat) (t : List UInt8) : (P20.leaf k t).length ≤ 4 * t.length + 2 := by
  unfold P20.leaf
  split
  · simp
  · split
    · simp
    · have := R18.put_len t; omega
theorem Bld.below {w w' : World} {b : Nat} {p : Value} {l : List UInt8} (h : Bld w b p l) (hb : Below w.heap.size w w') : Bld w' b p l := by
  obtain ⟨v, h1, h2⟩ := h
  exact ⟨v, (hb.block b (Array.getElem?_eq_some_iff.1 h1).1).trans h1, ownsRow_span h2 (grown_of_below hb none) (fun r e => by cases e)⟩
theorem Bld.lt {w : World} {b : Nat} {p : Value} {l : List UInt8} (h : Bld w b p l) : b < w.heap.size := by
  obtain ⟨v, h1, _⟩ := h
  exact (Array.getElem?_eq_some_iff.1 h1).1
theorem others_below {w w' : World} {e : TypeId} {b : Option Nat} (hb : Below w.heap.size w w') : Lib.OthersKept e b w w' := fun k o h1 _ _ => (hb.block k (Array.getElem?_eq_some_iff.1 h1).1).trans h1
set_option maxRecDepth 100000 in
theorem leaf20_any (k : Nat) (t : List UInt8) (ka : Option Addr) (kc nk : Nat) (da : Option Addr) (dc nd : Nat) (ln : Int) (w : World) (ht : t.length ≤ 100000) :
    Calls Tryz.prog 77 #[.agg #[.int .u8 k, .string ⟨t.toArray⟩, .slice ka nk kc, .slice da nd dc, .int .i64 ln]] w fun e w' => ∃ o : ByteArray, e = .returned (.string o) ∧ Hid (o.data.toList = P20.leaf k t) ∧ Below w.heap.size w w' := by
  have hb : Below w.heap.size w (w.alloc (.cells #[.int .u8 k, .string ⟨t.toArray⟩, .slice ka nk kc, .slice da nd dc, .int .i64 ln] 26)) := (Below.refl _ w).alloc (Nat.le_refl _) _
  obtain ⟨⟨c0, _⟩, ⟨c1, _⟩, ⟨c2, _⟩, ⟨c3, _⟩, ⟨c4, _⟩⟩ := five_cell (World.alloc_heap_new w (.cells #[.int .u8 k, .string ⟨t.toArray⟩, .slice ka nk kc, .slice da nd dc, .int .i64 ln] 26))
  have hput := fun W => Put_any ⟨t.toArray⟩ W (by rw [Lib.size_eq]; exact ht)
  simp only [list_data] at hput
  have HP := hide hput
  clear hput
  unfold P20.leaf
  by_cases k2 : k = 2
  · subst k2
    go_enter Tryz.func77, Tryz.ntmps77
    go_wp2
    go_ret
    exact ⟨_, rfl, rfl, hb⟩
  · have j2 : ((k : Int) == 2) = false := by rw [beq_eq_false_iff_ne]; omega
    rw [if_neg k2]
    by_cases k3 : k = 3
    · subst k3
      go_enter Tryz.func77, Tryz.ntmps77
      go_wp2
      go_ret
      exact ⟨_, rfl, rfl, hb⟩
    · have j3 : ((k : Int) == 3) = false := by rw [beq_eq_false_iff_ne]; omega
      rw [if_neg k3]
      go_enter Tryz.func77, Tryz.ntmps77
      go_wp2_with (go_at_call 78; refine (unhide HP _).mono ?_; rintro e w' ⟨o, rfl, ho, hb1⟩)
      go_ret
      exact ⟨o, rfl, ho, hb.trans (hb1.mono (by simp))⟩
/-- what is written: a builder in block b has it, all else below b is as it was, and what is no bytes stays -/
def WrPost (w : World) (b : Nat) (l : List UInt8) (e : Ending) (w' : World) : Prop := e = .returned (.tuple #[]) ∧ Hid (Bld w' b (.pointer (some ⟨b, 0, none⟩)) l) ∧ Below b w w' ∧ Lib.OthersKept 5 (some b) w w' ∧ w.heap.size ≤ w'.heap.size
def WriteC (d : Nd) : Prop := ∀ (lv : Nat) (F A : ByteArray) (b : Nat) (p : Value) (l : List UInt8) (w : World), d.In w → (∀ r, d.blk r → r < b) → d.bare.check lv = 0 → A.size ≤ 2 * lv → (if d.kids = [] then F.size ≤ 100000 else F.size ≤ 2 * lv + 1000) →
  Bld w b p l → (p = .pointer none ∨ p = .pointer (some ⟨b, 0, none⟩)) → l.length + (d.bare.write F.data.toList A.data.toList).length < 549755813888 →
  Calls Tryz.prog 38 #[.pointer (some ⟨b, 0, none⟩), d.val, .string F, .string A] w (WrPost w b (l ++ d.bare.write F.data.toList A.data.toList))
set_option maxRecDepth 100000 in
set_option maxHeartbeats 8000000 in
theorem write_leaf (k : Nat) (t : List UInt8) (ka : Option Addr) (kc : Nat) (ks : List (List UInt8)) (da : Option Addr) (dc : Nat) (ds : List Nd) (ln : Int) (hd : ds = []): WriteC (.mk k t ka kc ks da dc ds ln) := by
  intro lv F A b p l w hin hblk hck hA hF hB hp hlen
  obtain ⟨q1, q2, q3, q4, q5, q6, q7⟩ := P20.check_mk (by unfold Nd.bare at hck; exact hck)
  have htl := P20.check_len q5
  rw [Nd.val_eq]
  obtain ⟨W, hW⟩ : ∃ W, w.alloc (.cells #[.int .u8 k, .string ⟨t.toArray⟩, .slice ka ks.length kc, .slice da ds.length dc, .int .i64 ln] 26) = W := ⟨_, rfl⟩
  have g0 : W.heap[w.heap.size]? = some (.cells #[.int .u8 k, .string ⟨t.toArray⟩, .slice ka ks.length kc, .slice da ds.length dc, .int .i64 ln] 26) := by rw [← hW]; exact World.alloc_heap_new w _
  have hBW : Bld W b p l := by rw [← hW]; exact hB.alloc _
  have hbl : b < w.heap.size := by obtain ⟨v, hv, _⟩ := hB; exact (Array.getElem?_eq_some_iff.1 hv).1
  have hbW : Below b w W := by rw [← hW]; exact (Below.refl _ w).alloc (by omega) _
  have hoW : Lib.OthersKept 5 (some b) w W := by rw [← hW]; exact (Lib.OthersKept.refl _ _ w).alloc _
  have hsW : w.heap.size + 1 = W.heap.size := by rw [← hW]; simp
  obtain ⟨⟨c0, _⟩, ⟨c1, _⟩, ⟨c2, _⟩, ⟨c3, _⟩, ⟨c4, _⟩⟩ := five_cell g0
  have HW := hide hW
  subst hd
  have hsp : (Nd.mk k t ka kc ks da dc [] ln).bare.write F.data.toList A.data.toList = F.data.toList ++ P20.leaf k t ++ [10] := by
    unfold Nd.bare P20.T.write bareL; rw [if_pos (by rfl)]
  rw [hsp] at hlen ⊢
  simp only [Nd.kids, if_true] at hF
  have hlf := fun W => leaf20_any k t ka kc ks.length da dc 0 ln W (by omega)
  have HLF := hide hlf
  have hfs := Lib.size_eq F
  have hll := leaf_len k t
  simp only [List.length_append, List.length_nil, List.length_cons] at hlen c3
  have HW0 := hide (show w.alloc (.cells #[.int .u8 k, .string ⟨t.toArray⟩, .slice ka ks.length kc, .slice da 0 dc, .int .i64 ln] 26) = W from hW)
  clear HW hW g0 hin hblk hck q2 q3 q4 q5 q6 q7 hlf hsp hB
  go_enter Tryz.func38, Tryz.ntmps38
  go_wp2
  rw [unhide HW0]
  go_step3
  go_wp2_with (first
    | (go_at_call 77; refine (unhide HLF _).mono ?_; rintro e W1 ⟨o, rfl, HO, hb1⟩; have hos := Lib.size_eq o; rw [unhide HO] at hos; have hB1 : Bld W1 b p l := hBW.below hb1))
  simp [Oper.wp, go_sem]
  rw [if_neg (by omega)]
  go_wp2
  simp [Oper.wp, go_sem]
  rw [if_neg (by omega)]
  go_wp2_with (first
    | (go_at_call 76; refine (WriteString_any b p l _ W1 hB1 hp (by have h1 : (⟨#[10]⟩ : ByteArray).size = 1 := rfl; rw [ByteArray.size_append, ByteArray.size_append]; omega)).mono ?_; rintro e W2 ⟨rfl, hB2, hb2, hk2⟩))
  rw [Exit.noGoto_ret]
  refine bodyPost_ret (results_none rfl _ _ _) rfl ?_
  refine ⟨rfl, hide ?_, ?_, ?_, ?_⟩
  · have e : l ++ (F.data.toList ++ P20.leaf k t ++ [10]) = l ++ (F ++ o ++ ⟨#[10]⟩ : ByteArray).data.toList := by
      rw [← unhide HO]; simp
    first
      | (rw [e]; exact hB2)
      | (have e2 : l ++ (F.data.toList ++ (P20.leaf k t ++ [10])) = l ++ (F ++ o ++ ⟨#[10]⟩ : ByteArray).data.toList := by rw [← e]; simp
         rw [e2]; exact hB2)
  · exact (hbW.trans (hb1.mono (by omega))).trans hb2
  · exact (hoW.trans (others_below hb1)).trans hk2
  · have h4 := hb1.size
    have h3 := hb2.size
    omega
end Go.Proofs.YtnjokdbblmlhhaaGreatDoor
namespace Go.Proofs.YtnjokdbblmlhhaaGreatDoor
set_option linter.unusedVariables false
set_option linter.unusedSimpArgs false
open Go.RowKit
theorem checkL_drop {lv : Nat} : ∀ {ds : List P20.T}, P20.checkL lv ds = 0 → ∀ i, P20.checkL lv (ds.drop i) = 0
  | [], h, i => by simpa using h
  | d :: ds, h, 0 => h
  | d :: ds, h, i + 1 => by
    rw [List.drop_succ_cons]
    exact checkL_drop (P20.checkL_cons h).2 i
theorem bareL_dropL : ∀ (ds : List Nd) (i : Nat), bareL (ds.drop i) = (bareL ds).drop i := fun ds i => by rw [bareL_map, bareL_map, List.map_drop]
theorem keysE_short : ∀ {seen ks : List (List UInt8)}, P20.keysE seen ks = 0 → ∀ x ∈ ks, x.length ≤ 64
  | seen, [], h, x, hx => by simp at hx
  | seen, k :: ks, h, x, hx => by
    obtain ⟨h1, _, h3⟩ := P20.keysE_cons h
    rcases List.mem_cons.1 hx with rfl | hx
    · have := P20.check_len h1; omega
    · exact keysE_short h3 x hx
set_option maxRecDepth 100000 in
set_option maxHeartbeats 8000000 in
theorem write_node (k : Nat) (t : List UInt8) (ka : Option Addr) (kc : Nat) (ks : List (List UInt8)) (da : Option Addr) (dc : Nat) (ds : List Nd) (ln : Int) (hds : ∀ d ∈ ds, WriteC d) : WriteC (.mk k t ka kc ks da dc ds ln) := by
  intro lv F A b p l w hin hblk hck hA hF hB hp hlen
  by_cases hd : ds = []
  · exact write_leaf k t ka kc ks da dc ds ln hd lv F A b p l w hin hblk hck hA hF hB hp hlen
  obtain ⟨q1, q2, q3, q4, q5, q6, q7⟩ := P20.check_mk (by unfold Nd.bare at hck; exact hck)
  have htl := P20.check_len q5
  rw [Nd.val_eq]
  obtain ⟨W, hW⟩ : ∃ W, w.alloc (.cells #[.int .u8 k, .string ⟨t.toArray⟩, .slice ka ks.length kc, .slice da ds.length dc, .int .i64 ln] 26) = W := ⟨_, rfl⟩
  have g0 : W.heap[w.heap.size]? = some (.cells #[.int .u8 k, .string ⟨t.toArray⟩, .slice ka ks.length kc, .slice da ds.length dc, .int .i64 ln] 26) := by rw [← hW]; exact World.alloc_heap_new w _
  have hBW : Bld W b p l := by rw [← hW]; exact hB.alloc _
  have hbl : b < w.heap.size := by obtain ⟨v, hv, _⟩ := hB; exact (Array.getElem?_eq_some_iff.1 hv).1
  have hbW : Below b w W := by rw [← hW]; exact (Below.refl _ w).alloc (by omega) _
  have hoW : Lib.OthersKept 5 (some b) w W := by rw [← hW]; exact (Lib.OthersKept.refl _ _ w).alloc _
  have hsW : w.heap.size + 1 = W.heap.size := by rw [← hW]; simp
  obtain ⟨⟨c0, _⟩, ⟨c1, _⟩, ⟨c2, _⟩, ⟨c3, _⟩, ⟨c4, _⟩⟩ := five_cell g0
  have HW := hide hW
  have hdp := List.length_pos_iff.2 hd
  have hnil : (bareL ds).isEmpty = false := by cases ds with | nil => exact absurd rfl hd | cons a r => rfl
  have hsp : (Nd.mk k t ka kc ks da dc ds ln).bare.write F.data.toList A.data.toList = P20.writeL k F.data.toList A.data.toList ks (bareL ds) := by
    unfold Nd.bare P20.T.write; rw [if_neg (by rw [hnil]; simp)]
  rw [hsp] at hlen ⊢
  rw [if_neg (show ¬ (Nd.mk k t ka kc ks da dc ds ln).kids = [] from hd)] at hF
  have hk23 : (k = 2 ∨ (k = 3 ∧ ks.length = ds.length)) := by
    unfold P20.oddB at q4
    by_cases k1 : k = 1
    · rw [if_pos k1] at q4; simp [bareL_len] at q4; exact absurd q4.2 hd
    · by_cases k2 : k = 2
      · exact .inl k2
      · rw [if_neg k1, if_neg k2] at q4; simp [bareL_len] at q4; exact .inr ⟨by omega, q4.2⟩
  obtain ⟨n, hn⟩ : ∃ n, ds.length = n := ⟨_, rfl⟩
  rw [hn] at c3 hdp
  have HN := hide hn
  have jn : ((n : Int) == 0) = false := by rw [beq_eq_false_iff_ne]; omega
  have HIN := hide hin
  have HBLK := hide hblk
  have HDS := hide hds
  have HCL := hide q7
  have HKE := hide q6
  have HLEN := hide hlen
  have HBB := hide hB
  have hkl := hin.fit.kidsL
  simp only [Nd.kids] at hkl
  unfold maxLen at hkl
  rw [hn] at hkl
  have HG0 := hide g0
  have HWX := hide (show Below b w W ∧ Lib.OthersKept 5 (some b) w W ∧ w.heap.size < W.heap.size from ⟨hbW, hoW, by omega⟩)
  have HW0 := hide (show w.alloc (.cells #[.int .u8 k, .string ⟨t.toArray⟩, .slice ka ks.length kc, .slice da n dc, .int .i64 ln] 26) = W by rw [← hn]; exact hW)
  have HBW := hide hBW
  rw [hn]
  clear hn hin hblk hds q2 q3 q4 q5 q6 q7 hlen hB hsp hnil hd hck g0 hbW hoW hW HW htl hBW
  go_enter Tryz.func38, Tryz.ntmps38
  go_wp2
  rw [unhide HW0]
  go_step3
  go_wp2
  go_step3
  go_wp2
  go_loopg [2, 25] n (fun g s2 s25 wx => ∃ (i : Nat) (X : ByteArray) (p2 : Value) (out : List UInt8), i + g = n ∧ s25 = .int .i64 i ∧ s2 = .string X ∧ Hid (i = 0 → X = F) ∧ (p2 = .pointer none ∨ p2 = .pointer (some ⟨b, 0, none⟩)) ∧
    Hid (P20.writeL k F.data.toList A.data.toList ks (bareL ds) = out ++ P20.writeL k (if i = 0 then F else A).data.toList A.data.toList (ks.drop i) (bareL (ds.drop i))) ∧ Hid (Bld wx b p2 (l ++ out)) ∧ Hid (Below b w wx ∧ Lib.OthersKept 5 (some b) w wx ∧ w.heap.size < wx.heap.size) ∧
    Hid (wx.heap[w.heap.size]? = some (.cells #[.int .u8 k, .string ⟨t.toArray⟩, .slice ka ks.length kc, .slice da n dc, .int .i64 ln] 26)) ∧ (0 < i → p2 = .pointer (some ⟨b, 0, none⟩)))
  case atStart =>
    exact ⟨0, F, p, [], by omega, by go_num, rfl, hide (fun _ => rfl), hp, hide (by simp), hide (by rw [List.append_nil]; exact unhide HBW), HWX, hide (by rw [← unhide HN]; exact unhide HG0), fun h => absurd h (by omega)⟩
  case round =>
    obtain ⟨i, X, p2, out, hig, rfl, rfl, HX, hp2, HS, HB, HWK, HG, hpi⟩ := hrel
    cases gk with
    | zero =>
      have e1 : (n : Int) = (i : Int) := by omega
      have HE := hide (show i = n by omega)
      have hpos : 0 < i := by omega
      have HPI := hide (hpi hpos)
      clear hpi
      go_wp2
      refine bodyPost_ret (results_none rfl _ _ _) rfl ?_
      obtain ⟨w1, w2, w3⟩ := unhide HWK
      refine ⟨rfl, hide ?_, w1, w2, Nat.le_of_lt w3⟩
      rw [unhide HS, List.drop_of_length_le (show ds.length ≤ i by rw [unhide HN]; have := unhide HE; omega)]
      have h1 := unhide HB
      rw [unhide HPI] at h1
      simp only [bareL, P20.writeL, List.append_nil]
      exact h1
    | succ g' =>
      have hlt : (i : Int) < (n : Int) := by omega
      have hki : IntKind.i64.wrap ((i : Int) + 1) = (i : Int) + 1 := IntWalk.i64_in _ (by omega)
      obtain ⟨d, hgd⟩ := nth_of (unhide HN) (show i < n by omega)
      have hdm := List.mem_of_getElem? hgd
      have hS := unhide HS
      rw [bareL_drop hgd] at hS
      simp only [P20.writeL] at hS
      rw [List.tail_drop] at hS
      obtain ⟨wk1, wk2, wk3⟩ := unhide HWK
      have hbl : b < w.heap.size := (unhide HBB).lt
      have hdin : d.In w := by
        have h1 := (unhide HIN).kids
        simp only [Nd.da, Nd.kids] at h1
        obtain ⟨_, _, _, _, h2⟩ := kid_cells h1 hgd
        exact h2
      have hdb : ∀ r, d.blk r → r < b := fun r hr => unhide HBLK r (by rw [blk_eq]; exact .inr (.inr ((blkL_iff r _).2 ⟨d, hdm, hr⟩)))
      have hchk := P20.checkL_cons (d := d.bare) (ds := bareL (ds.drop (i + 1))) (lv := lv + 1) (by
        have h1 := checkL_drop (unhide HCL) i
        rw [← bareL_dropL, bareL_drop hgd] at h1
        exact h1)
      obtain ⟨hck1, _⟩ := hchk
      have hdin2 : d.In wr := hdin.keep (fun r hr => wk1.block r (hdb r hr))
      have hcells := kid_open (W := wr) (a := da) (ds := ds) (InL.keep (by have h1 := (unhide HIN).kids; simp only [Nd.da, Nd.kids] at h1; exact h1) (fun r hr => wk1.block r (unhide HBLK r (by rw [blk_eq]; exact .inr (.inr hr)))) (fun r hn hr => wk1.block r (unhide HBLK r (by rw [blk_eq]; exact .inr (.inl ⟨hn, hr⟩))))) hgd
      have hcall := unhide HDS d hdm (lv + 1)
      obtain ⟨b1, o1, k', t', ka', kc', ks', da', dc', ds', l', rfl, rfl, e0, e1, e2, e3, e4, _⟩ := hcells
      rw [Nd.val_eq] at hcall
      obtain ⟨V, hV⟩ : ∃ V, wr.alloc (.cells #[.int .u8 k', .string ⟨t'.toArray⟩, .slice ka' ks'.length kc', .slice da' ds'.length dc', .int .i64 l'] 26) = V := ⟨_, rfl⟩
      have hBV : Bld V b p2 (l ++ out) := by rw [← hV]; exact (unhide HB).alloc _
      have hbV : Below b w V := by rw [← hV]; exact wk1.alloc (by omega) _
      have hoV : Lib.OthersKept 5 (some b) w V := by rw [← hV]; exact wk2.alloc _
      have hsV : wr.heap.size + 1 = V.heap.size := by rw [← hV]; simp
      have hGV : V.heap[w.heap.size]? = some (.cells #[.int .u8 k, .string ⟨t.toArray⟩, .slice ka ks.length kc, .slice (some ⟨b1, o1, none⟩) n dc, .int .i64 ln] 26) := by rw [← hV]; exact (Below.heap_alloc _ _ _ (by omega)).trans (unhide HG)
      have hDV : V.heap[wr.heap.size]? = some (.cells #[.int .u8 k', .string ⟨t'.toArray⟩, .slice ka' ks'.length kc', .slice da' ds'.length dc', .int .i64 l'] 26) := by rw [← hV]; exact World.alloc_heap_new wr _
      have hinV : (Nd.mk k' t' ka' kc' ks' da' dc' ds' l').In V := by rw [← hV]; exact hdin2.alloc _
      obtain ⟨Y, hY⟩ : ∃ Y, (if i = 0 then F else A) = Y := ⟨_, rfl⟩
      rw [hY] at hS
      have hYs : Y.size ≤ 2 * lv + 1000 := by rw [← hY]; split <;> omega
      have hkeyc : k = 3 → ∃ x b2 o2, ks[i]? = some x ∧ ka = some ⟨b2, o2, none⟩ ∧ V.cell? ⟨b2, o2 + i, none⟩ = some (.string ⟨x.toArray⟩) ∧ x.length ≤ 64 := fun h3 => by
        have hkl3 : ks.length = ds.length := by rcases hk23 with h | ⟨_, h⟩; omega; exact h
        have hil : i < ks.length := by rw [hkl3, unhide HN]; omega
        have hgx : ks[i]? = some ks[i] := List.getElem?_eq_getElem hil
        have hks := (unhide HIN).fit.keys
        simp only [Nd.ka, Nd.keys] at hks
        obtain ⟨b2, o2, e, hc⟩ := hks i _ hgx
        refine ⟨ks[i], b2, o2, hgx, e, ?_, ?_⟩
        · have hr : b2 < b := unhide HBLK b2 (by rw [blk_eq]; refine .inl ⟨?_, o2, e⟩; show ks ≠ []; rintro e; rw [e] at hil; simp at hil)
          exact (cell_of_block (hbV.block b2 hr) _).trans hc
        · exact keysE_short (unhide HKE) _ (List.getElem_mem hil)
      obtain ⟨⟨x0, _⟩, ⟨x1, _⟩, ⟨x2, _⟩, ⟨x3, _⟩, ⟨x4, _⟩⟩ := five_cell hGV
      obtain ⟨⟨y0, _⟩, ⟨y1, _⟩, ⟨y2, _⟩, ⟨y3, _⟩, ⟨y4, _⟩⟩ := five_cell hDV
      have hbl1 := cellLt e0
      have HV := hide hV
      have HC := hide hcall
      have HSS := hide hS
      have HYS := hide hYs
      have HINV := hide hinV
      have HBV := hide hBV
      have HBEL := hide (show Below b w V ∧ Lib.OthersKept 5 (some b) w V ∧ w.heap.size < V.heap.size from ⟨hbV, hoV, by omega⟩)
      have HDB := hide hdb
      have HK3 := hide hkeyc
      have HCK1 := hide hck1
      have HGV := hide hGV
      have HDV := hide hDV
      have HYY := hide hY
      have HPI := hide hpi
      have HGD := hide hgd
      have hcut : X = Y ∧ (i : Int) ≤ 0 ∨ A = Y ∧ (0 : Int) < (i : Int) := by
        by_cases h0 : i = 0
        · left; rw [if_pos h0] at hY; exact ⟨(unhide HX h0).trans hY, by omega⟩
        · right; rw [if_neg h0] at hY; exact ⟨hY, by omega⟩
      clear hV hcall hS hYs hinV hBV hbV hoV hdb hkeyc hck1 hGV hDV hY hpi hgd hdm hdin hdin2 hbl wk1 wk2 wk3 HX HS HB HWK HG
      rcases hcut with ⟨rfl, j0⟩ | ⟨hAY, j0⟩
      · go_upto_region 8 with fail
        rw [unhide HV]
        rcases hk23 with rfl | ⟨rfl, hkl3⟩
        · have hSS := unhide HSS
          rw [if_pos rfl] at hSS
          have hz1 : (X ++ ⟨#[45, 32]⟩ : ByteArray).data.toList = X.data.toList ++ [45, 32] := by simp
          have hz2 : (A ++ ⟨#[32, 32]⟩ : ByteArray).data.toList = A.data.toList ++ [32, 32] := by simp
          have hl2 := unhide HLEN
          rw [hSS] at hl2
          simp only [List.length_append] at hl2
          have hYs := unhide HYS
          have hs1 : (X ++ ⟨#[45, 32]⟩ : ByteArray).size = X.size + 2 := by rw [ByteArray.size_append]; rfl
          have hcw := unhide HC (X ++ ⟨#[45, 32]⟩) (A ++ ⟨#[32, 32]⟩) b p2 (l ++ out) V (unhide HINV) (unhide HDB) (unhide HCK1)
            (by rw [ByteArray.size_append]; show A.size + 2 ≤ _; omega) (by split <;> omega) (unhide HBV) hp2 (by rw [hz1, hz2, List.length_append]; omega)
          rw [hz1, hz2] at hcw
          have HCW := hide hcw
          have HS2 := hide hSS
          clear hcw hSS hz1 hz2 hl2 HSS
          have HSS := HS2
          go_wp2_with (go_at_call 38; refine (unhide HCW).mono ?_; rintro e w2 ⟨rfl, HBX0, HBX1, HBX2, HBX3⟩)
          go_roundg g'
          case measure => omega
          case rel =>
            obtain ⟨v1, v2, v3⟩ := unhide HBEL
            have hbb := (unhide HBB).lt
            refine ⟨i + 1, X, _, out ++ (Nd.mk k' t' ka' kc' ks' da' dc' ds' l').bare.write (X.data.toList ++ [45, 32]) (A.data.toList ++ [32, 32]), by omega, by go_num, rfl, hide (fun h => by omega), .inr rfl, hide ?_, hide ?_, hide ⟨v1.trans HBX1, v2.trans HBX2, Nat.lt_of_lt_of_le v3 HBX3⟩, hide ?_, fun _ => rfl⟩
            · rw [unhide HSS, if_neg (by omega), List.append_assoc]
            · rw [← List.append_assoc]; exact unhide HBX0
            · exact HBX2 _ _ (unhide HGV) (by simp; have := (unhide HBB).lt; omega) (by intro c fz h; cases h)
        · obtain ⟨x, b2, o2, hgx, rfl, hcx, hx64⟩ := unhide HK3 rfl
          have hSS := unhide HSS
          rw [if_neg (by omega)] at hSS
          have hhd : (ks.drop i).headD [] = x := by
            obtain ⟨h1, h2⟩ := List.getElem?_eq_some_iff.1 hgx
            rw [List.drop_eq_getElem_cons h1, h2]; rfl
          rw [hhd] at hSS
          have hik : (i : Int) < (ks.length : Int) := by have := (List.getElem?_eq_some_iff.1 hgx).1; omega
          have hput := fun W => Put_any ⟨x.toArray⟩ W (by rw [Lib.size_eq]; show x.length ≤ 100000; omega)
          simp only [list_data] at hput
          have hpl := R18.put_len x
          have HPU := hide hput
          have HX1 := hide hSS
          have hlx := cellLt hcx
          have HKL := hide hkl3
          have hYs := unhide HYS
          clear hput hSS hhd hgx HSS hkl3
          by_cases hd' : ds' = []
          · have je : ((ds'.length : Int) == 0) = true := by rw [hd']; rfl
            have hSS := unhide HX1
            have hke : (P20.T.kids (Nd.mk k' t' ka' kc' ks' da' dc' ds' l').bare).isEmpty = true := by rw [hd']; rfl
            rw [if_pos hke] at hSS
            have hl2 := unhide HLEN
            rw [hSS] at hl2
            simp only [List.length_append] at hl2
            have hcw : ∀ (W1 : World) (o : ByteArray), Below V.heap.size V W1 → o.data.toList = P18.put x → Calls Tryz.prog 38 #[.pointer (some ⟨b, 0, none⟩), .agg #[.int .u8 k', .string ⟨t'.toArray⟩, .slice ka' ks'.length kc', .slice da' ds'.length dc', .int .i64 l'], .string (X ++ o ++ ⟨#[58]⟩ ++ ⟨#[32]⟩), .string ⟨#[]⟩] W1
                (WrPost W1 b (l ++ out ++ (Nd.mk k' t' ka' kc' ks' da' dc' ds' l').bare.write (X.data.toList ++ P18.put x ++ [58] ++ [32]) [])) := fun W1 o hb ho => by
              have hz1 : (X ++ o ++ ⟨#[58]⟩ ++ ⟨#[32]⟩ : ByteArray).data.toList = X.data.toList ++ P18.put x ++ [58] ++ [32] := by rw [← ho]; simp
              have hs1 : (X ++ o ++ ⟨#[58]⟩ ++ ⟨#[32]⟩ : ByteArray).size = X.size + o.size + 1 + 1 := by rw [ByteArray.size_append, ByteArray.size_append, ByteArray.size_append]; rfl
              have hos : o.size = (P18.put x).length := by rw [Lib.size_eq, ho]
              have h1 := unhide HC (X ++ o ++ ⟨#[58]⟩ ++ ⟨#[32]⟩) ⟨#[]⟩ b p2 (l ++ out) W1 ((unhide HINV).below hb) (unhide HDB) (unhide HCK1) (by show 0 ≤ _; omega)
                (by rw [if_pos (show (Nd.mk k' t' ka' kc' ks' da' dc' ds' l').kids = [] from hd')]; omega) ((unhide HBV).below hb) hp2 (by rw [hz1]; simp only [List.length_append] at hl2 ⊢; exact Nat.lt_of_le_of_lt (by show _ ≤ l.length + (out.length + _); omega) hl2)
              rw [hz1] at h1
              exact h1
            have HCW := hide hcw
            have HSS := hide hSS
            clear hcw hSS hl2 hke hd' HX1
            go_wp2_with (first
              | (go_at_call 78; refine (unhide HPU _).mono ?_; rintro e w1 ⟨o, rfl, ho, hb1⟩; have HO := hide ho; have hob : o.size ≤ 300 := (by rw [Lib.size_eq, ho]; omega); clear ho; obtain ⟨⟨z0, _⟩, ⟨z1, _⟩, ⟨z2, _⟩, ⟨z3, _⟩, ⟨z4, _⟩⟩ := five_cell ((hb1.block _ (by omega)).trans (unhide HDV)))
              | (go_at_call 38; refine (unhide HCW _ _ hb1 (unhide HO)).mono ?_; rintro e w2 ⟨rfl, HBX0, HBX1, HBX2, HBX3⟩))
            have hbb := (unhide HBB).lt
            obtain ⟨v1, v2, v3⟩ := unhide HBEL
            have hsz1 := hb1.size
            have u1 : Below b w w1 := v1.trans (hb1.mono (by omega))
            have u2 : Lib.OthersKept 5 (some b) w w1 := v2.trans (others_below hb1)
            have hGw := (hb1.block _ v3).trans (unhide HGV)
            go_roundg g'
            case measure => omega
            case rel =>
              refine ⟨i + 1, X, _, out ++ ((Nd.mk k' t' ka' kc' ks' da' dc' ds' l').bare.write (X.data.toList ++ P18.put x ++ [58] ++ [32]) []), by omega, by go_num, rfl, hide (fun h => by omega), .inr rfl, hide ?_, hide ?_, hide ⟨u1.trans HBX1, u2.trans HBX2, by omega⟩, hide ?_, fun _ => rfl⟩
              · rw [unhide HSS, if_neg (by omega)]; simp only [List.append_assoc]
              · rw [← List.append_assoc]; exact unhide HBX0
              · exact HBX2 _ _ hGw (by simp; omega) (by intro c fz h; cases h)

          · have je : ((ds'.length : Int) == 0) = false := by rw [beq_eq_false_iff_ne]; have := List.length_pos_iff.2 hd'; omega
            have hSS := unhide HX1
            have hke : ¬ (P20.T.kids (Nd.mk k' t' ka' kc' ks' da' dc' ds' l').bare).isEmpty = true := by show ¬ (bareL ds').isEmpty = true; cases ds' with | nil => exact absurd rfl hd' | cons a r => simp [bareL]
            rw [if_neg hke] at hSS
            have hl2 := unhide HLEN
            rw [hSS] at hl2
            simp only [List.length_append] at hl2
            have hz2 : (A ++ ⟨#[32, 32]⟩ : ByteArray).data.toList = A.data.toList ++ [32, 32] := by simp
            have hs2 : (A ++ ⟨#[32, 32]⟩ : ByteArray).size = A.size + 2 := by rw [ByteArray.size_append]; rfl
            have hws : ∀ (W1 : World) (o : ByteArray), Below V.heap.size V W1 → o.data.toList = P18.put x → Calls Tryz.prog 76 #[.pointer (some ⟨b, 0, none⟩), .string (X ++ o ++ ⟨#[58]⟩ ++ ⟨#[10]⟩)] W1 fun e w' =>
                e = .returned (.tuple #[.int .i64 (X ++ o ++ ⟨#[58]⟩ ++ ⟨#[10]⟩ : ByteArray).size, .nilIface]) ∧ Bld w' b (.pointer (some ⟨b, 0, none⟩)) (l ++ out ++ (X.data.toList ++ P18.put x ++ [58] ++ [10])) ∧ Below b W1 w' ∧ Lib.OthersKept 5 (some b) W1 w' := fun W1 o hb ho => by
              have hz1 : (X ++ o ++ ⟨#[58]⟩ ++ ⟨#[10]⟩ : ByteArray).data.toList = X.data.toList ++ P18.put x ++ [58] ++ [10] := by rw [← ho]; simp
              have h1 := WriteString_any b p2 (l ++ out) (X ++ o ++ ⟨#[58]⟩ ++ ⟨#[10]⟩) W1 ((unhide HBV).below hb) hp2 (by rw [Lib.size_eq, hz1]; simp only [List.length_append, List.length_cons, List.length_nil] at hl2 ⊢; omega)
              rw [hz1] at h1
              exact h1
            have hcw : ∀ (W1 W2 : World), Below V.heap.size V W1 → Below b W1 W2 → Bld W2 b (.pointer (some ⟨b, 0, none⟩)) (l ++ out ++ (X.data.toList ++ P18.put x ++ [58] ++ [10])) → Calls Tryz.prog 38 #[.pointer (some ⟨b, 0, none⟩), .agg #[.int .u8 k', .string ⟨t'.toArray⟩, .slice ka' ks'.length kc', .slice da' ds'.length dc', .int .i64 l'], .string (A ++ ⟨#[32, 32]⟩), .string (A ++ ⟨#[32, 32]⟩)] W2
                (WrPost W2 b (l ++ out ++ (X.data.toList ++ P18.put x ++ [58] ++ [10]) ++ (Nd.mk k' t' ka' kc' ks' da' dc' ds' l').bare.write (A.data.toList ++ [32, 32]) (A.data.toList ++ [32, 32]))) := fun W1 W2 hb hb2 hB2 => by
              have h1 := unhide HC (A ++ ⟨#[32, 32]⟩) (A ++ ⟨#[32, 32]⟩) b _ _ W2 (((unhide HINV).below hb).keep (fun r hr => hb2.block r (unhide HDB r hr))) (unhide HDB) (unhide HCK1) (by omega)
                (by rw [if_neg (show ¬ (Nd.mk k' t' ka' kc' ks' da' dc' ds' l').kids = [] from hd')]; omega) hB2 (.inr rfl) (by rw [hz2]; simp only [List.length_append, List.length_cons, List.length_nil] at hl2 ⊢; omega)
              rw [hz2] at h1
              exact h1
            have HCW := hide hcw
            have HWS := hide hws
            have HSS := hide hSS
            have hbv : b < V.heap.size := by have := (unhide HBB).lt; have := (unhide HBEL).2.2; omega
            have hbn : b ≠ wr.heap.size := by have := (unhide HBB).lt; have := (unhide HBEL).2.2; omega
            clear hcw hSS hl2 hke hd' HX1 hz2 hs2 hws
            go_wp2_with (first
              | (go_at_call 78; refine (unhide HPU _).mono ?_; rintro e w1 ⟨o, rfl, ho, hb1⟩; have HO := hide ho; have hob : o.size ≤ 300 := (by rw [Lib.size_eq, ho]; omega); clear ho; have hd1 := (hb1.block _ (by omega)).trans (unhide HDV); obtain ⟨⟨z0, _⟩, ⟨z1, _⟩, ⟨z2, _⟩, ⟨z3, _⟩, ⟨z4, _⟩⟩ := five_cell hd1)
              | (go_at_call 76; refine (unhide HWS _ _ hb1 (unhide HO)).mono ?_; rintro e w2 ⟨rfl, hB2, hb2, hk2⟩; obtain ⟨⟨s0, _⟩, ⟨s1, _⟩, ⟨s2, _⟩, ⟨s3, _⟩, ⟨s4, _⟩⟩ := five_cell (hk2 _ _ hd1 (by simp; omega) (by intro c fz h; cases h)))
              | (go_at_call 38; refine (unhide HCW _ _ hb1 hb2 hB2).mono ?_; rintro e w3 ⟨rfl, HBX0, HBX1, HBX2, HBX3⟩))
            have hbb := (unhide HBB).lt
            obtain ⟨v1, v2, v3⟩ := unhide HBEL
            have hsz1 := hb1.size
            have u1 : Below b w w1 := v1.trans (hb1.mono (by omega))
            have u2 : Lib.OthersKept 5 (some b) w w1 := v2.trans (others_below hb1)
            have hGw := (hb1.block _ v3).trans (unhide HGV)
            go_roundg g'
            case measure => omega
            case rel =>
              refine ⟨i + 1, X, _, out ++ (X.data.toList ++ P18.put x ++ [58] ++ [10] ++ (Nd.mk k' t' ka' kc' ks' da' dc' ds' l').bare.write (A.data.toList ++ [32, 32]) (A.data.toList ++ [32, 32])), by omega, by go_num, rfl, hide (fun h => by omega), .inr rfl, hide ?_, hide ?_, hide ⟨(u1.trans hb2).trans HBX1, (u2.trans hk2).trans HBX2, by have := hb2.size; omega⟩, hide ?_, fun _ => rfl⟩
              · rw [unhide HSS, if_neg (by omega)]; simp only [List.append_assoc]
              · have h9 := unhide HBX0; simp only [List.append_assoc] at h9 ⊢; exact h9
              · exact HBX2 _ _ (hk2 _ _ hGw (by simp; omega) (by intro c fz h; cases h)) (by simp; omega) (by intro c fz h; cases h)

      · subst hAY
        go_upto_region 8 with fail
        rw [unhide HV]
        rcases hk23 with rfl | ⟨rfl, hkl3⟩
        · have hSS := unhide HSS
          rw [if_pos rfl] at hSS
          have hz1 : (A ++ ⟨#[45, 32]⟩ : ByteArray).data.toList = A.data.toList ++ [45, 32] := by simp
          have hz2 : (A ++ ⟨#[32, 32]⟩ : ByteArray).data.toList = A.data.toList ++ [32, 32] := by simp
          have hl2 := unhide HLEN
          rw [hSS] at hl2
          simp only [List.length_append] at hl2
          have hYs := unhide HYS
          have hs1 : (A ++ ⟨#[45, 32]⟩ : ByteArray).size = A.size + 2 := by rw [ByteArray.size_append]; rfl
          have hcw := unhide HC (A ++ ⟨#[45, 32]⟩) (A ++ ⟨#[32, 32]⟩) b p2 (l ++ out) V (unhide HINV) (unhide HDB) (unhide HCK1)
            (by rw [ByteArray.size_append]; show A.size + 2 ≤ _; omega) (by split <;> omega) (unhide HBV) hp2 (by rw [hz1, hz2, List.length_append]; omega)
          rw [hz1, hz2] at hcw
          have HCW := hide hcw
          have HS2 := hide hSS
          clear hcw hSS hz1 hz2 hl2 HSS
          have HSS := HS2
          go_wp2_with (go_at_call 38; refine (unhide HCW).mono ?_; rintro e w2 ⟨rfl, HBX0, HBX1, HBX2, HBX3⟩)
          go_roundg g'
          case measure => omega
          case rel =>
            obtain ⟨v1, v2, v3⟩ := unhide HBEL
            have hbb := (unhide HBB).lt
            refine ⟨i + 1, A, _, out ++ (Nd.mk k' t' ka' kc' ks' da' dc' ds' l').bare.write (A.data.toList ++ [45, 32]) (A.data.toList ++ [32, 32]), by omega, by go_num, rfl, hide (fun h => by omega), .inr rfl, hide ?_, hide ?_, hide ⟨v1.trans HBX1, v2.trans HBX2, Nat.lt_of_lt_of_le v3 HBX3⟩, hide ?_, fun _ => rfl⟩
            · rw [unhide HSS, if_neg (by omega), List.append_assoc]
            · rw [← List.append_assoc]; exact unhide HBX0
            · exact HBX2 _ _ (unhide HGV) (by simp; have := (unhide HBB).lt; omega) (by intro c fz h; cases h)
        · obtain ⟨x, b2, o2, hgx, rfl, hcx, hx64⟩ := unhide HK3 rfl
          have hSS := unhide HSS
          rw [if_neg (by omega)] at hSS
          have hhd : (ks.drop i).headD [] = x := by
            obtain ⟨h1, h2⟩ := List.getElem?_eq_some_iff.1 hgx
            rw [List.drop_eq_getElem_cons h1, h2]; rfl
          rw [hhd] at hSS
          have hik : (i : Int) < (ks.length : Int) := by have := (List.getElem?_eq_some_iff.1 hgx).1; omega
          have hput := fun W => Put_any ⟨x.toArray⟩ W (by rw [Lib.size_eq]; show x.length ≤ 100000; omega)
          simp only [list_data] at hput
          have hpl := R18.put_len x
          have HPU := hide hput
          have HX1 := hide hSS
          have hlx := cellLt hcx
          have HKL := hide hkl3
          have hYs := unhide HYS
          clear hput hSS hhd hgx HSS hkl3
          by_cases hd' : ds' = []
          · have je : ((ds'.length : Int) == 0) = true := by rw [hd']; rfl
            have hSS := unhide HX1
            have hke : (P20.T.kids (Nd.mk k' t' ka' kc' ks' da' dc' ds' l').bare).isEmpty = true := by rw [hd']; rfl
            rw [if_pos hke] at hSS
            have hl2 := unhide HLEN
            rw [hSS] at hl2
            simp only [List.length_append] at hl2
            have hcw : ∀ (W1 : World) (o : ByteArray), Below V.heap.size V W1 → o.data.toList = P18.put x → Calls Tryz.prog 38 #[.pointer (some ⟨b, 0, none⟩), .agg #[.int .u8 k', .string ⟨t'.toArray⟩, .slice ka' ks'.length kc', .slice da' ds'.length dc', .int .i64 l'], .string (A ++ o ++ ⟨#[58]⟩ ++ ⟨#[32]⟩), .string ⟨#[]⟩] W1
                (WrPost W1 b (l ++ out ++ (Nd.mk k' t' ka' kc' ks' da' dc' ds' l').bare.write (A.data.toList ++ P18.put x ++ [58] ++ [32]) [])) := fun W1 o hb ho => by
              have hz1 : (A ++ o ++ ⟨#[58]⟩ ++ ⟨#[32]⟩ : ByteArray).data.toList = A.data.toList ++ P18.put x ++ [58] ++ [32] := by rw [← ho]; simp
              have hs1 : (A ++ o ++ ⟨#[58]⟩ ++ ⟨#[32]⟩ : ByteArray).size = A.size + o.size + 1 + 1 := by rw [ByteArray.size_append, ByteArray.size_append, ByteArray.size_append]; rfl
              have hos : o.size = (P18.put x).length := by rw [Lib.size_eq, ho]
              have h1 := unhide HC (A ++ o ++ ⟨#[58]⟩ ++ ⟨#[32]⟩) ⟨#[]⟩ b p2 (l ++ out) W1 ((unhide HINV).below hb) (unhide HDB) (unhide HCK1) (by show 0 ≤ _; omega)
                (by rw [if_pos (show (Nd.mk k' t' ka' kc' ks' da' dc' ds' l').kids = [] from hd')]; omega) ((unhide HBV).below hb) hp2 (by rw [hz1]; simp only [List.length_append] at hl2 ⊢; exact Nat.lt_of_le_of_lt (by show _ ≤ l.length + (out.length + _); omega) hl2)
              rw [hz1] at h1
              exact h1
            have HCW := hide hcw
            have HSS := hide hSS
            clear hcw hSS hl2 hke hd' HX1
            go_wp2_with (first
              | (go_at_call 78; refine (unhide HPU _).mono ?_; rintro e w1 ⟨o, rfl, ho, hb1⟩; have HO := hide ho; have hob : o.size ≤ 300 := (by rw [Lib.size_eq, ho]; omega); clear ho; obtain ⟨⟨z0, _⟩, ⟨z1, _⟩, ⟨z2, _⟩, ⟨z3, _⟩, ⟨z4, _⟩⟩ := five_cell ((hb1.block _ (by omega)).trans (unhide HDV)))
              | (go_at_call 38; refine (unhide HCW _ _ hb1 (unhide HO)).mono ?_; rintro e w2 ⟨rfl, HBX0, HBX1, HBX2, HBX3⟩))
            have hbb := (unhide HBB).lt
            obtain ⟨v1, v2, v3⟩ := unhide HBEL
            have hsz1 := hb1.size
            have u1 : Below b w w1 := v1.trans (hb1.mono (by omega))
            have u2 : Lib.OthersKept 5 (some b) w w1 := v2.trans (others_below hb1)
            have hGw := (hb1.block _ v3).trans (unhide HGV)
            go_roundg g'
            case measure => omega
            case rel =>
              refine ⟨i + 1, A, _, out ++ ((Nd.mk k' t' ka' kc' ks' da' dc' ds' l').bare.write (A.data.toList ++ P18.put x ++ [58] ++ [32]) []), by omega, by go_num, rfl, hide (fun h => by omega), .inr rfl, hide ?_, hide ?_, hide ⟨u1.trans HBX1, u2.trans HBX2, by omega⟩, hide ?_, fun _ => rfl⟩
              · rw [unhide HSS, if_neg (by omega)]; simp only [List.append_assoc]
              · rw [← List.append_assoc]; exact unhide HBX0
              · exact HBX2 _ _ hGw (by simp; omega) (by intro c fz h; cases h)

          · have je : ((ds'.length : Int) == 0) = false := by rw [beq_eq_false_iff_ne]; have := List.length_pos_iff.2 hd'; omega
            have hSS := unhide HX1
            have hke : ¬ (P20.T.kids (Nd.mk k' t' ka' kc' ks' da' dc' ds' l').bare).isEmpty = true := by show ¬ (bareL ds').isEmpty = true; cases ds' with | nil => exact absurd rfl hd' | cons a r => simp [bareL]
            rw [if_neg hke] at hSS
            have hl2 := unhide HLEN
            rw [hSS] at hl2
            simp only [List.length_append] at hl2
            have hz2 : (A ++ ⟨#[32, 32]⟩ : ByteArray).data.toList = A.data.toList ++ [32, 32] := by simp
            have hs2 : (A ++ ⟨#[32, 32]⟩ : ByteArray).size = A.size + 2 := by rw [ByteArray.size_append]; rfl
            have hws : ∀ (W1 : World) (o : ByteArray), Below V.heap.size V W1 → o.data.toList = P18.put x → Calls Tryz.prog 76 #[.pointer (some ⟨b, 0, none⟩), .string (A ++ o ++ ⟨#[58]⟩ ++ ⟨#[10]⟩)] W1 fun e w' =>
                e = .returned (.tuple #[.int .i64 (A ++ o ++ ⟨#[58]⟩ ++ ⟨#[10]⟩ : ByteArray).size, .nilIface]) ∧ Bld w' b (.pointer (some ⟨b, 0, none⟩)) (l ++ out ++ (A.data.toList ++ P18.put x ++ [58] ++ [10])) ∧ Below b W1 w' ∧ Lib.OthersKept 5 (some b) W1 w' := fun W1 o hb ho => by
              have hz1 : (A ++ o ++ ⟨#[58]⟩ ++ ⟨#[10]⟩ : ByteArray).data.toList = A.data.toList ++ P18.put x ++ [58] ++ [10] := by rw [← ho]; simp
              have h1 := WriteString_any b p2 (l ++ out) (A ++ o ++ ⟨#[58]⟩ ++ ⟨#[10]⟩) W1 ((unhide HBV).below hb) hp2 (by rw [Lib.size_eq, hz1]; simp only [List.length_append, List.length_cons, List.length_nil] at hl2 ⊢; omega)
              rw [hz1] at h1
              exact h1
            have hcw : ∀ (W1 W2 : World), Below V.heap.size V W1 → Below b W1 W2 → Bld W2 b (.pointer (some ⟨b, 0, none⟩)) (l ++ out ++ (A.data.toList ++ P18.put x ++ [58] ++ [10])) → Calls Tryz.prog 38 #[.pointer (some ⟨b, 0, none⟩), .agg #[.int .u8 k', .string ⟨t'.toArray⟩, .slice ka' ks'.length kc', .slice da' ds'.length dc', .int .i64 l'], .string (A ++ ⟨#[32, 32]⟩), .string (A ++ ⟨#[32, 32]⟩)] W2
                (WrPost W2 b (l ++ out ++ (A.data.toList ++ P18.put x ++ [58] ++ [10]) ++ (Nd.mk k' t' ka' kc' ks' da' dc' ds' l').bare.write (A.data.toList ++ [32, 32]) (A.data.toList ++ [32, 32]))) := fun W1 W2 hb hb2 hB2 => by
              have h1 := unhide HC (A ++ ⟨#[32, 32]⟩) (A ++ ⟨#[32, 32]⟩) b _ _ W2 (((unhide HINV).below hb).keep (fun r hr => hb2.block r (unhide HDB r hr))) (unhide HDB) (unhide HCK1) (by omega)
                (by rw [if_neg (show ¬ (Nd.mk k' t' ka' kc' ks' da' dc' ds' l').kids = [] from hd')]; omega) hB2 (.inr rfl) (by rw [hz2]; simp only [List.length_append, List.length_cons, List.length_nil] at hl2 ⊢; omega)
              rw [hz2] at h1
              exact h1
            have HCW := hide hcw
            have HWS := hide hws
            have HSS := hide hSS
            have hbv : b < V.heap.size := by have := (unhide HBB).lt; have := (unhide HBEL).2.2; omega
            have hbn : b ≠ wr.heap.size := by have := (unhide HBB).lt; have := (unhide HBEL).2.2; omega
            clear hcw hSS hl2 hke hd' HX1 hz2 hs2 hws
            go_wp2_with (first
              | (go_at_call 78; refine (unhide HPU _).mono ?_; rintro e w1 ⟨o, rfl, ho, hb1⟩; have HO := hide ho; have hob : o.size ≤ 300 := (by rw [Lib.size_eq, ho]; omega); clear ho; have hd1 := (hb1.block _ (by omega)).trans (unhide HDV); obtain ⟨⟨z0, _⟩, ⟨z1, _⟩, ⟨z2, _⟩, ⟨z3, _⟩, ⟨z4, _⟩⟩ := five_cell hd1)
              | (go_at_call 76; refine (unhide HWS _ _ hb1 (unhide HO)).mono ?_; rintro e w2 ⟨rfl, hB2, hb2, hk2⟩; obtain ⟨⟨s0, _⟩, ⟨s1, _⟩, ⟨s2, _⟩, ⟨s3, _⟩, ⟨s4, _⟩⟩ := five_cell (hk2 _ _ hd1 (by simp; omega) (by intro c fz h; cases h)))
              | (go_at_call 38; refine (unhide HCW _ _ hb1 hb2 hB2).mono ?_; rintro e w3 ⟨rfl, HBX0, HBX1, HBX2, HBX3⟩))
            have hbb := (unhide HBB).lt
            obtain ⟨v1, v2, v3⟩ := unhide HBEL
            have hsz1 := hb1.size
            have u1 : Below b w w1 := v1.trans (hb1.mono (by omega))
            have u2 : Lib.OthersKept 5 (some b) w w1 := v2.trans (others_below hb1)
            have hGw := (hb1.block _ v3).trans (unhide HGV)
            go_roundg g'
            case measure => omega
            case rel =>
              refine ⟨i + 1, A, _, out ++ (A.data.toList ++ P18.put x ++ [58] ++ [10] ++ (Nd.mk k' t' ka' kc' ks' da' dc' ds' l').bare.write (A.data.toList ++ [32, 32]) (A.data.toList ++ [32, 32])), by omega, by go_num, rfl, hide (fun h => by omega), .inr rfl, hide ?_, hide ?_, hide ⟨(u1.trans hb2).trans HBX1, (u2.trans hk2).trans HBX2, by have := hb2.size; omega⟩, hide ?_, fun _ => rfl⟩
              · rw [unhide HSS, if_neg (by omega)]; simp only [List.append_assoc]
              · have h9 := unhide HBX0; simp only [List.append_assoc] at h9 ⊢; exact h9
              · exact HBX2 _ _ (hk2 _ _ hGw (by simp; omega) (by intro c fz h; cases h)) (by simp; omega) (by intro c fz h; cases h)

end Go.Proofs.YtnjokdbblmlhhaaGreatDoor
namespace Go.Proofs.YtnjokdbblmlhhaaGreatDoor
set_option linter.unusedVariables false
set_option linter.unusedSimpArgs false
open Go.RowKit
theorem write20_any (d : Nd) : WriteC d := Nd.ind (p := WriteC) write_node d
theorem Len20_any (b : Nat) (p : Value) (l : List UInt8) (w : World) (h : Bld w b p l) (hp : p = .pointer none ∨ p = .pointer (some ⟨b, 0, none⟩)) :
    Calls Tryz.prog 39 #[.pointer (some ⟨b, 0, none⟩)] w fun e w' => e = .returned (.int .i64 l.length) ∧ w = w' := by
  obtain ⟨v, h1, h2⟩ := h
  have e1 : Lib.byteCells l = l.map bc := rfl
  have hA : Lib.BuilderAt 69 5 b b p (Lib.byteCells l) w := by
    refine ⟨Nat.le_refl _, v, h1, ?_, fun e => by have := (OwnB.lt h2 b e).1; omega⟩
    rw [e1, List.length_map]
    exact ownsRow_base h2 (by omega)
  have hI : Lib.IsBuilder 69 5 b b (Lib.byteCells l) w := by
    rcases hp with rfl | rfl
    · exact .inl hA
    · exact .inr hA
  refine (Tryz.Builder_Len b b (Lib.byteCells l) w hI).mono ?_
  rintro e w' ⟨rfl, rfl⟩
  rw [e1, List.length_map]
  exact ⟨rfl, rfl⟩
namespace P20
/-- a tree's text, or what is wrong -/
def T.print (d : T) : List UInt8 × Int := if d.check 1 ≠ 0 then ([], d.check 1) else if 1048576 < (d.write [] []).length then ([], 2) else (d.write [] [], 0)
end P20
set_option maxRecDepth 100000 in
set_option maxHeartbeats 1600000 in
theorem Print20_any (d : Nd) (w : World) (hin : d.In w) (hok : okT d.bare) (hlen : d.bare.check 1 = 0 → (d.bare.write [] []).length < 549755813888) :
    Calls Tryz.prog 14 #[d.val] w fun e w' => ∃ o : ByteArray, e = .returned (.tuple #[.string o, .int .i64 d.bare.print.2]) ∧ Hid (o.data.toList = d.bare.print.1) ∧ Below w.heap.size w w' := by
  obtain ⟨k, t, ka, kc, ks, da, dc, ds, ln⟩ := d
  have hck := fun W (h : Below w.heap.size w W) => Check20_any _ W (hin.below h) hok
  have hlt := fun r (hr : (Nd.mk k t ka kc ks da dc ds ln).blk r) => hin.lt hr
  have hwr := write20_any (.mk k t ka kc ks da dc ds ln) 1 ⟨#[]⟩ ⟨#[]⟩
  obtain ⟨D, hD⟩ : ∃ D, (Nd.mk k t ka kc ks da dc ds ln).bare = D := ⟨_, rfl⟩
  rw [hD] at hlen hok hwr ⊢
  simp only [hD] at hck
  rw [Nd.val_eq] at hck hwr ⊢
  obtain ⟨c, hc⟩ : ∃ c, D.check 1 = c := ⟨_, rfl⟩
  have hb0 : Below w.heap.size w (w.alloc (.cells #[.int .u8 k, .string ⟨t.toArray⟩, .slice ka ks.length kc, .slice da ds.length dc, .int .i64 ln] 26)) := (Below.refl _ w).alloc (Nat.le_refl _) _
  obtain ⟨W, hW⟩ : ∃ W, w.alloc (.cells #[.int .u8 k, .string ⟨t.toArray⟩, .slice ka ks.length kc, .slice da ds.length dc, .int .i64 ln] 26) = W := ⟨_, rfl⟩
  have g0 : W.heap[w.heap.size]? = some (.cells #[.int .u8 k, .string ⟨t.toArray⟩, .slice ka ks.length kc, .slice da ds.length dc, .int .i64 ln] 26) := by rw [← hW]; exact World.alloc_heap_new w _
  have hs : W.heap.size = w.heap.size + 1 := by rw [← hW]; simp
  rw [hW] at hb0
  have hck0 := hck W hb0
  rw [hc] at hck0
  obtain ⟨⟨c0, _⟩, ⟨c1, _⟩, ⟨c2, _⟩, ⟨c3, _⟩, ⟨c4, _⟩⟩ := five_cell g0
  have HC := hide hck0
  have HW := hide hW
  have HG0 := hide g0
  have HIN := hide hin
  have HLT := hide hlt
  clear hck hck0 hW g0 hD hin hlt
  by_cases hz : c = 0
  rotate_left
  · have jn : (c != 0) = true := by simpa using hz
    have hp : D.print = ([], c) := by unfold P20.T.print; rw [hc, if_pos hz]
    rw [hp]
    clear hp hz hc hwr hlen
    go_enter Tryz.func14, Tryz.ntmps14
    go_upto_region 1 with fail
    rw [unhide HW]
    go_wp2_with (go_at_call 16; refine (unhide HC).mono ?_; rintro e w1 ⟨rfl, hb1⟩)
    go_ret2
    exact ⟨_, rfl, rfl, hb0.trans (hb1.mono (by omega))⟩
  subst hz
  have hl := hlen hc
  have hwc := fun (W1 : World) (B1 : Bld W1 W1.heap.size (.pointer none) []) => B1
  have hws : ∀ (W1 : World) (b : Nat), Below w.heap.size w W1 → w.heap.size ≤ b → Bld W1 b (.pointer none) [] → Calls Tryz.prog 38 #[.pointer (some ⟨b, 0, none⟩), .agg #[.int .u8 k, .string ⟨t.toArray⟩, .slice ka ks.length kc, .slice da ds.length dc, .int .i64 ln], .string ⟨#[]⟩, .string ⟨#[]⟩] W1
      (WrPost W1 b (D.write [] [])) := fun W1 b hb hbb hB => by
    have := hwr b (.pointer none) [] W1 ((unhide HIN).below hb) (fun r hr => by have := unhide HLT r hr; omega) hc (by show 0 ≤ _; omega) (by split <;> (show 0 ≤ _; omega)) hB (.inl rfl) (by simpa using hl)
    simpa using this
  have HWS := hide hws
  have hp : D.print = if 1048576 < (D.write [] []).length then ([], 2) else (D.write [] [], 0) := by unfold P20.T.print; rw [if_neg (by simpa using hc)]
  rw [hp]
  obtain ⟨out, hout⟩ : ∃ out, D.write [] [] = out := ⟨_, rfl⟩
  rw [hout] at HWS hl ⊢
  clear hws hwc hwr hlen hp hc hout
  by_cases hbig : 1048576 < out.length
  · have jb : (1048576 : Int) < (out.length : Int) := by omega
    rw [if_pos hbig]
    clear hbig
    go_enter Tryz.func14, Tryz.ntmps14
    go_upto_region 1 with fail
    rw [unhide HW]
    go_upto_region 5 with (go_at_call 16; refine (unhide HC).mono ?_; rintro e w1 ⟨rfl, hb1⟩)
    obtain ⟨V, hV⟩ : ∃ V, w1.alloc (.cells #[.pointer none, .slice none 0 0] 69) = V := ⟨_, rfl⟩
    have hBV : Bld V w1.heap.size (.pointer none) [] := by rw [← hV]; exact ⟨_, World.alloc_heap_new w1 _, World.ownsRow_nil _ _ _ _⟩
    have hs1 := hb1.size
    have hb01 : Below w.heap.size w w1 := hb0.trans (hb1.mono (by omega))
    have hbV : Below w.heap.size w V := by rw [← hV]; exact hb01.alloc (by omega) _
    have hgV := (show V.heap[w.heap.size]? = w1.heap[w.heap.size]? by rw [← hV]; exact Below.heap_alloc _ _ _ (by omega)).trans ((hb1.block _ (by omega)).trans (unhide HG0))
    rw [hV]
    obtain ⟨⟨z0, _⟩, ⟨z1, _⟩, ⟨z2, _⟩, ⟨z3, _⟩, ⟨z4, _⟩⟩ := five_cell hgV
    have HBV := hide hBV
    have hle : w.heap.size ≤ w1.heap.size := by omega
    obtain ⟨b, hb⟩ : ∃ b, w1.heap.size = b := ⟨_, rfl⟩
    rw [hb] at HBV hle ⊢
    clear hV hBV hb hgV hb01 hb1 hs1
    go_wp2_with (first
      | (go_at_call 38; refine (unhide HWS V b hbV hle (unhide HBV)).mono ?_; rintro e w3 ⟨rfl, HB3, hb3, _, _⟩)
      | (go_at_call 39; refine (Len20_any b _ _ w3 (unhide HB3) (.inr rfl)).mono ?_; rintro e w4 ⟨rfl, rfl⟩)
      | (go_at_call 40; refine (String_any b _ _ w3 (unhide HB3) (.inr rfl)).mono ?_; rintro e w5 ⟨o, rfl, HO, hb5⟩))
    go_ret2
    exact ⟨_, rfl, rfl, hbV.trans (hb3.mono hle)⟩
  · have jb : (out.length : Int) ≤ 1048576 := by omega
    rw [if_neg hbig]
    clear hbig
    go_enter Tryz.func14, Tryz.ntmps14
    go_upto_region 1 with fail
    rw [unhide HW]
    go_upto_region 5 with (go_at_call 16; refine (unhide HC).mono ?_; rintro e w1 ⟨rfl, hb1⟩)
    obtain ⟨V, hV⟩ : ∃ V, w1.alloc (.cells #[.pointer none, .slice none 0 0] 69) = V := ⟨_, rfl⟩
    have hBV : Bld V w1.heap.size (.pointer none) [] := by rw [← hV]; exact ⟨_, World.alloc_heap_new w1 _, World.ownsRow_nil _ _ _ _⟩
    have hs1 := hb1.size
    have hb01 : Below w.heap.size w w1 := hb0.trans (hb1.mono (by omega))
    have hbV : Below w.heap.size w V := by rw [← hV]; exact hb01.alloc (by omega) _
    have hgV := (show V.heap[w.heap.size]? = w1.heap[w.heap.size]? by rw [← hV]; exact Below.heap_alloc _ _ _ (by omega)).trans ((hb1.block _ (by omega)).trans (unhide HG0))
    rw [hV]
    obtain ⟨⟨z0, _⟩, ⟨z1, _⟩, ⟨z2, _⟩, ⟨z3, _⟩, ⟨z4, _⟩⟩ := five_cell hgV
    have HBV := hide hBV
    have hle : w.heap.size ≤ w1.heap.size := by omega
    obtain ⟨b, hb⟩ : ∃ b, w1.heap.size = b := ⟨_, rfl⟩
    rw [hb] at HBV hle ⊢
    clear hV hBV hb hgV hb01 hb1 hs1
    go_wp2_with (first
      | (go_at_call 38; refine (unhide HWS V b hbV hle (unhide HBV)).mono ?_; rintro e w3 ⟨rfl, HB3, hb3, _, _⟩)
      | (go_at_call 39; refine (Len20_any b _ _ w3 (unhide HB3) (.inr rfl)).mono ?_; rintro e w4 ⟨rfl, rfl⟩)
      | (go_at_call 40; refine (String_any b _ _ w3 (unhide HB3) (.inr rfl)).mono ?_; rintro e w5 ⟨o, rfl, HO, hb5⟩))
    go_ret2
    exact ⟨o, rfl, HO, (hbV.trans (hb3.mono hle)).trans (hb5.mono hle)⟩
end Go.Proofs.YtnjokdbblmlhhaaGreatDoor
namespace Go.Proofs.YtnjokdbblmlhhaaGreatDoor
set_option linter.unusedVariables false
set_option linter.unusedSimpArgs false
open Go.RowKit
/-- the place of a kid, by a key or a number; below 0: there is none -/
def kIdx (k : Nat) (ks : List (List UInt8)) (p : List UInt8) : Int := if k = 3 then Lib.idxOfS (ks.map bz) (bz p) else if k = 2 then (if (P18.number p).2 = 0 then (P18.number p).1 else -1) else -1
def Nd.next (d : Nd) (p : List UInt8) : Option Nd := if kIdx d.kind d.keys p < 0 ∨ (d.kids.length : Int) ≤ kIdx d.kind d.keys p then none else d.kids[(kIdx d.kind d.keys p).toNat]?
/-- a part of a tree -/
def Nd.at : Nd → List (List UInt8) → Option Nd
  | d, [] => some d
  | d, p :: ps => match d.next p with
    | none => none
    | some e => e.at ps
theorem Nd.next_none {d : Nd} {p : List UInt8} (h : kIdx d.kind d.keys p < 0 ∨ (d.kids.length : Int) ≤ kIdx d.kind d.keys p) : d.next p = none := by unfold Nd.next; rw [if_pos h]
theorem Nd.next_some {d : Nd} {p : List UInt8} {i : Nat} {e : Nd} (h : kIdx d.kind d.keys p = i) (he : d.kids[i]? = some e) : d.next p = some e := by
  have hl := (List.getElem?_eq_some_iff.1 he).1
  unfold Nd.next
  rw [if_neg (by omega), h]
  exact he
theorem results_ct {fn : Func} {p q : Tmp} {tp : TypeId} (h : fn.results = #[.cell p tp, .tmp q]) (tmps : Array Value) (P : Program) (w : World) (g1 : Nat) (v1 v2 : Value)
    (hp : tmps.getD p undef = .pointer (some ⟨g1, 0, none⟩)) (hl : (loadVar tp ⟨g1, 0, none⟩).run P w = .ok v1 w) (hq : tmps.getD q undef = v2) :
    (results fn tmps).run P w = .ok (.tuple #[v1, v2]) w := by
  have hp' : tmps[p]?.getD undef = .pointer (some ⟨g1, 0, none⟩) := by simpa using hp
  have hq' : tmps[q]?.getD undef = v2 := by simpa using hq
  simp [results, h, hp', hq', asAddr, Sem.run_bind, Result.andThen, hl]
/-- what is found -/
def AtPost (w : World) (r : Option Nd) (e : Ending) (w' : World) : Prop :=
  (∃ k t ka kc ks da dc ds l, r = some (.mk k t ka kc ks da dc ds l) ∧ e = .returned (.tuple #[.agg #[.int .u8 k, .string ⟨t.toArray⟩, .slice ka ks.length kc, .slice da ds.length dc, .int .i64 l], .bool true]) ∧ Hid ((Nd.mk k t ka kc ks da dc ds l).In w' ∧ ∀ g, (Nd.mk k t ka kc ks da dc ds l).blk g → g < w.heap.size) ∧ Below w.heap.size w w') ∨
  (r = none ∧ e = .returned (.tuple #[.agg #[.int .u8 0, .string ⟨#[]⟩, .slice none 0 0, .slice none 0 0, .int .i64 0], .bool false]) ∧ Below w.heap.size w w')
set_option maxRecDepth 100000 in
set_option maxHeartbeats 40000000 in
theorem At20_any (d : Nd) (a : Option Addr) (c : Nat) (ps : List (List UInt8)) (w : World) (hin : d.In w) (hps : InS w a ps) (hpl : ps.length ≤ 1000000000) (hpx : ∀ x ∈ ps, x.length ≤ 9223372036854775807) :
    Calls Tryz.prog 24 #[d.val, .slice a ps.length c] w (AtPost w (d.at ps)) := by
  obtain ⟨k, t, ka, kc, ks, da, dc, ds, ln⟩ := d
  rw [Nd.val_eq]
  obtain ⟨n, hn⟩ : ∃ n, ps.length = n := ⟨_, rfl⟩
  rw [hn] at hpl ⊢
  obtain ⟨W, hW⟩ : ∃ W, (w.alloc (.cells #[.int .u8 k, .string ⟨t.toArray⟩, .slice ka ks.length kc, .slice da ds.length dc, .int .i64 ln] 26)).alloc (.cells #[.int .u8 0, .string ⟨#[]⟩, .slice none 0 0, .slice none 0 0, .int .i64 0] 26) = W := ⟨_, rfl⟩
  obtain ⟨H, hH⟩ : ∃ H, w.heap.size = H := ⟨_, rfl⟩
  have hs0 : W.heap.size = H + 1 + 1 := by rw [← hW]; simp; omega
  have hb0 : Below H w W := by rw [← hW]; exact ((Below.refl _ w).alloc (by omega) _).alloc (by simp; omega) _
  have g0 : W.heap[H]? = some (.cells #[.int .u8 k, .string ⟨t.toArray⟩, .slice ka ks.length kc, .slice da ds.length dc, .int .i64 ln] 26) := by
    rw [← hW, ← hH]; exact (Below.heap_alloc _ _ _ (by simp)).trans (World.alloc_heap_new w _)
  have g1 : W.heap[H + 1]? = some (.cells #[.int .u8 0, .string ⟨#[]⟩, .slice none 0 0, .slice none 0 0, .int .i64 0] 26) := by
    rw [← hW, ← hH]
    have := World.alloc_heap_new (w.alloc (.cells #[.int .u8 k, .string ⟨t.toArray⟩, .slice ka ks.length kc, .slice da ds.length dc, .int .i64 ln] 26)) (.cells #[.int .u8 0, .string ⟨#[]⟩, .slice none 0 0, .slice none 0 0, .int .i64 0] 26)
    rw [World.size_alloc] at this
    exact this
  have hlt : ∀ r, (Nd.mk k t ka kc ks da dc ds ln).blk r → r < H := fun r hr => by have := hin.lt hr; omega
  have HN := hide hn
  have HP := hide hps
  have HPX := hide hpx
  have HW := hide hW
  have HI0 := hide (show (Nd.mk k t ka kc ks da dc ds ln).In w ∧ ∀ r, (Nd.mk k t ka kc ks da dc ds ln).blk r → r < H from ⟨hin, hlt⟩)
  have HG0 := hide g0
  have HG1 := hide g1
  have HB0 := hide hb0
  have HS0 := hide hs0
  clear hn hps hpx hW hin hlt g0 g1 hb0 hs0
  go_enter Tryz.func24, Tryz.ntmps24
  go_upto_region 1 with fail
  try rw [hH]
  try rw [unhide HW]
  go_wp2
  go_loopg [13] n (fun g s13 wx => ∃ (i : Nat) (k1 : Nat) (t1 : List UInt8) (ka1 : Option Addr) (kc1 : Nat) (ks1 : List (List UInt8)) (da1 : Option Addr) (dc1 : Nat) (ds1 : List Nd) (l1 : Int), i + g = n ∧ s13 = .int .i64 i ∧
    Hid ((Nd.mk k1 t1 ka1 kc1 ks1 da1 dc1 ds1 l1).In w ∧ ∀ r, (Nd.mk k1 t1 ka1 kc1 ks1 da1 dc1 ds1 l1).blk r → r < H) ∧ Hid ((Nd.mk k t ka kc ks da dc ds ln).at ps = (Nd.mk k1 t1 ka1 kc1 ks1 da1 dc1 ds1 l1).at (ps.drop i)) ∧
    Hid (wx.heap[H]? = some (.cells #[.int .u8 k1, .string ⟨t1.toArray⟩, .slice ka1 ks1.length kc1, .slice da1 ds1.length dc1, .int .i64 l1] 26)) ∧ Hid (wx.heap[H + 1]? = some (.cells #[.int .u8 0, .string ⟨#[]⟩, .slice none 0 0, .slice none 0 0, .int .i64 0] 26)) ∧ Hid (Below H w wx))
  case atStart => exact ⟨0, k, t, ka, kc, ks, da, dc, ds, ln, by omega, by go_num, HI0, hide rfl, HG0, HG1, HB0⟩
  case round =>
    obtain ⟨i, k1, t1, ka1, kc1, ks1, da1, dc1, ds1, l1, hig, rfl, HI, HA, HG, HZ, HB⟩ := hrel
    obtain ⟨⟨x0, f0⟩, ⟨x1, f1⟩, ⟨x2, f2⟩, ⟨x3, f3⟩, ⟨x4, f4⟩⟩ := five_cell (unhide HG)
    obtain ⟨⟨z0, q0⟩, ⟨z1, q1⟩, ⟨z2, q2⟩, ⟨z3, q3⟩, ⟨z4, q4⟩⟩ := five_cell (unhide HZ)
    cases gk with
    | zero =>
      have e1 : (n : Int) = (i : Int) := by omega
      have HE := hide (show i = n by omega)
      go_wp2
      have hb := unhide HB
      obtain ⟨hi1, hi2⟩ := unhide HI
      refine bodyPost_ret (results_ct rfl _ _ _ _ _ _ rfl (run_loadVar_row _ _ _ _ _ _ _ (five_set (unhide HZ) _ _ _ _ _) Tryz.underlying26 rfl (by kernel_rfl)) rfl) rfl (.inl ⟨k1, t1, ka1, kc1, ks1, da1, dc1, ds1, l1, ?_, rfl, hide ⟨hi1.keep (fun r hr => (five_other (by have := hi2 r hr; omega) _ _ _ _ _).trans (hb.block r (hi2 r hr))), fun g hg => by rw [hH]; exact hi2 g hg⟩, ?_⟩)
      · rw [unhide HA, List.drop_of_length_le (by rw [unhide HN]; have := unhide HE; omega)]; rfl
      · rw [hH]
        exact below_five hb (by omega) _ _ _ _ _
    | succ g' =>
      have hlt : (i : Int) < (n : Int) := by omega
      have hki : IntKind.i64.wrap ((i : Int) + 1) = (i : Int) + 1 := IntWalk.i64_in _ (by omega)
      obtain ⟨p, hgp⟩ := nth_of (unhide HN) (show i < n by omega)
      have hpl2 := unhide HPX p (List.mem_of_getElem? hgp)
      have hdr : ps.drop i = p :: ps.drop (i + 1) := by
        obtain ⟨hl2, rfl⟩ := List.getElem?_eq_some_iff.1 hgp
        exact List.drop_eq_getElem_cons hl2
      have hA := unhide HA
      rw [hdr, Nd.at] at hA
      have hpw := unhide HP i p hgp
      obtain ⟨bp, op, rfl, hcp⟩ := hpw
      have hbp := cellLt hcp
      have hcp2 : wr.cell? ⟨bp, op + i, none⟩ = some (.string ⟨p.toArray⟩) := (cell_of_block ((unhide HB).block bp (by omega)) _).trans hcp
      obtain ⟨K, hK⟩ : ∃ K, kIdx k1 ks1 p = K := ⟨_, rfl⟩
      have HK := hide hK
      have HA2 := hide hA
      have hbr := (unhide HB).size
      have hbpw : bp < wr.heap.size := by omega
      have hkin : InS wr ka1 ks1 := by
        have h1 := (unhide HI).1.fit.keys
        simp only [Nd.ka, Nd.keys] at h1
        exact h1.keep (fun r hn hr => (unhide HB).block r ((unhide HI).2 r (by rw [blk_eq]; exact .inl ⟨hn, hr⟩)))
      have hkl := (unhide HI).1.fit.keysL
      have hdl := (unhide HI).1.fit.kidsL
      simp only [Nd.keys, Nd.kids] at hkl hdl
      have hdl2 : (ds1.length : Int) ≤ 9223372036854775807 := by unfold maxLen at hdl; omega
      have hix := index_any ka1 kc1 ks1 p wr hkin hkl
      have HIX := hide hix
      have hnu := fun W => Number_all ⟨p.toArray⟩ W (by rw [Lib.size_eq]; show p.length ≤ 9223372036854775807; omega)
      simp only [list_data] at hnu
      have HNU := hide hnu
      clear hA hcp hK hkin hix hnu hgp hdr hdl hkl
      have hHl : H + 1 < wr.heap.size := (Array.getElem?_eq_some_iff.1 (unhide HZ)).1
      by_cases h3 : k1 = 3
      · subst h3
        have hKe : Lib.idxOfS (ks1.map bz) (bz p) = K := by have := unhide HK; unfold kIdx at this; rw [if_pos rfl] at this; exact this
        have hix := unhide HIX
        rw [hKe] at hix
        have HIX := hide hix
        have HGV := HG
        have HZV := HZ
        have HBV := HB
        clear hix hKe
        rcases Int.lt_or_le K 0 with jK | jK
        ·
          have HAF := hide (show (Nd.mk k t ka kc ks da dc ds ln).at ps = none from (unhide HA2).trans (by rw [Nd.next_none (d := .mk 3 t1 ka1 kc1 ks1 da1 dc1 ds1 l1) (p := p) (by show kIdx 3 ks1 p < 0 ∨ (ds1.length : Int) ≤ kIdx 3 ks1 p; rw [unhide HK]; omega)]))
          go_wp2_with (go_at_call 51; refine (unhide HIX).mono ?_; rintro e' w' ⟨rfl, rfl⟩)
          refine bodyPost_ret (results_ct rfl _ _ _ _ _ _ rfl (run_loadVar_row _ _ _ _ _ _ _ (five_set (unhide HZV) _ _ _ _ _) Tryz.underlying26 rfl (by kernel_rfl)) rfl) rfl (.inr ⟨unhide HAF, rfl, ?_⟩)
          have hb := unhide HBV
          rw [hH]
          exact below_five hb (by omega) _ _ _ _ _

        rcases Int.lt_or_le K (ds1.length : Int) with jL | jL
        ·
          obtain ⟨i2, rfl⟩ : ∃ i2 : Nat, K = (i2 : Int) := ⟨K.toNat, by omega⟩
          have hi2 : i2 < ds1.length := by omega
          obtain ⟨e, hge⟩ : ∃ e, ds1[i2]? = some e := ⟨_, List.getElem?_eq_getElem hi2⟩
          obtain ⟨hI1, hI2⟩ := unhide HI
          have hkd := hI1.kids
          simp only [Nd.da, Nd.kids] at hkd
          obtain ⟨b3, o3, k3, t3, ka3, kc3, ks3, da3, dc3, ds3, l3, rfl, rfl, e0, e1, e2, e3, e4, hin3⟩ := kid_open hkd hge
          have hnx := Nd.next_some (d := .mk 3 t1 ka1 kc1 ks1 (some ⟨b3, o3, none⟩) dc1 ds1 l1) (p := p) (i := i2) (unhide HK) hge
          have hA2 := unhide HA2
          rw [hnx] at hA2
          have hb3 : b3 < H := hI2 b3 (by rw [blk_eq]; exact .inr (.inl ⟨by rintro e; simp only [Nd.kids] at e; rw [e] at hi2; simp at hi2, o3, rfl⟩))
          have hbb := (unhide HBV).block b3 hb3
          have HIN := hide (show (Nd.mk k3 t3 ka3 kc3 ks3 da3 dc3 ds3 l3).In w ∧ ∀ r, (Nd.mk k3 t3 ka3 kc3 ks3 da3 dc3 ds3 l3).blk r → r < H from ⟨hin3, fun r hr => hI2 r (by rw [blk_eq]; exact .inr (.inr ((blkL_iff r _).2 ⟨_, List.mem_of_getElem? hge, hr⟩)))⟩)
          replace e0 := (cell_of_block hbb _).trans e0
          replace e1 := (cell_of_block hbb _).trans e1
          replace e2 := (cell_of_block hbb _).trans e2
          replace e3 := (cell_of_block hbb _).trans e3
          replace e4 := (cell_of_block hbb _).trans e4
          have HA3 := hide hA2
          have hii : (i2 : Int) < (ds1.length : Int) := by omega
          have hbl3 := cellLt e0
          clear hA2 hnx hkd hI1 hI2 hge hbb hin3 hi2
          go_wp2_with (go_at_call 51; refine (unhide HIX).mono ?_; rintro e' w' ⟨rfl, rfl⟩)
          go_roundg g'
          case measure => omega
          case rel =>
            have hb := unhide HBV
            exact ⟨i + 1, k3, t3, ka3, kc3, ks3, da3, dc3, ds3, l3, by omega, by go_num, HIN, HA3, hide (five_set (unhide HGV) _ _ _ _ _), hide ((five_other (by omega) _ _ _ _ _).trans (unhide HZV)), hide (below_five hb (by omega) _ _ _ _ _)⟩

        ·
          have HAF := hide (show (Nd.mk k t ka kc ks da dc ds ln).at ps = none from (unhide HA2).trans (by rw [Nd.next_none (d := .mk 3 t1 ka1 kc1 ks1 da1 dc1 ds1 l1) (p := p) (by show kIdx 3 ks1 p < 0 ∨ (ds1.length : Int) ≤ kIdx 3 ks1 p; rw [unhide HK]; omega)]))
          go_wp2_with (go_at_call 51; refine (unhide HIX).mono ?_; rintro e' w' ⟨rfl, rfl⟩)
          refine bodyPost_ret (results_ct rfl _ _ _ _ _ _ rfl (run_loadVar_row _ _ _ _ _ _ _ (five_set (unhide HZV) _ _ _ _ _) Tryz.underlying26 rfl (by kernel_rfl)) rfl) rfl (.inr ⟨unhide HAF, rfl, ?_⟩)
          have hb := unhide HBV
          rw [hH]
          exact below_five hb (by omega) _ _ _ _ _

      have j3 : ((k1 : Int) == 3) = false := by rw [beq_eq_false_iff_ne]; omega
      by_cases h2 : k1 = 2
      · subst h2
        have hKe : (if (P18.number p).2 = 0 then (P18.number p).1 else -1) = K := by have := unhide HK; unfold kIdx at this; rw [if_neg (by omega), if_pos rfl] at this; exact this
        obtain ⟨⟨q, qe⟩, hq⟩ : ∃ q, P18.number p = q := ⟨_, rfl⟩
        rw [hq] at hKe
        simp only at hKe
        have hnu := unhide HNU wr
        simp only [hq] at hnu
        have HNU := hide hnu
        clear hnu hq h3
        go_upto_region 10 with (go_at_call 52; refine (unhide HNU).mono ?_; rintro e' w2 ⟨rfl, hb2⟩)
        have HGV := hide ((hb2.block H (by omega)).trans (unhide HG))
        have HZV := hide ((hb2.block (H + 1) (by omega)).trans (unhide HZ))
        have HBV := hide ((unhide HB).trans (hb2.mono (by omega)))
        have hb2s := hb2.size
        clear x0 f0 x1 f1 x2 f2 x3 f3 x4 f4 z0 q0 z1 q1 z2 q2 z3 q3 z4 q4 hb2
        obtain ⟨⟨x0, f0⟩, ⟨x1, f1⟩, ⟨x2, f2⟩, ⟨x3, f3⟩, ⟨x4, f4⟩⟩ := five_cell (unhide HGV)
        obtain ⟨⟨z0, q0⟩, ⟨z1, q1⟩, ⟨z2, q2⟩, ⟨z3, q3⟩, ⟨z4, q4⟩⟩ := five_cell (unhide HZV)
        by_cases hqe : qe = 0
        · rw [if_pos hqe] at hKe
          subst hqe
          subst hKe
          rcases Int.lt_or_le q 0 with jq | jK
          ·
            have HAF := hide (show (Nd.mk k t ka kc ks da dc ds ln).at ps = none from (unhide HA2).trans (by rw [Nd.next_none (d := .mk 2 t1 ka1 kc1 ks1 da1 dc1 ds1 l1) (p := p) (by show kIdx 2 ks1 p < 0 ∨ (ds1.length : Int) ≤ kIdx 2 ks1 p; rw [unhide HK]; omega)]))
            go_wp2
            refine bodyPost_ret (results_ct rfl _ _ _ _ _ _ rfl (run_loadVar_row _ _ _ _ _ _ _ (five_set (unhide HZV) _ _ _ _ _) Tryz.underlying26 rfl (by kernel_rfl)) rfl) rfl (.inr ⟨unhide HAF, rfl, ?_⟩)
            have hb := unhide HBV
            rw [hH]
            exact below_five hb (by omega) _ _ _ _ _

          rcases Int.lt_or_le q (ds1.length : Int) with jL | jL
          ·
            obtain ⟨i2, rfl⟩ : ∃ i2 : Nat, q = (i2 : Int) := ⟨q.toNat, by omega⟩
            have hi2 : i2 < ds1.length := by omega
            obtain ⟨e, hge⟩ : ∃ e, ds1[i2]? = some e := ⟨_, List.getElem?_eq_getElem hi2⟩
            obtain ⟨hI1, hI2⟩ := unhide HI
            have hkd := hI1.kids
            simp only [Nd.da, Nd.kids] at hkd
            obtain ⟨b3, o3, k3, t3, ka3, kc3, ks3, da3, dc3, ds3, l3, rfl, rfl, e0, e1, e2, e3, e4, hin3⟩ := kid_open hkd hge
            have hnx := Nd.next_some (d := .mk 2 t1 ka1 kc1 ks1 (some ⟨b3, o3, none⟩) dc1 ds1 l1) (p := p) (i := i2) (unhide HK) hge
            have hA2 := unhide HA2
            rw [hnx] at hA2
            have hb3 : b3 < H := hI2 b3 (by rw [blk_eq]; exact .inr (.inl ⟨by rintro e; simp only [Nd.kids] at e; rw [e] at hi2; simp at hi2, o3, rfl⟩))
            have hbb := (unhide HBV).block b3 hb3
            have HIN := hide (show (Nd.mk k3 t3 ka3 kc3 ks3 da3 dc3 ds3 l3).In w ∧ ∀ r, (Nd.mk k3 t3 ka3 kc3 ks3 da3 dc3 ds3 l3).blk r → r < H from ⟨hin3, fun r hr => hI2 r (by rw [blk_eq]; exact .inr (.inr ((blkL_iff r _).2 ⟨_, List.mem_of_getElem? hge, hr⟩)))⟩)
            replace e0 := (cell_of_block hbb _).trans e0
            replace e1 := (cell_of_block hbb _).trans e1
            replace e2 := (cell_of_block hbb _).trans e2
            replace e3 := (cell_of_block hbb _).trans e3
            replace e4 := (cell_of_block hbb _).trans e4
            have HA3 := hide hA2
            have hii : (i2 : Int) < (ds1.length : Int) := by omega
            have hbl3 := cellLt e0
            clear hA2 hnx hkd hI1 hI2 hge hbb hin3 hi2
            go_wp2
            go_roundg g'
            case measure => omega
            case rel =>
              have hb := unhide HBV
              exact ⟨i + 1, k3, t3, ka3, kc3, ks3, da3, dc3, ds3, l3, by omega, by go_num, HIN, HA3, hide (five_set (unhide HGV) _ _ _ _ _), hide ((five_other (by omega) _ _ _ _ _).trans (unhide HZV)), hide (below_five hb (by omega) _ _ _ _ _)⟩

          ·
            have HAF := hide (show (Nd.mk k t ka kc ks da dc ds ln).at ps = none from (unhide HA2).trans (by rw [Nd.next_none (d := .mk 2 t1 ka1 kc1 ks1 da1 dc1 ds1 l1) (p := p) (by show kIdx 2 ks1 p < 0 ∨ (ds1.length : Int) ≤ kIdx 2 ks1 p; rw [unhide HK]; omega)]))
            go_wp2
            refine bodyPost_ret (results_ct rfl _ _ _ _ _ _ rfl (run_loadVar_row _ _ _ _ _ _ _ (five_set (unhide HZV) _ _ _ _ _) Tryz.underlying26 rfl (by kernel_rfl)) rfl) rfl (.inr ⟨unhide HAF, rfl, ?_⟩)
            have hb := unhide HBV
            rw [hH]
            exact below_five hb (by omega) _ _ _ _ _

        · rw [if_neg hqe] at hKe
          subst hKe
          have jq : (qe == 0) = false := by rw [beq_eq_false_iff_ne]; exact hqe
          clear hqe
          have HAF := hide (show (Nd.mk k t ka kc ks da dc ds ln).at ps = none from (unhide HA2).trans (by rw [Nd.next_none (d := .mk 2 t1 ka1 kc1 ks1 da1 dc1 ds1 l1) (p := p) (by show kIdx 2 ks1 p < 0 ∨ (ds1.length : Int) ≤ kIdx 2 ks1 p; rw [unhide HK]; omega)]))
          go_wp2
          refine bodyPost_ret (results_ct rfl _ _ _ _ _ _ rfl (run_loadVar_row _ _ _ _ _ _ _ (five_set (unhide HZV) _ _ _ _ _) Tryz.underlying26 rfl (by kernel_rfl)) rfl) rfl (.inr ⟨unhide HAF, rfl, ?_⟩)
          have hb := unhide HBV
          rw [hH]
          exact below_five hb (by omega) _ _ _ _ _

      · have j2 : ((k1 : Int) == 2) = false := by rw [beq_eq_false_iff_ne]; omega
        have hKe : K = -1 := by have := unhide HK; unfold kIdx at this; rw [if_neg h3, if_neg h2] at this; exact this.symm
        subst hKe
        have HGV := HG
        have HZV := HZ
        have HBV := HB
        clear h3 h2
        have HAF := hide (show (Nd.mk k t ka kc ks da dc ds ln).at ps = none from (unhide HA2).trans (by rw [Nd.next_none (d := .mk k1 t1 ka1 kc1 ks1 da1 dc1 ds1 l1) (p := p) (by show kIdx k1 ks1 p < 0 ∨ (ds1.length : Int) ≤ kIdx k1 ks1 p; rw [unhide HK]; omega)]))
        go_wp2
        refine bodyPost_ret (results_ct rfl _ _ _ _ _ _ rfl (run_loadVar_row _ _ _ _ _ _ _ (five_set (unhide HZV) _ _ _ _ _) Tryz.underlying26 rfl (by kernel_rfl)) rfl) rfl (.inr ⟨unhide HAF, rfl, ?_⟩)
        have hb := unhide HBV
        rw [hH]
        exact below_five hb (by omega) _ _ _ _ _

end Go.Proofs.YtnjokdbblmlhhaaGreatDoor
