/- The reference's Lines. -/
import Derived.Test.YtnjokdbblmlhhaaGreatDoorWR20w
import Derived.Test.YtnjokdbblmlhhaaGreatDoorGR20
import Derived.Test.YtnjokdbblmlhhaaGreatDoorGR18
namespace Go.Proofs.YtnjokdbblmlhhaaGreatDoor
set_option linter.unusedVariables false
set_option linter.unusedSimpArgs false
open Go.RowKit
theorem bytes_eq20 {b : ByteArray} {l : List UInt8} (h : b.data.toList = l) : b = ⟨l.toArray⟩ := by subst h; cases b; rfl
theorem wpList_appStr3 {w : World} {B : Nat} {v : Value} {ls : List (List UInt8)} {ops : Array Oper} {rest : List Oper} {o : Oper} {a : Act} {Q : Exit → Act → World → Prop} (hgd : o.guard = none) (s x : Operand)
    (ho : o.op = .call { callee := .builtin .append, args := #[s, x], argTypes := #[23, 23] })
    (hs : a.eval s = v) (hk : Strs w B v ls) (b : ByteArray) (l : List UInt8) (hb : b.data.toList = l)
    (hx : a.eval x = .slice (some ⟨w.heap.size, 0, none⟩) 1 1) (hlen : ls.length + 1 ≤ 1000000000) (hB : B ≤ w.heap.size)
    (h : ∀ v' w', Strs w' B v' (ls ++ [l]) → w.grownBy w' v.ownBlock → (v'.ownBlock = v.ownBlock ∨ ∃ g, v'.ownBlock = some g ∧ w.heap.size ≤ g) → wpList Tryz.prog ops Q rest (a.put o.dst v') w') :
    wpList Tryz.prog ops Q (o :: rest) a (w.alloc (.cells #[.string b] 9)) := by
  obtain rfl := bytes_eq20 hb
  exact wpList_appStr2 hgd s x ho hs hk l hx hlen hB h
theorem step_appStr {w : World} {B : Nat} {v : Value} {ls : List (List UInt8)} {ops : Array Oper} {o : Oper} {a : Act} {K : Act → World → Prop} {Q : Exit → Act → World → Prop} {E : Prop} (hgd : o.guard = none) (s x : Operand)
    (ho : o.op = .call { callee := .builtin .append, args := #[s, x], argTypes := #[23, 23] })
    (hs : a.eval s = v) (hk : Strs w B v ls) (b : ByteArray) (l : List UInt8) (hb : b.data.toList = l) (g cap : Nat) (hx : a.eval x = .slice (some ⟨g, 0, none⟩) 1 cap) (hnew : w.cell? ⟨g, 0, none⟩ = some (.string b))
    (hlen : ls.length + 1 ≤ 1000000000) (hB : B ≤ w.heap.size)
    (h : ∀ v' w', Strs w' B v' (ls ++ [l]) → w.grownBy w' v.ownBlock → (v'.ownBlock = v.ownBlock ∨ ∃ g, v'.ownBlock = some g ∧ w.heap.size ≤ g) → K (a.put o.dst v') w') :
    if Region.wanted o (yielded ops a.tmps) = true then Oper.wp Tryz.prog o a w K Q else E := by
  obtain rfl := bytes_eq20 hb
  obtain ⟨i, hi, hz, hsz, hby⟩ := info_parts strInfo
  refine step_append_lies (P := Tryz.prog) w hgd s x 23 ho B 9 i (.string ⟨#[]⟩) 1 16 Tryz.underlying23 hi hz hsz hby rfl (by decide) v ls.length (ls.map bsOf) hs hk.own
    ⟨g, 0, none⟩ 1 cap [.string ⟨l.toArray⟩] hx rfl (by intro j u hj; match j, hj with | 0, hj => simp at hj; subst hj; exact hnew) (by intro u hu; simp at hu; subst hu; rfl) (by decide) (by unfold maxLen; omega) (by omega) hB _ rfl ?_
  intro g' cap' w' h2 h3 hat _
  refine h _ w' ⟨?_⟩ h3 ?_
  · rw [List.map_append, List.length_append]
    exact h2
  · rcases hat with h5 | h5
    · exact .inl h5.symm
    · exact .inr ⟨g', rfl, by omega⟩
theorem strs_one (w : World) (B : Nat) (l : List UInt8) (hB : B ≤ w.heap.size) : Strs (w.alloc (.cells #[.string ⟨l.toArray⟩] 9)) B (.slice (some ⟨w.heap.size, 0, none⟩) 1 1) [l] :=
  ⟨⟨rfl, .inr ⟨_, 1, _, rfl, hB, World.alloc_heap_new w _, Nat.le_refl _, by unfold maxLen; omega, rfl, rfl⟩⟩⟩
theorem Strs.get {W : World} {B : Nat} {v : Value} {ls : List (List UInt8)} (h : Strs W B v ls) {i : Nat} {x : List UInt8} (hi : ls[i]? = some x) : ∃ b o c, v = .slice (some ⟨b, o, none⟩) ls.length c ∧ ls.length ≤ c ∧ W.cell? ⟨b, o + i, none⟩ = some (.string ⟨x.toArray⟩) := by
  obtain ⟨a, c, rfl, h1, h2, h3, h4⟩ := h.slice
  obtain ⟨b, o, rfl, hc⟩ := h3 i x hi
  exact ⟨b, o, c, rfl, h1, hc⟩
theorem cell_new1 (w : World) (v : Value) (t : TypeId) : (w.alloc (.cells #[v] t)).cell? ⟨w.heap.size, 0, none⟩ = some v := (one_cell20 (World.alloc_heap_new w (.cells #[v] t))).1
def RLinC (d : Nd) : Prop := ∀ (lv : Nat) (w : World), d.In w → Sm d.bare → d.bare.check lv = 0 → Calls Tryz.prog 41 #[d.val] w fun e w' => ∃ v, e = .returned v ∧ Hid (Strs w' (w.heap.size + 1) v d.bare.lines) ∧ Below w.heap.size w w'
theorem Sm.lines {d : P20.T} (h : Sm d) : d.lines.length ≤ 200000000 ∧ ∀ x ∈ d.lines, x.length ≤ 40000 := by
  obtain ⟨q, n, m, hs, hn, hq⟩ := h
  obtain ⟨h1, h2⟩ := P20.T.small_lines d q n m hs (by omega)
  exact ⟨by omega, fun x hx => by have := h2 x hx; omega⟩
theorem checkL_mem {lv : Nat} : ∀ {ds : List P20.T}, P20.checkL lv ds = 0 → ∀ d ∈ ds, d.check lv = 0
  | [], h, d, hd => by simp at hd
  | e :: ds, h, d, hd => by
    obtain ⟨h1, h2⟩ := P20.checkL_cons h
    rcases List.mem_cons.1 hd with rfl | hd
    · exact h1
    · exact checkL_mem h2 d hd
theorem ind_zero (k : Nat) {l : List (List UInt8)} {x : List UInt8} (h : l[0]? = some x) : P20.ind k l = ((if k = 2 then [45, 32] else [32, 32]) ++ x) :: (l.drop 1).map (fun y => [32, 32] ++ y) := by
  cases l with
  | nil => simp at h
  | cons y r =>
    simp only [List.getElem?_cons_zero, Option.some.injEq] at h
    subst h
    rfl
theorem map_drop {l : List (List UInt8)} {j : Nat} {x : List UInt8} (h : l[j]? = some x) : (l.drop j).map (fun y => ([32, 32] : List UInt8) ++ y) = ([32, 32] ++ x) :: (l.drop (j + 1)).map (fun y => [32, 32] ++ y) := by
  obtain ⟨h1, h2⟩ := List.getElem?_eq_some_iff.1 h
  rw [List.drop_eq_getElem_cons h1, h2]
  rfl
set_option maxRecDepth 100000 in
set_option maxHeartbeats 8000000 in
theorem rlin_node (k : Nat) (t : List UInt8) (ka : Option Addr) (kc : Nat) (ks : List (List UInt8)) (da : Option Addr) (dc : Nat) (ds : List Nd) (l : Int) (hds : ∀ d ∈ ds, RLinC d) : RLinC (.mk k t ka kc ks da dc ds l) := by
  intro lv w hin hok hck
  obtain ⟨q1, q2, q3, q4, q5⟩ := Sm.kid hok
  obtain ⟨hl1, hl2⟩ := Sm.lines hok
  obtain ⟨_, hk1, hk3, hodd, hct, _, hcL⟩ := P20.check_mk hck
  rw [bareL_len] at q4 hodd
  have hf := hin.fit
  have hkk := hin.kids
  have hkf := hf.keys
  simp only [Nd.keys, Nd.kc, Nd.da, Nd.kids, Nd.ka] at hkk hkf
  obtain ⟨N, hN⟩ : ∃ N, ds.length = N := ⟨_, rfl⟩
  obtain ⟨M, hM⟩ : ∃ M, ks.length = M := ⟨_, rfl⟩
  obtain ⟨H, hH⟩ : ∃ H, w.heap.size = H := ⟨_, rfl⟩
  obtain ⟨W, hW⟩ : ∃ W, w.alloc (.cells #[.int .u8 k, .string ⟨t.toArray⟩, .slice ka M kc, .slice da N dc, .int .i64 l] 26) = W := ⟨_, rfl⟩
  have hbw : Below w.heap.size w W := by rw [← hW]; exact (Below.refl _ w).alloc (Nat.le_refl _) _
  have g0 : W.heap[H]? = some (.cells #[.int .u8 k, .string ⟨t.toArray⟩, .slice ka M kc, .slice da N dc, .int .i64 l] 26) := by rw [← hW, ← hH]; exact World.alloc_heap_new _ _
  have hs0 : W.heap.size = H + 1 := by rw [← hW]; simp; omega
  obtain ⟨⟨x0, _⟩, ⟨x1, _⟩, ⟨x2, _⟩, ⟨x3, _⟩, ⟨x4, _⟩⟩ := five_cell g0
  have hmx : Tryz.prog.follows .mixedOrders = true := by kernel_rfl
  have hd5 : ∀ d ∈ ds, Sm d.bare := fun d hd => q5 _ (by rw [bareL_map]; exact List.mem_map_of_mem hd)
  have hc5 : ∀ d ∈ ds, d.bare.check (lv + 1) = 0 := fun d hd => checkL_mem hcL _ (by rw [bareL_map]; exact List.mem_map_of_mem hd)
  rw [Nd.val_eq, hN, hM, hH]
  rw [hH] at hbw
  simp only [Nd.bare] at hl1 hl2
  simp only [Nd.bare]
  rw [hM] at q2
  rw [hN] at q4
  rw [hN, hM] at hodd
  have HW := hide hW
  have HB := hide hbw
  have HH := hide hH
  have HG0 := hide g0
  have HKW := hide hkf
  have HDW := hide hkk
  have HDS := hide hds
  have HN := hide hN
  have HM := hide hM
  have HQ3 := hide q3
  have HD5 := hide hd5
  have HC5 := hide hc5
  have HS0 := hide hs0
  clear hin hok hck hf hkf hkk hN hM hH hW hbw g0 hds q3 q5 hd5 hc5 hcL hct
  by_cases hn0 : N = 0
  · obtain rfl : ds = [] := List.eq_nil_of_length_eq_zero (by rw [unhide HN]; exact hn0)
    have jn : ((N : Int) == 0) = true := by simp; omega
    rw [show P20.T.lines (.mk k t ks (bareL []) l) = [P20.leaf k t] from rfl]
    clear hl1 hl2 hodd
    by_cases h2 : k = 2
    · have j2 : ((k : Int) == 2) = true := by simp; omega
      rw [show P20.leaf k t = [91, 93] by unfold P20.leaf; rw [if_pos h2]]
      clear h2 hn0 hk1 hk3
      go_enter Tryz.func41, Tryz.ntmps41
      go_upto_region 1 with fail
      try rw [unhide HH]
      rw [unhide HW]
      go_wp2
      try rw [unhide HS0]
      go_ret
      refine ⟨_, rfl, hide ?_, (unhide HB).alloc (by have := unhide HS0; omega) _⟩
      have := strs_one W (H + 1) [91, 93] (by have := unhide HS0; omega)
      rw [unhide HS0] at this
      exact this
    · have j2 : ((k : Int) == 2) = false := by simp; omega
      by_cases h3 : k = 3
      · have j3 : ((k : Int) == 3) = true := by simp; omega
        rw [show P20.leaf k t = [123, 125] by unfold P20.leaf; rw [if_neg h2, if_pos h3]]
        clear h2 h3 hn0 hk1 hk3
        go_enter Tryz.func41, Tryz.ntmps41
        go_upto_region 1 with fail
        try rw [unhide HH]
        rw [unhide HW]
        go_wp2
        try rw [unhide HS0]
        go_ret
        refine ⟨_, rfl, hide ?_, (unhide HB).alloc (by have := unhide HS0; omega) _⟩
        have := strs_one W (H + 1) [123, 125] (by have := unhide HS0; omega)
        rw [unhide HS0] at this
        exact this
      · have j3 : ((k : Int) == 3) = false := by simp; omega
        have hp := refPut_any ⟨t.toArray⟩ W (by rw [Lib.size_eq]; show t.length ≤ 100000; omega)
        simp only [list_data] at hp
        rw [show P20.leaf k t = P18.put t by unfold P20.leaf; rw [if_neg h2, if_neg h3]]
        have HP := hide hp
        clear h2 h3 hn0 hk1 hk3 hp
        go_enter Tryz.func41, Tryz.ntmps41
        go_upto_region 1 with fail
        try rw [unhide HH]
        rw [unhide HW]
        go_wp2_with (go_at_call 79; refine (unhide HP).mono ?_; rintro e w1 ⟨b, rfl, hb, hb1⟩; have HBQ := hide hb; clear hb)
        go_ret
        have hsz := hb1.size
        refine ⟨_, rfl, hide ?_, ((unhide HB).trans (hb1.mono (by have := unhide HS0; omega))).alloc (by have := unhide HS0; omega) _⟩
        rw [bytes_eq20 (unhide HBQ)]
        exact strs_one w1 (H + 1) _ (by have := unhide HS0; omega)
  have jn : ((N : Int) == 0) = false := by simp; omega
  have hk23 : k = 2 ∨ (k = 3 ∧ M = N) := by
    rcases (show k = 1 ∨ k = 2 ∨ k = 3 by omega) with h | h | h
    · rw [h] at hodd; simp [P20.oddB] at hodd; omega
    · exact .inl h
    · rw [h] at hodd; simp [P20.oddB] at hodd; exact .inr ⟨h, by have := hodd.2; omega⟩
  have hls : P20.T.lines (.mk k t ks (bareL ds) l) = P20.linesL k ks (bareL ds) := by
    unfold P20.T.lines
    rw [if_neg (by cases ds with | nil => exact absurd (unhide HN).symm (by simpa using hn0) | cons d ds => simp [bareL])]
  obtain ⟨G, hG⟩ : ∃ G, P20.T.lines (.mk k t ks (bareL ds) l) = G := ⟨_, rfl⟩
  rw [hG] at hl1 hl2 hls ⊢
  have HG := hide hls
  have HL2 := hide hl2
  clear hls hl2 hG hodd hn0
  rcases hk23 with hk2 | ⟨hk2, hMN⟩
  · have jk2 : ((k : Int) == 2) = true := by simp; omega
    have jk3 : ((k : Int) == 3) = false := by simp; omega
    rw [hk2] at HG
    clear hk2 hk1 hk3
    go_enter Tryz.func41, Tryz.ntmps41
    go_upto_region 1 with fail
    try rw [unhide HH]
    rw [unhide HW]
    go_wp2
    go_loopg [3, 4] N (fun g s3 s4 wx => ∃ (i : Nat) (vo : Value) (acc : List (List UInt8)), i + g = N ∧ s3 = vo ∧ s4 = .int .i64 i ∧ Hid (acc ++ P20.linesL 2 (ks.drop i) (bareL (ds.drop i)) = G) ∧ Hid (Strs wx (H + 1) vo acc) ∧ Hid (Below H w wx) ∧ Hid (wx.heap[H]? = some (.cells #[.int .u8 k, .string ⟨t.toArray⟩, .slice ka M kc, .slice da N dc, .int .i64 l] 26)))
    case atStart => exact ⟨0, _, [], by omega, rfl, by go_num, hide (unhide HG).symm, hide (Strs.nil _ _), HB, HG0⟩
    case round =>
      obtain ⟨i, vo, acc, hig, rfl, rfl, HE, HSO, HBX, HGX⟩ := hrel
      clear x0 x1 x2 x3 x4
      obtain ⟨⟨x0, _⟩, ⟨x1, _⟩, ⟨x2, _⟩, ⟨x3, _⟩, ⟨x4, _⟩⟩ := five_cell (unhide HGX)
      obtain ⟨ao, co, hvo, _⟩ := (unhide HSO).slice
      subst hvo
      have hHl : H < wr.heap.size := (Array.getElem?_eq_some_iff.1 (unhide HGX)).1
      cases gk with
      | zero =>
        have e1 : (N : Int) = (i : Int) := by omega
        have hE := unhide HE
        rw [List.drop_of_length_le (l := ds) (by rw [unhide HN]; omega)] at hE
        simp only [bareL, P20.linesL, List.append_nil] at hE
        subst hE
        go_wp2
        go_ret
        exact ⟨_, rfl, HSO, unhide HBX⟩
      | succ g' =>
        have hlt : (i : Int) < (N : Int) := by omega
        have hki : IntKind.i64.wrap ((i : Int) + 1) = (i : Int) + 1 := IntWalk.i64_in _ (by omega)
        obtain ⟨d, hg1⟩ := nth_of (unhide HN) (show i < N by omega)
        have hmem := List.mem_of_getElem? hg1
        have hcl0 := unhide HDS d hmem (lv + 1)
        have hsm := unhide HD5 d hmem
        have hch := unhide HC5 d hmem
        obtain ⟨hL1, hL2⟩ := Sm.lines hsm
        have hE := unhide HE
        rw [bareL_drop hg1] at hE
        obtain ⟨LL, hLL⟩ : ∃ LL, d.bare.lines = LL := ⟨_, rfl⟩
        obtain ⟨RR, hRR⟩ : ∃ RR, P20.linesL 2 (ks.drop (i + 1)) (bareL (ds.drop (i + 1))) = RR := ⟨_, rfl⟩
        have hbxw : Below w.heap.size w wr := by rw [unhide HH]; exact unhide HBX
        have hdk := hcl0 wr
        rw [P20.linesL_two, List.tail_drop, hLL, hRR] at hE
        obtain ⟨b2, o2, k1, t1, ka1, kc1, ks1, da1, dc1, ds1, l1, rfl, rfl, y0, y1, y2, y3, y4, hin⟩ := kid_open ((unhide HDW).below hbxw) hg1
        have HRR := hide hRR
        have hcl := hdk hin hsm hch
        rw [Nd.val_eq, hLL] at hcl
        rw [hLL] at hL1 hL2
        have hln : LL ≠ [] := by rw [← hLL]; exact P20.T.lines_ne _
        have HCL := hide hcl
        have HLX := hide hL2
        have HLN := hide hln
        clear hcl hL2 hln hdk hcl0 hin hsm hch hmem hbxw
        have HE0 := hide hE
        clear hE HE hLL hRR hg1
        go_upto_region 13 with (go_at_call 41; refine (unhide HCL).mono ?_; rintro e w5 ⟨v5, rfl, HS5, hb5⟩)
        obtain ⟨a5, c5, hv5, hc5, _⟩ := (unhide HS5).slice
        subst hv5
        obtain ⟨B5, hB5⟩ : ∃ B5, wr.heap.size + 1 = B5 := ⟨_, rfl⟩
        rw [hB5] at HS5
        have HSO5 := hide ((unhide HSO).grown (grown_of_below hb5 none) (fun g e => by cases e))
        have HBX5 := hide ((unhide HBX).trans (hb5.mono (by omega)))
        have HGX5 := hide ((hb5.block H hHl).trans (unhide HGX))
        have HSEP5 := hide (show ∀ g, (Value.slice a5 LL.length c5).ownBlock = some g → (Value.slice ao acc.length co).ownBlock ≠ some g from fun g e e2 => by have := (own_block_lt (unhide HS5).own g e).1; have := (own_block_lt (unhide HSO).own g e2).2; omega)
        clear x0 x1 x2 x3 x4
        obtain ⟨⟨x0, _⟩, ⟨x1, _⟩, ⟨x2, _⟩, ⟨x3, _⟩, ⟨x4, _⟩⟩ := five_cell (unhide HGX5)
        clear y0 y1 y2 y3 y4 hb5
        go_wp2
        go_loopg [3, 6, 7] LL.length (fun g s3 s6 s7 wx => ∃ (j : Nat) (vo : Value) (acc : List (List UInt8)), j + g = LL.length ∧ s3 = vo ∧ s6 = .int .i64 j ∧ Hid (acc ++ ((if j = 0 then P20.ind 2 LL else (LL.drop j).map (fun y => [32, 32] ++ y)) ++ RR) = G) ∧ Hid (Strs wx (H + 1) vo acc) ∧ Hid (Strs wx B5 (.slice a5 LL.length c5) LL) ∧ Hid (∀ g, (Value.slice a5 LL.length c5).ownBlock = some g → vo.ownBlock ≠ some g) ∧ Hid (Below H w wx) ∧ Hid (wx.heap[H]? = some (.cells #[.int .u8 k, .string ⟨t.toArray⟩, .slice ka M kc, .slice (some ⟨b2, o2, none⟩) N dc, .int .i64 l] 26)))
        case atStart => exact ⟨0, _, acc, by omega, rfl, by go_num, hide (by rw [if_pos rfl]; exact unhide HE0), HSO5, HS5, HSEP5, HBX5, HGX5⟩
        case round =>
          obtain ⟨j, vo, acc, hjg, rfl, rfl, HE, HSO, HSL, HSEP, HBX, HGX⟩ := hrel
          obtain ⟨⟨x0, _⟩, ⟨x1, _⟩, ⟨x2, _⟩, ⟨x3, _⟩, ⟨x4, _⟩⟩ := five_cell (unhide HGX)
          obtain ⟨ao, co, hvo, _⟩ := (unhide HSO).slice
          subst hvo
          have hHl : H < wr.heap.size := (Array.getElem?_eq_some_iff.1 (unhide HGX)).1
          have hal : acc.length + 1 ≤ 400000000 := by
            have := congrArg List.length (unhide HE)
            simp only [List.length_append] at this
            omega
          have hLx : (LL.length : Int) ≤ 1000000000 := by omega
          cases gk with
          | zero =>
            have e1 : (LL.length : Int) = (j : Int) := by omega
            have hE := unhide HE
            rw [if_neg (by have := List.length_pos_iff.2 (unhide HLN); omega), List.drop_of_length_le (by omega)] at hE
            simp only [List.map_nil, List.nil_append] at hE
            have HE2 := hide hE
            clear hE HE
            go_wp2
            go_roundg g'
            case measure => omega
            case rel => exact ⟨i + 1, _, acc, by omega, rfl, by go_num, hide (by rw [unhide HRR]; exact unhide HE2), HSO, HBX, HGX⟩
          | succ g2 =>
            have hjl : (j : Int) < (LL.length : Int) := by omega
            have hkj : IntKind.i64.wrap ((j : Int) + 1) = (j : Int) + 1 := IntWalk.i64_in _ (by omega)
            obtain ⟨x, hgx⟩ := nth_of (rfl : LL.length = LL.length) (show j < LL.length by omega)
            obtain ⟨b5, o5, c6, hv6, hcl6, hcx⟩ := (unhide HSL).get hgx
            injection hv6 with e1 e2 e3
            subst e1
            subst e3
            have hxl := unhide HLX x (List.mem_of_getElem? hgx)
            have hxs : (⟨x.toArray⟩ : ByteArray).size ≤ 100000 := by rw [Lib.size_eq]; show x.length ≤ 100000; omega
            by_cases hj0 : j = 0
            · have jj : ((j : Int) == 0) = true := by simp; omega
              have hE0 : acc ++ ((([45, 32] ++ x) :: (LL.drop (j + 1)).map (fun y => [32, 32] ++ y)) ++ RR) = G := by
                have h9 := unhide HE
                rw [if_pos hj0, ind_zero 2 (by rw [← hj0]; exact hgx), if_pos rfl] at h9
                rw [hj0]; exact h9
              clear hj0
              have hE := hE0
              rw [List.cons_append, ← List.singleton_append, ← List.append_assoc] at hE
              have HE2 := hide hE
              clear hE HE hgx hE0
              go_wp2_with (at_builtin; refine wpList_appStr3 (v := .slice ao acc.length co) (B := H + 1) rfl _ _ rfl rfl (unhide HSO) _ ([45, 32] ++ x) (by simp) rfl (by omega) (by omega) ?_; intro v8 w8 hS8 hg8 hat8)
              have hown := fun g e => (own_block_lt (unhide HSO).own g e).1
              have HB8 := hide ((unhide HBX).grown hg8 (by omega) (fun g e => by have := hown g e; omega))
              have HG8 := hide ((hg8.block H hHl (fun e => by have := hown _ e.symm; omega)).trans (unhide HGX))
              have HL8 := hide ((unhide HSL).grown hg8 (fun g e e2 => unhide HSEP g e2 e))
              have HP8 := hide (show ∀ g, (Value.slice (some ⟨b5, o5, none⟩) LL.length c5).ownBlock = some g → v8.ownBlock ≠ some g from fun g e e2 => by
                rcases hat8 with h9 | ⟨g9, h9, h10⟩
                · exact unhide HSEP g e (h9 ▸ e2)
                · rw [e2] at h9; injection h9 with h9; have := (own_block_lt (unhide HSL).own g e).2; omega)
              go_roundg g2
              case measure => omega
              case rel => exact ⟨j + 1, v8, acc ++ [[45, 32] ++ x], by omega, rfl, by go_num, hide (by rw [if_neg (by omega)]; exact unhide HE2), hide hS8, HL8, HP8, HB8, HG8⟩
            · have jj : ((j : Int) == 0) = false := by simp; omega
              have hE0 : acc ++ ((([32, 32] ++ x) :: (LL.drop (j + 1)).map (fun y => [32, 32] ++ y)) ++ RR) = G := by
                have h9 := unhide HE
                rw [if_neg hj0, map_drop hgx] at h9
                exact h9
              clear hj0
              have hE := hE0
              rw [List.cons_append, ← List.singleton_append, ← List.append_assoc] at hE
              have HE2 := hide hE
              clear hE HE hgx hE0
              go_wp2_with (at_builtin; refine wpList_appStr3 (v := .slice ao acc.length co) (B := H + 1) rfl _ _ rfl rfl (unhide HSO) _ ([32, 32] ++ x) (by simp) rfl (by omega) (by omega) ?_; intro v8 w8 hS8 hg8 hat8)
              have hown := fun g e => (own_block_lt (unhide HSO).own g e).1
              have HB8 := hide ((unhide HBX).grown hg8 (by omega) (fun g e => by have := hown g e; omega))
              have HG8 := hide ((hg8.block H hHl (fun e => by have := hown _ e.symm; omega)).trans (unhide HGX))
              have HL8 := hide ((unhide HSL).grown hg8 (fun g e e2 => unhide HSEP g e2 e))
              have HP8 := hide (show ∀ g, (Value.slice (some ⟨b5, o5, none⟩) LL.length c5).ownBlock = some g → v8.ownBlock ≠ some g from fun g e e2 => by
                rcases hat8 with h9 | ⟨g9, h9, h10⟩
                · exact unhide HSEP g e (h9 ▸ e2)
                · rw [e2] at h9; injection h9 with h9; have := (own_block_lt (unhide HSL).own g e).2; omega)
              go_roundg g2
              case measure => omega
              case rel => exact ⟨j + 1, v8, acc ++ [[32, 32] ++ x], by omega, rfl, by go_num, hide (by rw [if_neg (by omega)]; exact unhide HE2), hide hS8, HL8, HP8, HB8, HG8⟩
  · have jk2 : ((k : Int) == 2) = false := by simp; omega
    have jk3 : ((k : Int) == 3) = true := by simp; omega
    rw [hk2] at HG
    have HMN := hide hMN
    clear hMN
    clear hk2 hk1 hk3
    go_enter Tryz.func41, Tryz.ntmps41
    go_upto_region 1 with fail
    try rw [unhide HH]
    rw [unhide HW]
    go_wp2
    go_loopg [3, 4] N (fun g s3 s4 wx => ∃ (i : Nat) (vo : Value) (acc : List (List UInt8)), i + g = N ∧ s3 = vo ∧ s4 = .int .i64 i ∧ Hid (acc ++ P20.linesL 3 (ks.drop i) (bareL (ds.drop i)) = G) ∧ Hid (Strs wx (H + 1) vo acc) ∧ Hid (Below H w wx) ∧ Hid (wx.heap[H]? = some (.cells #[.int .u8 k, .string ⟨t.toArray⟩, .slice ka M kc, .slice da N dc, .int .i64 l] 26)))
    case atStart => exact ⟨0, _, [], by omega, rfl, by go_num, hide (unhide HG).symm, hide (Strs.nil _ _), HB, HG0⟩
    case round =>
      obtain ⟨i, vo, acc, hig, rfl, rfl, HE, HSO, HBX, HGX⟩ := hrel
      clear x0 x1 x2 x3 x4
      obtain ⟨⟨x0, _⟩, ⟨x1, _⟩, ⟨x2, _⟩, ⟨x3, _⟩, ⟨x4, _⟩⟩ := five_cell (unhide HGX)
      obtain ⟨ao, co, hvo, _⟩ := (unhide HSO).slice
      subst hvo
      have hHl : H < wr.heap.size := (Array.getElem?_eq_some_iff.1 (unhide HGX)).1
      cases gk with
      | zero =>
        have e1 : (N : Int) = (i : Int) := by omega
        have hE := unhide HE
        rw [List.drop_of_length_le (l := ds) (by rw [unhide HN]; omega)] at hE
        simp only [bareL, P20.linesL, List.append_nil] at hE
        subst hE
        go_wp2
        go_ret
        exact ⟨_, rfl, HSO, unhide HBX⟩
      | succ g' =>
        have hlt : (i : Int) < (N : Int) := by omega
        have hki : IntKind.i64.wrap ((i : Int) + 1) = (i : Int) + 1 := IntWalk.i64_in _ (by omega)
        obtain ⟨d, hg1⟩ := nth_of (unhide HN) (show i < N by omega)
        have hmem := List.mem_of_getElem? hg1
        have hcl0 := unhide HDS d hmem (lv + 1)
        have hsm := unhide HD5 d hmem
        have hch := unhide HC5 d hmem
        obtain ⟨hL1, hL2⟩ := Sm.lines hsm
        have hE := unhide HE
        rw [bareL_drop hg1] at hE
        obtain ⟨LL, hLL⟩ : ∃ LL, d.bare.lines = LL := ⟨_, rfl⟩
        obtain ⟨RR, hRR⟩ : ∃ RR, P20.linesL 3 (ks.drop (i + 1)) (bareL (ds.drop (i + 1))) = RR := ⟨_, rfl⟩
        have hbxw : Below w.heap.size w wr := by rw [unhide HH]; exact unhide HBX
        have hdk := hcl0 wr
        obtain ⟨y, hgy⟩ := nth_of (unhide HM) (show i < M by have := unhide HMN; omega)
        have hiM : (i : Int) < (M : Int) := by have := unhide HMN; omega
        have hyl := unhide HQ3 y (List.mem_of_getElem? hgy)
        have hhd : (ks.drop i).headD [] = y := by
          obtain ⟨h8, h9⟩ := List.getElem?_eq_some_iff.1 hgy
          rw [List.drop_eq_getElem_cons h8, h9]; rfl
        obtain ⟨b3, o3, rfl, hky⟩ := InS.below (unhide HKW) hbxw i y hgy
        obtain ⟨b2, o2, k1, t1, ka1, kc1, ks1, da1, dc1, ds1, l1, rfl, rfl, y0, y1, y2, y3, y4, hin⟩ := kid_open ((unhide HDW).below hbxw) hg1
        have HRR := hide hRR
        have hcl := hdk hin hsm hch
        rw [Nd.val_eq, hLL] at hcl
        rw [hLL] at hL1 hL2
        have hln : LL ≠ [] := by rw [← hLL]; exact P20.T.lines_ne _
        have HCL := hide hcl
        have HLX := hide hL2
        have HLN := hide hln
        clear hcl hL2 hln hdk hcl0 hin hsm hch hmem hbxw
        by_cases hle : ds1 = []
        · have hkd : P20.T.kids (Nd.mk k1 t1 ka1 kc1 ks1 da1 dc1 ds1 l1).bare = [] := by subst hle; rfl
          have hdl : (ds1.length : Int) = 0 := by rw [hle]; rfl
          have jd : ((ds1.length : Int) == 0) = true := by rw [hdl]; rfl
          rw [P20.linesL_leaf _ _ _ (by rw [hkd]; rfl), List.tail_drop, hLL, hRR, hhd] at hE
          obtain ⟨z, hz⟩ : ∃ z, LL[0]? = some z := ⟨_, List.getElem?_eq_getElem (List.length_pos_iff.2 (unhide HLN))⟩
          have hzl := unhide HLX z (List.mem_of_getElem? hz)
          have hzs : (⟨z.toArray⟩ : ByteArray).size ≤ 100000 := by rw [Lib.size_eq]; show z.length ≤ 100000; omega
          rw [show LL.headD [] = z by cases LL with | nil => simp at hz | cons a r => simp at hz; exact hz] at hE
          have HE0 := hide hE
          have hLp : (0 : Int) < (LL.length : Int) := by have := List.length_pos_iff.2 (unhide HLN); omega
          have hpu : ∀ V, Calls Tryz.prog 79 #[.string ⟨y.toArray⟩] V fun e w' => ∃ b : ByteArray, e = .returned (.string b) ∧ b.data.toList = P18.put y ∧ Below V.heap.size V w' := fun V => by
            have h9 := refPut_any ⟨y.toArray⟩ V (by rw [Lib.size_eq]; show y.length ≤ 100000; omega)
            simp only [list_data] at h9
            exact h9
          have HPU := hide hpu
          have hal : acc.length + 1 ≤ 400000000 := by
            have := congrArg List.length hE
            simp only [List.length_append] at this
            omega
          clear hE HE hLL hRR hg1 hkd hle hhd hgy hpu
          go_upto_region 13 with (go_at_call 41; refine (unhide HCL).mono ?_; rintro e w5 ⟨v5, rfl, HS5, hb5⟩)
          have y3' := (cell_of_block (hb5.block b2 (cellLt y3)) _).trans y3
          have hky' := (cell_of_block (hb5.block b3 (cellLt hky)) _).trans hky
          obtain ⟨a5, c5, hv5, hc5, _⟩ := (unhide HS5).slice
          subst hv5
          obtain ⟨B5, hB5⟩ : ∃ B5, wr.heap.size + 1 = B5 := ⟨_, rfl⟩
          rw [hB5] at HS5
          have HSO5 := hide ((unhide HSO).grown (grown_of_below hb5 none) (fun g e => by cases e))
          have HBX5 := hide ((unhide HBX).trans (hb5.mono (by omega)))
          have HGX5 := hide ((hb5.block H hHl).trans (unhide HGX))
          have HSEP5 := hide (show ∀ g, (Value.slice a5 LL.length c5).ownBlock = some g → (Value.slice ao acc.length co).ownBlock ≠ some g from fun g e e2 => by have := (own_block_lt (unhide HS5).own g e).1; have := (own_block_lt (unhide HSO).own g e2).2; omega)
          clear x0 x1 x2 x3 x4
          obtain ⟨⟨x0, _⟩, ⟨x1, _⟩, ⟨x2, _⟩, ⟨x3, _⟩, ⟨x4, _⟩⟩ := five_cell (unhide HGX5)
          obtain ⟨b5, o5, c6, hv6, hcl6, hcx⟩ := (unhide HS5).get hz
          injection hv6 with e1 e2 e3
          subst e1
          subst e3
          have hb2l := cellLt y3'
          have hb3l := cellLt hky'
          have hH5 : H < w5.heap.size := by have := hb5.size; omega
          clear y0 y1 y2 y3 y4 hb5 hky
          have hb5l := cellLt hcx
          rw [Nat.add_zero] at hcx
          have hLn : 0 < LL.length := List.length_pos_iff.2 (unhide HLN)
          have hpu5 := unhide HPU w5.drew
          have hpl : (P18.put y).length ≤ 1000 := by have := P20.put_len20 y; omega
          have heg := enters_of Tryz.func79 (by kernel_rfl) rfl
          have HP5 := hide hpu5
          clear hpu5
          go_upto_region 14 with fail
          go_region_law (first
            | (refine step_enter (f := 79) (args := #[.string ⟨y.toArray⟩]) (by rfl) (by simp [execOp, go_sem, heg]) (unhide HP5) ?_; rintro e w6 ⟨b, rfl, hb, hb6'⟩; refine ⟨_, rfl, ?_⟩; have hb6 : Below w5.heap.size w5 w6 := ⟨hb6'.os, hb6'.tape, hb6'.output, hb6'.size, hb6'.block⟩; have HBQ := hide hb; have hbs : b.size ≤ 1000 := (by rw [Lib.size_eq, hb]; omega); clear hb hb6'; have ha1 : ¬ 9223372036854775807 < b.size + 2 := (by omega); have ha2 : ¬ 9223372036854775807 < b.size + 2 + z.length := (by omega); have ha3 : ¬ 9223372036854775807 < b.size + 2 + (⟨z.toArray⟩ : ByteArray).size := (by omega); have hcx6 := (cell_of_block (hb6.block b5 hb5l) _).trans hcx; have hky6 := (cell_of_block (hb6.block b3 hb3l) _).trans hky'; obtain ⟨⟨r0, _⟩, ⟨r1, _⟩, ⟨r2, _⟩, ⟨r3, _⟩, ⟨r4, _⟩⟩ := five_cell ((hb6.block H hH5).trans (unhide HGX5)); have HSO6 := hide ((unhide HSO5).grown (grown_of_below hb6 none) (fun g e => by cases e)); have hB6 : H + 1 ≤ w6.heap.size := (by have := hb6.size; omega))
            | (refine step_appStr (v := .slice ao acc.length co) (B := H + 1) (by rfl) _ _ (by rfl) (by rfl) ((unhide HSO6).alloc _) _ (P18.put y ++ [58, 32] ++ z) (by rw [← unhide HBQ]; simp) w6.heap.size 1 (by rfl) (cell_new1 _ _ _) (by omega) (by simp; omega) ?_; intro v8 w8 hS8 hg8 hat8))
          all_goals
            have hown := fun g e => (own_block_lt (unhide HSO6).own g e).1
            have hg8' := grown_trans1 (World.grownBy_alloc w6 _ _) hg8
            have HB8 := hide (((unhide HBX5).trans (hb6.mono (by omega))).grown hg8' (by omega) (fun g e => by have := hown g e; omega))
            have HG8 := hide ((hg8'.block H (by omega) (fun e => by have := hown _ e.symm; omega)).trans ((hb6.block H hH5).trans (unhide HGX5)))
            have HS8 := hide hS8
            clear hS8 hown hat8 hg8'
            go_wp2
            go_roundg g'
            case measure => omega
            case rel => exact ⟨i + 1, v8, acc ++ [P18.put y ++ [58, 32] ++ z], by omega, rfl, by go_num, hide (by rw [unhide HRR, ← unhide HE0, List.append_assoc]), HS8, HB8, HG8⟩
        · have hkd : ¬ (P20.T.kids (Nd.mk k1 t1 ka1 kc1 ks1 da1 dc1 ds1 l1).bare).isEmpty = true := by show ¬ (bareL ds1).isEmpty = true; cases ds1 with | nil => exact absurd rfl hle | cons a r => simp [bareL]
          have jd : ((ds1.length : Int) == 0) = false := by rw [beq_eq_false_iff_ne]; have := List.length_pos_iff.2 hle; omega
          rw [P20.linesL_key _ _ _ hkd, List.tail_drop, hLL, hRR, hhd, ← List.append_assoc] at hE
          have HE0 := hide hE
          have hpu : ∀ V, Calls Tryz.prog 79 #[.string ⟨y.toArray⟩] V fun e w' => ∃ b : ByteArray, e = .returned (.string b) ∧ b.data.toList = P18.put y ∧ Below V.heap.size V w' := fun V => by
            have h9 := refPut_any ⟨y.toArray⟩ V (by rw [Lib.size_eq]; show y.length ≤ 100000; omega)
            simp only [list_data] at h9
            exact h9
          have HPU := hide hpu
          have hpl : (P18.put y).length ≤ 1000 := by have := P20.put_len20 y; omega
          have hal : acc.length + 1 ≤ 400000000 := by
            have := congrArg List.length hE
            simp only [List.length_append] at this
            omega
          clear hE HE hLL hRR hg1 hkd hle hhd hgy hpu
          go_upto_region 13 with (go_at_call 41; refine (unhide HCL).mono ?_; rintro e w5 ⟨v5, rfl, HS5, hb5⟩)
          have y3' := (cell_of_block (hb5.block b2 (cellLt y3)) _).trans y3
          have hky' := (cell_of_block (hb5.block b3 (cellLt hky)) _).trans hky
          obtain ⟨a5, c5, hv5, hc5, _⟩ := (unhide HS5).slice
          subst hv5
          obtain ⟨B5, hB5⟩ : ∃ B5, wr.heap.size + 1 = B5 := ⟨_, rfl⟩
          rw [hB5] at HS5
          have HSO5 := hide ((unhide HSO).grown (grown_of_below hb5 none) (fun g e => by cases e))
          have HBX5 := hide ((unhide HBX).trans (hb5.mono (by omega)))
          have HGX5 := hide ((hb5.block H hHl).trans (unhide HGX))
          have HSEP5 := hide (show ∀ g, (Value.slice a5 LL.length c5).ownBlock = some g → (Value.slice ao acc.length co).ownBlock ≠ some g from fun g e e2 => by have := (own_block_lt (unhide HS5).own g e).1; have := (own_block_lt (unhide HSO).own g e2).2; omega)
          clear x0 x1 x2 x3 x4
          obtain ⟨⟨x0, _⟩, ⟨x1, _⟩, ⟨x2, _⟩, ⟨x3, _⟩, ⟨x4, _⟩⟩ := five_cell (unhide HGX5)
          have hH5 : H < w5.heap.size := by have := hb5.size; omega
          clear y0 y1 y2 y3 y4 hb5 hky
          go_upto_region 17 with (first
            | (go_at_call 79; refine (unhide HPU _).mono ?_; rintro e w6 ⟨b, rfl, hb, hb6⟩; have HBQ := hide hb; have hbs : b.size ≤ 1000 := (by rw [Lib.size_eq, hb]; omega); clear hb; have HSO6 := hide ((unhide HSO5).grown (grown_of_below hb6 none) (fun g e => by cases e)); have hB6 : H + 1 ≤ w6.heap.size := (by have := hb6.size; omega))
            | (at_builtin; refine wpList_appStr3 (v := .slice ao acc.length co) (B := H + 1) rfl _ _ rfl rfl (unhide HSO6) _ (P18.put y ++ [58]) (by rw [← unhide HBQ]; simp) rfl (by omega) (by omega) ?_; intro v8 w8 hS8 hg8 hat8))
          have hown := fun g e => (own_block_lt (unhide HSO6).own g e).1
          have HB8 := hide (((unhide HBX5).trans (hb6.mono (by omega))).grown hg8 (by omega) (fun g e => by have := hown g e; omega))
          have HG8 := hide ((hg8.block H (by omega) (fun e => by have := hown _ e.symm; omega)).trans ((hb6.block H hH5).trans (unhide HGX5)))
          have hsl6 := (unhide HS5).grown (grown_of_below hb6 none) (fun g e => by cases e)
          have HL8 := hide (hsl6.grown hg8 (fun g e e2 => unhide HSEP5 g e2 e))
          have HP8 := hide (show ∀ g, (Value.slice a5 LL.length c5).ownBlock = some g → v8.ownBlock ≠ some g from fun g e e2 => by
            rcases hat8 with h9 | ⟨g9, h9, h10⟩
            · exact unhide HSEP5 g e (h9 ▸ e2)
            · rw [e2] at h9; injection h9 with h9; have := (own_block_lt hsl6.own g e).2; omega)
          obtain ⟨⟨r0, _⟩, ⟨r1, _⟩, ⟨r2, _⟩, ⟨r3, _⟩, ⟨r4, _⟩⟩ := five_cell (unhide HG8)
          clear x0 x1 x2 x3 x4 y3' hky' hown hsl6 hat8 hg8
          have HS8 := hide hS8
          clear hS8
          go_wp2
          go_loopg [3, 6, 7] LL.length (fun g s3 s6 s7 wx => ∃ (j : Nat) (vo : Value) (acc : List (List UInt8)), j + g = LL.length ∧ s3 = vo ∧ s6 = .int .i64 j ∧ Hid (acc ++ ((if j = 0 then P20.ind 3 LL else (LL.drop j).map (fun y => [32, 32] ++ y)) ++ RR) = G) ∧ Hid (Strs wx (H + 1) vo acc) ∧ Hid (Strs wx B5 (.slice a5 LL.length c5) LL) ∧ Hid (∀ g, (Value.slice a5 LL.length c5).ownBlock = some g → vo.ownBlock ≠ some g) ∧ Hid (Below H w wx) ∧ Hid (wx.heap[H]? = some (.cells #[.int .u8 k, .string ⟨t.toArray⟩, .slice (some ⟨b3, o3, none⟩) M kc, .slice (some ⟨b2, o2, none⟩) N dc, .int .i64 l] 26)))
          case atStart => exact ⟨0, v8, acc ++ [P18.put y ++ [58]], by omega, rfl, by go_num, hide (by rw [if_pos rfl]; exact unhide HE0), HS8, HL8, HP8, HB8, HG8⟩
          case round =>
            obtain ⟨j, vo, acc, hjg, rfl, rfl, HE, HSO, HSL, HSEP, HBX, HGX⟩ := hrel
            obtain ⟨⟨x0, _⟩, ⟨x1, _⟩, ⟨x2, _⟩, ⟨x3, _⟩, ⟨x4, _⟩⟩ := five_cell (unhide HGX)
            obtain ⟨ao, co, hvo, _⟩ := (unhide HSO).slice
            subst hvo
            have hHl : H < wr.heap.size := (Array.getElem?_eq_some_iff.1 (unhide HGX)).1
            have hal : acc.length + 1 ≤ 400000000 := by
              have := congrArg List.length (unhide HE)
              simp only [List.length_append] at this
              omega
            have hLx : (LL.length : Int) ≤ 1000000000 := by omega
            cases gk with
            | zero =>
              have e1 : (LL.length : Int) = (j : Int) := by omega
              have hE := unhide HE
              rw [if_neg (by have := List.length_pos_iff.2 (unhide HLN); omega), List.drop_of_length_le (by omega)] at hE
              simp only [List.map_nil, List.nil_append] at hE
              have HE2 := hide hE
              clear hE HE
              go_wp2
              go_roundg g'
              case measure => omega
              case rel => exact ⟨i + 1, _, acc, by omega, rfl, by go_num, hide (by rw [unhide HRR]; exact unhide HE2), HSO, HBX, HGX⟩
            | succ g2 =>
              have hjl : (j : Int) < (LL.length : Int) := by omega
              have hkj : IntKind.i64.wrap ((j : Int) + 1) = (j : Int) + 1 := IntWalk.i64_in _ (by omega)
              obtain ⟨x, hgx⟩ := nth_of (rfl : LL.length = LL.length) (show j < LL.length by omega)
              obtain ⟨b5, o5, c6, hv6, hcl6, hcx⟩ := (unhide HSL).get hgx
              injection hv6 with e1 e2 e3
              subst e1
              subst e3
              have hxl := unhide HLX x (List.mem_of_getElem? hgx)
              have hxs : (⟨x.toArray⟩ : ByteArray).size ≤ 100000 := by rw [Lib.size_eq]; show x.length ≤ 100000; omega
              have hE0 : acc ++ ((([32, 32] ++ x) :: (LL.drop (j + 1)).map (fun y => [32, 32] ++ y)) ++ RR) = G := by
                have h9 := unhide HE
                by_cases hj0 : j = 0
                · rw [if_pos hj0, ind_zero 3 (by rw [← hj0]; exact hgx), if_neg (by omega)] at h9; rw [hj0]; exact h9
                · rw [if_neg hj0, map_drop hgx] at h9; exact h9
              have hE := hE0
              rw [List.cons_append, ← List.singleton_append, ← List.append_assoc] at hE
              have HE2 := hide hE
              clear hE HE hgx hE0
              go_wp2_with (at_builtin; refine wpList_appStr3 (v := .slice ao acc.length co) (B := H + 1) rfl _ _ rfl rfl (unhide HSO) _ ([32, 32] ++ x) (by simp) rfl (by omega) (by omega) ?_; intro v8 w8 hS8 hg8 hat8)
              have hown := fun g e => (own_block_lt (unhide HSO).own g e).1
              have HB8 := hide ((unhide HBX).grown hg8 (by omega) (fun g e => by have := hown g e; omega))
              have HG8 := hide ((hg8.block H hHl (fun e => by have := hown _ e.symm; omega)).trans (unhide HGX))
              have HL8 := hide ((unhide HSL).grown hg8 (fun g e e2 => unhide HSEP g e2 e))
              have HP8 := hide (show ∀ g, (Value.slice (some ⟨b5, o5, none⟩) LL.length c5).ownBlock = some g → v8.ownBlock ≠ some g from fun g e e2 => by
                rcases hat8 with h9 | ⟨g9, h9, h10⟩
                · exact unhide HSEP g e (h9 ▸ e2)
                · rw [e2] at h9; injection h9 with h9; have := (own_block_lt (unhide HSL).own g e).2; omega)
              go_roundg g2
              case measure => omega
              case rel => exact ⟨j + 1, v8, acc ++ [[32, 32] ++ x], by omega, rfl, by go_num, hide (by rw [if_neg (by omega)]; exact unhide HE2), hide hS8, HL8, HP8, HB8, HG8⟩
theorem rlin_any (d : Nd) : RLinC d := Nd.ind (p := RLinC) rlin_node d
end Go.Proofs.YtnjokdbblmlhhaaGreatDoor
