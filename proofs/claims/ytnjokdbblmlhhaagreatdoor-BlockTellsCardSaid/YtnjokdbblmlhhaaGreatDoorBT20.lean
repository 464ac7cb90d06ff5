/- BlockTells: whether trees are alike, their sizes, a part, and a copy. -/
import Derived.Test.YtnjokdbblmlhhaaGreatDoorGBP
namespace Go.Proofs.YtnjokdbblmlhhaaGreatDoor
set_option linter.unusedVariables false
set_option linter.unusedSimpArgs false
open Go.RowKit
theorem first_of {ks : List (List UInt8)} {p : List UInt8} (h : p ∈ ks) : ∃ i : Nat, ks[i]? = some p ∧ ∀ j : Nat, j < i → ks[j]? ≠ some p := by
  induction ks with
  | nil => simp at h
  | cons x xs ih =>
    by_cases hx : x = p
    · exact ⟨0, by simp [hx], fun j hj => by omega⟩
    · obtain ⟨i, h1, h2⟩ := ih (by simpa [Ne.symm hx] using h)
      refine ⟨i + 1, by simpa using h1, fun j hj => ?_⟩
      cases j with
      | zero => simpa using hx
      | succ j => simpa using h2 j (by omega)
theorem bz_get {ks : List (List UInt8)} {p : List UInt8} {i : Nat} (h : ks[i]? = some p) : (ks.map bz).getD i ByteArray.empty = bz p := by
  rw [List.getD_eq_getElem?_getD, List.getElem?_map, h]; rfl
theorem bz_off {ks : List (List UInt8)} {p : List UInt8} {i : Nat} (hi : i < ks.length) (h : ks[i]? ≠ some p) : (ks.map bz).getD i ByteArray.empty ≠ bz p := by
  rw [List.getD_eq_getElem?_getD, List.getElem?_map, List.getElem?_eq_getElem hi]
  intro e
  exact h (by rw [List.getElem?_eq_getElem hi, bz_inj e])
theorem idx_hit {ks : List (List UInt8)} {p : List UInt8} {i : Nat} (h : ks[i]? = some p) (h2 : ∀ j, j < i → ks[j]? ≠ some p) : Lib.idxOfS (ks.map bz) (bz p) = i := by
  have hl := (List.getElem?_eq_some_iff.1 h).1
  have := Lib.idxOfS_hit (ks.map bz) ks.length i (bz p) hl (by simp) (bz_get h) (fun j hj => bz_off (by omega) (h2 j hj))
  rwa [List.take_of_length_le (by simp)] at this
theorem idx_miss {ks : List (List UInt8)} {p : List UInt8} (m : Nat) (h : ∀ j, j < m → ks[j]? ≠ some p) : Lib.idxOfS (ks.map bz) (bz p) < 0 ∨ (m : Int) ≤ Lib.idxOfS (ks.map bz) (bz p) := by
  by_cases hp : p ∈ ks
  · obtain ⟨i, h1, h2⟩ := first_of hp
    rw [idx_hit h1 h2]
    by_cases hi : i < m
    · exact absurd h1 (h i hi)
    · omega
  · left
    have := Lib.idxOfS_miss (ks.map bz) ks.length (bz p) (fun j hj => bz_off hj (fun e => hp (List.mem_of_getElem? e)))
    rw [List.take_of_length_le (by simp)] at this
    rw [this]; decide
theorem sfact {W : World} {g g' : Nat} {a b c d e a' b' c' d' e' : Value} (h : (W.cell? ⟨g, 0, none⟩ = some a ∧ W.frozen? ⟨g, 0, none⟩ = false) ∧ (W.cell? ⟨g, 1, none⟩ = some b ∧ W.frozen? ⟨g, 1, none⟩ = false) ∧ (W.cell? ⟨g, 2, none⟩ = some c ∧ W.frozen? ⟨g, 2, none⟩ = false) ∧ (W.cell? ⟨g, 3, none⟩ = some d ∧ W.frozen? ⟨g, 3, none⟩ = false) ∧ (W.cell? ⟨g, 4, none⟩ = some e ∧ W.frozen? ⟨g, 4, none⟩ = false))
    (h' : (W.cell? ⟨g', 0, none⟩ = some a' ∧ W.frozen? ⟨g', 0, none⟩ = false) ∧ (W.cell? ⟨g', 1, none⟩ = some b' ∧ W.frozen? ⟨g', 1, none⟩ = false) ∧ (W.cell? ⟨g', 2, none⟩ = some c' ∧ W.frozen? ⟨g', 2, none⟩ = false) ∧ (W.cell? ⟨g', 3, none⟩ = some d' ∧ W.frozen? ⟨g', 3, none⟩ = false) ∧ (W.cell? ⟨g', 4, none⟩ = some e' ∧ W.frozen? ⟨g', 4, none⟩ = false)) :
    W.cell? ⟨g, 0, none⟩ = some a ∧ W.cell? ⟨g, 1, none⟩ = some b ∧ W.cell? ⟨g, 2, none⟩ = some c ∧ W.cell? ⟨g, 3, none⟩ = some d ∧ W.cell? ⟨g, 4, none⟩ = some e ∧ W.cell? ⟨g', 0, none⟩ = some a' ∧ W.cell? ⟨g', 1, none⟩ = some b' ∧ W.cell? ⟨g', 2, none⟩ = some c' ∧ W.cell? ⟨g', 3, none⟩ = some d' ∧ W.cell? ⟨g', 4, none⟩ = some e' :=
  ⟨h.1.1, h.2.1.1, h.2.2.1.1, h.2.2.2.1.1, h.2.2.2.2.1, h'.1.1, h'.2.1.1, h'.2.2.1.1, h'.2.2.2.1.1, h'.2.2.2.2.1⟩
/-- what part it is, if it is one -/
def NxI (d : Nd) (p : List UInt8) (K : Int) : Prop := (K < 0 ∧ d.next p = none) ∨ ∃ (i : Nat) (e : Nd), K = i ∧ d.kids[i]? = some e ∧ d.next p = some e
theorem nx_hit {d : Nd} {p : List UInt8} {i : Nat} (h3 : d.kind = 3) (h : d.keys[i]? = some p) (h2 : ∀ j, j < i → d.keys[j]? ≠ some p) (hi : i < d.kids.length) : NxI d p i :=
  .inr ⟨i, _, rfl, List.getElem?_eq_getElem hi, Nd.next_some (i := i) (by unfold kIdx; rw [if_pos h3]; exact idx_hit h h2) (List.getElem?_eq_getElem hi)⟩
theorem nx_miss {d : Nd} {p : List UInt8} (m : Nat) (h3 : d.kind = 3) (h : ∀ j, j < m → d.keys[j]? ≠ some p) (hm : d.keys.length ≤ m ∨ d.kids.length ≤ m) : NxI d p (-1) := by
  refine .inl ⟨by decide, Nd.next_none ?_⟩
  unfold kIdx
  rw [if_pos h3]
  rcases hm with hm | hm
  · rcases idx_miss (max m d.kids.length) (fun j hj => by
      by_cases hjm : j < m
      · exact h j hjm
      · rw [List.getElem?_eq_none (by omega)]; simp) with h4 | h4
    · exact .inl h4
    · right; omega
  · rcases idx_miss m h with h4 | h4
    · exact .inl h4
    · right; omega
theorem nx_num {d : Nd} {p : List UInt8} (h2 : d.kind = 2) (he : (P18.number p).2 = 0) (hl : (P18.number p).1 < d.kids.length) : NxI d p (P18.number p).1 := by
  by_cases h0 : (P18.number p).1 < 0
  · exact .inl ⟨h0, Nd.next_none (by unfold kIdx; rw [if_neg (by omega), if_pos h2, if_pos he]; exact .inl h0)⟩
  · obtain ⟨i, hi⟩ : ∃ i : Nat, (P18.number p).1 = i := ⟨_, (Int.toNat_of_nonneg (by omega)).symm⟩
    rw [hi] at hl ⊢
    have hil : i < d.kids.length := by omega
    exact .inr ⟨i, _, rfl, List.getElem?_eq_getElem hil, Nd.next_some (i := i) (by unfold kIdx; rw [if_neg (by omega), if_pos h2, if_pos he, hi]) (List.getElem?_eq_getElem hil)⟩
theorem nx_far {d : Nd} {p : List UInt8} (h2 : d.kind = 2) (he : (P18.number p).2 = 0) (hl : (d.kids.length : Int) ≤ (P18.number p).1) : NxI d p (-1) :=
  .inl ⟨by decide, Nd.next_none (by unfold kIdx; rw [if_neg (by omega), if_pos h2, if_pos he]; exact .inr hl)⟩
theorem nx_bad {d : Nd} {p : List UInt8} (h2 : d.kind = 2) (he : (P18.number p).2 ≠ 0) : NxI d p (-1) :=
  .inl ⟨by decide, Nd.next_none (by unfold kIdx; rw [if_neg (by omega), if_pos h2, if_neg he]; exact .inl (by decide))⟩
theorem nx_else {d : Nd} {p : List UInt8} (h3 : d.kind ≠ 3) (h2 : d.kind ≠ 2) : NxI d p (-1) :=
  .inl ⟨by decide, Nd.next_none (by unfold kIdx; rw [if_neg h3, if_neg h2]; exact .inl (by decide))⟩
/-- a part, in one form -/
theorem at_one {w w' : World} {r : Option Nd} {e : Ending} (h : AtPost w r e w') : ∃ (k : Nat) (t : List UInt8) (ka : Option Addr) (kc : Nat) (ks : List (List UInt8)) (da : Option Addr) (dc : Nat) (ds : List Nd) (l : Int) (b : Bool), e = .returned (.tuple #[.agg #[.int .u8 k, .string ⟨t.toArray⟩, .slice ka ks.length kc, .slice da ds.length dc, .int .i64 l], .bool b]) ∧ Hid ((Nd.mk k t ka kc ks da dc ds l).In w' ∧ (∀ g, (Nd.mk k t ka kc ks da dc ds l).blk g → g < w.heap.size) ∧ r = if b then some (Nd.mk k t ka kc ks da dc ds l) else none) ∧ Hid (b = false → (Nd.mk k t ka kc ks da dc ds l) = Nd.zero) ∧ Below w.heap.size w w' := by
  rcases h with ⟨k, t, ka, kc, ks, da, dc, ds, l, h1, h2, h3, h4⟩ | ⟨h1, h2, h3⟩
  · exact ⟨k, t, ka, kc, ks, da, dc, ds, l, true, h2, hide ⟨(unhide h3).1, (unhide h3).2, h1⟩, hide (fun e => by cases e), h4⟩
  · exact ⟨0, [], none, 0, [], none, 0, [], 0, false, h2, hide ⟨Nd.zero_in _, fun g hg => absurd hg (Nd.zero_blk g), h1⟩, hide (fun _ => rfl), h3⟩
set_option maxRecDepth 100000 in
set_option maxHeartbeats 40000000 in
theorem BlockTells_any (d0 e0 : Nd) (sa : Option Addr) (ps : List (List UInt8)) (sc : Nat) (w : World) (hin : d0.In w) (hin' : e0.In w) (hps : InS w sa ps) (hpl : ps.length ≤ maxLen) (hpx : ∀ y ∈ ps, y.length ≤ maxLen) :
    Calls Tryz.prog 5 #[d0.val, e0.val, .slice sa ps.length sc] w fun e w' => e = .returned (.bool true) ∧ Below w.heap.size w w' := by
  have hsmA := Small_any d0
  have hsmB := Small_any e0
  have hsize := rsize_any d0 18
  have hsame := Same20_any d0 e0
  have hrsame := rsame_any d0 e0
  have hdepth := Depth_any d0
  have hcount := Count20_any d0
  have hcopy := Copy20_any d0
  have hat := fun c V => At20_any d0 sa c ps V
  rw [mxL_size] at hdepth
  rw [preN_size] at hcount
  obtain ⟨k, t, ka, kc, ks, da, dc, ds, l⟩ := d0
  obtain ⟨k', t', ka', kc', ks', da', dc', ds', l'⟩ := e0
  obtain ⟨T, hT⟩ : ∃ T, (Nd.mk k t ka kc ks da dc ds l).bare = T := ⟨_, rfl⟩
  obtain ⟨U, hU⟩ : ∃ U, (Nd.mk k' t' ka' kc' ks' da' dc' ds' l').bare = U := ⟨_, rfl⟩
  simp only [Nd.val_eq] at hsmA hsmB hsize hsame hrsame hdepth hcount hcopy hat ⊢
  simp only [hT, hU] at hsmA hsmB hsize hsame hrsame hdepth hcount hcopy
  obtain ⟨n, hn⟩ : ∃ n, ps.length = n := ⟨_, rfl⟩
  rw [hn] at hpl hat ⊢
  have hnl : (n : Int) ≤ 9223372036854775807 := by unfold maxLen at hpl; omega
  obtain ⟨H, hH⟩ : ∃ H, w.heap.size = H := ⟨_, rfl⟩
  obtain ⟨W, hW, hbw, g0, g1, hs0⟩ := two_box w (.cells #[.int .u8 k, .string ⟨t.toArray⟩, .slice ka ks.length kc, .slice da ds.length dc, .int .i64 l] 26) (.cells #[.int .u8 k', .string ⟨t'.toArray⟩, .slice ka' ks'.length kc', .slice da' ds'.length dc', .int .i64 l'] 26)
  rw [hH] at hbw g0 g1 hs0
  have hinW := hin.below (by rw [hH]; exact hbw)
  have hinW' := hin'.below (by rw [hH]; exact hbw)
  have hpsW := hps.below (by rw [hH]; exact hbw)
  have hfar : ∀ V, Below W.heap.size W V → V.heap[H]? = some (.cells #[.int .u8 k, .string ⟨t.toArray⟩, .slice ka ks.length kc, .slice da ds.length dc, .int .i64 l] 26) ∧ V.heap[H + 1]? = some (.cells #[.int .u8 k', .string ⟨t'.toArray⟩, .slice ka' ks'.length kc', .slice da' ds'.length dc', .int .i64 l'] 26) ∧ (Nd.mk k t ka kc ks da dc ds l).In V ∧ (Nd.mk k' t' ka' kc' ks' da' dc' ds' l').In V ∧ InS V sa ps ∧ Below H w V := fun V hb =>
    ⟨(hb.block H (by omega)).trans g0, (hb.block (H + 1) (by omega)).trans g1, hinW.below hb, hinW'.below hb, hpsW.below hb, hbw.trans (hb.mono (by omega))⟩
  have HFAR := hide hfar
  have HW := hide hW
  have HSA := hide hsmA
  have HSB := hide hsmB
  have HSZ := hide hsize
  have HSM := hide hsame
  have HRS := hide hrsame
  have HDP := hide hdepth
  have HCN := hide hcount
  have HCP := hide hcopy
  have HAT := hide hat
  have HPX := hide hpx
  have HN := hide hn
  have HT := hide hT
  have hmx : Tryz.prog.follows .mixedOrders = true := by kernel_rfl
  rw [hH]
  clear hW hbw g0 g1 hin hin' hinW hinW' hps hpsW hfar hsmA hsmB hsize hsame hrsame hdepth hcount hcopy hat hpx hn hT hU hpl
  go_enter Tryz.func5, Tryz.ntmps5
  go_upto_region 1 with fail
  try rw [hH]
  rw [unhide HW]
  clear HW
  go_upto_region 3 with (go_at_call 9; refine (live20_any _).mono ?_; rintro e w1 ⟨rfl, hb1⟩)
  obtain ⟨n1, m1, inA1, inB1, inS1, hw1⟩ := unhide HFAR w1 hb1
  have hl1 := hb1.size
  have x0 := five_cell n1
  have y0 := five_cell m1
  have hs1 := unhide HSA w1 inA1
  have HB1 := hide hb1
  have HW1 := hide hw1
  have hlw1 := hw1.size
  clear n1 m1 inA1 inB1 inS1 hb1 hw1
  cases hm : T.small 18 150 with
  | none =>
    rw [hm] at hs1
    have HS1 := hide (show Calls Tryz.prog 13 #[.agg #[.int .u8 k, .string ⟨t.toArray⟩, .slice ka ks.length kc, .slice da ds.length dc, .int .i64 l]] w1 fun x w' => x = .returned (.bool false) ∧ Below w1.heap.size w1 w' from hs1)
    clear hs1 hm
    go_wp2_with (go_at_call 13; refine (unhide HS1).mono ?_; rintro e w2 ⟨rfl, hb2⟩)
    go_ret
    exact ⟨rfl, (unhide HW1).trans (hb2.mono (by omega))⟩
  | some ma =>
  rw [hm] at hs1
  have HS1 := hide (show Calls Tryz.prog 13 #[.agg #[.int .u8 k, .string ⟨t.toArray⟩, .slice ka ks.length kc, .slice da ds.length dc, .int .i64 l]] w1 fun x w' => x = .returned (.bool true) ∧ Below w1.heap.size w1 w' from hs1)
  have HMA := hide hm
  clear hs1 hm
  have hS2 : ∃ sb : Bool, (∀ V, (Nd.mk k' t' ka' kc' ks' da' dc' ds' l').In V → Calls Tryz.prog 13 #[.agg #[.int .u8 k', .string ⟨t'.toArray⟩, .slice ka' ks'.length kc', .slice da' ds'.length dc', .int .i64 l']] V fun x w' => x = .returned (.bool sb) ∧ Below V.heap.size V w') := ⟨_, unhide HSB⟩
  obtain ⟨sb, hS2⟩ := hS2
  have HS2 := hide hS2
  clear hS2 HSB
  cases sb with
  | false =>
    go_wp2_with (first
      | (have hq := HB2; clear hq; go_at_call 13; with_reducible (refine (unhide HS2 w2 (unhide HI2)).mono ?_); rintro e w3 ⟨rfl, hb3⟩)
      | (go_at_call 13; with_reducible (refine (unhide HS1).mono ?_); rintro e w2 ⟨rfl, hb2⟩; have hB2 := (unhide HB1).trans (hb2.mono hl1); obtain ⟨n2, m2, inA2, inB2, inS2, hw2⟩ := unhide HFAR w2 hB2; have xx2 := five_cell n2; have yy2 := five_cell m2; have HI2 := hide inB2; have HB2 := hide hw2; have hl2 := hw2.size; clear n2 m2 inA2 inB2 inS2 hb2 hB2 hw2))
    go_ret
    exact ⟨rfl, (unhide HB2).trans (hb3.mono (by omega))⟩
  | true =>
  by_cases hlong : (20 : Int) < (n : Int)
  · go_wp2_with (first
      | (have hq := HB2; clear hq; go_at_call 13; with_reducible (refine (unhide HS2 w2 (unhide HI2)).mono ?_); rintro e w3 ⟨rfl, hb3⟩)
      | (go_at_call 13; with_reducible (refine (unhide HS1).mono ?_); rintro e w2 ⟨rfl, hb2⟩; have hB2 := (unhide HB1).trans (hb2.mono hl1); obtain ⟨n2, m2, inA2, inB2, inS2, hw2⟩ := unhide HFAR w2 hB2; have xx2 := five_cell n2; have yy2 := five_cell m2; have HI2 := hide inB2; have HB2 := hide hw2; have hl2 := hw2.size; clear n2 m2 inA2 inB2 inS2 hb2 hB2 hw2))
    go_ret
    exact ⟨rfl, (unhide HB2).trans (hb3.mono (by omega))⟩
  have hle : (n : Int) ≤ 20 := by omega
  clear hlong
  go_upto_region 5 with (first
      | (have hq := HB2; clear hq; go_at_call 13; with_reducible (refine (unhide HS2 w2 (unhide HI2)).mono ?_); rintro e w3 ⟨rfl, hb3⟩)
      | (go_at_call 13; with_reducible (refine (unhide HS1).mono ?_); rintro e w2 ⟨rfl, hb2⟩; have hB2 := (unhide HB1).trans (hb2.mono hl1); obtain ⟨n2, m2, inA2, inB2, inS2, hw2⟩ := unhide HFAR w2 hB2; have xx2 := five_cell n2; have yy2 := five_cell m2; have HI2 := hide inB2; have HB2 := hide hB2; have hl2 := hB2.size; clear n2 m2 inA2 inB2 inS2 hb2 hB2 hw2))
  have hB3 := (unhide HB2).trans (hb3.mono hl2)
  obtain ⟨n3, m3, inA3, inB3, inS3, hw3⟩ := unhide HFAR w3 hB3
  have hl3 := hB3.size
  clear x0 y0 xx2 yy2 HS1 HS2 HI2 HB1 HB2 hb3 hl1 hl2 HW1 hlw1
  have x0 := five_cell n3
  obtain ⟨⟨sd, sn⟩, hsd⟩ : ∃ q, T.size 18 = q := ⟨_, rfl⟩
  have hsok := P20.T.small_ok _ _ _ _ (unhide HMA) (by omega)
  rw [hsd] at hsok
  simp only at hsok
  obtain ⟨_, hk2, hk3, hok, hcut⟩ := hsok
  have hsz := unhide HSZ w3 inA3 (by omega) (by rw [hsd]; show sn ≤ 1000000000; omega)
  simp only [hsd] at hsz
  have HZ3 := hide hsz
  have hdp := unhide HDP
  have hcn := fun V hV => unhide HCN V hV (by rw [hsd]; show sn ≤ 1000000000; omega)
  have hcp := fun V hV => unhide HCP V hV hok
  simp only [hsd] at hdp hcn
  rw [hcut] at hcp
  have HDQ := hide hdp
  have HCQ := hide hcn
  have HPQ := hide hcp
  have HB3 := hide hB3
  clear hsz hdp hcn hcp hsd hok hcut n3 m3 inA3 inB3 inS3 hw3 hB3 HSZ HDP HCN HCP HMA hk2 hk3
  go_upto_region 6 with (go_at_call 18; refine (unhide HZ3).mono ?_; rintro e w4 ⟨rfl, hb4⟩)
  have hB4 := (unhide HB3).trans (hb4.mono hl3)
  obtain ⟨n4, m4, inA4, inB4, inS4, hw4⟩ := unhide HFAR w4 hB4
  have hl4 := hB4.size
  clear x0 HZ3 HB3 hb4 hl3
  obtain ⟨q, hq⟩ : ∃ q, T.same U = q := ⟨_, rfl⟩
  have hs4 := unhide HSM w4.drew inA4.drew inB4.drew
  have hr4 := unhide HRS
  rw [hq] at hs4 hr4
  have HS4 := hide hs4
  have HR4 := hide hr4
  have x0 := five_cell n4
  have y0 := five_cell m4
  have hqq : (q != q) = false := by cases q <;> rfl
  have HB4 := hide hB4
  clear hq hs4 hr4 n4 m4 inA4 inB4 inS4 hw4 hB4 HSM HRS
  have HLB := hide (rlined_any)
  have S4 := sfact (W := w4) x0 y0
  clear x0 y0
  go_region_held3 (fun w' => w'.cell? ⟨H, 0, none⟩ = some (.int .u8 k) ∧ w'.cell? ⟨H, 1, none⟩ = some (.string ⟨t.toArray⟩) ∧ w'.cell? ⟨H, 2, none⟩ = some (.slice ka ks.length kc) ∧ w'.cell? ⟨H, 3, none⟩ = some (.slice da ds.length dc) ∧ w'.cell? ⟨H, 4, none⟩ = some (.int .i64 l) ∧ w'.cell? ⟨H + 1, 0, none⟩ = some (.int .u8 k') ∧ w'.cell? ⟨H + 1, 1, none⟩ = some (.string ⟨t'.toArray⟩) ∧ w'.cell? ⟨H + 1, 2, none⟩ = some (.slice ka' ks'.length kc') ∧ w'.cell? ⟨H + 1, 3, none⟩ = some (.slice da' ds'.length dc') ∧ w'.cell? ⟨H + 1, 4, none⟩ = some (.int .i64 l')) (first | exact S4 | exact S5 | exact S6 | exact S7 | exact S8 | exact S9 | exact S10) (first
    | (go_at_call 19; refine (unhide HS4).mono ?_; rintro e w5 ⟨rfl, hb5⟩; have hb5 : Below w4.heap.size w4 w5 := ⟨hb5.os, hb5.tape, hb5.output, hb5.size, hb5.block⟩; have hB5 := (unhide HB4).trans (hb5.mono hl4); obtain ⟨n5, m5, inA5, inB5, inS5, hw5⟩ := unhide HFAR w5 hB5; have p5 := five_cell n5; have r5 := five_cell m5; have S5 := sfact p5 r5; have HA5 := hide inA5; have HE5 := hide inB5; have HB5 := hide hB5; have hl5 := hB5.size; clear n5 m5 inA5 inB5 inS5 hw5 hb5 hB5 p5 r5)
    | (go_at_call 20; refine (unhide HR4 w5 (unhide HA5) (unhide HE5)).mono ?_; rintro e w6 ⟨rfl, hb6⟩; have hB6 := (unhide HB5).trans (hb6.mono hl5); obtain ⟨n6, m6, inA6, inB6, inS6, hw6⟩ := unhide HFAR w6 hB6; have p6 := five_cell n6; have r6 := five_cell m6; have S6 := sfact p6 r6; have HA6 := hide inA6; have HE6 := hide inB6; have HB6 := hide hB6; have hl6 := hB6.size; clear n6 m6 inA6 inB6 inS6 hw6 hb6 hB6 p6 r6)
    | (go_at_call 21; refine (unhide HDQ w6 (unhide HA6)).mono ?_; rintro e w7 ⟨rfl, hb7⟩; have hB7 := (unhide HB6).trans (hb7.mono hl6); obtain ⟨n7, m7, inA7, inB7, inS7, hw7⟩ := unhide HFAR w7 hB7; have p7 := five_cell n7; have r7 := five_cell m7; have S7 := sfact p7 r7; have HA7 := hide inA7; have HE7 := hide inB7; have HB7 := hide hB7; have hl7 := hB7.size; clear n7 m7 inA7 inB7 inS7 hw7 hb7 hB7 p7 r7)
    | (go_at_call 22; refine (unhide HCQ w7 (unhide HA7)).mono ?_; rintro e w8 ⟨rfl, hb8⟩; have hB8 := (unhide HB7).trans (hb8.mono hl7); obtain ⟨n8, m8, inA8, inB8, inS8, hw8⟩ := unhide HFAR w8 hB8; have p8 := five_cell n8; have r8 := five_cell m8; have S8 := sfact p8 r8; have HA8 := hide inA8; have HE8 := hide inB8; have HB8 := hide hB8; have hl8 := hB8.size; clear n8 m8 inA8 inB8 inS8 hw8 hb8 hB8 p8 r8)
    | (go_at_call 23; refine (unhide HPQ w8 (unhide HA8)).mono ?_; rintro e w9 ⟨k9, t9, ka9, kc9, ks9, da9, dc9, ds9, l9, rfl, HN9, hb9⟩; have hB9 := (unhide HB8).trans (hb9.mono hl8); obtain ⟨n9, m9, inA9, inB9, inS9, hw9⟩ := unhide HFAR w9 hB9; have p9 := five_cell n9; have r9 := five_cell m9; have S9 := sfact p9 r9; have HA9 := hide inA9; have HE9 := hide inB9; have HB9 := hide hB9; have hl9 := hB9.size; clear n9 m9 inA9 inB9 inS9 hw9 hb9 hB9 p9 r9)
    | (go_at_call 12; have hln := unhide HLB (Nd.mk k9 t9 ka9 kc9 ks9 da9 dc9 ds9 l9) (Nd.mk k t ka kc ks da dc ds l) w9 (unhide HN9).2.1 (unhide HA9) ((unhide HN9).1.trans (unhide HT).symm); simp only [Nd.val_eq] at hln; refine hln.mono ?_; rintro e w10 ⟨rfl, hb10⟩; have hB10 := (unhide HB9).trans (hb10.mono hl9); obtain ⟨n10, m10, inA10, inB10, inS10, hw10⟩ := unhide HFAR w10 hB10; have p10 := five_cell n10; have r10 := five_cell m10; have S10 := sfact p10 r10; have HA10 := hide inA10; have HE10 := hide inB10; have HB10 := hide hB10; have hl10 := hB10.size; clear n10 m10 inA10 inB10 inS10 hw10 hb10 hB10 p10 r10))
  obtain ⟨n10, m10, inA10, inB10, inS10, hw10⟩ := unhide HFAR w10 (unhide HB10)
  clear S4 S5 S6 S7 S8 S9 S10
  have x0 := five_cell n10
  have hat := unhide HAT sc w10 inA10 inS10 (by omega) (fun y hy => by have := unhide HPX y hy; unfold maxLen at this; omega)
  have HAQ := hide hat
  have HN10 := hide n10
  have HW10 := hide hw10
  have HIA := hide inA10
  have HIS := hide inS10
  have hw10l := hw10.size
  have h10l : H < w10.heap.size := (Array.getElem?_eq_some_iff.1 n10).1
  clear hat n10 m10 inA10 inB10 inS10 hw10 HB10 HA10 HE10 HB4 HB5 HB6 HB7 HB8 HB9 HA5 HE5 HA6 HE6 HA7 HE7 HA8 HE8 HA9 HE9 HN9 HS4 HR4 HDQ HCQ HPQ HAT HFAR hl4 hl5 hl6 hl7 hl8 hl9 hl10 HT
  go_upto_region 8 with fail
  go_upto_region 9 with (go_at_call 24; refine (unhide HAQ).mono ?_; intro e w11 hp11; obtain ⟨kx, tx, kax, kcx, ksx, dax, dcx, dsx, lx, bx, rfl, HX, HXZ, hb11⟩ := at_one hp11; clear hp11)
  obtain ⟨X0, hX0⟩ : ∃ X0, w11.heap.size = X0 := ⟨_, rfl⟩
  obtain ⟨V, hV⟩ : ∃ V, w11.alloc (.cells #[.int .u8 kx, .string ⟨tx.toArray⟩, .slice kax ksx.length kcx, .slice dax dsx.length dcx, .int .i64 lx] 26) = V := ⟨_, rfl⟩
  have gx := World.alloc_heap_new w11 (.cells #[.int .u8 kx, .string ⟨tx.toArray⟩, .slice kax ksx.length kcx, .slice dax dsx.length dcx, .int .i64 lx] 26)
  have hsV : V.heap.size = X0 + 1 := by rw [← hV]; simp; omega
  have hbV : Below X0 w11 V := by rw [← hV]; exact (Below.refl _ w11).alloc (by omega) _
  rw [hV, hX0] at gx
  try rw [hX0]
  try rw [hV]
  have hl11 := hb11.size
  have hAV := ((hb11.trans (hbV.mono (by omega))).block H h10l).trans (unhide HN10)
  clear hV x0 HAQ
  have x0 := five_cell hAV
  go_upto_region 10 with fail
  obtain ⟨V2, hV2⟩ : ∃ V2, V.alloc (.cells #[.int .u8 k, .string ⟨t.toArray⟩, .slice ka ks.length kc, .slice da ds.length dc, .int .i64 l] 26) = V2 := ⟨_, rfl⟩
  have gn := World.alloc_heap_new V (.cells #[.int .u8 k, .string ⟨t.toArray⟩, .slice ka ks.length kc, .slice da ds.length dc, .int .i64 l] 26)
  have gx2 := (show V2.heap[X0]? = V.heap[X0]? by rw [← hV2]; exact Below.heap_alloc _ _ _ (by omega)).trans gx
  have hsV2 : V2.heap.size = X0 + 1 + 1 := by rw [← hV2]; simp; omega
  have hbV2 : Below X0 w11 V2 := by rw [← hV2]; exact hbV.alloc (by omega) _
  rw [hV2, hsV] at gn
  try rw [hsV]
  try rw [hV2]
  have hwl : Below H w w11 := (unhide HW10).trans (hb11.mono (by omega))
  have hIA := (unhide HIA).below hb11
  have hIAl : ∀ g, (Nd.mk k t ka kc ks da dc ds l).blk g → g < X0 := fun g hg => by have := hIA.lt hg; omega
  have HI0 := hide (show (Nd.mk k t ka kc ks da dc ds l).In w11 ∧ ∀ g, (Nd.mk k t ka kc ks da dc ds l).blk g → g < X0 from ⟨hIA, hIAl⟩)
  have HIX := hide (show (Nd.mk kx tx kax kcx ksx dax dcx dsx lx).In w11 ∧ ∀ g, (Nd.mk kx tx kax kcx ksx dax dcx dsx lx).blk g → g < X0 from ⟨(unhide HX).1, fun g hg => by have := (unhide HX).2.1 g hg; omega⟩)
  have HRX := hide (unhide HX).2.2
  have HIS := hide ((unhide HIS).below hb11)
  have HGX := hide gx2
  have HGN := hide gn
  have HBV := hide hbV2
  have HWL := hide hwl
  clear hV2 gn gx gx2 hbV2 hbV hwl hIA hIAl HX HIA hb11 hAV x0 HN10 HW10 hsV V
  go_wp2
  go_loopg [12, 13] n (fun g s12 s13 wx => ∃ (i : Nat) (k1 : Nat) (t1 : List UInt8) (ka1 : Option Addr) (kc1 : Nat) (ks1 : List (List UInt8)) (da1 : Option Addr) (dc1 : Nat) (ds1 : List Nd) (l1 : Int) (b : Bool), i + g = n ∧ s12 = .bool b ∧ s13 = .int .i64 i ∧
    Hid ((Nd.mk k1 t1 ka1 kc1 ks1 da1 dc1 ds1 l1).In w11 ∧ ∀ r, (Nd.mk k1 t1 ka1 kc1 ks1 da1 dc1 ds1 l1).blk r → r < X0) ∧ Hid ((Nd.mk k t ka kc ks da dc ds l).at ps = if b then (Nd.mk k1 t1 ka1 kc1 ks1 da1 dc1 ds1 l1).at (ps.drop i) else none) ∧
    Hid (wx.heap[X0]? = some (.cells #[.int .u8 kx, .string ⟨tx.toArray⟩, .slice kax ksx.length kcx, .slice dax dsx.length dcx, .int .i64 lx] 26)) ∧ Hid (wx.heap[X0 + 1]? = some (.cells #[.int .u8 k1, .string ⟨t1.toArray⟩, .slice ka1 ks1.length kc1, .slice da1 ds1.length dc1, .int .i64 l1] 26)) ∧ Hid (Below X0 w11 wx))
  case atStart => exact ⟨0, k, t, ka, kc, ks, da, dc, ds, l, true, by omega, rfl, by go_num, HI0, hide rfl, HGX, HGN, HBV⟩
  case round =>
    obtain ⟨i, k1, t1, ka1, kc1, ks1, da1, dc1, ds1, l1, b, hig, rfl, rfl, HI, HA, HX, HG, HB⟩ := hrel
    have x0 := five_cell (unhide HG)
    have y0 := five_cell (unhide HX)
    have hX1 : X0 + 1 < wr.heap.size := (Array.getElem?_eq_some_iff.1 (unhide HG)).1
    cases b with
    | false =>
      have hr0 := (unhide HRX).symm.trans (unhide HA)
      obtain rfl : bx = false := by cases bx with
        | false => rfl
        | true => exact absurd hr0 (by simp)
      have hz := unhide HXZ rfl
      simp only [Nd.zero, Nd.mk.injEq] at hz
      obtain ⟨rfl, rfl, rfl, rfl, rfl, rfl, rfl, rfl, rfl⟩ := hz
      have hbY := below_five (unhide HB) (show X0 ≤ X0 + 1 by omega) (.int .u8 0) (.string ⟨#[]⟩) (.slice none 0 0) (.slice none 0 0) (.int .i64 0)
      have gY := five_set (unhide HG) (.int .u8 0) (.string ⟨#[]⟩) (.slice none 0 0) (.slice none 0 0) (.int .i64 0)
      have gY2 := (five_other (W := wr) (g := X0 + 1) (g' := X0) (by omega) (.int .u8 0) (.string ⟨#[]⟩) (.slice none 0 0) (.slice none 0 0) (.int .i64 0)).trans (unhide HX)
      have z0 := five_cell gY
      have z5 := five_cell gY2
      have HBY := hide hbY
      have hln := fun V => rlined_any Nd.zero Nd.zero V (Nd.zero_in _) (Nd.zero_in _) rfl
      simp only [Nd.zero, Nd.val_eq, List.length_nil] at hln
      have HLN := hide hln
      clear hr0 HRX HXZ hbY gY gY2 hln
      go_upto_region 29 with fail
      all_goals go_wp2_with (go_at_call 12; refine (unhide HLN _).mono ?_; rintro e w12 ⟨rfl, hb12⟩)
      all_goals go_ret
      all_goals exact ⟨rfl, (unhide HWL).trans (((unhide HBY).trans (hb12.mono (by have := (unhide HBY).size; omega))).mono (by have := (unhide HWL).size; omega))⟩
    | true =>
    cases gk with
    | zero =>
      have hr0 := (unhide HRX).symm.trans (unhide HA)
      rw [List.drop_of_length_le (by rw [unhide HN]; omega)] at hr0
      obtain rfl : bx = true := by cases bx with
        | true => rfl
        | false => exact absurd hr0 (by simp [Nd.at])
      simp only [Nd.at, if_true, Option.some.injEq, Nd.mk.injEq] at hr0
      obtain ⟨rfl, rfl, rfl, rfl, rfl, rfl, rfl, rfl, rfl⟩ := hr0
      have hiw := (unhide HI).1.keep (W' := wr) (fun g hg => (unhide HB).block g (by have := (unhide HI).2 g hg; omega))
      have hln := rlined_any (Nd.mk kx tx kax kcx ksx dax dcx dsx lx) (Nd.mk kx tx kax kcx ksx dax dcx dsx lx) wr hiw hiw rfl
      simp only [Nd.val_eq] at hln
      have HLN := hide hln
      have e1 : (n : Int) = (i : Int) := by omega
      clear HRX HXZ hiw hln
      go_wp2_with (go_at_call 12; refine (unhide HLN).mono ?_; rintro e w12 ⟨rfl, hb12⟩)
      go_ret
      exact ⟨rfl, (unhide HWL).trans (((unhide HB).trans (hb12.mono (by have := (unhide HB).size; omega))).mono (by have := (unhide HWL).size; omega))⟩
    | succ g' =>
    have hlt : (i : Int) < (n : Int) := by omega
    have hki : IntKind.i64.wrap ((i : Int) + 1) = (i : Int) + 1 := IntWalk.i64_in _ (by omega)
    obtain ⟨p, hgp⟩ := nth_of (unhide HN) (show i < n by omega)
    have hpl2 := unhide HPX p (List.mem_of_getElem? hgp)
    have hdr : ps.drop i = p :: ps.drop (i + 1) := by
      obtain ⟨hl2, rfl⟩ := List.getElem?_eq_some_iff.1 hgp
      exact List.drop_eq_getElem_cons hl2
    have hA := unhide HA
    rw [hdr, if_pos rfl, Nd.at] at hA
    have hpw := unhide HIS i p hgp
    obtain ⟨bp, op, hsa, hcp⟩ := hpw
    subst hsa
    have hbp := cellLt hcp
    have hcp2 : wr.cell? ⟨bp, op + i, none⟩ = some (.string ⟨p.toArray⟩) := (cell_of_block ((unhide HB).block bp (by omega)) _).trans hcp
    have HA2 := hide hA
    have hbr := (unhide HB).size
    have hbpw : bp < wr.heap.size := by omega
    have hkin : InS wr ka1 ks1 := by
      have h1 := (unhide HI).1.fit.keys
      simp only [Nd.ka, Nd.keys] at h1
      exact h1.keep (fun r hn hr => (unhide HB).block r ((unhide HI).2 r (by rw [blk_eq]; exact .inl ⟨hn, hr⟩)))
    have hkl := (unhide HI).1.fit.keysL
    have hdl := (unhide HI).1.fit.kidsL
    simp only [Nd.keys, Nd.kids] at hkl hdl
    have hkl2 : (ks1.length : Int) ≤ 9223372036854775807 := by unfold maxLen at hkl; omega
    have hdl2 : (ds1.length : Int) ≤ 9223372036854775807 := by unfold maxLen at hdl; omega
    have hnu := fun W => refNumber_all ⟨p.toArray⟩ W (by rw [Lib.size_eq]; show p.length ≤ 9223372036854775807; unfold maxLen at hpl2; omega)
    simp only [list_data] at hnu
    have HNU := hide hnu
    have HKI := hide hkin
    clear hA hcp hkin hnu hgp hdr hdl hkl hbp
    go_upto_if 82 with fail
    go_cut [14, 15] from 82 to 111 (fun s14 s15 wx => ∃ (K : Int) (q : Nat), s14 = .int .i64 K ∧ Hid (k1 = 3 → NxI (Nd.mk k1 t1 ka1 kc1 ks1 da1 dc1 ds1 l1) p K) ∧ Hid (k1 ≠ 3 → K = -1) ∧ wx = wr.drewN q)
    case first =>
      by_cases h3 : k1 = 3
      · subst h3
        go_wp2_with fail
        go_loopg [14, 15] (min ks1.length ds1.length) (fun g s14 s15 wx => ∃ (j q : Nat) (K : Int), s14 = .int .i64 K ∧ s15 = .int .i64 j ∧ wx = wr.drewN q ∧ j + g = min ks1.length ds1.length ∧ ((K = -1 ∧ Hid (∀ x, x < j → ks1[x]? ≠ some p)) ∨ ∃ i2 : Nat, K = i2 ∧ j = i2 + 1 ∧ Hid (NxI (Nd.mk 3 t1 ka1 kc1 ks1 da1 dc1 ds1 l1) p i2)))
        case atStart => exact ⟨0, 0, -1, rfl, by go_num, rfl, by omega, .inl ⟨rfl, hide (fun x hx => by omega)⟩⟩
        case round =>
          obtain ⟨j, q, K, rfl, rfl, rfl, hjg, hK⟩ := hrel
          obtain ⟨WQ, hWQ⟩ : ∃ WQ, wr.drewN q = WQ := ⟨_, rfl⟩
          have hGQ : WQ.heap[X0 + 1]? = some (.cells #[.int .u8 3, .string ⟨t1.toArray⟩, .slice ka1 ks1.length kc1, .slice da1 ds1.length dc1, .int .i64 l1] 26) := by rw [← hWQ]; exact unhide HG
          have hpQ : WQ.cell? ⟨bp, op + i, none⟩ = some (.string ⟨p.toArray⟩) := by rw [← hWQ]; exact hcp2
          have hkQ : InS WQ ka1 ks1 := by rw [← hWQ]; exact unhide HKI
          have hbQ : bp < WQ.heap.size := by rw [← hWQ]; exact hbpw
          have HWQ := hide hWQ
          have HKQ := hide hkQ
          rw [hWQ]
          have z0 := five_cell hGQ
          clear hWQ hkQ hcp2
          rcases hK with ⟨rfl, HM⟩ | ⟨i2, rfl, rfl, HH⟩
          · cases gk with
            | zero =>
              have hNX := hide (nx_miss (d := (Nd.mk 3 t1 ka1 kc1 ks1 da1 dc1 ds1 l1)) (p := p) j rfl (unhide HM) (by show ks1.length ≤ j ∨ ds1.length ≤ j; omega))
              by_cases hjk : (j : Int) < (ks1.length : Int)
              · have hjd : (ds1.length : Int) ≤ (j : Int) := by omega
                clear hjg
                go_wp2
                go_meet
                exact ⟨-1, q, rfl, hide (fun _ => unhide hNX), hide (fun _ => rfl), (unhide HWQ).symm⟩
              · have hjk : (ks1.length : Int) ≤ (j : Int) := by omega
                clear hjg
                go_wp2
                go_meet
                exact ⟨-1, q, rfl, hide (fun _ => unhide hNX), hide (fun _ => rfl), (unhide HWQ).symm⟩
            | succ g2 =>
              have hjk : (j : Int) < (ks1.length : Int) := by omega
              have hjd : (j : Int) < (ds1.length : Int) := by omega
              have hkj : IntKind.i64.wrap ((j : Int) + 1) = (j : Int) + 1 := IntWalk.i64_in _ (by omega)
              obtain ⟨y, hgy⟩ := nth_of (ds := ks1) rfl (show j < ks1.length by omega)
              obtain ⟨by1, oy, hka, hcy⟩ := unhide HKQ j y hgy
              subst hka
              have hbyl := cellLt hcy
              have HJ := hide hjg
              have HGY := hide hgy
              by_cases hyp : y = p
              · have hNX := hide (nx_hit (d := (Nd.mk 3 t1 (some ⟨by1, oy, none⟩) kc1 ks1 da1 dc1 ds1 l1)) (p := p) (i := j) rfl (by show ks1[j]? = some p; rw [hgy, hyp]) (unhide HM) (by show j < ds1.length; omega))
                subst hyp
                clear hjg hgy
                go_wp2_with fail
                go_region
                go_wp2
                go_roundg g2
                case measure => omega
                case rel => exact ⟨j + 1, q + 1, j, rfl, by go_num, by rw [← unhide HWQ]; rfl, by have := unhide HJ; omega, .inr ⟨j, rfl, rfl, hNX⟩⟩
              · have hyb : (y == p) = false := by simpa using hyp
                have HYP := hide hyp
                clear hjg hgy hyp
                go_wp2_with fail
                go_region
                go_wp2
                go_roundg g2
                case measure => omega
                case rel => exact ⟨j + 1, q + 1, -1, rfl, by go_num, by rw [← unhide HWQ]; rfl, by have := unhide HJ; omega, .inl ⟨rfl, hide (fun x hx => by
                  by_cases hxj : x < j
                  · exact unhide HM x hxj
                  · obtain rfl : x = j := by omega
                    rw [unhide HGY]; intro e; injection e with e; exact unhide HYP e)⟩⟩
          · have hi2 : ¬ (i2 : Int) < 0 := by omega
            by_cases hjk : (i2 : Int) + 1 < (ks1.length : Int)
            · by_cases hjd : (i2 : Int) + 1 < (ds1.length : Int)
              · clear hjg
                go_wp2
                go_meet
                exact ⟨i2, q, rfl, hide (fun _ => unhide HH), hide (fun h => absurd rfl h), (unhide HWQ).symm⟩
              · have hjd : (ds1.length : Int) ≤ (i2 : Int) + 1 := by omega
                clear hjg
                go_wp2
                go_meet
                exact ⟨i2, q, rfl, hide (fun _ => unhide HH), hide (fun h => absurd rfl h), (unhide HWQ).symm⟩
            · have hjk : (ks1.length : Int) ≤ (i2 : Int) + 1 := by omega
              clear hjg
              go_wp2
              go_meet
              exact ⟨i2, q, rfl, hide (fun _ => unhide HH), hide (fun h => absurd rfl h), (unhide HWQ).symm⟩
      · have j3 : ((k1 : Int) == 3) = false := by rw [beq_eq_false_iff_ne]; omega
        have H3 := hide h3
        clear h3
        go_wp2
        go_meet
        exact ⟨-1, 0, rfl, hide (fun h => absurd h (unhide H3)), hide (fun _ => rfl), rfl⟩
    case rest =>
      obtain ⟨K0, q, rfl, HK3, HK1, hwx⟩ := hcut
      have gC := (show wc.heap[X0 + 1]? = wr.heap[X0 + 1]? by rw [hwx]; rfl).trans (unhide HG)
      have gX := (show wc.heap[X0]? = wr.heap[X0]? by rw [hwx]; rfl).trans (unhide HX)
      have hpC := (show wc.cell? ⟨bp, op + i, none⟩ = wr.cell? ⟨bp, op + i, none⟩ by rw [hwx]; rfl).trans hcp2
      have hbC : Below X0 w11 wc := by rw [hwx]; exact ⟨(unhide HB).os, (unhide HB).tape, (unhide HB).output, (unhide HB).size, (unhide HB).block⟩
      have hbpC : bp < wc.heap.size := by rw [hwx]; exact hbpw
      have HGC := hide gC
      have HXC := hide gX
      have HBC := hide hbC
      have hsC : X0 + 1 < wc.heap.size := (Array.getElem?_eq_some_iff.1 gC).1
      clear x0 y0 hwx gX hbC hcp2 hbpw HG HX HB hX1 hbr HKI
      have x0 := five_cell gC
      clear gC
      go_upto_if 114 with fail
      go_cut [14, 16, 17] from 114 to 132 (fun s14 s16 s17 wx => ∃ K : Int, s14 = .int .i64 K ∧ Hid (NxI (Nd.mk k1 t1 ka1 kc1 ks1 da1 dc1 ds1 l1) p K) ∧ wx = wc)
      case first =>
        by_cases h2 : k1 = 2
        · subst h2
          have hK0 := unhide HK1 (by omega)
          subst hK0
          obtain ⟨⟨nq, ne⟩, hq⟩ : ∃ q, P18.number p = q := ⟨_, rfl⟩
          have hnu := unhide HNU wc
          simp only [hq] at hnu
          have HNQ := hide hnu
          by_cases hne : ne = 0
          · subst hne
            by_cases hlq : nq < (ds1.length : Int)
            · have hNX := hide (nx_num (d := (Nd.mk 2 t1 ka1 kc1 ks1 da1 dc1 ds1 l1)) (p := p) rfl (by rw [hq]) (by rw [hq]; exact hlq))
              rw [hq] at hNX
              clear hnu hq HNU
              go_wp2_with (go_at_call 25; refine (unhide HNQ).mono ?_; rintro e' w' ⟨rfl, rfl⟩)
              go_meet
              exact ⟨nq, rfl, hNX, rfl⟩
            · have hNX := hide (nx_far (d := (Nd.mk 2 t1 ka1 kc1 ks1 da1 dc1 ds1 l1)) (p := p) rfl (by rw [hq]) (by rw [hq]; show (ds1.length : Int) ≤ nq; omega))
              have hlq : (ds1.length : Int) ≤ nq := by omega
              clear hnu hq HNU
              go_wp2_with (go_at_call 25; refine (unhide HNQ).mono ?_; rintro e' w' ⟨rfl, rfl⟩)
              go_meet
              exact ⟨-1, rfl, hNX, rfl⟩
          · have hNX := hide (nx_bad (d := (Nd.mk 2 t1 ka1 kc1 ks1 da1 dc1 ds1 l1)) (p := p) rfl (by rw [hq]; exact hne))
            have jq : (ne == 0) = false := by rw [beq_eq_false_iff_ne]; exact hne
            clear hnu hq HNU hne
            go_wp2_with (go_at_call 25; refine (unhide HNQ).mono ?_; rintro e' w' ⟨rfl, rfl⟩)
            go_meet
            exact ⟨-1, rfl, hNX, rfl⟩
        · have j2 : ((k1 : Int) == 2) = false := by rw [beq_eq_false_iff_ne]; omega
          have hNX : NxI (Nd.mk k1 t1 ka1 kc1 ks1 da1 dc1 ds1 l1) p K0 := by
            by_cases h3 : k1 = 3
            · exact unhide HK3 h3
            · rw [unhide HK1 h3]; exact nx_else h3 h2
          have HNX := hide hNX
          clear h2 hNX
          go_wp2
          go_meet
          exact ⟨K0, rfl, HNX, rfl⟩
      case rest =>
        obtain ⟨K, rfl, HNX, rfl⟩ := hcut
        rcases unhide HNX with ⟨hK, hnx⟩ | ⟨i2, e, rfl, hge, hnx⟩
        · have hA2 := unhide HA2
          rw [hnx] at hA2
          have HA3 := hide hA2
          have jd : decide (0 ≤ K) = false := by simp; omega
          clear hA2 hnx
          go_wp2
          go_roundg g'
          case measure => omega
          case rel => exact ⟨i + 1, k1, t1, ka1, kc1, ks1, da1, dc1, ds1, l1, false, by omega, rfl, by go_num, HI, HA3, HXC, HGC, HBC⟩
        · simp only [Nd.kids] at hge
          have hi2 := (List.getElem?_eq_some_iff.1 hge).1
          obtain ⟨hI1, hI2⟩ := unhide HI
          have hkd := hI1.kids
          simp only [Nd.da, Nd.kids] at hkd
          obtain ⟨b3, o3, k3, t3, ka3, kc3, ks3, da3, dc3, ds3, l3, rfl, rfl, e0, e1, e2, e3, e4, hin3⟩ := kid_open hkd hge
          have hA2 := unhide HA2
          rw [hnx] at hA2
          have hb3 : b3 < X0 := hI2 b3 (by rw [blk_eq]; exact .inr (.inl ⟨by rintro e; simp only [Nd.kids] at e; rw [e] at hi2; simp at hi2, o3, rfl⟩))
          have hbb := (unhide HBC).block b3 hb3
          have HIN := hide (show (Nd.mk k3 t3 ka3 kc3 ks3 da3 dc3 ds3 l3).In w11 ∧ ∀ r, (Nd.mk k3 t3 ka3 kc3 ks3 da3 dc3 ds3 l3).blk r → r < X0 from ⟨hin3, fun r hr => hI2 r (by rw [blk_eq]; exact .inr (.inr ((blkL_iff r _).2 ⟨_, List.mem_of_getElem? hge, hr⟩)))⟩)
          replace e0 := (cell_of_block hbb _).trans e0
          replace e1 := (cell_of_block hbb _).trans e1
          replace e2 := (cell_of_block hbb _).trans e2
          replace e3 := (cell_of_block hbb _).trans e3
          replace e4 := (cell_of_block hbb _).trans e4
          have HA3 := hide hA2
          have hii : (i2 : Int) < (ds1.length : Int) := by omega
          have hbl3 := cellLt e0
          clear hA2 hnx hkd hI1 hI2 hge hbb hin3 hi2
          go_wp2
          go_roundg g'
          case measure => omega
          case rel => exact ⟨i + 1, k3, t3, ka3, kc3, ks3, da3, dc3, ds3, l3, true, by omega, rfl, by go_num, HIN, HA3, hide ((five_other (by omega) _ _ _ _ _).trans (unhide HXC)), hide (five_set (unhide HGC) _ _ _ _ _), hide (below_five (unhide HBC) (by omega) _ _ _ _ _)⟩
end Go.Proofs.YtnjokdbblmlhhaaGreatDoor
