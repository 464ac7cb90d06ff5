/- The reference's Print.; BlockPrints. -/
import Derived.Test.YtnjokdbblmlhhaaGreatDoorWR20x
import Derived.Test.YtnjokdbblmlhhaaGreatDoorLive20
namespace Go.Proofs.YtnjokdbblmlhhaaGreatDoor
set_option linter.unusedVariables false
set_option linter.unusedSimpArgs false
open Go.RowKit
theorem lay_flat20 : ∀ ls : List (List UInt8), P20.lay [] [] ls = ls.flatMap (fun l => l ++ [10])
  | [] => rfl
  | x :: r => by rw [P20.lay, lay_flat20 r]; simp
theorem flat_drop {ls : List (List UInt8)} {i : Nat} {x : List UInt8} (h : ls[i]? = some x) : (ls.drop i).flatMap (fun l => l ++ [10]) = x ++ [10] ++ (ls.drop (i + 1)).flatMap (fun l => l ++ [10]) := by
  obtain ⟨h1, h2⟩ := List.getElem?_eq_some_iff.1 h
  rw [List.drop_eq_getElem_cons h1, h2]
  simp
theorem Sm.write {d : P20.T} (h : Sm d) : (d.write [] []).length ≤ 10000000000000 := by
  obtain ⟨q, n, m, hs, hn, hq⟩ := h
  have h1 := P20.T.small_write d q n m [] [] hs (by omega)
  simp only [List.length_nil] at h1
  have h2 : (n - m) * (3 * 0 + 6 * q + 30000) ≤ 100000000 * 36000 := Nat.mul_le_mul (by omega) (by omega)
  omega
set_option maxRecDepth 100000 in
set_option maxHeartbeats 2000000 in
theorem RPrint_any (d : Nd) (w : World) (hin : d.In w) (hs : Sm d.bare) :
    Calls Tryz.prog 15 #[d.val] w fun e w' => ∃ o : ByteArray, e = .returned (.tuple #[.string o, .int .i64 d.bare.print.2]) ∧ Hid (o.data.toList = d.bare.print.1) ∧ Below w.heap.size w w' := by
  have hck0 := RCheck_any d
  have hln0 := rlin_any d 1
  obtain ⟨k, t, ka, kc, ks, da, dc, ds, l⟩ := d
  obtain ⟨H, hH⟩ : ∃ H, w.heap.size = H := ⟨_, rfl⟩
  obtain ⟨W, hW⟩ : ∃ W, w.alloc (.cells #[.int .u8 k, .string ⟨t.toArray⟩, .slice ka ks.length kc, .slice da ds.length dc, .int .i64 l] 26) = W := ⟨_, rfl⟩
  have hbw : Below w.heap.size w W := by rw [← hW]; exact (Below.refl _ w).alloc (Nat.le_refl _) _
  have g0 : W.heap[H]? = some (.cells #[.int .u8 k, .string ⟨t.toArray⟩, .slice ka ks.length kc, .slice da ds.length dc, .int .i64 l] 26) := by rw [← hW, ← hH]; exact World.alloc_heap_new _ _
  have hl0 : H < W.heap.size := (Array.getElem?_eq_some_iff.1 g0).1
  obtain ⟨⟨x0, _⟩, ⟨x1, _⟩, ⟨x2, _⟩, ⟨x3, _⟩, ⟨x4, _⟩⟩ := five_cell g0
  have hinW := hin.below hbw
  have hck := hck0 W hinW hs
  have hln := fun V (hb : Below W.heap.size W V) => hln0 V (hinW.below hb) hs
  have hwl := hs.write
  have hsl := hs.lines
  obtain ⟨T, hT⟩ : ∃ T, (Nd.mk k t ka kc ks da dc ds l).bare = T := ⟨_, rfl⟩
  rw [Nd.val_eq] at hck hln
  rw [hT] at hck hln hwl hsl ⊢
  rw [Nd.val_eq]
  have HW := hide hW
  have HB := hide hbw
  have HH := hide hH
  have HG0 := hide g0
  have HLN := hide hln
  clear hW hbw hH g0 hln hck0 hln0 hin hinW hs hT
  by_cases hc : T.check 1 = 0
  rotate_left
  · rw [show T.print = ([], T.check 1) by unfold P20.T.print; rw [if_pos hc]]
    obtain ⟨e, he⟩ : ∃ e, T.check 1 = e := ⟨_, rfl⟩
    rw [he] at hc hck ⊢
    have jne : (e != 0) = true := by simpa using hc
    have HC := hide hck
    clear hck he hc hwl hsl
    go_enter Tryz.func15, Tryz.ntmps15
    go_upto_region 1 with fail
    try rw [unhide HH]
    rw [unhide HW]
    go_wp2_with (go_at_call 17; refine (unhide HC).mono ?_; rintro e' w1 ⟨rfl, hb1⟩)
    exact bodyPost_ret (results_tmp2 rfl _ _ _) rfl ⟨_, rfl, hide rfl, (unhide HB).trans (hb1.mono (unhide HB).size)⟩
  have hwr : T.write [] [] = T.lines.flatMap (fun l => l ++ [10]) := by rw [P20.T.write_lines T 1 [] [] hc, lay_flat20]
  obtain ⟨LL, hLL⟩ : ∃ LL, T.lines = LL := ⟨_, rfl⟩
  obtain ⟨G, hG⟩ : ∃ G, T.write [] [] = G := ⟨_, rfl⟩
  rw [hG] at hwl
  rw [hG, hLL] at hwr
  rw [hLL] at hsl
  rw [hc] at hck
  have hpr : T.print = if 1048576 < G.length then ([], 2) else (G, 0) := by unfold P20.T.print; rw [if_neg (by simpa using hc), hG]
  rw [hpr]
  obtain ⟨PP, hPP⟩ : ∃ PP : List UInt8 × Int, (if 1048576 < G.length then ([], 2) else (G, 0)) = PP := ⟨_, rfl⟩
  rw [hPP]
  have HPP := hide hPP
  clear hPP
  have hln : ∀ V, Below W.heap.size W V → Calls Tryz.prog 41 #[.agg #[.int .u8 k, .string ⟨t.toArray⟩, .slice ka ks.length kc, .slice da ds.length dc, .int .i64 l]] V fun e w' => ∃ v, e = .returned v ∧ Hid (Strs w' (V.heap.size + 1) v LL) ∧ Below V.heap.size V w' := fun V hb => by have := unhide HLN V hb hc; rw [hLL] at this; exact this
  obtain ⟨hs1, hs2⟩ := hsl
  have HC := hide hck
  have HLN2 := hide hln
  have HX := hide hs2
  have HWR := hide hwr
  clear hck hln hpr hwr hc hG hLL hs2 HLN
  go_enter Tryz.func15, Tryz.ntmps15
  go_upto_region 1 with fail
  try rw [unhide HH]
  rw [unhide HW]
  go_upto_region 5 with (first
    | (go_at_call 17; refine (unhide HC).mono ?_; rintro e' w1 ⟨rfl, hb1⟩; have HB1 := hide hb1; obtain ⟨⟨r0, _⟩, ⟨r1, _⟩, ⟨r2, _⟩, ⟨r3, _⟩, ⟨r4, _⟩⟩ := five_cell ((hb1.block H hl0).trans (unhide HG0)); clear hb1)
    | (go_at_call 41; refine (unhide HLN2 _ (unhide HB1)).mono ?_; rintro e' w2 ⟨v, rfl, HSL, hb2⟩))
  obtain ⟨a, c, hv, hcl, _⟩ := (unhide HSL).slice
  subst hv
  have hb1 := unhide HB1
  have HB2 := hide (((unhide HB).trans (hb1.mono (unhide HB).size)).trans (hb2.mono (Nat.le_trans (unhide HB).size hb1.size)))
  obtain ⟨n, hn⟩ : ∃ n, LL.length = n := ⟨_, rfl⟩
  rw [hn] at hcl hs1
  have hSLn : Hid (∀ i x, LL[i]? = some x → ∃ b o, a = some ⟨b, o, none⟩ ∧ w2.cell? ⟨b, o + i, none⟩ = some (.string ⟨x.toArray⟩)) := hide (fun i x hx => by
    obtain ⟨b, o, c2, he, _, h9⟩ := (unhide HSL).get hx
    injection he with e1 e2 e3
    exact ⟨b, o, e1, h9⟩)
  rw [hn]
  have HN := hide hn
  clear x0 x1 x2 x3 x4 r0 r1 r2 r3 r4 hb1 hb2 HSL hn
  go_wp2
  go_loopg [6, 7] n (fun g s6 s7 wx => ∃ (i : Nat) (b : ByteArray), i + g = n ∧ s6 = .string b ∧ s7 = .int .i64 i ∧ Hid (b.data.toList ++ (LL.drop i).flatMap (fun l => l ++ [10]) = G) ∧ w2 = wx)
  case atStart => exact ⟨0, _, by omega, rfl, by go_num, hide (by rw [unhide HWR]; rfl), rfl⟩
  case round =>
    obtain ⟨i, b, hig, rfl, rfl, HE, rfl⟩ := hrel
    have hE := unhide HE
    have hbl : b.size ≤ 10000000000000 := by
      have h9 := congrArg List.length hE
      rw [List.length_append, ← Lib.size_eq] at h9
      omega
    cases gk with
    | zero =>
      have e1 : (n : Int) = (i : Int) := by omega
      rw [List.drop_of_length_le (by rw [unhide HN]; omega)] at hE
      simp only [List.flatMap_nil, List.append_nil] at hE
      have hbg : b.size = G.length := by rw [Lib.size_eq, hE]
      have HE2 := hide hE
      clear hE HE
      by_cases hg : 1048576 < G.length
      · have jg : (1048576 : Int) < (b.size : Int) := by omega
        have hP := unhide HPP
        rw [if_pos hg] at hP
        subst hP
        clear hbg hg
        go_wp2
        exact bodyPost_ret (results_tmp2 rfl _ _ _) rfl ⟨_, rfl, hide rfl, unhide HB2⟩
      · have jg : (b.size : Int) ≤ 1048576 := by omega
        have hP := unhide HPP
        rw [if_neg hg] at hP
        subst hP
        clear hbg hg
        go_wp2
        exact bodyPost_ret (results_tmp2 rfl _ _ _) rfl ⟨_, rfl, HE2, unhide HB2⟩
    | succ g' =>
      have hlt : (i : Int) < (n : Int) := by omega
      have hki : IntKind.i64.wrap ((i : Int) + 1) = (i : Int) + 1 := IntWalk.i64_in _ (by omega)
      obtain ⟨x, hx⟩ := nth_of (unhide HN) (show i < n by omega)
      have hxl := unhide HX x (List.mem_of_getElem? hx)
      have hxs : (⟨x.toArray⟩ : ByteArray).size ≤ 40000 := by rw [Lib.size_eq]; exact hxl
      obtain ⟨b5, o5, rfl, hc⟩ := unhide hSLn i x hx
      rw [flat_drop hx] at hE
      have HE2 := hide hE
      clear hE HE hx
      go_wp2
      go_roundg g'
      case measure => omega
      case rel => exact ⟨i + 1, _, by omega, rfl, by go_num, hide (by rw [← unhide HE2]; simp), rfl⟩
end Go.Proofs.YtnjokdbblmlhhaaGreatDoor
namespace Go.Proofs.YtnjokdbblmlhhaaGreatDoor
set_option linter.unusedVariables false
set_option linter.unusedSimpArgs false
open Go.RowKit
theorem sm_of {d : P20.T} {m : Nat} (h : d.small 18 150 = some m) : Sm d := ⟨18, 150, m, h, by omega, by omega⟩
theorem ok_of {d : P20.T} {m : Nat} (h : d.small 18 150 = some m) : okT d := (P20.T.small_ok _ _ _ _ h (by omega)).2.2.2.1
theorem str_back {o : ByteArray} {l : List UInt8} (h : o.data.toList = l) : o = ⟨l.toArray⟩ := by subst h; cases o; rfl
theorem write_of {d : P20.T} {m : Nat} (h : d.small 18 150 = some m) : (d.write [] []).length ≤ 5000000 := by
  have h1 := P20.T.small_write d 18 150 m [] [] h (by omega)
  simp only [List.length_nil] at h1
  have h2 : (150 - m) * (3 * 0 + 6 * 18 + 30000) ≤ 150 * 30108 := Nat.mul_le_mul (by omega) (by omega)
  omega
theorem pprint (d : Nd) (w : World) (hin : d.In w) {m : Nat} (h : d.bare.small 18 150 = some m) : Calls Tryz.prog 14 #[d.val] w fun e w' => e = .returned (.tuple #[.string ⟨d.bare.print.1.toArray⟩, .int .i64 d.bare.print.2]) ∧ Below w.heap.size w w' := by
  refine (Print20_any d w hin (ok_of h) (fun _ => by have := write_of h; omega)).mono ?_
  rintro e w' ⟨o, rfl, ho, hb⟩
  rw [str_back (unhide ho)]
  exact ⟨rfl, hb⟩
theorem rprint (d : Nd) (w : World) (hin : d.In w) {m : Nat} (h : d.bare.small 18 150 = some m) : Calls Tryz.prog 15 #[d.val] w fun e w' => e = .returned (.tuple #[.string ⟨d.bare.print.1.toArray⟩, .int .i64 d.bare.print.2]) ∧ Below w.heap.size w w' := by
  refine (RPrint_any d w hin (sm_of h)).mono ?_
  rintro e w' ⟨o, rfl, ho, hb⟩
  rw [str_back (unhide ho)]
  exact ⟨rfl, hb⟩
set_option maxRecDepth 100000 in
set_option maxHeartbeats 4000000 in
theorem BlockPrints_any (d : Nd) (w : World) (hin : d.In w) : Calls Tryz.prog 4 #[d.val] w fun e w' => e = .returned (.bool true) ∧ Below w.heap.size w w' := by
  have hsm0 := Small_any d
  have hpp := @pprint d
  have hrp := @rprint d
  have hck := Check20_any d
  have hrc := RCheck_any d
  obtain ⟨k, t, ka, kc, ks, da, dc, ds, l⟩ := d
  obtain ⟨T, hT⟩ : ∃ T, (Nd.mk k t ka kc ks da dc ds l).bare = T := ⟨_, rfl⟩
  rw [Nd.val_eq] at hsm0 hpp hrp hck hrc ⊢
  rw [hT] at hsm0 hpp hrp hck hrc
  obtain ⟨H, hH⟩ : ∃ H, w.heap.size = H := ⟨_, rfl⟩
  obtain ⟨W, hW⟩ : ∃ W, w.alloc (.cells #[.int .u8 k, .string ⟨t.toArray⟩, .slice ka ks.length kc, .slice da ds.length dc, .int .i64 l] 26) = W := ⟨_, rfl⟩
  have hbw : Below H w W := by rw [← hW]; exact (Below.refl _ w).alloc (by omega) _
  have g0 : W.heap[H]? = some (.cells #[.int .u8 k, .string ⟨t.toArray⟩, .slice ka ks.length kc, .slice da ds.length dc, .int .i64 l] 26) := by rw [← hW, ← hH]; exact World.alloc_heap_new _ _
  have hl0 : H < W.heap.size := (Array.getElem?_eq_some_iff.1 g0).1
  have hinW := hin.below (by rw [hH]; exact hbw)
  -- all that holds in a later world
  have hfar : ∀ V, Below W.heap.size W V → V.heap[H]? = some (.cells #[.int .u8 k, .string ⟨t.toArray⟩, .slice ka ks.length kc, .slice da ds.length dc, .int .i64 l] 26) ∧ (Nd.mk k t ka kc ks da dc ds l).In V ∧ Below H w V := fun V hb => ⟨(hb.block H hl0).trans g0, hinW.below hb, hbw.trans (hb.mono (by omega))⟩
  have HFAR := hide hfar
  have HW := hide hW
  have HSM := hide hsm0
  have HPP := hide hpp
  have HRP := hide hrp
  have HCK := hide hck
  have HRC := hide hrc
  rw [hH]
  clear hW hbw g0 hin hinW hfar hsm0 hpp hrp hck hrc hT
  go_enter Tryz.func4, Tryz.ntmps4
  go_upto_region 1 with fail
  rw [unhide HW]
  try rw [hH]
  clear HW
  go_upto_region 3 with (go_at_call 9; refine (live20_any _).mono ?_; rintro e w1 ⟨rfl, hb1⟩)
  obtain ⟨n1, hin1, hw1⟩ := unhide HFAR w1 hb1
  have hl1 := hb1.size
  obtain ⟨⟨x0, _⟩, ⟨x1, _⟩, ⟨x2, _⟩, ⟨x3, _⟩, ⟨x4, _⟩⟩ := five_cell n1
  have hs1 := unhide HSM w1 hin1
  cases hm : T.small 18 150 with
  | none =>
    rw [hm] at hs1
    have HS1 := hide (show Calls Tryz.prog 13 #[.agg #[.int .u8 k, .string ⟨t.toArray⟩, .slice ka ks.length kc, .slice da ds.length dc, .int .i64 l]] w1 fun x w' => x = .returned (.bool false) ∧ Below w1.heap.size w1 w' from hs1)
    clear hs1 hm
    go_wp2_with (go_at_call 13; refine (unhide HS1).mono ?_; rintro e w2 ⟨rfl, hb2⟩)
    go_ret
    exact ⟨rfl, hw1.trans (hb2.mono (by omega))⟩
  | some m =>
    rw [hm] at hs1
    have HS1 := hide (show Calls Tryz.prog 13 #[.agg #[.int .u8 k, .string ⟨t.toArray⟩, .slice ka ks.length kc, .slice da ds.length dc, .int .i64 l]] w1 fun x w' => x = .returned (.bool true) ∧ Below w1.heap.size w1 w' from hs1)
    obtain ⟨p, hp⟩ : ∃ p, T.print = p := ⟨_, rfl⟩
    obtain ⟨c, hc⟩ : ∃ c, T.check 1 = c := ⟨_, rfl⟩
    have hpp : ∀ V, (Nd.mk k t ka kc ks da dc ds l).In V → Calls Tryz.prog 14 #[.agg #[.int .u8 k, .string ⟨t.toArray⟩, .slice ka ks.length kc, .slice da ds.length dc, .int .i64 l]] V fun e w' => e = .returned (.tuple #[.string ⟨p.1.toArray⟩, .int .i64 p.2]) ∧ Below V.heap.size V w' := fun V hi => by have := unhide HPP V hi hm; rw [hp] at this; exact this
    have hrp : ∀ V, (Nd.mk k t ka kc ks da dc ds l).In V → Calls Tryz.prog 15 #[.agg #[.int .u8 k, .string ⟨t.toArray⟩, .slice ka ks.length kc, .slice da ds.length dc, .int .i64 l]] V fun e w' => e = .returned (.tuple #[.string ⟨p.1.toArray⟩, .int .i64 p.2]) ∧ Below V.heap.size V w' := fun V hi => by have := unhide HRP V hi hm; rw [hp] at this; exact this
    have hck : ∀ V, (Nd.mk k t ka kc ks da dc ds l).In V → Calls Tryz.prog 16 #[.agg #[.int .u8 k, .string ⟨t.toArray⟩, .slice ka ks.length kc, .slice da ds.length dc, .int .i64 l]] V fun e w' => e = .returned (.int .i64 c) ∧ Below V.heap.size V w' := fun V hi => by have := unhide HCK V hi (ok_of hm); rw [hc] at this; exact this
    have hrc : ∀ V, (Nd.mk k t ka kc ks da dc ds l).In V → Calls Tryz.prog 17 #[.agg #[.int .u8 k, .string ⟨t.toArray⟩, .slice ka ks.length kc, .slice da ds.length dc, .int .i64 l]] V fun e w' => e = .returned (.int .i64 c) ∧ Below V.heap.size V w' := fun V hi => by have := unhide HRC V hi (sm_of hm); rw [hc] at this; exact this
    have HP := hide hpp
    have HR := hide hrp
    have HC := hide hck
    have HD := hide hrc
    have hmx : Tryz.prog.follows .mixedOrders = true := by kernel_rfl
    have HIN1 := hide hin1
    have HB1 := hide hb1
    clear hs1 hm hpp hrp hck hrc hp hc HPP HRP HCK HRC HSM n1 hin1 hb1 hw1
    go_upto_region 7 with (first
      | (go_at_call 13; refine (unhide HS1).mono ?_; rintro e w2 ⟨rfl, hb2⟩; have hB2 := (unhide HB1).trans (hb2.mono hl1); obtain ⟨n2, hin2, hw2⟩ := unhide HFAR w2 hB2; obtain ⟨⟨y0, _⟩, ⟨y1, _⟩, ⟨y2, _⟩, ⟨y3, _⟩, ⟨y4, _⟩⟩ := five_cell n2; have HIN2 := hide hin2; have HB2 := hide hB2; have hl2 := hB2.size; clear n2 hin2 hw2 hb2 hB2)
      | (go_at_call 14; refine (unhide HP w2 (unhide HIN2)).mono ?_; rintro e w3 ⟨rfl, hb3⟩; have hB3 := (unhide HB2).trans (hb3.mono hl2); obtain ⟨n3, hin3, hw3⟩ := unhide HFAR w3 hB3; obtain ⟨⟨z0, _⟩, ⟨z1, _⟩, ⟨z2, _⟩, ⟨z3, _⟩, ⟨z4, _⟩⟩ := five_cell n3; have HIN3 := hide hin3; have HB3 := hide hB3; have hl3 := hB3.size; clear n3 hin3 hw3 hb3 hB3)
      | (go_at_call 15; refine (unhide HR w3 (unhide HIN3)).mono ?_; rintro e w4 ⟨rfl, hb4⟩))
    have hB4 := (unhide HB3).trans (hb4.mono hl3)
    obtain ⟨n4, hin4, hw4⟩ := unhide HFAR w4 hB4
    obtain ⟨⟨r0, _⟩, ⟨r1, _⟩, ⟨r2, _⟩, ⟨r3, _⟩, ⟨r4, _⟩⟩ := five_cell n4
    have HCW := hide (unhide HC w4.drew hin4.drew)
    have HB4 := hide hB4
    have hl4 := hB4.size
    clear x0 x1 x2 x3 x4 y0 y1 y2 y3 y4 z0 z1 z2 z3 z4 n4 hin4 hw4 hB4 hb4
    go_region_with_o (first
      | (go_at_call 16; refine (unhide HCW).mono ?_; rintro e w5 ⟨rfl, hb5⟩; have hB5 : Below W.heap.size W w5 := (unhide HB4).trans ((show Below w4.heap.size w4 w5 from ⟨hb5.os, hb5.tape, hb5.output, hb5.size, hb5.block⟩).mono hl4); obtain ⟨n5, hin5, hw5⟩ := unhide HFAR w5 hB5; obtain ⟨⟨s0, _⟩, ⟨s1, _⟩, ⟨s2, _⟩, ⟨s3, _⟩, ⟨s4, _⟩⟩ := five_cell n5; have HIN5 := hide hin5; have HW5 := hide hw5; have hl5 := hw5.size; clear n5 hin5 hw5 hb5 hB5)
      | (go_at_call 17; refine (unhide HD w5 (unhide HIN5)).mono ?_; rintro e w6 ⟨rfl, hb6⟩))
    all_goals go_wp2
    all_goals go_ret
    all_goals exact ⟨rfl, (unhide HW5).trans (hb6.mono (by omega))⟩
end Go.Proofs.YtnjokdbblmlhhaaGreatDoor
