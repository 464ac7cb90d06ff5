/- BlockBack: what may be is read as it was printed; what is read may be, and is read alike when it is printed. -/
import Derived.Test.YtnjokdbblmlhhaaGreatDoorGBP
import Derived.Test.YtnjokdbblmlhhaaGreatDoorPlain20f
namespace Go.Proofs.YtnjokdbblmlhhaaGreatDoor
set_option linter.unusedVariables false
set_option linter.unusedSimpArgs false
open Go.RowKit
theorem pprint_ok (d : Nd) (w : World) (hin : d.In w) (hok : okT d.bare) (hl : (d.bare.write [] []).length ≤ 1048576) : Calls Tryz.prog 14 #[d.val] w fun e w' => e = .returned (.tuple #[.string ⟨d.bare.print.1.toArray⟩, .int .i64 d.bare.print.2]) ∧ Below w.heap.size w w' := by
  refine (Print20_any d w hin hok (fun _ => by omega)).mono ?_
  rintro e w' ⟨o, rfl, ho, hb⟩
  rw [str_back (unhide ho)]
  exact ⟨rfl, hb⟩
theorem parse_list (l : List UInt8) (o : Except (Int × Int) P20.T) (w : World) (hs : l.length ≤ 1048576) (ho : P20.PaR l o) : Calls Tryz.prog 10 #[.string ⟨l.toArray⟩] w (ReadPost w o) :=
  Parse20_any ⟨l.toArray⟩ o w (by rw [Lib.size_eq]; exact hs) ho
namespace P20
theorem T.print_ok {d : T} (h : d.print.2 = 0) : d.check 1 = 0 ∧ (d.write [] []).length ≤ 1048576 ∧ d.print.1 = d.write [] [] := by
  unfold T.print at h ⊢
  split at h
  · rename_i h1; exact absurd h h1
  · rename_i h1
    split at h
    · exact absurd h (by decide)
    · rename_i h2
      rw [if_neg h1, if_neg h2]
      exact ⟨by simpa using h1, by omega, rfl⟩
theorem T.print_fine {d : T} (h : d.check 1 = 0) (hl : (d.write [] []).length ≤ 1048576) : d.print = (d.write [] [], 0) := by
  unfold T.print
  rw [if_neg (by simpa using h), if_neg (by omega)]
end P20
set_option maxRecDepth 100000 in
set_option maxHeartbeats 40000000 in
theorem BlockBack_any (d0 : Nd) (s : ByteArray) (w : World) (hin : d0.In w) :
    Calls Tryz.prog 6 #[d0.val, .string s] w fun e w' => e = .returned (.bool true) ∧ Below w.heap.size w w' := by
  have hsm0 := Small_any d0
  have hpp := @pprint d0
  have hrs := fun (e : Nd) => rsame_any e d0
  obtain ⟨k, t, ka, kc, ks, da, dc, ds, l⟩ := d0
  obtain ⟨T, hT⟩ : ∃ T, (Nd.mk k t ka kc ks da dc ds l).bare = T := ⟨_, rfl⟩
  simp only [Nd.val_eq] at hsm0 hpp hrs ⊢
  simp only [RSameC, hT] at hsm0 hpp hrs
  try simp only [Nd.val_eq] at hrs
  obtain ⟨H, hH⟩ : ∃ H, w.heap.size = H := ⟨_, rfl⟩
  obtain ⟨W, hW⟩ : ∃ W, w.alloc (.cells #[.int .u8 k, .string ⟨t.toArray⟩, .slice ka ks.length kc, .slice da ds.length dc, .int .i64 l] 26) = W := ⟨_, rfl⟩
  have hbw : Below H w W := by rw [← hW]; exact (Below.refl _ w).alloc (by omega) _
  have g0 : W.heap[H]? = some (.cells #[.int .u8 k, .string ⟨t.toArray⟩, .slice ka ks.length kc, .slice da ds.length dc, .int .i64 l] 26) := by rw [← hW, ← hH]; exact World.alloc_heap_new _ _
  have hl0 : H < W.heap.size := (Array.getElem?_eq_some_iff.1 g0).1
  have hinW := hin.below (by rw [hH]; exact hbw)
  have hfar : ∀ V, Below W.heap.size W V → V.heap[H]? = some (.cells #[.int .u8 k, .string ⟨t.toArray⟩, .slice ka ks.length kc, .slice da ds.length dc, .int .i64 l] 26) ∧ (Nd.mk k t ka kc ks da dc ds l).In V ∧ Below H w V := fun V hb => ⟨(hb.block H hl0).trans g0, hinW.below hb, hbw.trans (hb.mono (by omega))⟩
  have HFAR := hide hfar
  have HW := hide hW
  have HSM := hide hsm0
  have HPP := hide hpp
  have HRS := hide hrs
  have hmx : Tryz.prog.follows .mixedOrders = true := by kernel_rfl
  rw [hH]
  clear hW hbw g0 hin hinW hfar hsm0 hpp hrs hT
  go_enter Tryz.func6, Tryz.ntmps6
  go_upto_region 1 with fail
  rw [unhide HW]
  try rw [hH]
  clear HW
  go_upto_region 3 with (go_at_call 9; refine (live20_any _).mono ?_; rintro e w1 ⟨rfl, hb1⟩)
  obtain ⟨n1, hin1, hw1⟩ := unhide HFAR w1 hb1
  have hl1 := hb1.size
  have x0 := five_cell n1
  have hs1 := unhide HSM w1 hin1
  have hw1l := hw1.size
  cases hm : T.small 18 150 with
  | none =>
    rw [hm] at hs1
    have HS1 := hide (show Calls Tryz.prog 13 #[.agg #[.int .u8 k, .string ⟨t.toArray⟩, .slice ka ks.length kc, .slice da ds.length dc, .int .i64 l]] w1 fun x w' => x = .returned (.bool false) ∧ Below w1.heap.size w1 w' from hs1)
    clear hs1 hm
    go_wp2_with (go_at_call 13; refine (unhide HS1).mono ?_; rintro e w2 ⟨rfl, hb2⟩)
    go_ret
    exact ⟨rfl, hw1.trans (hb2.mono (by omega))⟩
  | some m =>
  rw [hm] at hs1
  have HS1 := hide (show Calls Tryz.prog 13 #[.agg #[.int .u8 k, .string ⟨t.toArray⟩, .slice ka ks.length kc, .slice da ds.length dc, .int .i64 l]] w1 fun x w' => x = .returned (.bool true) ∧ Below w1.heap.size w1 w' from hs1)
  have HM := hide hm
  have HB1 := hide hb1
  clear hs1 hm n1 hin1 hb1
  by_cases hlong : (3000 : Int) < (s.size : Int)
  · go_wp2_with (go_at_call 13; refine (unhide HS1).mono ?_; rintro e w2 ⟨rfl, hb2⟩)
    go_ret
    exact ⟨rfl, hw1.trans (hb2.mono (by omega))⟩
  have hle : (s.size : Int) ≤ 3000 := by omega
  have hwr := write_of (unhide HM)
  clear hlong hw1
  go_upto_region 5 with (go_at_call 13; refine (unhide HS1).mono ?_; rintro e w2 ⟨rfl, hb2⟩)
  have hb2 := (unhide HB1).trans (hb2.mono hl1)
  obtain ⟨n2, hin2, hw2⟩ := unhide HFAR w2 hb2
  have hl2 := hb2.size
  clear x0
  have x0 := five_cell n2
  have hpp2 := unhide HPP w2 hin2 (unhide HM)
  obtain ⟨⟨pl, pe⟩, hp⟩ : ∃ p, T.print = p := ⟨_, rfl⟩
  simp only [hp] at hpp2
  have HPP2 := hide hpp2
  have HP := hide hp
  have HB2 := hide hb2
  clear hpp2 hp n2 hin2 hw2 hb2 HS1 HB1 hl1 hwr HPP HSM
  go_upto_region 6 with (go_at_call 14; refine (unhide HPP2).mono ?_; rintro e w3 ⟨rfl, hb3⟩)
  have hb3 := (unhide HB2).trans (hb3.mono hl2)
  obtain ⟨qt, hqt⟩ : ∃ q : Value, Value.tuple #[.string ⟨pl.toArray⟩, .int .i64 pe] = q := ⟨_, rfl⟩
  rw [hqt]
  clear hqt x0
  have HB3 := hide hb3
  have hl3 := hb3.size
  clear hb3 HB2 HPP2
  go_upto_if 33 with fail
  go_cut [] from 7 to 47 (fun wx => Hid (Below W.heap.size W wx))
  case first =>
    by_cases hpe : pe = 0
    · subst hpe
      obtain ⟨hck, hwl, hpw⟩ := P20.T.print_ok (d := T) (by rw [unhide HP])
      rw [unhide HP] at hpw
      simp only at hpw
      obtain ⟨d1, hpar, hsame⟩ := P20.PaR.back hck hwl
      rw [← hpw] at hpar hwl
      have HPA := hide (fun V => parse_list pl _ V hwl hpar)
      have HSD := hide hsame
      clear hck hwl hpw hpar hsame
      go_upto_region 8 with (go_at_call 10; refine (unhide HPA _).mono ?_; rintro e w4 ⟨k4, t4, ka4, kc4, ks4, da4, dc4, ds4, l4, rfl, HN4, hb4⟩)
      obtain ⟨W4, hW4, hc4, g40, g41, hs4⟩ := two_box w4 (.cells #[.int .u8 k4, .string ⟨t4.toArray⟩, .slice ka4 ks4.length kc4, .slice da4 ds4.length dc4, .int .i64 l4] 26) (.cells #[.int .i64 0, .int .i64 0] 29)
      obtain ⟨B4, hB4⟩ : ∃ B, w4.heap.size = B := ⟨_, rfl⟩
      rw [hB4] at g40 g41 hs4 hc4
      try rw [hB4]
      rw [hW4]
      obtain ⟨qa4, hqa4⟩ : ∃ q : Value, Value.tuple #[.agg #[.int .u8 k4, .string ⟨t4.toArray⟩, .slice ka4 ks4.length kc4, .slice da4 ds4.length dc4, .int .i64 l4], .agg #[.int .i64 0, .int .i64 0]] = q := ⟨_, rfl⟩
      rw [hqa4]
      clear hqa4
      obtain ⟨qb4, hqb4⟩ : ∃ q : Value, Value.agg #[.int .u8 k4, .string ⟨t4.toArray⟩, .slice ka4 ks4.length kc4, .slice da4 ds4.length dc4, .int .i64 l4] = q := ⟨_, rfl⟩
      rw [hqb4]
      clear hqb4
      obtain ⟨qc4, hqc4⟩ : ∃ q : Value, Value.agg #[.int .i64 0, .int .i64 0] = q := ⟨_, rfl⟩
      rw [hqc4]
      clear hqc4 hW4
      have hl4 := hb4.size
      have hd4 := (unhide HB3).trans ((hb4.trans (hc4.mono (by omega))).mono hl3)
      obtain ⟨n5, hin5, hw5⟩ := unhide HFAR W4 hd4
      have hin4 := (unhide HN4).2.1.below (by rw [hB4]; exact hc4)
      have hrs := unhide HRS (Nd.mk k4 t4 ka4 kc4 ks4 da4 dc4 ds4 l4) W4 hin4 hin5
      rw [(unhide HN4).1, unhide HSD] at hrs
      simp only [Nd.val_eq] at hrs
      have HRQ := hide hrs
      have x0 := five_cell n5
      have y0 := five_cell g40
      have z0 := two_cell g41
      have HD4 := hide hd4
      clear hrs n5 hin5 hw5 hin4 hd4 g40 g41 hb4 hc4 hs4 HN4
      go_wp2_with (go_at_call 20; refine (unhide HRQ).mono ?_; rintro e w5 ⟨rfl, hb5⟩)
      go_meet
      exact hide ((unhide HD4).trans (hb5.mono (unhide HD4).size))
    · have jp : (pe == 0) = false := by rw [beq_eq_false_iff_ne]; exact hpe
      clear hpe
      go_wp2
      go_meet
      exact HB3
  case rest =>
    have HBC := hcut
    clear hcut HB3 hl3 HP
    obtain ⟨o2, ho2⟩ := P20.PaR.total s.data.toList
    have hsl : s.data.toList.length ≤ 3000 := by rw [← Lib.size_eq]; omega
    cases o2 with
    | error x =>
      have hx := ho2.bad
      have jx : (x.1 != 0) = true := by simpa using hx
      obtain ⟨x1, x2⟩ := x
      simp only at jx
      have HPA := hide (fun V => Parse20_any s _ V (by omega) ho2)
      clear ho2 hx
      go_upto_region 11 with (go_at_call 10; refine (unhide HPA _).mono ?_; rintro e w4 ⟨rfl, hb4⟩)
      obtain ⟨W4, hW4, hc4, g40, g41, hs4⟩ := two_box w4 (.cells #[.int .u8 0, .string ⟨#[]⟩, .slice none 0 0, .slice none 0 0, .int .i64 0] 26) (.cells #[.int .i64 x1, .int .i64 x2] 29)
      obtain ⟨B4, hB4⟩ : ∃ B, w4.heap.size = B := ⟨_, rfl⟩
      rw [hB4] at g40 g41 hs4 hc4
      try rw [hB4]
      rw [hW4]
      have z0 := two_cell g41
      have hl4 := hb4.size
      have hd4 := (unhide HBC).trans ((hb4.trans (hc4.mono (by omega))).mono (unhide HBC).size)
      obtain ⟨n5, hin5, hw5⟩ := unhide HFAR W4 hd4
      have HW5 := hide hw5
      clear hW4 n5 hin5 hw5 hd4 hb4 hc4 g40 g41
      go_wp2
      go_ret
      exact ⟨rfl, unhide HW5⟩
    | ok d2 =>
      obtain ⟨hck, hwt, hok, hwl, hdeep⟩ := ho2.fine hsl
      have hpr := P20.T.print_fine hck hwl
      obtain ⟨d3, hpar3, hsame⟩ := P20.PaR.back hck hwl
      have hpr3 := P20.same_print hsame
      have hck3 := P20.T.same_check d3 d2 1 hsame
      have hwr3 := P20.T.same_write d3 d2 [] [] hsame
      have hfine3 : okT d3 := P20.okT_same hsame hok
      rw [hpr] at hpr3
      obtain ⟨P, hP⟩ : ∃ P, d2.write [] [] = P := ⟨_, rfl⟩
      rw [hP] at hpr hpr3 hpar3 hwl hwr3
      have HPA := hide (fun V => Parse20_any s _ V (by omega) ho2)
      have HPB := hide (fun V => parse_list P _ V hwl hpar3)
      have HPC := hide (fun (e : Nd) (V : World) (he : e.In V) (hb : e.bare = d2) => by have := pprint_ok e V he (by rw [hb]; exact hok) (by rw [hb, hP]; exact hwl); rw [hb, hpr] at this; exact this)
      have HPD := hide (fun (e : Nd) (V : World) (he : e.In V) (hb : e.bare = d3) => by have := pprint_ok e V he (by rw [hb]; exact hfine3) (by rw [hb, hwr3]; exact hwl); rw [hb, hpr3] at this; exact this)
      have HCK := hide (fun (e : Nd) (V : World) (he : e.In V) (hb : e.bare = d2) => by have := Check20_any e V he (by rw [hb]; exact hok); rw [hb, hck] at this; exact this)
      have hdp0 := (fun (e : Nd) (V : World) (he : e.In V) (hb : e.bare = d2) => by have := Depth_any e V he; rw [mxL_size, hb] at this; exact this)
      have HSM2 := hide (fun (e e2 : Nd) (V : World) (he : e.In V) (he2 : e2.In V) (hb : e.bare = d3) (hb2 : e2.bare = d2) => by have := rsame_any e e2 V he he2; rw [hb, hb2, hsame] at this; exact this)
      obtain ⟨dd, hdd⟩ : ∃ dd, (d2.size 18).1 = dd := ⟨_, rfl⟩
      rw [hdd] at hdeep
      simp only [hdd] at hdp0
      have HDP := hide hdp0
      have hdi : (dd : Int) ≤ 16 := by omega
      clear hdp0 ho2 hck hwt hok hwl hdeep hpr hpar3 hsame hpr3 hck3 hwr3 hfine3 hP hdd hsl
      go_upto_region 11 with (go_at_call 10; refine (unhide HPA _).mono ?_; rintro e w4 ⟨k4, t4, ka4, kc4, ks4, da4, dc4, ds4, l4, rfl, HN4, hb4⟩)
      obtain ⟨W4, hW4, hc4, g40, g41, hs4⟩ := two_box w4 (.cells #[.int .u8 k4, .string ⟨t4.toArray⟩, .slice ka4 ks4.length kc4, .slice da4 ds4.length dc4, .int .i64 l4] 26) (.cells #[.int .i64 0, .int .i64 0] 29)
      obtain ⟨B4, hB4⟩ : ∃ B, w4.heap.size = B := ⟨_, rfl⟩
      rw [hB4] at g40 g41 hs4 hc4
      try rw [hB4]
      rw [hW4]
      obtain ⟨qa4, hqa4⟩ : ∃ q : Value, Value.tuple #[.agg #[.int .u8 k4, .string ⟨t4.toArray⟩, .slice ka4 ks4.length kc4, .slice da4 ds4.length dc4, .int .i64 l4], .agg #[.int .i64 0, .int .i64 0]] = q := ⟨_, rfl⟩
      rw [hqa4]
      clear hqa4
      obtain ⟨qb4, hqb4⟩ : ∃ q : Value, Value.agg #[.int .u8 k4, .string ⟨t4.toArray⟩, .slice ka4 ks4.length kc4, .slice da4 ds4.length dc4, .int .i64 l4] = q := ⟨_, rfl⟩
      rw [hqb4]
      clear hqb4
      obtain ⟨qc4, hqc4⟩ : ∃ q : Value, Value.agg #[.int .i64 0, .int .i64 0] = q := ⟨_, rfl⟩
      rw [hqc4]
      clear hqc4 hW4
      have hl4 := hb4.size
      have hd4 := (unhide HBC).trans ((hb4.trans (hc4.mono (by omega))).mono (unhide HBC).size)
      have hin4 := (unhide HN4).2.1.below (by rw [hB4]; exact hc4)
      have hba4 := (unhide HN4).1
      have y0 := five_cell g40
      have z0 := two_cell g41
      have hpc := unhide HPC (Nd.mk k4 t4 ka4 kc4 ks4 da4 dc4 ds4 l4) W4 hin4 hba4
      simp only [Nd.val_eq] at hpc
      have HPQ := hide hpc
      have HD4 := hide hd4
      have HI4 := hide hin4
      have HA4 := hide hba4
      have HG4 := hide g40
      have hsz4 := hs4
      clear hpc hd4 hb4 hc4 HN4 hin4 hba4 g40 g41 HPC
      go_upto_region 14 with (go_at_call 14; refine (unhide HPQ).mono ?_; rintro e w5 ⟨rfl, hb5⟩)
      obtain ⟨qt2, hqt2⟩ : ∃ q : Value, Value.tuple #[.string ⟨P.toArray⟩, .int .i64 0] = q := ⟨_, rfl⟩
      rw [hqt2]
      clear hqt2 y0 z0 HPQ
      have HB5 := hide hb5
      have hl5 := hb5.size
      clear hb5
      go_upto_region 15 with (go_at_call 10; refine (unhide HPB _).mono ?_; rintro e w6 ⟨k6, t6, ka6, kc6, ks6, da6, dc6, ds6, l6, rfl, HN6, hb6⟩)
      obtain ⟨W6, hW6, hc6, g60, g61, hs6⟩ := two_box w6 (.cells #[.int .u8 k6, .string ⟨t6.toArray⟩, .slice ka6 ks6.length kc6, .slice da6 ds6.length dc6, .int .i64 l6] 26) (.cells #[.int .i64 0, .int .i64 0] 29)
      obtain ⟨B6, hB6⟩ : ∃ B, w6.heap.size = B := ⟨_, rfl⟩
      rw [hB6] at g60 g61 hs6 hc6
      try rw [hB6]
      rw [hW6]
      obtain ⟨qa6, hqa6⟩ : ∃ q : Value, Value.tuple #[.agg #[.int .u8 k6, .string ⟨t6.toArray⟩, .slice ka6 ks6.length kc6, .slice da6 ds6.length dc6, .int .i64 l6], .agg #[.int .i64 0, .int .i64 0]] = q := ⟨_, rfl⟩
      rw [hqa6]
      clear hqa6
      obtain ⟨qb6, hqb6⟩ : ∃ q : Value, Value.agg #[.int .u8 k6, .string ⟨t6.toArray⟩, .slice ka6 ks6.length kc6, .slice da6 ds6.length dc6, .int .i64 l6] = q := ⟨_, rfl⟩
      rw [hqb6]
      clear hqb6
      obtain ⟨qc6, hqc6⟩ : ∃ q : Value, Value.agg #[.int .i64 0, .int .i64 0] = q := ⟨_, rfl⟩
      rw [hqc6]
      clear hqc6 hW6
      have hl6 := hb6.size
      have hd6 := (unhide HB5).trans ((hb6.trans (hc6.mono (by omega))).mono hl5)
      have hin6 := (unhide HN6).2.1.below (by rw [hB6]; exact hc6)
      have hba6 := (unhide HN6).1
      have y0 := five_cell g60
      have z0 := two_cell g61
      have hpd := unhide HPD (Nd.mk k6 t6 ka6 kc6 ks6 da6 dc6 ds6 l6) W6 hin6 hba6
      simp only [Nd.val_eq] at hpd
      have HPQ := hide hpd
      have HD6 := hide hd6
      have HI6 := hide hin6
      have HA6 := hide hba6
      have HG6 := hide g60
      have HF6 := hide g61
      have hsz6 := hs6
      clear hpd hd6 hb6 hc6 HN6 hin6 hba6 g60 g61 HPD HB5
      go_upto_region 16 with (go_at_call 14; refine (unhide HPQ).mono ?_; rintro e w7 ⟨rfl, hb7⟩)
      rw [show (Value.tuple #[.string ⟨P.toArray⟩, .int .i64 0]) = (Value.tuple #[.string ⟨P.toArray⟩, .int .i64 0]) from rfl]
      have hl7 := hb7.size
      have hd7 := (unhide HD6).trans (hb7.mono (unhide HD6).size)
      have hin4 := (unhide HI4).below hd7
      have hg4 := (hd7.block B4 (by omega)).trans (unhide HG4)
      have hin6 := (unhide HI6).below hb7
      have hg6 := (hb7.block B6 (by omega)).trans (unhide HG6)
      have hf6 := (hb7.block (B6 + 1) (by omega)).trans (unhide HF6)
      clear y0 z0 HPQ
      have y0 := five_cell hg4
      have hck := unhide HCK (Nd.mk k4 t4 ka4 kc4 ks4 da4 dc4 ds4 l4) w7 hin4 (unhide HA4)
      simp only [Nd.val_eq] at hck
      have HCQ := hide hck
      have HG4 := hide hg4
      have HG6 := hide hg6
      have HF6 := hide hf6
      have HI4 := hide hin4
      have HI6 := hide hin6
      have HD7 := hide hd7
      clear hck hg4 hg6 hf6 hin4 hin6 hd7 hb7 HCK
      go_wp2_with (first
        | (go_at_call 16; refine (unhide HCQ).mono ?_; rintro e w8 ⟨rfl, hb8⟩; have hl8 := hb8.size; have g4 := (hb8.block B4 (by omega)).trans (unhide HG4); have g6 := (hb8.block B6 (by omega)).trans (unhide HG6); have f6 := (hb8.block (B6 + 1) (by omega)).trans (unhide HF6); have yy4 := five_cell g4; have yy6 := five_cell g6; have zz6 := two_cell f6; have HI48 := hide ((unhide HI4).below hb8); have HI68 := hide ((unhide HI6).below hb8); have HG48 := hide g4; have HB8 := hide hb8; clear g4 g6 f6 hb8)
        | (go_at_call 20; have hsm := unhide HSM2 (Nd.mk k6 t6 ka6 kc6 ks6 da6 dc6 ds6 l6) (Nd.mk k4 t4 ka4 kc4 ks4 da4 dc4 ds4 l4) w8 (unhide HI68) (unhide HI48) (unhide HA6) (unhide HA4); simp only [Nd.val_eq] at hsm; refine hsm.mono ?_; rintro e w9 ⟨rfl, hb9⟩; have hl9 := hb9.size; have g4 := (hb9.block B4 (by omega)).trans (unhide HG48); have yyy4 := five_cell g4; have HI49 := hide ((unhide HI48).below hb9); have HB9 := hide hb9; clear g4 hb9 hsm)
        | (go_at_call 21; have hdp := unhide HDP (Nd.mk k4 t4 ka4 kc4 ks4 da4 dc4 ds4 l4) w9 (unhide HI49) (unhide HA4); simp only [Nd.val_eq] at hdp; refine hdp.mono ?_; rintro e w10 ⟨rfl, hb10⟩; have HB10 := hide hb10; clear hb10 hdp))
      go_ret
      have e1 := (unhide HB8).trans ((unhide HB9).mono hl8)
      have e2 := e1.trans ((unhide HB10).mono (by omega))
      have e3 := (unhide HD7).trans (e2.mono (by omega))
      have e4 := (unhide HD4).trans (e3.mono (unhide HD4).size)
      exact ⟨rfl, (unhide HFAR _ e4).2.2⟩
end Go.Proofs.YtnjokdbblmlhhaaGreatDoor
