/- Lemmas of this claim (a part of its texts, kept as far as the claim reaches them). -/
import Derived.Test.YtefokfbgpfcbkaaGreatGW20Z
import Derived.Test.YtefokfbgpfcbkaaGreatGR20Z
namespace Go.Proofs.YtefokfbgpfcbkaaGreat
set_option linter.unusedVariables false
set_option linter.unusedSimpArgs false
open Go.RowKit
set_option maxRecDepth 100000 in
theorem rhas_any (a : Option Addr) (c : Nat) (ks : List (List UInt8)) (x : List UInt8) (w : World) (h : InS w a ks) (hl : ks.length ≤ 100000000) :
    Calls Tryz.prog 215 #[.slice a ks.length c, .string ⟨x.toArray⟩] w fun e w' => e = .returned (.bool (decide (x ∈ ks))) ∧ w = w' := by
  obtain ⟨n, hn⟩ : ∃ n, ks.length = n := ⟨_, rfl⟩
  rw [hn] at hl ⊢
  have HN := hide hn
  have HI := hide h
  clear hn h
  go_enter Tryz.func215, Tryz.ntmps215
  go_wp2
  go_loopg [5] n (fun g s5 wx => ∃ i : Nat, i + g = n ∧ s5 = .int .i64 i ∧ Hid (decide (x ∈ ks) = decide (x ∈ ks.drop i)) ∧ w = wx)
  case atStart => exact ⟨0, by omega, by go_num, hide rfl, rfl⟩
  case round =>
    obtain ⟨i, hig, rfl, HD, rfl⟩ := hrel
    cases gk with
    | zero =>
      have e1 : (n : Int) = (i : Int) := by omega
      have HE := hide (show i = n by omega)
      go_wp2
      go_ret
      refine ⟨ret_bool ?_, rfl⟩
      rw [unhide HD, List.drop_of_length_le (by rw [unhide HN]; have := unhide HE; omega)]
      rfl
    | succ g' =>
      have hlt : (i : Int) < (n : Int) := by omega
      have hki : IntKind.i64.wrap ((i : Int) + 1) = (i : Int) + 1 := IntWalk.i64_in _ (by omega)
      have hil : i < ks.length := by rw [unhide HN]; omega
      obtain ⟨y, hy⟩ : ∃ y, ks[i] = y := ⟨_, rfl⟩
      obtain ⟨b, o, rfl, hc⟩ := unhide HI i y (by rw [List.getElem?_eq_getElem hil, hy])
      have hd : ks.drop i = y :: ks.drop (i + 1) := by rw [List.drop_eq_getElem_cons hil, hy]
      have HQ := hide hd
      clear hd hy
      by_cases hxy : y = x
      · subst hxy
        go_wp2
        go_ret
        refine ⟨ret_bool ?_, rfl⟩
        rw [unhide HD, unhide HQ]
        simp
      · have HX := hide hxy
        have hbe : (y == x) = false := by simpa using hxy
        clear hxy
        go_wp2
        go_roundg g'
        case measure => omega
        case rel =>
          refine ⟨i + 1, by omega, by go_num, hide ?_, rfl⟩
          rw [unhide HD, unhide HQ]
          have := unhide HX
          simp [Ne.symm this]
end Go.Proofs.YtefokfbgpfcbkaaGreat
namespace Go.Proofs.YtefokfbgpfcbkaaGreat
set_option linter.unusedVariables false
set_option linter.unusedSimpArgs false
open Go.RowKit
def Sm (d : P20.T) : Prop := ∃ q n m, d.small q n = some m ∧ n ≤ 100000000 ∧ q ≤ 1000
theorem Sm.kid {k : Nat} {t : List UInt8} {ks : List (List UInt8)} {ds : List P20.T} {l : Int} (h : Sm (.mk k t ks ds l)) : t.length ≤ 5000 ∧ ks.length ≤ 200 ∧ (∀ x ∈ ks, x.length ≤ 200) ∧ ds.length ≤ 1000000000 ∧ ∀ d ∈ ds, Sm d := by
  obtain ⟨q, n, m, hs, hn, hq⟩ := h
  unfold P20.T.small at hs
  split at hs
  · cases hs
  · rename_i h0
    simp only [not_or] at h0
    obtain ⟨h1, h2, h3, h4, h5⟩ := h0
    have hk : ∀ (es : List P20.T) (q n m : Nat), P20.smallL q es n = some m → n ≤ 100000000 → q ≤ 1000 → ∀ d ∈ es, Sm d := by
      intro es
      induction es with
      | nil => intro q n m h hn hq d hd; simp at hd
      | cons e es ih =>
        intro q n m h hn hq d hd
        unfold P20.smallL at h
        split at h
        · cases h
        · rename_i m1 hm1
          rcases List.mem_cons.1 hd with rfl | hd
          · exact ⟨_, _, _, hm1, hn, hq⟩
          · exact ih q m1 m h (by have := P20.T.small_ok _ _ _ _ hm1 (by omega); omega) hq d hd
    exact ⟨by omega, by omega, P20.short_all h5, by have := P20.smallL_ok _ _ _ _ hs (by omega); omega, hk ds _ _ _ hs (by omega) (by omega)⟩
mutual
def Sk : P20.T → Prop
  | .mk k t ks ds l => t.length ≤ 1000000 ∧ ks.length ≤ 100000000 ∧ (∀ x ∈ ks, x.length ≤ 1000000) ∧ ds.length ≤ 1000000000 ∧ Sks ds
def Sks : List P20.T → Prop
  | [] => True
  | d :: ds => Sk d ∧ Sks ds
end
theorem sks_iff : ∀ ds : List P20.T, Sks ds ↔ ∀ d ∈ ds, Sk d
  | [] => by simp [Sks]
  | d :: ds => by simp [Sks, sks_iff ds]
theorem Sk.kid {k : Nat} {t : List UInt8} {ks : List (List UInt8)} {ds : List P20.T} {l : Int} (h : Sk (.mk k t ks ds l)) : t.length ≤ 1000000 ∧ ks.length ≤ 100000000 ∧ (∀ x ∈ ks, x.length ≤ 1000000) ∧ ds.length ≤ 1000000000 ∧ ∀ d ∈ ds, Sk d := by
  unfold Sk at h
  exact ⟨h.1, h.2.1, h.2.2.1, h.2.2.2.1, (sks_iff _).1 h.2.2.2.2⟩
theorem Sm.sk (d : P20.T) (h : Sm d) : Sk d := by
  have hm : ∀ n : Nat, ∀ d : P20.T, SizeOf.sizeOf d ≤ n → Sm d → Sk d := by
    intro n
    induction n with
    | zero => intro d hd; cases d; simp at hd
    | succ n ih =>
      intro d hd h
      obtain ⟨k, t, ks, ds, l⟩ := d
      obtain ⟨q1, q2, q3, q4, q5⟩ := Sm.kid h
      unfold Sk
      refine ⟨by omega, by omega, fun x hx => by have := q3 x hx; omega, q4, (sks_iff _).2 (fun e he => ih e ?_ (q5 e he))⟩
      have := List.sizeOf_lt_of_mem he
      simp only [P20.T.mk.sizeOf_spec] at hd
      omega
  exact hm _ d (Nat.le_refl _) h
def RChkC (d : Nd) : Prop := ∀ (lv : Nat) (w : World), d.In w → Sk d.bare → lv ≤ 1000 → Calls Tryz.prog 191 #[d.val, .int .i64 lv] w fun e w' => e = .returned (.int .i64 (d.bare.check lv)) ∧ Below w.heap.size w w'
theorem checkL_next {lv : Nat} {ds : List Nd} {i : Nat} {d : Nd} (h : ds[i]? = some d) : P20.checkL lv (bareL (ds.drop i)) = if d.bare.check lv ≠ 0 then d.bare.check lv else P20.checkL lv (bareL (ds.drop (i + 1))) := by
  rw [bareL_drop h]
  rfl
set_option maxRecDepth 100000 in
set_option maxHeartbeats 8000000 in
theorem rchk_node (k : Nat) (t : List UInt8) (ka : Option Addr) (kc : Nat) (ks : List (List UInt8)) (da : Option Addr) (dc : Nat) (ds : List Nd) (l : Int) (hds : ∀ d ∈ ds, RChkC d) : RChkC (.mk k t ka kc ks da dc ds l) := by
  intro lv w hin hok hlv
  obtain ⟨q1, q2, q3, q4, q5⟩ := Sk.kid hok
  rw [bareL_len] at q4
  have hf := hin.fit
  have hcc := hf.keysC
  have hkk := hin.kids
  have hkf := hf.keys
  simp only [Nd.keys, Nd.kc, Nd.da, Nd.kids, Nd.ka] at hcc hkk hkf
  obtain ⟨N, hN⟩ : ∃ N, ds.length = N := ⟨_, rfl⟩
  obtain ⟨M, hM⟩ : ∃ M, ks.length = M := ⟨_, rfl⟩
  obtain ⟨H, hH⟩ : ∃ H, w.heap.size = H := ⟨_, rfl⟩
  obtain ⟨W, hW⟩ : ∃ W, w.alloc (.cells #[.int .u8 k, .string ⟨t.toArray⟩, .slice ka M kc, .slice da N dc, .int .i64 l] 61) = W := ⟨_, rfl⟩
  have hbw : Below w.heap.size w W := by rw [← hW]; exact (Below.refl _ w).alloc (Nat.le_refl _) _
  have g0 : W.heap[H]? = some (.cells #[.int .u8 k, .string ⟨t.toArray⟩, .slice ka M kc, .slice da N dc, .int .i64 l] 61) := by rw [← hW, ← hH]; exact World.alloc_heap_new _ _
  have hl0 : H < W.heap.size := (Array.getElem?_eq_some_iff.1 g0).1
  obtain ⟨⟨x0, _⟩, ⟨x1, _⟩, ⟨x2, _⟩, ⟨x3, _⟩, ⟨x4, _⟩⟩ := five_cell g0
  have hkW := InS.below hkf hbw
  have hdW := hkk.below hbw
  have hmx : Tryz.prog.follows .mixedOrders = true := by kernel_rfl
  rw [Nd.val_eq, hN, hM]
  obtain ⟨C, hC⟩ : ∃ C, (Nd.mk k t ka kc ks da dc ds l).bare.check lv = C := ⟨_, rfl⟩
  rw [hC]
  simp only [Nd.bare, P20.T.check, P20.nodeE, bareL_len, hN, hM] at hC
  rw [hM] at hcc q2
  rw [hN] at q4
  have hd5 : ∀ d ∈ ds, Sk d.bare := fun d hd => q5 _ (by rw [bareL_map]; exact List.mem_map_of_mem hd)
  have HW := hide hW
  have HB := hide hbw
  have HH := hide hH
  have HG0 := hide g0
  have HKW := hide hkW
  have HDW := hide hdW
  have HDS := hide hds
  have HN := hide hN
  have HM := hide hM
  have HQ3 := hide q3
  have HD5 := hide hd5
  clear hin hok hf hkf hkk hN hM hH hW hbw g0 hkW hdW hds q3 q5 hd5
  by_cases hv : 16 < lv
  · have j1 : (16 : Int) < (lv : Int) := by omega
    rw [if_pos hv, if_pos (by decide)] at hC
    subst hC
    clear hv x0 x1 x2 x3 x4
    go_enter Tryz.func191, Tryz.ntmps191
    go_upto_region 1 with fail
    try rw [unhide HH]
    rw [unhide HW]
    go_wp2
    go_ret
    exact ⟨rfl, unhide HB⟩
  have j1 : (lv : Int) ≤ 16 := by omega
  rw [if_neg hv] at hC
  by_cases hk : k < 1 ∨ 3 < k
  · rw [if_pos hk, if_pos (by decide)] at hC
    subst hC
    by_cases h0 : k < 1
    · have j2 : (k : Int) < 1 := by omega
      clear hk h0 hv
      go_enter Tryz.func191, Tryz.ntmps191
      go_upto_region 1 with fail
      try rw [unhide HH]
      rw [unhide HW]
      go_wp2
      go_ret
      exact ⟨rfl, unhide HB⟩
    · have j2 : (1 : Int) ≤ (k : Int) := by omega
      have j3 : (3 : Int) < (k : Int) := by omega
      clear hk h0 hv
      go_enter Tryz.func191, Tryz.ntmps191
      go_upto_region 1 with fail
      try rw [unhide HH]
      rw [unhide HW]
      go_wp2
      go_ret
      exact ⟨rfl, unhide HB⟩
  rw [if_neg hk] at hC
  have hk1 : (1 : Int) ≤ (k : Int) := by omega
  have hk3 : (k : Int) ≤ 3 := by omega
  have hk4 : k = 1 ∨ k = 2 ∨ k = 3 := by omega
  rcases hk4 with h | h | h
  have j1e : ((k : Int) == 1) = true := by simp; omega
  have j1n : ((k : Int) != 1) = false := by simp; omega
  have j3e : ((k : Int) == 3) = false := by simp; omega
  have j3n : ((k : Int) != 3) = true := by simp; omega
  by_cases hd0 : 0 < N
  · have jd : (0 : Int) < (N : Int) := by omega
    rw [if_pos (show P20.oddB k t M N = true by simp [P20.oddB, h]; omega), if_pos (by decide)] at hC
    subst hC
    clear hv hk h
    go_enter Tryz.func191, Tryz.ntmps191
    go_upto_region 1 with fail
    try rw [unhide HH]
    rw [unhide HW]
    go_wp2
    go_ret
    exact ⟨rfl, unhide HB⟩
  have jd : (N : Int) ≤ 0 := by omega
  by_cases hm0 : 0 < M
  · have jm : (0 : Int) < (M : Int) := by omega
    rw [if_pos (show P20.oddB k t M N = true by simp [P20.oddB, h]; omega), if_pos (by decide)] at hC
    subst hC
    clear hv hk h
    go_enter Tryz.func191, Tryz.ntmps191
    go_upto_region 1 with fail
    try rw [unhide HH]
    rw [unhide HW]
    go_wp2
    go_ret
    exact ⟨rfl, unhide HB⟩
  have jm : (M : Int) ≤ 0 := by omega
  rw [if_neg (show ¬ P20.oddB k t M N = true by simp [P20.oddB, h]; omega)] at hC
  rotate_left
  have j1e : ((k : Int) == 1) = false := by simp; omega
  have j1n : ((k : Int) != 1) = true := by simp; omega
  have j3e : ((k : Int) == 3) = false := by simp; omega
  have j3n : ((k : Int) != 3) = true := by simp; omega
  cases hte : t.isEmpty
  · have jt : (⟨t.toArray⟩ : ByteArray).toList.isEmpty = false := (isEmpty_data t).trans hte
    rw [if_pos (show P20.oddB k t M N = true by simp [P20.oddB, h, hte]), if_pos (by decide)] at hC
    subst hC
    clear hv hk h
    go_enter Tryz.func191, Tryz.ntmps191
    go_upto_region 1 with fail
    try rw [unhide HH]
    rw [unhide HW]
    go_wp2
    go_ret
    exact ⟨rfl, unhide HB⟩
  have jt : (⟨t.toArray⟩ : ByteArray).toList.isEmpty = true := (isEmpty_data t).trans hte
  by_cases hm0 : 0 < M
  · have jm : (0 : Int) < (M : Int) := by omega
    rw [if_pos (show P20.oddB k t M N = true by simp [P20.oddB, h]; omega), if_pos (by decide)] at hC
    subst hC
    clear hv hk h
    go_enter Tryz.func191, Tryz.ntmps191
    go_upto_region 1 with fail
    try rw [unhide HH]
    rw [unhide HW]
    go_wp2
    go_ret
    exact ⟨rfl, unhide HB⟩
  have jm : (M : Int) ≤ 0 := by omega
  rw [if_neg (show ¬ P20.oddB k t M N = true by simp [P20.oddB, h, hte]; omega)] at hC
  rotate_left
  have j1e : ((k : Int) == 1) = false := by simp; omega
  have j1n : ((k : Int) != 1) = true := by simp; omega
  have j3e : ((k : Int) == 3) = true := by simp; omega
  have j3n : ((k : Int) != 3) = false := by simp; omega
  cases hte : t.isEmpty
  · have jt : (⟨t.toArray⟩ : ByteArray).toList.isEmpty = false := (isEmpty_data t).trans hte
    rw [if_pos (show P20.oddB k t M N = true by simp [P20.oddB, h, hte]), if_pos (by decide)] at hC
    subst hC
    clear hv hk h
    go_enter Tryz.func191, Tryz.ntmps191
    go_upto_region 1 with fail
    try rw [unhide HH]
    rw [unhide HW]
    go_wp2
    go_ret
    exact ⟨rfl, unhide HB⟩
  have jt : (⟨t.toArray⟩ : ByteArray).toList.isEmpty = true := (isEmpty_data t).trans hte
  by_cases hm0 : M ≠ N
  · have jm : ((M : Int) != (N : Int)) = true := by simp; omega
    rw [if_pos (show P20.oddB k t M N = true by simp [P20.oddB, h]; exact .inr hm0), if_pos (by decide)] at hC
    subst hC
    clear hv hk h
    go_enter Tryz.func191, Tryz.ntmps191
    go_upto_region 1 with fail
    try rw [unhide HH]
    rw [unhide HW]
    go_wp2
    go_ret
    exact ⟨rfl, unhide HB⟩
  have hm0 : M = N := by omega
  have jm : ((M : Int) != (N : Int)) = false := by simp; omega
  rw [if_neg (show ¬ P20.oddB k t M N = true by simp [P20.oddB, h, hte, hm0])] at hC
  clear hm0
  rotate_left
  all_goals
    have hlw : IntKind.i64.wrap ((lv : Int) + 1) = (lv : Int) + 1 := IntWalk.i64_in _ (by omega)
    have hck := refCheck_any ⟨t.toArray⟩ 4096 W (by rw [Lib.size_eq]; show t.length ≤ 1100000; omega)
    simp only [list_data] at hck
    by_cases hc0 : P03.check t 4096 = 0
    rotate_left
    · rw [if_pos hc0, if_pos hc0] at hC
      obtain ⟨e, he⟩ : ∃ e, P03.check t 4096 = e := ⟨_, rfl⟩
      rw [he] at hC hc0 hck
      subst hC
      have jne : (e != 0) = true := by simpa using hc0
      have HCK := hide hck
      clear hck hc0 he hv hk h
      go_enter Tryz.func191, Tryz.ntmps191
      go_upto_region 1 with fail
      try rw [unhide HH]
      rw [unhide HW]
      go_wp2_with (go_at_call 116; refine (unhide HCK).mono ?_; rintro e' w1 ⟨rfl, rfl⟩)
      go_ret
      exact ⟨rfl, unhide HB⟩
    rw [if_neg (show ¬ P03.check t 4096 ≠ 0 by simpa using hc0)] at hC
    rw [hc0] at hck
    have HCK := hide hck
    have HC := hide hC
    clear hck hc0 hv hk hC h
    go_enter Tryz.func191, Tryz.ntmps191
    go_upto_region 1 with fail
    try rw [unhide HH]
    rw [unhide HW]
    go_wp2_with (go_at_call 116; refine (unhide HCK).mono ?_; rintro e' w1 ⟨rfl, hw1⟩; rw [hw1]; clear hw1)
    go_loopg [6] M (fun g s6 wx => ∃ i : Nat, i + g = M ∧ s6 = .int .i64 i ∧ Hid ((if P20.keysE (ks.take i) (ks.drop i) ≠ 0 then P20.keysE (ks.take i) (ks.drop i) else P20.checkL (lv + 1) (bareL ds)) = C) ∧ Hid (Below W.heap.size W wx))
    case atStart => exact ⟨0, by omega, by go_num, HC, hide (Below.refl _ _)⟩
    case round =>
      obtain ⟨i, hig, rfl, HD, HBX⟩ := hrel
      clear x0 x1 x2 x3 x4
      obtain ⟨⟨x0, _⟩, ⟨x1, _⟩, ⟨x2, _⟩, ⟨x3, _⟩, ⟨x4, _⟩⟩ := five_cell (((unhide HBX).block H hl0).trans (unhide HG0))
      cases gk with
      | succ g' =>
        first
        | exact absurd hig (by omega)
        | have hlt : (i : Int) < (M : Int) := by omega
          have hic : (i : Int) ≤ (kc : Int) := by omega
          have hc00 : kc ≠ 0 := by omega
          have hki : IntKind.i64.wrap ((i : Int) + 1) = (i : Int) + 1 := IntWalk.i64_in _ (by omega)
          obtain ⟨x, hgx⟩ := nth_of (unhide HM) (show i < M by omega)
          have hxl := unhide HQ3 x (List.mem_of_getElem? hgx)
          have hd : ks.drop i = x :: ks.drop (i + 1) := by
            obtain ⟨hl2, rfl⟩ := List.getElem?_eq_some_iff.1 hgx
            exact List.drop_eq_getElem_cons hl2
          have ht : ks.take (i + 1) = ks.take i ++ [x] := by rw [List.take_add_one, hgx]; rfl
          have hD := unhide HD
          rw [hd, P20.keysE] at hD
          obtain ⟨b, o, rfl, hc⟩ := InS.below (unhide HKW) (unhide HBX) i x hgx
          have hck := fun V => refCheck_any ⟨x.toArray⟩ 64 V (by rw [Lib.size_eq]; show x.length ≤ 1100000; omega)
          have hil : (ks.take i).length = i := by rw [List.length_take, unhide HM]; omega
          have hcn := rhas_any (some ⟨b, o, none⟩) kc (ks.take i) x wr.drew (fun j y hy => by
            rw [List.getElem?_take] at hy
            split at hy
            · exact InS.below (unhide HKW) (unhide HBX) j y hy
            · cases hy) (by rw [hil]; omega)
          rw [hil] at hcn
          simp only [list_data] at hck
          rw [← ht] at hD
          have HCN := hide hcn
          clear hcn hd ht hgx hxl hil HD
          by_cases hc0 : P03.check x 64 = 0
          · rw [if_neg (show ¬ P03.check x 64 ≠ 0 by simpa using hc0)] at hD
            rw [hc0] at hck
            have HCK2 := hide hck
            clear hck
            by_cases hm : x ∈ ks.take i
            · rw [if_pos hm, if_pos (by decide)] at hD
              subst hD
              have HM2 := hide hm
              clear hm hc0
              go_wp2_with (go_at_call 116; refine (unhide HCK2 _).mono ?_; rintro e w2 ⟨rfl, rfl⟩)
              go_region_with_o (go_at_call 215; refine (unhide HCN).mono ?_; rintro e w3 ⟨rfl, rfl⟩; rw [decide_eq_true (unhide HM2)])
              all_goals go_wp2
              all_goals go_ret
              all_goals exact ⟨rfl, below_drewN (n := 1) ((unhide HB).trans ((unhide HBX).mono (unhide HB).size))⟩
            · rw [if_neg hm] at hD
              have HDD := hide hD
              have HM2 := hide hm
              clear hD hm hc0
              go_wp2_with (go_at_call 116; refine (unhide HCK2 _).mono ?_; rintro e w2 ⟨rfl, rfl⟩)
              go_region_with_o (go_at_call 215; refine (unhide HCN).mono ?_; rintro e w3 ⟨rfl, rfl⟩; rw [decide_eq_false (unhide HM2)])
              all_goals go_wp2
              all_goals go_roundg g'
              all_goals first
                | (case measure => omega)
                | skip
              all_goals exact ⟨i + 1, by omega, by go_num, HDD, hide (below_drewN (n := 1) (unhide HBX))⟩
          · rw [if_pos hc0, if_pos hc0] at hD
            obtain ⟨e, he⟩ : ∃ e, P03.check x 64 = e := ⟨_, rfl⟩
            rw [he] at hD hc0 hck
            have jne : (e != 0) = true := by simpa using hc0
            subst hD
            have HCK2 := hide hck
            clear hck hc0 he
            go_wp2_with (go_at_call 116; refine (unhide HCK2 _).mono ?_; rintro e' w2 ⟨rfl, rfl⟩)
            go_ret
            exact ⟨rfl, (unhide HB).trans ((unhide HBX).mono (unhide HB).size)⟩
      | zero =>
        have e1 : (M : Int) = (i : Int) := by omega
        have hD := unhide HD
        rw [List.drop_of_length_le (by rw [unhide HM]; omega)] at hD
        simp only [P20.keysE] at hD
        have hD : P20.checkL (lv + 1) (bareL ds) = C := hD
        have HD2 := hide hD
        clear hD HD HC
        go_wp2
        clear x0 x1 x2 x3 x4 e1
        have HBW := HBX
        go_loopg [8] N (fun g s8 wx => ∃ i : Nat, i + g = N ∧ s8 = .int .i64 i ∧ Hid (P20.checkL (lv + 1) (bareL (ds.drop i)) = C) ∧ Hid (Below W.heap.size W wx))
        case atStart => exact ⟨0, by omega, by go_num, HD2, HBW⟩
        case round =>
          obtain ⟨i2, hig2, rfl, HS, HBX⟩ := hrel
          have hbx := unhide HBX
          obtain ⟨⟨x0, _⟩, ⟨x1, _⟩, ⟨x2, _⟩, ⟨x3, _⟩, ⟨x4, _⟩⟩ := five_cell ((hbx.block H hl0).trans (unhide HG0))
          have hbw : Below w.heap.size w wr := (unhide HB).trans (hbx.mono (unhide HB).size)
          have HBR := hide hbw
          clear hbx hbw
          cases gk with
          | zero =>
            have e1 : (N : Int) = (i2 : Int) := by omega
            have hS := unhide HS
            rw [List.drop_of_length_le (by rw [unhide HN]; omega)] at hS
            simp only [bareL, P20.checkL] at hS
            subst hS
            go_wp2
            go_ret
            exact ⟨rfl, unhide HBR⟩
          | succ g' =>
            first
            | exact absurd hig2 (by omega)
            | have hlt : (i2 : Int) < (N : Int) := by omega
              have hki : IntKind.i64.wrap ((i2 : Int) + 1) = (i2 : Int) + 1 := IntWalk.i64_in _ (by omega)
              obtain ⟨d, hg1⟩ := nth_of (unhide HN) (show i2 < N by omega)
              have hS := unhide HS
              rw [checkL_next hg1] at hS
              have hmem := List.mem_of_getElem? hg1
              have hcl0 := unhide HDS d hmem
              have hsm := unhide HD5 d hmem
              obtain ⟨b2, o2, k1, t1, ka1, kc1, ks1, da1, dc1, ds1, l1, rfl, rfl, y0, y1, y2, y3, y4, hin⟩ := kid_open ((unhide HDW).below (unhide HBX)) hg1
              have hcl := hcl0 (lv + 1) wr hin hsm (by omega)
              rw [show (((lv + 1 : Nat)) : Int) = (lv : Int) + 1 from by omega, Nd.val_eq] at hcl
              obtain ⟨e, he⟩ : ∃ e, (Nd.mk k1 t1 ka1 kc1 ks1 da1 dc1 ds1 l1).bare.check (lv + 1) = e := ⟨_, rfl⟩
              rw [he] at hcl hS
              have HCL := hide hcl
              clear hcl0 hcl he hin hg1 hmem hsm HS
              by_cases h0 : e = 0
              · subst h0
                rw [if_neg (by simp)] at hS
                have HS := hide hS
                clear hS
                go_wp2_with (go_at_call 191; refine (unhide HCL).mono ?_; rintro x' w2 ⟨rfl, hb2⟩)
                go_roundg g'
                case measure => omega
                case rel => exact ⟨i2 + 1, by omega, by go_num, HS, hide ((unhide HBX).trans (hb2.mono (unhide HBX).size))⟩
              · rw [if_pos h0] at hS
                subst hS
                have jne : (e != 0) = true := by simpa using h0
                clear h0
                go_wp2_with (go_at_call 191; refine (unhide HCL).mono ?_; rintro x' w2 ⟨rfl, hb2⟩)
                go_ret
                exact ⟨rfl, (unhide HBR).trans (hb2.mono (unhide HBR).size)⟩
theorem rchk_any (d : Nd) : RChkC d := Nd.ind (p := RChkC) rchk_node d
set_option maxRecDepth 100000 in
theorem RCheckK_any (d : Nd) (w : World) (hin : d.In w) (hs : Sk d.bare) : Calls Tryz.prog 159 #[d.val] w fun e w' => e = .returned (.int .i64 (d.bare.check 1)) ∧ Below w.heap.size w w' := by
  obtain ⟨k, t, ka, kc, ks, da, dc, ds, l⟩ := d
  obtain ⟨H, hH⟩ : ∃ H, w.heap.size = H := ⟨_, rfl⟩
  obtain ⟨W, hW⟩ : ∃ W, w.alloc (.cells #[.int .u8 k, .string ⟨t.toArray⟩, .slice ka ks.length kc, .slice da ds.length dc, .int .i64 l] 61) = W := ⟨_, rfl⟩
  have hbw : Below w.heap.size w W := by rw [← hW]; exact (Below.refl _ w).alloc (Nat.le_refl _) _
  have g0 : W.heap[H]? = some (.cells #[.int .u8 k, .string ⟨t.toArray⟩, .slice ka ks.length kc, .slice da ds.length dc, .int .i64 l] 61) := by rw [← hW, ← hH]; exact World.alloc_heap_new _ _
  obtain ⟨⟨x0, _⟩, ⟨x1, _⟩, ⟨x2, _⟩, ⟨x3, _⟩, ⟨x4, _⟩⟩ := five_cell g0
  have hc := rchk_any (.mk k t ka kc ks da dc ds l) 1 W (hin.below hbw) hs (by omega)
  rw [Nd.val_eq] at hc
  have HC := hide hc
  have HW := hide hW
  have HB := hide hbw
  have HH := hide hH
  rw [Nd.val_eq]
  clear hc hW hbw g0 hin hH
  go_enter Tryz.func159, Tryz.ntmps159
  go_upto_region 1 with fail
  try rw [unhide HH]
  rw [unhide HW]
  go_wp2_with (go_at_call 191; refine (unhide HC).mono ?_; rintro x w' ⟨rfl, hg⟩)
  go_ret
  exact ⟨rfl, (unhide HB).trans (hg.mono (unhide HB).size)⟩
theorem RCheck_any (d : Nd) (w : World) (hin : d.In w) (hs : Sm d.bare) : Calls Tryz.prog 159 #[d.val] w fun e w' => e = .returned (.int .i64 (d.bare.check 1)) ∧ Below w.heap.size w w' := RCheckK_any d w hin (Sm.sk _ hs)
end Go.Proofs.YtefokfbgpfcbkaaGreat
