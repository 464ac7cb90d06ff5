/- walks of layer 30's laws: live, TicksFull -/
import Derived.Test.YtbnheebblicgkaaW30e
namespace Go.Proofs.Ytbnheebblicgkaa
set_option linter.unusedVariables false
set_option linter.unusedSimpArgs false
open Go.RowKit Go.Maps Go.Shelf Go.Sort
theorem Set_to (sb bm : Nat) (L L' : List P30.En) (k a : Int) (b : Bool) (w : World) (hc : Ck w sb bm L) (hok : P30.Ok L) (hk : (Lit.int .i64 k).wf = true) (ha : (Lit.int .i64 a).wf = true) (hl : L.length ≤ 1000000) (hb : (!P30.full L k) = b) (hL : P30.set L k a = L') :
    Calls Try.prog 8 #[.pointer (some ⟨sb, 0, none⟩), .int .i64 k, .int .i64 a] w fun e w' => e = .returned (.bool b) ∧ Ck w' sb bm L' ∧ w.grownBy w' (some bm) := by
  subst hb hL
  exact Set_any sb bm L k a w hc hok hk ha hl
theorem Unset_to (sb bm : Nat) (L L' : List P30.En) (k : Int) (b : Bool) (w : World) (hc : Ck w sb bm L) (hok : P30.Ok L) (hk : (Lit.int .i64 k).wf = true) (hb : (P30.look L k).isSome = b) (hL : P30.unset L k = L') :
    Calls Try.prog 10 #[.pointer (some ⟨sb, 0, none⟩), .int .i64 k] w fun e w' => e = .returned (.bool b) ∧ Ck w' sb bm L' ∧ w.grownBy w' (some bm) := by
  subst hb hL
  exact Unset_any sb bm L k w hc hok hk
theorem okL1 : P30.Ok [(2, 5)] := ⟨by decide, by decide⟩
theorem okL2 : P30.Ok [(1, 5), (2, 5)] := ⟨by decide, by decide⟩
theorem okL3 : P30.Ok [(3, 4), (1, 5), (2, 5)] := ⟨by decide, by decide⟩
theorem next_live (sb bm : Nat) (w : World) (hc : Ck w sb bm [(3, 4), (1, 5), (2, 5)]) :
    Calls Try.prog 17 #[.pointer (some ⟨sb, 0, none⟩)] w fun e w' => e = .returned (.tuple #[.int .i64 4, .bool true]) ∧ w.grownBy w' none := Next_any sb bm _ w hc okL3
theorem at_live (sb bm : Nat) (w : World) (hc : Ck w sb bm [(3, 4), (1, 5), (2, 5)]) :
    Calls Try.prog 15 #[.pointer (some ⟨sb, 0, none⟩), .int .i64 1] w fun e w' => e = .returned (.tuple #[.int .i64 5, .bool true]) ∧ w' = w := At_any sb bm _ 1 w hc (by decide)
theorem due_live (sb bm : Nat) (w : World) (hc : Ck w sb bm [(3, 4), (1, 5), (2, 5)]) :
    Calls Try.prog 13 #[.pointer (some ⟨sb, 0, none⟩), .int .i64 5] w fun e w' => ∃ v, e = .returned v ∧ RdI w' w.heap.size v [3, 1, 2] ∧ Ck w' sb bm [] ∧ w.grownBy w' (some bm) := Due_any sb bm _ 5 w hc okL3 (by decide)
theorem len_live (sb bm : Nat) (w : World) (hc : Ck w sb bm []) : Calls Try.prog 18 #[.pointer (some ⟨sb, 0, none⟩)] w fun e w' => e = .returned (.int .i64 0) ∧ w' = w := Len_any sb bm [] w hc
theorem three_cells {W : World} {g : Nat} {t : TypeId} {a b c : Value} (h : W.heap[g]? = some (.cells #[a, b, c] t)) : W.cell? ⟨g, 0, none⟩ = some a ∧ W.cell? ⟨g, 1, none⟩ = some b ∧ W.cell? ⟨g, 2, none⟩ = some c := by simp [World.cell?, h]
theorem lit3_rd (w : World) : RdI (w.alloc (.cells #[.int .i64 3, .int .i64 1, .int .i64 2] 3)) 0 (.slice (some ⟨w.heap.size, 0, none⟩) 3 3) [3, 1, 2] := by
  refine ⟨_, _, rfl, fun i z hi => ⟨w.heap.size, rfl, Nat.zero_le _, ?_⟩⟩
  obtain ⟨h0, h1, h2⟩ := three_cells (World.alloc_heap_new w (.cells #[.int .i64 3, .int .i64 1, .int .i64 2] 3))
  match i, hi with
  | 0, hi => simp at hi; subst hi; exact h0
  | 1, hi => simp at hi; subst hi; exact h1
  | 2, hi => simp at hi; subst hi; exact h2
theorem RdI.grow {W W' : World} {B : Nat} {v : Value} {zs : List Int} (h : RdI W B v zs) (hg : W.grownBy W' none) : RdI W' B v zs := h.kept hg (fun r e => by cases e)
set_option maxRecDepth 100000 in
set_option maxHeartbeats 3200000 in
theorem live30_any (w : World) : Calls Try.prog 6 #[] w fun e w' => e = .returned (.bool true) ∧ Below w.heap.size w w' := by
  go_enter Try.func6, Try.ntmps6
  go_upto_region 4 with (go_at_call 7; refine (New_any _).mono ?_; rintro e W0 ⟨rfl, hc0, hg0, hf0⟩)
  obtain ⟨h, hh⟩ : ∃ h, w.heap.size = h := ⟨_, rfl⟩
  have b0 : Below w.heap.size w W0 := (Below.refl _ w).grown hg0 (Nat.le_refl _) (fun k e => by cases e)
  rw [hh] at hc0 b0
  try rw [hh]
  have z0 : h ≤ W0.heap.size := by have := b0.size; omega
  have HHW := hide hh
  clear hg0 hf0 hh
  go_upto_region 8 with (first
    | (go_at_call 13; refine (due_live _ h _ hc4).mono ?_; rintro e W6 ⟨v6, rfl, hr6, hc6, hg6⟩)
    | (go_at_call 15; refine (at_live _ h _ hc4).mono ?_; rintro e W5 ⟨rfl, rfl⟩)
    | (go_at_call 17; refine (next_live _ h _ hc3).mono ?_; rintro e W4 ⟨rfl, hg4⟩; have hc4 := hc3.kept hg4 (by simp) (by simp))
    | (have hq := hc2; clear hq; go_at_call 8; refine (Set_to _ h _ [(3, 4), (1, 5), (2, 5)] 3 4 true _ hc2 okL2 (by decide) (by decide) (by decide) (by decide +kernel) (by decide +kernel)).mono ?_; rintro e W3 ⟨rfl, hc3, hg3⟩)
    | (have hq := hc1; clear hq; go_at_call 8; refine (Set_to _ h _ [(1, 5), (2, 5)] 1 5 true _ hc1 okL1 (by decide) (by decide) (by decide) (by decide +kernel) (by decide +kernel)).mono ?_; rintro e W2 ⟨rfl, hc2, hg2⟩)
    | (go_at_call 8; refine (Set_to _ h _ [(2, 5)] 2 5 true _ hc0 P30.ok_nil (by decide) (by decide) (by decide) (by decide +kernel) (by decide +kernel)).mono ?_; rintro e W1 ⟨rfl, hc1, hg1⟩))
  have b6 : Below h w W6 := ((((((b0.grown hg1 z0 (fun k e => by cases e; exact Nat.le_refl _)).grown hg2 (Nat.le_trans z0 hg1.size) (fun k e => by cases e; exact Nat.le_refl _)).grown hg3 (Nat.le_trans z0 (Nat.le_trans hg1.size hg2.size)) (fun k e => by cases e; exact Nat.le_refl _)).grown hg4 (Nat.le_trans z0 (Nat.le_trans hg1.size (Nat.le_trans hg2.size hg3.size))) (fun k e => by cases e)).grown hg6 (Nat.le_trans z0 (Nat.le_trans hg1.size (Nat.le_trans hg2.size (Nat.le_trans hg3.size hg4.size)))) (fun k e => by cases e; exact Nat.le_refl _)))
  have z6 := b6.size
  have s6 : h ≤ W6.heap.size := Nat.le_trans z0 (Nat.le_trans hg1.size (Nat.le_trans hg2.size (Nat.le_trans hg3.size (Nat.le_trans hg4.size hg6.size))))
  have hr7 := hr6.grow (World.grownBy_alloc W6 (.cells #[.int .i64 3, .int .i64 1, .int .i64 2] 3) none)
  have hl7 := lit3_rd W6
  have hc7 := hc6.kept (World.grownBy_alloc W6 (.cells #[.int .i64 3, .int .i64 1, .int .i64 2] 3) none) (by simp) (by simp)
  have b7 : Below h w (W6.alloc (.cells #[.int .i64 3, .int .i64 1, .int .i64 2] 3)) := below_alloc2 b6 s6 _
  have s7 := World.size_alloc W6 (.cells #[.int .i64 3, .int .i64 1, .int .i64 2] 3)
  have HR7 := hide hr7
  have HL7 := hide hl7
  have HC7 := hide hc7
  have HB7 := hide b7
  have HS7 : Hid (h ≤ (W6.alloc (.cells #[.int .i64 3, .int .i64 1, .int .i64 2] 3)).heap.size) := hide (by omega)
  obtain ⟨ao6, cp6, rfl, _⟩ := hr6
  clear hr7 hl7 hc7 b7 s7 b6 b0 hg1 hg2 hg3 hg4 hg6 hc0 hc1 hc2 hc3 hc4 hc6 z0 z6
  go_wp2_with (first
    | (go_at_call 17; ((with_reducible refine (Next_nil _).mono ?_)); rintro e w1 ⟨rfl, rfl⟩)
    | (go_at_call 15; ((with_reducible refine (At_nil _ _).mono ?_)); rintro e w1 ⟨rfl, rfl⟩)
    | (go_at_call 12; refine (Same26_any _ _ [3, 1, 2] _ _ _ (unhide HR7) (unhide HL7) (by decide)).mono ?_; rintro e W8 ⟨rfl, q8, hW8⟩; have hc8 : Ck W8 (h + 1) h [] := (by rw [hW8]; exact (unhide HC7).drewN q8); have b8 : Below h w W8 := (by rw [hW8]; exact ⟨(unhide HB7).os, (unhide HB7).tape, (unhide HB7).output, (unhide HB7).size, (unhide HB7).block⟩); have s8 : h ≤ W8.heap.size := (by rw [hW8]; exact unhide HS7); clear hW8)
    | (go_at_call 18; ((with_reducible refine (len_live _ h _ hc8).mono ?_)); rintro e w1 ⟨rfl, rfl⟩)
    | (go_at_call 18; ((with_reducible refine (Len_nil _).mono ?_)); rintro e w1 ⟨rfl, rfl⟩)
    | (go_at_call 10; ((with_reducible refine (Unset_to _ h [] [] 2 false _ hc8 P30.ok_nil (by decide) rfl rfl).mono ?_)); rintro e W9 ⟨rfl, hc9, hg9⟩)
    | (go_at_call 10; ((with_reducible refine (Unset_nil _ _).mono ?_)); rintro e w1 ⟨rfl, rfl⟩)
    | (go_at_call 8; ((with_reducible refine (Set_nil _ _ _).mono ?_)); rintro e w1 ⟨rfl, rfl⟩)
    | (go_at_call 13; ((with_reducible refine (Due_nil _ _).mono ?_)); rintro e W10 ⟨rfl, hg10⟩))
  go_ret
  refine ⟨rfl, ?_⟩
  rw [unhide HHW]
  exact (b8.grown hg9 s8 (fun k e => by cases e; exact Nat.le_refl _)).grown hg10 (Nat.le_trans s8 hg9.size) (fun k e => by cases e)
theorem full_lt {L : List P30.En} (h : L.length < 4096) (k : Int) : P30.full L k = false := by unfold P30.full; exact decide_eq_false (fun h2 => by omega)
set_option maxRecDepth 100000 in
set_option maxHeartbeats 3200000 in
theorem TicksFull_any (a : Int) (w : World) (ha : (Lit.int .i64 a).wf = true) : Calls Try.prog 5 #[.int .i64 a] w fun e w' => e = .returned (.bool true) ∧ Below w.heap.size w w' := by
  obtain ⟨h, hh⟩ : ∃ h, w.heap.size = h := ⟨_, rfl⟩
  rw [hh]
  go_enter Try.func5, Try.ntmps5
  go_upto_region 4 with (first
    | (have hq := hb1; clear hq; go_at_call 7; refine (New_any _).mono ?_; rintro e W0 ⟨rfl, hc0, hg0, hf0⟩)
    | (go_at_call 6; refine (live30_any _).mono ?_; rintro e W1 ⟨rfl, hb1⟩))
  rw [hh] at hb1
  have z1 : h ≤ W1.heap.size := by have := hb1.size; omega
  obtain ⟨m, hm⟩ : ∃ m, W1.heap.size = m := ⟨_, rfl⟩
  have b0 : Below h w W0 := hb1.grown hg0 z1 (fun k e => by cases e)
  have z0 : h ≤ W0.heap.size := Nat.le_trans z1 hg0.size
  rw [hm] at hc0 z1
  try rw [hm]
  clear hg0 hf0 hm hb1 hh
  go_wp2
  go_loopg [4] 4096 (fun g s4 wx => ∃ (i : Nat) (L : List P30.En), i + g = 4096 ∧ s4 = .int .i64 (i : Int) ∧ Ck wx (m + 1) m L ∧ Hid (P30.Ok L) ∧ L.length = i ∧ Hid (∀ p ∈ L, 0 ≤ p.1 ∧ p.1 < (i : Int)) ∧ Hid (∀ k : Int, 0 ≤ k → k < (i : Int) → P30.look L k = some a) ∧ Below h w wx ∧ h ≤ wx.heap.size)
  case atStart => exact ⟨0, [], by omega, by go_num, hc0, hide P30.ok_nil, rfl, hide (fun p hp => by simp at hp), hide (fun k h1 h2 => by omega), b0, z0⟩
  case round =>
    obtain ⟨i, L, hig, rfl, hck, HOK, hlen, HK, H7, hb, hz⟩ := hrel
    cases gk with
    | zero =>
      have e1 : (4096 : Int) ≤ (i : Int) := by omega
      have hok := unhide HOK
      have n1 : P30.look L (-1) = none := P30.look_none.2 (fun hm => by
        obtain ⟨p, hp, he⟩ := List.mem_map.1 hm
        have := (unhide HK p hp).1
        omega)
      have n7 : P30.look L 7 = some a := unhide H7 7 (by omega) (by omega)
      have f1 : P30.full L (-1) = true := by unfold P30.full; exact decide_eq_true ⟨by rw [n1]; rfl, by omega⟩
      have s1 : P30.set L (-1) a = L := by unfold P30.set; rw [if_pos f1]
      have f7 : P30.full L 7 = false := by unfold P30.full; exact decide_eq_false (fun h => by rw [n7] at h; exact absurd h.1 (by simp))
      have s7 : P30.set L 7 0 = P30.ins (7, 0) (P30.unset L 7) := by unfold P30.set; rw [f7]; rfl
      have ok7 : P30.Ok (P30.set L 7 0) := P30.set_ok hok 7 0
      rw [s7] at ok7
      obtain ⟨L2, hL2⟩ : ∃ L2, P30.ins (7, 0) (P30.unset L 7) = L2 := ⟨_, rfl⟩
      have lk2 : ∀ j, P30.look L2 j = if j = 7 then some 0 else P30.look (P30.unset L 7) j := fun j => by rw [← hL2]; exact look_ins (P30.unset_key L 7) j
      have u7 := P30.unset_len hok.nodup 7
      rw [n7] at u7
      have len2 : L2.length = i := by rw [← hL2, P30.ins_len]; simp at u7; omega
      rw [hL2] at s7 ok7
      have l7 : (P30.look L2 7).isSome = true := by rw [lk2 7]; rfl
      obtain ⟨L3, hL3⟩ : ∃ L3, P30.unset L2 7 = L3 := ⟨_, rfl⟩
      have ok3 : P30.Ok L3 := by rw [← hL3]; exact P30.unset_ok ok7 7
      have len3 : L3.length + 1 = i := by
        have := P30.unset_len ok7.nodup 7
        rw [l7, hL3] at this
        simp at this
        omega
      have m1 : P30.look L3 (-1) = none := by rw [← hL3, look_unset, if_neg (by omega), lk2, if_neg (by omega), look_unset, if_neg (by omega)]; exact n1
      have f3 := full_lt (L := L3) (by omega) (-1)
      have s3 : P30.set L3 (-1) a = P30.ins (-1, a) L3 := by unfold P30.set; rw [f3, P30.unset_none m1]; rfl
      have len4 : (P30.ins (-1, a) L3).length = i := by rw [P30.ins_len]; omega
      have HA := hide (fun w (hc : Ck w (m + 1) m L) => Set_to (m + 1) m L L (-1) a false w hc hok (by decide) ha (by omega) (by rw [f1]; rfl) s1)
      have HB := hide (fun w (hc : Ck w (m + 1) m L) => Set_to (m + 1) m L L2 7 0 true w hc hok (by decide) (by decide) (by omega) (by rw [f7]; rfl) s7)
      have HC := hide (fun w (hc : Ck w (m + 1) m L2) => Len_any (m + 1) m L2 w hc)
      have HD := hide (fun w (hc : Ck w (m + 1) m L2) => Unset_to (m + 1) m L2 L3 7 true w hc ok7 (by decide) l7 hL3)
      have HE := hide (fun w (hc : Ck w (m + 1) m L3) => Set_to (m + 1) m L3 (P30.ins (-1, a) L3) (-1) a true w hc ok3 (by decide) ha (by omega) (by rw [f3]; rfl) s3)
      have HF := hide (fun w (hc : Ck w (m + 1) m (P30.ins (-1, a) L3)) => Len_any (m + 1) m (P30.ins (-1, a) L3) w hc)
      have i4 : i = 4096 := by omega
      have lf4 := len4.trans i4
      have lf2 := len2.trans i4
      simp only [lf2] at HC
      simp only [lf4] at HF
      clear hok n1 n7 f1 s1 f7 s7 ok7 hL2 lk2 u7 len2 l7 hL3 ok3 len3 m1 f3 s3 len4 i4 lf4 lf2 hlen
      go_wp2_with (first
        | (have hq := hk5; clear hq; go_at_call 18; ((with_reducible refine (unhide HF _ hk5).mono ?_)); rintro e w6 ⟨rfl, rfl⟩)
        | (have hq := hk4; clear hq; go_at_call 8; ((with_reducible refine (unhide HE _ hk4).mono ?_)); rintro e w5 ⟨rfl, hk5, hg5⟩)
        | (have hq := hk3; clear hq; go_at_call 10; ((with_reducible refine (unhide HD _ hk3).mono ?_)); rintro e w4 ⟨rfl, hk4, hg4⟩)
        | (have hq := hk2; clear hq; go_at_call 18; ((with_reducible refine (unhide HC _ hk2).mono ?_)); rintro e w3 ⟨rfl, rfl⟩; have hk3 := hk2)
        | (have hq := hk1; clear hq; go_at_call 8; ((with_reducible refine (unhide HB _ hk1).mono ?_)); rintro e w2 ⟨rfl, hk2, hg2⟩)
        | (go_at_call 8; ((with_reducible refine (unhide HA _ hck).mono ?_)); rintro e w1 ⟨rfl, hk1, hg1⟩))
      go_ret
      refine ⟨rfl, ?_⟩
      exact ((((hb.grown hg1 hz (fun k e => by cases e; exact z1)).grown hg2 (Nat.le_trans hz hg1.size) (fun k e => by cases e; exact z1)).grown hg4 (Nat.le_trans hz (Nat.le_trans hg1.size hg2.size)) (fun k e => by cases e; exact z1)).grown hg5 (Nat.le_trans hz (Nat.le_trans hg1.size (Nat.le_trans hg2.size hg4.size))) (fun k e => by cases e; exact z1))
    | succ g' =>
      have hlt : (i : Int) < 4096 := by omega
      have hki : IntKind.i64.wrap ((i : Int) + 1) = (i : Int) + 1 := IntWalk.i64_in _ (by omega)
      have hn : P30.look L (i : Int) = none := P30.look_none.2 (fun hm => by
        obtain ⟨p, hp, he⟩ := List.mem_map.1 hm
        have := (unhide HK p hp).2
        omega)
      have hfull := full_lt (L := L) (by omega) (i : Int)
      have hset : P30.set L (i : Int) a = P30.ins ((i : Int), a) L := by unfold P30.set; rw [hfull, P30.unset_none hn]; rfl
      have hiw : (Lit.int .i64 (i : Int)).wf = true := WalkArith.wf_i64 (by omega)
      have hc := fun w hck => Set_to (m + 1) m L _ (i : Int) a true w hck (unhide HOK) hiw ha (by omega) (by rw [hfull]; rfl) hset
      have hok2 : P30.Ok (P30.ins ((i : Int), a) L) := by rw [← hset]; exact P30.set_ok (unhide HOK) _ _
      have hl2 : (P30.ins ((i : Int), a) L).length = i + 1 := by rw [P30.ins_len]; omega
      have hk2 : ∀ p ∈ P30.ins ((i : Int), a) L, 0 ≤ p.1 ∧ p.1 < ((i + 1 : Nat) : Int) := by
        intro p hp
        rcases (P30.mem_ins _ L p).1 hp with rfl | hp
        · exact ⟨by simp, by simp; omega⟩
        · have := unhide HK p hp; omega
      have HC := hide hc
      have HOK2 := hide hok2
      have HL2 := hide hl2
      have HK2 := hide hk2
      have h72 : ∀ k : Int, 0 ≤ k → k < ((i + 1 : Nat) : Int) → P30.look (P30.ins ((i : Int), a) L) k = some a := by
        intro k h1 h2
        rw [look_ins (fun y hy e => by have := (unhide HK y hy).2; omega)]
        by_cases hk : k = (i : Int)
        · rw [if_pos hk]
        · rw [if_neg hk]; exact unhide H7 k h1 (by omega)
      have H72 := hide h72
      clear hn hfull hset hc hok2 hl2 hk2 h72 H7 hlen
      go_wp2_with (go_at_call 8; refine (unhide HC _ hck).mono ?_; rintro e w2 ⟨rfl, hck2, hg2⟩)
      go_roundg g'
      case measure => omega
      case rel => exact ⟨i + 1, _, by omega, by go_num, hck2, HOK2, unhide HL2, HK2, H72, hb.grown hg2 hz (fun k e => by cases e; exact z1), Nat.le_trans hz hg2.size⟩
end Go.Proofs.Ytbnheebblicgkaa
