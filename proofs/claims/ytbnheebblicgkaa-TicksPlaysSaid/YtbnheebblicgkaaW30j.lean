/- walks of the reference's clock: Set -/
import Derived.Test.YtbnheebblicgkaaW30i
namespace Go.Proofs.Ytbnheebblicgkaa
set_option linter.unusedVariables false
set_option linter.unusedSimpArgs false
open Go.RowKit Go.Maps Go.Shelf Go.Sort
theorem RUnset_to (rb : Nat) (L M : List P30.En) (k : Int) (b : Bool) (w : World) (hc : Rk w rb L) (hok : P30.Ok L) (hlen : L.length ≤ 1000000) (hb : (P30.look L k).isSome = b) (hM : P30.unset L k = M) (n : Nat) (hn : M.length = n) :
    Calls Try.prog 11 #[.pointer (some ⟨rb, 0, none⟩), .int .i64 k] w fun e w' => e = .returned (.bool b) ∧ w.grownBy w' (some rb) ∧ ∃ ao cap, w'.heap[rb]? = some (.cells #[.slice ao n cap] 29) ∧ RdE w' rb (.slice ao n cap) M := by
  subst hb hM hn
  refine (RUnset_any rb L k w hc hok hlen).mono ?_
  rintro e w' ⟨rfl, ⟨v, hv, hr⟩, hg⟩
  obtain ⟨ao, cap, rfl, _⟩ := id hr
  exact ⟨rfl, hg, ao, cap, hv, hr⟩
theorem less_to (p1 p2 q1 q2 : Int) (b : Bool) (h : decide (P30.less (p1, p2) (q1, q2)) = b) (w : World) :
    Calls Try.prog 19 #[.agg #[.int .i64 p1, .int .i64 p2], .agg #[.int .i64 q1, .int .i64 q2]] w fun e w' => e = .returned (.bool b) ∧ w.grownBy w' none := by
  subst h
  exact less_any p1 p2 q1 q2 w
theorem P30.ins_drop {M : List P30.En} {i : Nat} {p : P30.En} (hi : M[i]? = some p) (x : P30.En) : M.drop i = p :: M.drop (i + 1) ∧ P30.ins x (M.drop i) = if P30.less x p then x :: p :: M.drop (i + 1) else p :: P30.ins x (M.drop (i + 1)) := by
  obtain ⟨hl, e⟩ := List.getElem?_eq_some_iff.1 hi
  have h1 : M.drop i = p :: M.drop (i + 1) := by rw [List.drop_eq_getElem_cons hl, e]
  refine ⟨h1, ?_⟩
  rw [h1]
  rfl
theorem own_kept {W W' : World} {B : Nat} {v : Value} {es : List P30.En} (hg : W.grownBy W' none) (h : OwnE W B v es) : OwnE W' B v es := by
  rcases h.2 with h1 | ⟨g, cap, cur, hv, hb, hh, hr⟩
  · exact ⟨h.1, .inl h1⟩
  · exact ⟨h.1, .inr ⟨g, cap, cur, hv, hb, heap_kept hg hh (by simp), hr⟩⟩
theorem drewN_heap {W : World} {q g : Nat} {o : Obj} (h : W.heap[g]? = some o) : (W.drewN q).heap[g]? = some o := h
set_option maxRecDepth 100000 in
set_option maxHeartbeats 3200000 in
theorem RSet_any (rb : Nat) (L : List P30.En) (k a : Int) (w : World) (hc : Rk w rb L) (hok : P30.Ok L) (hlen : L.length ≤ 1000000) :
    Calls Try.prog 9 #[.pointer (some ⟨rb, 0, none⟩), .int .i64 k, .int .i64 a] w fun e w' => e = .returned (.bool (!P30.full L k)) ∧ Rk w' rb (P30.set L k a) ∧ w.grownBy w' (some rb) := by
  obtain ⟨M, hM⟩ : ∃ M, P30.unset L k = M := ⟨_, rfl⟩
  obtain ⟨n, hn⟩ : ∃ n, M.length = n := ⟨_, rfl⟩
  have hul := P30.unset_len hok.nodup k
  rw [hM, hn] at hul
  obtain ⟨bb, hbb⟩ : ∃ b, (P30.look L k).isSome = b := ⟨_, rfl⟩
  rw [hbb] at hul
  have hnl : n ≤ 1000000 := by omega
  have hfull : P30.full L k = (!bb && decide (4096 ≤ n)) := by
    unfold P30.full
    cases bb with
    | true =>
      rw [Bool.not_true, Bool.false_and]
      refine decide_eq_false (fun h => ?_)
      cases hl : P30.look L k with
      | none => rw [hl] at hbb; cases hbb
      | some x => rw [hl] at h; simp at h
    | false =>
      simp at hul
      rw [hul, Bool.not_false, Bool.true_and]
      cases hl : P30.look L k with
      | none => simp
      | some x => rw [hl] at hbb; cases hbb
  have hset : P30.set L k a = if (!bb && decide (4096 ≤ n)) = true then M else P30.ins (k, a) M := by
    unfold P30.set
    rw [hfull, hM]
    cases bb with
    | true => rfl
    | false =>
      have : P30.look L k = none := by
        cases hl : P30.look L k with
        | none => rfl
        | some x => rw [hl] at hbb; cases hbb
      rw [← hM, P30.unset_none this]
  have HU := hide (RUnset_to rb L M k bb w hc hok hlen hbb hM n hn)
  rw [hset, hfull]
  have HN := hide hn
  clear hset hfull hul hbb hM hn hc hok hlen
  by_cases hf : bb = false ∧ 4096 ≤ n
  · obtain ⟨rfl, hf⟩ := hf
    have d1 : decide (4096 ≤ (n : Int)) = true := decide_eq_true (by omega)
    have d2 : decide (4096 ≤ n) = true := decide_eq_true hf
    rw [d2]
    simp only [Bool.not_false, Bool.true_and, if_true, Bool.not_true]
    go_enter Try.func9, Try.ntmps9
    go_wp2_with (go_at_call 11; refine (unhide HU).mono ?_; rintro e W2 ⟨rfl, hg2, ao, cap, hv2, hr2⟩; obtain ⟨c2, f2⟩ := one_cell hv2; have HV2 := hide hv2; clear hv2)
    go_ret
    exact ⟨rfl, ⟨_, unhide HV2, hr2⟩, hg2⟩
  · have hp : (!bb && decide (4096 ≤ n)) = false := by
      cases bb with
      | true => rfl
      | false => rw [Bool.not_false, Bool.true_and]; exact decide_eq_false (fun h => hf ⟨rfl, h⟩)
    rw [hp]
    simp only [Bool.not_false, Bool.false_eq_true, if_false]
    go_enter Try.func9, Try.ntmps9
    have HP := hide hp
    clear hf hp
    cases bb
    all_goals (first
      | (have d1 : decide (4096 ≤ (n : Int)) = false := (by have h := unhide HP; simp at h; exact decide_eq_false (by omega)); go_upto_region 3 with (go_at_call 11; refine (unhide HU).mono ?_; rintro e W2 ⟨rfl, hg2, ao, cap, hv2, hr2⟩; obtain ⟨c2, f2⟩ := one_cell hv2; have HV2 := hide hv2; clear hv2); clear d1)
      | (go_upto_region 3 with (go_at_call 11; refine (unhide HU).mono ?_; rintro e W2 ⟨rfl, hg2, ao, cap, hv2, hr2⟩; obtain ⟨c2, f2⟩ := one_cell hv2; have HV2 := hide hv2; clear hv2)))
    all_goals (
      clear HU HP
      obtain ⟨bx, hbx⟩ : ∃ b, W2.heap.size = b := ⟨_, rfl⟩
      have hrb := cell_lt c2
      have hV : W2.grownBy (W2.alloc (.cells #[.int .i64 k, .int .i64 a] 42)) none := World.grownBy_alloc W2 _ none
      have HX := hide (World.alloc_heap_new W2 (.cells #[.int .i64 k, .int .i64 a] 42))
      have HVV := hide (heap_kept hV (unhide HV2) (by simp))
      have HR := hide (hr2.kept hV (by simp))
      have HG := hide (hg2.trans ((World.grownBy_alloc W2 (.cells #[.int .i64 k, .int .i64 a] 42) (some rb))))
      have HSZ := hide (World.size_alloc W2 (.cells #[.int .i64 k, .int .i64 a] 42))
      rw [hbx] at HX HSZ hrb
      clear hV hr2 hg2
      go_wp2
      obtain ⟨V, hVe⟩ : ∃ V, W2.alloc (.cells #[.int .i64 k, .int .i64 a] 42) = V := ⟨_, rfl⟩
      rw [hVe] at HX HVV HR HG HSZ ⊢
      have hVs : V.heap.size = bx + 1 := unhide HSZ
      clear hVe HV2 c2 f2
      have HVS := hide hVs
      have h0 : Hid ((if false = true then ([] : List P30.En) ++ M.drop 0 else [] ++ P30.ins (k, a) (M.drop 0)) = P30.ins (k, a) M) := hide (by simp)
      have HO0 : Hid (OwnE V (bx + 1) (.slice none 0 0) []) := hide (World.ownsRow_nil _ _ _ _)
      clear hVs hbx
      go_loopg [8, 9, 10] n (fun g s8 s9 s10 wx => ∃ (i m : Nat) (b : Bool) (vo : Option Addr) (vc : Nat) (es : List P30.En), i + g = n ∧ s10 = .int .i64 i ∧ s9 = .bool b ∧ s8 = .slice vo m vc ∧ Hid (es.length = m) ∧ m ≤ i + (if b = true then 1 else 0) ∧ Hid (OwnE wx (bx + 1) (.slice vo m vc) es) ∧ Hid ((if b = true then es ++ M.drop i else es ++ P30.ins (k, a) (M.drop i)) = P30.ins (k, a) M) ∧ Below (bx + 1) V wx)
      case atStart => exact ⟨0, 0, false, none, 0, [], by omega, by go_num, rfl, rfl, hide rfl, by simp, HO0, h0, Below.refl _ _⟩
      case round =>
        clear HO0 h0
        obtain ⟨i, m, b, vo, vc, es, hig, rfl, rfl, rfl, HM, hmi, HO, HE, hb⟩ := hrel
        have hvx := (hb.block rb (by omega)).trans (unhide HVV)
        have hxx := (hb.block bx (by omega)).trans (unhide HX)
        obtain ⟨c1, f1⟩ := one_cell hvx
        obtain ⟨x1, x2⟩ := pair_cells hxx
        have hsz : bx + 1 ≤ wr.heap.size := by have := hb_size hb (unhide HVS); rw [unhide HVS] at this; exact this
        cases gk with
        | zero =>
          have e1 : (n : Int) = (i : Int) := by omega
          have hdr : M.drop i = [] := List.drop_eq_nil_of_le (by rw [unhide HN]; omega)
          have he := unhide HE
          rw [hdr] at he
          cases b with
          | true =>
            simp only [if_true, List.append_nil] at he
            rw [he] at HO
            have HF := hide (rk_store (B := bx + 1) hvx ((unhide HO).rd (by omega)))
            have HG2 := hide (((unhide HG).trans (below_grown hb (unhide HVS) (some rb))).trans (grown_setCell wr rb 0 (.slice vo m vc)))
            clear he hdr hvx hxx HE HM hb
            go_wp2
            go_ret
            exact ⟨rfl, unhide HF, unhide HG2⟩
          | false =>
            simp only [Bool.false_eq_true, if_false] at he
            have he2 : es ++ [(k, a)] = P30.ins (k, a) M := he
            have HE2 := hide he2
            have hOX7 : Hid (OwnE (wr.alloc (.cells #[.int .i64 k, .int .i64 a] 42)) (bx + 1) (.slice vo m vc) es) := hide (World.ownsRow.alloc (unhide HO) _)
            have hNX7 := hide (pair_cells (World.alloc_heap_new wr (.cells #[.int .i64 k, .int .i64 a] 42)))
            have hbe7 := below_alloc2 hb hsz (.cells #[.int .i64 k, .int .i64 a] 42)
            have hBX7 : bx + 1 ≤ (wr.alloc (.cells #[.int .i64 k, .int .i64 a] 42)).heap.size := by rw [World.size_alloc]; have := hsz; omega
            have hml : m + 1 ≤ 10000000 := by simp at hmi; omega
            clear he he2 hdr hxx HE hvx
            go_upto_region 15 with (at_builtin; refine wpList_appOne (p := (k, a)) rfl _ _ rfl rfl (unhide hOX7) wr.heap.size 1 rfl (unhide hNX7) m (unhide HM) hml hBX7 ?_; intro g7 cap7 w7 hown7 hgrow7)
            have hb7 := hbe7.grown hgrow7 hBX7 (fun k e => (World.ownsRow.lt (unhide HO) k e).1)
            have hvx := (hb7.block rb (by omega)).trans (unhide HVV)
            obtain ⟨c7, f7⟩ := one_cell hvx
            rw [unhide HE2] at hown7
            have HF := hide (rk_store (B := bx + 1) hvx (hown7.rd (by omega)))
            have HG2 := hide (((unhide HG).trans (below_grown hb7 (unhide HVS) (some rb))).trans (grown_setCell w7 rb 0 (.slice (some ⟨g7, 0, none⟩) (m + 1) cap7)))
            clear hvx hown7 hgrow7 hbe7 hb7
            go_wp2
            go_ret
            exact ⟨rfl, unhide HF, unhide HG2⟩
        | succ g' =>
          have hlt : (i : Int) < (n : Int) := by omega
          have hki : IntKind.i64.wrap ((i : Int) + 1) = (i : Int) + 1 := IntWalk.i64_in _ (by omega)
          have hil : i < M.length := by rw [unhide HN]; omega
          have hgl : M[i]? = some M[i] := List.getElem?_eq_getElem hil
          generalize M[i] = p at hgl
          obtain ⟨k0, a0⟩ := p
          obtain ⟨ao', cap', he9, _, _, hcl⟩ := unhide HR
          injection he9 with he9 hz1 hz2
          subst he9
          clear hz1 hz2
          obtain ⟨g, o, rfl, hg, q1, q2⟩ := hcl i _ hgl
          have hgB : g < bx + 1 := by have := cell_lt q1; rw [unhide HVS] at this; exact this
          have c2 := cell_stays hb hgB q1
          have c3 := cell_stays hb hgB q2
          obtain ⟨hd1, hd2⟩ := P30.ins_drop hgl (k, a)
          have he := unhide HE
          rw [hd2, hd1] at he
          have hmi2 : m ≤ i + 1 := by split at hmi <;> omega
          have hml : m + 1 ≤ 10000000 := by omega
          have Q1 := hide q1
          have Q2 := hide q2
          clear hcl q1 q2 hgl hd1 hd2 HE
          cases b with
          | true =>
            simp only [if_true] at he
            have he2 : (if true = true then (es ++ [(k0, a0)]) ++ M.drop (i + 1) else (es ++ [(k0, a0)]) ++ P30.ins (k, a) (M.drop (i + 1))) = P30.ins (k, a) M := by rw [if_pos rfl, List.append_assoc]; exact he
            have HE2 := hide he2
            clear he he2
            go_wp2
            go_quiet (fail)
            have c1' : (wr.drewN nq).cell? ⟨rb, 0, none⟩ = some (.slice (some ⟨g, o, none⟩) n cap) := c1
            have c2' : (wr.drewN nq).cell? ⟨g, o + i * 2, none⟩ = some (.int .i64 k0) := c2
            have c3' : (wr.drewN nq).cell? ⟨g, o + i * 2 + 1, none⟩ = some (.int .i64 a0) := c3
            have hbq : Below (bx + 1) V (wr.drewN nq) := hb.grown (grown_drew wr nq none) hsz (fun k e => by cases e)
            have hsq : bx + 1 ≤ (wr.drewN nq).heap.size := hsz
            have HOq : Hid (OwnE (wr.drewN nq) (bx + 1) (.slice vo m vc) es) := hide (show OwnE wr (bx + 1) (.slice vo m vc) es from unhide HO)
            clear c1 c2 c3 hb hsz f1 x1 x2 hvx hxx HO
            generalize wr.drewN nq = w8 at *
            have hOX7 : Hid (OwnE (w8.alloc (.cells #[.int .i64 k0, .int .i64 a0] 42)) (bx + 1) (.slice vo m vc) es) := hide (World.ownsRow.alloc (unhide HOq) _)
            have hNX7 := hide (pair_cells (World.alloc_heap_new w8 (.cells #[.int .i64 k0, .int .i64 a0] 42)))
            have hbe7 := below_alloc2 hbq hsq (.cells #[.int .i64 k0, .int .i64 a0] 42)
            have hBX7 : bx + 1 ≤ (w8.alloc (.cells #[.int .i64 k0, .int .i64 a0] 42)).heap.size := by rw [World.size_alloc]; have := hsq; omega
            go_wp2_with (at_builtin; refine wpList_appOne (p := (k0, a0)) rfl _ _ rfl rfl (unhide hOX7) w8.heap.size 1 rfl (unhide hNX7) m (unhide HM) hml hBX7 ?_; intro g7 cap7 w7 hown7 hgrow7)
            have hb7 := hbe7.grown hgrow7 hBX7 (fun k e => (World.ownsRow.lt (unhide HOq) k e).1)
            go_roundg g'
            case measure => omega
            case rel => exact ⟨i + 1, m + 1, true, _, _, _, by omega, by go_num, rfl, rfl, hide (by rw [List.length_append, unhide HM]; rfl), by simp at hmi ⊢; omega, hide hown7, HE2, hb7⟩
          | false =>
            simp only [Bool.false_eq_true, if_false] at he
            by_cases hls : P30.less (k, a) (k0, a0)
            · rw [if_pos hls] at he
              have HLS := hide (less_to k a k0 a0 true (decide_eq_true hls))
              have he2 : (if true = true then ((es ++ [(k, a)]) ++ [(k0, a0)]) ++ M.drop (i + 1) else ((es ++ [(k, a)]) ++ [(k0, a0)]) ++ P30.ins (k, a) (M.drop (i + 1))) = P30.ins (k, a) M := by rw [if_pos rfl, List.append_assoc, List.append_assoc]; exact he
              have HE2 := hide he2
              clear he he2 hls
              go_wp2
              go_region_with (go_at_call 19; refine (unhide HLS _).mono ?_; rintro e w8 ⟨rfl, hg8⟩)
              all_goals (
                have hb8 : Below (bx + 1) V w8 := (hb.grown (grown_drew wr 1 none) hsz (fun k e => by cases e)).grown hg8 hsz (fun k e => by cases e)
                have hs8 : bx + 1 ≤ w8.heap.size := Nat.le_trans hsz hg8.size
                have HO8 : Hid (OwnE w8 (bx + 1) (.slice vo m vc) es) := hide (own_kept hg8 (show OwnE wr.drew (bx + 1) (.slice vo m vc) es from unhide HO))
                have hvx8 := (hb8.block rb (by omega)).trans (unhide HVV)
                have hxx8 := (hb8.block bx (by omega)).trans (unhide HX)
                have hq1 := cell_stays hb8 hgB (unhide Q1)
                have hq2 := cell_stays hb8 hgB (unhide Q2)
                clear c1 c2 c3 hb hsz f1 x1 x2 hvx hxx HO hg8
                obtain ⟨x1, x2⟩ := pair_cells hxx8
                have hOX6 : Hid (OwnE (w8.alloc (.cells #[.int .i64 k, .int .i64 a] 42)) (bx + 1) (.slice vo m vc) es) := hide (World.ownsRow.alloc (unhide HO8) _)
                have hNX6 := hide (pair_cells (World.alloc_heap_new w8 (.cells #[.int .i64 k, .int .i64 a] 42)))
                have hbe6 := below_alloc2 hb8 hs8 (.cells #[.int .i64 k, .int .i64 a] 42)
                have hBX6 : bx + 1 ≤ (w8.alloc (.cells #[.int .i64 k, .int .i64 a] 42)).heap.size := by rw [World.size_alloc]; have := hs8; omega
                clear hq1 hq2 hvx8 hxx8
                go_upto_region 12 with (at_builtin; refine wpList_appOne (p := (k, a)) rfl _ _ rfl rfl (unhide hOX6) w8.heap.size 1 rfl (unhide hNX6) m (unhide HM) hml hBX6 ?_; intro g6 cap6 w6 hown6 hgrow6)
                have hb6 := hbe6.grown hgrow6 hBX6 (fun k e => (World.ownsRow.lt (unhide HO8) k e).1)
                have hs6 : bx + 1 ≤ w6.heap.size := Nat.le_trans hBX6 hgrow6.size
                obtain ⟨c1, f1⟩ := one_cell ((hb6.block rb (by omega)).trans (unhide HVV))
                have c2 := cell_stays hb6 hgB (unhide Q1)
                have c3 := cell_stays hb6 hgB (unhide Q2)
                have HO6 := hide hown6
                clear hbe6 hgrow6 hown6 x1 x2
                have hOX7 : Hid (OwnE (w6.alloc (.cells #[.int .i64 k0, .int .i64 a0] 42)) (bx + 1) (.slice (some ⟨g6, 0, none⟩) (m + 1) cap6) (es ++ [(k, a)])) := hide (World.ownsRow.alloc (unhide HO6) _)
                have hNX7 := hide (pair_cells (World.alloc_heap_new w6 (.cells #[.int .i64 k0, .int .i64 a0] 42)))
                have hbe7 := below_alloc2 hb6 hs6 (.cells #[.int .i64 k0, .int .i64 a0] 42)
                have hBX7 : bx + 1 ≤ (w6.alloc (.cells #[.int .i64 k0, .int .i64 a0] 42)).heap.size := by rw [World.size_alloc]; have := hs6; omega
                go_wp2_with (at_builtin; refine wpList_appOne (p := (k0, a0)) rfl _ _ rfl rfl (unhide hOX7) w6.heap.size 1 rfl (unhide hNX7) (m + 1) (by rw [List.length_append, unhide HM]; rfl) (by omega) hBX7 ?_; intro g7 cap7 w7 hown7 hgrow7)
                have hb7 := hbe7.grown hgrow7 hBX7 (fun k e => (World.ownsRow.lt (unhide HO6) k e).1)
                go_roundg g'
                case measure => omega
                case rel => exact ⟨i + 1, m + 1 + 1, true, _, _, _, by omega, by go_num, rfl, rfl, hide (by rw [List.length_append, List.length_append, unhide HM]; rfl), by simp at hmi ⊢; omega, hide hown7, HE2, hb7⟩)
            · rw [if_neg hls] at he
              have HLS := hide (less_to k a k0 a0 false (decide_eq_false hls))
              have he2 : (if false = true then (es ++ [(k0, a0)]) ++ M.drop (i + 1) else (es ++ [(k0, a0)]) ++ P30.ins (k, a) (M.drop (i + 1))) = P30.ins (k, a) M := by rw [if_neg (by simp), List.append_assoc]; exact he
              have HE2 := hide he2
              clear he he2 hls
              go_wp2
              go_region_with (go_at_call 19; refine (unhide HLS _).mono ?_; rintro e w8 ⟨rfl, hg8⟩)
              all_goals (
                have hb8 : Below (bx + 1) V w8 := (hb.grown (grown_drew wr 1 none) hsz (fun k e => by cases e)).grown hg8 hsz (fun k e => by cases e)
                have hs8 : bx + 1 ≤ w8.heap.size := Nat.le_trans hsz hg8.size
                have HO8 : Hid (OwnE w8 (bx + 1) (.slice vo m vc) es) := hide (own_kept hg8 (show OwnE wr.drew (bx + 1) (.slice vo m vc) es from unhide HO))
                have hvx8 := (hb8.block rb (by omega)).trans (unhide HVV)
                have hxx8 := (hb8.block bx (by omega)).trans (unhide HX)
                have hq1 := cell_stays hb8 hgB (unhide Q1)
                have hq2 := cell_stays hb8 hgB (unhide Q2)
                clear c1 c2 c3 hb hsz f1 x1 x2 hvx hxx HO hg8
                obtain ⟨c1, f1⟩ := one_cell hvx8
                have hOX7 : Hid (OwnE (w8.alloc (.cells #[.int .i64 k0, .int .i64 a0] 42)) (bx + 1) (.slice vo m vc) es) := hide (World.ownsRow.alloc (unhide HO8) _)
                have hNX7 := hide (pair_cells (World.alloc_heap_new w8 (.cells #[.int .i64 k0, .int .i64 a0] 42)))
                have hbe7 := below_alloc2 hb8 hs8 (.cells #[.int .i64 k0, .int .i64 a0] 42)
                have hBX7 : bx + 1 ≤ (w8.alloc (.cells #[.int .i64 k0, .int .i64 a0] 42)).heap.size := by rw [World.size_alloc]; have := hs8; omega
                clear hvx8 hxx8
                go_wp2_with (at_builtin; refine wpList_appOne (p := (k0, a0)) rfl _ _ rfl rfl (unhide hOX7) w8.heap.size 1 rfl (unhide hNX7) m (unhide HM) hml hBX7 ?_; intro g7 cap7 w7 hown7 hgrow7)
                have hb7 := hbe7.grown hgrow7 hBX7 (fun k e => (World.ownsRow.lt (unhide HO8) k e).1)
                go_roundg g'
                case measure => omega
                case rel => exact ⟨i + 1, m + 1, false, _, _, _, by omega, by go_num, rfl, rfl, hide (by rw [List.length_append, unhide HM]; rfl), by simp at hmi ⊢; omega, hide hown7, HE2, hb7⟩))
end Go.Proofs.Ytbnheebblicgkaa
