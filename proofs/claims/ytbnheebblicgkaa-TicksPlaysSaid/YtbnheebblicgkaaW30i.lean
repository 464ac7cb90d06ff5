/- walks of the reference's clock: Unset, less -/
import Derived.Test.YtbnheebblicgkaaW30h
import Derived.OneCell
namespace Go.Proofs.Ytbnheebblicgkaa
set_option linter.unusedVariables false
set_option linter.unusedSimpArgs false
open Go.RowKit Go.Maps Go.Shelf Go.Sort
theorem P30.unset_take {L : List P30.En} {i : Nat} {p : P30.En} (hi : L[i]? = some p) (k : Int) : P30.unset (L.take (i + 1)) k = if p.1 = k then P30.unset (L.take i) k else P30.unset (L.take i) k ++ [p] := by
  unfold P30.unset
  rw [List.take_add_one, hi, List.filter_append]
  by_cases h : p.1 = k
  · simp [h]
  · simp [h]
theorem unset_take_len (L : List P30.En) (i : Nat) (k : Int) : (P30.unset (L.take i) k).length ≤ i := by
  refine Nat.le_trans (List.length_filter_le _ _) ?_
  rw [List.length_take]; omega
theorem rk_store {W : World} {rb B : Nat} {x v : Value} {es : List P30.En} (hh : W.heap[rb]? = some (.cells #[x] 29)) (h : RdE W rb v es) : Rk (W.setCell ⟨rb, 0, none⟩ v) rb es :=
  ⟨v, one_setCell hh, h.kept (grown_setCell W rb 0 v) (fun g h1 _ e => h1 (by cases e; rfl))⟩
set_option maxRecDepth 100000 in
set_option maxHeartbeats 1600000 in
theorem RUnset_any (rb : Nat) (L : List P30.En) (k : Int) (w : World) (hc : Rk w rb L) (hok : P30.Ok L) (hlen : L.length ≤ 1000000) :
    Calls Try.prog 11 #[.pointer (some ⟨rb, 0, none⟩), .int .i64 k] w fun e w' => e = .returned (.bool (P30.look L k).isSome) ∧ Rk w' rb (P30.unset L k) ∧ w.grownBy w' (some rb) := by
  obtain ⟨v, hv, ao, cap, rfl, hle, hmx, hcells⟩ := hc
  obtain ⟨c0, f0⟩ := one_cell hv
  have hrb := cell_lt c0
  obtain ⟨B, hB⟩ : ∃ B, w.heap.size = B := ⟨_, rfl⟩
  rw [hB] at hrb
  have HC := hide hcells
  obtain ⟨n, hn⟩ : ∃ n, L.length = n := ⟨_, rfl⟩
  have hul := P30.unset_len hok.nodup k
  rw [hn] at hul
  obtain ⟨bb, hbb⟩ : ∃ b, (P30.look L k).isSome = b := ⟨_, rfl⟩
  rw [hbb] at hul
  rw [hbb]
  rw [hn] at c0 hlen hv
  have HN := hide hn
  have HV := hide hv
  have HB := hide hB
  have HUL := hide hul
  clear hcells hn hv hle hmx hB hul hbb
  go_enter Try.func11, Try.ntmps11
  go_wp2
  go_loopg [5, 6] n (fun g s5 s6 wx => ∃ (i m : Nat) (vo : Option Addr) (vc : Nat), i + g = n ∧ s6 = .int .i64 i ∧ s5 = .slice vo m vc ∧ Hid ((P30.unset (L.take i) k).length = m) ∧ Hid (OwnE wx B (.slice vo m vc) (P30.unset (L.take i) k)) ∧ Below B w wx)
  case atStart => exact ⟨0, 0, none, 0, by omega, by go_num, rfl, hide rfl, hide (World.ownsRow_nil _ _ _ _), Below.refl _ _⟩
  case round =>
    obtain ⟨i, m, vo, vc, hig, rfl, rfl, HM, HO, hb⟩ := hrel
    have hvx : wr.heap[rb]? = some (.cells #[.slice ao n cap] 29) := (hb.block rb hrb).trans (unhide HV)
    obtain ⟨c1, f1⟩ := one_cell hvx
    have hsz : B ≤ wr.heap.size := by have := hb_size hb (unhide HB); rw [unhide HB] at this; exact this
    have hmi : m ≤ i := by rw [← unhide HM]; exact unset_take_len L i k
    cases gk with
    | zero =>
      have e1 : (n : Int) = (i : Int) := by omega
      have hall : L.take i = L := List.take_of_length_le (by rw [unhide HN]; omega)
      rw [hall] at HO HM
      have hd : decide ((m : Int) < (i : Int)) = bb := by
        have h1 := unhide HUL
        rw [unhide HM] at h1
        cases bb with
        | true => simp at h1; exact decide_eq_true (by omega)
        | false => simp at h1; exact decide_eq_false (by omega)
      have hrd := (unhide HO).rd hrb
      have HF := hide (rk_store (B := B) hvx hrd)
      have HG := hide ((below_grown hb (unhide HB) (some rb)).trans (grown_setCell wr rb 0 (.slice vo m vc)))
      have HD := hide hd
      clear hrd hvx hd hall
      go_wp2
      go_ret
      refine ⟨?_, unhide HF, unhide HG⟩
      have h1 := unhide HD
      simp at h1 ⊢
      exact h1
    | succ g' =>
      have hlt : (i : Int) < (n : Int) := by omega
      have hki : IntKind.i64.wrap ((i : Int) + 1) = (i : Int) + 1 := IntWalk.i64_in _ (by omega)
      have hil : i < L.length := by rw [unhide HN]; omega
      have hgl : L[i]? = some L[i] := List.getElem?_eq_getElem hil
      generalize L[i] = p at hgl
      obtain ⟨k0, a0⟩ := p
      obtain ⟨g, o, rfl, hg, q1, q2⟩ := unhide HC i _ hgl
      have hgB : g < B := by have := cell_lt q1; rw [unhide HB] at this; exact this
      have c2 := cell_stays hb hgB q1
      have c3 := cell_stays hb hgB q2
      have hut := P30.unset_take hgl k
      clear q1 q2 hgl hvx
      by_cases hk : k0 = k
      · rw [if_pos hk] at hut
        rw [← hut] at HM HO
        subst hk
        clear hut
        go_wp2
        go_roundg g'
        case measure => omega
        case rel => exact ⟨i + 1, m, vo, vc, by omega, by go_num, rfl, HM, HO, hb⟩
      · rw [if_neg hk] at hut
        have HUT := hide hut
        have hul2 : (P30.unset (List.take (i + 1) L) k).length = m + 1 := by rw [hut, List.length_append, unhide HM]; rfl
        have HUL2 := hide hul2
        have hOX : Hid (OwnE (wr.alloc (.cells #[.int .i64 k0, .int .i64 a0] 42)) B (.slice vo m vc) (P30.unset (L.take i) k)) := hide (World.ownsRow.alloc (unhide HO) _)
        have hNX := hide (pair_cells (World.alloc_heap_new wr (.cells #[.int .i64 k0, .int .i64 a0] 42)))
        have hbe := below_alloc2 hb hsz (.cells #[.int .i64 k0, .int .i64 a0] 42)
        have hBX : B ≤ (wr.alloc (.cells #[.int .i64 k0, .int .i64 a0] 42)).heap.size := by rw [World.size_alloc]; omega
        have hml : m + 1 ≤ 10000000 := by omega
        have d1 : decide (k0 = k) = false := decide_eq_false hk
        clear hut hul2
        go_wp2_with (at_builtin; refine wpList_appOne (p := (k0, a0)) rfl _ _ rfl rfl (unhide hOX) wr.heap.size 1 rfl (unhide hNX) m (unhide HM) hml hBX ?_; intro g2 cap2 w2 hown2 hgrow2)
        have hb3 := hbe.grown hgrow2 hBX (fun k e => (World.ownsRow.lt (unhide HO) k e).1)
        go_roundg g'
        case measure => omega
        case rel => exact ⟨i + 1, m + 1, _, _, by omega, by go_num, rfl, HUL2, hide (by rw [unhide HUT]; exact hown2), hb3⟩
set_option maxRecDepth 100000 in
theorem less_any (p1 p2 q1 q2 : Int) (w : World) :
    Calls Try.prog 19 #[.agg #[.int .i64 p1, .int .i64 p2], .agg #[.int .i64 q1, .int .i64 q2]] w fun e w' => e = .returned (.bool (decide (P30.less (p1, p2) (q1, q2)))) ∧ w.grownBy w' none := by
  have hg : w.grownBy ((w.alloc (.cells #[.int .i64 p1, .int .i64 p2] 42)).alloc (.cells #[.int .i64 q1, .int .i64 q2] 42)) none := (World.grownBy_alloc w _ none).trans (World.grownBy_alloc _ _ none)
  rcases Int.lt_trichotomy p2 q2 with h | h | h
  · have d1 : decide (p2 < q2) = true := decide_eq_true h
    have hl : decide (P30.less (p1, p2) (q1, q2)) = true := decide_eq_true (.inl h)
    rw [hl]
    clear hl
    go_enter Try.func19, Try.ntmps19
    go_wp2
    go_ret
    exact ⟨rfl, hg⟩
  · subst h
    have d1 : decide (p2 < p2) = false := decide_eq_false (by omega)
    have hl : decide (P30.less (p1, p2) (q1, p2)) = decide (p1 < q1) := by unfold P30.less; simp
    rw [hl]
    clear hl
    go_enter Try.func19, Try.ntmps19
    go_wp2
    go_ret
    exact ⟨rfl, hg⟩
  · have d1 : decide (p2 < q2) = false := decide_eq_false (by omega)
    have d2 : decide (p2 = q2) = false := decide_eq_false (by omega)
    have d3 : (p2 == q2) = false := by simpa using (show p2 ≠ q2 by omega)
    have hl : decide (P30.less (p1, p2) (q1, q2)) = false := decide_eq_false (by unfold P30.less; simp; omega)
    rw [hl]
    clear hl
    go_enter Try.func19, Try.ntmps19
    go_wp2
    go_ret
    exact ⟨rfl, hg⟩
end Go.Proofs.Ytbnheebblicgkaa
