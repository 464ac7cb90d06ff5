/- Lemmas of this claim (a part of its texts, kept as far as the claim reaches them). -/
import Derived.Test.YtefokfbgpfcbkaaGreatN28xZ
import Derived.Test.YtefokfbgpfcbkaaGreatGL20Z
import Derived.Test.YtefokfbgpfcbkaaGreatShelfZ
namespace Go.Proofs.YtefokfbgpfcbkaaGreat
set_option linter.unusedVariables false
set_option linter.unusedSimpArgs false
open Go.RowKit
theorem texts_drop (l : List (List UInt8)) (i : Nat) (x : List UInt8) (h : l[i]? = some x) : P28.texts (l.drop i) = if P03.check x 64 ≠ 0 then P03.check x 64 else P28.texts (l.drop (i + 1)) := by
  have e : l.drop i = x :: l.drop (i + 1) := by
    obtain ⟨h1, h2⟩ := List.getElem?_eq_some_iff.1 h
    rw [← h2]
    exact List.drop_eq_getElem_cons h1
  rw [e]
  rfl
set_option maxRecDepth 100000 in
set_option maxHeartbeats 4000000 in
theorem texts_any (a : Option Addr) (c : Nat) (l : List (List UInt8)) (w : World) (h : InS w a l) (hl : l.length ≤ maxLen) (hx : ∀ x ∈ l, x.length ≤ 1100000) :
    Calls Tryz.prog 127 #[.slice a l.length c] w fun e w' => e = .returned (.int .i64 (P28.texts l)) ∧ Below w.heap.size w w' := by
  unfold maxLen at hl
  obtain ⟨n, hn⟩ : ∃ n, l.length = n := ⟨_, rfl⟩
  rw [hn] at hl ⊢
  obtain ⟨H, hH⟩ : ∃ H, w.heap.size = H := ⟨_, rfl⟩
  rw [hH]
  have hblk : ∀ r, l ≠ [] → blockOf a r → r < H := fun r h1 h2 => by rw [← hH]; exact PSt.inS_lt h h1 h2
  have hkeep : ∀ V, Below H w V → InS V a l := fun V hV => h.keep (fun r h1 h2 => hV.block r (hblk r h1 h2))
  obtain ⟨TT, hTT⟩ : ∃ T, P28.texts l = T := ⟨_, rfl⟩
  rw [hTT]
  have HTT := hide hTT
  have HN := hide hn
  have HK := hide hkeep
  have HX := hide hx
  clear hTT hn hkeep hx hblk h
  go_enter Tryz.func127, Tryz.ntmps127
  go_wp2
  go_loopg [8] n (fun g s8 wx => ∃ (i : Nat), i + g = n ∧ s8 = .int .i64 i ∧ Hid (Below H w wx) ∧ Hid (P28.texts (l.drop i) = TT))
  case atStart => exact ⟨0, by omega, by go_num, hide (Below.refl _ _), by simpa using HTT⟩
  case round =>
    obtain ⟨i, hig, rfl, HB, HT⟩ := hrel
    cases gk with
    | zero =>
      have e1 : (n : Int) ≤ (i : Int) := by omega
      have j1 : decide ((i : Int) < (n : Int)) = false := by simp; omega
      have hfin : (0 : Int) = TT := by
        have h := unhide HT
        rw [List.drop_of_length_le (by rw [unhide HN]; omega)] at h
        exact h
      subst hfin
      go_wp2
      go_ret
      exact ⟨rfl, unhide HB⟩
    | succ g' =>
      have hlt : (i : Int) < (n : Int) := by omega
      have hki : IntKind.i64.wrap ((i : Int) + 1) = (i : Int) + 1 := IntWalk.i64_in _ (by omega)
      obtain ⟨x, hxi⟩ := nth_of (unhide HN) (show i < n by omega)
      obtain ⟨b, o, rfl, hc⟩ := (unhide HK) wr (unhide HB) i x hxi
      have hck := Check_any ⟨x.toArray⟩ 64 wr (by rw [Lib.size_eq]; exact unhide HX x (List.mem_of_getElem? hxi))
      simp only [list_data] at hck
      have ht := unhide HT
      rw [texts_drop l i x hxi] at ht
      obtain ⟨E, hE⟩ : ∃ E, P03.check x 64 = E := ⟨_, rfl⟩
      rw [hE] at hck ht
      have HC := hide hck
      clear hck hE hxi
      by_cases hE0 : E = 0
      · subst hE0
        rw [if_neg (by simp)] at ht
        have HT2 := hide ht
        clear ht
        go_wp2_with (go_at_call 128; refine (unhide HC).mono ?_; rintro e w2 ⟨rfl, hb2⟩)
        go_roundg g'
        case measure => omega
        case rel => exact ⟨i + 1, by omega, by go_num, hide ((unhide HB).trans (hb2.mono (by rw [← hH]; exact (unhide HB).size))), HT2⟩
      · rw [if_pos hE0] at ht
        subst ht
        have j2 : (E != 0) = true := by simpa using hE0
        clear hE0
        go_wp2_with (go_at_call 128; refine (unhide HC).mono ?_; rintro e w2 ⟨rfl, hb2⟩)
        go_ret
        exact ⟨rfl, (unhide HB).trans (hb2.mono (by rw [← hH]; exact (unhide HB).size))⟩
theorem fits_any (g : Nat) (x y z u : Int) (w : World) (h : w.heap[g]? = some (.cells #[.int .i64 x, .int .i64 y, .int .i64 z, .int .i64 u] 3)) :
    Calls Tryz.prog 169 #[.slice (some ⟨g, 0, none⟩) 4 4] w fun e w' => e = .returned (.bool (P28.fits x && (P28.fits y && (P28.fits z && P28.fits u)))) ∧ w' = w := by
  have hc : ∀ j, j < [x, y, z, u].length → w.cell? ⟨g, 0 + j, none⟩ = some (.int .i64 ([x, y, z, u].getD j 0)) := fun j hj => by
    match j, hj with
    | 0, _ => simp [World.cell?, h]
    | 1, _ => simp [World.cell?, h]
    | 2, _ => simp [World.cell?, h]
    | 3, _ => simp [World.cell?, h]
  have h1 := Tryz.slices_Min_int g 0 4 4 [x, y, z, u] w (by omega) (by simp) (by omega) hc
  have h2 := Tryz.slices_Max_int g 0 4 4 [x, y, z, u] w (by omega) (by simp) (by omega) hc
  simp only [List.take_succ_cons, List.take_zero] at h1 h2
  have e1 : decide (0 ≤ Lib.minOf [x, y, z, u]) = (decide (0 ≤ x) && (decide (0 ≤ y) && (decide (0 ≤ z) && decide (0 ≤ u)))) := by
    rw [show Lib.minOf [x, y, z, u] = min (min (min (min x x) y) z) u from rfl, Bool.eq_iff_iff]
    simp only [decide_eq_true_eq, Bool.and_eq_true]
    omega
  have e2 : decide (Lib.maxOf [x, y, z, u] ≤ 999999999) = (decide (x ≤ 999999999) && (decide (y ≤ 999999999) && (decide (z ≤ 999999999) && decide (u ≤ 999999999)))) := by
    rw [show Lib.maxOf [x, y, z, u] = max (max (max (max x x) y) z) u from rfl, Bool.eq_iff_iff]
    simp only [decide_eq_true_eq, Bool.and_eq_true]
    omega
  have e3 : (P28.fits x && (P28.fits y && (P28.fits z && P28.fits u))) = (decide (0 ≤ Lib.minOf [x, y, z, u]) && decide (Lib.maxOf [x, y, z, u] ≤ 999999999)) := by
    rw [e1, e2, Bool.eq_iff_iff]
    simp only [P28.fits, Bool.and_eq_true, decide_eq_true_eq]
    omega
  rw [e3]
  obtain ⟨mn, hmn⟩ : ∃ m, Lib.minOf [x, y, z, u] = m := ⟨_, rfl⟩
  obtain ⟨mx, hmx⟩ : ∃ m, Lib.maxOf [x, y, z, u] = m := ⟨_, rfl⟩
  rw [hmn] at h1 ⊢
  rw [hmx] at h2 ⊢
  have H1 := hide h1
  have H2 := hide h2
  clear h1 h2 e1 e2 e3 hmn hmx hc h
  by_cases c1 : 0 ≤ mn
  · have d1 : decide (mn ≥ 0) = true := by simpa using c1
    go_enter Tryz.func169, Tryz.ntmps169
    go_wp2_with (first | (go_at_call 198; refine (unhide H1).mono ?_; rintro e w' ⟨rfl, hw⟩; have hw := hw.symm; subst hw) | (go_at_call 199; refine (unhide H2).mono ?_; rintro e w' ⟨rfl, hw⟩; have hw := hw.symm; subst hw))
    go_ret
    exact ⟨ret_bool (by simp [c1]), rfl⟩
  · have c2 : mn < 0 := by omega
    have d1 : decide (mn ≥ 0) = false := by simpa using c2
    clear c1
    go_enter Tryz.func169, Tryz.ntmps169
    go_wp2_with (first | (go_at_call 198; refine (unhide H1).mono ?_; rintro e w' ⟨rfl, hw⟩; have hw := hw.symm; subst hw) | (go_at_call 199; refine (unhide H2).mono ?_; rintro e w' ⟨rfl, hw⟩; have hw := hw.symm; subst hw))
    go_ret
    exact ⟨ret_bool (by simp; omega), rfl⟩
end Go.Proofs.YtefokfbgpfcbkaaGreat
