/- Lemmas of this claim (a part of its texts, kept as far as the claim reaches them). -/
import Derived.Test.YtefokfbgpfcbkaaGreatS32aZ
namespace Go.Proofs.YtefokfbgpfcbkaaGreat
set_option linter.unusedVariables false
set_option linter.unusedSimpArgs false
open Go.RowKit
def InOr (W : World) (a : Option Addr) (os : List P32.Order) : Prop := ∀ (j : Nat) (o : P32.Order), os[j]? = some o → ∃ g q, a = some ⟨g, q, none⟩ ∧ W.cell? ⟨g, q + j * 4, none⟩ = some (.int .i64 (o.step : Int)) ∧ W.cell? ⟨g, q + j * 4 + 1, none⟩ = some (.int .i64 o.att) ∧ W.cell? ⟨g, q + j * 4 + 2, none⟩ = some (.bool o.undo) ∧ W.cell? ⟨g, q + j * 4 + 3, none⟩ = some (.int .i64 o.til)
theorem InOr.below {W W' : World} {a : Option Addr} {os : List P32.Order} (h : InOr W a os) (hb : Below W.heap.size W W') : InOr W' a os := fun j o ho => by
  obtain ⟨g, q, e, c0, c1, c2, c3⟩ := h j o ho
  have hg := hb.block g (cellLt c0)
  exact ⟨g, q, e, (cell_of_block hg _).trans c0, (cell_of_block hg _).trans c1, (cell_of_block hg _).trans c2, (cell_of_block hg _).trans c3⟩
theorem oCells_get {os : List P32.Order} : ∀ {j : Nat} {o : P32.Order}, os[j]? = some o → (oCells os)[j * 4]? = some (.int .i64 (o.step : Int)) ∧ (oCells os)[j * 4 + 1]? = some (.int .i64 o.att) ∧ (oCells os)[j * 4 + 2]? = some (.bool o.undo) ∧ (oCells os)[j * 4 + 3]? = some (.int .i64 o.til) := by
  induction os with
  | nil => intro j o h; simp at h
  | cons p r ih =>
    intro j o h
    have e : oCells (p :: r) = ordV p ++ oCells r := by simp [oCells]
    rw [e]
    cases j with
    | zero =>
      simp at h
      subst h
      exact ⟨rfl, rfl, rfl, rfl⟩
    | succ j =>
      obtain ⟨a, b, c, d⟩ := ih (j := j) (o := o) (by simpa using h)
      have hs : ∀ k, (ordV p ++ oCells r)[(j + 1) * 4 + k]? = (oCells r)[j * 4 + k]? := fun k => by
        rw [List.getElem?_append_right (by simp [ordV]; omega)]
        congr 1
        simp [ordV]
        omega
      exact ⟨(hs 0).trans a, (hs 1).trans b, (hs 2).trans c, (hs 3).trans d⟩
theorem OwnO.slice {W : World} {B : Nat} {v : Value} {os : List P32.Order} (h : OwnO W B v os) : ∃ a c, v = .slice a os.length c ∧ os.length ≤ c ∧ InOr W a os := by
  rcases h.2 with ⟨rfl, h0⟩ | ⟨g, cap, cur, rfl, hb, hh, hc, hm, hsz, htk⟩
  · have : os = [] := List.eq_nil_of_length_eq_zero h0
    subst this
    exact ⟨none, 0, rfl, Nat.le_refl _, fun i x hx => by simp at hx⟩
  · refine ⟨_, cap, rfl, hc, fun j o hx => ⟨g, 0, rfl, ?_⟩⟩
    have hil := (List.getElem?_eq_some_iff.1 hx).1
    obtain ⟨a, b, c, d⟩ := oCells_get hx
    rw [← htk] at a b c d
    have ht : ∀ k v, k < 4 → (cur.toList.take (os.length * 4))[j * 4 + k]? = some v → W.cell? ⟨g, 0 + j * 4 + k, none⟩ = some v := fun k v hk hv => by
      rw [List.getElem?_take_of_lt (by omega)] at hv
      rw [Nat.zero_add, cell_of_row W g (j * 4 + k) cur _ (0, 0) hh]
      simpa using hv
    exact ⟨ht 0 _ (by omega) a, ht 1 _ (by omega) b, ht 2 _ (by omega) c, ht 3 _ (by omega) d⟩
def SortedO (os : List P32.Order) : Prop := ∀ (i j : Nat) (o p : P32.Order), i < j → os[i]? = some o → os[j]? = some p → o.step < p.step
def cmpN (a b : Nat) : Int := if a < b then -1 else if b < a then 1 else 0
theorem isNaNi_any (a : Int) (w : World) : Calls Tryz.prog 141 #[.int .i64 a] w fun e w' => e = .returned (.bool false) ∧ w' = w := by
  go_enter Tryz.func141, Tryz.ntmps141
  go_wp2
  go_ret
  exact ⟨by simp, rfl⟩
set_option maxRecDepth 100000 in
theorem CompareI_any (a b : Nat) (w : World) : Calls Tryz.prog 100 #[.int .i64 (a : Int), .int .i64 (b : Int)] w fun e w' => e = .returned (.int .i64 (cmpN a b)) ∧ w' = w := by
  by_cases h1 : a < b
  · have hr : cmpN a b = -1 := if_pos h1
    have h1' : (a : Int) < (b : Int) := by omega
    have HR := hide hr
    clear hr h1
    go_enter Tryz.func100, Tryz.ntmps100
    go_wp2_with (go_at_call 141; refine (isNaNi_any _ _).mono ?_; rintro e w1 ⟨rfl, rfl⟩)
    go_ret
    exact ⟨by rw [unhide HR]; rfl, rfl⟩
  · by_cases h2 : b < a
    · have hr : cmpN a b = 1 := by unfold cmpN; rw [if_neg h1, if_pos h2]
      have h1' : (b : Int) ≤ (a : Int) := by omega
      have h2' : (b : Int) < (a : Int) := by omega
      have HR := hide hr
      clear hr h1 h2
      go_enter Tryz.func100, Tryz.ntmps100
      go_wp2_with (go_at_call 141; refine (isNaNi_any _ _).mono ?_; rintro e w1 ⟨rfl, rfl⟩)
      go_ret
      exact ⟨by rw [unhide HR]; rfl, rfl⟩
    · have hr : cmpN a b = 0 := by unfold cmpN; rw [if_neg h1, if_neg h2]
      have h1' : (b : Int) ≤ (a : Int) := by omega
      have h2' : (a : Int) ≤ (b : Int) := by omega
      have HR := hide hr
      clear hr h1 h2
      go_enter Tryz.func100, Tryz.ntmps100
      go_wp2_with (go_at_call 141; refine (isNaNi_any _ _).mono ?_; rintro e w1 ⟨rfl, rfl⟩)
      go_ret
      exact ⟨by rw [unhide HR]; rfl, rfl⟩
set_option maxRecDepth 100000 in
theorem Open1_any (o p : P32.Order) (w : World) : Calls Tryz.prog 99 #[.agg #[.int .i64 (o.step : Int), .int .i64 o.att, .bool o.undo, .int .i64 o.til], .agg #[.int .i64 (p.step : Int), .int .i64 p.att, .bool p.undo, .int .i64 p.til]] w fun e w' => e = .returned (.int .i64 (cmpN o.step p.step)) ∧ Below w.heap.size w w' := by
  obtain ⟨H, hH⟩ : ∃ H, w.heap.size = H := ⟨_, rfl⟩
  rw [hH]
  obtain ⟨W1, hW1, hb1, g0, g1, hz1⟩ := new2 w (.cells #[.int .i64 (o.step : Int), .int .i64 o.att, .bool o.undo, .int .i64 o.til] 35) (.cells #[.int .i64 (p.step : Int), .int .i64 p.att, .bool p.undo, .int .i64 p.til] 35) H hH
  obtain ⟨⟨x0, _⟩, _⟩ := cell4 g0
  obtain ⟨⟨y0, _⟩, _⟩ := cell4 g1
  have HC := hide (CompareI_any o.step p.step W1)
  have HW1 := hide hW1
  have HB := hide hb1
  clear hW1 hb1 g0 g1
  go_enter Tryz.func99, Tryz.ntmps99
  go_upto_region 1 with fail
  try rw [hH]
  rw [unhide HW1]
  go_wp2_with (go_at_call 100; refine (unhide HC).mono ?_; rintro e w' ⟨rfl, hw⟩; have hw := hw.symm; subst hw)
  go_ret
  exact ⟨rfl, unhide HB⟩
theorem enter99 : ∀ args W, (callFunc 99 args).run Tryz.prog W = .ok (.enter 99 args) W := enters_of Tryz.func99 (by kernel_rfl) rfl
theorem two_or {W : World} {a : Option Addr} {os : List P32.Order} {i j n : Nat} (hd : InOr W a os) (hs : SortedO os) (hn : os.length = n) (hi : i < n) (hj : j < n) (hji : j < i) : ∃ (o p : P32.Order) (g q : Nat), a = some ⟨g, q, none⟩ ∧ (W.cell? ⟨g, q + i * 4, none⟩ = some (.int .i64 (o.step : Int)) ∧ W.cell? ⟨g, q + i * 4 + 1, none⟩ = some (.int .i64 o.att) ∧ W.cell? ⟨g, q + i * 4 + 2, none⟩ = some (.bool o.undo) ∧ W.cell? ⟨g, q + i * 4 + 3, none⟩ = some (.int .i64 o.til)) ∧
    (W.cell? ⟨g, q + j * 4, none⟩ = some (.int .i64 (p.step : Int)) ∧ W.cell? ⟨g, q + j * 4 + 1, none⟩ = some (.int .i64 p.att) ∧ W.cell? ⟨g, q + j * 4 + 2, none⟩ = some (.bool p.undo) ∧ W.cell? ⟨g, q + j * 4 + 3, none⟩ = some (.int .i64 p.til)) ∧ cmpN o.step p.step = 1 := by
  obtain ⟨o, ho⟩ := nth_of hn hi
  obtain ⟨p, hp⟩ := nth_of hn hj
  obtain ⟨g, q, e, h1⟩ := hd i o ho
  obtain ⟨g2, q2, e2, h2⟩ := hd j p hp
  rw [e] at e2
  cases e2
  refine ⟨o, p, g, q, e, h1, h2, ?_⟩
  have := hs j i p o hji hp ho
  unfold cmpN
  rw [if_neg (by omega), if_pos this]
set_option maxRecDepth 100000 in
set_option maxHeartbeats 4000000 in
theorem insO (a : Option Addr) (cap n i0 b : Nat) (os : List P32.Order) (w : World) (hd : InOr w a os) (hs : SortedO os) (hn : os.length = n) (hb : b ≤ n) (hn9 : n ≤ 1000000) (h0 : i0 ≤ 1000000) :
    Calls Tryz.prog 184 #[.slice a n cap, .int .i64 (i0 : Int), .int .i64 (b : Int), .func (.func 99) #[] #[]] w fun e w' => e = .returned (.tuple #[]) ∧ Below w.heap.size w w' := by
  obtain ⟨K, hK⟩ : ∃ K, w.heap.size = K := ⟨_, rfl⟩
  have hdV : ∀ V, Below K w V → InOr V a os := fun V hV => hd.below (by rw [hK]; exact hV)
  rw [hK]
  have hw1 : IntKind.i64.wrap ((i0 : Int) + 1) = (i0 : Int) + 1 := IntWalk.i64_in _ (by omega)
  have HDV := hide hdV
  have HS := hide hs
  have HN := hide hn
  have he := enter99
  clear hdV hd hs hn
  go_enter Tryz.func184, Tryz.ntmps184
  go_wp2
  go_loopg [8] (b - i0) (fun g s8 wx => ∃ i : Nat, i0 + 1 ≤ i ∧ b ≤ i + g ∧ i ≤ 1000001 ∧ s8 = .int .i64 (i : Int) ∧ Hid (Below K w wx))
  case atStart => exact ⟨i0 + 1, Nat.le_refl _, by omega, by omega, by go_num, hide (Below.refl _ _)⟩
  case round =>
    obtain ⟨i, hi0, hig, hi9, rfl, HB⟩ := hrel
    by_cases hib : i < b
    · obtain ⟨g', rfl⟩ : ∃ g', gk = g' + 1 := ⟨gk - 1, by omega⟩
      have e1 : (i : Int) < (b : Int) := by omega
      have j1 : decide ((i : Int) < (b : Int)) = true := by simp; omega
      have hki : IntKind.i64.wrap ((i : Int) + 1) = (i : Int) + 1 := IntWalk.i64_in _ (by omega)
      go_wp2
      go_loopg [9] 0 (fun g s9 wx => s9 = .int .i64 (i : Int) ∧ Hid (Below K w wx))
      case atStart => exact ⟨by go_num, HB⟩
      case round =>
        obtain ⟨rfl, HB2⟩ := hrel
        obtain ⟨k, rfl⟩ : ∃ k, i = k + 1 := ⟨i - 1, by omega⟩
        have e2 : ((i0 : Nat) : Int) < ((k + 1 : Nat) : Int) := by omega
        have j2 : decide (((k + 1 : Nat) : Int) > (i0 : Int)) = true := by simp; omega
        obtain ⟨o, p, g, q, rfl, ⟨c0, c1, c2, c3⟩, ⟨d0, d1, d2, d3⟩, hcm⟩ := two_or (i := k + 1) (j := k) (unhide HDV _ (unhide HB2)) (unhide HS) (unhide HN) (by omega) (by omega) (by omega)
        have hkm : IntKind.i64.wrap (((k + 1 : Nat) : Int) - 1) = (k : Int) := by rw [IntWalk.i64_in _ (by omega)]; omega
        have hkn : (k : Int) < (n : Int) := by omega
        have hkn1 : ((k + 1 : Nat) : Int) < (n : Int) := by omega
        have hc := fun q => Open1_any o p (wr.drewN q)
        rw [hcm] at hc
        obtain ⟨I, hI⟩ : ∃ I, k + 1 = I := ⟨_, rfl⟩
        rw [hI] at c0 c1 c2 c3 e2 j2 hkm hkn1 ⊢
        have HC := hide hc
        have HI1 := hide hI
        clear hc hcm hI
        go_upto_region 4 with fail
        refine wp_region_tail 14 (by kernel_rfl) (by kernel_rfl) (by kernel_rfl) (by kernel_rfl) (by kernel_rfl) ?_
        simp only [List.take_succ_cons, List.take_zero, List.drop_succ_cons, List.drop_zero]
        repeat (go_big_quiet_step (fail))
        refine wpQuiet_nil ?_
        intro _ hw'
        obtain ⟨nq, hw''⟩ := hw'
        subst hw''
        go_wp2_with (go_at_call 99; refine (unhide HC _).mono ?_; rintro e w3 ⟨rfl, b3⟩)
        have HE := hide b3
        clear b3
        go_roundg g'
        case measure => omega
        case rel =>
          have hI := unhide HI1
          exact ⟨I + 1, by omega, by omega, by omega, by go_num, hide ((unhide HB2).trans ((below_drewN (Below.refl _ _)).trans ((unhide HE).mono (by have := (unhide HB2).size; simp; omega))))⟩
    · have e1 : (b : Int) ≤ (i : Int) := by omega
      have j1 : decide ((i : Int) < (b : Int)) = false := by simp; omega
      go_wp2
      go_end0
      exact ⟨rfl, unhide HB⟩
end Go.Proofs.YtefokfbgpfcbkaaGreat
namespace Go.Proofs.YtefokfbgpfcbkaaGreat
set_option linter.unusedVariables false
set_option linter.unusedSimpArgs false
open Go.RowKit
set_option maxRecDepth 100000 in
set_option maxHeartbeats 4000000 in
theorem symO_left (a : Option Addr) (cap n : Nat) (os : List P32.Order) (a0 m b : Nat) (w : World) (hd : InOr w a os) (hs : SortedO os) (hn : os.length = n) (hn9 : n ≤ 1000000) (h1 : a0 < m) (h2 : m < b) (h3 : b ≤ n) (h4 : m = a0 + 1) :
    Calls Tryz.prog 185 #[.slice a n cap, .int .i64 (a0 : Int), .int .i64 (m : Int), .int .i64 (b : Int), .func (.func 99) #[] #[]] w fun e w' => e = .returned (.tuple #[]) ∧ Below w.heap.size w w' := by
  obtain ⟨K, hK⟩ : ∃ K, w.heap.size = K := ⟨_, rfl⟩
  have hdV : ∀ V, Below K w V → InOr V a os := fun V hV => hd.below (by rw [hK]; exact hV)
  rw [hK]
  have he := enter99
  subst h4
  have e0 : ((a0 + 1 : Nat) : Int) - (a0 : Int) = 1 := by omega
  have w0 : IntKind.i64.wrap (((a0 + 1 : Nat) : Int) - (a0 : Int)) = 1 := by rw [IntWalk.i64_in _ (by omega)]; omega
  obtain ⟨m, hm⟩ : ∃ m, a0 + 1 = m := ⟨_, rfl⟩
  rw [hm] at h1 h2 e0 w0 ⊢
  have w1 : IntKind.i64.wrap ((m : Int) - 1) = (a0 : Int) := by rw [IntWalk.i64_in _ (by omega)]; omega
  have hma : m = a0 + 1 := hm.symm
  have HMA := hide hma
  clear hm hma
  have HDV := hide hdV
  have HS := hide hs
  have HN := hide hn
  clear hdV hd hs hn
  go_enter Tryz.func185, Tryz.ntmps185
  go_wp2
  go_loopg [10, 11] (b - m) (fun g s10 s11 wx => ∃ j : Nat, s10 = .int .i64 (m : Int) ∧ s11 = .int .i64 (j : Int) ∧ m ≤ j ∧ j ≤ b ∧ j - m ≤ g ∧ Hid (Below K w wx))
  case atStart => exact ⟨b, by go_num, by go_num, by omega, Nat.le_refl _, Nat.le_refl _, hide (Below.refl _ _)⟩
  case round =>
    obtain ⟨j, rfl, rfl, hj1, hj2, hjg, HB⟩ := hrel
    by_cases hlt : m < j
    · have hlt2 : (m : Int) < (j : Int) := by omega
      have hwij : IntKind.i64.wrap ((m : Int) + (j : Int)) = (m : Int) + (j : Int) := IntWalk.i64_in _ (by omega)
      obtain ⟨h, hh⟩ : ∃ h, (m + j) / 2 = h := ⟨_, rfl⟩
      have hmid : ((m : Int) + (j : Int)) / 2 = (h : Int) := by omega
      have hih : m ≤ h := by omega
      have hhj : h < j := by omega
      have hhn : (h : Int) < (n : Int) := by omega
      have han : (a0 : Int) < (n : Int) := by omega
      clear hh
      go_upto_region 5 with fail
      try rw [hmid]
      clear hmid hwij
      obtain ⟨o, p, g, q, rfl, ⟨c0, c1, c2, c3⟩, ⟨d0, d1, d2, d3⟩, hcm⟩ := two_or (i := h) (j := a0) (unhide HDV _ (unhide HB)) (unhide HS) (unhide HN) (by omega) (by omega) (by omega)
      have hc := fun q => Open1_any o p (wr.drewN q)
      rw [hcm] at hc
      have HC := hide hc
      clear hc hcm
      refine wp_region_tail 9 (by kernel_rfl) (by kernel_rfl) (by kernel_rfl) (by kernel_rfl) (by kernel_rfl) ?_
      simp only [List.take_succ_cons, List.take_zero, List.drop_succ_cons, List.drop_zero]
      repeat (go_big_quiet_step (fail))
      refine wpQuiet_nil ?_
      intro _ hw'
      obtain ⟨nq, hw''⟩ := hw'
      subst hw''
      go_wp2_with (go_at_call 99; refine (unhide HC _).mono ?_; rintro e w3 ⟨rfl, b3⟩)
      have HE := hide b3
      clear b3
      go_roundg (gk - 1)
      case measure => omega
      case rel => exact ⟨h, by go_num, by go_num, hih, by omega, by omega, hide ((unhide HB).trans ((below_drewN (Below.refl _ _)).trans ((unhide HE).mono (by have := (unhide HB).size; simp; omega))))⟩
    · obtain rfl : j = m := by omega
      have hlt2 : (j : Int) ≤ (j : Int) := by omega
      go_wp2
      go_loopg [13] 0 (fun g s13 wx => s13 = .int .i64 (a0 : Int) ∧ Hid (Below K w wx))
      case atStart => exact ⟨by go_num, HB⟩
      case round =>
        obtain ⟨rfl, HB2⟩ := hrel
        go_wp2
        exact bodyPost_ret (results_none rfl _ _ _) rfl ⟨rfl, unhide HB2⟩
set_option maxRecDepth 100000 in
set_option maxHeartbeats 4000000 in
theorem symO_right (a : Option Addr) (cap n : Nat) (os : List P32.Order) (a0 m b : Nat) (w : World) (hd : InOr w a os) (hs : SortedO os) (hn : os.length = n) (hn9 : n ≤ 1000000) (h1 : a0 < m) (h2 : m < b) (h3 : b ≤ n) (h4 : b = m + 1) (h5 : m ≠ a0 + 1) :
    Calls Tryz.prog 185 #[.slice a n cap, .int .i64 (a0 : Int), .int .i64 (m : Int), .int .i64 (b : Int), .func (.func 99) #[] #[]] w fun e w' => e = .returned (.tuple #[]) ∧ Below w.heap.size w w' := by
  obtain ⟨K, hK⟩ : ∃ K, w.heap.size = K := ⟨_, rfl⟩
  have hdV : ∀ V, Below K w V → InOr V a os := fun V hV => hd.below (by rw [hK]; exact hV)
  rw [hK]
  have he := enter99
  subst h4
  have e0 : ((m : Int) - (a0 : Int) == 1) = false := by simp; omega
  have w0 : IntKind.i64.wrap ((m : Int) - (a0 : Int)) = (m : Int) - (a0 : Int) := IntWalk.i64_in _ (by omega)
  have w1 : IntKind.i64.wrap (((m + 1 : Nat) : Int) - (m : Int)) = 1 := by rw [IntWalk.i64_in _ (by omega)]; omega
  obtain ⟨b, hb⟩ : ∃ b, m + 1 = b := ⟨_, rfl⟩
  rw [hb] at h2 h3 w1 ⊢
  have HBM := hide hb
  clear hb h5
  have HDV := hide hdV
  have HS := hide hs
  have HN := hide hn
  clear hdV hd hs hn
  go_enter Tryz.func185, Tryz.ntmps185
  go_wp2
  go_loopg [14, 15] (m - a0) (fun g s14 s15 wx => ∃ i : Nat, s14 = .int .i64 (i : Int) ∧ s15 = .int .i64 (m : Int) ∧ a0 ≤ i ∧ i ≤ m ∧ m - i ≤ g ∧ Hid (Below K w wx))
  case atStart => exact ⟨a0, by go_num, by go_num, Nat.le_refl _, by omega, Nat.le_refl _, hide (Below.refl _ _)⟩
  case round =>
    obtain ⟨i, rfl, rfl, hj1, hj2, hjg, HB⟩ := hrel
    by_cases hlt : i < m
    · have hlt2 : (i : Int) < (m : Int) := by omega
      have hwij : IntKind.i64.wrap ((i : Int) + (m : Int)) = (i : Int) + (m : Int) := IntWalk.i64_in _ (by omega)
      obtain ⟨h, hh⟩ : ∃ h, (i + m) / 2 = h := ⟨_, rfl⟩
      have hmid : ((i : Int) + (m : Int)) / 2 = (h : Int) := by omega
      have hih : i ≤ h := by omega
      have hhj : h < m := by omega
      have hhn : (h : Int) < (n : Int) := by omega
      have hmn : (m : Int) < (n : Int) := by omega
      have hwh : IntKind.i64.wrap ((h : Int) + 1) = (h : Int) + 1 := IntWalk.i64_in _ (by omega)
      clear hh
      go_upto_region 17 with fail
      try rw [hmid]
      clear hmid hwij
      obtain ⟨o, p, g, q, rfl, ⟨c0, c1, c2, c3⟩, ⟨d0, d1, d2, d3⟩, hcm⟩ := two_or (i := m) (j := h) (unhide HDV _ (unhide HB)) (unhide HS) (unhide HN) (by omega) (by omega) (by omega)
      have hc := fun q => Open1_any o p (wr.drewN q)
      rw [hcm] at hc
      have HC := hide hc
      clear hc hcm
      refine wp_region_tail 9 (by kernel_rfl) (by kernel_rfl) (by kernel_rfl) (by kernel_rfl) (by kernel_rfl) ?_
      simp only [List.take_succ_cons, List.take_zero, List.drop_succ_cons, List.drop_zero]
      repeat (go_big_quiet_step (fail))
      refine wpQuiet_nil ?_
      intro _ hw'
      obtain ⟨nq, hw''⟩ := hw'
      subst hw''
      go_wp2_with (go_at_call 99; refine (unhide HC _).mono ?_; rintro e w3 ⟨rfl, b3⟩)
      have HE := hide b3
      clear b3
      go_roundg (gk - 1)
      case measure => omega
      case rel => exact ⟨h + 1, by go_num, by go_num, by omega, by omega, by omega, hide ((unhide HB).trans ((below_drewN (Below.refl _ _)).trans ((unhide HE).mono (by have := (unhide HB).size; simp; omega))))⟩
    · obtain rfl : i = m := by omega
      have hlt2 : (i : Int) ≤ (i : Int) := by omega
      go_wp2
      go_loopg [17] 0 (fun g s17 wx => s17 = .int .i64 (i : Int) ∧ Hid (Below K w wx))
      case atStart => exact ⟨by go_num, HB⟩
      case round =>
        obtain ⟨rfl, HB2⟩ := hrel
        go_wp2
        exact bodyPost_ret (results_none rfl _ _ _) rfl ⟨rfl, unhide HB2⟩
set_option maxRecDepth 100000 in
set_option maxHeartbeats 4000000 in
theorem symO_mainC (a : Option Addr) (cap n : Nat) (os : List P32.Order) (a0 m b : Nat) (w : World) (hd : InOr w a os) (hs : SortedO os) (hn : os.length = n) (hn9 : n ≤ 1000000) (h1 : a0 < m) (h2 : m < b) (h3 : b ≤ n) (h4 : m ≠ a0 + 1) (h5 : b ≠ m + 1) (mid : Nat) (hmid : (a0 + b) / 2 = mid) (h6 : m = mid) :
    Calls Tryz.prog 185 #[.slice a n cap, .int .i64 (a0 : Int), .int .i64 (m : Int), .int .i64 (b : Int), .func (.func 99) #[] #[]] w fun e w' => e = .returned (.tuple #[]) ∧ Below w.heap.size w w' := by
  obtain ⟨K, hK⟩ : ∃ K, w.heap.size = K := ⟨_, rfl⟩
  have hdV : ∀ V, Below K w V → InOr V a os := fun V hV => hd.below (by rw [hK]; exact hV)
  rw [hK]
  have he := enter99
  have e0 : ((m : Int) - (a0 : Int) == 1) = false := by simp; omega
  have w0 : IntKind.i64.wrap ((m : Int) - (a0 : Int)) = (m : Int) - (a0 : Int) := IntWalk.i64_in _ (by omega)
  have e1 : ((b : Int) - (m : Int) == 1) = false := by simp; omega
  have w1 : IntKind.i64.wrap ((b : Int) - (m : Int)) = (b : Int) - (m : Int) := IntWalk.i64_in _ (by omega)
  have w2 : IntKind.i64.wrap ((a0 : Int) + (b : Int)) = (a0 : Int) + (b : Int) := IntWalk.i64_in _ (by omega)
  have hm2 : ((a0 : Int) + (b : Int)) / 2 = (mid : Int) := by omega
  have hma : a0 < mid := by omega
  have hmb : mid < b := by omega
  obtain ⟨N, hN⟩ : ∃ N, mid + m = N := ⟨_, rfl⟩
  have w3 : IntKind.i64.wrap ((mid : Int) + (m : Int)) = (N : Int) := by rw [IntWalk.i64_in _ (by omega)]; omega
  obtain ⟨pp, hpp⟩ : ∃ p, p + 1 = N := ⟨N - 1, by omega⟩
  have w4 : IntKind.i64.wrap ((N : Int) - 1) = (pp : Int) := by rw [IntWalk.i64_in _ (by omega)]; omega
  obtain rfl : m = mid := h6
  have g1 : (m : Int) ≤ (m : Int) := Int.le_refl _
  have am : (a0 : Int) < (m : Int) := by omega
  have hmidv := hmid
  clear hmid h4 h5
  have HDV := hide hdV
  have HS := hide hs
  have HN := hide hn
  clear hdV hd hs hn
  go_enter Tryz.func185, Tryz.ntmps185
  go_wp2
  go_loopg [20, 21] (m - a0) (fun g s20 s21 wx => ∃ i : Nat, s20 = .int .i64 (i : Int) ∧ s21 = .int .i64 (m : Int) ∧ a0 ≤ i ∧ i ≤ m ∧ m - i ≤ g ∧ Hid (Below K w wx))
  case atStart => exact ⟨a0, by go_num, by go_num, Nat.le_refl _, by omega, Nat.le_refl _, hide (Below.refl _ _)⟩
  case round =>
    obtain ⟨i, rfl, rfl, hj1, hj2, hjg, HB⟩ := hrel
    by_cases hlt : i < m
    · have hlt2 : (i : Int) < (m : Int) := by omega
      have hwij : IntKind.i64.wrap ((i : Int) + (m : Int)) = (i : Int) + (m : Int) := IntWalk.i64_in _ (by omega)
      obtain ⟨c, hc⟩ : ∃ c, (i + m) / 2 = c := ⟨_, rfl⟩
      have hmc : ((i : Int) + (m : Int)) / 2 = (c : Int) := by omega
      have hih : i ≤ c := by omega
      have hhj : c < m := by omega
      obtain ⟨x, hx⟩ : ∃ x, x + c = pp := ⟨pp - c, by omega⟩
      have hxc : c < x := by omega
      have hxb : x < b := by omega
      have hwx : IntKind.i64.wrap ((pp : Int) - (c : Int)) = (x : Int) := by rw [IntWalk.i64_in _ (by omega)]; omega
      have hxn : (x : Int) < (n : Int) := by omega
      have hcn : (c : Int) < (n : Int) := by omega
      have hwh : IntKind.i64.wrap ((c : Int) + 1) = (c : Int) + 1 := IntWalk.i64_in _ (by omega)
      clear hc hx
      go_upto_region 35 with fail
      try rw [hmc]
      clear hmc hwij
      obtain ⟨o, p, g, q, rfl, ⟨c0, c1, c2, c3⟩, ⟨d0, d1, d2, d3⟩, hcm⟩ := two_or (i := x) (j := c) (unhide HDV _ (unhide HB)) (unhide HS) (unhide HN) (by omega) (by omega) (by omega)
      have hc := fun q => Open1_any o p (wr.drewN q)
      rw [hcm] at hc
      have HC := hide hc
      clear hc hcm
      refine wp_region_tail 11 (by kernel_rfl) (by kernel_rfl) (by kernel_rfl) (by kernel_rfl) (by kernel_rfl) ?_
      simp only [List.take_succ_cons, List.take_zero, List.drop_succ_cons, List.drop_zero]
      repeat (go_big_quiet_step (fail))
      refine wpQuiet_nil ?_
      intro _ hw'
      obtain ⟨nq, hw''⟩ := hw'
      subst hw''
      go_wp2_with (go_at_call 99; refine (unhide HC _).mono ?_; rintro e w3 ⟨rfl, b3⟩)
      have HE := hide b3
      clear b3
      go_roundg (gk - 1)
      case measure => omega
      case rel => exact ⟨c + 1, by go_num, by go_num, by omega, by omega, by omega, hide ((unhide HB).trans ((below_drewN (Below.refl _ _)).trans ((unhide HE).mono (by have := (unhide HB).size; simp; omega))))⟩
    · obtain rfl : i = m := by omega
      clear hlt hj1 hj2 hjg
      have hlt2 : (i : Int) ≤ (i : Int) := by omega
      have we : IntKind.i64.wrap ((N : Int) - (i : Int)) = (i : Int) := by rw [IntWalk.i64_in _ (by omega)]; omega
      go_wp2
      go_end0
      exact ⟨rfl, unhide HB⟩
set_option maxRecDepth 100000 in
set_option maxHeartbeats 4000000 in
theorem symO_mainA (a : Option Addr) (cap n : Nat) (os : List P32.Order) (a0 m b : Nat) (w : World) (hd : InOr w a os) (hs : SortedO os) (hn : os.length = n) (hn9 : n ≤ 1000000) (h1 : a0 < m) (h2 : m < b) (h3 : b ≤ n) (h4 : m ≠ a0 + 1) (h5 : b ≠ m + 1) (mid : Nat) (hmid : (a0 + b) / 2 = mid) (h6 : mid < m) (hrec : ∀ V : World, InOr V a os → Calls Tryz.prog 185 #[.slice a n cap, .int .i64 (mid : Int), .int .i64 (m : Int), .int .i64 (b : Int), .func (.func 99) #[] #[]] V fun e w' => e = .returned (.tuple #[]) ∧ Below V.heap.size V w') :
    Calls Tryz.prog 185 #[.slice a n cap, .int .i64 (a0 : Int), .int .i64 (m : Int), .int .i64 (b : Int), .func (.func 99) #[] #[]] w fun e w' => e = .returned (.tuple #[]) ∧ Below w.heap.size w w' := by
  obtain ⟨K, hK⟩ : ∃ K, w.heap.size = K := ⟨_, rfl⟩
  have hdV : ∀ V, Below K w V → InOr V a os := fun V hV => hd.below (by rw [hK]; exact hV)
  rw [hK]
  have he := enter99
  have e0 : ((m : Int) - (a0 : Int) == 1) = false := by simp; omega
  have w0 : IntKind.i64.wrap ((m : Int) - (a0 : Int)) = (m : Int) - (a0 : Int) := IntWalk.i64_in _ (by omega)
  have e1 : ((b : Int) - (m : Int) == 1) = false := by simp; omega
  have w1 : IntKind.i64.wrap ((b : Int) - (m : Int)) = (b : Int) - (m : Int) := IntWalk.i64_in _ (by omega)
  have w2 : IntKind.i64.wrap ((a0 : Int) + (b : Int)) = (a0 : Int) + (b : Int) := IntWalk.i64_in _ (by omega)
  have hm2 : ((a0 : Int) + (b : Int)) / 2 = (mid : Int) := by omega
  have hma : a0 < mid := by omega
  have hmb : mid < b := by omega
  obtain ⟨N, hN⟩ : ∃ N, mid + m = N := ⟨_, rfl⟩
  have w3 : IntKind.i64.wrap ((mid : Int) + (m : Int)) = (N : Int) := by rw [IntWalk.i64_in _ (by omega)]; omega
  obtain ⟨pp, hpp⟩ : ∃ p, p + 1 = N := ⟨N - 1, by omega⟩
  have w4 : IntKind.i64.wrap ((N : Int) - 1) = (pp : Int) := by rw [IntWalk.i64_in _ (by omega)]; omega
  have g1 : (mid : Int) < (m : Int) := by omega
  have am : (a0 : Int) < (mid : Int) := by omega
  have mb : (m : Int) < (b : Int) := by omega
  obtain ⟨S, hS⟩ : ∃ S, S + b = N := ⟨N - b, by omega⟩
  have wS : IntKind.i64.wrap ((N : Int) - (b : Int)) = (S : Int) := by rw [IntWalk.i64_in _ (by omega)]; omega
  have hSm : S ≤ mid := by omega
  have HREC := hide hrec
  clear hrec
  have hmidv := hmid
  clear hmid h4 h5
  have HDV := hide hdV
  have HS := hide hs
  have HN := hide hn
  clear hdV hd hs hn
  go_enter Tryz.func185, Tryz.ntmps185
  go_wp2
  go_loopg [20, 21] (mid - S) (fun g s20 s21 wx => ∃ i : Nat, s20 = .int .i64 (i : Int) ∧ s21 = .int .i64 (mid : Int) ∧ S ≤ i ∧ i ≤ mid ∧ mid - i ≤ g ∧ Hid (Below K w wx))
  case atStart => exact ⟨S, by go_num, by go_num, Nat.le_refl _, by omega, Nat.le_refl _, hide (Below.refl _ _)⟩
  case round =>
    obtain ⟨i, rfl, rfl, hj1, hj2, hjg, HB⟩ := hrel
    by_cases hlt : i < mid
    · have hlt2 : (i : Int) < (mid : Int) := by omega
      have hwij : IntKind.i64.wrap ((i : Int) + (mid : Int)) = (i : Int) + (mid : Int) := IntWalk.i64_in _ (by omega)
      obtain ⟨c, hc⟩ : ∃ c, (i + mid) / 2 = c := ⟨_, rfl⟩
      have hmc : ((i : Int) + (mid : Int)) / 2 = (c : Int) := by omega
      have hih : i ≤ c := by omega
      have hhj : c < mid := by omega
      obtain ⟨x, hx⟩ : ∃ x, x + c = pp := ⟨pp - c, by omega⟩
      have hxc : c < x := by omega
      have hxb : x < b := by omega
      have hwx : IntKind.i64.wrap ((pp : Int) - (c : Int)) = (x : Int) := by rw [IntWalk.i64_in _ (by omega)]; omega
      have hxn : (x : Int) < (n : Int) := by omega
      have hcn : (c : Int) < (n : Int) := by omega
      have hwh : IntKind.i64.wrap ((c : Int) + 1) = (c : Int) + 1 := IntWalk.i64_in _ (by omega)
      clear hc hx
      go_upto_region 35 with fail
      try rw [hmc]
      clear hmc hwij
      obtain ⟨o, p, g, q, rfl, ⟨c0, c1, c2, c3⟩, ⟨d0, d1, d2, d3⟩, hcm⟩ := two_or (i := x) (j := c) (unhide HDV _ (unhide HB)) (unhide HS) (unhide HN) (by omega) (by omega) (by omega)
      have hc := fun q => Open1_any o p (wr.drewN q)
      rw [hcm] at hc
      have HC := hide hc
      clear hc hcm
      refine wp_region_tail 11 (by kernel_rfl) (by kernel_rfl) (by kernel_rfl) (by kernel_rfl) (by kernel_rfl) ?_
      simp only [List.take_succ_cons, List.take_zero, List.drop_succ_cons, List.drop_zero]
      repeat (go_big_quiet_step (fail))
      refine wpQuiet_nil ?_
      intro _ hw'
      obtain ⟨nq, hw''⟩ := hw'
      subst hw''
      go_wp2_with (go_at_call 99; refine (unhide HC _).mono ?_; rintro e w3 ⟨rfl, b3⟩)
      have HE := hide b3
      clear b3
      go_roundg (gk - 1)
      case measure => omega
      case rel => exact ⟨c + 1, by go_num, by go_num, by omega, by omega, by omega, hide ((unhide HB).trans ((below_drewN (Below.refl _ _)).trans ((unhide HE).mono (by have := (unhide HB).size; simp; omega))))⟩
    · obtain rfl : i = mid := by omega
      clear hlt hj1 hj2 hjg
      have hlt2 : (i : Int) ≤ (i : Int) := by omega
      have we : IntKind.i64.wrap ((N : Int) - (i : Int)) = (m : Int) := by rw [IntWalk.i64_in _ (by omega)]; omega
      have HRC := hide (unhide HREC wr (unhide HDV _ (unhide HB)))
      go_wp2_with (go_at_call 185; refine (unhide HRC).mono ?_; rintro e w5 ⟨rfl, b5⟩; have HE5 := hide b5; clear b5)
      go_end0
      exact ⟨rfl, (unhide HB).trans ((unhide HE5).mono (by have := (unhide HB).size; omega))⟩
set_option maxRecDepth 100000 in
set_option maxHeartbeats 4000000 in
theorem symO_mainB (a : Option Addr) (cap n : Nat) (os : List P32.Order) (a0 m b : Nat) (w : World) (hd : InOr w a os) (hs : SortedO os) (hn : os.length = n) (hn9 : n ≤ 1000000) (h1 : a0 < m) (h2 : m < b) (h3 : b ≤ n) (h4 : m ≠ a0 + 1) (h5 : b ≠ m + 1) (mid : Nat) (hmid : (a0 + b) / 2 = mid) (h6 : m < mid) (hrec : ∀ V : World, InOr V a os → Calls Tryz.prog 185 #[.slice a n cap, .int .i64 (a0 : Int), .int .i64 (m : Int), .int .i64 (mid : Int), .func (.func 99) #[] #[]] V fun e w' => e = .returned (.tuple #[]) ∧ Below V.heap.size V w') :
    Calls Tryz.prog 185 #[.slice a n cap, .int .i64 (a0 : Int), .int .i64 (m : Int), .int .i64 (b : Int), .func (.func 99) #[] #[]] w fun e w' => e = .returned (.tuple #[]) ∧ Below w.heap.size w w' := by
  obtain ⟨K, hK⟩ : ∃ K, w.heap.size = K := ⟨_, rfl⟩
  have hdV : ∀ V, Below K w V → InOr V a os := fun V hV => hd.below (by rw [hK]; exact hV)
  rw [hK]
  have he := enter99
  have e0 : ((m : Int) - (a0 : Int) == 1) = false := by simp; omega
  have w0 : IntKind.i64.wrap ((m : Int) - (a0 : Int)) = (m : Int) - (a0 : Int) := IntWalk.i64_in _ (by omega)
  have e1 : ((b : Int) - (m : Int) == 1) = false := by simp; omega
  have w1 : IntKind.i64.wrap ((b : Int) - (m : Int)) = (b : Int) - (m : Int) := IntWalk.i64_in _ (by omega)
  have w2 : IntKind.i64.wrap ((a0 : Int) + (b : Int)) = (a0 : Int) + (b : Int) := IntWalk.i64_in _ (by omega)
  have hm2 : ((a0 : Int) + (b : Int)) / 2 = (mid : Int) := by omega
  have hma : a0 < mid := by omega
  have hmb : mid < b := by omega
  obtain ⟨N, hN⟩ : ∃ N, mid + m = N := ⟨_, rfl⟩
  have w3 : IntKind.i64.wrap ((mid : Int) + (m : Int)) = (N : Int) := by rw [IntWalk.i64_in _ (by omega)]; omega
  obtain ⟨pp, hpp⟩ : ∃ p, p + 1 = N := ⟨N - 1, by omega⟩
  have w4 : IntKind.i64.wrap ((N : Int) - 1) = (pp : Int) := by rw [IntWalk.i64_in _ (by omega)]; omega
  have g1 : (m : Int) ≤ (mid : Int) := by omega
  have g2 : (m : Int) < (mid : Int) := by omega
  have g3 : decide (mid < m) = false := by simp; omega
  have am : (a0 : Int) < (m : Int) := by omega
  have HREC := hide hrec
  clear hrec
  have hmidv := hmid
  clear hmid h4 h5
  have HDV := hide hdV
  have HS := hide hs
  have HN := hide hn
  clear hdV hd hs hn
  go_enter Tryz.func185, Tryz.ntmps185
  go_wp2
  go_loopg [20, 21] (m - a0) (fun g s20 s21 wx => ∃ i : Nat, s20 = .int .i64 (i : Int) ∧ s21 = .int .i64 (m : Int) ∧ a0 ≤ i ∧ i ≤ m ∧ m - i ≤ g ∧ Hid (Below K w wx))
  case atStart => exact ⟨a0, by go_num, by go_num, Nat.le_refl _, by omega, Nat.le_refl _, hide (Below.refl _ _)⟩
  case round =>
    obtain ⟨i, rfl, rfl, hj1, hj2, hjg, HB⟩ := hrel
    by_cases hlt : i < m
    · have hlt2 : (i : Int) < (m : Int) := by omega
      have hwij : IntKind.i64.wrap ((i : Int) + (m : Int)) = (i : Int) + (m : Int) := IntWalk.i64_in _ (by omega)
      obtain ⟨c, hc⟩ : ∃ c, (i + m) / 2 = c := ⟨_, rfl⟩
      have hmc : ((i : Int) + (m : Int)) / 2 = (c : Int) := by omega
      have hih : i ≤ c := by omega
      have hhj : c < m := by omega
      obtain ⟨x, hx⟩ : ∃ x, x + c = pp := ⟨pp - c, by omega⟩
      have hxc : c < x := by omega
      have hxb : x < b := by omega
      have hwx : IntKind.i64.wrap ((pp : Int) - (c : Int)) = (x : Int) := by rw [IntWalk.i64_in _ (by omega)]; omega
      have hxn : (x : Int) < (n : Int) := by omega
      have hcn : (c : Int) < (n : Int) := by omega
      have hwh : IntKind.i64.wrap ((c : Int) + 1) = (c : Int) + 1 := IntWalk.i64_in _ (by omega)
      clear hc hx
      go_upto_region 35 with fail
      try rw [hmc]
      clear hmc hwij
      obtain ⟨o, p, g, q, rfl, ⟨c0, c1, c2, c3⟩, ⟨d0, d1, d2, d3⟩, hcm⟩ := two_or (i := x) (j := c) (unhide HDV _ (unhide HB)) (unhide HS) (unhide HN) (by omega) (by omega) (by omega)
      have hc := fun q => Open1_any o p (wr.drewN q)
      rw [hcm] at hc
      have HC := hide hc
      clear hc hcm
      refine wp_region_tail 11 (by kernel_rfl) (by kernel_rfl) (by kernel_rfl) (by kernel_rfl) (by kernel_rfl) ?_
      simp only [List.take_succ_cons, List.take_zero, List.drop_succ_cons, List.drop_zero]
      repeat (go_big_quiet_step (fail))
      refine wpQuiet_nil ?_
      intro _ hw'
      obtain ⟨nq, hw''⟩ := hw'
      subst hw''
      go_wp2_with (go_at_call 99; refine (unhide HC _).mono ?_; rintro e w3 ⟨rfl, b3⟩)
      have HE := hide b3
      clear b3
      go_roundg (gk - 1)
      case measure => omega
      case rel => exact ⟨c + 1, by go_num, by go_num, by omega, by omega, by omega, hide ((unhide HB).trans ((below_drewN (Below.refl _ _)).trans ((unhide HE).mono (by have := (unhide HB).size; simp; omega))))⟩
    · obtain rfl : i = m := by omega
      clear hlt hj1 hj2 hjg
      have hlt2 : (i : Int) ≤ (i : Int) := by omega
      have we : IntKind.i64.wrap ((N : Int) - (i : Int)) = (mid : Int) := by rw [IntWalk.i64_in _ (by omega)]; omega
      have HRC := hide (unhide HREC wr (unhide HDV _ (unhide HB)))
      go_wp2_with (go_at_call 185; refine (unhide HRC).mono ?_; rintro e w5 ⟨rfl, b5⟩; have HE5 := hide b5; clear b5)
      go_end0
      exact ⟨rfl, (unhide HB).trans ((unhide HE5).mono (by have := (unhide HB).size; omega))⟩
theorem symO (a : Option Addr) (cap n : Nat) (os : List P32.Order) (hs : SortedO os) (hn : os.length = n) (hn9 : n ≤ 1000000) : ∀ (k a0 m b : Nat) (w : World), b - a0 ≤ k → InOr w a os → a0 < m → m < b → b ≤ n →
    Calls Tryz.prog 185 #[.slice a n cap, .int .i64 (a0 : Int), .int .i64 (m : Int), .int .i64 (b : Int), .func (.func 99) #[] #[]] w fun e w' => e = .returned (.tuple #[]) ∧ Below w.heap.size w w'
  | 0, a0, m, b, w, hk, hd, h1, h2, h3 => absurd hk (by omega)
  | k + 1, a0, m, b, w, hk, hd, h1, h2, h3 => by
    by_cases h4 : m = a0 + 1
    · exact symO_left a cap n os a0 m b w hd hs hn hn9 h1 h2 h3 h4
    · by_cases h5 : b = m + 1
      · exact symO_right a cap n os a0 m b w hd hs hn hn9 h1 h2 h3 h5 h4
      · obtain ⟨mid, hmid⟩ : ∃ mid, (a0 + b) / 2 = mid := ⟨_, rfl⟩
        rcases Nat.lt_trichotomy mid m with h6 | h6 | h6
        · exact symO_mainA a cap n os a0 m b w hd hs hn hn9 h1 h2 h3 h4 h5 mid hmid h6 (fun V hV => symO a cap n os hs hn hn9 k mid m b V (by omega) hV h6 h2 h3)
        · exact symO_mainC a cap n os a0 m b w hd hs hn hn9 h1 h2 h3 h4 h5 mid hmid h6.symm
        · exact symO_mainB a cap n os a0 m b w hd hs hn hn9 h1 h2 h3 h4 h5 mid hmid h6 (fun V hV => symO a cap n os hs hn hn9 k a0 m mid V (by omega) hV h1 h6 (by omega))
end Go.Proofs.YtefokfbgpfcbkaaGreat
namespace Go.Proofs.YtefokfbgpfcbkaaGreat
set_option linter.unusedVariables false
set_option linter.unusedSimpArgs false
open Go.RowKit
set_option maxRecDepth 100000 in
set_option maxHeartbeats 4000000 in
theorem stableO (a : Option Addr) (cap n : Nat) (os : List P32.Order) (w : World) (hd : InOr w a os) (hs : SortedO os) (hn : os.length = n) (hn9 : n ≤ 1000000) :
    Calls Tryz.prog 140 #[.slice a n cap, .int .i64 (n : Int), .func (.func 99) #[] #[]] w fun e w' => e = .returned (.tuple #[]) ∧ Below w.heap.size w w' := by
  obtain ⟨K, hK⟩ : ∃ K, w.heap.size = K := ⟨_, rfl⟩
  have hdV : ∀ V, Below K w V → InOr V a os := fun V hV => hd.below (by rw [hK]; exact hV)
  have hins := fun V i0 b (hV : Below K w V) (hb : b ≤ n) (h0 : i0 ≤ 1000000) => insO a cap n i0 b os V (hdV V hV) hs hn hb hn9 h0
  have hsym := fun V a0 m b (hV : Below K w V) (h1 : a0 < m) (h2 : m < b) (h3 : b ≤ n) => symO a cap n os hs hn hn9 _ a0 m b V (Nat.le_refl _) (hdV V hV) h1 h2 h3
  rw [hK]
  have HI := hide hins
  have HS := hide hsym
  clear hins hsym hdV hd hs hn
  go_enter Tryz.func140, Tryz.ntmps140
  go_wp2
  go_loopg [7, 8] n (fun g s7 s8 wx => ∃ x e : Nat, s7 = .int .i64 (x : Int) ∧ s8 = .int .i64 (e : Int) ∧ x + 20 ≤ e ∧ e ≤ x + 20 ∧ x ≤ n ∧ n - x ≤ g ∧ Hid (Below K w wx))
  case atStart => exact ⟨0, 20, by go_num, by go_num, by omega, by omega, by omega, by omega, hide (Below.refl _ _)⟩
  case round =>
    obtain ⟨x, e, rfl, rfl, he1, he2, hx, hg, HB⟩ := hrel
    by_cases hlt : e ≤ n
    · have hlt2 : (e : Int) ≤ (n : Int) := by omega
      have hwe : IntKind.i64.wrap ((e : Int) + 20) = (e : Int) + 20 := IntWalk.i64_in _ (by omega)
      have HC := hide (unhide HI wr x e (unhide HB) hlt (by omega))
      go_wp2_with (go_at_call 184; refine (unhide HC).mono ?_; rintro q w3 ⟨rfl, b3⟩; have HE := hide b3; clear b3)
      go_roundg (gk - 1)
      case measure => omega
      case rel => exact ⟨e, e + 20, by go_num, by go_num, by omega, by omega, hlt, by omega, hide ((unhide HB).trans ((unhide HE).mono (by have := (unhide HB).size; omega)))⟩
    · have hlt2 : (n : Int) < (e : Int) := by omega
      have HC := hide (unhide HI wr x n (unhide HB) (Nat.le_refl _) (by omega))
      clear hlt
      go_wp2_with (go_at_call 184; refine (unhide HC).mono ?_; rintro q w3 ⟨rfl, b3⟩; have HE := hide ((unhide HB).trans (b3.mono (by have := (unhide HB).size; omega))); clear b3)
      go_loopg [6] n (fun g s6 wx => ∃ bs : Nat, s6 = .int .i64 (bs : Int) ∧ 20 ≤ bs ∧ bs ≤ 2000000 ∧ n - bs ≤ g ∧ Hid (Below K w wx))
      case atStart => exact ⟨20, by go_num, Nat.le_refl _, by omega, by omega, HE⟩
      case round =>
        obtain ⟨bs, rfl, hb1, hb2, hbg, HB2⟩ := hrel
        obtain ⟨gkO, rfl⟩ : ∃ z, z = gk := ⟨_, rfl⟩
        by_cases hbn : bs < n
        · have hbn2 : (bs : Int) < (n : Int) := by omega
          obtain ⟨b2, hb22⟩ : ∃ b2, 2 * bs = b2 := ⟨_, rfl⟩
          have hw2 : IntKind.i64.wrap (2 * (bs : Int)) = (b2 : Int) := by rw [IntWalk.i64_in _ (by omega)]; omega
          have hw3 : IntKind.i64.wrap ((bs : Int) * 2) = (b2 : Int) := by rw [IntWalk.i64_in _ (by omega)]; omega
          have hb23 : 2 * bs ≤ b2 := by omega
          have hb24 : b2 ≤ 2 * bs := by omega
          clear hb22
          go_wp2
          go_loopg [7, 8] n (fun g s7 s8 wx => ∃ x e : Nat, s7 = .int .i64 (x : Int) ∧ s8 = .int .i64 (e : Int) ∧ x + b2 ≤ e ∧ e ≤ x + b2 ∧ x ≤ n ∧ n - x ≤ g ∧ Hid (Below K w wx))
          case atStart => exact ⟨0, b2, by go_num, by go_num, by omega, by omega, by omega, by omega, HB2⟩
          case round =>
            obtain ⟨x, e, rfl, rfl, hxe1, hxe2, hx1, hxg, HB3⟩ := hrel
            obtain ⟨m, hm⟩ : ∃ m, x + bs = m := ⟨_, rfl⟩
            have hwm : IntKind.i64.wrap ((x : Int) + (bs : Int)) = (m : Int) := by rw [IntWalk.i64_in _ (by omega)]; omega
            have hm1 : x + bs ≤ m := by omega
            have hm2 : m ≤ x + bs := by omega
            clear hm
            by_cases hle : e ≤ n
            · have hle2 : (e : Int) ≤ (n : Int) := by omega
              obtain ⟨e2, he2⟩ : ∃ e2, e + b2 = e2 := ⟨_, rfl⟩
              have hwe : IntKind.i64.wrap ((e : Int) + (b2 : Int)) = (e2 : Int) := by rw [IntWalk.i64_in _ (by omega)]; omega
              have he21 : e + b2 ≤ e2 := by omega
              have he22 : e2 ≤ e + b2 := by omega
              clear he2
              have HC2 := hide (unhide HS wr x m e (unhide HB3) (by omega) (by omega) hle)
              go_wp2_with (go_at_call 185; refine (unhide HC2).mono ?_; rintro q w3 ⟨rfl, b3⟩; have HE3 := hide b3; clear b3)
              go_roundg (gk - 1)
              case measure => omega
              case rel => exact ⟨e, e2, by go_num, by go_num, by omega, by omega, hle, by omega, hide ((unhide HB3).trans ((unhide HE3).mono (by have := (unhide HB3).size; omega)))⟩
            · have hle2 : (n : Int) < (e : Int) := by omega
              by_cases hmn : m < n
              · have hmn2 : (m : Int) < (n : Int) := by omega
                have HC2 := hide (unhide HS wr x m n (unhide HB3) (by omega) hmn (Nat.le_refl _))
                clear hle
                go_wp2_with (go_at_call 185; refine (unhide HC2).mono ?_; rintro q w3 ⟨rfl, b3⟩; have HE3 := hide b3; clear b3)
                go_roundg (gkO - 1)
                case measure => omega
                case rel => exact ⟨b2, by go_num, by omega, by omega, by omega, hide ((unhide HB3).trans ((unhide HE3).mono (by have := (unhide HB3).size; omega)))⟩
              · have hmn2 : (n : Int) ≤ (m : Int) := by omega
                clear hle hmn
                go_wp2
                go_roundg (gkO - 1)
                case measure => omega
                case rel => exact ⟨b2, by go_num, by omega, by omega, by omega, HB3⟩
        · have hbn2 : (n : Int) ≤ (bs : Int) := by omega
          clear hbn
          go_wp2
          go_end0
          exact ⟨rfl, unhide HB2⟩
set_option maxRecDepth 100000 in
theorem sortO (a : Option Addr) (cap n : Nat) (os : List P32.Order) (w : World) (hd : InOr w a os) (hs : SortedO os) (hn : os.length = n) (hn9 : n ≤ 1000000) :
    Calls Tryz.prog 98 #[.slice a n cap, .func (.func 99) #[] #[]] w fun e w' => e = .returned (.tuple #[]) ∧ Below w.heap.size w w' := by
  have HC := hide (stableO a cap n os w hd hs hn hn9)
  clear hd hs hn
  go_enter Tryz.func98, Tryz.ntmps98
  go_wp2_with (go_at_call 140; refine (unhide HC).mono ?_; rintro q w3 ⟨rfl, b3⟩; have HE := hide b3; clear b3)
  go_end0
  exact ⟨rfl, unhide HE⟩
end Go.Proofs.YtefokfbgpfcbkaaGreat
