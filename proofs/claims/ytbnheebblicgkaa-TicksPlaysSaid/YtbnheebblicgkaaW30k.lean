/- walks of the reference's clock: Due -/
import Derived.Test.YtbnheebblicgkaaW30j
namespace Go.Proofs.Ytbnheebblicgkaa
set_option linter.unusedVariables false
set_option linter.unusedSimpArgs false
open Go.RowKit Go.Maps Go.Shelf Go.Sort
theorem RdE.cut {W : World} {rb g o cap n : Nat} {p : P30.En} {R : List P30.En} (h : RdE W rb (.slice (some ⟨g, o, none⟩) (n + 1) cap) (p :: R)) (hn : R.length = n) : RdE W rb (.slice (some ⟨g, o + 2, none⟩) n (cap - 1)) R := by
  obtain ⟨ao, cp, hv, hle, hmx, hc⟩ := h
  injection hv with h1 h2 h3
  subst h1 h3
  simp at hle
  refine ⟨_, cap - 1, by rw [hn], by omega, by omega, fun i q hi => ?_⟩
  obtain ⟨g', o', e, hg, c1, c2⟩ := hc (i + 1) q (by simpa using hi)
  injection e with e
  injection e with e1 e2 _
  subst e1 e2
  refine ⟨g, o + 2, rfl, hg, ?_, ?_⟩
  · have : o + 2 + i * 2 = o + (i + 1) * 2 := by omega
    rw [this]; exact c1
  · have : o + 2 + i * 2 + 1 = o + (i + 1) * 2 + 1 := by omega
    rw [this]; exact c2
theorem RdE.nil {W : World} {rb : Nat} {ao : Option Addr} {cap : Nat} (hle : cap ≤ maxLen) : RdE W rb (.slice ao 0 cap) [] := ⟨ao, cap, rfl, Nat.zero_le _, hle, fun i p hi => by simp at hi⟩
theorem ownI_rd {W : World} {B : Nat} {v : Value} {zs : List Int} (h : OwnI W B v zs) : RdI W B v zs := by
  rcases Nat.eq_zero_or_pos zs.length with h0 | hz
  · have he : zs = [] := List.length_eq_zero_iff.1 h0
    subst he
    rcases h.2 with ⟨hv, _⟩ | ⟨g, cap, cur, hv, _⟩
    · exact ⟨none, 0, hv, fun i p hi => by simp at hi⟩
    · exact ⟨_, cap, hv, fun i p hi => by simp at hi⟩
  · obtain ⟨g, cap, hv, hbg, hlt, hc⟩ := h.block hz
    exact ⟨_, cap, hv, fun i z hi => ⟨g, rfl, hbg, hc i z hi⟩⟩
theorem ownI_kept {W W' : World} {B : Nat} {v : Value} {zs : List Int} {row : Option Nat} (hg : W.grownBy W' row) (hr : ∀ r, row = some r → r < B) (h : OwnI W B v zs) : OwnI W' B v zs := by
  rcases h.2 with h1 | ⟨g, cap, cur, hv, hb, hh, hrest⟩
  · exact ⟨h.1, .inl h1⟩
  · exact ⟨h.1, .inr ⟨g, cap, cur, hv, hb, heap_kept hg hh (fun e => by have := hr g e.symm; omega), hrest⟩⟩
theorem grown_far {w W W' : World} {row row2 : Option Nat} (h : w.grownBy W row) (k : W.grownBy W' row2) (hr : ∀ r, row2 = some r → w.heap.size ≤ r) : w.grownBy W' row :=
  ⟨k.os.trans h.os, k.tape.trans h.tape, k.output.trans h.output, Nat.le_trans h.size k.size, fun i hi hne => (k.block i (Nat.lt_of_lt_of_le hi h.size) (fun e => by have := hr i e.symm; omega)).trans (h.block i hi hne)⟩
theorem rk_shape {W : World} {rb : Nat} {L : List P30.En} (h : Rk W rb L) (n : Nat) (hn : L.length = n) : ∃ ao cap, W.heap[rb]? = some (.cells #[.slice ao n cap] 29) ∧ RdE W rb (.slice ao n cap) L := by
  subst hn
  obtain ⟨v, hv, hr⟩ := h
  obtain ⟨ao, cap, rfl, _⟩ := id hr
  exact ⟨ao, cap, hv, hr⟩
/-- the clock at world W holds R; R's cells are as they were at world w -/
def RkI (w W : World) (rb : Nat) (R : List P30.En) : Prop := ∃ ao cap, W.heap[rb]? = some (.cells #[.slice ao R.length cap] 29) ∧ RdE w rb (.slice ao R.length cap) R
theorem RkI.rk {w W : World} {rb : Nat} {R : List P30.En} (h : RkI w W rb R) (hg : w.grownBy W (some rb)) : Rk W rb R := by
  obtain ⟨ao, cap, hv, hr⟩ := h
  exact ⟨_, hv, hr.kept hg (fun g h1 _ e => h1 (by cases e; rfl))⟩
set_option maxRecDepth 100000 in
set_option maxHeartbeats 1600000 in
theorem RDue_any (rb : Nat) (L : List P30.En) (now : Int) (w : World) (hc : Rk w rb L) (hlen : L.length ≤ 1000000) :
    Calls Try.prog 14 #[.pointer (some ⟨rb, 0, none⟩), .int .i64 now] w fun e w' => ∃ v, e = .returned v ∧ RdI w' w.heap.size v ((P30.due L now).map (·.1)) ∧ Rk w' rb (P30.rest L now) ∧ w.grownBy w' (some rb) := by
  obtain ⟨B, hB⟩ : ∃ B, w.heap.size = B := ⟨_, rfl⟩
  have hrb : rb < B := by
    obtain ⟨v, hv, _⟩ := hc
    have := cell_lt (one_cell hv).1
    omega
  rw [hB]
  have HB := hide hB
  have HR0 : Hid (RkI w w rb L) := hide (by obtain ⟨ao, cap, hv, hr⟩ := rk_shape hc L.length rfl; exact ⟨ao, cap, hv, hr⟩)
  obtain ⟨D, hD⟩ : ∃ D, (P30.due L now).map (·.1) = D := ⟨_, rfl⟩
  obtain ⟨E, hE⟩ : ∃ E, P30.rest L now = E := ⟨_, rfl⟩
  rw [hD, hE]
  have HD0 : Hid ([] ++ (P30.due L now).map (·.1) = D) := hide (by rw [hD]; rfl)
  have HE0 := hide hE
  clear hc hD hE hB
  go_enter Try.func14, Try.ntmps14
  go_wp2
  go_loopg [5] L.length (fun g s5 wx => ∃ (R : List P30.En) (m : Nat) (vo : Option Addr) (vc : Nat) (zs : List Int), R.length = g ∧ R.length + m ≤ 1000000 ∧ s5 = .slice vo m vc ∧ Hid (zs.length = m) ∧ Hid (OwnI wx B (.slice vo m vc) zs) ∧ Hid (zs ++ (P30.due R now).map (·.1) = D) ∧ Hid (P30.rest R now = E) ∧ Hid (RkI w wx rb R) ∧ Hid (w.grownBy wx (some rb)))
  case atStart => exact ⟨L, 0, none, 0, [], rfl, by omega, rfl, hide rfl, hide (World.ownsRow_nil _ _ _ _), HD0, HE0, HR0, hide (grown_drew w 0 _)⟩
  case round =>
    obtain ⟨R, m, vo, vc, zs, hRl, hmx, rfl, HM, HO, HD, HE, HR, HG⟩ := hrel
    obtain ⟨ao, cap, hv, hrd⟩ := unhide HR
    have HRK := hide ((unhide HR).rk (unhide HG))
    cases R with
    | nil =>
      obtain ⟨c1, f1⟩ := one_cell hv
      simp only [List.length_nil] at c1
      have hd := unhide HD
      have he := unhide HE
      have hz : zs = D := by rw [← hd]; simp [P30.due]
      have hn : ([] : List P30.En) = E := he
      rw [hz] at HO
      rw [hn] at HRK
      clear hd he hz hn hv hrd
      go_wp2
      go_ret
      exact ⟨_, rfl, ownI_rd (unhide HO), unhide HRK, unhide HG⟩
    | cons p R =>
      obtain ⟨k0, a0⟩ := p
      obtain ⟨n, hn⟩ : ∃ n, R.length = n := ⟨_, rfl⟩
      rw [List.length_cons, hn] at hv hrd
      rw [List.length_cons, hn] at hRl hmx
      obtain ⟨c1, f1⟩ := one_cell hv
      obtain ⟨ao', cap', he9, hle, hcm, hcl⟩ := hrd.kept (unhide HG) (fun g h1 _ e => h1 (by cases e; rfl))
      subst hRl
      injection he9 with he9 hz1 hz2
      subst he9 hz2
      obtain ⟨g, o, rfl, hg, q1, q2⟩ := hcl 0 _ rfl
      simp only [Nat.zero_mul, Nat.add_zero] at q1 q2
      clear hz1 hcl
      by_cases ha : a0 ≤ now
      · have d1 : decide (a0 ≤ now) = true := decide_eq_true ha
        have hd := unhide HD
        have he := unhide HE
        have e1 : P30.due ((k0, a0) :: R) now = (k0, a0) :: P30.due R now := by unfold P30.due; rw [List.takeWhile_cons_of_pos (by simpa using ha)]
        have e2 : P30.rest ((k0, a0) :: R) now = P30.rest R now := by unfold P30.rest; rw [List.dropWhile_cons_of_pos (by simpa using ha)]
        rw [e1, List.map_cons] at hd
        rw [e2] at he
        have HD2 : Hid ((zs ++ [k0]) ++ (P30.due R now).map (·.1) = D) := hide (by rw [List.append_assoc]; exact hd)
        have HE2 := hide he
        have HN := hide hn
        have HV := hide hv
        have HRD := hide hrd
        have hle2 : n + 1 ≤ cap := by have : ((k0, a0) :: R).length = n + 1 := by rw [List.length_cons, hn]
                                      omega
        have hlI : ((n : Int) + 1) ≤ (cap : Int) := by omega
        have h1I : (1 : Int) ≤ (n : Int) + 1 := by omega
        clear hd he e1 e2 hn hv hrd hle HD HE
        have hsz : B ≤ wr.heap.size := by have := (unhide HG).size; rw [unhide HB] at this; exact this
        have hOX : Hid (OwnI (wr.alloc (.cells #[.int .i64 k0] 3)) B (.slice vo m vc) zs) := hide (World.ownsRow.alloc (unhide HO) _)
        have hNX := hide (one_cell (World.alloc_heap_new wr (.cells #[.int .i64 k0] 3))).1
        have hBX : B ≤ (wr.alloc (.cells #[.int .i64 k0] 3)).heap.size := by rw [World.size_alloc]; omega
        have hzl : zs.length + 1 ≤ 10000000 := by rw [unhide HM]; omega
        have hga := World.grownBy_alloc wr (.cells #[.int .i64 k0] 3) none
        have HGA := hide hga
        clear hga
        go_upto_region 4 with (at_builtin; refine wpList_appInt1 rfl _ _ rfl rfl (unhide hOX) wr.heap.size 1 rfl (unhide hNX) hzl hBX ?_; intro g2 cap2 w2 hown2 hgrow2; rw [unhide HM])
        have hgw := grown_far ((unhide HG).trans (World.grownBy_alloc wr (.cells #[.int .i64 k0] 3) (some rb))) hgrow2 (fun r e => by rw [unhide HB]; exact (World.ownsRow.lt (unhide hOX) r e).1)
        have hrw : wr.grownBy w2 (Value.slice vo m vc).ownBlock := (World.grownBy_alloc wr (.cells #[.int .i64 k0] 3) _).trans hgrow2
        have hnr : some rb ≠ (Value.slice vo m vc).ownBlock := fun e => by have := (World.ownsRow.lt (unhide hOX) rb e.symm).1; omega
        have hv2 := heap_kept hrw (unhide HV) hnr
        obtain ⟨c3, f3⟩ := one_cell hv2
        have HGW := hide hgw
        have HV2 := hide hv2
        have HO2 := hide hown2
        clear hgw hv2 hown2 hgrow2 hrw hnr c1 f1 q1 q2
        by_cases hcap : cap = 1
        · subst hcap
          have hn0 : n = 0 := by omega
          subst hn0
          have HR0 := hide (List.length_eq_zero_iff.1 (unhide HN))
          go_wp2
          go_roundg 0
          case measure => omega
          case rel =>
            refine ⟨R, m + 1, _, _, zs ++ [k0], unhide HN, by rw [unhide HN]; omega, rfl, hide (by rw [List.length_append, unhide HM]; rfl), hide ?_, HD2, HE2, hide ?_, hide ((unhide HGW).trans (grown_setCell _ _ _ _))⟩
            · have h1 := unhide HO2
              rw [unhide HM] at h1
              exact ownI_kept (grown_setCell _ _ _ _) (fun r e => by cases e; exact hrb) h1
            · have h1 := unhide HR0
              subst h1
              exact ⟨_, _, one_setCell (unhide HV2), RdE.nil (by decide)⟩
        · go_wp2
          go_roundg n
          case measure => omega
          case rel =>
            refine ⟨R, m + 1, _, _, zs ++ [k0], unhide HN, by rw [unhide HN]; omega, rfl, hide (by rw [List.length_append, unhide HM]; rfl), hide ?_, HD2, HE2, hide ?_, hide ((unhide HGW).trans (grown_setCell _ _ _ _))⟩
            · have h1 := unhide HO2
              rw [unhide HM] at h1
              exact ownI_kept (grown_setCell _ _ _ _) (fun r e => by cases e; exact hrb) h1
            · unfold RkI
              rw [unhide HN]
              exact ⟨_, _, one_setCell (unhide HV2), (unhide HRD).cut (unhide HN)⟩
      · have d1 : decide (a0 ≤ now) = false := decide_eq_false ha
        have hd := unhide HD
        have he := unhide HE
        have e1 : P30.due ((k0, a0) :: R) now = [] := by unfold P30.due; rw [List.takeWhile_cons_of_neg (by simpa using ha)]
        have e2 : P30.rest ((k0, a0) :: R) now = (k0, a0) :: R := by unfold P30.rest; rw [List.dropWhile_cons_of_neg (by simpa using ha)]
        rw [e1] at hd
        rw [e2] at he
        have hz : zs = D := by rw [← hd]; simp
        rw [hz] at HO
        rw [he] at HRK
        clear hd he hz e1 e2 hv hrd hle hn
        go_wp2
        go_ret
        exact ⟨_, rfl, ownI_rd (unhide HO), unhide HRK, unhide HG⟩
end Go.Proofs.Ytbnheebblicgkaa
