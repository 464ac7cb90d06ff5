/- walk of layer 30's law TicksPlays -/
import Derived.Test.YtbnheebblicgkaaOpen30b
import Derived.Deep.CutRange
import Derived.Deep.CutBlock
import Derived.Deep.RegionWith
import Derived.Deep.RegionHeld3
namespace Go.Proofs.Ytbnheebblicgkaa
set_option linter.unusedVariables false
set_option linter.unusedSimpArgs false
open Go.RowKit Go.Maps Go.Shelf Go.Sort
theorem Rk.far {W W' : World} {rb : Nat} {L : List P30.En} (h : Rk W rb L) (hg : W.grownBy W' none) : Rk W' rb L := h.kept hg (by simp) (by simp)
theorem Ck.far {W W' : World} {sb bm : Nat} {L : List P30.En} (h : Ck W sb bm L) (hg : W.grownBy W' none) : Ck W' sb bm L := h.kept hg (by simp) (by simp)
/-- Set, behind draws -/
theorem Set_at (sb bm rb : Nat) (L : List P30.En) (k a : Int) (h : Nat) (w0 w w1 : World) (hgq : w.grownBy w1 none) (hc : Ck w sb bm L) (hr : Rk w rb L) (hok : P30.Ok L) (hk : (Lit.int .i64 k).wf = true) (ha : (Lit.int .i64 a).wf = true) (hl : L.length ≤ 1000000) (hb : Below h w0 w) (hz : h ≤ w.heap.size) (hm : h ≤ bm) :
    Calls Try.prog 8 #[.pointer (some ⟨sb, 0, none⟩), .int .i64 k, .int .i64 a] w1 fun e w' => e = .returned (.bool (!P30.full L k)) ∧ Ck w' sb bm (P30.set L k a) ∧ Rk w' rb L ∧ Below h w0 w' ∧ h ≤ w'.heap.size := by
  have hcq : Ck w1 sb bm L := hc.far hgq
  refine (Set_any sb bm L k a _ hcq hok hk ha hl).mono ?_
  rintro e w' ⟨rfl, h1, h2⟩
  exact ⟨rfl, h1, (hr.far hgq).kept_map hcq.map h2, (hb.grown hgq hz (fun k e => by cases e)).grown h2 (Nat.le_trans hz hgq.size) (fun k e => by cases e; exact hm), Nat.le_trans hz (Nat.le_trans hgq.size h2.size)⟩
theorem RSet_at (sb bm rb : Nat) (L M : List P30.En) (k a : Int) (h : Nat) (w0 w w1 : World) (hgq : w.grownBy w1 none) (hc : Ck w sb bm M) (hr : Rk w rb L) (hok : P30.Ok L) (hl : L.length ≤ 1000000) (hb : Below h w0 w) (hz : h ≤ w.heap.size) (h1 : sb ≠ rb) (h2 : bm ≠ rb) (h3 : h ≤ rb) :
    Calls Try.prog 9 #[.pointer (some ⟨rb, 0, none⟩), .int .i64 k, .int .i64 a] w1 fun e w' => e = .returned (.bool (!P30.full L k)) ∧ Rk w' rb (P30.set L k a) ∧ Ck w' sb bm M ∧ Below h w0 w' ∧ h ≤ w'.heap.size := by
  have hrq : Rk w1 rb L := hr.far hgq
  refine (RSet_any rb L k a _ hrq hok hl).mono ?_
  rintro e w' ⟨rfl, h4, h5⟩
  exact ⟨rfl, h4, (hc.far hgq).kept h5 (fun e => by cases e; exact h1 rfl) (fun e => by cases e; exact h2 rfl), (hb.grown hgq hz (fun k e => by cases e)).grown h5 (Nat.le_trans hz hgq.size) (fun k e => by cases e; exact h3), Nat.le_trans hz (Nat.le_trans hgq.size h5.size)⟩
theorem Unset_at (sb bm rb : Nat) (L : List P30.En) (k : Int) (h : Nat) (w0 w w1 : World) (hgq : w.grownBy w1 none) (hc : Ck w sb bm L) (hr : Rk w rb L) (hok : P30.Ok L) (hk : (Lit.int .i64 k).wf = true) (hb : Below h w0 w) (hz : h ≤ w.heap.size) (hm : h ≤ bm) :
    Calls Try.prog 10 #[.pointer (some ⟨sb, 0, none⟩), .int .i64 k] w1 fun e w' => e = .returned (.bool (P30.look L k).isSome) ∧ Ck w' sb bm (P30.unset L k) ∧ Rk w' rb L ∧ Below h w0 w' ∧ h ≤ w'.heap.size := by
  have hcq : Ck w1 sb bm L := hc.far hgq
  refine (Unset_any sb bm L k _ hcq hok hk).mono ?_
  rintro e w' ⟨rfl, h1, h2⟩
  exact ⟨rfl, h1, (hr.far hgq).kept_map hcq.map h2, (hb.grown hgq hz (fun k e => by cases e)).grown h2 (Nat.le_trans hz hgq.size) (fun k e => by cases e; exact hm), Nat.le_trans hz (Nat.le_trans hgq.size h2.size)⟩
theorem RUnset_at (sb bm rb : Nat) (L M : List P30.En) (k : Int) (h : Nat) (w0 w w1 : World) (hgq : w.grownBy w1 none) (hc : Ck w sb bm M) (hr : Rk w rb L) (hok : P30.Ok L) (hl : L.length ≤ 1000000) (hb : Below h w0 w) (hz : h ≤ w.heap.size) (h1 : sb ≠ rb) (h2 : bm ≠ rb) (h3 : h ≤ rb) :
    Calls Try.prog 11 #[.pointer (some ⟨rb, 0, none⟩), .int .i64 k] w1 fun e w' => e = .returned (.bool (P30.look L k).isSome) ∧ Rk w' rb (P30.unset L k) ∧ Ck w' sb bm M ∧ Below h w0 w' ∧ h ≤ w'.heap.size := by
  have hrq : Rk w1 rb L := hr.far hgq
  refine (RUnset_any rb L k _ hrq hok hl).mono ?_
  rintro e w' ⟨rfl, h4, h5⟩
  exact ⟨rfl, h4, (hc.far hgq).kept h5 (fun e => by cases e; exact h1 rfl) (fun e => by cases e; exact h2 rfl), (hb.grown hgq hz (fun k e => by cases e)).grown h5 (Nat.le_trans hz hgq.size) (fun k e => by cases e; exact h3), Nat.le_trans hz (Nat.le_trans hgq.size h5.size)⟩
theorem Due_at (sb bm rb : Nat) (L : List P30.En) (now : Int) (zs : List Int) (L2 : List P30.En) (hzs : (P30.due L now).map (·.1) = zs) (hL2 : P30.rest L now = L2) (h : Nat) (w0 w w1 : World) (hgq : w.grownBy w1 none) (hc : Ck w sb bm L) (hr : Rk w rb L) (hok : P30.Ok L) (hl : L.length ≤ 1000000) (hb : Below h w0 w) (hz : h ≤ w.heap.size) (hm : h ≤ bm) :
    Calls Try.prog 13 #[.pointer (some ⟨sb, 0, none⟩), .int .i64 now] w1 fun e w' => ∃ v B, e = .returned v ∧ RdI w' B v zs ∧ rb < B ∧ Ck w' sb bm L2 ∧ Rk w' rb L ∧ Below h w0 w' ∧ h ≤ w'.heap.size := by
  subst hzs hL2
  have hcq : Ck w1 sb bm L := hc.far hgq
  refine (Due_any sb bm L now _ hcq hok hl).mono ?_
  rintro e w' ⟨v, rfl, hv, h1, h2⟩
  exact ⟨v, _, rfl, hv, (hr.far hgq).lt, h1, (hr.far hgq).kept_map hcq.map h2, (hb.grown hgq hz (fun k e => by cases e)).grown h2 (Nat.le_trans hz hgq.size) (fun k e => by cases e; exact hm), Nat.le_trans hz (Nat.le_trans hgq.size h2.size)⟩
theorem RDue_at (sb bm rb : Nat) (L M : List P30.En) (now : Int) (zs : List Int) (L2 : List P30.En) (hzs : (P30.due L now).map (·.1) = zs) (hL2 : P30.rest L now = L2) (h : Nat) (w0 w w1 : World) (hgq : w.grownBy w1 none) (v0 : Value) (B0 : Nat) (hv0 : RdI w B0 v0 zs) (hB0 : rb < B0) (hc : Ck w sb bm M) (hr : Rk w rb L) (hl : L.length ≤ 1000000) (hb : Below h w0 w) (hz : h ≤ w.heap.size) (h1 : sb ≠ rb) (h2 : bm ≠ rb) (h3 : h ≤ rb) :
    Calls Try.prog 14 #[.pointer (some ⟨rb, 0, none⟩), .int .i64 now] w1 fun e w' => ∃ v B, e = .returned v ∧ RdI w' B v zs ∧ RdI w' B0 v0 zs ∧ Rk w' rb L2 ∧ Ck w' sb bm M ∧ Below h w0 w' ∧ h ≤ w'.heap.size := by
  subst hzs hL2
  have hrq : Rk w1 rb L := hr.far hgq
  refine (RDue_any rb L now _ hrq hl).mono ?_
  rintro e w' ⟨v, rfl, hv, h4, h5⟩
  exact ⟨v, _, rfl, hv, (hv0.grow hgq).kept h5 (fun r e => by cases e; exact hB0), h4, (hc.far hgq).kept h5 (fun e => by cases e; exact h1 rfl) (fun e => by cases e; exact h2 rfl), (hb.grown hgq hz (fun k e => by cases e)).grown h5 (Nat.le_trans hz hgq.size) (fun k e => by cases e; exact h3), Nat.le_trans hz (Nat.le_trans hgq.size h5.size)⟩
theorem P30.set_le2 (L : List P30.En) (k a : Int) (hok : P30.Ok L) : (P30.set L k a).length ≤ L.length + 1 := by
  cases hf : P30.full L k with
  | true => unfold P30.set; rw [hf]; simp
  | false => exact P30.set_le hok hf
set_option maxRecDepth 100000 in
set_option maxHeartbeats 3200000 in
theorem TicksPlays_any (va : Value) (A : List (Int × Int × Int)) (who : Int) (w : World) (ha : RdA w w.heap.size va A) (hw : ∀ z ∈ A, AskOk z) (hwho : (Lit.int .i64 who).wf = true) : Calls Try.prog 3 #[va, .int .i64 who] w fun e w' => e = .returned (.bool true) ∧ Below w.heap.size w w' := by
  obtain ⟨ao, cap, rfl, hca⟩ := ha
  obtain ⟨h, hh⟩ : ∃ h, w.heap.size = h := ⟨_, rfl⟩
  rw [hh] at hca ⊢
  obtain ⟨na, hna⟩ : ∃ n, A.length = n := ⟨_, rfl⟩
  rw [hna]
  have HCA := hide hca
  have HW := hide hw
  have HNA := hide hna
  clear hca hw hna
  go_enter Try.func3, Try.ntmps3
  go_upto_region 3 with (go_at_call 6; refine (live30_any _).mono ?_; rintro e W1 ⟨rfl, hb1⟩)
  rw [hh] at hb1
  have z1 : h ≤ W1.heap.size := by have := hb1.size; omega
  by_cases hbig : 100 < na
  · have d1 : decide (100 < (na : Int)) = true := decide_eq_true (by omega)
    go_wp2
    go_ret
    exact ⟨rfl, hb1⟩
  have d1 : decide (100 < (na : Int)) = false := decide_eq_false (by omega)
  go_upto_region 6 with (go_at_call 7; refine (New_any _).mono ?_; rintro e W0 ⟨rfl, hc0, hg0, hf0⟩)
  obtain ⟨m, hm⟩ : ∃ m, W1.heap.size = m := ⟨_, rfl⟩
  have b0 : Below h w W0 := hb1.grown hg0 z1 (fun k e => by cases e)
  have z0 : h ≤ W0.heap.size := Nat.le_trans z1 hg0.size
  rw [hm] at hc0 z1
  try rw [hm]
  clear hg0 hf0 hm hb1 hh d1
  obtain ⟨rb, hrb⟩ : ∃ rb, W0.heap.size = rb := ⟨_, rfl⟩
  have hmr : m + 1 < rb := by have := cell_lt hc0.cell; omega
  have HX := hide (World.alloc_heap_new W0 (.cells #[.slice none 0 0] 29))
  have HC0 := hide (hc0.far (World.grownBy_alloc W0 (.cells #[.slice none 0 0] 29) none))
  have HB0 := hide (below_alloc2 b0 z0 (.cells #[.slice none 0 0] 29))
  have HZ0 := hide (World.size_alloc W0 (.cells #[.slice none 0 0] 29))
  rw [hrb] at HX HZ0 z0
  clear hc0 b0
  go_wp2
  obtain ⟨V, hVe⟩ : ∃ V, W0.alloc (.cells #[.slice none 0 0] 29) = V := ⟨_, rfl⟩
  rw [hVe] at HX HC0 HB0 HZ0 ⊢
  clear hVe hrb
  have HR0 : Hid (Rk V rb []) := hide ⟨_, unhide HX, RdE.nil (by decide)⟩
  go_loopg [7] na (fun g s7 wx => ∃ (i : Nat) (L : List P30.En), i + g = na ∧ s7 = .int .i64 (i : Int) ∧ Hid (Ck wx (m + 1) m L) ∧ Hid (Rk wx rb L) ∧ Hid (P30.Ok L) ∧ L.length ≤ i ∧ Below h w wx ∧ h ≤ wx.heap.size)
  case atStart => exact ⟨0, [], by omega, by go_num, HC0, HR0, hide P30.ok_nil, by simp, unhide HB0, by rw [unhide HZ0]; omega⟩
  case round =>
    clear HX HC0 HB0 HZ0 HR0
    obtain ⟨i, L, hig, rfl, HCK, HRK, HOK, hlen, hb, hz⟩ := hrel
    cases gk with
    | zero =>
      have e1 : (i : Int) = (na : Int) := by omega
      go_wp2
      go_ret
      exact ⟨rfl, hb⟩
    | succ g' =>
      have hlt : (i : Int) < (na : Int) := by omega
      have hki : IntKind.i64.wrap ((i : Int) + 1) = (i : Int) + 1 := IntWalk.i64_in _ (by omega)
      have hil : i < A.length := by rw [unhide HNA]; omega
      have hgl : A[i]? = some A[i] := List.getElem?_eq_getElem hil
      have haw := unhide HW _ (List.getElem_mem hil)
      generalize A[i] = z at hgl haw
      obtain ⟨kd, wh, tk⟩ := z
      obtain ⟨hw1, hw2⟩ := haw
      obtain ⟨g, o, rfl, hg, q1, q2, q3⟩ := unhide HCA i _ hgl
      have c1 := cell_stays hb hg q1
      have Q2 := hide q2
      have Q3 := hide q3
      have hl6 : L.length ≤ 1000000 := by omega
      clear hgl q1 q2 q3 hil
      go_upto_block 2 with fail
      go_cut [7] from 24 to 170 (fun s7 wx => s7 = .int .i64 (i : Int) ∧ ∃ L2, Hid (Ck wx (m + 1) m L2) ∧ Hid (Rk wx rb L2) ∧ Hid (P30.Ok L2) ∧ L2.length ≤ i + 1 ∧ Below h w wx ∧ h ≤ wx.heap.size)
      case first =>
        have c2 := cell_stays hb hg (unhide Q2)
        have c3 := cell_stays hb hg (unhide Q3)
        by_cases hk0 : kd = 0
        · subst hk0
          go_upto_region 16 with fail
          have HS := hide (fun W hg => Set_at (m + 1) m rb L wh tk h w wr W hg (unhide HCK) (unhide HRK) (unhide HOK) hw1 hw2 hl6 hb hz z1)
          have HRS := hide (fun W W1 hg M hc hr hb hz => RSet_at (m + 1) m rb L M wh tk h w W W1 hg hc hr (unhide HOK) hl6 hb hz (by omega) (by omega) (by omega))
          obtain ⟨bf, hbf⟩ : ∃ b, (!P30.full L wh) = b := ⟨_, rfl⟩
          rw [hbf] at HS HRS
          go_region_held3 (fun w' => w'.cell? ⟨g, o + i * 3 + 1, none⟩ = some (.int .i64 wh) ∧ w'.cell? ⟨g, o + i * 3 + 2, none⟩ = some (.int .i64 tk)) (first | exact ⟨c2, c3⟩ | exact ⟨c28, c38⟩ | exact ⟨c29, c39⟩) (first
            | (have hq := hz8; clear hq; go_at_call 9; ((refine (unhide HRS w8 _ (by first | exact grown_drew w8 0 none | exact grown_drew w8 1 none) _ hck8 hrk8 hb8 hz8).mono ?_)); rintro e w9 ⟨rfl, hrk9, hck9, hb9, hz9⟩; have c29 := cell_stays hb9 hg (unhide Q2); have c39 := cell_stays hb9 hg (unhide Q3))
            | (go_at_call 8; ((refine (unhide HS _ (by first | exact grown_drew wr 1 none | exact grown_drew wr 0 none)).mono ?_)); rintro e w8 ⟨rfl, hck8, hrk8, hb8, hz8⟩; have c28 := cell_stays hb8 hg (unhide Q2); have c38 := cell_stays hb8 hg (unhide Q3)))
          have hbb : (bf != bf) = false := by cases bf <;> rfl
          have HCK2 := hide hck9
          have HRK2 := hide hrk9
          have HOK2 := hide (P30.set_ok (unhide HOK) wh tk)
          have hl2 := P30.set_le2 L wh tk (unhide HOK)
          clear hck9 hrk9 hck8 hrk8 hbf
          go_wp2
          go_meet
          exact ⟨rfl, _, HCK2, HRK2, HOK2, by omega, hb9, hz9⟩
        by_cases hk1 : kd = 1
        · subst hk1
          clear hk0
          go_upto_region 19 with fail
          have HS := hide (fun W hg => Unset_at (m + 1) m rb L wh h w wr W hg (unhide HCK) (unhide HRK) (unhide HOK) hw1 hb hz z1)
          have HRS := hide (fun W W1 hg M hc hr hb hz => RUnset_at (m + 1) m rb L M wh h w W W1 hg hc hr (unhide HOK) hl6 hb hz (by omega) (by omega) (by omega))
          obtain ⟨bf, hbf⟩ : ∃ b, (P30.look L wh).isSome = b := ⟨_, rfl⟩
          rw [hbf] at HS HRS
          go_region_held3 (fun w' => w'.cell? ⟨g, o + i * 3 + 1, none⟩ = some (.int .i64 wh) ∧ w'.cell? ⟨g, o + i * 3 + 2, none⟩ = some (.int .i64 tk)) (first | exact ⟨c2, c3⟩ | exact ⟨c28, c38⟩ | exact ⟨c29, c39⟩) (first
            | (have hq := hz8; clear hq; go_at_call 11; ((refine (unhide HRS w8 _ (by first | exact grown_drew w8 0 none | exact grown_drew w8 1 none) _ hck8 hrk8 hb8 hz8).mono ?_)); rintro e w9 ⟨rfl, hrk9, hck9, hb9, hz9⟩; have c29 := cell_stays hb9 hg (unhide Q2); have c39 := cell_stays hb9 hg (unhide Q3))
            | (go_at_call 10; ((refine (unhide HS _ (by first | exact grown_drew wr 1 none | exact grown_drew wr 0 none)).mono ?_)); rintro e w8 ⟨rfl, hck8, hrk8, hb8, hz8⟩; have c28 := cell_stays hb8 hg (unhide Q2); have c38 := cell_stays hb8 hg (unhide Q3)))
          have hbb : (bf != bf) = false := by cases bf <;> rfl
          have HCK2 := hide hck9
          have HRK2 := hide hrk9
          have HOK2 := hide (P30.unset_ok (unhide HOK) wh)
          have hl2 : (P30.unset L wh).length ≤ L.length := List.length_filter_le _ _
          clear hck9 hrk9 hck8 hrk8 hbf
          go_wp2
          go_meet
          exact ⟨rfl, _, HCK2, HRK2, HOK2, by omega, hb9, hz9⟩
        · have d0 : decide (kd = 0) = false := decide_eq_false hk0
          have d1 : decide (kd = 1) = false := decide_eq_false hk1
          have d2 : (kd == 0) = false := by simpa using hk0
          have d3 : (kd == 1) = false := by simpa using hk1
          go_upto_region 13 with fail
          obtain ⟨zs, hzs⟩ : ∃ zs, (P30.due L tk).map (·.1) = zs := ⟨_, rfl⟩
          obtain ⟨L2, hL2⟩ : ∃ L2, P30.rest L tk = L2 := ⟨_, rfl⟩
          have hzl : zs.length ≤ 100000000 := by rw [← hzs, List.length_map]; have := (List.takeWhile_sublist (fun p : P30.En => decide (p.2 ≤ tk)) (l := L)).length_le; exact Nat.le_trans this (by omega)
          have hl2 : L2.length ≤ L.length := by rw [← hL2]; exact P30.rest_le L tk
          have HOK2 := hide (show P30.Ok L2 by rw [← hL2]; exact P30.rest_ok (unhide HOK) tk)
          have HS := hide (fun W hg => Due_at (m + 1) m rb L tk zs L2 hzs hL2 h w wr W hg (unhide HCK) (unhide HRK) (unhide HOK) hl6 hb hz z1)
          have HRS := hide (fun W W1 hg v0 B0 hv0 hB0 M hc hr hb hz => RDue_at (m + 1) m rb L M tk zs L2 hzs hL2 h w W W1 hg v0 B0 hv0 hB0 hc hr hl6 hb hz (by omega) (by omega) (by omega))
          clear hzs hL2
          go_region_held3 (fun w' => w'.cell? ⟨g, o + i * 3 + 1, none⟩ = some (.int .i64 wh) ∧ w'.cell? ⟨g, o + i * 3 + 2, none⟩ = some (.int .i64 tk)) (first | exact ⟨c2, c3⟩ | exact ⟨c28, c38⟩ | exact ⟨c29, c39⟩) (first
            | (have hq := hz9; clear hq; go_at_call 12; ((refine (Same26_any v8 v9 zs B8 B9 _ (by first | exact hv89 | exact hv89.grow (grown_drew w9 1 none)) (by first | exact hv9 | exact hv9.grow (grown_drew w9 1 none)) hzl).mono ?_)); rintro e w10 ⟨rfl, q10, hw10⟩; subst hw10)
            | (have hq := hz8; clear hq; go_at_call 14; ((refine (unhide HRS w8 _ (by first | exact grown_drew w8 0 none | exact grown_drew w8 1 none) v8 B8 hv8 hB8 _ hck8 hrk8 hb8 hz8).mono ?_)); rintro e w9 ⟨v9, B9, rfl, hv9, hv89, hrk9, hck9, hb9, hz9⟩; have c29 := cell_stays hb9 hg (unhide Q2); have c39 := cell_stays hb9 hg (unhide Q3))
            | (go_at_call 13; ((refine (unhide HS _ (by first | exact grown_drew wr 1 none | exact grown_drew wr 0 none)).mono ?_)); rintro e w8 ⟨v8, B8, rfl, hv8, hB8, hck8, hrk8, hb8, hz8⟩; have c28 := cell_stays hb8 hg (unhide Q2); have c38 := cell_stays hb8 hg (unhide Q3)))
          have HCK2 := hide (hck9.far (grown_drew w9 q10 none))
          have HRK2 := hide (hrk9.far (grown_drew w9 q10 none))
          have hbq : Below h w (w9.drewN q10) := hb9.grown (grown_drew w9 q10 none) hz9 (fun k e => by cases e)
          clear hck9 hrk9 hck8 hrk8 hv8 hv9 hv89
          go_wp2
          go_meet
          exact ⟨rfl, _, HCK2, HRK2, HOK2, by omega, hbq, hz9⟩
      case rest =>
        obtain ⟨rfl, L2, HC2, HR2, HOK2, hl2, hb2, hz2⟩ := hcut
        have hl7 : L2.length ≤ 1000000 := by omega
        have hA := At_any (m + 1) m L2 who wc (unhide HC2) hwho
        have hRA := RAt_any rb L2 who wc (unhide HR2) hl7
        have hNX := Next_any (m + 1) m L2 wc (unhide HC2) (unhide HOK2)
        obtain ⟨av, hav⟩ : ∃ a, P30.atOf L2 who = a := ⟨_, rfl⟩
        obtain ⟨bv, hbv⟩ : ∃ b, (P30.look L2 who).isSome = b := ⟨_, rfl⟩
        rw [hav, hbv] at hA hRA
        have x1 : (av != av) = false := by simp
        have x2 : (bv != bv) = false := by cases bv <;> rfl
        clear hav hbv
        cases L2 with
        | nil =>
          simp only [P30.next] at hNX
          have HA := hide hA
          have HRA := hide hRA
          have HNX := hide hNX
          clear hA hRA hNX
          go_upto_region 24 with (first
            | (go_at_call 17; refine (unhide HNX).mono ?_; rintro e w5 ⟨rfl, hg5⟩)
            | (go_at_call 16; refine (unhide HRA).mono ?_; rintro e w4 ⟨rfl, rfl⟩)
            | (go_at_call 15; refine (unhide HA).mono ?_; rintro e w3 ⟨rfl, rfl⟩))
          have hck5 := (unhide HC2).far hg5
          have hrk5 := (unhide HR2).far hg5
          obtain ⟨ao5, cap5, hv5, hrd5⟩ := rk_shape hrk5 0 rfl
          obtain ⟨c5, f5⟩ := one_cell hv5
          have HCK5 := hide hck5
          have HRK5 := hide hrk5
          have hb5 := hb2.grown hg5 hz2 (fun k e => by cases e)
          have hz5 := Nat.le_trans hz2 hg5.size
          clear hv5 hrd5 hrk5
          go_quiet ((go_at_call 18; exact Calls.quiet_of_same (Len_any (m + 1) m [] _ (hck5.far (grown_drew _ _ none)))))
          go_wp2
          go_roundg g'
          case measure => omega
          case rel => exact ⟨i + 1, [], by omega, by go_num, hide ((unhide HCK5).far (grown_drew _ _ none)), hide ((unhide HRK5).far (grown_drew _ _ none)), HOK2, hl2, hb5.grown (grown_drew _ _ none) hz5 (fun k e => by cases e), hz5⟩
        | cons p R =>
          obtain ⟨k0, a0⟩ := p
          simp only [P30.next] at hNX
          have HA := hide hA
          have HRA := hide hRA
          have HNX := hide hNX
          obtain ⟨nn, hnn⟩ : ∃ n, ((k0, a0) :: R).length = n := ⟨_, rfl⟩
          have hpos : 0 < nn := by rw [← hnn]; simp
          have d0 : decide (0 < (nn : Int)) = true := decide_eq_true (by omega)
          have d00 : decide (0 < nn) = true := decide_eq_true hpos
          have hposI : (0 : Int) < (nn : Int) := by omega
          have x3 : (a0 != a0) = false := by simp
          have x4 : ((nn : Int) != (nn : Int)) = false := by simp
          have HNN := hide hnn
          clear hA hRA hNX hnn
          go_upto_region 24 with (first
            | (go_at_call 17; refine (unhide HNX).mono ?_; rintro e w5 ⟨rfl, hg5⟩)
            | (go_at_call 16; refine (unhide HRA).mono ?_; rintro e w4 ⟨rfl, rfl⟩)
            | (go_at_call 15; refine (unhide HA).mono ?_; rintro e w3 ⟨rfl, rfl⟩))
          have hck5 := (unhide HC2).far hg5
          have hrk5 := (unhide HR2).far hg5
          obtain ⟨ao5, cap5, hv5, hrd5⟩ := rk_shape hrk5 nn (unhide HNN)
          obtain ⟨c5, f5⟩ := one_cell hv5
          obtain ⟨ao6, cap6, he6, _, _, hcl6⟩ := id hrd5
          injection he6 with he6 hz6 hz7
          subst he6
          clear hz6 hz7
          obtain ⟨g5, o5, rfl, _, q5, q6⟩ := hcl6 0 _ rfl
          simp only [Nat.zero_mul, Nat.add_zero] at q5 q6
          have HLEN := hide (fun W hg => Len_any (m + 1) m ((k0, a0) :: R) W (hck5.far hg))
          rw [unhide HNN] at HLEN
          have HCK5 := hide hck5
          have HRK5 := hide hrk5
          have hb5 := hb2.grown hg5 hz2 (fun k e => by cases e)
          have hz5 := Nat.le_trans hz2 hg5.size
          clear hv5 hrd5 hrk5 hcl6 hck5
          go_quiet ((go_at_call 18; exact Calls.quiet_of_same (unhide HLEN _ (grown_drew _ _ none))))
          go_wp2
          go_roundg g'
          case measure => omega
          case rel => exact ⟨i + 1, (k0, a0) :: R, by omega, by go_num, hide ((unhide HCK5).far (grown_drew _ _ none)), hide ((unhide HRK5).far (grown_drew _ _ none)), HOK2, hl2, hb5.grown (grown_drew _ _ none) hz5 (fun k e => by cases e), hz5⟩
end Go.Proofs.Ytbnheebblicgkaa
