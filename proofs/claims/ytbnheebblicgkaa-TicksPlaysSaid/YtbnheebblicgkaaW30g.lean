/- walk of layer 30's law TicksOnce -/
import Derived.Test.YtbnheebblicgkaaOpen30
import Derived.Laws.MakeOwn
namespace Go.Proofs.Ytbnheebblicgkaa
set_option linter.unusedVariables false
set_option linter.unusedSimpArgs false
open Go.RowKit Go.Maps Go.Shelf Go.Sort
theorem boolInfo : (Try.prog.info? 4).map (fun i => (i.zero, i.size, i.bytes)) = some (some (.bool false), 1, 1) := by kernel_rfl
def bools (n : Nat) : Array Value := madeCells (Value.bool false).cells (n * 1)
theorem bools_tl (W : World) (n : Nat) : Tl (W.alloc (.cells (bools n) 4)) W.heap.size n (fun _ => false) := Tl.made W n
theorem make_bools (n : Nat) (hn : n ≤ 60) (w : World) : (Instr.makeSlice 45 (.int .i64 (n : Int)) (.int .i64 (n : Int))).run Try.prog w = .ok (.slice (some ⟨w.heap.size, 0, none⟩) n n) (w.alloc (.cells (bools n) 4)) := by
  obtain ⟨i, hi, hz⟩ := Option.map_eq_some_iff.1 boolInfo
  simp only [Prod.mk.injEq] at hz
  obtain ⟨hz0, hz1, hz2⟩ := hz
  have hr := run_make (P := Try.prog) w 45 4 i (.bool false) Try.underlying45 hi hz0 .i64 .i64 (n : Int) (n : Int) (by omega) (by omega) (by rw [hz2]; omega) (by omega)
  rw [hz1] at hr
  simp only [Int.toNat_natCast] at hr
  exact hr
theorem cell_stays {h g o : Nat} {w W : World} {v : Value} (hb : Below h w W) (hg : g < h) (hc : w.cell? ⟨g, o, none⟩ = some v) : W.cell? ⟨g, o, none⟩ = some v := by
  rw [← hc]
  unfold World.cell?
  rw [hb.block g hg]
theorem grown_drew (W : World) (n : Nat) (row : Option Nat) : W.grownBy (W.drewN n) row := ⟨rfl, rfl, rfl, Nat.le_refl _, fun _ _ _ => rfl⟩
theorem grown_setCell (W : World) (g j : Nat) (v : Value) : W.grownBy (W.setCell ⟨g, j, none⟩ v) (some g) :=
  ⟨rfl, rfl, rfl, Nat.le_of_eq (World.size_setCell ..).symm, fun i _ hi => Below.heap_setCell W _ _ _ (fun e => hi (by rw [e]))⟩
set_option maxRecDepth 100000 in
set_option maxHeartbeats 3200000 in
theorem TicksOnce_any (va : Value) (A : List Int) (vn : Value) (N : List Int) (w : World) (ha : RdO w w.heap.size va A) (hw : ∀ z ∈ A, (Lit.int .i64 z).wf = true) (hn : RdO w w.heap.size vn N) (_ : ∀ z ∈ N, (Lit.int .i64 z).wf = true) : Calls Try.prog 4 #[va, vn] w fun e w' => e = .returned (.bool true) ∧ Below w.heap.size w w' := by
  obtain ⟨ao, cap, rfl, hca⟩ := ha
  obtain ⟨no, cap2, rfl, hcn⟩ := hn
  obtain ⟨h, hh⟩ : ∃ h, w.heap.size = h := ⟨_, rfl⟩
  rw [hh] at hca hcn ⊢
  obtain ⟨na, hna⟩ : ∃ n, A.length = n := ⟨_, rfl⟩
  obtain ⟨nn, hnn⟩ : ∃ n, N.length = n := ⟨_, rfl⟩
  rw [hna, hnn]
  have HCA := hide hca
  have HCN := hide hcn
  have HW := hide hw
  have HNA := hide hna
  have HNN := hide hnn
  clear hca hcn hw hna hnn
  go_enter Try.func4, Try.ntmps4
  go_upto_region 3 with (go_at_call 6; refine (live30_any _).mono ?_; rintro e W1 ⟨rfl, hb1⟩)
  rw [hh] at hb1
  have z1 : h ≤ W1.heap.size := by have := hb1.size; omega
  by_cases hbig : 60 < na
  · have d1 : decide (60 < (na : Int)) = true := decide_eq_true (by omega)
    go_wp2
    go_ret
    exact ⟨rfl, hb1⟩
  by_cases hbig2 : 60 < nn
  · have d1 : decide (60 < (na : Int)) = false := decide_eq_false (by omega)
    have d2 : decide (60 < (nn : Int)) = true := decide_eq_true (by omega)
    go_wp2
    go_ret
    exact ⟨rfl, hb1⟩
  have d1 : decide (60 < (na : Int)) = false := decide_eq_false (by omega)
  have d2 : decide (60 < (nn : Int)) = false := decide_eq_false (by omega)
  go_upto_region 6 with (go_at_call 7; refine (New_any _).mono ?_; rintro e W0 ⟨rfl, hc0, hg0, hf0⟩)
  obtain ⟨m, hm⟩ : ∃ m, W1.heap.size = m := ⟨_, rfl⟩
  have b0 : Below h w W0 := hb1.grown hg0 z1 (fun k e => by cases e)
  have z0 : h ≤ W0.heap.size := Nat.le_trans z1 hg0.size
  rw [hm] at hc0 z1
  try rw [hm]
  clear hg0 hf0 hm hb1 hh d1 d2
  go_wp2
  go_loopg [6] na (fun g s6 wx => ∃ (i : Nat) (L : List P30.En), i + g = na ∧ s6 = .int .i64 (i : Int) ∧ Ck wx (m + 1) m L ∧ Hid (P30.Ok L) ∧ L.length ≤ i ∧ Hid (P30.Of A L) ∧ Hid (∀ k : Nat, k < i → (P30.look L (k : Int)).isSome = true) ∧ Below h w wx ∧ h ≤ wx.heap.size)
  case atStart => exact ⟨0, [], by omega, by go_num, hc0, hide P30.ok_nil, by simp, hide (P30.of_nil A), hide (fun k h1 => by omega), b0, z0⟩
  case round =>
    obtain ⟨i, L, hig, rfl, hck, HOK, hlen, HOF, HS, hb, hz⟩ := hrel
    cases gk with
    | zero =>
      have e1 : (i : Int) = (na : Int) := by omega
      have hmk := make_bools na (by omega)
      obtain ⟨gt, hgt⟩ : ∃ gt, wr.heap.size = gt := ⟨_, rfl⟩
      have hm1 : m + 1 < gt := by have := cell_lt hck.cell; omega
      have hck1 := hck.kept (World.grownBy_alloc wr (.cells (bools na) 4) none) (by simp) (by simp)
      have hT0 := bools_tl wr na
      have hb1 : Below h w (wr.alloc (.cells (bools na) 4)) := below_alloc2 hb hz _
      have hz1 := World.size_alloc wr (.cells (bools na) 4)
      rw [hgt] at hT0 hz1
      have htl : ∀ k, k < na → P30.tl L [] k = (fun _ => false) k := by
        intro k hk
        have hs := unhide HS k (by omega)
        unfold P30.tl
        cases hl : P30.look L (k : Int) with
        | none => rw [hl] at hs; cases hs
        | some x => rfl
      have HT := hide (hT0.same htl)
      have HCK := hide hck1
      have HB := hide hb1
      have HZ := hide hz1
      have hzg : h ≤ gt := by omega
      have hl60 : L.length ≤ 60 := by omega
      clear hT0 hck1 hb1 hz1 htl hck hb hz hig hlen HS
      go_wp2
      clear hgt hmk e1
      go_loopg [8] nn (fun g s8 wx => ∃ (n : Nat) (L : List P30.En), n + g = nn ∧ s8 = .int .i64 (n : Int) ∧ Ck wx (m + 1) m L ∧ Hid (P30.Ok L) ∧ L.length ≤ 60 ∧ Hid (P30.Of A L) ∧ Tl wx gt na (P30.tl L []) ∧ Below h w wx ∧ gt < wx.heap.size)
      case atStart => exact ⟨0, L, by omega, by go_num, unhide HCK, HOK, hl60, HOF, unhide HT, unhide HB, by rw [unhide HZ]; omega⟩
      case round =>
        clear HOK hl60 HOF HT HB HZ HCK
        obtain ⟨n, L, hng, rfl, hck, HOK, hlen, HOF, hT, hb, hz⟩ := hrel
        cases gk with
        | zero =>
          have e1 : (n : Int) = (nn : Int) := by omega
          go_wp2
          go_ret
          exact ⟨rfl, hb⟩
        | succ g' =>
          have hlt : (n : Int) < (nn : Int) := by omega
          have hki : IntKind.i64.wrap ((n : Int) + 1) = (n : Int) + 1 := IntWalk.i64_in _ (by omega)
          have hnl : n < N.length := by rw [unhide HNN]; omega
          have hgl : N[n]? = some N[n] := List.getElem?_eq_getElem hnl
          generalize N[n] = nw at hgl
          obtain ⟨gn, on, rfl, hgn, c0⟩ := unhide HCN n nw hgl
          have c1 := cell_stays hb hgn c0
          have hm2 := cell_lt hck.cell
          obtain ⟨B, hB⟩ : ∃ B, wr.heap.size = B := ⟨_, rfl⟩
          have HD := hide (Due_any (m + 1) m L nw wr hck (unhide HOK) (by omega))
          obtain ⟨ks, hks⟩ : ∃ ks, (P30.due L nw).map (·.1) = ks := ⟨_, rfl⟩
          rw [hB, hks] at HD
          have HKS := hide hks
          have HC0 := hide c0
          rw [hB] at hz
          have hzh : h ≤ wr.heap.size := by omega
          clear hks hgl hB
          go_upto_region 18 with (go_at_call 13; refine (unhide HD).mono ?_; rintro e W2 ⟨v2, rfl, hr2, hck2, hg2⟩)
          have hT2 := hT.kept hg2 (fun e => by cases e; omega)
          have hb2 := hb.grown hg2 hzh (fun k e => by cases e; exact z1)
          have hs2 : h ≤ W2.heap.size := Nat.le_trans hzh hg2.size
          clear hg2 hck hT hb c1 c0 hzh
          obtain ⟨lo, lc, rfl, hcl⟩ := hr2
          obtain ⟨nk, hnk⟩ : ∃ nk, ks.length = nk := ⟨_, rfl⟩
          rw [hnk]
          have HNK := hide hnk
          have HCL := hide hcl
          have HT2 := hide hT2
          have HB2 := hide hb2
          have HS2 := hide hs2
          have HCK2 := hide hck2
          have hnk60 : nk ≤ 60 := by rw [← hnk, ← unhide HKS, List.length_map]; exact Nat.le_trans (List.takeWhile_sublist _).length_le hlen
          clear hnk hcl hT2 hb2 hs2 hck2
          go_wp2
          go_loopg [10] nk (fun g s10 wy => ∃ k : Nat, k + g = nk ∧ s10 = .int .i64 (k : Int) ∧ W2.grownBy wy (some gt) ∧ Tl wy gt na (P30.tl L (ks.take k)))
          case atStart => exact ⟨0, by omega, by go_num, grown_drew W2 0 _, unhide HT2⟩
          case round =>
            obtain ⟨k, hkg, rfl, hgy, hTy⟩ := hrel
            have hby : Below h w wr := (unhide HB2).grown hgy (unhide HS2) (fun k e => by cases e; exact hzg)
            have hsy : h ≤ wr.heap.size := Nat.le_trans (unhide HS2) hgy.size
            cases gk with
            | zero =>
              have e1 : (k : Int) = (nk : Int) := by omega
              have hend : ∀ i, i < na → P30.tl (P30.rest L nw) [] i = P30.tl L (ks.take k) i := by
                intro i _
                rw [List.take_of_length_le (by rw [unhide HNK]; omega), ← unhide HKS]
                exact (P30.tl_end (unhide HOK) nw i).symm
              have hTe := hTy.same hend
              have hcke := (unhide HCK2).kept hgy (fun e => by cases e; omega) (fun e => by cases e; omega)
              have HTE := hide hTe
              have HCKE := hide hcke
              have HBY := hide hby
              have hge : gt < wr.heap.size := by
                obtain ⟨arr, q1, _⟩ := hTe
                rcases Nat.lt_or_ge gt wr.heap.size with h | h
                · exact h
                · rw [Array.getElem?_eq_none h] at q1; cases q1
              have HGE := hide hge
              have HOK2 := hide (P30.rest_ok (unhide HOK) nw)
              have HOF2 := hide (P30.of_rest (unhide HOF) nw)
              have hl2 : (P30.rest L nw).length ≤ 60 := Nat.le_trans (P30.rest_le L nw) hlen
              clear hTe hcke hby hge hend hgy hTy hkg
              go_wp2
              clear e1
              go_loopg [11] na (fun g s11 wz => ∃ i2 : Nat, i2 + g = na ∧ s11 = .int .i64 (i2 : Int) ∧ wr.grownBy wz none)
              case atStart => exact ⟨0, by omega, by go_num, grown_drew wr 0 _⟩
              case round =>
                obtain ⟨i2, hig2, rfl, hgz⟩ := hrel
                have hTz := (unhide HTE).kept hgz (by simp)
                have hbz := (unhide HBY).grown hgz (Nat.le_trans hzg (Nat.le_of_lt (unhide HGE))) (fun k e => by cases e)
                cases gk with
                | zero =>
                  have e2 : (i2 : Int) = (na : Int) := by omega
                  have HTZ := hide hTz
                  have HBZ := hide hbz
                  clear hTz hbz
                  go_wp2
                  go_roundg g'
                  case measure => omega
                  case rel => exact ⟨n + 1, P30.rest L nw, by omega, by go_num, (unhide HCKE).kept hgz (by simp) (by simp), HOK2, hl2, HOF2, unhide HTZ, unhide HBZ, Nat.lt_of_lt_of_le (unhide HGE) hgz.size⟩
                | succ gj =>
                  have hlt2 : (i2 : Int) < (na : Int) := by omega
                  have hki2 : IntKind.i64.wrap ((i2 : Int) + 1) = (i2 : Int) + 1 := IntWalk.i64_in _ (by omega)
                  have hil : i2 < A.length := by rw [unhide HNA]; omega
                  have hgl : A[i2]? = some A[i2] := List.getElem?_eq_getElem hil
                  generalize A[i2] = a at hgl
                  obtain ⟨ga, oa, rfl, hga, q2⟩ := unhide HCA i2 a hgl
                  have c2 := cell_stays hbz hga q2
                  have c3 := cell_stays hbz hgn (unhide HC0)
                  have c4 := hTz.cell (i := i2) (by omega)
                  clear q2 hTz hbz
                  by_cases hle : a ≤ nw
                  · have d1 : decide (a ≤ nw) = true := decide_eq_true hle
                    rw [P30.tl_check (unhide HOK) (unhide HOF) hgl hle] at c4
                    clear hgl hil
                    go_wp2
                    go_quiet (fail)
                    go_wp2
                    go_roundg gj
                    case measure => omega
                    case rel => exact ⟨i2 + 1, by omega, by go_num, hgz.trans (grown_drew _ _ _)⟩
                  · have d1 : decide (a ≤ nw) = false := decide_eq_false hle
                    clear hgl hil c4
                    go_wp2
                    go_quiet (fail)
                    go_wp2
                    go_roundg gj
                    case measure => omega
                    case rel => exact ⟨i2 + 1, by omega, by go_num, hgz.trans (grown_drew _ _ _)⟩
            | succ gk' =>
              have hltk : (k : Int) < (nk : Int) := by omega
              have hkk : IntKind.i64.wrap ((k : Int) + 1) = (k : Int) + 1 := IntWalk.i64_in _ (by omega)
              obtain ⟨j, a, hj, ha, han, hjl, htl⟩ := P30.due_keys (unhide HOK) (unhide HOF) nw (k := k) (by rw [unhide HKS, unhide HNK]; omega)
              rw [unhide HKS] at hj htl
              obtain ⟨g1, rfl, hg1, q1⟩ := unhide HCL k _ hj
              obtain ⟨ga, oa, rfl, hga, q2⟩ := unhide HCA j a ha
              have hjn : (j : Int) < (na : Int) := by rw [unhide HNA] at hjl; omega
              have hjn2 : j < na := by omega
              have c1 := cell_kept hgy q1 (fun e => by cases e; omega)
              have c2 := cell_stays hby hga q2
              have c3 := cell_stays hby hgn (unhide HC0)
              have c4 := hTy.cell hjn2
              rw [htl] at c4
              have d1 : decide ((j : Int) < 0) = false := decide_eq_false (by omega)
              have d2 : decide ((na : Int) ≤ (j : Int)) = false := decide_eq_false (by omega)
              have d3 : decide (nw < a) = false := decide_eq_false (by omega)
              have HJ := hide hj
              have HA := hide ha
              have HQ1 := hide q1
              have HQ2 := hide q2
              have HTY := hide hTy
              have HBY := hide hby
              have HGY := hide hgy
              clear hj ha q1 q2 hTy hby hgy htl hjl
              go_wp2
              go_quiet (fail)
              have f4 : (wr.drewN nq).frozen? ⟨gt, j, none⟩ = false := (unhide HTY).frozen j
              have c4' : (wr.drewN nq).cell? ⟨gt, j, none⟩ = some (.bool false) := c4
              have c1' : (wr.drewN nq).cell? ⟨g1, k, none⟩ = some (.int .i64 (j : Int)) := c1
              clear c1 c2 c3 c4
              go_upto_region 24 with fail
              obtain ⟨V, hV⟩ : ∃ V, (wr.drewN nq).setCell ⟨gt, j, none⟩ (.bool true) = V := ⟨_, rfl⟩
              rw [hV]
              have hgv : W2.grownBy V (some gt) := by rw [← hV]; exact ((unhide HGY).trans (grown_drew wr nq _)).trans (grown_setCell _ _ _ _)
              have hbv : Below h w V := (unhide HB2).grown hgv (unhide HS2) (fun k e => by cases e; exact hzg)
              have hTv : Tl V gt na (P30.tl L (ks.take (k + 1))) := by rw [← hV]; exact ((unhide HTY).kept (grown_drew wr nq none) (by simp)).set hjn2 (fun i hi => P30.tl_succ (unhide HJ) i)
              have HGV := hide hgv
              have HTV := hide hTv
              clear hTv hV f4 c4' c1' d1 d2 d3
              by_cases hk0 : k = 0
              · have d0 : decide (0 < (k : Int)) = false := decide_eq_false (by omega)
                clear hgv hbv
                go_quiet (fail)
                go_wp2
                go_roundg gk'
                case measure => omega
                case rel => exact ⟨k + 1, by omega, by go_num, (unhide HGV).trans (grown_drew _ _ _), (unhide HTV).kept (grown_drew _ _ none) (by simp)⟩
              · obtain ⟨k', hk'⟩ : ∃ k', k = k' + 1 := ⟨k - 1, by omega⟩
                have d0 : decide (0 < (k : Int)) = true := decide_eq_true (by omega)
                have d00 : decide (0 < k) = true := decide_eq_true (by omega)
                have p0 : 0 < k := by omega
                have hkm : IntKind.i64.wrap ((k : Int) - 1) = (k' : Int) := by rw [IntWalk.i64_in _ (by omega)]; omega
                have hkn : (k' : Int) < (nk : Int) := by omega
                obtain ⟨j', a', hj', ha', _, hjl', _⟩ := P30.due_keys (unhide HOK) (unhide HOF) nw (k := k') (by rw [unhide HKS, unhide HNK]; omega)
                have hord := P30.due_order (unhide HOK) (unhide HOF) nw (k := k') (i := j') (j := j) hj' (by rw [unhide HKS, ← hk']; exact unhide HJ) ha' (unhide HA)
                rw [unhide HKS] at hj'
                obtain ⟨g1', e9, _, q1'⟩ := unhide HCL k' _ hj'
                obtain ⟨ga', oa', e8, _, q2'⟩ := unhide HCA j' a' ha'
                injection e9 with e9
                injection e9 with e9 _ _
                injection e8 with e8
                injection e8 with e8 e7 _
                subst e9 e8 e7
                have hjn' : (j' : Int) < (na : Int) := by rw [unhide HNA] at hjl'; omega
                have c1 := cell_kept hgv (unhide HQ1) (fun e => by cases e; omega)
                have c2 := cell_stays hbv hga (unhide HQ2)
                have c3 := cell_kept hgv q1' (fun e => by cases e; omega)
                have c4 := cell_stays hbv hga q2'
                have HK' := hide hk'
                clear hj' ha' q1' q2' hjl' hgv hbv hk'
                rcases hord with hlt | ⟨heq, hlt⟩
                · have d5 : decide (a < a') = false := decide_eq_false (by omega)
                  have d6 : decide (a' = a) = false := decide_eq_false (by omega)
                  have d7 : (a' == a) = false := by simpa using (show a' ≠ a by omega)
                  clear hlt
                  go_quiet (fail)
                  go_wp2
                  go_roundg gk'
                  case measure => omega
                  case rel => exact ⟨k + 1, by omega, by go_num, (unhide HGV).trans (grown_drew _ _ _), (unhide HTV).kept (grown_drew _ _ none) (by simp)⟩
                · subst heq
                  have d5 : decide (a' < a') = false := decide_eq_false (by omega)
                  have d6 : decide ((j : Int) ≤ (j' : Int)) = false := decide_eq_false (by omega)
                  have d66 : decide (j ≤ j') = false := decide_eq_false (by omega)
                  have d7 : (a' == a') = true := by simp
                  clear hlt
                  go_quiet (fail)
                  go_wp2
                  go_roundg gk'
                  case measure => omega
                  case rel => exact ⟨k + 1, by omega, by go_num, (unhide HGV).trans (grown_drew _ _ _), (unhide HTV).kept (grown_drew _ _ none) (by simp)⟩
    | succ g' =>
      have hlt : (i : Int) < (na : Int) := by omega
      have hki : IntKind.i64.wrap ((i : Int) + 1) = (i : Int) + 1 := IntWalk.i64_in _ (by omega)
      have hiw : (Lit.int .i64 (i : Int)).wf = true := WalkArith.wf_i64 (by omega)
      have hil : i < A.length := by rw [unhide HNA]; omega
      have hgl : A[i]? = some A[i] := List.getElem?_eq_getElem hil
      have haw := unhide HW _ (List.getElem_mem hil)
      generalize A[i] = a at hgl haw
      have hfull := full_lt (L := L) (by omega) (i : Int)
      have hra := RdO.below (w := w) (v := .slice ao A.length cap) ⟨ao, cap, rfl, unhide HCA⟩ hb
      obtain ⟨_, _, he, hca⟩ := hra
      injection he with he1 he2 he3
      subst he1 he3
      obtain ⟨g, o, rfl, hg, c1⟩ := hca i a hgl
      have hc := fun w hck => Set_to (m + 1) m L _ (i : Int) a true w hck (unhide HOK) hiw haw (by omega) (by rw [hfull]; rfl) rfl
      have HOK2 := hide (P30.set_ok (unhide HOK) (i : Int) a)
      have hl2 := P30.set_le (a := a) (unhide HOK) hfull
      have HOF2 := hide (P30.of_set (unhide HOF) hgl hfull)
      have hs2 : ∀ k : Nat, k < i + 1 → (P30.look (P30.set L (i : Int) a) (k : Int)).isSome = true := by
        intro k hk
        rw [P30.look_set hfull]
        by_cases hki : (k : Int) = (i : Int)
        · rw [if_pos hki]; rfl
        · rw [if_neg hki]; exact unhide HS k (by omega)
      have HS2 := hide hs2
      have HC := hide hc
      have HL2 := hide (Nat.le_trans hl2 (Nat.succ_le_succ hlen))
      clear hgl haw hfull hca hc hl2 hs2 hil hlen
      go_wp2_with (go_at_call 8; refine (unhide HC _ hck).mono ?_; rintro e w2 ⟨rfl, hck2, hg2⟩)
      go_roundg g'
      case measure => omega
      case rel => exact ⟨i + 1, _, by omega, by go_num, hck2, HOK2, unhide HL2, HOF2, HS2, hb.grown hg2 hz (fun k e => by cases e; exact z1), Nat.le_trans hz hg2.size⟩
end Go.Proofs.Ytbnheebblicgkaa
