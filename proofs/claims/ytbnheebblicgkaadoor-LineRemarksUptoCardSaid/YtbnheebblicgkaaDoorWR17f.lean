/- walk of LineJoins -/
import Derived.Test.YtbnheebblicgkaaDoorPlainL17b
namespace Go.Proofs.YtbnheebblicgkaaDoor
set_option linter.unusedVariables false
set_option linter.unusedSimpArgs false
open Go.RowKit Go.Shelf
theorem bytes_ext {a b : ByteArray} (h : a.data.toList = b.data.toList) : a = b := by
  obtain ⟨x⟩ := a
  obtain ⟨y⟩ := b
  congr 1
  exact Array.toList_inj.1 h
theorem faultBox (W : World) (r1 r2 : Int) : (W.alloc (.cells #[.int .i64 r1, .int .i64 r2] 26)).cell? ⟨W.heap.size, 0, none⟩ = some (.int .i64 r1) := (two_cell0 (World.alloc_heap_new W _)).1
theorem RdL.alloc {w : World} {v : Value} {rs : List (Int × Int × ByteArray)} (h : RdL w w.heap.size v rs) (o : Obj) : RdL (w.alloc o) (w.alloc o).heap.size v rs := h.below ((Below.refl _ w).alloc (Nat.le_refl _) o) (by simp)
theorem rs_take {rs : List (Int × Int × ByteArray)} {i : Nat} {r : Int × Int × ByteArray} (h : rs[i]? = some r) : joinT (rs.take (i + 1)) = joinT (rs.take i) ++ joinRow r := (joinT_take rs i r h).1
theorem append_data (a b : ByteArray) : (a ++ b).data.toList = a.data.toList ++ b.data.toList := by rw [ByteArray.data_append, Array.toList_append]
theorem lineAll_back (s : List UInt8) (b : ByteArray) (W : World) (h0 : (check17 s).1 = 0) (hs : s.length ≤ 2000) (hc : ∀ r ∈ rows17 s, r.2.1 ≤ 100) (hb : b.data.toList = joinT ((rows17 s).map castR)) :
    Calls Tryd.prog 11 #[.string b] W fun e w' => ∃ v, e = .returned (.tuple #[v, .agg #[.int .i64 0, .int .i64 0]]) ∧ OwnL w' W.heap.size 39 v (renum 0 (rows17 s)) ∧ Below W.heap.size W w' := by
  have h1 := join_short hs
  obtain ⟨h2, h3⟩ := join_back h0 hc (by omega)
  refine (lineAll_any b W (by rw [Lib.size_eq, hb]; omega)).mono ?_
  rintro e w' ⟨v, rfl, ho, hbl⟩
  rw [hb, h2, if_pos rfl, h3] at ho
  rw [hb, h2]
  exact ⟨v, rfl, ho, hbl⟩
set_option maxRecDepth 100000 in
set_option maxHeartbeats 3200000 in
theorem LineJoins_any (s : ByteArray) (v : Value) (rs : List (Int × Int × ByteArray)) (w : World) (hv : RdL w w.heap.size v rs) :
    Calls Tryd.prog 4 #[.string s, v] w fun e w' => e = .returned (.bool true) ∧ Below w.heap.size w w' := by
  obtain ⟨ao, cap, rfl, hcell⟩ := id hv
  have HV := hide hv
  have HC := hide hcell
  clear hcell hv
  obtain ⟨n, hn⟩ : ∃ n, rs.length = n := ⟨_, rfl⟩
  rw [hn] at HV ⊢
  have HN := hide hn
  clear hn
  by_cases hs : s.size ≤ 2000
  rotate_left
  · have hs2 : (2000 : Int) < (s.size : Int) := by omega
    go_enter Tryd.func4, Tryd.ntmps4
    go_wp2_with (go_at_call 10; refine (live_any _).mono ?_; rintro e W0 ⟨rfl, hb0⟩)
    go_ret
    exact ⟨rfl, hb0⟩
  by_cases hn20 : n ≤ 20
  rotate_left
  · have hn2 : (20 : Int) < (n : Int) := by omega
    have hs2 : (s.size : Int) ≤ 2000 := by omega
    go_enter Tryd.func4, Tryd.ntmps4
    go_wp2_with (go_at_call 10; refine (live_any _).mono ?_; rintro e W0 ⟨rfl, hb0⟩)
    go_ret
    exact ⟨rfl, hb0⟩
  have hn2 : (n : Int) ≤ 20 := by omega
  have hs2 : (s.size : Int) ≤ 2000 := by omega
  go_enter Tryd.func4, Tryd.ntmps4
  go_wp2_with (go_at_call 10; refine (live_any _).mono ?_; rintro e W0 ⟨rfl, hb0⟩)
  go_loopg [5, 6] n (fun g s5 s6 wx => ∃ (i : Nat) (b : ByteArray), i + g = n ∧ s6 = .int .i64 i ∧ s5 = .string b ∧ Hid (b.data.toList = joinT (rs.take i)) ∧ b.size ≤ i * 301 ∧ W0 = wx)
  case atStart => exact ⟨0, ⟨#[]⟩, by omega, by go_num, rfl, hide rfl, Nat.zero_le _, rfl⟩
  case round =>
    obtain ⟨i, b, hig, rfl, rfl, HB, hbs, rfl⟩ := hrel
    cases gk with
    | zero =>
      have e1 : (n : Int) = (i : Int) := by omega
      have HB2 := hide (show b.data.toList = joinT rs by rw [unhide HB, List.take_of_length_le (by rw [unhide HN]; omega)])
      have hjl : (joinT rs).length ≤ 100000000 := by rw [← unhide HB2, ← Lib.size_eq]; omega
      have HRS := hide ((unhide HV).below hb0 hb0.size)
      clear HB hbs
      obtain ⟨⟨r1, r2⟩, hR⟩ : ∃ R, check17 s.data.toList = R := ⟨_, rfl⟩
      obtain ⟨RS, hrs⟩ : ∃ RS, (if (check17 s.data.toList).1 = 0 then rows17 s.data.toList else []) = RS := ⟨_, rfl⟩
      have hA := fun W => lineAll_any s W (by omega)
      simp only [hrs] at hA
      simp only [hR] at hA hrs
      by_cases hr1 : r1 = 0
      rotate_left
      · have hrne : (r1 != 0) = true := by simpa using hr1
        rw [if_neg hr1] at hrs
        subst hrs
        have HA := hide hA
        clear hA hR hr1
        go_wp2_with (first
          | (go_at_call 18; refine (Join_any _ rs _ (unhide HRS) hjl).mono ?_; rintro e W1 ⟨ob, rfl, HO, hb1⟩; obtain rfl : ob = b := bytes_ext ((unhide HO).trans (unhide HB2).symm); have hb01 : Below w.heap.size w W1 := hb0.trans (hb1.mono hb0.size); clear HO)
          | (go_at_call 11; refine (unhide HA _).mono ?_; rintro e W2 ⟨v2, rfl, ho2, hb2⟩; unfold faultV; have hb02 : Below w.heap.size w W2 := hb01.trans (hb2.mono hb01.size); have hbx := faultBox W2 r1 r2; obtain ⟨bo, cap2, rfl, hcb⟩ := rdl_of_own ho2; rw [List.length_map, List.length_nil]; clear hcb))
        go_ret
        exact ⟨rfl, hb02.alloc hb02.size _⟩
      subst hr1
      have h00 : (check17 s.data.toList).1 = 0 := by rw [hR]
      rw [if_pos rfl] at hrs
      have hlen : s.data.toList.length ≤ 2000 := by rw [← Lib.size_eq]; exact hs
      have hback := fun b2 W hc hb => lineAll_back s.data.toList b2 W h00 hlen hc hb
      have hjs := join_short hlen
      rw [hrs] at hback hjs
      obtain ⟨m, hm⟩ : ∃ m, RS.length = m := ⟨_, rfl⟩
      have hml : m ≤ 4000 := by
        have h1 := joinT_len (RS.map castR)
        rw [List.length_map] at h1
        omega
      have HA := hide hA
      have HBK := hide hback
      have HJS := hide hjs
      clear hA hR hrs h00 hlen hback hjs
      go_wp2_with (first
        | (go_at_call 18; refine (Join_any _ rs _ (unhide HRS) hjl).mono ?_; rintro e W1 ⟨ob, rfl, HO, hb1⟩; obtain rfl : ob = b := bytes_ext ((unhide HO).trans (unhide HB2).symm); have hb01 : Below w.heap.size w W1 := hb0.trans (hb1.mono hb0.size); clear HO)
        | (go_at_call 11; refine (unhide HA _).mono ?_; rintro e W2 ⟨v2, rfl, ho2, hb2⟩; unfold faultV; have hb02 : Below w.heap.size w W2 := hb01.trans (hb2.mono hb01.size); have hbx := faultBox W2 0 r2; have HR2 := hide (rdl_of_own ho2); obtain ⟨bo, cap2, rfl, hcb⟩ := id (unhide HR2); rw [List.length_map, hm]; clear hcb))
      obtain ⟨W3, hW3⟩ : ∃ W3, W2.alloc (.cells #[.int .i64 0, .int .i64 r2] 26) = W3 := ⟨_, rfl⟩
      have HR3 : Hid (RdL W3 W3.heap.size (.slice bo m cap2) (RS.map castR)) := hide (by rw [← hW3, ← hm, ← List.length_map (f := castR)]; exact (unhide HR2).alloc _)
      have hb03 : Below w.heap.size w W3 := by rw [← hW3]; exact hb02.alloc hb02.size _
      rw [hW3]
      clear hbx hW3 HR2 ho2
      have HM := hide hm
      clear hm
      go_loopg [10] m (fun g s10 wx => ∃ i2 : Nat, i2 + g = m ∧ s10 = .int .i64 i2 ∧ Hid (∀ j r, j < i2 → RS[j]? = some r → r.2.1 ≤ 100) ∧ W3 = wx)
      case atStart => exact ⟨0, by omega, by go_num, hide (fun j r hj => absurd hj (Nat.not_lt_zero _)), rfl⟩
      case round =>
        obtain ⟨i2, hig2, rfl, HL, rfl⟩ := hrel
        cases gk with
        | zero =>
          have e2 : (m : Int) = (i2 : Int) := by omega
          have HCC := hide (show ∀ r ∈ RS, r.2.1 ≤ 100 from fun r hr => by
            obtain ⟨j, hj, rfl⟩ := List.mem_iff_getElem.1 hr
            exact unhide HL j _ (by have := unhide HM; omega) (List.getElem?_eq_getElem hj))
          have hjl2 : (joinT (RS.map castR)).length ≤ 100000000 := by have := unhide HJS; omega
          clear HL
          go_wp2_with (first
            | (go_at_call 18; refine (Join_any _ (RS.map castR) _ (unhide HR3) hjl2).mono ?_; rintro e W4 ⟨b4, rfl, HB4, hb4⟩; have hb04 : Below w.heap.size w W4 := hb03.trans (hb4.mono hb03.size))
            | (go_at_call 11; refine (unhide HBK b4 _ (unhide HCC) (unhide HB4)).mono ?_; rintro e W5 ⟨v5, rfl, ho5, hb5⟩; have hb05 : Below w.heap.size w W5 := hb04.trans (hb5.mono hb04.size); have hbx5 := faultBox W5 0 0; have HR5 := hide (rdl_of_own ho5); obtain ⟨bo5, cap5, rfl, hcb5⟩ := id (unhide HR5); rw [List.length_map, renum_len, unhide HM]; clear hcb5))
          obtain ⟨W6, hW6⟩ : ∃ W6, W5.alloc (.cells #[.int .i64 0, .int .i64 0] 26) = W6 := ⟨_, rfl⟩
          have hRb : Hid (RdL W6 W6.heap.size (.slice bo5 i2 cap5) ((renum 0 RS).map castR)) := hide (by
            have h1 : m = i2 := by omega
            rw [← hW6, ← h1, ← unhide HM, ← renum_len 0 RS, ← List.length_map (f := castR)]; exact (unhide HR5).alloc _)
          have hRa : Hid (RdL W6 W6.heap.size (.slice bo i2 cap2) (RS.map castR)) := hide (by
            have h1 : m = i2 := by omega
            rw [← hW6, ← h1]; exact ((((unhide HR3).below hb4 hb4.size).below hb5 hb5.size)).alloc _)
          have hb06 : Below w.heap.size w W6 := by rw [← hW6]; exact hb05.alloc hb05.size _
          rw [hW6]
          clear hbx5 hW6 HR5 ho5 hb4 hb5 hb04 hb05 HB4
          have HM2 := hide (show RS.length = i2 by have := unhide HM; omega)
          go_loopg [13] i2 (fun g s13 wx => ∃ i4 m4 : Nat, i4 + g = i2 ∧ s13 = .int .i64 i4 ∧ W6.drewN m4 = wx)
          case atStart => exact ⟨0, 0, by omega, by go_num, rfl⟩
          case round =>
            obtain ⟨i4, m4, hig4, rfl, rfl⟩ := hrel
            cases gk with
            | zero =>
              have e4 : (i2 : Int) = (i4 : Int) := by omega
              go_wp2
              go_ret
              exact ⟨rfl, below_drewN' hb06⟩
            | succ g4 =>
              have hlt4 : (i4 : Int) < (i2 : Int) := by omega
              have hki4 : IntKind.i64.wrap ((i4 : Int) + 1) = (i4 : Int) + 1 := IntWalk.i64_in _ (by omega)
              have hil4 : i4 < RS.length := by rw [unhide HM2]; omega
              have hgl4 : RS[i4]? = some RS[i4] := List.getElem?_eq_getElem hil4
              obtain ⟨⟨q1, q2, q3⟩, hq⟩ : ∃ r, RS[i4] = r := ⟨_, rfl⟩
              rw [hq] at hgl4
              have hga : (RS.map castR)[i4]? = some ((q1 : Int), (q2 : Int), (⟨q3.toArray⟩ : ByteArray)) := by rw [List.getElem?_map, hgl4]; rfl
              have hgb : ((renum 0 RS).map castR)[i4]? = some ((i4 : Int) + 1, (q2 : Int), (⟨q3.toArray⟩ : ByteArray)) := by
                rw [List.getElem?_map, renum_get, hgl4]
                show some ((((0 + i4 + 1 : Nat)) : Int), _, _) = _
                congr 2
                omega
              obtain ⟨_, _, hv1, hca⟩ := unhide hRa
              obtain ⟨_, _, hv2, hcb⟩ := unhide hRb
              injection hv1 with hv1a hv1b hv1c
              injection hv2 with hv2a hv2b hv2c
              clear hv1b hv2b
              subst hv1a
              subst hv2a
              subst hv1c
              subst hv2c
              obtain ⟨ga, oa, rfl, hga2, hc0, hc1, hc2⟩ := hca i4 _ hga
              obtain ⟨gb, ob5, rfl, hgb2, hd0, hd1, hd2⟩ := hcb i4 _ hgb
              obtain ⟨tb, htb⟩ : ∃ tb : ByteArray, (⟨q3.toArray⟩ : ByteArray) = tb := ⟨_, rfl⟩
              rw [htb] at hc2 hd2
              clear hgl4 hq hga hgb hca hcb htb
              go_wp2
              go_region
              go_wp2
              go_roundg g4
              case measure => omega
              case rel => exact ⟨i4 + 1, m4 + 1, by omega, by go_num, rfl⟩
        | succ g2 =>
          have hlt2 : (i2 : Int) < (m : Int) := by omega
          have hki2 : IntKind.i64.wrap ((i2 : Int) + 1) = (i2 : Int) + 1 := IntWalk.i64_in _ (by omega)
          have hil2 : i2 < RS.length := by rw [unhide HM]; omega
          have hgl2 : RS[i2]? = some RS[i2] := List.getElem?_eq_getElem hil2
          obtain ⟨⟨q1, q2, q3⟩, hq⟩ : ∃ r, RS[i2] = r := ⟨_, rfl⟩
          rw [hq] at hgl2
          have hga : (RS.map castR)[i2]? = some ((q1 : Int), (q2 : Int), (⟨q3.toArray⟩ : ByteArray)) := by rw [List.getElem?_map, hgl2]; rfl
          obtain ⟨_, _, hv1, hca⟩ := unhide HR3
          injection hv1 with hv1a hv1b hv1c
          clear hv1b
          subst hv1a
          subst hv1c
          obtain ⟨ga, oa, rfl, hga2, hc0, hc1, hc2⟩ := hca i2 _ hga
          have HGL := hide hgl2
          clear hgl2 hq hga hca hc0 hc2
          by_cases h100 : q2 ≤ 100
          · have h100' : (q2 : Int) ≤ 100 := by omega
            have HL2 := hide (show ∀ j r, j < i2 + 1 → RS[j]? = some r → r.2.1 ≤ 100 from fun j r hj hr => by
              rcases Nat.lt_or_ge j i2 with h4 | h4
              · exact unhide HL j r h4 hr
              · obtain rfl : j = i2 := by omega
                rw [unhide HGL] at hr
                cases hr
                exact h100)
            go_wp2
            go_roundg g2
            case measure => omega
            case rel => exact ⟨i2 + 1, by omega, by go_num, HL2, rfl⟩
          · have h100' : (100 : Int) < (q2 : Int) := by omega
            go_wp2
            go_ret
            exact ⟨rfl, hb03⟩
    | succ g' =>
      have hlt : (i : Int) < (n : Int) := by omega
      have hki : IntKind.i64.wrap ((i : Int) + 1) = (i : Int) + 1 := IntWalk.i64_in _ (by omega)
      have hil : i < rs.length := by rw [unhide HN]; omega
      have hgl : rs[i]? = some rs[i] := List.getElem?_eq_getElem hil
      obtain ⟨⟨r1, r2, r3⟩, hr⟩ : ∃ r, rs[i] = r := ⟨_, rfl⟩
      rw [hr] at hgl
      obtain ⟨g, o, rfl, hg, hc0, hc1, hc2⟩ := unhide HC i _ hgl
      have hx1 := (cell_below hb0 hg _).trans hc1
      have hx2 := (cell_below hb0 hg _).trans hc2
      have HT := hide (rs_take hgl)
      clear hgl hr hc0 hc1 hc2
      by_cases h200 : r3.size ≤ 200
      rotate_left
      · have h200' : (200 : Int) < (r3.size : Int) := by omega
        go_wp2
        go_ret
        exact ⟨rfl, hb0⟩
      have h200' : (r3.size : Int) ≤ 200 := by omega
      obtain ⟨z, hz⟩ : ∃ z : Nat, (min (max r2 0) 100).toNat = z := ⟨_, rfl⟩
      have hzl : z ≤ 100 := by omega
      have hjr : joinRow (r1, r2, r3) = List.replicate z 32 ++ r3.data.toList ++ [10] := by rw [← hz]; rfl
      have HJR := hide hjr
      clear hjr
      go_wp2
      go_loopg [5, 7] z (fun g s5 s7 wx => ∃ (k : Nat) (c : ByteArray), k + g = z ∧ s7 = .int .i64 k ∧ s5 = .string c ∧ Hid (c.data.toList = joinT (rs.take i) ++ List.replicate k 32) ∧ c.size ≤ i * 301 + k ∧ W0 = wx)
      case atStart => exact ⟨0, b, by omega, by go_num, rfl, hide (by rw [unhide HB, List.replicate_zero, List.append_nil]), by omega, rfl⟩
      case round =>
        obtain ⟨k, c, hkg, rfl, rfl, HCD, hcs, rfl⟩ := hrel
        cases gk with
        | zero =>
          have e5 : min r2 100 ≤ (k : Int) := by omega
          have hfin : (c ++ r3 ++ ⟨#[10]⟩ : ByteArray).data.toList = joinT (rs.take (i + 1)) := by
            rw [append_data, append_data, unhide HCD, unhide HT, unhide HJR, show k = z from by omega, List.append_assoc, List.append_assoc, List.append_assoc]
          have hfs : (c ++ r3 ++ ⟨#[10]⟩ : ByteArray).size ≤ (i + 1) * 301 := by
            rw [ByteArray.size_append, ByteArray.size_append]
            show c.size + r3.size + 1 ≤ _
            omega
          have HF := hide hfin
          have HFS := hide hfs
          clear hfin hfs
          go_wp2
          go_roundg g'
          case measure => omega
          case rel => exact ⟨i + 1, _, by omega, by go_num, rfl, HF, HFS, rfl⟩
        | succ g5 =>
          have e5 : (k : Int) < min r2 100 := by omega
          have hkk : IntKind.i64.wrap ((k : Int) + 1) = (k : Int) + 1 := IntWalk.i64_in _ (by omega)
          have hfin : (c ++ ⟨#[32]⟩ : ByteArray).data.toList = joinT (rs.take i) ++ List.replicate (k + 1) 32 := by
            rw [append_data, unhide HCD, List.append_assoc, List.replicate_succ']
          have hfs : (c ++ ⟨#[32]⟩ : ByteArray).size ≤ i * 301 + (k + 1) := by
            rw [ByteArray.size_append]
            show c.size + 1 ≤ _
            omega
          have HF := hide hfin
          have HFS := hide hfs
          clear hfin hfs
          go_wp2
          go_roundg g5
          case measure => omega
          case rel => exact ⟨k + 1, _, by omega, by go_num, rfl, HF, HFS, rfl⟩
end Go.Proofs.YtbnheebblicgkaaDoor
