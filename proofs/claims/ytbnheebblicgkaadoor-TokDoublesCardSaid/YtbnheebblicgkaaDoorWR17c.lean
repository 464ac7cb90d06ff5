/- walks of rescriptref17.All -/
import Derived.Test.YtbnheebblicgkaaDoorW17g
import Derived.Test.YtbnheebblicgkaaDoorWR17a
import Derived.Test.YtbnheebblicgkaaDoorWR17b
import Derived.Test.YtbnheebblicgkaaDoorPlainR17b
namespace Go.Proofs.YtbnheebblicgkaaDoor
set_option linter.unusedVariables false
set_option linter.unusedSimpArgs false
open Go.RowKit
/-- the slice v of rescriptref17.Line owns the rows rs, in blocks from base on -/
abbrev OwnR (W : World) (base : Nat) (v : Value) (rs : List (Nat × Nat × List UInt8)) : Prop := OwnL W base 50 v rs
theorem refLineInfo : (Tryd.prog.info? 50).map (fun i => (i.zero, i.size, i.bytes)) = some (some (.agg #[.int .i64 0, .int .i64 0, .string ⟨#[]⟩]), 3, 32) := by kernel_rfl
/-- the shape of an owned slice of strings -/
theorem ownS_shape {w : World} {B : Nat} {e : TypeId} {v : Value} {ls : List (List UInt8)} (h : OwnS w B e v ls) :
    ∃ ao cap, v = .slice ao ls.length cap ∧ ∀ i l, ls[i]? = some l → ∃ g, ao = some ⟨g, 0, none⟩ ∧ B ≤ g ∧ g < w.heap.size ∧ w.cell? ⟨g, i, none⟩ = some (bsOf l) := by
  unfold OwnS at h
  rcases Nat.eq_zero_or_pos ls.length with h0 | h0
  · rcases h.2 with ⟨hv, _⟩ | ⟨g, cap, cur, hv, _⟩
    · exact ⟨none, 0, by rw [hv, h0], fun i l hl => by rw [List.eq_nil_of_length_eq_zero h0] at hl; simp at hl⟩
    · exact ⟨_, _, hv, fun i l hl => by rw [List.eq_nil_of_length_eq_zero h0] at hl; simp at hl⟩
  · obtain ⟨g, cap, hv, hb, hlt⟩ := h.form h0
    refine ⟨_, _, hv, fun i l hl => ⟨g, rfl, hb, hlt, ?_⟩⟩
    subst hv
    rw [h.cellAt i (by have := (List.getElem?_eq_some_iff.1 hl).1; omega), List.getElem?_map, hl]
    rfl
theorem i127 (c : UInt8) : ((c.toNat : Int) == 127) = (c == 127) := by revert c; apply all_bytes; decide +kernel
theorem lt32 (c : UInt8) : (c < 32) ↔ ((c.toNat : Int) < 32) := by revert c; apply all_bytes; decide +kernel
theorem getByte (l : List UInt8) (k : Nat) (h : k < l.length) : (⟨l.toArray⟩ : ByteArray)[k]'(by show k < l.toArray.size; simpa using h) = l[k] := by
  show (⟨l.toArray⟩ : ByteArray).data[k]'_ = _
  simp
set_option maxRecDepth 100000 in
set_option maxHeartbeats 1600000 in
theorem refAll_utf (s : ByteArray) (w : World) (hs : s.size ≤ 1048576) (hf : 0 ≤ P03.first s.data.toList) :
    Calls Tryd.prog 12 #[.string s] w fun e w' => e = .returned (.tuple #[.slice none 0 0, faultV (check17 s.data.toList)]) ∧ Below w.heap.size w w' := by
  have hR : check17 s.data.toList = (9, (Lib.countByte (s.data.toList.take (P03.first s.data.toList).toNat) 10 : Int) + 1) := by
    rw [check17, if_neg (by rw [← Lib.size_eq]; omega), if_pos hf]
  rw [hR]
  clear hR
  have hbd := first_bd s.data.toList
  rw [← Lib.size_eq] at hbd
  generalize hp : P03.first s.data.toList = p at hf hbd ⊢
  have HP := hide hp
  clear hp
  obtain ⟨k, rfl⟩ : ∃ k : Nat, p = k := ⟨p.toNat, by omega⟩
  rw [Int.toNat_natCast]
  go_enter Tryd.func12, Tryd.ntmps12
  have hsz : (s.extract 0 k ++ ⟨#[120]⟩).size ≤ 4000000 := by
    rw [ByteArray.size_append, ByteArray.size_extract, Nat.min_eq_left (by omega)]
    show k - 0 + 1 ≤ 4000000
    omega
  have hln : (lines17 (s.extract 0 k ++ ⟨#[120]⟩ : ByteArray).data.toList).length = Lib.countByte (s.data.toList.take k) 10 + 1 := by
    rw [ByteArray.data_append, Array.toList_append, Lib.extract_data, Nat.sub_zero, List.drop_zero]
    exact lines17_x 120 (by decide) _
  go_wp2_with (first
    | (go_at_call 31; refine (refFirst_any s _ hs).mono ?_; rintro e w' ⟨rfl, rfl⟩; rw [unhide HP])
    | (go_at_call 15; refine (refSplit_any _ _ hsz).mono ?_; rintro e w' ⟨v, rfl, hown, hb⟩; obtain ⟨ao, cap, rfl, _⟩ := ownS_shape hown; clear hown; have hR : w'.heap[w.heap.size]? = some (.cells #[.int .i64 0, .int .i64 0] 26) := (hb.block _ (by simp)).trans (World.alloc_heap_new w _); have hbw : Below w.heap.size w w' := ((Below.refl _ w).alloc (Nat.le_refl _) _).trans (hb.mono (by simp)); have x0 := (two_cell0 hR).1; have x1 := (two_cell0 hR).2; have x2 := (two_cell1 hR).1; have x3 := (two_cell1 hR).2))
  have hfin := two_set1 (two_set0 hR (.int .i64 9)) (.int .i64 ((lines17 (List.take k s.data.toList ++ [120])).length : Int))
  refine bodyPost_ret (results_tmp_cell rfl _ _ _ _ _ rfl (run_loadVar_row _ _ _ _ _ _ _ hfin Tryd.underlying26 rfl (by kernel_rfl))) rfl ⟨?_, below_set (below_set hbw 0 _ (Nat.le_refl _)) 1 _ (Nat.le_refl _)⟩
  rw [lines17_x 120 (by decide)]
  rfl
theorem wpList_appRow {w : World} {B : Nat} {T L : TypeId} {v : Value} {rs : List (Nat × Nat × List UInt8)} {ops : Array Oper} {rest : List Oper} {o : Oper} {a : Act} {Q : Exit → Act → World → Prop} (hgd : o.guard = none) (s x : Operand)
    (ho : o.op = .call { callee := .builtin .append, args := #[s, x], argTypes := #[L, L] }) (ht : Tryd.prog.underlying L = some (.slice T))
    (hinf : (Tryd.prog.info? T).map (fun i => (i.zero, i.size, i.bytes)) = some (some (.agg #[.int .i64 0, .int .i64 0, .string ⟨#[]⟩]), 3, 32))
    (hs : a.eval s = v) (hown : OwnL w B T v rs) (n c : Int) (b : ByteArray) (r : Nat × Nat × List UInt8) (hr : rowCells r = [.int .i64 n, .int .i64 c, .string b]) (hx : a.eval x = .slice (some ⟨w.heap.size, 0, none⟩) 1 1)
    (hlen : rs.length < 10000000) (hB : B ≤ w.heap.size)
    (h : ∀ v' w', OwnL w' B T v' (rs ++ [r]) → (w.alloc (.cells #[.int .i64 n, .int .i64 c, .string b] T)).grownBy w' v.ownBlock → wpList Tryd.prog ops Q rest (a.put o.dst v') w') :
    wpList Tryd.prog ops Q (o :: rest) a (w.alloc (.cells #[.int .i64 n, .int .i64 c, .string b] T)) := by
  obtain ⟨i, hi, hz, hsz, hby⟩ := info_parts hinf
  refine wpList_append_own_at (w := w.alloc (.cells #[.int .i64 n, .int .i64 c, .string b] T)) (P := Tryd.prog) hgd s x L ho B T i (.agg #[.int .i64 0, .int .i64 0, .string ⟨#[]⟩]) 3 32 ht hi hz hsz hby rfl (by decide) v rs.length (rowsCells rs) hs (World.ownsRow.alloc hown _)
    ⟨w.heap.size, 0, none⟩ 1 1 [.int .i64 n, .int .i64 c, .string b] hx rfl (cells3_new _ _ _ _ _) (by intro u hu; simp at hu; rcases hu with rfl | rfl | rfl <;> rfl) (by unfold maxLen; omega) (by omega) (by simp; omega) ?_
  intro v' w' h2 h3 _ h5
  refine h v' w' ?_ h3
  unfold OwnL
  rw [rowsCells_snoc, List.length_append, hr]
  exact h2
theorem cell_below {B : Nat} {a w : World} (h : Below B a w) {g : Nat} (hg : g < B) (j : Nat) : w.cell? ⟨g, j, none⟩ = a.cell? ⟨g, j, none⟩ := by
  unfold World.cell?
  simp only [h.block g hg]
theorem any_take_succ (l : List UInt8) (k : Nat) (h : k < l.length) : (l.take (k + 1)).any oddB = ((l.take k).any oddB || oddB l[k]) := by
  rw [List.take_add_one, List.getElem?_eq_getElem h, List.any_append]
  simp
theorem any_of_get (l : List UInt8) (k : Nat) (h : k < l.length) (ho : oddB l[k] = true) : l.any oddB = true := List.any_eq_true.2 ⟨_, List.getElem_mem h, ho⟩
theorem bytesOf (l : List UInt8) : ∃ b : ByteArray, bsOf l = .string b ∧ b.data.toList = l := ⟨⟨l.toArray⟩, rfl, rfl⟩
theorem trimL_drop_blank (l : List UInt8) (k : Nat) (h : k < l.length) (hc : l[k] = 32) : trimL (l.drop k) = trimL (l.drop (k + 1)) := by
  rw [List.drop_eq_getElem_cons h, hc]; rfl
theorem trimL_drop_stop (l : List UInt8) (k : Nat) (h : k < l.length) (hc : l[k] ≠ 32) : trimL (l.drop k) = l.drop k := by
  rw [List.drop_eq_getElem_cons h]
  exact List.dropWhile_cons_of_neg (by simpa using hc)
theorem data_get (s : ByteArray) (k : Nat) (h : k < s.size) (h2 : k < s.data.toList.length) : s.data.toList[k] = s[k] := rfl
theorem row_at {i k : Nat} {l : List UInt8} {tb : ByteArray} (HT : tb.data.toList = strip17 l) (HC : trimL (tb.data.toList.drop k) = trimL tb.data.toList) (hk : k < tb.size) (h32 : tb[k] ≠ 32) :
    rowOf i l = some (i + 1, k, tb.data.toList.drop k) := by
  have hl : k < tb.data.toList.length := by rw [← Lib.size_eq]; exact hk
  have h1 : trimL (strip17 l) = tb.data.toList.drop k := by
    rw [← HT, ← HC]; exact trimL_drop_stop _ k hl (by rw [data_get tb k hk hl]; exact h32)
  rw [rowOf, h1, if_neg (by rw [List.drop_eq_getElem_cons hl]; exact List.cons_ne_nil _ _), ← HT, List.length_drop]
  congr 3
  omega
theorem row_at_none {i : Nat} {l : List UInt8} {tb : ByteArray} (HT : tb.data.toList = strip17 l) (HC : trimL (tb.data.toList.drop tb.size) = trimL tb.data.toList) : rowOf i l = none := by
  rw [rowOf, if_pos]
  rw [← HT, ← HC, List.drop_eq_nil_of_le (by rw [← Lib.size_eq]; exact Nat.le_refl _)]
  rfl
set_option maxRecDepth 100000 in
set_option maxHeartbeats 3200000 in
theorem refAll_good (s : ByteArray) (w : World) (hs : s.size ≤ 1048576) (hf : P03.first s.data.toList < 0) :
    Calls Tryd.prog 12 #[.string s] w fun e w' => ∃ v, e = .returned (.tuple #[v, faultV (check17 s.data.toList)]) ∧ OwnR w' w.heap.size v (if (check17 s.data.toList).1 = 0 then rows17 s.data.toList else []) ∧ Below w.heap.size w w' := by
  have hlen : s.data.toList.length = s.size := (Lib.size_eq s).symm
  obtain ⟨R, hRR⟩ : ∃ R, check17 s.data.toList = R := ⟨_, rfl⟩
  have hch1 : ∀ j, oddLine s.data.toList = some j → R = (3, (j : Int) + 1) := fun j hj => by
    rw [← hRR, check17, if_neg (by omega), if_neg (by omega), hj]
  have hch0 : oddLine s.data.toList = none → R = (0, 0) := fun hj => by
    rw [← hRR, check17, if_neg (by omega), if_neg (by omega), hj]
  rw [hRR]
  obtain ⟨RS, hrs⟩ : ∃ RS, (if R.1 = 0 then rows17 s.data.toList else []) = RS := ⟨_, rfl⟩
  rw [hrs]
  have HRS := hide hrs
  have HR1 := hide hch1
  have HR0 := hide hch0
  clear hch1 hch0 hRR hrs
  have hnl : (lines17 s.data.toList).length ≤ 1048576 := by
    have h1 : (lines17 s.data.toList).length ≤ s.data.toList.length := by unfold lines17; rw [List.length_map]; exact rawL_le _
    omega
  have hll : ∀ l ∈ lines17 s.data.toList, l.length ≤ 1048576 := fun l hl => Nat.le_trans (lines17_le hl) (by omega)
  have HLL := hide hll
  clear hll hlen
  generalize hp : P03.first s.data.toList = p at hf
  have HP := hide hp
  clear hp
  go_enter Tryd.func12, Tryd.ntmps12
  go_wp2_with (first
    | (go_at_call 31; refine (refFirst_any s _ hs).mono ?_; rintro e w' ⟨rfl, rfl⟩; rw [unhide HP])
    | (go_at_call 15; refine (refSplit_any _ _ (by omega)).mono ?_; rintro e W ⟨v, rfl, hown, hb⟩; obtain ⟨ao, cap, rfl, hcell⟩ := ownS_shape hown; clear hown; have hR : W.heap[w.heap.size]? = some (.cells #[.int .i64 0, .int .i64 0] 26) := (hb.block _ (by simp)).trans (World.alloc_heap_new w _); have hbw : Below w.heap.size w W := ((Below.refl _ w).alloc (Nat.le_refl _) _).trans (hb.mono (by simp)); have HC := hide hcell; clear hcell hb))
  obtain ⟨n, hn⟩ : ∃ n, (lines17 s.data.toList).length = n := ⟨_, rfl⟩
  rw [hn] at hnl ⊢
  have HN := hide hn
  clear hn
  have hWs : w.heap.size < W.heap.size := (Array.getElem?_eq_some_iff.1 hR).1
  go_loopg [7, 8] n (fun g s7 s8 wx => ∃ i : Nat, i + g = n ∧ s7 = .int .i64 i ∧ Hid (∀ j l, j < i → (lines17 s.data.toList)[j]? = some l → l.any oddB = false) ∧ W = wx)
  case atStart => exact ⟨0, by omega, by go_num, hide (fun j l hj => absurd hj (Nat.not_lt_zero _)), rfl⟩
  case round =>
    obtain ⟨i, hig, rfl, HO, rfl⟩ := hrel
    cases gk with
    | zero =>
      have e1 : (n : Int) = (i : Int) := by omega
      have HON := hide (oddLine_none (fun j l hj hl => unhide HO j l (by rw [unhide HN] at hj; omega) hl))
      have HRR := hide (unhide HR0 (unhide HON))
      go_wp2
      go_loopg [6, 9] n (fun g s6 s9 wx => ∃ i : Nat, i + g = n ∧ s9 = .int .i64 i ∧ OwnR wx W.heap.size s6 (rowsFrom 0 ((lines17 s.data.toList).take i)) ∧ Below W.heap.size W wx)
      case atStart => exact ⟨0, by omega, by go_num, World.ownsRow_nil _ _ _ _, Below.refl _ _⟩
      case round =>
        obtain ⟨i2, hig2, rfl, hown, hbx⟩ := hrel
        have hRx : wr.heap[w.heap.size]? = some (.cells #[.int .i64 0, .int .i64 0] 26) := (hbx.block _ hWs).trans hR
        have hbwx : Below w.heap.size w wr := hbw.trans (hbx.mono (by omega))
        cases gk with
        | zero =>
          have e2 : (n : Int) = (i2 : Int) := by omega
          have x0 := (two_cell0 hRx).1; have x1 := (two_cell0 hRx).2; have x2 := (two_cell1 hRx).1; have x3 := (two_cell1 hRx).2
          go_wp2
          refine bodyPost_ret (results_tmp_cell rfl _ _ _ _ _ rfl (run_loadVar_row _ _ _ _ _ _ _ (two_set1 (two_set0 hRx _) _) Tryd.underlying26 rfl (by kernel_rfl))) rfl ⟨u6, ?_, ?_, below_set (below_set hbwx 0 _ (Nat.le_refl _)) 1 _ (Nat.le_refl _)⟩
          · rw [unhide HRR]; rfl
          · rw [← unhide HRS, unhide HRR, if_pos rfl, rows17]
            have hall : (lines17 s.data.toList).take i2 = lines17 s.data.toList := List.take_of_length_le (by rw [unhide HN]; omega)
            rw [hall] at hown
            unfold OwnR OwnL at hown ⊢
            exact ownsRow_base (ownsRow_span (ownsRow_span hown (setCell_grown _ w.heap.size 0 _) (fun r e => by cases e; omega)) (setCell_grown _ w.heap.size 1 _) (fun r e => by cases e; omega)) (by omega)
        | succ g2 =>
          have hil : i2 < (lines17 s.data.toList).length := by rw [unhide HN]; omega
          have hgl : (lines17 s.data.toList)[i2]? = some (lines17 s.data.toList)[i2] := List.getElem?_eq_getElem hil
          have hll := unhide HLL _ (List.getElem_mem hil)
          generalize (lines17 s.data.toList)[i2] = l at hgl hll
          obtain ⟨g, rfl, hg1, hg2, hcl⟩ := unhide HC i2 l hgl
          obtain ⟨lb, hlb1, hlb2⟩ := bytesOf l
          rw [hlb1] at hcl
          have hcx := (cell_below hbx hg2 i2).trans hcl
          have hlt : (i2 : Int) < (n : Int) := by omega
          have hki : IntKind.i64.wrap ((i2 : Int) + 1) = (i2 : Int) + 1 := IntWalk.i64_in _ (by omega)
          have hlbs : lb.size ≤ 1048576 := by rw [Lib.size_eq, hlb2]; exact hll
          have HGL := hide hgl
          have HLB := hide hlb2
          have hst := rows_step (unhide HGL)
          have HST := hide hst
          have hrl : (rowsFrom 0 ((lines17 s.data.toList).take i2)).length ≤ 1048576 := by
            refine Nat.le_trans (rowsFrom_len _ _) ?_
            rw [List.length_take]
            omega
          clear hst hgl hlb1 hlb2 hcl hil
          go_wp2_with (go_at_call 17; refine (refStrip_any lb _ (by omega)).mono ?_; rintro e w5 ⟨rfl, rfl⟩; rw [unhide HLB])
          obtain ⟨tb, htb⟩ : ∃ tb : ByteArray, (⟨(strip17 l).toArray⟩ : ByteArray) = tb := ⟨_, rfl⟩
          have htb2 : tb.data.toList = strip17 l := by rw [← htb]
          rw [htb]
          clear htb
          have hts : tb.size ≤ 1048576 := by rw [Lib.size_eq, htb2]; exact Nat.le_trans (strip_len l) hll
          have HTB := hide htb2
          clear htb2
          go_loopg [11] tb.size (fun g s11 wx => ∃ k : Nat, k + g = tb.size ∧ s11 = .int .i64 k ∧ Hid (trimL (tb.data.toList.drop k) = trimL tb.data.toList) ∧ w5 = wx)
          case atStart => exact ⟨0, by omega, by go_num, hide rfl, rfl⟩
          case round =>
            obtain ⟨k, hkg, rfl, HT, rfl⟩ := hrel
            cases gk with
            | zero =>
              have e3 : (tb.size : Int) = (k : Int) := by omega
              have e4 : tb.size = k := by omega
              subst e4
              have hno := row_at_none (i := i2) (unhide HTB) (unhide HT)
              have hstep := unhide HST
              rw [hno, show (none : Option (Nat × Nat × List UInt8)).toList = [] from rfl, List.append_nil] at hstep
              rw [← hstep] at hown
              clear hstep hno
              go_wp2
              go_roundg g2
              case measure => omega
              case rel => exact ⟨i2 + 1, by omega, by go_num, hown, hbx⟩
            | succ g3 =>
              have hk : k < tb.size := by omega
              have hk2 : (k : Int) < (tb.size : Int) := by omega
              have hk3 : k < tb.data.toList.length := by rw [← Lib.size_eq]; exact hk
              have hkw : IntKind.i64.wrap ((k : Int) + 1) = (k : Int) + 1 := IntWalk.i64_in _ (by omega)
              by_cases c32 : tb[k] = 32
              · have j32 : ((tb[k].toNat : Int) == 32) = true := by rw [i32, c32]; rfl
                have HT2 := hide ((trimL_drop_blank _ k hk3 (by rw [data_get tb k hk hk3]; exact c32)).symm.trans (unhide HT))
                clear c32
                go_wp2
                go_roundg g3
                case measure => omega
                case rel => exact ⟨k + 1, by omega, by go_num, HT2, rfl⟩
              · have j32 : ((tb[k].toNat : Int) == 32) = false := by rw [i32]; simpa using c32
                have hrow := row_at (i := i2) (unhide HTB) (unhide HT) hk c32
                have hstep := unhide HST
                rw [hrow, show (some (i2 + 1, k, tb.data.toList.drop k)).toList = [(i2 + 1, k, tb.data.toList.drop k)] from rfl] at hstep
                have HSP := hide hstep
                have hrc : rowCells (i2 + 1, k, tb.data.toList.drop k) = [.int .i64 ((i2 : Int) + 1), .int .i64 (k : Int), .string (tb.extract k tb.size)] := by
                  show [Value.int .i64 (((i2 + 1 : Nat)) : Int), Value.int .i64 (k : Int), bsOf (tb.data.toList.drop k)] = _
                  rw [show bsOf (tb.data.toList.drop k) = .string (tb.extract k tb.size) from ?_, Int.natCast_add]
                  · rfl
                  · unfold bsOf
                    congr 1
                    rw [Lib.extract_eq, List.take_of_length_le (by rw [List.length_drop, ← Lib.size_eq]; exact Nat.le_refl _)]
                have HRC := hide hrc
                clear c32 hrow hstep hrc
                go_wp2_with (at_builtin; refine wpList_appRow rfl (.tmp 90) (.tmp 98) (L := 29) rfl Tryd.underlying29 refLineInfo rfl hown _ _ _ (i2 + 1, k, tb.data.toList.drop k) (unhide HRC) rfl (by omega) hbx.size ?_; intro v1 w1 hown1 hg1)
                have hb1 : Below W.heap.size W w1 := (hbx.alloc hbx.size _).grown hg1 (by have := hbx.size; simp; omega) (fun k hk => (World.ownsRow.lt hown k hk).1)
                go_roundg g2
                case measure => omega
                case rel =>
                  refine ⟨i2 + 1, by omega, by go_num, ?_, hb1⟩
                  rw [unhide HSP]
                  exact hown1
    | succ g' =>
      have hil : i < (lines17 s.data.toList).length := by rw [unhide HN]; omega
      have hgl : (lines17 s.data.toList)[i]? = some (lines17 s.data.toList)[i] := List.getElem?_eq_getElem hil
      have hll := unhide HLL _ (List.getElem_mem hil)
      generalize (lines17 s.data.toList)[i] = l at hgl hll
      obtain ⟨g, rfl, hg1, hg2, hcl⟩ := unhide HC i l hgl
      obtain ⟨lb, hlb1, hlb2⟩ := bytesOf l
      rw [hlb1] at hcl
      have hlt : (i : Int) < (n : Int) := by omega
      have hki : IntKind.i64.wrap ((i : Int) + 1) = (i : Int) + 1 := IntWalk.i64_in _ (by omega)
      have hlbs : lb.size ≤ 1048576 := by rw [Lib.size_eq, hlb2]; exact hll
      have HGL := hide hgl
      have HLB := hide hlb2
      clear hgl hlb1 hlb2 hil
      go_wp2
      go_loopg [8] lb.size (fun g s8 wx => ∃ k : Nat, k + g = lb.size ∧ s8 = .int .i64 k ∧ Hid ((l.take k).any oddB = false) ∧ W = wx)
      case atStart => exact ⟨0, by omega, by go_num, hide rfl, rfl⟩
      case round =>
        obtain ⟨k, hkg, rfl, HA, rfl⟩ := hrel
        cases gk with
        | zero =>
          have e3 : (lb.size : Int) = (k : Int) := by omega
          have HO2 := hide (show ∀ j l, j < i + 1 → (lines17 s.data.toList)[j]? = some l → l.any oddB = false from fun j l' hj hl' => by
            rcases Nat.lt_or_ge j i with h4 | h4
            · exact unhide HO j l' h4 hl'
            · obtain rfl : j = i := by omega
              rw [unhide HGL] at hl'
              cases hl'
              have := unhide HA
              rw [List.take_of_length_le (by rw [← unhide HLB, ← Lib.size_eq]; omega)] at this
              exact this)
          go_wp2
          go_roundg g'
          case measure => omega
          case rel => exact ⟨i + 1, by omega, by go_num, HO2, rfl⟩
        | succ g3 =>
          have hk : k < lb.size := by omega
          have hk2 : (k : Int) < (lb.size : Int) := by omega
          have hk3 : k < l.length := by rw [← unhide HLB, ← Lib.size_eq]; exact hk
          have hkl : l[k] = lb[k] := by
            have h1 : lb.data.toList[k]? = some lb[k] := Lib.data_getElem? lb k hk
            rw [unhide HLB, List.getElem?_eq_getElem hk3] at h1
            exact Option.some.inj h1
          have hkw : IntKind.i64.wrap ((k : Int) + 1) = (k : Int) + 1 := IntWalk.i64_in _ (by omega)
          have hst := any_take_succ l k hk3
          rw [unhide HA, hkl, Bool.false_or] at hst
          have hst2 : oddB lb[k] = true → l.any oddB = true := fun ho => any_of_get l k hk3 (by rw [hkl]; exact ho)
          have HS := hide hst
          have HS2 := hide hst2
          clear hst hst2 hkl
          by_cases c1 : lb[k] < 32
          · have j1 : (lb[k].toNat : Int) < 32 := (lt32 _).1 c1
            have HOD := hide (unhide HR1 i (oddLine_some (unhide HO) (unhide HGL) (unhide HS2 (by simp [oddB, c1]))))
            clear c1
            have x0 := (two_cell0 hR).1; have x1 := (two_cell0 hR).2; have x2 := (two_cell1 hR).1; have x3 := (two_cell1 hR).2
            go_wp2
            refine bodyPost_ret (results_tmp_cell rfl _ _ _ _ _ rfl (run_loadVar_row _ _ _ _ _ _ _ (two_set1 (two_set0 hR _) _) Tryd.underlying26 rfl (by kernel_rfl))) rfl ⟨.slice none 0 0, ?_, ?_, below_set (below_set hbw 0 _ (Nat.le_refl _)) 1 _ (Nat.le_refl _)⟩
            · rw [unhide HOD]; rfl
            · rw [← unhide HRS, unhide HOD, if_neg (show ¬ (3 : Int) = 0 by decide)]; exact World.ownsRow_nil _ _ _ _
          · have j1 : 32 ≤ (lb[k].toNat : Int) := by have := mt (lt32 lb[k]).2 c1; omega
            by_cases c2 : lb[k] = 127
            · have j2 : ((lb[k].toNat : Int) == 127) = true := by rw [i127, c2]; rfl
              have HOD := hide (unhide HR1 i (oddLine_some (unhide HO) (unhide HGL) (unhide HS2 (by simp [oddB, c2]))))
              clear c1 c2
              have x0 := (two_cell0 hR).1; have x1 := (two_cell0 hR).2; have x2 := (two_cell1 hR).1; have x3 := (two_cell1 hR).2
              go_wp2
              refine bodyPost_ret (results_tmp_cell rfl _ _ _ _ _ rfl (run_loadVar_row _ _ _ _ _ _ _ (two_set1 (two_set0 hR _) _) Tryd.underlying26 rfl (by kernel_rfl))) rfl ⟨.slice none 0 0, ?_, ?_, below_set (below_set hbw 0 _ (Nat.le_refl _)) 1 _ (Nat.le_refl _)⟩
              · rw [unhide HOD]; rfl
              · rw [← unhide HRS, unhide HOD, if_neg (show ¬ (3 : Int) = 0 by decide)]; exact World.ownsRow_nil _ _ _ _
            · have j2 : ((lb[k].toNat : Int) == 127) = false := by rw [i127]; simpa using c2
              have HA2 := hide ((unhide HS).trans (show oddB lb[k] = false by simp [oddB, c1, c2]))
              clear c1 c2
              go_wp2
              go_roundg g3
              case measure => omega
              case rel => exact ⟨k + 1, by omega, by go_num, HA2, rfl⟩
theorem refAll_any (s : ByteArray) (w : World) (hs : s.size ≤ 1048576) :
    Calls Tryd.prog 12 #[.string s] w fun e w' => ∃ v, e = .returned (.tuple #[v, faultV (check17 s.data.toList)]) ∧ OwnR w' w.heap.size v (if (check17 s.data.toList).1 = 0 then rows17 s.data.toList else []) ∧ Below w.heap.size w w' := by
  by_cases hf : 0 ≤ P03.first s.data.toList
  · refine (refAll_utf s w hs hf).mono ?_
    rintro e w' ⟨rfl, hb⟩
    refine ⟨_, rfl, ?_, hb⟩
    have : (check17 s.data.toList).1 ≠ 0 := by rw [check17, if_neg (by rw [← Lib.size_eq]; omega), if_pos hf]; simp
    rw [if_neg this]
    exact World.ownsRow_nil _ _ _ _
  · exact refAll_good s w hs (by omega)
theorem lineAll_any (s : ByteArray) (w : World) (hs : s.size ≤ 1000000) :
    Calls Tryd.prog 11 #[.string s] w fun e w' => ∃ v, e = .returned (.tuple #[v, faultV (check17 s.data.toList)]) ∧ OwnL w' w.heap.size 39 v (if (check17 s.data.toList).1 = 0 then rows17 s.data.toList else []) ∧ Below w.heap.size w w' := by
  by_cases hf : (check17 s.data.toList).1 = 0
  · refine (All_good s w hs hf).mono ?_
    rintro e w' ⟨v, rfl, ho, hb⟩
    rw [if_pos hf, check_zero hf]
    exact ⟨v, rfl, ho, hb⟩
  · refine (All_bad s w hs hf).mono ?_
    rintro e w' ⟨rfl, hb⟩
    rw [if_neg hf]
    exact ⟨_, rfl, World.ownsRow_nil _ _ _ _, hb⟩
end Go.Proofs.YtbnheebblicgkaaDoor
