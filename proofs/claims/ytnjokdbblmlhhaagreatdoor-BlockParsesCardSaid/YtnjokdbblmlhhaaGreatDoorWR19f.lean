/- walk of rescriptref19.All: a text's tokens -/
import Derived.Test.YtnjokdbblmlhhaaGreatDoorWR19b
import Derived.Test.YtnjokdbblmlhhaaGreatDoorG19bc
namespace Go.Proofs.YtnjokdbblmlhhaaGreatDoor
set_option linter.unusedVariables false
set_option linter.unusedSimpArgs false
open Go.RowKit
/-- the reference's state: the slice of its tokens, and its row -/
structure RefS (W : World) (B : Nat) (v r : Value) (out : List Tk) (st : List Int) : Prop where
  toks : OwnT W B v out
  row : OwnI W B r st.reverse
/-- the blocks that it may write -/
def M2 (v r : Value) (x : Nat) : Prop := v.ownBlock = some x ∨ r.ownBlock = some x
theorem RefS.alloc {W : World} {B : Nat} {v r : Value} {out : List Tk} {st : List Int} (h : RefS W B v r out st) (o : Obj) : RefS (W.alloc o) B v r out st := ⟨World.ownsRow.alloc h.toks o, World.ownsRow.alloc h.row o⟩
theorem RefS.drewN {W : World} {B : Nat} {v r : Value} {out : List Tk} {st : List Int} (h : RefS W B v r out st) (n : Nat) : RefS (W.drewN n) B v r out st := ⟨h.toks, h.row⟩
theorem RefS.below {W W' : World} {B : Nat} {v r : Value} {out : List Tk} {st : List Int} (h : RefS W B v r out st) (hb : Below W.heap.size W W') : RefS W' B v r out st := ⟨owns_below h.toks hb, owns_below h.row hb⟩
theorem keeps_below (M : Nat → Prop) {W W' : World} (hb : Below W.heap.size W W') : KeepsM M W M W' := ⟨hb.size, fun r _ hr => hb.block r hr, fun _ h => .inl h⟩
theorem RefS.push0 {W W1 : World} {B : Nat} {v v' r : Value} {out out' : List Tk} {st : List Int} (h : RefS W B v r out st) (hg : W.grownBy W1 v.ownBlock) (ho : OwnT W1 B v' out') : RefS W1 B v' r out' st :=
  ⟨ho, own_kept h.row hg (own_apart h.row h.toks (by decide))⟩
theorem RefS.push1 {W W1 : World} {B : Nat} {v r r' : Value} {out : List Tk} {st st' : List Int} (h : RefS W B v r out st) (hg : W.grownBy W1 r.ownBlock) (ho : OwnI W1 B r' st'.reverse) : RefS W1 B v r' out st' :=
  ⟨own_kept h.toks hg (own_apart h.toks h.row (by decide)), ho⟩
theorem keeps2_0 {v v' r : Value} {W W1 : World} (hg : W.grownBy W1 v.ownBlock) (hat : v'.ownBlock = v.ownBlock ∨ v'.ownBlock = some W.heap.size) : KeepsM (M2 v r) W (M2 v' r) W1 := by
  have hk := KeepsM.grown (M := M2 v r) hg (fun k e => .inl (.inl e))
  refine ⟨hk.size, hk.same, fun x hx => ?_⟩
  rcases hx with h | h
  · rcases hat with h2 | h2
    · exact .inl (.inl (h2.symm.trans h))
    · rw [h] at h2; injection h2 with h2; exact .inr (by omega)
  · exact .inl (.inr h)
theorem keeps2_1 {v r r' : Value} {W W1 : World} (hg : W.grownBy W1 r.ownBlock) (hat : r'.ownBlock = r.ownBlock ∨ r'.ownBlock = some W.heap.size) : KeepsM (M2 v r) W (M2 v r') W1 := by
  have hk := KeepsM.grown (M := M2 v r) hg (fun k e => .inl (.inr e))
  refine ⟨hk.size, hk.same, fun x hx => ?_⟩
  rcases hx with h | h
  · exact .inl (.inl h)
  · rcases hat with h2 | h2
    · exact .inl (.inr (h2.symm.trans h))
    · rw [h] at h2; injection h2 with h2; exact .inr (by omega)
theorem RefS.below0 {w W W1 : World} {B b : Nat} {v r : Value} {out : List Tk} {st : List Int} (h : RefS W B v r out st) (hB : b ≤ B) (hs : b ≤ W.heap.size) (hb : Below b w W) (hg : W.grownBy W1 v.ownBlock) : Below b w W1 :=
  hb.grown hg hs (fun k e => by have := (World.ownsRow.lt h.toks k e).1; omega)
theorem RefS.below1 {w W W1 : World} {B b : Nat} {v r : Value} {out : List Tk} {st : List Int} (h : RefS W B v r out st) (hB : b ≤ B) (hs : b ≤ W.heap.size) (hb : Below b w W) (hg : W.grownBy W1 r.ownBlock) : Below b w W1 :=
  hb.grown hg hs (fun k e => by have := (World.ownsRow.lt h.row k e).1; omega)
theorem RefS.fresh {W : World} {B g : Nat} {v r : Value} {out : List Tk} {st : List Int} (h : RefS W B v r out st) (hg : W.heap.size ≤ g) : ¬ M2 v r g := by
  rintro (e | e)
  · have := (World.ownsRow.lt h.toks g e).2; omega
  · have := (World.ownsRow.lt h.row g e).2; omega
/-- the state, and what was left alone since W3, and since W5 -/
structure RSt (W3 W5 : World) (p : Nat) (M5 : Nat → Prop) (v r : Value) (o : List Tk) (s : List Int) (W : World) : Prop where
  ref : RefS W (p + 1) v r o s
  keep : KeepsM M5 W5 (M2 v r) W
  bel : Below (p + 1) W3 W
  big : p + 2 ≤ W.heap.size
section
variable {W3 W5 W W1 : World} {p : Nat} {M5 : Nat → Prop} {v r v' r' : Value} {o o' : List Tk} {s s' : List Int}
theorem RSt.alloc (h : RSt W3 W5 p M5 v r o s W) (x : Obj) : RSt W3 W5 p M5 v r o s (W.alloc x) :=
  ⟨h.ref.alloc x, h.keep.trans (keeps_alloc _ _ x), below_alloc' h.bel (by have := h.big; omega) x, by rw [World.size_alloc]; have := h.big; omega⟩
theorem RSt.drewN (h : RSt W3 W5 p M5 v r o s W) (n : Nat) : RSt W3 W5 p M5 v r o s (W.drewN n) := ⟨h.ref.drewN n, h.keep.trans (keeps_drewN _ _ n), below_any h.bel n, h.big⟩
theorem RSt.below (h : RSt W3 W5 p M5 v r o s W) (hb : Below W.heap.size W W1) : RSt W3 W5 p M5 v r o s W1 :=
  ⟨h.ref.below hb, h.keep.trans (keeps_below _ hb), h.bel.trans (hb.mono (by have := h.big; omega)), by have := h.big; have := hb.size; omega⟩
theorem RSt.app0 (h : RSt W3 W5 p M5 v r o s W) (hg : W.grownBy W1 v.ownBlock) (ho : OwnT W1 (p + 1) v' o') (hat : v'.ownBlock = v.ownBlock ∨ v'.ownBlock = some W.heap.size) : RSt W3 W5 p M5 v' r o' s W1 :=
  ⟨h.ref.push0 hg ho, h.keep.trans (keeps2_0 hg hat), h.ref.below0 (Nat.le_refl _) (by have := h.big; omega) h.bel hg, by have := h.big; have := hg.size; omega⟩
theorem RSt.app1 (h : RSt W3 W5 p M5 v r o s W) (hg : W.grownBy W1 r.ownBlock) (ho : OwnI W1 (p + 1) r' s'.reverse) (hat : r'.ownBlock = r.ownBlock ∨ r'.ownBlock = some W.heap.size) : RSt W3 W5 p M5 v r' o s' W1 :=
  ⟨h.ref.push1 hg ho, h.keep.trans (keeps2_1 hg hat), h.ref.below1 (Nat.le_refl _) (by have := h.big; omega) h.bel hg, by have := h.big; have := hg.size; omega⟩
theorem RSt.pop {g n cap : Nat} {x : Int} (h : RSt W3 W5 p M5 v (.slice (some ⟨g, 0, none⟩) n cap) o (x :: s) W) : RSt W3 W5 p M5 v (.slice (some ⟨g, 0, none⟩) s.length cap) o s W := by
  have h1 := h.ref.row
  rw [List.reverse_cons] at h1
  have h2 := h1.drop_last
  rw [List.length_reverse] at h2
  exact ⟨⟨h.ref.toks, h2⟩, ⟨h.keep.size, h.keep.same, fun x hx => h.keep.more x hx⟩, h.bel, h.big⟩
theorem RSt.toks {Bl : Nat} {tv : Value} {ts : List Tk} (h : RSt W3 W5 p M5 v r o s W) (hown : OwnT W5 Bl tv ts) (hsep : ∀ g, tv.ownBlock = some g → ¬ M5 g) : OwnT W Bl tv ts := own_keeps hown h.keep hsep
end
/-- one place more: where the new slice lies -/
theorem wpList_appInt1 {w : World} {B : Nat} {v : Value} {zs : List Int} {z : Int} {ops : Array Oper} {rest : List Oper} {o : Oper} {a : Act} {Q : Exit → Act → World → Prop} (hgd : o.guard = none) (s x : Operand)
    (ho : o.op = .call { callee := .builtin .append, args := #[s, x], argTypes := #[103, 103] })
    (hs : a.eval s = v) (hown : OwnI w B v zs) (g cap : Nat) (hx : a.eval x = .slice (some ⟨g, 0, none⟩) 1 cap) (hnew : w.cell? ⟨g, 0, none⟩ = some (.int .i64 z))
    (hlen : zs.length + 1 ≤ 1000000000) (hB : B ≤ w.heap.size)
    (h : ∀ g' cap' w', OwnI w' B (.slice (some ⟨g', 0, none⟩) (zs.length + 1) cap') (zs ++ [z]) → w.grownBy w' v.ownBlock → (some g' = v.ownBlock ∨ some g' = some w.heap.size) → wpList Tryz.prog ops Q rest (a.put o.dst (.slice (some ⟨g', 0, none⟩) (zs.length + 1) cap')) w') :
    wpList Tryz.prog ops Q (o :: rest) a w := by
  obtain ⟨i, hi, hz, hsz, hby⟩ := info_parts intInfo
  refine wpList_append_lies (P := Tryz.prog) w hgd s x 103 ho B 3 i (.int .i64 0) 1 8 Tryz.underlying103 hi hz hsz hby rfl (by decide) v zs.length (zs.map (Value.int .i64)) hs hown
    ⟨g, 0, none⟩ 1 cap [.int .i64 z] hx rfl (by intro j u hj; match j, hj with | 0, hj => simp at hj; subst hj; exact hnew) (by intro u hu; simp at hu; subst hu; rfl) (by decide) (by unfold maxLen; omega) (by omega) hB _ rfl ?_
  intro g' cap' w' h2 h3 hat _
  refine h g' cap' w' ?_ h3 (hat.imp Eq.symm (fun e => by rw [e]))
  unfold OwnI
  rw [List.length_append, List.map_append]
  exact h2
set_option maxRecDepth 100000 in
set_option maxHeartbeats 1600000 in
theorem refTokAll_bad (s : ByteArray) (w : World) (hs : s.size ≤ 100000) (hf : (check17 s.data.toList).1 ≠ 0) :
    Calls Tryz.prog 34 #[.string s] w fun e w' => e = .returned (.tuple #[.slice none 0 0, faultV (check17 s.data.toList)]) ∧ Below w.heap.size w w' := by
  have hab := fun W => refAll_any s W (by omega)
  obtain ⟨⟨r1, r2⟩, hR⟩ : ∃ R, check17 s.data.toList = R := ⟨_, rfl⟩
  rw [hR] at hf ⊢
  simp only [hR] at hab
  unfold faultV at hab ⊢
  have hne : (r1 != 0) = true := by simpa using hf
  have HAB := hide hab
  clear hab hR hf
  have hmx : Tryz.prog.follows .mixedOrders = true := by kernel_rfl
  go_enter Tryz.func34, Tryz.ntmps34
  go_wp2_with (go_at_call 70; refine (unhide HAB _).mono ?_; rintro e w' ⟨v, rfl, ho, hb⟩; have hR : w'.heap[w.heap.size]? = some (.cells #[.int .i64 0, .int .i64 0] 29) := (hb.block _ (by simp)).trans (World.alloc_heap_new w _); have hbw : Below w.heap.size w w' := ((Below.refl _ w).alloc (Nat.le_refl _) _).trans (hb.mono (by simp)); clear hb ho)
  obtain ⟨W2, hW2⟩ : ∃ W2, w'.alloc (.cells #[.int .i64 r1, .int .i64 r2] 29) = W2 := ⟨_, rfl⟩
  have hR2 : W2.heap[w.heap.size]? = some (.cells #[.int .i64 0, .int .i64 0] 29) := by rw [← hW2]; exact (Below.heap_alloc _ _ _ (Array.getElem?_eq_some_iff.1 hR).1).trans hR
  have hF2 : W2.heap[w'.heap.size]? = some (.cells #[.int .i64 r1, .int .i64 r2] 29) := by rw [← hW2]; exact World.alloc_heap_new w' _
  have hb2 : Below w.heap.size w W2 := by rw [← hW2]; exact hbw.alloc hbw.size _
  rw [hW2]
  have x0 := (two_cell0 hR2).1
  have x1 := (two_cell0 hR2).2
  have x2 := (two_cell1 hR2).1
  have x3 := (two_cell1 hR2).2
  have y0 := (two_cell0 hF2).1
  have y2 := (two_cell1 hF2).1
  clear hW2 hR
  go_region
  all_goals go_wp2
  all_goals refine bodyPost_ret (results_tmp_cell rfl _ _ _ _ _ rfl (run_loadVar_row _ _ _ _ _ _ _ (two_set1 (two_set0 hR2 _) _) Tryz.underlying29 rfl (by kernel_rfl))) rfl ⟨rfl, ?_⟩
  all_goals exact below_drew (below_set (below_set hb2 0 _ (Nat.le_refl _)) 1 _ (Nat.le_refl _))
set_option maxRecDepth 100000 in
set_option maxHeartbeats 8000000 in
theorem refTokAll_good (s : ByteArray) (w : World) (hs : s.size ≤ 100000) (hf : (check17 s.data.toList).1 = 0) :
    Calls Tryz.prog 34 #[.string s] w fun e w' => ∃ v, e = .returned (.tuple #[v, faultV (P19.allR true (rows17 s.data.toList) [] [0] 0).2]) ∧ OwnT w' w.heap.size v (P19.allR true (rows17 s.data.toList) [] [0] 0).1 ∧ Below w.heap.size w w' := by
  have hag := fun W => refAll_any s W (by omega)
  rw [check_zero hf, if_pos rfl] at hag
  have hfit : ∀ (i : Nat) (r : Nat × Nat × List UInt8), (rows17 s.data.toList)[i]? = some r → r.2.1 + r.2.2.length ≤ s.size := fun i r h => by rw [Lib.size_eq]; exact rows_fit h
  have hwt := P19.weight_le s.data.toList
  rw [← Lib.size_eq] at hwt
  obtain ⟨rs, hrs⟩ : ∃ rs, rows17 s.data.toList = rs := ⟨_, rfl⟩
  rw [hrs] at hfit hwt ⊢
  have hlen := P19.weight_ge rs
  simp only [hrs] at hag
  have HAG := hide hag
  have HFIT := hide hfit
  clear hag hfit hrs hf
  have hmx : Tryz.prog.follows .mixedOrders = true := by kernel_rfl
  go_enter Tryz.func34, Tryz.ntmps34
  go_wp2_with (go_at_call 70; refine (unhide HAG _).mono ?_; rintro e w' ⟨v, rfl, ho, hb⟩; have hR : w'.heap[w.heap.size]? = some (.cells #[.int .i64 0, .int .i64 0] 29) := (hb.block _ (by simp)).trans (World.alloc_heap_new w _); have hbw : Below w.heap.size w w' := ((Below.refl _ w).alloc (Nat.le_refl _) _).trans (hb.mono (by simp)); clear hb; obtain ⟨la, lcap, rfl, hrd⟩ := rdl_of_own ho; unfold faultV; rw [List.length_map])
  obtain ⟨p, hp⟩ : ∃ p, w'.heap.size = p := ⟨_, rfl⟩
  obtain ⟨h0, hh0⟩ : ∃ h, w.heap.size = h := ⟨_, rfl⟩
  obtain ⟨W3, hW3⟩ : ∃ W3, (w'.alloc (.cells #[.int .i64 0, .int .i64 0] 29)).alloc (.cells #[.int .i64 0] 3) = W3 := ⟨_, rfl⟩
  rw [hW3]
  rw [hp] at hrd ⊢
  have hsz3 : W3.heap.size = p + 2 := by rw [← hW3, World.size_alloc, World.size_alloc, hp]
  have hbp : Below p w' W3 := by rw [← hW3, ← hp]; exact ((Below.refl _ w').alloc (Nat.le_refl _) _).alloc (by simp) _
  have hN0 : RefS W3 (p + 1) (.slice none 0 0) (.slice (some ⟨p + 1, 0, none⟩) 1 1) [] [0] := by
    rw [← hW3]
    refine ⟨World.ownsRow_nil _ _ _ _, ?_⟩
    have h1 := World.ownsRow_lit (e := 3) (size := 1) (base := p + 1) (w'.alloc (.cells #[.int .i64 0, .int .i64 0] 29)) #[.int .i64 0] 1 (by rw [World.size_alloc]; omega) (by unfold maxLen; omega) rfl
    rw [World.size_alloc, hp] at h1
    exact h1
  have hlt0 : h0 < p := by rw [← hh0, ← hp]; exact (Array.getElem?_eq_some_iff.1 hR).1
  rw [hh0] at hR hbw ⊢
  have hR3 : W3.heap[h0]? = some (.cells #[.int .i64 0, .int .i64 0] 29) := (hbp.block h0 hlt0).trans hR
  have hb3 : Below h0 w W3 := hbw.trans (hbp.mono (by omega))
  have HRD := hide hrd
  clear hW3 hrd hR hbw ho
  go_loopg [6, 7, 8, 9] rs.length (fun g s6 s7 s8 s9 wx => ∃ (i : Nat) (o2 : List Tk) (s2 : List Int) (last : Int), i + g = rs.length ∧ s8 = .int .i64 last ∧ s9 = .int .i64 i ∧ P19.Row s2 ∧ s2.length ≤ 16 ∧ o2.length + 40 * P19.weight (rs.drop i) ≤ 100000000 ∧
    RefS wx (p + 1) s6 s7 o2 s2 ∧ Below (p + 1) W3 wx ∧ Hid (P19.allR true rs [] [0] 0 = P19.allR (decide (i = 0)) (rs.drop i) o2 s2 last))
  case atStart => exact ⟨0, [], [0], 0, by omega, rfl, by go_num, P19.row_zero, by decide, by simp; omega, hN0, Below.refl _ _, hide rfl⟩
  case round =>
    obtain ⟨i, o2, s2, last, hig, rfl, rfl, hrow2, hs2, hol, hN, hbel, HE⟩ := hrel
    have hRw : wr.heap[h0]? = some (.cells #[.int .i64 0, .int .i64 0] 29) := (hbel.block h0 (by omega)).trans hR3
    have hszr : p + 2 ≤ wr.heap.size := by rw [← hsz3]; exact hbel.size
    have hbw : Below h0 w wr := hb3.trans (hbel.mono (by omega))
    have hsne := P19.row_ne hrow2
    obtain ⟨gr, rcap, hr7, _, _⟩ := hN.row.form (by simpa using hsne)
    subst hr7
    rw [List.length_reverse] at hN
    cases gk with
    | zero =>
      have e1 : (rs.length : Int) = (i : Int) := by omega
      have hd : rs.drop i = [] := List.drop_eq_nil_of_le (by omega)
      have he := unhide HE
      rw [hd] at he
      have he2 : P19.allR true rs [] [0] 0 = (o2 ++ (P19.close last 0 0 s2).1, 0, 0) := he
      rw [P19.close_all last hrow2] at he2
      simp only at he2
      obtain ⟨n2, hn2⟩ : ∃ n, s2.length = n := ⟨_, rfl⟩
      have hn1 : 1 ≤ n2 := by rw [← hn2]; exact List.length_pos_iff.2 hsne
      rw [hn2] at he2 hN hs2
      simp only [List.length_reverse, hn2]
      have HF := hide he2
      clear he2 he hd HE hn2
      go_wp2
      go_loopg [6, 14] (n2 - 1) (fun f s6 s14 wx => ∃ (q : Nat), 1 ≤ q ∧ q + f = n2 ∧ s14 = .int .i64 q ∧ OwnT wx (p + 1) s6 (o2 ++ List.replicate (q - 1) ((2, [], last, 0) : Tk)) ∧ Below (p + 1) W3 wx)
      case atStart => exact ⟨1, by omega, by omega, by go_num, by simpa using hN.toks, hbel⟩
      case round =>
        obtain ⟨q, hq1, hqf, rfl, ho, hb⟩ := hrel
        have hbig : p + 2 ≤ wr.heap.size := by rw [← hsz3]; exact hb.size
        have hRz : wr.heap[h0]? = some (.cells #[.int .i64 0, .int .i64 0] 29) := (hb.block h0 (by omega)).trans hR3
        have hbz : Below h0 w wr := hb3.trans (hb.mono (by omega))
        cases gk with
        | zero =>
          have e2 : (n2 : Int) = (q : Int) := by omega
          obtain rfl : n2 = q := by omega
          have x0 := (two_cell0 hRz).1
          have x1 := (two_cell0 hRz).2
          have x2 := (two_cell1 hRz).1
          have x3 := (two_cell1 hRz).2
          clear e2
          go_wp2
          refine bodyPost_ret (results_tmp_cell rfl _ _ _ _ _ rfl (run_loadVar_row _ _ _ _ _ _ _ (two_set1 (two_set0 hRz _) _) Tryz.underlying29 rfl (by kernel_rfl))) rfl ⟨_, by rw [unhide HF]; rfl, ?_, ?_⟩
          · rw [unhide HF]
            try rw [hh0]
            exact ownsRow_base (own_set (own_set ho (by omega)) (by omega)) (by omega)
          · try rw [hh0]
            exact below_at (below_at hbz (by omega) (by omega)) (by omega) (by simp; omega)
        | succ f =>
          have e2 : (q : Int) < (n2 : Int) := by omega
          have hqw : IntKind.i64.wrap ((q : Int) + 1) = (q : Int) + 1 := IntWalk.i64_in _ (by omega)
          have hlq : (o2 ++ List.replicate (q - 1) ((2, [], last, 0) : Tk)).length + 1 ≤ 1000000000 := by rw [List.length_append, List.length_replicate]; omega
          obtain ⟨oz, hoz⟩ : ∃ oz, o2 ++ List.replicate (q - 1) ((2, [], last, 0) : Tk) = oz := ⟨_, rfl⟩
          rw [hoz] at ho hlq
          have HO := hide ho
          have HOZ := hide hoz
          clear ho hoz
          go_wp2_with (first
            | (go_at_call 72; refine (reftok_any _ _ _ _ _).mono ?_; rintro e w2 ⟨rfl, hb2⟩; have HS4 := hide (World.ownsRow.alloc (owns_below (unhide HO) hb2) (.cells #[.int .u8 (2 : Nat), .string ⟨#[]⟩, .int .i64 last, .int .i64 0] 124)); have HNZ := hide (cells4_new w2 (.int .u8 (2 : Nat)) (.string ⟨#[]⟩) (.int .i64 last) (.int .i64 0) 124); have hbg2 : p + 2 ≤ w2.heap.size := (by have := hb2.size; omega))
            | (at_builtin; refine wpList_appTok1 (B := p + 1) (t := (2, [], last, 0)) rfl (.tmp 191) (.tmp 194) rfl rfl (unhide HS4) w2.heap.size 1 rfl (unhide HNZ) hlq (by rw [World.size_alloc]; omega) ?_; intro g4 cap4 w4 hown4 hgrow4 hat4))
          have hb4 : Below (p + 1) W3 w4 := (below_alloc' (hb.trans (hb2.mono (by omega))) (by omega) (.cells #[.int .u8 (2 : Nat), .string ⟨#[]⟩, .int .i64 last, .int .i64 0] 124)).grown hgrow4 (by rw [World.size_alloc]; omega) (fun k e => (World.ownsRow.lt (unhide HS4) k e).1)
          go_roundg f
          case measure => omega
          case rel =>
            refine ⟨q + 1, by omega, by omega, by go_num, ?_, hb4⟩
            rw [show q + 1 - 1 = (q - 1) + 1 from by omega, List.replicate_succ', ← List.append_assoc, unhide HOZ]
            exact hown4
    | succ g' =>
      have hlt : (i : Int) < (rs.length : Int) := by omega
      have hki : IntKind.i64.wrap ((i : Int) + 1) = (i : Int) + 1 := IntWalk.i64_in _ (by omega)
      have hil : i < rs.length := by omega
      have hri : rs[i]? = some rs[i] := List.getElem?_eq_getElem hil
      obtain ⟨⟨rn, rc, rt⟩, hr⟩ : ∃ r, rs[i] = r := ⟨_, rfl⟩
      rw [hr] at hri
      have hfi := unhide HFIT i _ hri
      simp only at hfi
      have hwd := P19.weight_drop hri
      have hdr : rs.drop i = (rn, rc, rt) :: rs.drop (i + 1) := by
        obtain ⟨hl, he⟩ := List.getElem?_eq_some_iff.1 hri
        rw [List.drop_eq_getElem_cons hl, he]
      rw [hwd] at hol
      simp only at hol
      obtain ⟨g, o, hla, hgp, c0, c1, c2⟩ := unhide HRD i (castR (rn, rc, rt)) (by rw [List.getElem?_map, hri]; rfl)
      subst hla
      unfold castR at c0 c1 c2
      simp only at c0 c1 c2
      have hcell : ∀ W, Below p w' W → W.cell? ⟨g, o + i * 3, none⟩ = some (.int .i64 (rn : Int)) ∧ W.cell? ⟨g, o + i * 3 + 1, none⟩ = some (.int .i64 (rc : Int)) ∧ W.cell? ⟨g, o + i * 3 + 2, none⟩ = some (.string ⟨rt.toArray⟩) := fun W hb => ⟨(cell_below hb hgp _).trans c0, (cell_below hb hgp _).trans c1, (cell_below hb hgp _).trans c2⟩
      have HCELL := hide hcell
      have hbx : Below p w' wr := hbp.trans (hbel.mono (by omega))
      obtain ⟨d0, d1, d2⟩ := hcell wr hbx
      have htk := fun W => refLine_any (rt.length + 1) ⟨rt.toArray⟩ rn rc W (by rw [Lib.size_eq]; simp) (by rw [Lib.size_eq]; simp; omega) (by omega) (by rw [Lib.size_eq]; simp; omega)
      have hla := P19.toks_at rn rc rt
      have htl := P19.toks_len rn rc rt
      have he := unhide HE
      rw [hdr, P19.allR] at he
      unfold P19.rowT at he
      have htke : P19.line (rt.length + 1) (rn : Int) (rc : Int) rt = P19.toks rn rc rt := rfl
      obtain ⟨⟨ts, E⟩, hT⟩ : ∃ x, P19.toks rn rc rt = x := ⟨_, rfl⟩
      simp only [htke, hT] at htk hla htl he
      have HTK := hide htk
      have HLA := hide hla
      have HE2 := hide he
      clear htk hla he HE hdr hri hr c0 c1 c2 hbx hT hwd htke hcell
      go_upto_region 11 with (go_at_call 71; refine (unhide HTK _).mono ?_; rintro e W5 ⟨v5, rfl, ho5, hb5⟩)
      have hs5 := hb5.size
      have hN5 := hN.below hb5
      have hb35 : Below (p + 1) W3 W5 := hbel.trans (hb5.mono (by omega))
      have hR5 : W5.heap[h0]? = some (.cells #[.int .i64 0, .int .i64 0] 29) := (hb35.block h0 (by omega)).trans hR3
      have hbw5 : Below h0 w W5 := hb3.trans (hb35.mono (by omega))
      obtain ⟨e0, e1, e2⟩ := unhide HCELL W5 (hbp.trans (hb35.mono (by omega)))
      have hfresh : ∀ g, wr.heap.size ≤ g → ¬ M2 u6 (.slice (some ⟨gr, 0, none⟩) s2.length rcap) g := fun g hg => hN.fresh hg
      clear hbw hbel hRw d0 d1 d2 hb5 hN
      have x0 := (two_cell0 hR5).1
      have x1 := (two_cell0 hR5).2
      have x2 := (two_cell1 hR5).1
      have x3 := (two_cell1 hR5).2
      have HN5 := hide hN5
      have HR5 := hide hR5
      clear hN5
      by_cases hE : E = 0
      · have hEe : (E == 0) = true := by simpa using hE
        have hEn : (E != 0) = false := by simpa using hE
        have he := unhide HE2
        rw [if_neg (by simpa using hE)] at he
        have HE3 := hide he
        clear he HE2 hE
        by_cases hc : decide (i = 0) = true ∧ 0 < rc
        · have hi0 : ((i : Int) == 0) = true := by have := hc.1; simp at this; simp [this]
          have hrc : ((rc : Int) != 0) = true := by have := hc.2; simp; omega
          have he := unhide HE3
          rw [if_pos hc] at he
          have HF := hide he
          clear he HE3 hc
          go_wp2
          go_region
          all_goals go_wp2
          all_goals (
            refine bodyPost_ret (results_tmp_cell rfl _ _ _ _ _ rfl (run_loadVar_row _ _ _ _ _ _ _ (two_set1 (two_set0 (unhide HR5) _) _) Tryz.underlying29 rfl (by kernel_rfl))) rfl ⟨_, by rw [unhide HF]; rfl, ?_, ?_⟩
            · rw [unhide HF]
              exact World.ownsRow_nil _ _ _ _
            · rw [hh0]
              exact below_drew (below_at (below_at (hbw5) (by omega) (by omega)) (by omega) (by simp; omega)))
        · have he := unhide HE3
          rw [if_neg hc] at he
          have HE4 := hide he
          have hcase : ((i : Int) == 0) = false ∨ (((i : Int) == 0) = true ∧ ((rc : Int) != 0) = false) := by
            rcases Nat.eq_zero_or_pos i with h | h
            · right
              refine ⟨by simp [h], ?_⟩
              have h3 : ¬ 0 < rc := fun h2 => hc ⟨by simp [h], h2⟩
              simp; omega
            · left; simp; omega
          clear he HE3 hc HTK
          go_cut [52] from 39 to 52 (fun c wx => c = .bool false ∧ W5 = wx)
          case first =>
            rcases hcase with hi0 | ⟨hi0, hrc⟩
            all_goals go_wp2
            all_goals go_meet
            all_goals exact ⟨rfl, rfl⟩
          case rest =>
            obtain ⟨rfl, rfl⟩ := hcut
            have hla := unhide HLA
            have hla1 : ∀ t ∈ ts, t.2.2.1 = (rn : Int) ∧ (rc : Int) ≤ t.2.2.2 ∧ t.1 < 8 := fun t ht => ⟨(hla.1 t ht).1, (hla.1 t ht).2.1, (hla.1 t ht).2.2.2⟩
            have hla2 : ∀ t ∈ ts.head?, t.2.2.2 = (rc : Int) := hla.2.1
            have hla3 : ∀ t ∈ ts.tail, (rc : Int) < t.2.2.2 := hla.2.2
            have HLA1 := hide hla1
            have HLA2 := hide hla2
            have HLA3 := hide hla3
            obtain ⟨ta, tn0, tcap, rfl⟩ := own_slice ho5
            have htn0 : tn0 = ts.length := by
              rcases ho5.2 with ⟨h1, h2⟩ | ⟨g, cap, cur, h1, _⟩
              · rw [h1] at ho5; injection h1 with _ h3; omega
              · injection h1 with _ h3
            subst htn0
            obtain ⟨m, hm⟩ : ∃ m, ts.length = m := ⟨_, rfl⟩
            rw [hm] at htl
            have HO5 := hide ho5
            have HM := hide hm
            have hml : (m : Int) ≤ 9223372036854775807 := by omega
            clear hla hla1 hla2 hla3 HLA ho5
            simp only [hm]
            obtain ⟨M5, hM5⟩ : ∃ M, M2 u6 (.slice (some ⟨gr, 0, none⟩) s2.length rcap) = M := ⟨_, rfl⟩
            simp only [hM5] at hfresh
            have HM5 := hide hM5
            clear hM5
            go_wp2
            go_loopg [6, 7, 12] m (fun f s6 s7 s12 wx => ∃ (j : Nat) (o3 : List Tk) (s3 : List Int), j + f = m ∧ s12 = .int .i64 j ∧ P19.Row s3 ∧ s3.length ≤ 16 ∧ o3.length + 2 * f + (if j = 0 then 20 else 0) ≤ o2.length + 40 * (rt.length + 1) ∧
              RefS wx (p + 1) s6 s7 o3 s3 ∧ Hid (KeepsM M5 W5 (M2 s6 s7) wx) ∧ Below (p + 1) W3 wx ∧
              Hid (P19.adds rn true 0 ts o2 s2 = P19.adds rn (decide (j = 0)) (if j = 0 then 0 else (ts[j - 1]?).elim 0 (fun (t : Tk) => t.1)) (ts.drop j) o3 s3))
            case atStart => exact ⟨0, o2, s2, by omega, by go_num, hrow2, hs2, by rw [if_pos rfl]; omega, unhide HN5, hide (by rw [← unhide HM5]; exact KeepsM.refl _ _), hb35, hide rfl⟩
            case round =>
              obtain ⟨j, o3, s3, hjf, rfl, hrow3, hs3, ho3, hN, HK, hbel, HA⟩ := hrel
              have hszr2 : p + 2 ≤ wr.heap.size := by rw [← hsz3]; exact hbel.size
              have hR6 : wr.heap[h0]? = some (.cells #[.int .i64 0, .int .i64 0] 29) := (hbel.block h0 (by omega)).trans hR3
              have hbw6 : Below h0 w wr := hb3.trans (hbel.mono (by omega))
              cases gk with
              | zero =>
                have e1 : (m : Int) = (j : Int) := by omega
                have hd : ts.drop j = [] := List.drop_eq_nil_of_le (by rw [unhide HM]; omega)
                have ha := unhide HA
                rw [hd] at ha
                have ha2 : P19.adds rn true 0 ts o2 s2 = (0, o3, s3) := ha
                have he := unhide HE4
                rw [ha2, if_neg (by simp)] at he
                have HE5 := hide he
                clear ha ha2 hd HA HE4 he
                go_wp2
                go_roundg g'
                case measure => omega
                case rel => exact ⟨i + 1, o3, s3, rn, by omega, rfl, by go_num, hrow3, hs3, by revert ho3; split <;> omega, hN, hbel, by rw [show decide (i + 1 = 0) = false from by simp]; exact HE5⟩
              | succ f =>
                have hjlt : (j : Int) < (m : Int) := by omega
                have hjw : IntKind.i64.wrap ((j : Int) + 1) = (j : Int) + 1 := IntWalk.i64_in _ (by omega)
                have hjl : j < ts.length := by rw [unhide HM]; omega
                have htj : ts[j]? = some ts[j] := List.getElem?_eq_getElem hjl
                have hds : ts.drop j = ts[j] :: ts.drop (j + 1) := List.drop_eq_getElem_cons hjl
                have htm : ts[j] ∈ ts := List.getElem_mem hjl
                obtain ⟨hn1, hn2, hn8⟩ := unhide HLA1 ts[j] htm
                have hn3 : 0 < j → (rc : Int) < ts[j].2.2.2 := fun h0 => unhide HLA3 ts[j] (by
                  cases ts with
                  | nil => simp at hjl
                  | cons a r =>
                    cases j with
                    | zero => omega
                    | succ j => simp)
                have hn4 : j = 0 → ts[j].2.2.2 = (rc : Int) := fun h0 => by
                  subst h0
                  exact unhide HLA2 ts[0] (by rw [List.head?_eq_getElem?]; exact htj)
                obtain ⟨⟨k, tx, tn, tc⟩, ht⟩ : ∃ t, ts[j] = t := ⟨_, rfl⟩
                rw [ht] at htj hds hn1 hn2 hn3 hn4 hn8
                simp only at hn1 hn2 hn3 hn4 hn8
                subst hn1
                have ha := unhide HA
                rw [hds, P19.adds] at ha
                obtain ⟨R, hRt⟩ : ∃ R, P19.turn (decide (j = 0)) (if j = 0 then 0 else (ts[j - 1]?).elim 0 (fun (t : Tk) => t.1)) rn (k, tx, rn, tc) o3 s3 = R := ⟨_, rfl⟩
                rw [hRt] at ha
                have hprv : 0 < j → ∃ t', ts[j - 1]? = some t' := fun h0 => ⟨ts[j - 1], List.getElem?_eq_getElem (by omega)⟩
                have HRT := hide hRt
                have HA2 := hide ha
                have HTJ := hide htj
                have HPRV := hide hprv
                clear ha HA hds hRt htj ht hprv htm hn8
                cases s3 with
                | nil => exact absurd rfl (P19.row_ne hrow3)
                | cons x s4 =>
                  obtain ⟨gr3, cap3, hr3, _, _⟩ := hN.row.form (by simp)
                  subst hr3
                  have hS0 : RSt W3 W5 p M5 u6 (.slice (some ⟨gr3, 0, none⟩) (x :: s4).reverse.length cap3) o3 (x :: s4) wr := ⟨hN, unhide HK, hbel, hszr2⟩
                  have hlr : (x :: s4).reverse.length = s4.length + 1 := by simp
                  rw [hlr] at hS0 ⊢
                  simp only [List.length_cons] at hs3
                  have hcp := ownsRow_cap (show wr.ownsRow (p + 1) 3 1 (.slice (some ⟨gr3, 0, none⟩) (s4.length + 1) cap3) (s4.length + 1) _ from by have := hS0.ref.row; unfold OwnI at this; rw [hlr] at this; exact this)
                  have htop := hS0.ref.row.cell (by simp) (j := s4.length) (z := x) (by simp)
                  have hsep : ∀ g, (Value.slice ta ts.length tcap).ownBlock = some g → ¬ M5 g := fun g hg => hfresh g ((World.ownsRow.lt (unhide HO5) g hg).1)
                  obtain ⟨g5, cap5, hta, hg5, _⟩ := own_drop (hS0.toks (unhide HO5) hsep) (unhide HTJ)
                  injection hta with hta _ hta3
                  subst hta
                  subst hta3
                  have hct : ∀ W v r o s, RSt W3 W5 p M5 v r o s W → W.cell? ⟨g5, j * 4, none⟩ = some (.int .u8 k) ∧ W.cell? ⟨g5, j * 4 + 1, none⟩ = some (.string ⟨tx.toArray⟩) ∧ W.cell? ⟨g5, j * 4 + 2, none⟩ = some (.int .i64 rn) ∧ W.cell? ⟨g5, j * 4 + 3, none⟩ = some (.int .i64 tc) := fun W v r o s h => by
                    obtain ⟨g', cap', hta', _, q0, q1, q2, q3⟩ := own_drop (h.toks (unhide HO5) hsep) (unhide HTJ)
                    injection hta' with hta' _ _
                    injection hta' with hta'
                    injection hta' with hta'
                    subst hta'
                    exact ⟨q0, q1, q2, q3⟩
                  have hcl : ∀ W v r o' s, RSt W3 W5 p M5 v r o' s W → W.cell? ⟨g, o + i * 3, none⟩ = some (.int .i64 (rn : Int)) ∧ W.cell? ⟨g, o + i * 3 + 1, none⟩ = some (.int .i64 (rc : Int)) := fun W v r o' s h => by
                    obtain ⟨q0, q1, _⟩ := unhide HCELL W (hbp.trans (h.bel.mono (by omega)))
                    exact ⟨q0, q1⟩
                  have hpk : 0 < j → ∃ kp : Nat, (ts[j - 1]?).elim 0 (fun (t : Tk) => t.1) = kp ∧ wr.cell? ⟨g5, (j - 1) * 4, none⟩ = some (.int .u8 kp) := fun h0 => by
                    obtain ⟨t', ht'⟩ := unhide HPRV h0
                    obtain ⟨g', cap', hta', _, q0, _⟩ := own_drop (hS0.toks (unhide HO5) hsep) ht'
                    injection hta' with hta' _ _
                    injection hta' with hta'
                    injection hta' with hta'
                    subst hta'
                    exact ⟨_, by rw [ht']; rfl, q0⟩
                  obtain ⟨l0, l1⟩ := hcl _ _ _ _ _ hS0
                  obtain ⟨q0, q1, q2, q3⟩ := hct _ _ _ _ _ hS0
                  have HCT := hide hct
                  have HCL := hide hcl
                  have HPK := hide hpk
                  have HS0 := hide hS0
                  clear hct hcl hpk hS0 hN HK hbel hR6 hbw6 hsep HPRV hlr
                  have hw1 : IntKind.i64.wrap ((s4.length : Int) + 1 - 1) = (s4.length : Int) := by rw [Int.add_sub_cancel]; exact IntWalk.i64_in _ (by omega)
                  have hn2' : (0 : Int) ≤ (rc : Int) := by omega
                  have hcp1 : (s4.length : Int) + 1 ≤ (cap3 : Int) := by omega
                  have hcp2 : (s4.length : Int) ≤ (cap3 : Int) := by omega
                  have hol9 : o3.length + 2 * (f + 1) + (if j = 0 then 20 else 0) ≤ o2.length + 40 * (rt.length + 1) := ho3
                  have hol8 : o2.length + 40 * (rt.length + 1) ≤ 100000000 := by omega
                  rcases Nat.eq_zero_or_pos j with hj | hj
                  · subst hj
                    have htc := hn4 rfl
                    subst htc
                    have htr := unhide HRT
                    rw [show decide ((0 : Nat) = 0) = true from rfl, if_pos rfl] at htr
                    rw [if_pos rfl] at hol9
                    have HCT0 : Hid (∀ W v r o s, RSt W3 W5 p M5 v r o s W → W.cell? ⟨g5, 0, none⟩ = some (.int .u8 k) ∧ W.cell? ⟨g5, 1, none⟩ = some (.string ⟨tx.toArray⟩) ∧ W.cell? ⟨g5, 2, none⟩ = some (.int .i64 rn) ∧ W.cell? ⟨g5, 3, none⟩ = some (.int .i64 rc)) := hide (fun W v r o s h => by have h5 := unhide HCT W v r o s h; simpa using h5)
                    obtain ⟨q0, q1, q2, q3⟩ := unhide HCT0 _ _ _ _ _ (unhide HS0)
                    clear HRT HPK ho3 hn3 hn4 HCT
                    unfold P19.turn at htr
                    by_cases hlt1 : (rc : Int) < x
                    · rw [if_pos ⟨rfl, hlt1⟩] at htr
                      obtain ⟨⟨c1, c2⟩, hc⟩ : ∃ c, P19.close (rn : Int) (rc : Int) (rc : Int) (x :: s4) = c := ⟨_, rfl⟩
                      simp only [hc] at htr
                      have HTR := hide htr
                      have HC := hide hc
                      clear htr hc
                      go_wp2
                      go_loopg [6, 7] (s4.length + 1) (fun q s6 s7 wx => ∃ (o4 : List Tk) (s5 : List Int), Hid (s5.length = q) ∧ P19.Row s5 ∧ s5.length ≤ 16 ∧ o4.length + s5.length ≤ o3.length + 16 ∧ RSt W3 W5 p M5 s6 s7 o4 s5 wx ∧
                        Hid (o3 ++ c1 = o4 ++ (P19.close rn rc rc s5).1) ∧ Hid (c2 = (P19.close rn rc rc s5).2))
                      case atStart => exact ⟨o3, x :: s4, hide rfl, hrow3, by simp; omega, by simp; omega, unhide HS0, hide (by rw [unhide HC]), hide (by rw [unhide HC])⟩
                      case round =>
                        obtain ⟨o4, s5, hq, hrow5, hs5l, ho4, hS, H1, H2⟩ := hrel
                        cases s5 with
                        | nil => exact absurd rfl (P19.row_ne hrow5)
                        | cons y s6 =>
                          obtain ⟨gq, capq, hrq, _, _⟩ := hS.ref.row.form (by simp)
                          subst hrq
                          rw [show (y :: s6).reverse.length = s6.length + 1 from by simp] at hS ⊢
                          simp only [List.length_cons] at hs5l ho4
                          have hcpq := ownsRow_cap (show wr.ownsRow (p + 1) 3 1 (.slice (some ⟨gq, 0, none⟩) (s6.length + 1) capq) (s6.length + 1) _ from by have := hS.ref.row; unfold OwnI at this; rw [show (y :: s6).reverse.length = s6.length + 1 from by simp] at this; exact this)
                          have htopq := hS.ref.row.cell (by simp) (j := s6.length) (z := y) (by simp)
                          have hwq : IntKind.i64.wrap ((s6.length : Int) + 1 - 1) = (s6.length : Int) := by rw [Int.add_sub_cancel]; exact IntWalk.i64_in _ (by omega)
                          have hcq1 : (s6.length : Int) + 1 ≤ (capq : Int) := by omega
                          have hcq2 : (s6.length : Int) ≤ (capq : Int) := by omega
                          have hcq3 : s6.length ≤ capq := by omega
                          have hcq4 : (capq : Int) ≤ 9223372036854775807 := by omega
                          obtain ⟨z0, z1⟩ := unhide HCL _ _ _ _ _ hS
                          have HS := hide hS
                          clear hS
                          by_cases hy : (rc : Int) < y
                          · have e1 := unhide H1
                            have e2 := unhide H2
                            rw [P19.close, if_pos hy] at e1 e2
                            have E1 := hide e1
                            have E2 := hide e2
                            have hrow6 := P19.row_pop hrow5 (by omega)
                            clear e1 e2 H1 H2
                            go_wp2
                            go_quiet (fail)
                            have hSd := ((unhide HS).drewN nq)
                            have hSp := hSd.pop
                            have HSP := hide hSp
                            clear hSd hSp
                            obtain ⟨z2, z3⟩ := unhide HCL _ _ _ _ _ (unhide HSP)
                            go_wp2_with (first
                              | (go_at_call 72; refine (reftok_any _ _ _ _ _).mono ?_; rintro e w2 ⟨rfl, hb2⟩; have HS4 := hide (((unhide HSP).below hb2).alloc (.cells #[.int .u8 (2 : Nat), .string ⟨#[]⟩, .int .i64 rn, .int .i64 rc] 124)); have HNZ := hide (cells4_new w2 (.int .u8 (2 : Nat)) (.string ⟨#[]⟩) (.int .i64 rn) (.int .i64 rc) 124); have hbg2 : p + 1 ≤ w2.heap.size := (by have := ((unhide HSP).below hb2).big; omega))
                              | (at_builtin; refine wpList_appTok1 (B := p + 1) (t := (2, [], rn, rc)) rfl (.tmp 107) (.tmp 115) rfl rfl (unhide HS4).ref.toks w2.heap.size 1 rfl (unhide HNZ) (by omega) (by rw [World.size_alloc]; omega) ?_; intro g4 cap4 w4 hown4 hgrow4 hat4))
                            have hS5 := (unhide HS4).app0 (v' := .slice (some ⟨g4, 0, none⟩) (o4.length + 1) cap4) hgrow4 hown4 hat4
                            go_roundg (gk - 1)
                            case measure => have h5 : s6.length + 1 = gk := unhide hq; omega
                            case rel => exact ⟨o4 ++ [((2, [], rn, rc) : Tk)], s6, hide (by have h5 : s6.length + 1 = gk := unhide hq; omega), hrow6, by omega, by simp; omega, hS5, hide (by rw [unhide E1]; simp), E2⟩
                          · have e1 := unhide H1
                            have e2 := unhide H2
                            rw [P19.close, if_neg hy] at e1 e2
                            simp only [List.append_nil] at e1
                            have hy2 : y ≤ (rc : Int) := by omega
                            have htr := unhide HTR
                            rw [e2, e1] at htr
                            have htr2 : (if y ≠ (rc : Int) then (3, [], []) else (0, o4 ++ [(k, tx, (rn : Int), (rc : Int))], y :: s6)) = R := htr
                            have HTR1 := hide htr2
                            clear e1 e2 H1 H2 htr htr2 HTR
                            by_cases hyy : y = (rc : Int)
                            · have hye : (y != (rc : Int)) = false := by simpa using hyy
                              have htr := unhide HTR1
                              rw [if_neg (by simpa using hyy)] at htr
                              have HTR2 := hide htr.symm
                              clear htr HTR1 hyy
                              go_wp2
                              go_quiet (fail)
                              generalize nq = na
                              go_wp2
                              go_quiet (fail)
                              go_upto_region 31 with fail
                              have HSD := hide ((unhide HS).drewN (na + nq))
                              obtain ⟨tt0, tt1, tt2, tt3⟩ := unhide HCT0 _ _ _ _ _ (unhide HSD)
                              have HSY := hide ((unhide HSD).alloc (.cells #[.int .u8 k, .string ⟨tx.toArray⟩, .int .i64 rn, .int .i64 rc] 124))
                              have HNY := hide (cells4_new (wr.drewN (na + nq)) (.int .u8 k) (.string ⟨tx.toArray⟩) (.int .i64 rn) (.int .i64 rc) 124)
                              have ha := unhide HA2
                              rw [unhide HTR2, if_neg (by simp)] at ha
                              simp only at ha
                              have HA3 := hide ha
                              have hbg : p + 1 ≤ (wr.drewN (na + nq)).heap.size := by have := (unhide HSD).big; omega
                              have hbnd : (o4).length + 1 ≤ 1000000000 := by omega
                              have HBND := hide (show (o4).length + 1 + 2 * f + 0 ≤ o2.length + 40 * (rt.length + 1) by omega)
                              have hrwf : P19.Row (y :: s6) := hrow5
                              have hlnf : (y :: s6).length ≤ 16 := by simp; omega
                              clear ha HA2
                              go_wp2_with (at_builtin; refine wpList_appTok1 (B := p + 1) (t := (k, tx, rn, rc)) rfl (.tmp 178) (.tmp 183) rfl rfl (unhide HSY).ref.toks (wr.drewN (na + nq)).heap.size 1 rfl (unhide HNY) hbnd (by rw [World.size_alloc]; omega) ?_; intro g2 cap2 w9 hown2 hgrow2 hat2)
                              have hS2 := (unhide HSY).app0 (v' := .slice (some ⟨g2, 0, none⟩) ((o4).length + 1) cap2) hgrow2 hown2 hat2
                              try simp only [List.length_append, List.length_singleton, List.length_reverse, List.length_cons, List.length_nil, Nat.zero_add] at hS2
                              go_roundg f
                              case measure => omega
                              case rel => exact ⟨0 + 1, (o4) ++ [((k, tx, rn, rc) : Tk)], y :: s6, by omega, by go_num, hrwf, hlnf, by rw [if_neg (by omega), List.length_append, List.length_singleton]; exact unhide HBND, hS2.ref, hide hS2.keep, hS2.bel, by rw [show decide (0 + 1 = 0) = false from by simp, if_neg (by omega), Nat.add_sub_cancel, unhide HTJ]; exact HA3⟩
                            · have hye : (y != (rc : Int)) = true := by simpa using hyy
                              have htr := unhide HTR1
                              rw [if_pos hyy] at htr
                              have ha := unhide HA2
                              rw [← htr, if_pos (by simp)] at ha
                              have he := unhide HE4
                              rw [ha, if_pos (by simp)] at he
                              have HF := hide he
                              clear htr HTR1 hyy ha HA2 he HE4
                              go_wp2
                              go_quiet (fail)
                              generalize nq = na
                              go_wp2
                              go_quiet (fail)
                              have HSD := hide (((unhide HS).drewN na).drewN nq)
                              obtain ⟨WD, hWD⟩ : ∃ W, (wr.drewN na).drewN nq = W := ⟨_, rfl⟩
                              rw [hWD] at HSD ⊢
                              clear hWD
                              have hRq := ((unhide HSD).bel.block h0 (by omega)).trans hR3
                              have xa := (two_cell0 hRq).1
                              have xb := (two_cell0 hRq).2
                              have xc := (two_cell1 hRq).1
                              have xd := (two_cell1 hRq).2
                              clear hRq
                              go_wp2
                              refine bodyPost_ret (results_tmp_cell rfl _ _ _ _ _ rfl (run_loadVar_row _ _ _ _ _ _ _ (two_set1 (two_set0 (((unhide HSD).bel.block h0 (by omega)).trans hR3) _) _) Tryz.underlying29 rfl (by kernel_rfl))) rfl ⟨_, by rw [unhide HF]; rfl, ?_, ?_⟩
                              · rw [unhide HF]
                                exact World.ownsRow_nil _ _ _ _
                              · try rw [hh0]
                                exact below_at (below_at (hb3.trans ((unhide HSD).bel.mono (by omega))) (by omega) (by have := (unhide HSD).big; omega)) (by omega) (by have := (unhide HSD).big; simp; omega)
                    · rw [if_neg (fun h => hlt1 h.2)] at htr
                      have hle1 : x ≤ (rc : Int) := by omega
                      by_cases hgt : x < (rc : Int)
                      · rw [if_pos (.inl ⟨rfl, hgt⟩)] at htr
                        have hx0 := P19.row_top hrow3
                        have hx00 : 0 ≤ x := hx0
                        have HTR := hide htr
                        clear htr
                        have hS1 := (unhide HS0).alloc (.cells #[.int .i64 rc] 3)
                        have HS1 := hide hS1
                        have hnewI : (wr.alloc (.cells #[.int .i64 rc] 3)).cell? ⟨wr.heap.size, 0, none⟩ = some (.int .i64 rc) := (Boxed.new wr 3 (.int .i64 rc)).cell
                        have HNI := hide hnewI
                        have hbgr : p + 1 ≤ (wr.alloc (.cells #[.int .i64 rc] 3)).heap.size := by rw [World.size_alloc]; omega
                        have hlr9 : (x :: s4).reverse.length + 1 ≤ 1000000000 := by simp; omega
                        clear hS1 hnewI
                        go_upto_region 28 with (at_builtin; refine wpList_appInt1 (B := p + 1) rfl (.tmp 155) (.tmp 161) rfl rfl (unhide HS1).ref.row wr.heap.size 1 rfl (unhide HNI) hlr9 hbgr ?_; intro g1 cap1 w1 hown1 hgrow1 hat1)
                        have hS2 := (unhide HS1).app1 (s' := rc :: x :: s4) (r' := .slice (some ⟨g1, 0, none⟩) ((x :: s4).reverse.length + 1) cap1) hgrow1 (by have h5 := hown1; rw [← List.reverse_cons] at h5; exact h5) hat1
                        have HS2 := hide hS2
                        clear hS2 hown1 hgrow1 hat1 HS1 HNI hbgr hlr9
                        by_cases hdeep : 16 ≤ (x :: s4).length
                        · have htr := unhide HTR
                          rw [if_pos hdeep] at htr
                          have ha := unhide HA2
                          rw [← htr, if_pos (by simp)] at ha
                          have he := unhide HE4
                          rw [ha, if_pos (by simp)] at he
                          have HF := hide he
                          have hd1 : (16 : Int) < (s4.length : Int) + 1 + 1 := by simp only [List.length_cons] at hdeep; omega
                          clear htr HTR ha HA2 he HE4
                          have hRq := ((unhide HS2).bel.block h0 (by omega)).trans hR3
                          have xa := (two_cell0 hRq).1
                          have xb := (two_cell0 hRq).2
                          have xc := (two_cell1 hRq).1
                          have xd := (two_cell1 hRq).2
                          clear hRq
                          go_wp2
                          refine bodyPost_ret (results_tmp_cell rfl _ _ _ _ _ rfl (run_loadVar_row _ _ _ _ _ _ _ (two_set1 (two_set0 (((unhide HS2).bel.block h0 (by omega)).trans hR3) _) _) Tryz.underlying29 rfl (by kernel_rfl))) rfl ⟨_, by rw [unhide HF]; rfl, ?_, ?_⟩
                          · rw [unhide HF]
                            exact World.ownsRow_nil _ _ _ _
                          · try rw [hh0]
                            exact below_at (below_at (hb3.trans ((unhide HS2).bel.mono (by omega))) (by omega) (by have := (unhide HS2).big; omega)) (by omega) (by have := (unhide HS2).big; simp; omega)
                        · have htr := unhide HTR
                          rw [if_neg hdeep] at htr
                          have HTR2 := hide htr.symm
                          have hd1 : (s4.length : Int) + 1 + 1 ≤ 16 := by simp only [List.length_cons] at hdeep; omega
                          clear htr HTR
                          obtain ⟨m0, m1, m2, m3⟩ := unhide HCT0 _ _ _ _ _ (unhide HS2)
                          go_upto_region 31 with (first
                            | (go_at_call 72; refine (reftok_any _ _ _ _ _).mono ?_; rintro e w2 ⟨rfl, hb2⟩; have HS3 := hide ((unhide HS2).below hb2); have HS4 := hide (((unhide HS2).below hb2).alloc (.cells #[.int .u8 (1 : Nat), .string ⟨#[]⟩, .int .i64 rn, .int .i64 rc] 124)); have HNZ := hide (cells4_new w2 (.int .u8 (1 : Nat)) (.string ⟨#[]⟩) (.int .i64 rn) (.int .i64 rc) 124); have hbg2 : p + 1 ≤ w2.heap.size := (by have := (unhide HS3).big; omega))
                            | (at_builtin; refine wpList_appTok1 (B := p + 1) (t := (1, [], rn, rc)) rfl (.tmp 168) (.tmp 176) rfl rfl (unhide HS4).ref.toks w2.heap.size 1 rfl (unhide HNZ) (by omega) (by rw [World.size_alloc]; omega) ?_; intro g4 cap4 w4 hown4 hgrow4 hat4))
                          have hS5 := (unhide HS4).app0 (v' := .slice (some ⟨g4, 0, none⟩) (o3.length + 1) cap4) hgrow4 hown4 hat4
                          have HS5 := hide hS5
                          clear hS5 hown4 hgrow4 hat4 HS4 HNZ HS2 HS3
                          obtain ⟨tt0, tt1, tt2, tt3⟩ := unhide HCT0 _ _ _ _ _ (unhide HS5)
                          have HSY := hide ((unhide HS5).alloc (.cells #[.int .u8 k, .string ⟨tx.toArray⟩, .int .i64 rn, .int .i64 rc] 124))
                          have HNY := hide (cells4_new (w4) (.int .u8 k) (.string ⟨tx.toArray⟩) (.int .i64 rn) (.int .i64 rc) 124)
                          have ha := unhide HA2
                          rw [unhide HTR2, if_neg (by simp)] at ha
                          simp only at ha
                          have HA3 := hide ha
                          have hbg : p + 1 ≤ (w4).heap.size := by have := (unhide HS5).big; omega
                          have hbnd : (o3 ++ [((1, [], rn, rc) : Tk)]).length + 1 ≤ 1000000000 := by simp; omega
                          have HBND := hide (show (o3 ++ [((1, [], rn, rc) : Tk)]).length + 1 + 2 * f + 0 ≤ o2.length + 40 * (rt.length + 1) by simp; omega)
                          have hrwf : P19.Row ((rc : Int) :: x :: s4) := P19.row_push hrow3 (by omega)
                          have hlnf : ((rc : Int) :: x :: s4).length ≤ 16 := by simp; omega
                          clear ha HA2
                          go_wp2_with (at_builtin; refine wpList_appTok1 (B := p + 1) (t := (k, tx, rn, rc)) rfl (.tmp 178) (.tmp 183) rfl rfl (unhide HSY).ref.toks (w4).heap.size 1 rfl (unhide HNY) hbnd (by rw [World.size_alloc]; omega) ?_; intro g2 cap2 w9 hown2 hgrow2 hat2)
                          have hS2 := (unhide HSY).app0 (v' := .slice (some ⟨g2, 0, none⟩) ((o3 ++ [((1, [], rn, rc) : Tk)]).length + 1) cap2) hgrow2 hown2 hat2
                          try simp only [List.length_append, List.length_singleton, List.length_reverse, List.length_cons, List.length_nil, Nat.zero_add] at hS2
                          go_roundg f
                          case measure => omega
                          case rel => exact ⟨0 + 1, (o3 ++ [((1, [], rn, rc) : Tk)]) ++ [((k, tx, rn, rc) : Tk)], (rc : Int) :: x :: s4, by omega, by go_num, hrwf, hlnf, by rw [if_neg (by omega), List.length_append, List.length_singleton]; exact unhide HBND, hS2.ref, hide hS2.keep, hS2.bel, by rw [show decide (0 + 1 = 0) = false from by simp, if_neg (by omega), Nat.add_sub_cancel, unhide HTJ]; exact HA3⟩
                      · have hxe : x = (rc : Int) := by omega
                        rw [if_neg (fun h => h.elim (fun h => hgt h.2) (fun h => by cases h.1))] at htr
                        have HTR2 := hide htr.symm
                        have hge : (rc : Int) ≤ x := by omega
                        clear htr hxe hgt hlt1
                        go_upto_region 31 with fail
                        obtain ⟨tt0, tt1, tt2, tt3⟩ := unhide HCT0 _ _ _ _ _ (unhide HS0)
                        have HSY := hide ((unhide HS0).alloc (.cells #[.int .u8 k, .string ⟨tx.toArray⟩, .int .i64 rn, .int .i64 rc] 124))
                        have HNY := hide (cells4_new (wr) (.int .u8 k) (.string ⟨tx.toArray⟩) (.int .i64 rn) (.int .i64 rc) 124)
                        have ha := unhide HA2
                        rw [unhide HTR2, if_neg (by simp)] at ha
                        simp only at ha
                        have HA3 := hide ha
                        have hbg : p + 1 ≤ (wr).heap.size := by have := (unhide HS0).big; omega
                        have hbnd : (o3).length + 1 ≤ 1000000000 := by omega
                        have HBND := hide (show (o3).length + 1 + 2 * f + 0 ≤ o2.length + 40 * (rt.length + 1) by omega)
                        have hrwf : P19.Row (x :: s4) := hrow3
                        have hlnf : (x :: s4).length ≤ 16 := by simp; omega
                        clear ha HA2
                        go_wp2_with (at_builtin; refine wpList_appTok1 (B := p + 1) (t := (k, tx, rn, rc)) rfl (.tmp 178) (.tmp 183) rfl rfl (unhide HSY).ref.toks (wr).heap.size 1 rfl (unhide HNY) hbnd (by rw [World.size_alloc]; omega) ?_; intro g2 cap2 w9 hown2 hgrow2 hat2)
                        have hS2 := (unhide HSY).app0 (v' := .slice (some ⟨g2, 0, none⟩) ((o3).length + 1) cap2) hgrow2 hown2 hat2
                        try simp only [List.length_append, List.length_singleton, List.length_reverse, List.length_cons, List.length_nil, Nat.zero_add] at hS2
                        go_roundg f
                        case measure => omega
                        case rel => exact ⟨0 + 1, (o3) ++ [((k, tx, rn, rc) : Tk)], x :: s4, by omega, by go_num, hrwf, hlnf, by rw [if_neg (by omega), List.length_append, List.length_singleton]; exact unhide HBND, hS2.ref, hide hS2.keep, hS2.bel, by rw [show decide (0 + 1 = 0) = false from by simp, if_neg (by omega), Nat.add_sub_cancel, unhide HTJ]; exact HA3⟩
                  · have hj0 : ((j : Int) == 0) = false := by simp; omega
                    have hj2 : (0 : Int) < (j : Int) := by omega
                    obtain ⟨kp, hkp, hkc⟩ := unhide HPK hj
                    have htr := unhide HRT
                    rw [show decide (j = 0) = false from by simp; omega, if_neg (by omega), hkp] at htr
                    rw [if_neg (by omega)] at hol9
                    have htc0 : (0 : Int) < tc := by have := hn3 hj; omega
                    have hjw2 : IntKind.i64.wrap ((j : Int) - 1) = ((j - 1 : Nat) : Int) := by rw [show ((j : Int) - 1) = ((j - 1 : Nat) : Int) from by omega]; exact IntWalk.i64_in _ (by omega)
                    have hjl1 : ((j - 1 : Nat) : Int) < (m : Int) := by omega
                    have hjl2 : (j : Int) - 1 = ((j - 1 : Nat) : Int) := by omega
                    obtain ⟨jp, hjp⟩ : ∃ jp, j - 1 = jp := ⟨_, rfl⟩
                    rw [hjp] at hkc hjw2 hjl1 hjl2
                    clear HRT HPK ho3 hn3 hn4 hkp hjp
                    unfold P19.turn at htr
                    rw [if_neg (fun h => by cases h.1)] at htr
                    by_cases h3 : kp = 3
                    · have hk3e : ((kp : Int) == 3) = true := by rw [h3]; rfl
                      rw [if_pos (.inr ⟨rfl, h3⟩)] at htr
                      clear h3
                      have HTR := hide htr
                      clear htr
                      have hS1 := (unhide HS0).alloc (.cells #[.int .i64 tc] 3)
                      have HS1 := hide hS1
                      have hnewI : (wr.alloc (.cells #[.int .i64 tc] 3)).cell? ⟨wr.heap.size, 0, none⟩ = some (.int .i64 tc) := (Boxed.new wr 3 (.int .i64 tc)).cell
                      have HNI := hide hnewI
                      have hbgr : p + 1 ≤ (wr.alloc (.cells #[.int .i64 tc] 3)).heap.size := by rw [World.size_alloc]; omega
                      have hlr9 : (x :: s4).reverse.length + 1 ≤ 1000000000 := by simp; omega
                      clear hS1 hnewI
                      go_upto_region 28 with (at_builtin; refine wpList_appInt1 (B := p + 1) rfl (.tmp 155) (.tmp 161) rfl rfl (unhide HS1).ref.row wr.heap.size 1 rfl (unhide HNI) hlr9 hbgr ?_; intro g1 cap1 w1 hown1 hgrow1 hat1)
                      have hS2 := (unhide HS1).app1 (s' := tc :: x :: s4) (r' := .slice (some ⟨g1, 0, none⟩) ((x :: s4).reverse.length + 1) cap1) hgrow1 (by have h5 := hown1; rw [← List.reverse_cons] at h5; exact h5) hat1
                      have HS2 := hide hS2
                      clear hS2 hown1 hgrow1 hat1 HS1 HNI hbgr hlr9
                      by_cases hdeep : 16 ≤ (x :: s4).length
                      · have htr := unhide HTR
                        rw [if_pos hdeep] at htr
                        have ha := unhide HA2
                        rw [← htr, if_pos (by simp)] at ha
                        have he := unhide HE4
                        rw [ha, if_pos (by simp)] at he
                        have HF := hide he
                        have hd1 : (16 : Int) < (s4.length : Int) + 1 + 1 := by simp only [List.length_cons] at hdeep; omega
                        clear htr HTR ha HA2 he HE4
                        have hRq := ((unhide HS2).bel.block h0 (by omega)).trans hR3
                        have xa := (two_cell0 hRq).1
                        have xb := (two_cell0 hRq).2
                        have xc := (two_cell1 hRq).1
                        have xd := (two_cell1 hRq).2
                        clear hRq
                        go_wp2
                        refine bodyPost_ret (results_tmp_cell rfl _ _ _ _ _ rfl (run_loadVar_row _ _ _ _ _ _ _ (two_set1 (two_set0 (((unhide HS2).bel.block h0 (by omega)).trans hR3) _) _) Tryz.underlying29 rfl (by kernel_rfl))) rfl ⟨_, by rw [unhide HF]; rfl, ?_, ?_⟩
                        · rw [unhide HF]
                          exact World.ownsRow_nil _ _ _ _
                        · try rw [hh0]
                          exact below_at (below_at (hb3.trans ((unhide HS2).bel.mono (by omega))) (by omega) (by have := (unhide HS2).big; omega)) (by omega) (by have := (unhide HS2).big; simp; omega)
                      · have htr := unhide HTR
                        rw [if_neg hdeep] at htr
                        have HTR2 := hide htr.symm
                        have hd1 : (s4.length : Int) + 1 + 1 ≤ 16 := by simp only [List.length_cons] at hdeep; omega
                        clear htr HTR
                        obtain ⟨m0, m1, m2, m3⟩ := unhide HCT _ _ _ _ _ (unhide HS2)
                        go_upto_region 31 with (first
                          | (go_at_call 72; refine (reftok_any _ _ _ _ _).mono ?_; rintro e w2 ⟨rfl, hb2⟩; have HS3 := hide ((unhide HS2).below hb2); have HS4 := hide (((unhide HS2).below hb2).alloc (.cells #[.int .u8 (1 : Nat), .string ⟨#[]⟩, .int .i64 rn, .int .i64 tc] 124)); have HNZ := hide (cells4_new w2 (.int .u8 (1 : Nat)) (.string ⟨#[]⟩) (.int .i64 rn) (.int .i64 tc) 124); have hbg2 : p + 1 ≤ w2.heap.size := (by have := (unhide HS3).big; omega))
                          | (at_builtin; refine wpList_appTok1 (B := p + 1) (t := (1, [], rn, tc)) rfl (.tmp 168) (.tmp 176) rfl rfl (unhide HS4).ref.toks w2.heap.size 1 rfl (unhide HNZ) (by omega) (by rw [World.size_alloc]; omega) ?_; intro g4 cap4 w4 hown4 hgrow4 hat4))
                        have hS5 := (unhide HS4).app0 (v' := .slice (some ⟨g4, 0, none⟩) (o3.length + 1) cap4) hgrow4 hown4 hat4
                        have HS5 := hide hS5
                        clear hS5 hown4 hgrow4 hat4 HS4 HNZ HS2 HS3
                        obtain ⟨tt0, tt1, tt2, tt3⟩ := unhide HCT _ _ _ _ _ (unhide HS5)
                        have HSY := hide ((unhide HS5).alloc (.cells #[.int .u8 k, .string ⟨tx.toArray⟩, .int .i64 rn, .int .i64 tc] 124))
                        have HNY := hide (cells4_new (w4) (.int .u8 k) (.string ⟨tx.toArray⟩) (.int .i64 rn) (.int .i64 tc) 124)
                        have ha := unhide HA2
                        rw [unhide HTR2, if_neg (by simp)] at ha
                        simp only at ha
                        have HA3 := hide ha
                        have hbg : p + 1 ≤ (w4).heap.size := by have := (unhide HS5).big; omega
                        have hbnd : (o3 ++ [((1, [], rn, tc) : Tk)]).length + 1 ≤ 1000000000 := by simp; omega
                        have HBND := hide (show (o3 ++ [((1, [], rn, tc) : Tk)]).length + 1 + 2 * f + 0 ≤ o2.length + 40 * (rt.length + 1) by simp; omega)
                        have hrwf : P19.Row ((tc : Int) :: x :: s4) := P19.row_push hrow3 htc0
                        have hlnf : ((tc : Int) :: x :: s4).length ≤ 16 := by simp; omega
                        clear ha HA2
                        go_wp2_with (at_builtin; refine wpList_appTok1 (B := p + 1) (t := (k, tx, rn, tc)) rfl (.tmp 178) (.tmp 183) rfl rfl (unhide HSY).ref.toks (w4).heap.size 1 rfl (unhide HNY) hbnd (by rw [World.size_alloc]; omega) ?_; intro g2 cap2 w9 hown2 hgrow2 hat2)
                        have hS2 := (unhide HSY).app0 (v' := .slice (some ⟨g2, 0, none⟩) ((o3 ++ [((1, [], rn, tc) : Tk)]).length + 1) cap2) hgrow2 hown2 hat2
                        try simp only [List.length_append, List.length_singleton, List.length_reverse, List.length_cons, List.length_nil, Nat.zero_add] at hS2
                        go_roundg f
                        case measure => omega
                        case rel => exact ⟨j + 1, (o3 ++ [((1, [], rn, tc) : Tk)]) ++ [((k, tx, rn, tc) : Tk)], (tc : Int) :: x :: s4, by omega, by go_num, hrwf, hlnf, by rw [if_neg (by omega), List.length_append, List.length_singleton]; exact unhide HBND, hS2.ref, hide hS2.keep, hS2.bel, by rw [show decide (j + 1 = 0) = false from by simp, if_neg (by omega), Nat.add_sub_cancel, unhide HTJ]; exact HA3⟩
                    · have hk3e : ((kp : Int) == 3) = false := by simp; omega
                      rw [if_neg (fun h => h.elim (fun h => by cases h.1) (fun h => h3 h.2))] at htr
                      have HTR2 := hide htr.symm
                      clear htr h3
                      go_upto_region 31 with fail
                      obtain ⟨tt0, tt1, tt2, tt3⟩ := unhide HCT _ _ _ _ _ (unhide HS0)
                      have HSY := hide ((unhide HS0).alloc (.cells #[.int .u8 k, .string ⟨tx.toArray⟩, .int .i64 rn, .int .i64 tc] 124))
                      have HNY := hide (cells4_new (wr) (.int .u8 k) (.string ⟨tx.toArray⟩) (.int .i64 rn) (.int .i64 tc) 124)
                      have ha := unhide HA2
                      rw [unhide HTR2, if_neg (by simp)] at ha
                      simp only at ha
                      have HA3 := hide ha
                      have hbg : p + 1 ≤ (wr).heap.size := by have := (unhide HS0).big; omega
                      have hbnd : (o3).length + 1 ≤ 1000000000 := by omega
                      have HBND := hide (show (o3).length + 1 + 2 * f + 0 ≤ o2.length + 40 * (rt.length + 1) by omega)
                      have hrwf : P19.Row (x :: s4) := hrow3
                      have hlnf : (x :: s4).length ≤ 16 := by simp; omega
                      clear ha HA2
                      go_wp2_with (at_builtin; refine wpList_appTok1 (B := p + 1) (t := (k, tx, rn, tc)) rfl (.tmp 178) (.tmp 183) rfl rfl (unhide HSY).ref.toks (wr).heap.size 1 rfl (unhide HNY) hbnd (by rw [World.size_alloc]; omega) ?_; intro g2 cap2 w9 hown2 hgrow2 hat2)
                      have hS2 := (unhide HSY).app0 (v' := .slice (some ⟨g2, 0, none⟩) ((o3).length + 1) cap2) hgrow2 hown2 hat2
                      try simp only [List.length_append, List.length_singleton, List.length_reverse, List.length_cons, List.length_nil, Nat.zero_add] at hS2
                      go_roundg f
                      case measure => omega
                      case rel => exact ⟨j + 1, (o3) ++ [((k, tx, rn, tc) : Tk)], x :: s4, by omega, by go_num, hrwf, hlnf, by rw [if_neg (by omega), List.length_append, List.length_singleton]; exact unhide HBND, hS2.ref, hide hS2.keep, hS2.bel, by rw [show decide (j + 1 = 0) = false from by simp, if_neg (by omega), Nat.add_sub_cancel, unhide HTJ]; exact HA3⟩
      · have hEe : (E == 0) = false := by simpa using hE
        have hEn : (E != 0) = true := by simpa using hE
        have he := unhide HE2
        rw [if_pos hE] at he
        have HF := hide he
        clear he HE2 hE
        go_wp2
        go_region
        all_goals go_wp2
        all_goals (
          refine bodyPost_ret (results_tmp_cell rfl _ _ _ _ _ rfl (run_loadVar_row _ _ _ _ _ _ _ (two_set1 (two_set0 (unhide HR5) _) _) Tryz.underlying29 rfl (by kernel_rfl))) rfl ⟨_, by rw [unhide HF]; rfl, ?_, ?_⟩
          · rw [unhide HF]
            exact World.ownsRow_nil _ _ _ _
          · rw [hh0]
            exact below_drew (below_at (below_at (hbw5) (by omega) (by omega)) (by omega) (by simp; omega)))
end Go.Proofs.YtnjokdbblmlhhaaGreatDoor
