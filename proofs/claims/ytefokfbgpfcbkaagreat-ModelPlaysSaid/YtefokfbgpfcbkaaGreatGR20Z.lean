/- Lemmas of this claim (a part of its texts, kept as far as the claim reaches them). -/
import Derived.Test.YtefokfbgpfcbkaaGreatGN20Z
import Derived.Test.YtefokfbgpfcbkaaGreatGPZ
import Derived.Test.YtefokfbgpfcbkaaGreatGW20Z
import Derived.Test.YtefokfbgpfcbkaaGreatGAZ
import Derived.Test.YtefokfbgpfcbkaaGreatGW17Z
import Derived.Test.YtefokfbgpfcbkaaGreatGV17Z
import Derived.Test.YtefokfbgpfcbkaaGreatGW18Z
import Derived.Test.YtefokfbgpfcbkaaGreatGR18Z
import Derived.Laws.Concat
import Derived.Deep.CutRange
import Derived.Deep.CutBlock
import Derived.Deep.RegionWith
import Derived.Shelf.RegionOpenPlain
import Derived.RangeFuncRecord
namespace Go.Proofs.YtefokfbgpfcbkaaGreat
set_option linter.unusedVariables false
set_option linter.unusedSimpArgs false
open Go.RowKit
end Go.Proofs.YtefokfbgpfcbkaaGreat
namespace Go.Proofs.YtefokfbgpfcbkaaGreat
set_option linter.unusedVariables false
set_option linter.unusedSimpArgs false
namespace P20
def shortKs (ks : List (List UInt8)) : Bool := ks.all (fun x => decide (x.length ≤ 200))
mutual
def T.small : Nat → T → Nat → Option Nat
  | lv, .mk k t ks ds l, n => if lv = 0 ∨ n = 0 ∨ 5000 < t.length ∨ 200 < ks.length ∨ shortKs ks = false then none else smallL (lv - 1) ds (n - 1)
def smallL : Nat → List T → Nat → Option Nat
  | _, [], n => some n
  | lv, d :: ds, n => match d.small lv n with
    | none => none
    | some m => smallL lv ds m
end
theorem short_all {ks : List (List UInt8)} (h : ¬ shortKs ks = false) : ∀ x ∈ ks, x.length ≤ 200 := by
  intro x hx
  simp [shortKs] at h
  exact h x hx
mutual
theorem T.size_le : ∀ (d : T) (lv : Nat), (d.size lv).1 ≤ lv
  | .mk k t ks ds l, lv => by
    have := sizeL_le ds (lv - 1)
    unfold T.size
    split
    · simp
    · show _ + 1 ≤ lv; omega
theorem sizeL_le : ∀ (ds : List T) (lv : Nat), (sizeL lv ds).1 ≤ lv
  | [], lv => by simp [sizeL]
  | d :: ds, lv => by
    have := T.size_le d lv
    have := sizeL_le ds lv
    unfold sizeL
    show max _ _ ≤ lv
    omega
end
mutual
theorem T.small_ok : ∀ (d : T) (lv n m : Nat), d.small lv n = some m → n ≤ 1000000000 → 1 ≤ lv ∧ n = m + (d.size lv).2 ∧ 1 ≤ (d.size lv).2 ∧ okT d ∧ d.cut lv = d
  | .mk k t ks ds l, lv, n, m, h, hn => by
    unfold T.small at h
    split at h
    · cases h
    · rename_i h0
      simp only [not_or] at h0
      obtain ⟨h1, h2, h3, h4, h5⟩ := h0
      obtain ⟨q1, q2, q3, q4, q5⟩ := smallL_ok ds (lv - 1) (n - 1) m h (by omega)
      have hs : (T.mk k t ks ds l).size lv = ((sizeL (lv - 1) ds).1 + 1, (sizeL (lv - 1) ds).2 + 1) := by unfold T.size; rw [if_neg h1]
      rw [hs]
      refine ⟨by omega, by show n = m + (_ + 1); omega, by show 1 ≤ _ + 1; omega, ?_, ?_⟩
      · unfold okT
        exact ⟨by omega, by omega, fun x hx => by have := short_all h5 x hx; omega, by omega, q3⟩
      · unfold T.cut
        split
        · rw [q5]
        · rename_i hl
          rw [q4 (by omega)]
theorem smallL_ok : ∀ (ds : List T) (lv n m : Nat), smallL lv ds n = some m → n ≤ 1000000000 → n = m + (sizeL lv ds).2 ∧ ds.length ≤ (sizeL lv ds).2 ∧ okTs ds ∧ (lv = 0 → ds = []) ∧ cutL lv ds = ds
  | [], lv, n, m, h, hn => by
    simp only [smallL, Option.some.injEq] at h
    refine ⟨by simp [sizeL, h], by simp [sizeL], trivial, fun _ => rfl, rfl⟩
  | d :: ds, lv, n, m, h, hn => by
    unfold smallL at h
    split at h
    · cases h
    · rename_i m1 hm1
      obtain ⟨q1, q2, q3, q4, q5⟩ := T.small_ok d lv n m1 hm1 hn
      obtain ⟨r1, r2, r3, r4, r5⟩ := smallL_ok ds lv m1 m h (by omega)
      unfold sizeL okTs cutL
      refine ⟨by show n = m + (_ + _); omega, by show _ + 1 ≤ _ + _; omega, ⟨q4, r3⟩, fun e => by omega, by rw [q5, r5]⟩
end
end P20
end Go.Proofs.YtefokfbgpfcbkaaGreat
namespace Go.Proofs.YtefokfbgpfcbkaaGreat
set_option linter.unusedVariables false
set_option linter.unusedSimpArgs false
open Go.RowKit
def RSizeC (d : Nd) : Prop := ∀ (lv : Nat) (w : World), d.In w → lv ≤ 1000 → (d.bare.size lv).2 ≤ 1000000000 → Calls Tryz.prog 160 #[d.val, .int .i64 lv] w fun x w' => x = .returned (.tuple #[.int .i64 (d.bare.size lv).1, .int .i64 (d.bare.size lv).2]) ∧ Below w.heap.size w w'
theorem sizeL_take (lv : Nat) {ds : List Nd} {i : Nat} {d : Nd} (h : ds[i]? = some d) : P20.sizeL lv (bareL (ds.take (i + 1))) = (max (P20.sizeL lv (bareL (ds.take i))).1 (d.bare.size lv).1, (P20.sizeL lv (bareL (ds.take i))).2 + (d.bare.size lv).2) := by
  have e : ∀ (a : List P20.T) (x : P20.T), P20.sizeL lv (a ++ [x]) = (max (P20.sizeL lv a).1 (x.size lv).1, (P20.sizeL lv a).2 + (x.size lv).2) := fun a x => by
    induction a with
    | nil => simp [P20.sizeL]
    | cons y a ih => simp only [List.cons_append, P20.sizeL, ih]; refine Prod.ext ?_ ?_ <;> simp only <;> omega
  have ht : ds.take (i + 1) = ds.take i ++ [d] := by rw [List.take_add_one, h]; rfl
  rw [ht, bareL_append]
  exact e _ _
theorem sizeL_part (lv : Nat) (ds : List Nd) (i : Nat) : (P20.sizeL lv (bareL (ds.take i))).2 ≤ (P20.sizeL lv (bareL ds)).2 := by
  have e : ∀ (a b : List P20.T), (P20.sizeL lv (a ++ b)).2 = (P20.sizeL lv a).2 + (P20.sizeL lv b).2 := fun a b => by
    induction a with
    | nil => simp [P20.sizeL]
    | cons y a ih => simp only [List.cons_append, P20.sizeL, ih]; omega
  have := e (bareL (ds.take i)) (bareL (ds.drop i))
  rw [← bareL_append, List.take_append_drop] at this
  omega
theorem sizeL_mem (lv : Nat) {ds : List Nd} {d : Nd} (h : d ∈ ds) : (d.bare.size lv).2 ≤ (P20.sizeL lv (bareL ds)).2 := by
  induction ds with
  | nil => simp at h
  | cons y a ih =>
    simp only [bareL, P20.sizeL]
    rcases List.mem_cons.1 h with rfl | h
    · omega
    · have := ih h; omega
set_option maxRecDepth 100000 in
set_option maxHeartbeats 4000000 in
theorem rsize_node (k : Nat) (t : List UInt8) (ka : Option Addr) (kc : Nat) (ks : List (List UInt8)) (da : Option Addr) (dc : Nat) (ds : List Nd) (l : Int) (hds : ∀ d ∈ ds, RSizeC d) : RSizeC (.mk k t ka kc ks da dc ds l) := by
  intro lv w hin hlv hsz
  have e2 := hin.fit.kidsL
  simp only [Nd.kids] at e2
  obtain ⟨n, hN⟩ : ∃ n, ds.length = n := ⟨_, rfl⟩
  have hk1 := hin.kids
  simp only [Nd.da, Nd.kids] at hk1
  obtain ⟨W, hW⟩ : ∃ W, w.alloc (.cells #[.int .u8 k, .string ⟨t.toArray⟩, .slice ka ks.length kc, .slice da n dc, .int .i64 l] 61) = W := ⟨_, rfl⟩
  have hb : Below w.heap.size w W := by rw [← hW]; exact (Below.refl _ w).alloc (Nat.le_refl _) _
  have g0 : W.heap[w.heap.size]? = some (.cells #[.int .u8 k, .string ⟨t.toArray⟩, .slice ka ks.length kc, .slice da n dc, .int .i64 l] 61) := by rw [← hW]; exact World.alloc_heap_new _ _
  have hl0 : w.heap.size < W.heap.size := (Array.getElem?_eq_some_iff.1 g0).1
  rw [Nd.val_eq, hN]
  have HK1 := hide hk1
  have HDS := hide hds
  have HW := hide hW
  have HB := hide hb
  have HG0 := hide g0
  have HN := hide hN
  unfold maxLen at e2
  rw [hN] at e2
  simp only [Nd.bare, P20.T.size] at hsz ⊢
  clear hW g0 hin hds hb hk1 hN
  cases lv with
  | zero =>
    rw [if_pos rfl]
    clear hsz
    go_enter Tryz.func160, Tryz.ntmps160
    go_upto_region 1 with fail
    rw [unhide HW]
    go_wp2
    exact bodyPost_ret (results_tmp2 rfl _ _ _) rfl ⟨rfl, unhide HB⟩
  | succ lv =>
    rw [if_neg (by omega)] at hsz ⊢
    simp only [Nat.add_sub_cancel] at hsz ⊢
    have hlw : IntKind.i64.wrap (((lv + 1 : Nat) : Int) - 1) = (lv : Int) := by rw [IntWalk.i64_in _ (by omega)]; omega
    have jl : (1 : Int) ≤ ((lv + 1 : Nat) : Int) := by omega
    obtain ⟨L1, hL1⟩ : ∃ L1 : Int, ((lv + 1 : Nat) : Int) = L1 := ⟨_, rfl⟩
    rw [hL1] at hlw jl ⊢
    have HSZ := hide hsz
    have HL1 := hide hL1
    clear hsz hL1
    go_enter Tryz.func160, Tryz.ntmps160
    go_upto_region 1 with fail
    rw [unhide HW]
    go_wp2
    go_loopg [6, 7, 8] n (fun g s6 s7 s8 wx => ∃ (i x y : Nat), i + g = n ∧ s6 = .int .i64 x ∧ s7 = .int .i64 y ∧ s8 = .int .i64 i ∧ Hid (P20.sizeL lv (bareL (ds.take i)) = (x, y - 1)) ∧ 1 ≤ y ∧ Hid (Below W.heap.size W wx))
    case atStart => exact ⟨0, 0, 1, by omega, by go_num, by go_num, by go_num, hide (by simp [bareL, P20.sizeL]), by omega, hide (Below.refl _ _)⟩
    case round =>
      obtain ⟨i, x, y, hig, rfl, rfl, rfl, HS, hy1, HBX⟩ := hrel
      have hbx := unhide HBX
      obtain ⟨⟨x0, _⟩, ⟨x1, _⟩, ⟨x2, _⟩, ⟨x3, _⟩, ⟨x4, _⟩⟩ := five_cell ((hbx.block w.heap.size hl0).trans (unhide HG0))
      have hbw : Below w.heap.size w wr := (unhide HB).trans (hbx.mono (unhide HB).size)
      have HBW := hide hbw
      have hxl : x ≤ lv := by have := P20.sizeL_le (bareL (ds.take i)) lv; rw [unhide HS] at this; exact this
      have hyl : y ≤ 1000000000 := by have := sizeL_part lv ds i; rw [unhide HS] at this; have := unhide HSZ; simp only at *; omega
      clear hbx hbw
      cases gk with
      | zero =>
        have e1 : (n : Int) = (i : Int) := by omega
        have HQ := hide (show i = n by omega)
        have hkx : IntKind.i64.wrap ((x : Int) + 1) = (x : Int) + 1 := IntWalk.i64_in _ (by omega)
        go_wp2
        refine bodyPost_ret (results_tmp2 rfl _ _ _) rfl ⟨?_, unhide HBW⟩
        have h9 := unhide HS
        rw [unhide HQ, ← unhide HN, List.take_length] at h9
        rw [h9]
        show Ending.returned (.tuple #[.int .i64 ((x : Int) + 1), .int .i64 (y : Int)]) = _
        simp only
        rw [show (((x + 1 : Nat)) : Int) = (x : Int) + 1 from by omega, show (((y - 1 + 1 : Nat)) : Int) = (y : Int) from by omega]
      | succ g' =>
        have hlt : (i : Int) < (n : Int) := by omega
        have hki : IntKind.i64.wrap ((i : Int) + 1) = (i : Int) + 1 := IntWalk.i64_in _ (by omega)
        obtain ⟨d, hg1⟩ := nth_of (unhide HN) (show i < n by omega)
        have htk := sizeL_take lv hg1
        rw [unhide HS] at htk
        have hmem := sizeL_mem lv (List.mem_of_getElem? hg1)
        have hcl0 := unhide HDS d (List.mem_of_getElem? hg1)
        obtain ⟨b, o, k1, t1, ka1, kc1, ks1, da1, dc1, ds1, l1, rfl, rfl, c0, c1, c2, c3, c4, hin⟩ := kid_open ((unhide HK1).below (unhide HBW)) hg1
        obtain ⟨p, hp⟩ : ∃ p, (Nd.mk k1 t1 ka1 kc1 ks1 da1 dc1 ds1 l1).bare.size lv = p := ⟨_, rfl⟩
        have hp1 : p.1 ≤ lv := by rw [← hp]; exact P20.T.size_le _ _
        rw [hp] at htk hmem
        have hp2 : p.2 ≤ 1000000000 := by have := unhide HSZ; omega
        have hcl := hcl0 lv wr hin (by omega) (by rw [hp]; exact hp2)
        rw [Nd.val_eq, hp] at hcl
        have hyp : y - 1 + p.2 ≤ 1000000000 := by
          have := sizeL_part lv ds (i + 1)
          rw [htk] at this
          have := unhide HSZ
          simp only at *
          omega
        have HCL := hide hcl
        have HTK := hide htk
        have hb1 := cellLt c0
        have hky : IntKind.i64.wrap ((y : Int) + (p.2 : Int)) = (y : Int) + (p.2 : Int) := IntWalk.i64_in _ (by omega)
        clear hcl0 hcl hg1 hin hp htk hmem HS
        go_wp2_with (go_at_call 160; refine (unhide HCL).mono ?_; rintro x' w2 ⟨rfl, hbd⟩)
        have HBN := hide ((unhide HBX).trans (hbd.mono (unhide HBX).size))
        go_roundg g'
        case measure => omega
        case rel => exact ⟨i + 1, max x p.1, y + p.2, by omega, by go_num, by go_num, by go_num, hide (by rw [unhide HTK]; refine Prod.ext rfl ?_; show y - 1 + p.2 = y + p.2 - 1; omega), by omega, HBN⟩
theorem rsize_any (d : Nd) : RSizeC d := Nd.ind (p := RSizeC) rsize_node d
end Go.Proofs.YtefokfbgpfcbkaaGreat
namespace Go.Proofs.YtefokfbgpfcbkaaGreat
set_option linter.unusedVariables false
set_option linter.unusedSimpArgs false
open Go.RowKit
theorem one_cell20 {W : World} {g : Nat} {t : TypeId} {a : Value} (h : W.heap[g]? = some (.cells #[a] t)) : W.cell? ⟨g, 0, none⟩ = some a ∧ W.frozen? ⟨g, 0, none⟩ = false := by
  simp [World.cell?, World.frozen?, h]
theorem one_put20 {W : World} {g : Nat} {t : TypeId} {a : Value} (h : W.heap[g]? = some (.cells #[a] t)) (v : Value) : (W.setCell ⟨g, 0, none⟩ v).heap[g]? = some (.cells #[v] t) := by
  simp [World.setCell, Array.getElem?_modify, h]
theorem one_grown20 (W : World) (g : Nat) (v : Value) : W.grownBy (W.setCell ⟨g, 0, none⟩ v) (some g) :=
  ⟨rfl, rfl, rfl, by simp, fun i hi hne => Below.heap_setCell _ _ _ _ (by show i ≠ g; rintro rfl; exact hne rfl)⟩
def SmallPost (w : World) (b : Nat) (o : Option Nat) (x : Ending) (w' : World) : Prop :=
  x = .returned (.bool o.isSome) ∧ Hid (w.grownBy w' (some b)) ∧ ∀ m, o = some m → w'.heap[b]? = some (.cells #[.int .i64 (m : Nat)] 3)
def RSmallC (d : Nd) : Prop := ∀ (lv b n : Nat) (w : World), d.In w → lv ≤ 1000 → n ≤ 1000000000 → ¬ d.blk b → w.heap[b]? = some (.cells #[.int .i64 (n : Nat)] 3) →
  Calls Tryz.prog 108 #[d.val, .int .i64 lv, .pointer (some ⟨b, 0, none⟩)] w (SmallPost w b (d.bare.small lv n))
theorem smallL_drop (lv : Nat) {ds : List Nd} {i : Nat} {d : Nd} (h : ds[i]? = some d) (m : Nat) : P20.smallL lv (bareL (ds.drop i)) m = match d.bare.small lv m with | none => none | some q => P20.smallL lv (bareL (ds.drop (i + 1))) q := by
  rw [bareL_drop h]
  rfl
theorem short_drop {ks : List (List UInt8)} {i : Nat} {x : List UInt8} (h : ks[i]? = some x) : P20.shortKs (ks.drop i) = (decide (x.length ≤ 200) && P20.shortKs (ks.drop (i + 1))) := by
  obtain ⟨h1, h2⟩ := List.getElem?_eq_some_iff.1 h
  rw [List.drop_eq_getElem_cons h1, h2]
  rfl
set_option maxRecDepth 100000 in
set_option maxHeartbeats 8000000 in
theorem rsmall_node (k : Nat) (t : List UInt8) (ka : Option Addr) (kc : Nat) (ks : List (List UInt8)) (da : Option Addr) (dc : Nat) (ds : List Nd) (l : Int) (hds : ∀ d ∈ ds, RSmallC d) : RSmallC (.mk k t ka kc ks da dc ds l) := by
  intro lv b n w hin hlv hn hbk hb
  have hf := hin.fit
  have e1 := hf.keysL
  have e2 := hf.kidsL
  have e3 := hf.text
  simp only [Nd.keys, Nd.kids, Nd.text] at e1 e2 e3
  unfold maxLen at e1 e2 e3
  obtain ⟨N, hN⟩ : ∃ N, ds.length = N := ⟨_, rfl⟩
  obtain ⟨M, hM⟩ : ∃ M, ks.length = M := ⟨_, rfl⟩
  have hbl : b < w.heap.size := (Array.getElem?_eq_some_iff.1 hb).1
  obtain ⟨H, hH⟩ : ∃ H, w.heap.size = H := ⟨_, rfl⟩
  obtain ⟨W, hW⟩ : ∃ W, w.alloc (.cells #[.int .u8 k, .string ⟨t.toArray⟩, .slice ka M kc, .slice da N dc, .int .i64 l] 61) = W := ⟨_, rfl⟩
  have hbw : Below w.heap.size w W := by rw [← hW]; exact (Below.refl _ w).alloc (Nat.le_refl _) _
  have g0 : W.heap[H]? = some (.cells #[.int .u8 k, .string ⟨t.toArray⟩, .slice ka M kc, .slice da N dc, .int .i64 l] 61) := by rw [← hW, ← hH]; exact World.alloc_heap_new _ _
  have hbW := (hbw.block b hbl).trans hb
  have hgw := grown_of_below hbw (some b)
  rw [hH] at hbl
  obtain ⟨V, hV⟩ : ∃ V, W.setCell ⟨b, 0, none⟩ (.int .i64 ((n : Int) - 1)) = V := ⟨_, rfl⟩
  have hgV : w.grownBy V (some b) := by rw [← hV]; exact grown_trans1 hgw (one_grown20 W b _)
  have hVb : V.heap[b]? = some (.cells #[.int .i64 ((n : Int) - 1)] 3) := by rw [← hV]; exact one_put20 hbW _
  have hV0 : V.heap[H]? = some (.cells #[.int .u8 k, .string ⟨t.toArray⟩, .slice ka M kc, .slice da N dc, .int .i64 l] 61) := by rw [← hV]; exact (Below.heap_setCell _ _ _ _ (by show H ≠ b; omega)).trans g0
  obtain ⟨c0, f0⟩ := one_cell20 hbW
  obtain ⟨c1, f1⟩ := one_cell20 hVb
  obtain ⟨⟨x0, _⟩, ⟨x1, _⟩, ⟨x2, _⟩, ⟨x3, _⟩, ⟨x4, _⟩⟩ := five_cell hV0
  have hnw : IntKind.i64.wrap ((n : Int) - 1) = (n : Int) - 1 := IntWalk.i64_in _ (by omega)
  have hinV : (Nd.mk k t ka kc ks da dc ds l).In V := hin.grown hgV (fun r e => by cases e; exact hbk)
  have hk1 := hinV.kids
  have hks := hinV.fit.keys
  simp only [Nd.da, Nd.kids, Nd.ka, Nd.keys] at hk1 hks
  have hbd : ∀ d ∈ ds, ¬ d.blk b := fun d hd hx => hbk (by simp only [Nd.blk]; exact .inr (.inr ((blkL_iff b ds).2 ⟨d, hd, hx⟩)))
  have hVl : H < V.heap.size := (Array.getElem?_eq_some_iff.1 hV0).1
  rw [Nd.val_eq, hN, hM]
  simp only [Nd.bare, P20.T.small]
  have HW := hide hW
  have HV := hide hV
  have HGV := hide hgV
  have HV0 := hide hV0
  have HVB := hide hVb
  have HK1 := hide hk1
  have HKS := hide hks
  have HDS := hide hds
  have HBD := hide hbd
  have HINV := hide hinV
  have HBK := hide hbk
  have HH := hide hH
  have HN := hide hN
  have HM := hide hM
  rw [hM]
  rw [hM] at e1
  rw [hN] at e2
  clear hin hbk hb hf hbw g0 hbW hgw hgV hV0 hVb hinV hk1 hks hds hbd hW hV hN hM hH
  by_cases hz : lv = 0 ∨ n = 0 ∨ 5000 < t.length ∨ 200 < M
  · rw [if_pos (by rcases hz with h | h | h | h <;> simp [h])]
    by_cases h1 : lv = 0
    · have j1 : (lv : Int) < 1 := by omega
      clear hz h1 x0 x1 x2 x3 x4
      go_enter Tryz.func108, Tryz.ntmps108
      go_upto_region 1 with fail
      try rw [unhide HH]
      rw [unhide HW]
      go_upto_region 2 with fail
      rw [unhide HV]
      go_wp2
      go_ret
      exact ⟨rfl, HGV, fun m h => by cases h⟩
    · have j1 : (1 : Int) ≤ (lv : Int) := by omega
      by_cases h2 : n = 0
      · have j2 : (n : Int) - 1 < 0 := by omega
        clear hz h1 h2 x0 x1 x2 x3 x4
        go_enter Tryz.func108, Tryz.ntmps108
        go_upto_region 1 with fail
        try rw [unhide HH]
        rw [unhide HW]
        go_upto_region 2 with fail
        rw [unhide HV]
        go_wp2
        go_ret
        exact ⟨rfl, HGV, fun m h => by cases h⟩
      · have j2 : (0 : Int) ≤ (n : Int) - 1 := by omega
        by_cases h3 : 5000 < t.length
        · have j3 : (5000 : Int) < (t.length : Int) := by omega
          clear hz h1 h2 h3
          go_enter Tryz.func108, Tryz.ntmps108
          go_upto_region 1 with fail
          try rw [unhide HH]
          rw [unhide HW]
          go_upto_region 2 with fail
          rw [unhide HV]
          go_wp2
          go_ret
          exact ⟨rfl, HGV, fun m h => by cases h⟩
        · have j3 : (t.length : Int) ≤ 5000 := by omega
          have j4 : (200 : Int) < (M : Int) := by rcases hz with h | h | h | h <;> omega
          clear hz h1 h2 h3
          go_enter Tryz.func108, Tryz.ntmps108
          go_upto_region 1 with fail
          try rw [unhide HH]
          rw [unhide HW]
          go_upto_region 2 with fail
          rw [unhide HV]
          go_wp2
          go_ret
          exact ⟨rfl, HGV, fun m h => by cases h⟩
  have j1 : (1 : Int) ≤ (lv : Int) := by omega
  have j2 : (0 : Int) ≤ (n : Int) - 1 := by omega
  have j3 : (t.length : Int) ≤ 5000 := by omega
  have j4 : (M : Int) ≤ 200 := by omega
  have hlw : IntKind.i64.wrap ((lv : Int) - 1) = (lv : Int) - 1 := IntWalk.i64_in _ (by omega)
  have hel : (if lv = 0 ∨ n = 0 ∨ 5000 < t.length ∨ 200 < M ∨ P20.shortKs ks = false then none else P20.smallL (lv - 1) (bareL ds) (n - 1)) = if P20.shortKs (ks.drop 0) = false then none else P20.smallL (lv - 1) (bareL ds) (n - 1) := by
    rw [List.drop_zero]
    by_cases h : P20.shortKs ks = false
    · rw [if_pos (by simp [h]), if_pos h]
    · rw [if_neg (by rintro (h1 | h1 | h1 | h1 | h1) <;> first | exact hz (.inl h1) | exact hz (.inr (.inl h1)) | exact hz (.inr (.inr (.inl h1))) | exact hz (.inr (.inr (.inr h1))) | exact h h1), if_neg h]
  rw [hel]
  obtain ⟨O, hO⟩ : ∃ O, (if P20.shortKs (ks.drop 0) = false then none else P20.smallL (lv - 1) (bareL ds) (n - 1)) = O := ⟨_, rfl⟩
  rw [hO]
  have HO := hide hO
  have HZ := hide hz
  clear hel hO hz
  go_enter Tryz.func108, Tryz.ntmps108
  go_upto_region 1 with fail
  try rw [unhide HH]
  rw [unhide HW]
  go_upto_region 2 with fail
  rw [unhide HV]
  go_wp2
  go_loopg [7] M (fun g s7 wx => ∃ i : Nat, i + g = M ∧ s7 = .int .i64 i ∧ Hid ((if P20.shortKs (ks.drop i) = false then none else P20.smallL (lv - 1) (bareL ds) (n - 1)) = O) ∧ V = wx)
  case atStart => exact ⟨0, by omega, by go_num, HO, rfl⟩
  case round =>
    obtain ⟨i, hig, rfl, HI, rfl⟩ := hrel
    cases gk with
    | succ g' =>
      have hlt : (i : Int) < (M : Int) := by omega
      have hki : IntKind.i64.wrap ((i : Int) + 1) = (i : Int) + 1 := IntWalk.i64_in _ (by omega)
      obtain ⟨x, hx⟩ := nth_of (unhide HM) (show i < M by omega)
      obtain ⟨b1, o1, rfl, hc⟩ := unhide HKS i x hx
      have hI := unhide HI
      rw [short_drop hx] at hI
      clear hx
      by_cases hxl : x.length ≤ 200
      · have jx : (x.length : Int) ≤ 200 := by omega
        rw [decide_eq_true hxl, Bool.true_and] at hI
        have HI2 := hide hI
        clear hI hxl
        go_wp2
        go_roundg g'
        case measure => omega
        case rel => exact ⟨i + 1, by omega, by go_num, HI2, rfl⟩
      · have jx : (200 : Int) < (x.length : Int) := by omega
        rw [decide_eq_false hxl, Bool.false_and, if_pos rfl] at hI
        subst hI
        clear hxl
        go_wp2
        go_ret
        exact ⟨rfl, HGV, fun m h => by cases h⟩
    | zero =>
      have e1 : (M : Int) = (i : Int) := by omega
      have hI := unhide HI
      rw [List.drop_of_length_le (by rw [unhide HM]; omega), if_neg (by simp [P20.shortKs])] at hI
      have HI2 := hide hI
      clear hI HI HO
      go_wp2
      clear x0 x1 x2 x3 x4 c0 f0 c1 f1 e1
      go_loopg [8] N (fun g s8 wx => ∃ i m : Nat, i + g = N ∧ s8 = .int .i64 i ∧ m ≤ n ∧ Hid (P20.smallL (lv - 1) (bareL (ds.drop i)) m = O) ∧ Hid (V.grownBy wx (some b)) ∧ Hid (wx.heap[b]? = some (.cells #[.int .i64 (m : Nat)] 3)))
      case atStart => exact ⟨0, n - 1, by omega, by go_num, by omega, HI2, hide (World.grownBy.refl _ _), hide (by rw [unhide HVB, show (((n - 1 : Nat)) : Int) = (n : Int) - 1 from by omega])⟩
      case round =>
        obtain ⟨i2, m, hig2, rfl, hmn, HS, HGX, HXB⟩ := hrel
        have hgx := unhide HGX
        obtain ⟨⟨x0, _⟩, ⟨x1, _⟩, ⟨x2, _⟩, ⟨x3, _⟩, ⟨x4, _⟩⟩ := five_cell ((hgx.block H hVl (fun e => by injection e; omega)).trans (unhide HV0))
        have HGW := hide (grown_trans1 (unhide HGV) hgx)
        clear hgx
        cases gk with
        | zero =>
          have e1 : (N : Int) = (i2 : Int) := by omega
          have hS := unhide HS
          rw [List.drop_of_length_le (by rw [unhide HN]; omega)] at hS
          simp only [bareL, P20.smallL] at hS
          subst hS
          go_wp2
          go_ret
          exact ⟨rfl, HGW, fun q h => by cases h; exact unhide HXB⟩
        | succ g' =>
          have hlt : (i2 : Int) < (N : Int) := by omega
          have hki : IntKind.i64.wrap ((i2 : Int) + 1) = (i2 : Int) + 1 := IntWalk.i64_in _ (by omega)
          obtain ⟨d, hg1⟩ := nth_of (unhide HN) (show i2 < N by omega)
          have hS := unhide HS
          rw [smallL_drop (lv - 1) hg1] at hS
          have hmem := List.mem_of_getElem? hg1
          have hcl0 := unhide HDS d hmem
          have hnb := unhide HBD d hmem
          have hinr := (unhide HINV).grown (unhide HGX) (fun r e => by cases e; exact unhide HBK)
          have hdr := hinr.kids
          simp only [Nd.da, Nd.kids] at hdr
          obtain ⟨b2, o2, k1, t1, ka1, kc1, ks1, da1, dc1, ds1, l1, rfl, rfl, y0, y1, y2, y3, y4, hin⟩ := kid_open hdr hg1
          have hcl := hcl0 (lv - 1) b m wr hin (by omega) (by omega) hnb (unhide HXB)
          rw [show (((lv - 1 : Nat)) : Int) = (lv : Int) - 1 from by omega, Nd.val_eq] at hcl
          obtain ⟨o, ho⟩ : ∃ o, (Nd.mk k1 t1 ka1 kc1 ks1 da1 dc1 ds1 l1).bare.small (lv - 1) m = o := ⟨_, rfl⟩
          rw [ho] at hcl hS
          have hle : ∀ q, o = some q → q ≤ m := fun q e => by
            have := P20.T.small_ok _ _ _ _ (ho.trans e) (by omega)
            omega
          have HCL := hide hcl
          have HLE := hide hle
          have HS2 := hide hS
          clear hcl0 hcl hS ho hin hinr hdr hg1 hmem hnb hle HS
          cases o with
          | none =>
            have hS := unhide HS2
            simp only at hS
            subst hS
            go_wp2_with (go_at_call 108; refine (unhide HCL).mono ?_; rintro x' w2 ⟨hx2, hg2, hq2⟩; obtain rfl : x' = .returned (.bool false) := hx2)
            go_ret
            exact ⟨rfl, hide (grown_trans1 (unhide HGW) (unhide hg2)), fun q h => by cases h⟩
          | some q =>
            have hS := unhide HS2
            simp only at hS
            have HS := hide hS
            have hqm := unhide HLE q rfl
            clear hS HS2
            go_wp2_with (go_at_call 108; refine (unhide HCL).mono ?_; rintro x' w2 ⟨hx2, hg2, hq2⟩; obtain rfl : x' = .returned (.bool true) := hx2)
            have HQ2 := hide (hq2 q rfl)
            go_roundg g'
            case measure => omega
            case rel => exact ⟨i2 + 1, q, by omega, by go_num, by omega, HS, hide (grown_trans1 (unhide HGX) (unhide hg2)), HQ2⟩
theorem rsmall_any (d : Nd) : RSmallC d := Nd.ind (p := RSmallC) rsmall_node d
set_option maxRecDepth 100000 in
theorem Small_any (d : Nd) (w : World) (hin : d.In w) : Calls Tryz.prog 66 #[d.val] w fun x w' => x = .returned (.bool (d.bare.small 18 150).isSome) ∧ Below w.heap.size w w' := by
  obtain ⟨k, t, ka, kc, ks, da, dc, ds, l⟩ := d
  obtain ⟨H, hH⟩ : ∃ H, w.heap.size = H := ⟨_, rfl⟩
  obtain ⟨W, hW⟩ : ∃ W, w.alloc (.cells #[.int .u8 k, .string ⟨t.toArray⟩, .slice ka ks.length kc, .slice da ds.length dc, .int .i64 l] 61) = W := ⟨_, rfl⟩
  have hbw : Below w.heap.size w W := by rw [← hW]; exact (Below.refl _ w).alloc (Nat.le_refl _) _
  have g0 : W.heap[H]? = some (.cells #[.int .u8 k, .string ⟨t.toArray⟩, .slice ka ks.length kc, .slice da ds.length dc, .int .i64 l] 61) := by rw [← hW, ← hH]; exact World.alloc_heap_new _ _
  have hs0 : W.heap.size = H + 1 := by rw [← hW]; simp; omega
  obtain ⟨V, hV⟩ : ∃ V, W.alloc (.cells #[.int .i64 150] 3) = V := ⟨_, rfl⟩
  have hVb : V.heap[H + 1]? = some (.cells #[.int .i64 150] 3) := by rw [← hV, ← hs0]; exact World.alloc_heap_new _ _
  have hbV : Below w.heap.size w V := by rw [← hV]; exact hbw.alloc (by omega) _
  have hV0 : V.heap[H]? = some (.cells #[.int .u8 k, .string ⟨t.toArray⟩, .slice ka ks.length kc, .slice da ds.length dc, .int .i64 l] 61) := by rw [← hV]; exact (Below.heap_alloc _ _ _ (by omega)).trans g0
  obtain ⟨⟨x0, _⟩, ⟨x1, _⟩, ⟨x2, _⟩, ⟨x3, _⟩, ⟨x4, _⟩⟩ := five_cell hV0
  have hc := rsmall_any (.mk k t ka kc ks da dc ds l) 18 (H + 1) 150 V (hin.below hbV) (by omega) (by omega) (fun hb => by have := hin.lt hb; omega) hVb
  rw [Nd.val_eq] at hc
  have HC := hide hc
  have HW := hide hW
  have HV := hide hV
  have HH := hide hH
  have HB := hide hbV
  have HS0 := hide hs0
  rw [Nd.val_eq]
  clear hc hW hV hin hbw g0 hVb hbV hV0 hs0
  go_enter Tryz.func66, Tryz.ntmps66
  go_upto_region 1 with fail
  rw [unhide HW]
  try rw [unhide HH]
  go_upto_region 2 with fail
  try rw [unhide HS0]
  rw [unhide HV]
  go_wp2_with (go_at_call 108; refine (unhide HC).mono ?_; rintro x w' ⟨rfl, hg, _⟩)
  go_ret
  have hb := unhide HB
  have hg := unhide hg
  have hh := unhide HH
  refine ⟨rfl, hb.trans ?_⟩
  exact ⟨hg.os, hg.tape, hg.output, Nat.le_trans hb.size hg.size |> fun _ => hg.size, fun i hi => hg.block i (Nat.lt_of_lt_of_le hi hb.size) (fun e => by injection e; omega)⟩
end Go.Proofs.YtefokfbgpfcbkaaGreat
namespace Go.Proofs.YtefokfbgpfcbkaaGreat
set_option linter.unusedVariables false
set_option linter.unusedSimpArgs false
namespace P20
end P20
end Go.Proofs.YtefokfbgpfcbkaaGreat
