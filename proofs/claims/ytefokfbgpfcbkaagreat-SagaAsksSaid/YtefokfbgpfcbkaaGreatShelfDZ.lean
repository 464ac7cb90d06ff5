/- Lemmas of this claim (a part of its texts, kept as far as the claim reaches them). -/
import Derived.Shelf.SlSortCmp.NoneTotal
import Derived.Test.YtefokfbgpfcbkaaGreatProg
import Derived.Test.YtefokfbgpfcbkaaGreatGN20Z
import Derived.Test.YtefokfbgpfcbkaaGreatGPZ
import Derived.Test.YtefokfbgpfcbkaaGreatGW20Z
import Derived.Test.YtefokfbgpfcbkaaGreatGAZ
import Derived.Test.YtefokfbgpfcbkaaGreatGW17Z
import Derived.Test.YtefokfbgpfcbkaaGreatRows
import Derived.Test.YtefokfbgpfcbkaaGreatShelfZ
import Derived.Laws.Concat
import Derived.Deep.CutRange
import Derived.Deep.CutBlock
import Derived.Deep.RegionWith
import Derived.Shelf.RegionOpenPlain
import Derived.RangeFuncRecord
import Derived.Tactics2
import Derived.Defers
import Derived.Recover
import Derived.RangeFuncNested
import Derived.RangeFuncBound
import Derived.RangeFuncCalls
import Derived.RangeFuncLeaves
import Derived.Shelf.Abstract
import Derived.Shelf.RegionOpen
import Derived.WalkKit
import Derived.OwnWalkIn
import Derived.TacticsInMore
import Derived.LoopNIn
import Derived.LoopIn
import Derived.Sort.CutIn
import Derived.Sort.LoopGhostIn
import Derived.Deep.RegionLaw
import Derived.Maps.OwnIn
import Derived.Test.YtefokfbgpfcbkaaGreatN28xZ
import Derived.Shelf.SlicesE.Clone
import Derived.Ground.SlgnProg
namespace Go.Proofs
open Go.Shelf
def Tryz.sortDiag_ren : Go.Shelf.Ren := ⟨fun | 6 => 193 | 15 => 207 | 14 => 216 | 28 => 237 | 29 => 238 | 20 => 241 | 21 => 242 | 22 => 243 | 23 => 244 | 24 => 245 | 25 => 246 | 26 => 247 | 27 => 248 | 46 => 261 | 47 => 256 | 48 => 257 | 49 => 262 | 50 => 263 | 57 => 268 | n => n, fun | 22 => 124 | 24 => 183 | 25 => 241 | 3 => 3 | 39 => 254 | 0 => 0 | 53 => 279 | 55 => 281 | 4 => 4 | 46 => 273 | 45 => 272 | 50 => 44 | 5 => 5 | 9 => 9 | 66 => 290 | 70 => 177 | 76 => 297 | 77 => 218 | n => n, fun | n => n⟩
theorem Tryz.sortDiag : Go.Proofs.SlLaysF0.n6 Tryz.prog Tryz.sortDiag_ren := {
  mixed := by kernel_rfl
  f6 := ⟨Tryz.f193.name, by decide, Tryz.func193.trans (congrArg some (by kernel_rfl))⟩
  f14 := ⟨Tryz.f216.name, by decide, Tryz.func216.trans (congrArg some (by kernel_rfl))⟩
  f15 := Tryz.func207.trans (congrArg some (by kernel_rfl))
  f20 := ⟨Tryz.f241.name, by decide, Tryz.func241.trans (congrArg some (by kernel_rfl))⟩
  f21 := ⟨Tryz.f242.name, by decide, Tryz.func242.trans (congrArg some (by kernel_rfl))⟩
  f22 := ⟨Tryz.f243.name, by decide, Tryz.func243.trans (congrArg some (by kernel_rfl))⟩
  f23 := ⟨Tryz.f244.name, by decide, Tryz.func244.trans (congrArg some (by kernel_rfl))⟩
  f24 := ⟨Tryz.f245.name, by decide, Tryz.func245.trans (congrArg some (by kernel_rfl))⟩
  f25 := ⟨Tryz.f246.name, by decide, Tryz.func246.trans (congrArg some (by kernel_rfl))⟩
  f26 := ⟨Tryz.f247.name, by decide, Tryz.func247.trans (congrArg some (by kernel_rfl))⟩
  f27 := ⟨Tryz.f248.name, by decide, Tryz.func248.trans (congrArg some (by kernel_rfl))⟩
  f28 := Tryz.func237.trans (congrArg some (by kernel_rfl))
  f29 := Tryz.func238.trans (congrArg some (by kernel_rfl))
  f46 := ⟨Tryz.f261.name, by decide, Tryz.func261.trans (congrArg some (by kernel_rfl))⟩
  f47 := Tryz.func256.trans (congrArg some (by kernel_rfl))
  f48 := Tryz.func257.trans (congrArg some (by kernel_rfl))
  f49 := ⟨Tryz.f262.name, by decide, Tryz.func262.trans (congrArg some (by kernel_rfl))⟩
  f50 := ⟨Tryz.f263.name, by decide, Tryz.func263.trans (congrArg some (by kernel_rfl))⟩
  f57 := ⟨Tryz.f268.name, by decide, Tryz.func268.trans (congrArg some (by kernel_rfl))⟩
  t0 := Tryz.underlying0
  a0 := Tryz.isAgg0
  z0 := Tryz.sizeOf0
  v0 := Tryz.zeroValue0
  t3 := Tryz.underlying3
  a3 := Tryz.isAgg3
  z3 := Tryz.sizeOf3
  v3 := Tryz.zeroValue3
  t4 := Tryz.underlying4
  a4 := Tryz.isAgg4
  z4 := Tryz.sizeOf4
  v4 := Tryz.zeroValue4
  t5 := Tryz.underlying5
  a5 := Tryz.isAgg5
  z5 := Tryz.sizeOf5
  v5 := Tryz.zeroValue5
  t9 := Tryz.underlying9
  a9 := Tryz.isAgg9
  z9 := Tryz.sizeOf9
  v9 := Tryz.zeroValue9
  t22 := Tryz.underlying124
  a22 := Tryz.isAgg124
  z22 := Tryz.sizeOf124
  v22 := Tryz.zeroValue124
  t25 := Tryz.underlying241
  a25 := Tryz.isAgg241
  z25 := Tryz.sizeOf241
  v25 := Tryz.zeroValue241
  t39 := Tryz.underlying254
  a39 := Tryz.isAgg254
  z39 := Tryz.sizeOf254
  v39 := Tryz.zeroValue254
  t45 := Tryz.underlying272
  a45 := Tryz.isAgg272
  z45 := Tryz.sizeOf272
  v45 := Tryz.zeroValue272
  t46 := Tryz.underlying273
  a46 := Tryz.isAgg273
  z46 := Tryz.sizeOf273
  v46 := Tryz.zeroValue273
  t50 := Tryz.underlying44
  a50 := Tryz.isAgg44
  z50 := Tryz.sizeOf44
  v50 := Tryz.zeroValue44
  t53 := Tryz.underlying279
  a53 := Tryz.isAgg279
  z53 := Tryz.sizeOf279
  v53 := Tryz.zeroValue279
  t55 := Tryz.underlying281
  a55 := Tryz.isAgg281
  z55 := Tryz.sizeOf281
  v55 := Tryz.zeroValue281
  t66 := Tryz.underlying290
  a66 := Tryz.isAgg290
  z66 := Tryz.sizeOf290
  v66 := Tryz.zeroValue290
  t70 := Tryz.underlying177
  a70 := Tryz.isAgg177
  z70 := Tryz.sizeOf177
  v70 := Tryz.zeroValue177
  t76 := Tryz.underlying297
  a76 := Tryz.isAgg297
  z76 := Tryz.sizeOf297
  v76 := Tryz.zeroValue297
  t77 := Tryz.underlying218
  a77 := Tryz.isAgg218
  z77 := Tryz.sizeOf218
  v77 := Tryz.zeroValue218 }
end Go.Proofs
namespace Go.Proofs.YtefokfbgpfcbkaaGreat
set_option linter.unusedVariables false
set_option linter.unusedSimpArgs false
open Go.RowKit
end Go.Proofs.YtefokfbgpfcbkaaGreat
namespace Go.Proofs.YtefokfbgpfcbkaaGreat
set_option linter.unusedVariables false
set_option linter.unusedSimpArgs false
namespace P20
def shortKs (ks : List (List UInt8)) : Bool := ks.all (fun x => decide (x.length ≤ 200))
mutual
def T.small : Nat → T → Nat → Option Nat
  | lv, .mk k t ks ds l, n => if lv = 0 ∨ n = 0 ∨ 5000 < t.length ∨ 200 < ks.length ∨ shortKs ks = false then none else smallL (lv - 1) ds (n - 1)
def smallL : Nat → List T → Nat → Option Nat
  | _, [], n => some n
  | lv, d :: ds, n => match d.small lv n with
    | none => none
    | some m => smallL lv ds m
end
theorem short_all {ks : List (List UInt8)} (h : ¬ shortKs ks = false) : ∀ x ∈ ks, x.length ≤ 200 := by
  intro x hx
  simp [shortKs] at h
  exact h x hx
mutual
theorem T.small_ok : ∀ (d : T) (lv n m : Nat), d.small lv n = some m → n ≤ 1000000000 → 1 ≤ lv ∧ n = m + (d.size lv).2 ∧ 1 ≤ (d.size lv).2 ∧ okT d ∧ d.cut lv = d
  | .mk k t ks ds l, lv, n, m, h, hn => by
    unfold T.small at h
    split at h
    · cases h
    · rename_i h0
      simp only [not_or] at h0
      obtain ⟨h1, h2, h3, h4, h5⟩ := h0
      obtain ⟨q1, q2, q3, q4, q5⟩ := smallL_ok ds (lv - 1) (n - 1) m h (by omega)
      have hs : (T.mk k t ks ds l).size lv = ((sizeL (lv - 1) ds).1 + 1, (sizeL (lv - 1) ds).2 + 1) := by unfold T.size; rw [if_neg h1]
      rw [hs]
      refine ⟨by omega, by show n = m + (_ + 1); omega, by show 1 ≤ _ + 1; omega, ?_, ?_⟩
      · unfold okT
        exact ⟨by omega, by omega, fun x hx => by have := short_all h5 x hx; omega, by omega, q3⟩
      · unfold T.cut
        split
        · rw [q5]
        · rename_i hl
          rw [q4 (by omega)]
theorem smallL_ok : ∀ (ds : List T) (lv n m : Nat), smallL lv ds n = some m → n ≤ 1000000000 → n = m + (sizeL lv ds).2 ∧ ds.length ≤ (sizeL lv ds).2 ∧ okTs ds ∧ (lv = 0 → ds = []) ∧ cutL lv ds = ds
  | [], lv, n, m, h, hn => by
    simp only [smallL, Option.some.injEq] at h
    refine ⟨by simp [sizeL, h], by simp [sizeL], trivial, fun _ => rfl, rfl⟩
  | d :: ds, lv, n, m, h, hn => by
    unfold smallL at h
    split at h
    · cases h
    · rename_i m1 hm1
      obtain ⟨q1, q2, q3, q4, q5⟩ := T.small_ok d lv n m1 hm1 hn
      obtain ⟨r1, r2, r3, r4, r5⟩ := smallL_ok ds lv m1 m h (by omega)
      unfold sizeL okTs cutL
      refine ⟨by show n = m + (_ + _); omega, by show _ + 1 ≤ _ + _; omega, ⟨q4, r3⟩, fun e => by omega, by rw [q5, r5]⟩
end
end P20
end Go.Proofs.YtefokfbgpfcbkaaGreat
namespace Go.Proofs.YtefokfbgpfcbkaaGreat
set_option linter.unusedVariables false
set_option linter.unusedSimpArgs false
open Go.RowKit
end Go.Proofs.YtefokfbgpfcbkaaGreat
namespace Go.Proofs.YtefokfbgpfcbkaaGreat
set_option linter.unusedVariables false
set_option linter.unusedSimpArgs false
open Go.RowKit
theorem one_cell20 {W : World} {g : Nat} {t : TypeId} {a : Value} (h : W.heap[g]? = some (.cells #[a] t)) : W.cell? ⟨g, 0, none⟩ = some a ∧ W.frozen? ⟨g, 0, none⟩ = false := by
  simp [World.cell?, World.frozen?, h]
theorem one_put20 {W : World} {g : Nat} {t : TypeId} {a : Value} (h : W.heap[g]? = some (.cells #[a] t)) (v : Value) : (W.setCell ⟨g, 0, none⟩ v).heap[g]? = some (.cells #[v] t) := by
  simp [World.setCell, Array.getElem?_modify, h]
theorem one_grown20 (W : World) (g : Nat) (v : Value) : W.grownBy (W.setCell ⟨g, 0, none⟩ v) (some g) :=
  ⟨rfl, rfl, rfl, by simp, fun i hi hne => Below.heap_setCell _ _ _ _ (by show i ≠ g; rintro rfl; exact hne rfl)⟩
def SmallPost (w : World) (b : Nat) (o : Option Nat) (x : Ending) (w' : World) : Prop :=
  x = .returned (.bool o.isSome) ∧ Hid (w.grownBy w' (some b)) ∧ ∀ m, o = some m → w'.heap[b]? = some (.cells #[.int .i64 (m : Nat)] 3)
def RSmallC (d : Nd) : Prop := ∀ (lv b n : Nat) (w : World), d.In w → lv ≤ 1000 → n ≤ 1000000000 → ¬ d.blk b → w.heap[b]? = some (.cells #[.int .i64 (n : Nat)] 3) →
  Calls Tryz.prog 108 #[d.val, .int .i64 lv, .pointer (some ⟨b, 0, none⟩)] w (SmallPost w b (d.bare.small lv n))
theorem smallL_drop (lv : Nat) {ds : List Nd} {i : Nat} {d : Nd} (h : ds[i]? = some d) (m : Nat) : P20.smallL lv (bareL (ds.drop i)) m = match d.bare.small lv m with | none => none | some q => P20.smallL lv (bareL (ds.drop (i + 1))) q := by
  rw [bareL_drop h]
  rfl
theorem short_drop {ks : List (List UInt8)} {i : Nat} {x : List UInt8} (h : ks[i]? = some x) : P20.shortKs (ks.drop i) = (decide (x.length ≤ 200) && P20.shortKs (ks.drop (i + 1))) := by
  obtain ⟨h1, h2⟩ := List.getElem?_eq_some_iff.1 h
  rw [List.drop_eq_getElem_cons h1, h2]
  rfl
set_option maxRecDepth 100000 in
set_option maxHeartbeats 8000000 in
theorem rsmall_node (k : Nat) (t : List UInt8) (ka : Option Addr) (kc : Nat) (ks : List (List UInt8)) (da : Option Addr) (dc : Nat) (ds : List Nd) (l : Int) (hds : ∀ d ∈ ds, RSmallC d) : RSmallC (.mk k t ka kc ks da dc ds l) := by
  intro lv b n w hin hlv hn hbk hb
  have hf := hin.fit
  have e1 := hf.keysL
  have e2 := hf.kidsL
  have e3 := hf.text
  simp only [Nd.keys, Nd.kids, Nd.text] at e1 e2 e3
  unfold maxLen at e1 e2 e3
  obtain ⟨N, hN⟩ : ∃ N, ds.length = N := ⟨_, rfl⟩
  obtain ⟨M, hM⟩ : ∃ M, ks.length = M := ⟨_, rfl⟩
  have hbl : b < w.heap.size := (Array.getElem?_eq_some_iff.1 hb).1
  obtain ⟨H, hH⟩ : ∃ H, w.heap.size = H := ⟨_, rfl⟩
  obtain ⟨W, hW⟩ : ∃ W, w.alloc (.cells #[.int .u8 k, .string ⟨t.toArray⟩, .slice ka M kc, .slice da N dc, .int .i64 l] 61) = W := ⟨_, rfl⟩
  have hbw : Below w.heap.size w W := by rw [← hW]; exact (Below.refl _ w).alloc (Nat.le_refl _) _
  have g0 : W.heap[H]? = some (.cells #[.int .u8 k, .string ⟨t.toArray⟩, .slice ka M kc, .slice da N dc, .int .i64 l] 61) := by rw [← hW, ← hH]; exact World.alloc_heap_new _ _
  have hbW := (hbw.block b hbl).trans hb
  have hgw := grown_of_below hbw (some b)
  rw [hH] at hbl
  obtain ⟨V, hV⟩ : ∃ V, W.setCell ⟨b, 0, none⟩ (.int .i64 ((n : Int) - 1)) = V := ⟨_, rfl⟩
  have hgV : w.grownBy V (some b) := by rw [← hV]; exact grown_trans1 hgw (one_grown20 W b _)
  have hVb : V.heap[b]? = some (.cells #[.int .i64 ((n : Int) - 1)] 3) := by rw [← hV]; exact one_put20 hbW _
  have hV0 : V.heap[H]? = some (.cells #[.int .u8 k, .string ⟨t.toArray⟩, .slice ka M kc, .slice da N dc, .int .i64 l] 61) := by rw [← hV]; exact (Below.heap_setCell _ _ _ _ (by show H ≠ b; omega)).trans g0
  obtain ⟨c0, f0⟩ := one_cell20 hbW
  obtain ⟨c1, f1⟩ := one_cell20 hVb
  obtain ⟨⟨x0, _⟩, ⟨x1, _⟩, ⟨x2, _⟩, ⟨x3, _⟩, ⟨x4, _⟩⟩ := five_cell hV0
  have hnw : IntKind.i64.wrap ((n : Int) - 1) = (n : Int) - 1 := IntWalk.i64_in _ (by omega)
  have hinV : (Nd.mk k t ka kc ks da dc ds l).In V := hin.grown hgV (fun r e => by cases e; exact hbk)
  have hk1 := hinV.kids
  have hks := hinV.fit.keys
  simp only [Nd.da, Nd.kids, Nd.ka, Nd.keys] at hk1 hks
  have hbd : ∀ d ∈ ds, ¬ d.blk b := fun d hd hx => hbk (by simp only [Nd.blk]; exact .inr (.inr ((blkL_iff b ds).2 ⟨d, hd, hx⟩)))
  have hVl : H < V.heap.size := (Array.getElem?_eq_some_iff.1 hV0).1
  rw [Nd.val_eq, hN, hM]
  simp only [Nd.bare, P20.T.small]
  have HW := hide hW
  have HV := hide hV
  have HGV := hide hgV
  have HV0 := hide hV0
  have HVB := hide hVb
  have HK1 := hide hk1
  have HKS := hide hks
  have HDS := hide hds
  have HBD := hide hbd
  have HINV := hide hinV
  have HBK := hide hbk
  have HH := hide hH
  have HN := hide hN
  have HM := hide hM
  rw [hM]
  rw [hM] at e1
  rw [hN] at e2
  clear hin hbk hb hf hbw g0 hbW hgw hgV hV0 hVb hinV hk1 hks hds hbd hW hV hN hM hH
  by_cases hz : lv = 0 ∨ n = 0 ∨ 5000 < t.length ∨ 200 < M
  · rw [if_pos (by rcases hz with h | h | h | h <;> simp [h])]
    by_cases h1 : lv = 0
    · have j1 : (lv : Int) < 1 := by omega
      clear hz h1 x0 x1 x2 x3 x4
      go_enter Tryz.func108, Tryz.ntmps108
      go_upto_region 1 with fail
      try rw [unhide HH]
      rw [unhide HW]
      go_upto_region 2 with fail
      rw [unhide HV]
      go_wp2
      go_ret
      exact ⟨rfl, HGV, fun m h => by cases h⟩
    · have j1 : (1 : Int) ≤ (lv : Int) := by omega
      by_cases h2 : n = 0
      · have j2 : (n : Int) - 1 < 0 := by omega
        clear hz h1 h2 x0 x1 x2 x3 x4
        go_enter Tryz.func108, Tryz.ntmps108
        go_upto_region 1 with fail
        try rw [unhide HH]
        rw [unhide HW]
        go_upto_region 2 with fail
        rw [unhide HV]
        go_wp2
        go_ret
        exact ⟨rfl, HGV, fun m h => by cases h⟩
      · have j2 : (0 : Int) ≤ (n : Int) - 1 := by omega
        by_cases h3 : 5000 < t.length
        · have j3 : (5000 : Int) < (t.length : Int) := by omega
          clear hz h1 h2 h3
          go_enter Tryz.func108, Tryz.ntmps108
          go_upto_region 1 with fail
          try rw [unhide HH]
          rw [unhide HW]
          go_upto_region 2 with fail
          rw [unhide HV]
          go_wp2
          go_ret
          exact ⟨rfl, HGV, fun m h => by cases h⟩
        · have j3 : (t.length : Int) ≤ 5000 := by omega
          have j4 : (200 : Int) < (M : Int) := by rcases hz with h | h | h | h <;> omega
          clear hz h1 h2 h3
          go_enter Tryz.func108, Tryz.ntmps108
          go_upto_region 1 with fail
          try rw [unhide HH]
          rw [unhide HW]
          go_upto_region 2 with fail
          rw [unhide HV]
          go_wp2
          go_ret
          exact ⟨rfl, HGV, fun m h => by cases h⟩
  have j1 : (1 : Int) ≤ (lv : Int) := by omega
  have j2 : (0 : Int) ≤ (n : Int) - 1 := by omega
  have j3 : (t.length : Int) ≤ 5000 := by omega
  have j4 : (M : Int) ≤ 200 := by omega
  have hlw : IntKind.i64.wrap ((lv : Int) - 1) = (lv : Int) - 1 := IntWalk.i64_in _ (by omega)
  have hel : (if lv = 0 ∨ n = 0 ∨ 5000 < t.length ∨ 200 < M ∨ P20.shortKs ks = false then none else P20.smallL (lv - 1) (bareL ds) (n - 1)) = if P20.shortKs (ks.drop 0) = false then none else P20.smallL (lv - 1) (bareL ds) (n - 1) := by
    rw [List.drop_zero]
    by_cases h : P20.shortKs ks = false
    · rw [if_pos (by simp [h]), if_pos h]
    · rw [if_neg (by rintro (h1 | h1 | h1 | h1 | h1) <;> first | exact hz (.inl h1) | exact hz (.inr (.inl h1)) | exact hz (.inr (.inr (.inl h1))) | exact hz (.inr (.inr (.inr h1))) | exact h h1), if_neg h]
  rw [hel]
  obtain ⟨O, hO⟩ : ∃ O, (if P20.shortKs (ks.drop 0) = false then none else P20.smallL (lv - 1) (bareL ds) (n - 1)) = O := ⟨_, rfl⟩
  rw [hO]
  have HO := hide hO
  have HZ := hide hz
  clear hel hO hz
  go_enter Tryz.func108, Tryz.ntmps108
  go_upto_region 1 with fail
  try rw [unhide HH]
  rw [unhide HW]
  go_upto_region 2 with fail
  rw [unhide HV]
  go_wp2
  go_loopg [7] M (fun g s7 wx => ∃ i : Nat, i + g = M ∧ s7 = .int .i64 i ∧ Hid ((if P20.shortKs (ks.drop i) = false then none else P20.smallL (lv - 1) (bareL ds) (n - 1)) = O) ∧ V = wx)
  case atStart => exact ⟨0, by omega, by go_num, HO, rfl⟩
  case round =>
    obtain ⟨i, hig, rfl, HI, rfl⟩ := hrel
    cases gk with
    | succ g' =>
      have hlt : (i : Int) < (M : Int) := by omega
      have hki : IntKind.i64.wrap ((i : Int) + 1) = (i : Int) + 1 := IntWalk.i64_in _ (by omega)
      obtain ⟨x, hx⟩ := nth_of (unhide HM) (show i < M by omega)
      obtain ⟨b1, o1, rfl, hc⟩ := unhide HKS i x hx
      have hI := unhide HI
      rw [short_drop hx] at hI
      clear hx
      by_cases hxl : x.length ≤ 200
      · have jx : (x.length : Int) ≤ 200 := by omega
        rw [decide_eq_true hxl, Bool.true_and] at hI
        have HI2 := hide hI
        clear hI hxl
        go_wp2
        go_roundg g'
        case measure => omega
        case rel => exact ⟨i + 1, by omega, by go_num, HI2, rfl⟩
      · have jx : (200 : Int) < (x.length : Int) := by omega
        rw [decide_eq_false hxl, Bool.false_and, if_pos rfl] at hI
        subst hI
        clear hxl
        go_wp2
        go_ret
        exact ⟨rfl, HGV, fun m h => by cases h⟩
    | zero =>
      have e1 : (M : Int) = (i : Int) := by omega
      have hI := unhide HI
      rw [List.drop_of_length_le (by rw [unhide HM]; omega), if_neg (by simp [P20.shortKs])] at hI
      have HI2 := hide hI
      clear hI HI HO
      go_wp2
      clear x0 x1 x2 x3 x4 c0 f0 c1 f1 e1
      go_loopg [8] N (fun g s8 wx => ∃ i m : Nat, i + g = N ∧ s8 = .int .i64 i ∧ m ≤ n ∧ Hid (P20.smallL (lv - 1) (bareL (ds.drop i)) m = O) ∧ Hid (V.grownBy wx (some b)) ∧ Hid (wx.heap[b]? = some (.cells #[.int .i64 (m : Nat)] 3)))
      case atStart => exact ⟨0, n - 1, by omega, by go_num, by omega, HI2, hide (World.grownBy.refl _ _), hide (by rw [unhide HVB, show (((n - 1 : Nat)) : Int) = (n : Int) - 1 from by omega])⟩
      case round =>
        obtain ⟨i2, m, hig2, rfl, hmn, HS, HGX, HXB⟩ := hrel
        have hgx := unhide HGX
        obtain ⟨⟨x0, _⟩, ⟨x1, _⟩, ⟨x2, _⟩, ⟨x3, _⟩, ⟨x4, _⟩⟩ := five_cell ((hgx.block H hVl (fun e => by injection e; omega)).trans (unhide HV0))
        have HGW := hide (grown_trans1 (unhide HGV) hgx)
        clear hgx
        cases gk with
        | zero =>
          have e1 : (N : Int) = (i2 : Int) := by omega
          have hS := unhide HS
          rw [List.drop_of_length_le (by rw [unhide HN]; omega)] at hS
          simp only [bareL, P20.smallL] at hS
          subst hS
          go_wp2
          go_ret
          exact ⟨rfl, HGW, fun q h => by cases h; exact unhide HXB⟩
        | succ g' =>
          have hlt : (i2 : Int) < (N : Int) := by omega
          have hki : IntKind.i64.wrap ((i2 : Int) + 1) = (i2 : Int) + 1 := IntWalk.i64_in _ (by omega)
          obtain ⟨d, hg1⟩ := nth_of (unhide HN) (show i2 < N by omega)
          have hS := unhide HS
          rw [smallL_drop (lv - 1) hg1] at hS
          have hmem := List.mem_of_getElem? hg1
          have hcl0 := unhide HDS d hmem
          have hnb := unhide HBD d hmem
          have hinr := (unhide HINV).grown (unhide HGX) (fun r e => by cases e; exact unhide HBK)
          have hdr := hinr.kids
          simp only [Nd.da, Nd.kids] at hdr
          obtain ⟨b2, o2, k1, t1, ka1, kc1, ks1, da1, dc1, ds1, l1, rfl, rfl, y0, y1, y2, y3, y4, hin⟩ := kid_open hdr hg1
          have hcl := hcl0 (lv - 1) b m wr hin (by omega) (by omega) hnb (unhide HXB)
          rw [show (((lv - 1 : Nat)) : Int) = (lv : Int) - 1 from by omega, Nd.val_eq] at hcl
          obtain ⟨o, ho⟩ : ∃ o, (Nd.mk k1 t1 ka1 kc1 ks1 da1 dc1 ds1 l1).bare.small (lv - 1) m = o := ⟨_, rfl⟩
          rw [ho] at hcl hS
          have hle : ∀ q, o = some q → q ≤ m := fun q e => by
            have := P20.T.small_ok _ _ _ _ (ho.trans e) (by omega)
            omega
          have HCL := hide hcl
          have HLE := hide hle
          have HS2 := hide hS
          clear hcl0 hcl hS ho hin hinr hdr hg1 hmem hnb hle HS
          cases o with
          | none =>
            have hS := unhide HS2
            simp only at hS
            subst hS
            go_wp2_with (go_at_call 108; refine (unhide HCL).mono ?_; rintro x' w2 ⟨hx2, hg2, hq2⟩; obtain rfl : x' = .returned (.bool false) := hx2)
            go_ret
            exact ⟨rfl, hide (grown_trans1 (unhide HGW) (unhide hg2)), fun q h => by cases h⟩
          | some q =>
            have hS := unhide HS2
            simp only at hS
            have HS := hide hS
            have hqm := unhide HLE q rfl
            clear hS HS2
            go_wp2_with (go_at_call 108; refine (unhide HCL).mono ?_; rintro x' w2 ⟨hx2, hg2, hq2⟩; obtain rfl : x' = .returned (.bool true) := hx2)
            have HQ2 := hide (hq2 q rfl)
            go_roundg g'
            case measure => omega
            case rel => exact ⟨i2 + 1, q, by omega, by go_num, by omega, HS, hide (grown_trans1 (unhide HGX) (unhide hg2)), HQ2⟩
theorem rsmall_any (d : Nd) : RSmallC d := Nd.ind (p := RSmallC) rsmall_node d
set_option maxRecDepth 100000 in
theorem Small_any (d : Nd) (w : World) (hin : d.In w) : Calls Tryz.prog 66 #[d.val] w fun x w' => x = .returned (.bool (d.bare.small 18 150).isSome) ∧ Below w.heap.size w w' := by
  obtain ⟨k, t, ka, kc, ks, da, dc, ds, l⟩ := d
  obtain ⟨H, hH⟩ : ∃ H, w.heap.size = H := ⟨_, rfl⟩
  obtain ⟨W, hW⟩ : ∃ W, w.alloc (.cells #[.int .u8 k, .string ⟨t.toArray⟩, .slice ka ks.length kc, .slice da ds.length dc, .int .i64 l] 61) = W := ⟨_, rfl⟩
  have hbw : Below w.heap.size w W := by rw [← hW]; exact (Below.refl _ w).alloc (Nat.le_refl _) _
  have g0 : W.heap[H]? = some (.cells #[.int .u8 k, .string ⟨t.toArray⟩, .slice ka ks.length kc, .slice da ds.length dc, .int .i64 l] 61) := by rw [← hW, ← hH]; exact World.alloc_heap_new _ _
  have hs0 : W.heap.size = H + 1 := by rw [← hW]; simp; omega
  obtain ⟨V, hV⟩ : ∃ V, W.alloc (.cells #[.int .i64 150] 3) = V := ⟨_, rfl⟩
  have hVb : V.heap[H + 1]? = some (.cells #[.int .i64 150] 3) := by rw [← hV, ← hs0]; exact World.alloc_heap_new _ _
  have hbV : Below w.heap.size w V := by rw [← hV]; exact hbw.alloc (by omega) _
  have hV0 : V.heap[H]? = some (.cells #[.int .u8 k, .string ⟨t.toArray⟩, .slice ka ks.length kc, .slice da ds.length dc, .int .i64 l] 61) := by rw [← hV]; exact (Below.heap_alloc _ _ _ (by omega)).trans g0
  obtain ⟨⟨x0, _⟩, ⟨x1, _⟩, ⟨x2, _⟩, ⟨x3, _⟩, ⟨x4, _⟩⟩ := five_cell hV0
  have hc := rsmall_any (.mk k t ka kc ks da dc ds l) 18 (H + 1) 150 V (hin.below hbV) (by omega) (by omega) (fun hb => by have := hin.lt hb; omega) hVb
  rw [Nd.val_eq] at hc
  have HC := hide hc
  have HW := hide hW
  have HV := hide hV
  have HH := hide hH
  have HB := hide hbV
  have HS0 := hide hs0
  rw [Nd.val_eq]
  clear hc hW hV hin hbw g0 hVb hbV hV0 hs0
  go_enter Tryz.func66, Tryz.ntmps66
  go_upto_region 1 with fail
  rw [unhide HW]
  try rw [unhide HH]
  go_upto_region 2 with fail
  try rw [unhide HS0]
  rw [unhide HV]
  go_wp2_with (go_at_call 108; refine (unhide HC).mono ?_; rintro x w' ⟨rfl, hg, _⟩)
  go_ret
  have hb := unhide HB
  have hg := unhide hg
  have hh := unhide HH
  refine ⟨rfl, hb.trans ?_⟩
  exact ⟨hg.os, hg.tape, hg.output, Nat.le_trans hb.size hg.size |> fun _ => hg.size, fun i hi => hg.block i (Nat.lt_of_lt_of_le hi hb.size) (fun e => by injection e; omega)⟩
end Go.Proofs.YtefokfbgpfcbkaaGreat
namespace Go.Proofs.YtefokfbgpfcbkaaGreat
set_option linter.unusedVariables false
set_option linter.unusedSimpArgs false
namespace P20
end P20
end Go.Proofs.YtefokfbgpfcbkaaGreat
namespace Go.Proofs.YtefokfbgpfcbkaaGreat
set_option linter.unusedVariables false
set_option linter.unusedSimpArgs false
namespace P20
end P20
end Go.Proofs.YtefokfbgpfcbkaaGreat
namespace Go.Proofs.YtefokfbgpfcbkaaGreat
set_option linter.unusedVariables false
set_option linter.unusedSimpArgs false
open Go.RowKit
theorem mxL_size (d : Nd) : mxL (d.preN 18 1) = (d.bare.size 18).1 := by
  rw [← P20.depth_size, ← Nd.preN_bare]
  unfold mxL
  rw [List.map_map]
  rfl
end Go.Proofs.YtefokfbgpfcbkaaGreat
namespace Go.Proofs.YtefokfbgpfcbkaaGreat
set_option linter.unusedVariables false
set_option linter.unusedSimpArgs false
open Go.RowKit
theorem texts_drop (l : List (List UInt8)) (i : Nat) (x : List UInt8) (h : l[i]? = some x) : P28.texts (l.drop i) = if P03.check x 64 ≠ 0 then P03.check x 64 else P28.texts (l.drop (i + 1)) := by
  have e : l.drop i = x :: l.drop (i + 1) := by
    obtain ⟨h1, h2⟩ := List.getElem?_eq_some_iff.1 h
    rw [← h2]
    exact List.drop_eq_getElem_cons h1
  rw [e]
  rfl
set_option maxRecDepth 100000 in
set_option maxHeartbeats 4000000 in
theorem texts_any (a : Option Addr) (c : Nat) (l : List (List UInt8)) (w : World) (h : InS w a l) (hl : l.length ≤ maxLen) (hx : ∀ x ∈ l, x.length ≤ 1100000) :
    Calls Tryz.prog 127 #[.slice a l.length c] w fun e w' => e = .returned (.int .i64 (P28.texts l)) ∧ Below w.heap.size w w' := by
  unfold maxLen at hl
  obtain ⟨n, hn⟩ : ∃ n, l.length = n := ⟨_, rfl⟩
  rw [hn] at hl ⊢
  obtain ⟨H, hH⟩ : ∃ H, w.heap.size = H := ⟨_, rfl⟩
  rw [hH]
  have hblk : ∀ r, l ≠ [] → blockOf a r → r < H := fun r h1 h2 => by rw [← hH]; exact PSt.inS_lt h h1 h2
  have hkeep : ∀ V, Below H w V → InS V a l := fun V hV => h.keep (fun r h1 h2 => hV.block r (hblk r h1 h2))
  obtain ⟨TT, hTT⟩ : ∃ T, P28.texts l = T := ⟨_, rfl⟩
  rw [hTT]
  have HTT := hide hTT
  have HN := hide hn
  have HK := hide hkeep
  have HX := hide hx
  clear hTT hn hkeep hx hblk h
  go_enter Tryz.func127, Tryz.ntmps127
  go_wp2
  go_loopg [8] n (fun g s8 wx => ∃ (i : Nat), i + g = n ∧ s8 = .int .i64 i ∧ Hid (Below H w wx) ∧ Hid (P28.texts (l.drop i) = TT))
  case atStart => exact ⟨0, by omega, by go_num, hide (Below.refl _ _), by simpa using HTT⟩
  case round =>
    obtain ⟨i, hig, rfl, HB, HT⟩ := hrel
    cases gk with
    | zero =>
      have e1 : (n : Int) ≤ (i : Int) := by omega
      have j1 : decide ((i : Int) < (n : Int)) = false := by simp; omega
      have hfin : (0 : Int) = TT := by
        have h := unhide HT
        rw [List.drop_of_length_le (by rw [unhide HN]; omega)] at h
        exact h
      subst hfin
      go_wp2
      go_ret
      exact ⟨rfl, unhide HB⟩
    | succ g' =>
      have hlt : (i : Int) < (n : Int) := by omega
      have hki : IntKind.i64.wrap ((i : Int) + 1) = (i : Int) + 1 := IntWalk.i64_in _ (by omega)
      obtain ⟨x, hxi⟩ := nth_of (unhide HN) (show i < n by omega)
      obtain ⟨b, o, rfl, hc⟩ := (unhide HK) wr (unhide HB) i x hxi
      have hck := Check_any ⟨x.toArray⟩ 64 wr (by rw [Lib.size_eq]; exact unhide HX x (List.mem_of_getElem? hxi))
      simp only [list_data] at hck
      have ht := unhide HT
      rw [texts_drop l i x hxi] at ht
      obtain ⟨E, hE⟩ : ∃ E, P03.check x 64 = E := ⟨_, rfl⟩
      rw [hE] at hck ht
      have HC := hide hck
      clear hck hE hxi
      by_cases hE0 : E = 0
      · subst hE0
        rw [if_neg (by simp)] at ht
        have HT2 := hide ht
        clear ht
        go_wp2_with (go_at_call 128; refine (unhide HC).mono ?_; rintro e w2 ⟨rfl, hb2⟩)
        go_roundg g'
        case measure => omega
        case rel => exact ⟨i + 1, by omega, by go_num, hide ((unhide HB).trans (hb2.mono (by rw [← hH]; exact (unhide HB).size))), HT2⟩
      · rw [if_pos hE0] at ht
        subst ht
        have j2 : (E != 0) = true := by simpa using hE0
        clear hE0
        go_wp2_with (go_at_call 128; refine (unhide HC).mono ?_; rintro e w2 ⟨rfl, hb2⟩)
        go_ret
        exact ⟨rfl, (unhide HB).trans (hb2.mono (by rw [← hH]; exact (unhide HB).size))⟩
theorem fits_any (g : Nat) (x y z u : Int) (w : World) (h : w.heap[g]? = some (.cells #[.int .i64 x, .int .i64 y, .int .i64 z, .int .i64 u] 3)) :
    Calls Tryz.prog 169 #[.slice (some ⟨g, 0, none⟩) 4 4] w fun e w' => e = .returned (.bool (P28.fits x && (P28.fits y && (P28.fits z && P28.fits u)))) ∧ w' = w := by
  have hc : ∀ j, j < [x, y, z, u].length → w.cell? ⟨g, 0 + j, none⟩ = some (.int .i64 ([x, y, z, u].getD j 0)) := fun j hj => by
    match j, hj with
    | 0, _ => simp [World.cell?, h]
    | 1, _ => simp [World.cell?, h]
    | 2, _ => simp [World.cell?, h]
    | 3, _ => simp [World.cell?, h]
  have h1 := Tryz.slices_Min_int g 0 4 4 [x, y, z, u] w (by omega) (by simp) (by omega) hc
  have h2 := Tryz.slices_Max_int g 0 4 4 [x, y, z, u] w (by omega) (by simp) (by omega) hc
  simp only [List.take_succ_cons, List.take_zero] at h1 h2
  have e1 : decide (0 ≤ Lib.minOf [x, y, z, u]) = (decide (0 ≤ x) && (decide (0 ≤ y) && (decide (0 ≤ z) && decide (0 ≤ u)))) := by
    rw [show Lib.minOf [x, y, z, u] = min (min (min (min x x) y) z) u from rfl, Bool.eq_iff_iff]
    simp only [decide_eq_true_eq, Bool.and_eq_true]
    omega
  have e2 : decide (Lib.maxOf [x, y, z, u] ≤ 999999999) = (decide (x ≤ 999999999) && (decide (y ≤ 999999999) && (decide (z ≤ 999999999) && decide (u ≤ 999999999)))) := by
    rw [show Lib.maxOf [x, y, z, u] = max (max (max (max x x) y) z) u from rfl, Bool.eq_iff_iff]
    simp only [decide_eq_true_eq, Bool.and_eq_true]
    omega
  have e3 : (P28.fits x && (P28.fits y && (P28.fits z && P28.fits u))) = (decide (0 ≤ Lib.minOf [x, y, z, u]) && decide (Lib.maxOf [x, y, z, u] ≤ 999999999)) := by
    rw [e1, e2, Bool.eq_iff_iff]
    simp only [P28.fits, Bool.and_eq_true, decide_eq_true_eq]
    omega
  rw [e3]
  obtain ⟨mn, hmn⟩ : ∃ m, Lib.minOf [x, y, z, u] = m := ⟨_, rfl⟩
  obtain ⟨mx, hmx⟩ : ∃ m, Lib.maxOf [x, y, z, u] = m := ⟨_, rfl⟩
  rw [hmn] at h1 ⊢
  rw [hmx] at h2 ⊢
  have H1 := hide h1
  have H2 := hide h2
  clear h1 h2 e1 e2 e3 hmn hmx hc h
  by_cases c1 : 0 ≤ mn
  · have d1 : decide (mn ≥ 0) = true := by simpa using c1
    go_enter Tryz.func169, Tryz.ntmps169
    go_wp2_with (first | (go_at_call 198; refine (unhide H1).mono ?_; rintro e w' ⟨rfl, hw⟩; have hw := hw.symm; subst hw) | (go_at_call 199; refine (unhide H2).mono ?_; rintro e w' ⟨rfl, hw⟩; have hw := hw.symm; subst hw))
    go_ret
    exact ⟨ret_bool (by simp [c1]), rfl⟩
  · have c2 : mn < 0 := by omega
    have d1 : decide (mn ≥ 0) = false := by simpa using c2
    clear c1
    go_enter Tryz.func169, Tryz.ntmps169
    go_wp2_with (first | (go_at_call 198; refine (unhide H1).mono ?_; rintro e w' ⟨rfl, hw⟩; have hw := hw.symm; subst hw) | (go_at_call 199; refine (unhide H2).mono ?_; rintro e w' ⟨rfl, hw⟩; have hw := hw.symm; subst hw))
    go_ret
    exact ⟨ret_bool (by simp; omega), rfl⟩
end Go.Proofs.YtefokfbgpfcbkaaGreat
namespace Go.Proofs
open Go.Shelf
def Tryz.cloneSteps_ren : Go.Shelf.Ren := ⟨fun | 41 => 109 | n => n, fun | 22 => 22 | 23 => 63 | 4 => 4 | n => n, fun | n => n⟩
theorem Tryz.cloneSteps : Go.Proofs.SlLaysE0.n41 Tryz.prog Tryz.cloneSteps_ren := {
  mixed := by kernel_rfl
  f41 := ⟨Tryz.f109.name, by decide, Tryz.func109.trans (congrArg some (by kernel_rfl))⟩
  t4 := Tryz.underlying4
  a4 := Tryz.isAgg4
  z4 := Tryz.sizeOf4
  v4 := Tryz.zeroValue4
  t22 := Tryz.underlying22
  a22 := Tryz.isAgg22
  z22 := Tryz.sizeOf22
  v22 := Tryz.zeroValue22 }
end Go.Proofs
