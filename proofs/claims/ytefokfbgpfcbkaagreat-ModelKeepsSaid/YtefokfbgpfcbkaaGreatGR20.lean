/- The reference's looks at trees: Texts, Same, Lined, Size, Small.; Small trees: what Small tells of one.; The reference's looks at trees: Lined, Size, Small.; The reference's Small.; How many lines a small tree has, and how long they are. -/
import Derived.Test.YtefokfbgpfcbkaaGreatGN20
import Derived.Test.YtefokfbgpfcbkaaGreatGP
import Derived.Test.YtefokfbgpfcbkaaGreatGW20
import Derived.Test.YtefokfbgpfcbkaaGreatGPr20
namespace Go.Proofs.YtefokfbgpfcbkaaGreat
set_option linter.unusedVariables false
set_option linter.unusedSimpArgs false
open Go.RowKit
set_option maxRecDepth 100000 in
theorem refTexts_any (a a' : Option Addr) (c c' : Nat) (ks ks' : List (List UInt8)) (w : World) (h : InS w a ks) (h' : InS w a' ks') (hl : ks.length ≤ maxLen) (hl' : ks'.length ≤ maxLen) :
    Calls Tryz.prog 46 #[.slice a ks.length c, .slice a' ks'.length c'] w fun e w' => e = .returned (.bool (decide (ks = ks'))) ∧ ∃ q, w' = w.drewN q := by
  unfold maxLen at hl hl'
  by_cases hn : ks.length = ks'.length
  · obtain ⟨n, hN⟩ : ∃ n, ks.length = n := ⟨_, rfl⟩
    rw [← hn, hN]
    rw [hN] at hl
    have HN := hide hN
    have HE := hide (hn.symm.trans hN)
    have HI := hide h
    have HI' := hide h'
    clear hN hn h h' hl'
    go_enter Tryz.func46, Tryz.ntmps46
    go_wp2
    go_loopg [5] n (fun g s5 wx => ∃ i m : Nat, i + g = n ∧ s5 = .int .i64 i ∧ Hid (decide (ks = ks') = decide (ks.drop i = ks'.drop i)) ∧ w.drewN m = wx)
    case atStart => exact ⟨0, 0, by omega, by go_num, hide rfl, rfl⟩
    case round =>
      obtain ⟨i, m, hig, rfl, HD, rfl⟩ := hrel
      cases gk with
      | zero =>
        have e1 : (n : Int) = (i : Int) := by omega
        have HX := hide (show i = n by omega)
        go_wp2
        go_ret
        refine ⟨ret_bool ?_, m, rfl⟩
        rw [unhide HD, List.drop_of_length_le (by rw [unhide HN]; have := unhide HX; omega), List.drop_of_length_le (by rw [unhide HE]; have := unhide HX; omega)]
        rfl
      | succ g' =>
        have hlt : (i : Int) < (n : Int) := by omega
        have hki : IntKind.i64.wrap ((i : Int) + 1) = (i : Int) + 1 := IntWalk.i64_in _ (by omega)
        obtain ⟨x, hx⟩ := nth_of (unhide HN) (show i < n by omega)
        obtain ⟨y, hy⟩ := nth_of (unhide HE) (show i < n by omega)
        obtain ⟨b, o, rfl, hc⟩ := unhide HI i x hx
        obtain ⟨b', o', rfl, hc'⟩ := unhide HI' i y hy
        have hdx : ks.drop i = x :: ks.drop (i + 1) := by
          obtain ⟨h1, h2⟩ := List.getElem?_eq_some_iff.1 hx
          rw [List.drop_eq_getElem_cons h1, h2]
        have hdy : ks'.drop i = y :: ks'.drop (i + 1) := by
          obtain ⟨h1, h2⟩ := List.getElem?_eq_some_iff.1 hy
          rw [List.drop_eq_getElem_cons h1, h2]
        have HDX := hide hdx
        have HDY := hide hdy
        clear hdx hdy hx hy
        by_cases hxy : x = y
        · subst hxy
          have hbe : (x != x) = false := by simp
          go_wp2
          go_region
          go_wp2
          go_roundg g'
          case measure => omega
          case rel =>
            refine ⟨i + 1, m + 1, by omega, by go_num, hide ?_, rfl⟩
            rw [unhide HD, unhide HDX, unhide HDY]
            simp
        · have hbe : (x == y) = false := by simpa using hxy
          have HX := hide hxy
          clear hxy
          go_wp2
          go_region
          go_wp2
          go_ret
          refine ⟨ret_bool ?_, m + 1, rfl⟩
          rw [unhide HD, unhide HDX, unhide HDY]
          have := unhide HX
          simp [this]
  · have jn : ((ks.length : Int) != (ks'.length : Int)) = true := by simp; omega
    have hr : decide (ks = ks') = false := decide_eq_false (fun e => hn (by rw [e]))
    rw [hr]
    clear hr hn h h'
    go_enter Tryz.func46, Tryz.ntmps46
    go_wp2
    go_ret
    exact ⟨rfl, 0, rfl⟩
def RSameC (d : Nd) : Prop := ∀ (e : Nd) (w : World), d.In w → e.In w → Calls Tryz.prog 89 #[d.val, e.val] w fun x w' => x = .returned (.bool (d.bare.same e.bare)) ∧ Below w.heap.size w w'
/-- two nodes' boxes -/
theorem two_box (w : World) (o1 o2 : Obj) : ∃ W, (w.alloc o1).alloc o2 = W ∧ Below w.heap.size w W ∧ W.heap[w.heap.size]? = some o1 ∧ W.heap[w.heap.size + 1]? = some o2 ∧ W.heap.size = w.heap.size + 1 + 1 := by
  have e2 := World.alloc_heap_new (w.alloc o1) o2
  rw [World.size_alloc] at e2
  exact ⟨_, rfl, ((Below.refl _ w).alloc (Nat.le_refl _) _).alloc (by simp) _, (Below.heap_alloc _ _ _ (by simp)).trans (World.alloc_heap_new w _), e2, by simp⟩
theorem str_ne20 {t t' : List UInt8} (h : t ≠ t') : (t == t') = false := by simpa using h
set_option maxRecDepth 100000 in
set_option maxHeartbeats 4000000 in
theorem rsame_node (k : Nat) (t : List UInt8) (ka : Option Addr) (kc : Nat) (ks : List (List UInt8)) (da : Option Addr) (dc : Nat) (ds : List Nd) (l : Int) (hds : ∀ d ∈ ds, RSameC d) : RSameC (.mk k t ka kc ks da dc ds l) := by
  intro e w hin hin'
  obtain ⟨k', t', ka', kc', ks', da', dc', ds', l'⟩ := e
  have hf := hin.fit
  have hf' := hin'.fit
  have e1 := hf.keysL
  have e2 := hf.kidsL
  have e3 := hf'.keysL
  have e4 := hf'.kidsL
  simp only [Nd.keys, Nd.kids] at e1 e2 e3 e4
  obtain ⟨W, hW, hb, g0, g1, hs⟩ := two_box w (.cells #[.int .u8 k, .string ⟨t.toArray⟩, .slice ka ks.length kc, .slice da ds.length dc, .int .i64 l] 61) (.cells #[.int .u8 k', .string ⟨t'.toArray⟩, .slice ka' ks'.length kc', .slice da' ds'.length dc', .int .i64 l'] 61)
  obtain ⟨⟨x0, _⟩, ⟨x1, _⟩, ⟨x2, _⟩, ⟨x3, _⟩, ⟨x4, _⟩⟩ := five_cell g0
  obtain ⟨⟨y0, _⟩, ⟨y1, _⟩, ⟨y2, _⟩, ⟨y3, _⟩, ⟨y4, _⟩⟩ := five_cell g1
  have heq := refTexts_any ka ka' kc kc' ks ks' W (InS.below hf.keys hb) (InS.below hf'.keys hb) e1 e3
  have hk1 := hin.kids
  have hk2 := hin'.kids
  simp only [Nd.da, Nd.kids] at hk1 hk2
  have HK1 := hide hk1
  have HK2 := hide hk2
  have HDS := hide hds
  have HW := hide hW
  have HB := hide hb
  have HG0 := hide g0
  have HG1 := hide g1
  unfold maxLen at e2
  rw [Nd.val_eq, Nd.val_eq]
  simp only [Nd.bare, P20.T.same]
  clear hW g0 g1 hin hin' hf hf' hds e1 e3 e4 hb hk1 hk2
  by_cases hk : k = k'
  rotate_left
  · have jk : ((k : Int) != (k' : Int)) = true := by simp; omega
    rw [show (k == k') = false from beq_eq_false_iff_ne.2 hk]
    clear hk heq
    go_enter Tryz.func89, Tryz.ntmps89
    go_upto_region 1 with fail
    rw [unhide HW]
    go_wp2
    go_ret
    exact ⟨rfl, unhide HB⟩
  subst hk
  have jk : ((k : Int) != (k : Int)) = false := by simp
  by_cases ht : t = t'
  rotate_left
  · have jt := str_ne20 ht
    rw [show (k == k) = true from beq_self_eq_true k, show (t == t') = false from beq_eq_false_iff_ne.2 ht]
    clear ht heq
    go_enter Tryz.func89, Tryz.ntmps89
    go_upto_region 1 with fail
    rw [unhide HW]
    go_wp2
    go_ret
    exact ⟨rfl, unhide HB⟩
  subst ht
  rw [show (k == k) = true from beq_self_eq_true k, show (t == t) = true from beq_self_eq_true t]
  by_cases hks : ks = ks'
  rotate_left
  · rw [show (ks == ks') = false from beq_eq_false_iff_ne.2 hks]
    rw [decide_eq_false hks] at heq
    have HE := hide heq
    clear hks heq
    go_enter Tryz.func89, Tryz.ntmps89
    go_upto_region 1 with fail
    rw [unhide HW]
    go_wp2_with (go_at_call 46; refine (unhide HE).mono ?_; rintro x w' ⟨rfl, q, rfl⟩)
    go_ret
    exact ⟨rfl, below_drewN (n := q) (unhide HB)⟩
  rw [show (ks == ks') = true from beq_iff_eq.2 hks]
  rw [decide_eq_true hks] at heq
  have HE := hide heq
  clear hks heq
  by_cases hn : ds.length = ds'.length
  rotate_left
  · have jn : ((ds.length : Int) != (ds'.length : Int)) = true := by simp; omega
    have hr : P20.sameL (bareL ds) (bareL ds') = false := by
      cases hb : P20.sameL (bareL ds) (bareL ds') with
      | false => rfl
      | true => have := P20.sameL_len hb; rw [bareL_len, bareL_len] at this; exact absurd this hn
    rw [hr]
    clear hr hn
    go_enter Tryz.func89, Tryz.ntmps89
    go_upto_region 1 with fail
    rw [unhide HW]
    go_wp2_with (go_at_call 46; refine (unhide HE).mono ?_; rintro x w' ⟨rfl, q, rfl⟩)
    go_ret
    exact ⟨rfl, below_drewN (n := q) (unhide HB)⟩
  obtain ⟨n, hN⟩ : ∃ n, ds.length = n := ⟨_, rfl⟩
  have HN' := hide (hn.symm.trans hN)
  have HN := hide hN
  rw [hN] at x3 e2
  rw [hn.symm.trans hN] at y3
  have HW2 := hide (show (w.alloc (.cells #[.int .u8 k, .string ⟨t.toArray⟩, .slice ka ks.length kc, .slice da n dc, .int .i64 l] 61)).alloc (.cells #[.int .u8 k, .string ⟨t.toArray⟩, .slice ka' ks'.length kc', .slice da' n dc', .int .i64 l'] 61) = W by rw [← hN]; have := unhide HW; rw [← hn] at this; exact this)
  have HG0' := hide (show W.heap[w.heap.size]? = some (.cells #[.int .u8 k, .string ⟨t.toArray⟩, .slice ka ks.length kc, .slice da n dc, .int .i64 l] 61) by rw [← hN]; exact unhide HG0)
  have HG1' := hide (show W.heap[w.heap.size + 1]? = some (.cells #[.int .u8 k, .string ⟨t.toArray⟩, .slice ka' ks'.length kc', .slice da' n dc', .int .i64 l'] 61) by rw [← hn.symm.trans hN]; exact unhide HG1)
  have hl1 : w.heap.size + 1 < W.heap.size := by omega
  rw [show ds'.length = n from hn.symm.trans hN, hN]
  clear hn hN HW HG0 HG1
  go_enter Tryz.func89, Tryz.ntmps89
  go_upto_region 1 with fail
  rw [unhide HW2]
  go_wp2_with (go_at_call 46; refine (unhide HE).mono ?_; rintro x w' ⟨rfl, q, rfl⟩)
  clear x0 x1 x2 x3 x4 y0 y1 y2 y3 y4
  go_loopg [5] n (fun g s5 wx => ∃ i : Nat, i + g = n ∧ s5 = .int .i64 i ∧ Hid (P20.sameL (bareL ds) (bareL ds') = P20.sameL (bareL (ds.drop i)) (bareL (ds'.drop i))) ∧ Hid (Below W.heap.size W wx))
  case atStart => exact ⟨0, by omega, by go_num, hide rfl, hide (below_drewN (n := q) (Below.refl _ W))⟩
  case round =>
    obtain ⟨i, hig, rfl, HS, HBX⟩ := hrel
    have hbx := unhide HBX
    obtain ⟨⟨x0, _⟩, ⟨x1, _⟩, ⟨x2, _⟩, ⟨x3, _⟩, ⟨x4, _⟩⟩ := five_cell ((hbx.block w.heap.size (by omega)).trans (unhide HG0'))
    obtain ⟨⟨y0, _⟩, ⟨y1, _⟩, ⟨y2, _⟩, ⟨y3, _⟩, ⟨y4, _⟩⟩ := five_cell ((hbx.block (w.heap.size + 1) hl1).trans (unhide HG1'))
    have hbw : Below w.heap.size w wr := (unhide HB).trans (hbx.mono (unhide HB).size)
    have HBW := hide hbw
    clear hbx hbw
    cases gk with
    | zero =>
      have e1 : (n : Int) = (i : Int) := by omega
      have HQ := hide (show i = n by omega)
      go_wp2
      go_ret
      refine ⟨ret_bool ?_, unhide HBW⟩
      rw [unhide HS, List.drop_of_length_le (by rw [unhide HN]; have := unhide HQ; omega), List.drop_of_length_le (by rw [unhide HN']; have := unhide HQ; omega)]
      rfl
    | succ g' =>
      have hlt : (i : Int) < (n : Int) := by omega
      have hki : IntKind.i64.wrap ((i : Int) + 1) = (i : Int) + 1 := IntWalk.i64_in _ (by omega)
      obtain ⟨d, hg1⟩ := nth_of (unhide HN) (show i < n by omega)
      obtain ⟨e, hg2⟩ := nth_of (unhide HN') (show i < n by omega)
      have hS := unhide HS
      rw [bareL_drop hg1, bareL_drop hg2] at hS
      simp only [P20.sameL] at hS
      have hcl0 := unhide HDS d (List.mem_of_getElem? hg1) e
      obtain ⟨b, o, k1, t1, ka1, kc1, ks1, da1, dc1, ds1, l1, rfl, rfl, c0, c1, c2, c3, c4, hin⟩ := kid_open ((unhide HK1).below (unhide HBW)) hg1
      obtain ⟨b', o', k2, t2, ka2, kc2, ks2, da2, dc2, ds2, l2, rfl, rfl, c0', c1', c2', c3', c4', hin'⟩ := kid_open ((unhide HK2).below (unhide HBW)) hg2
      obtain ⟨r, hr⟩ : ∃ r, (Nd.mk k1 t1 ka1 kc1 ks1 da1 dc1 ds1 l1).bare.same (Nd.mk k2 t2 ka2 kc2 ks2 da2 dc2 ds2 l2).bare = r := ⟨_, rfl⟩
      have hcl := hcl0 wr.drew hin.drew hin'.drew
      rw [hr, Nd.val_eq, Nd.val_eq] at hcl
      rw [hr] at hS
      have HCL := hide hcl
      have HS2 := hide hS
      have hb1 := cellLt c0
      have hb2 := cellLt c0'
      have hmx : Tryz.prog.follows .mixedOrders = true := by kernel_rfl
      clear hcl0 hcl hS hr hg1 hg2 hin hin' HS
      go_wp2
      go_region_with_o (first
        | (go_at_call 89; refine (unhide HCL).mono ?_; rintro x w2 ⟨rfl, hbd⟩; have hb2' : Below wr.heap.size wr w2 := ⟨hbd.os, hbd.tape, hbd.output, hbd.size, hbd.block⟩))
      all_goals
        cases r with
        | false =>
          go_wp2
          go_ret
          refine ⟨ret_bool ?_, (unhide HBW).trans (hb2'.mono (unhide HBW).size)⟩
          rw [unhide HS2]
          rfl
        | true =>
          have hS := unhide HS2
          rw [Bool.true_and] at hS
          have HS := hide hS
          have HBN := hide ((unhide HBX).trans (hb2'.mono (unhide HBX).size))
          clear hS
          go_wp2
          go_roundg g'
          case measure => omega
          case rel => exact ⟨i + 1, by omega, by go_num, HS, HBN⟩
end Go.Proofs.YtefokfbgpfcbkaaGreat
namespace Go.Proofs.YtefokfbgpfcbkaaGreat
set_option linter.unusedVariables false
set_option linter.unusedSimpArgs false
namespace P20
def shortKs (ks : List (List UInt8)) : Bool := ks.all (fun x => decide (x.length ≤ 200))
mutual
/-- how many nodes more there may be, if a tree is small up to so many levels -/
def T.small : Nat → T → Nat → Option Nat
  | lv, .mk k t ks ds l, n => if lv = 0 ∨ n = 0 ∨ 5000 < t.length ∨ 200 < ks.length ∨ shortKs ks = false then none else smallL (lv - 1) ds (n - 1)
def smallL : Nat → List T → Nat → Option Nat
  | _, [], n => some n
  | lv, d :: ds, n => match d.small lv n with
    | none => none
    | some m => smallL lv ds m
end
theorem short_all {ks : List (List UInt8)} (h : ¬ shortKs ks = false) : ∀ x ∈ ks, x.length ≤ 200 := by
  intro x hx
  simp [shortKs] at h
  exact h x hx
mutual
theorem T.size_le : ∀ (d : T) (lv : Nat), (d.size lv).1 ≤ lv
  | .mk k t ks ds l, lv => by
    have := sizeL_le ds (lv - 1)
    unfold T.size
    split
    · simp
    · show _ + 1 ≤ lv; omega
theorem sizeL_le : ∀ (ds : List T) (lv : Nat), (sizeL lv ds).1 ≤ lv
  | [], lv => by simp [sizeL]
  | d :: ds, lv => by
    have := T.size_le d lv
    have := sizeL_le ds lv
    unfold sizeL
    show max _ _ ≤ lv
    omega
end
mutual
theorem T.small_ok : ∀ (d : T) (lv n m : Nat), d.small lv n = some m → n ≤ 1000000000 → 1 ≤ lv ∧ n = m + (d.size lv).2 ∧ 1 ≤ (d.size lv).2 ∧ okT d ∧ d.cut lv = d
  | .mk k t ks ds l, lv, n, m, h, hn => by
    unfold T.small at h
    split at h
    · cases h
    · rename_i h0
      simp only [not_or] at h0
      obtain ⟨h1, h2, h3, h4, h5⟩ := h0
      obtain ⟨q1, q2, q3, q4, q5⟩ := smallL_ok ds (lv - 1) (n - 1) m h (by omega)
      have hs : (T.mk k t ks ds l).size lv = ((sizeL (lv - 1) ds).1 + 1, (sizeL (lv - 1) ds).2 + 1) := by unfold T.size; rw [if_neg h1]
      rw [hs]
      refine ⟨by omega, by show n = m + (_ + 1); omega, by show 1 ≤ _ + 1; omega, ?_, ?_⟩
      · unfold okT
        exact ⟨by omega, by omega, fun x hx => by have := short_all h5 x hx; omega, by omega, q3⟩
      · unfold T.cut
        split
        · rw [q5]
        · rename_i hl
          rw [q4 (by omega)]
theorem smallL_ok : ∀ (ds : List T) (lv n m : Nat), smallL lv ds n = some m → n ≤ 1000000000 → n = m + (sizeL lv ds).2 ∧ ds.length ≤ (sizeL lv ds).2 ∧ okTs ds ∧ (lv = 0 → ds = []) ∧ cutL lv ds = ds
  | [], lv, n, m, h, hn => by
    simp only [smallL, Option.some.injEq] at h
    refine ⟨by simp [sizeL, h], by simp [sizeL], trivial, fun _ => rfl, rfl⟩
  | d :: ds, lv, n, m, h, hn => by
    unfold smallL at h
    split at h
    · cases h
    · rename_i m1 hm1
      obtain ⟨q1, q2, q3, q4, q5⟩ := T.small_ok d lv n m1 hm1 hn
      obtain ⟨r1, r2, r3, r4, r5⟩ := smallL_ok ds lv m1 m h (by omega)
      unfold sizeL okTs cutL
      refine ⟨by show n = m + (_ + _); omega, by show _ + 1 ≤ _ + _; omega, ⟨q4, r3⟩, fun e => by omega, by rw [q5, r5]⟩
end
theorem put_len20 (l : List UInt8) : (P18.put l).length ≤ 4 * l.length + 2 := by
  have h := leaf_len 1 l
  unfold leaf at h
  rw [if_neg (by decide), if_neg (by decide)] at h
  exact h
theorem head_short {ks : List (List UInt8)} (h : ∀ x ∈ ks, x.length ≤ 200) : (ks.headD []).length ≤ 200 := by
  cases ks with
  | nil => simp
  | cons x r => exact h x List.mem_cons_self
mutual
theorem T.small_write : ∀ (d : T) (lv n m : Nat) (f h : List UInt8), d.small lv n = some m → n ≤ 1000000000 → (d.write f h).length + 2 * h.length + 1010 ≤ f.length + (n - m) * (3 * h.length + 6 * lv + 30000)
  | .mk k t ks ds l, lv, n, m, f, h, hs, hn => by
    have hok := T.small_ok _ lv n m hs hn
    unfold T.small at hs
    split at hs
    · cases hs
    · rename_i h0
      simp only [not_or] at h0
      obtain ⟨h1, h2, h3, h4, h5⟩ := h0
      have hnm : n - m = (n - 1 - m) + 1 := by have := (smallL_ok ds _ _ _ hs (by omega)).1; omega
      rw [hnm, Nat.add_mul, Nat.one_mul]
      unfold T.write
      split
      · have := leaf_len k t
        simp only [List.length_append, List.length_cons, List.length_nil]
        omega
      · have hb : 3 * h.length + 6 * lv + 30000 = 3 * h.length + 6 * (lv - 1) + 30006 := by omega
        have := smallL_write ds (lv - 1) (n - 1) m k f h ks hs (by omega) (short_all h5)
        rw [← hb] at this
        omega
theorem smallL_write : ∀ (ds : List T) (lv n m k : Nat) (f h : List UInt8) (ks : List (List UInt8)), smallL lv ds n = some m → n ≤ 1000000000 → (∀ x ∈ ks, x.length ≤ 200) → (writeL k f h ks ds).length ≤ f.length + (n - m) * (3 * h.length + 6 * lv + 30006)
  | [], lv, n, m, k, f, h, ks, hs, hn, hk => by simp [writeL]
  | d :: ds, lv, n, m, k, f, h, ks, hs, hn, hk => by
    unfold smallL at hs
    split at hs
    · cases hs
    · rename_i m1 hm1
      obtain ⟨q1, q2, q3, q4, q5⟩ := T.small_ok d lv n m1 hm1 hn
      have r1 := (smallL_ok ds lv m1 m hs (by omega)).1
      have hr := smallL_write ds lv m1 m k h h ks.tail hs (by omega) (fun x hx => hk x (List.mem_of_mem_tail hx))
      have hp := put_len20 (ks.headD [])
      have hq := head_short hk
      have hnm : n - m = (n - m1) + (m1 - m) := by omega
      have hb : 3 * (h.length + 2) + 6 * lv + 30000 = 3 * h.length + 6 * lv + 30006 := by omega
      rw [hnm, Nat.add_mul]
      unfold writeL
      rw [List.length_append]
      have hc1 : 1 ≤ n - m1 := by omega
      split
      · have h1 := T.small_write d lv n m1 (f ++ [45, 32]) (h ++ [32, 32]) hm1 hn
        simp only [List.length_append, List.length_cons, List.length_nil] at h1
        rw [show 3 * (h.length + (0 + 1 + 1)) + 6 * lv + 30000 = 3 * h.length + 6 * lv + 30006 from by omega] at h1
        omega
      · split
        · rename_i he
          obtain ⟨k2, t2, ks2, ds2, l2⟩ := d
          simp only [T.kids] at he
          have hdw : ∀ g : List UInt8, (T.write g [] (.mk k2 t2 ks2 ds2 l2)).length ≤ g.length + 20003 := fun g => by
            have := leaf_len k2 t2
            unfold T.small at hm1
            split at hm1
            · cases hm1
            · rename_i h0
              simp only [not_or] at h0
              unfold T.write
              rw [if_pos he]
              simp only [List.length_append, List.length_cons, List.length_nil]
              omega
          have h1 := hdw (f ++ P18.put (ks.headD []) ++ [58] ++ [32])
          simp only [List.length_append, List.length_cons, List.length_nil] at h1
          have hm2 : 1 * (3 * h.length + 6 * lv + 30006) ≤ (n - m1) * (3 * h.length + 6 * lv + 30006) := Nat.mul_le_mul_right _ hc1
          omega
        · have h1 := T.small_write d lv n m1 (h ++ [32, 32]) (h ++ [32, 32]) hm1 hn
          simp only [List.length_append, List.length_cons, List.length_nil] at h1 ⊢
          rw [show 3 * (h.length + (0 + 1 + 1)) + 6 * lv + 30000 = 3 * h.length + 6 * lv + 30006 from by omega] at h1
          omega
end
end P20
end Go.Proofs.YtefokfbgpfcbkaaGreat
namespace Go.Proofs.YtefokfbgpfcbkaaGreat
set_option linter.unusedVariables false
set_option linter.unusedSimpArgs false
open Go.RowKit
theorem rsame_any (d : Nd) : RSameC d := Nd.ind (p := RSameC) rsame_node d
theorem bareL_get {ds es : List Nd} (h : bareL ds = bareL es) {i : Nat} {d e : Nd} (h1 : ds[i]? = some d) (h2 : es[i]? = some e) : d.bare = e.bare := by
  have h3 := congrArg (fun l => l[i]?) h
  simp only [bareL_map, List.getElem?_map, h1, h2, Option.map_some, Option.some.injEq] at h3
  exact h3
def RSizeC (d : Nd) : Prop := ∀ (lv : Nat) (w : World), d.In w → lv ≤ 1000 → (d.bare.size lv).2 ≤ 1000000000 → Calls Tryz.prog 160 #[d.val, .int .i64 lv] w fun x w' => x = .returned (.tuple #[.int .i64 (d.bare.size lv).1, .int .i64 (d.bare.size lv).2]) ∧ Below w.heap.size w w'
theorem sizeL_take (lv : Nat) {ds : List Nd} {i : Nat} {d : Nd} (h : ds[i]? = some d) : P20.sizeL lv (bareL (ds.take (i + 1))) = (max (P20.sizeL lv (bareL (ds.take i))).1 (d.bare.size lv).1, (P20.sizeL lv (bareL (ds.take i))).2 + (d.bare.size lv).2) := by
  have e : ∀ (a : List P20.T) (x : P20.T), P20.sizeL lv (a ++ [x]) = (max (P20.sizeL lv a).1 (x.size lv).1, (P20.sizeL lv a).2 + (x.size lv).2) := fun a x => by
    induction a with
    | nil => simp [P20.sizeL]
    | cons y a ih => simp only [List.cons_append, P20.sizeL, ih]; refine Prod.ext ?_ ?_ <;> simp only <;> omega
  have ht : ds.take (i + 1) = ds.take i ++ [d] := by rw [List.take_add_one, h]; rfl
  rw [ht, bareL_append]
  exact e _ _
theorem sizeL_part (lv : Nat) (ds : List Nd) (i : Nat) : (P20.sizeL lv (bareL (ds.take i))).2 ≤ (P20.sizeL lv (bareL ds)).2 := by
  have e : ∀ (a b : List P20.T), (P20.sizeL lv (a ++ b)).2 = (P20.sizeL lv a).2 + (P20.sizeL lv b).2 := fun a b => by
    induction a with
    | nil => simp [P20.sizeL]
    | cons y a ih => simp only [List.cons_append, P20.sizeL, ih]; omega
  have := e (bareL (ds.take i)) (bareL (ds.drop i))
  rw [← bareL_append, List.take_append_drop] at this
  omega
theorem sizeL_mem (lv : Nat) {ds : List Nd} {d : Nd} (h : d ∈ ds) : (d.bare.size lv).2 ≤ (P20.sizeL lv (bareL ds)).2 := by
  induction ds with
  | nil => simp at h
  | cons y a ih =>
    simp only [bareL, P20.sizeL]
    rcases List.mem_cons.1 h with rfl | h
    · omega
    · have := ih h; omega
set_option maxRecDepth 100000 in
set_option maxHeartbeats 4000000 in
theorem rsize_node (k : Nat) (t : List UInt8) (ka : Option Addr) (kc : Nat) (ks : List (List UInt8)) (da : Option Addr) (dc : Nat) (ds : List Nd) (l : Int) (hds : ∀ d ∈ ds, RSizeC d) : RSizeC (.mk k t ka kc ks da dc ds l) := by
  intro lv w hin hlv hsz
  have e2 := hin.fit.kidsL
  simp only [Nd.kids] at e2
  obtain ⟨n, hN⟩ : ∃ n, ds.length = n := ⟨_, rfl⟩
  have hk1 := hin.kids
  simp only [Nd.da, Nd.kids] at hk1
  obtain ⟨W, hW⟩ : ∃ W, w.alloc (.cells #[.int .u8 k, .string ⟨t.toArray⟩, .slice ka ks.length kc, .slice da n dc, .int .i64 l] 61) = W := ⟨_, rfl⟩
  have hb : Below w.heap.size w W := by rw [← hW]; exact (Below.refl _ w).alloc (Nat.le_refl _) _
  have g0 : W.heap[w.heap.size]? = some (.cells #[.int .u8 k, .string ⟨t.toArray⟩, .slice ka ks.length kc, .slice da n dc, .int .i64 l] 61) := by rw [← hW]; exact World.alloc_heap_new _ _
  have hl0 : w.heap.size < W.heap.size := (Array.getElem?_eq_some_iff.1 g0).1
  rw [Nd.val_eq, hN]
  have HK1 := hide hk1
  have HDS := hide hds
  have HW := hide hW
  have HB := hide hb
  have HG0 := hide g0
  have HN := hide hN
  unfold maxLen at e2
  rw [hN] at e2
  simp only [Nd.bare, P20.T.size] at hsz ⊢
  clear hW g0 hin hds hb hk1 hN
  cases lv with
  | zero =>
    rw [if_pos rfl]
    clear hsz
    go_enter Tryz.func160, Tryz.ntmps160
    go_upto_region 1 with fail
    rw [unhide HW]
    go_wp2
    exact bodyPost_ret (results_tmp2 rfl _ _ _) rfl ⟨rfl, unhide HB⟩
  | succ lv =>
    rw [if_neg (by omega)] at hsz ⊢
    simp only [Nat.add_sub_cancel] at hsz ⊢
    have hlw : IntKind.i64.wrap (((lv + 1 : Nat) : Int) - 1) = (lv : Int) := by rw [IntWalk.i64_in _ (by omega)]; omega
    have jl : (1 : Int) ≤ ((lv + 1 : Nat) : Int) := by omega
    obtain ⟨L1, hL1⟩ : ∃ L1 : Int, ((lv + 1 : Nat) : Int) = L1 := ⟨_, rfl⟩
    rw [hL1] at hlw jl ⊢
    have HSZ := hide hsz
    have HL1 := hide hL1
    clear hsz hL1
    go_enter Tryz.func160, Tryz.ntmps160
    go_upto_region 1 with fail
    rw [unhide HW]
    go_wp2
    go_loopg [6, 7, 8] n (fun g s6 s7 s8 wx => ∃ (i x y : Nat), i + g = n ∧ s6 = .int .i64 x ∧ s7 = .int .i64 y ∧ s8 = .int .i64 i ∧ Hid (P20.sizeL lv (bareL (ds.take i)) = (x, y - 1)) ∧ 1 ≤ y ∧ Hid (Below W.heap.size W wx))
    case atStart => exact ⟨0, 0, 1, by omega, by go_num, by go_num, by go_num, hide (by simp [bareL, P20.sizeL]), by omega, hide (Below.refl _ _)⟩
    case round =>
      obtain ⟨i, x, y, hig, rfl, rfl, rfl, HS, hy1, HBX⟩ := hrel
      have hbx := unhide HBX
      obtain ⟨⟨x0, _⟩, ⟨x1, _⟩, ⟨x2, _⟩, ⟨x3, _⟩, ⟨x4, _⟩⟩ := five_cell ((hbx.block w.heap.size hl0).trans (unhide HG0))
      have hbw : Below w.heap.size w wr := (unhide HB).trans (hbx.mono (unhide HB).size)
      have HBW := hide hbw
      have hxl : x ≤ lv := by have := P20.sizeL_le (bareL (ds.take i)) lv; rw [unhide HS] at this; exact this
      have hyl : y ≤ 1000000000 := by have := sizeL_part lv ds i; rw [unhide HS] at this; have := unhide HSZ; simp only at *; omega
      clear hbx hbw
      cases gk with
      | zero =>
        have e1 : (n : Int) = (i : Int) := by omega
        have HQ := hide (show i = n by omega)
        have hkx : IntKind.i64.wrap ((x : Int) + 1) = (x : Int) + 1 := IntWalk.i64_in _ (by omega)
        go_wp2
        refine bodyPost_ret (results_tmp2 rfl _ _ _) rfl ⟨?_, unhide HBW⟩
        have h9 := unhide HS
        rw [unhide HQ, ← unhide HN, List.take_length] at h9
        rw [h9]
        show Ending.returned (.tuple #[.int .i64 ((x : Int) + 1), .int .i64 (y : Int)]) = _
        simp only
        rw [show (((x + 1 : Nat)) : Int) = (x : Int) + 1 from by omega, show (((y - 1 + 1 : Nat)) : Int) = (y : Int) from by omega]
      | succ g' =>
        have hlt : (i : Int) < (n : Int) := by omega
        have hki : IntKind.i64.wrap ((i : Int) + 1) = (i : Int) + 1 := IntWalk.i64_in _ (by omega)
        obtain ⟨d, hg1⟩ := nth_of (unhide HN) (show i < n by omega)
        have htk := sizeL_take lv hg1
        rw [unhide HS] at htk
        have hmem := sizeL_mem lv (List.mem_of_getElem? hg1)
        have hcl0 := unhide HDS d (List.mem_of_getElem? hg1)
        obtain ⟨b, o, k1, t1, ka1, kc1, ks1, da1, dc1, ds1, l1, rfl, rfl, c0, c1, c2, c3, c4, hin⟩ := kid_open ((unhide HK1).below (unhide HBW)) hg1
        obtain ⟨p, hp⟩ : ∃ p, (Nd.mk k1 t1 ka1 kc1 ks1 da1 dc1 ds1 l1).bare.size lv = p := ⟨_, rfl⟩
        have hp1 : p.1 ≤ lv := by rw [← hp]; exact P20.T.size_le _ _
        rw [hp] at htk hmem
        have hp2 : p.2 ≤ 1000000000 := by have := unhide HSZ; omega
        have hcl := hcl0 lv wr hin (by omega) (by rw [hp]; exact hp2)
        rw [Nd.val_eq, hp] at hcl
        have hyp : y - 1 + p.2 ≤ 1000000000 := by
          have := sizeL_part lv ds (i + 1)
          rw [htk] at this
          have := unhide HSZ
          simp only at *
          omega
        have HCL := hide hcl
        have HTK := hide htk
        have hb1 := cellLt c0
        have hky : IntKind.i64.wrap ((y : Int) + (p.2 : Int)) = (y : Int) + (p.2 : Int) := IntWalk.i64_in _ (by omega)
        clear hcl0 hcl hg1 hin hp htk hmem HS
        go_wp2_with (go_at_call 160; refine (unhide HCL).mono ?_; rintro x' w2 ⟨rfl, hbd⟩)
        have HBN := hide ((unhide HBX).trans (hbd.mono (unhide HBX).size))
        go_roundg g'
        case measure => omega
        case rel => exact ⟨i + 1, max x p.1, y + p.2, by omega, by go_num, by go_num, by go_num, hide (by rw [unhide HTK]; refine Prod.ext rfl ?_; show y - 1 + p.2 = y + p.2 - 1; omega), by omega, HBN⟩
theorem rsize_any (d : Nd) : RSizeC d := Nd.ind (p := RSizeC) rsize_node d
end Go.Proofs.YtefokfbgpfcbkaaGreat
namespace Go.Proofs.YtefokfbgpfcbkaaGreat
set_option linter.unusedVariables false
set_option linter.unusedSimpArgs false
open Go.RowKit
/-- the counter's cell -/
theorem one_cell20 {W : World} {g : Nat} {t : TypeId} {a : Value} (h : W.heap[g]? = some (.cells #[a] t)) : W.cell? ⟨g, 0, none⟩ = some a ∧ W.frozen? ⟨g, 0, none⟩ = false := by
  simp [World.cell?, World.frozen?, h]
theorem one_put20 {W : World} {g : Nat} {t : TypeId} {a : Value} (h : W.heap[g]? = some (.cells #[a] t)) (v : Value) : (W.setCell ⟨g, 0, none⟩ v).heap[g]? = some (.cells #[v] t) := by
  simp [World.setCell, Array.getElem?_modify, h]
theorem one_grown20 (W : World) (g : Nat) (v : Value) : W.grownBy (W.setCell ⟨g, 0, none⟩ v) (some g) :=
  ⟨rfl, rfl, rfl, by simp, fun i hi hne => Below.heap_setCell _ _ _ _ (by show i ≠ g; rintro rfl; exact hne rfl)⟩
def SmallPost (w : World) (b : Nat) (o : Option Nat) (x : Ending) (w' : World) : Prop :=
  x = .returned (.bool o.isSome) ∧ Hid (w.grownBy w' (some b)) ∧ ∀ m, o = some m → w'.heap[b]? = some (.cells #[.int .i64 (m : Nat)] 3)
def RSmallC (d : Nd) : Prop := ∀ (lv b n : Nat) (w : World), d.In w → lv ≤ 1000 → n ≤ 1000000000 → ¬ d.blk b → w.heap[b]? = some (.cells #[.int .i64 (n : Nat)] 3) →
  Calls Tryz.prog 108 #[d.val, .int .i64 lv, .pointer (some ⟨b, 0, none⟩)] w (SmallPost w b (d.bare.small lv n))
theorem smallL_drop (lv : Nat) {ds : List Nd} {i : Nat} {d : Nd} (h : ds[i]? = some d) (m : Nat) : P20.smallL lv (bareL (ds.drop i)) m = match d.bare.small lv m with | none => none | some q => P20.smallL lv (bareL (ds.drop (i + 1))) q := by
  rw [bareL_drop h]
  rfl
theorem short_drop {ks : List (List UInt8)} {i : Nat} {x : List UInt8} (h : ks[i]? = some x) : P20.shortKs (ks.drop i) = (decide (x.length ≤ 200) && P20.shortKs (ks.drop (i + 1))) := by
  obtain ⟨h1, h2⟩ := List.getElem?_eq_some_iff.1 h
  rw [List.drop_eq_getElem_cons h1, h2]
  rfl
set_option maxRecDepth 100000 in
set_option maxHeartbeats 8000000 in
theorem rsmall_node (k : Nat) (t : List UInt8) (ka : Option Addr) (kc : Nat) (ks : List (List UInt8)) (da : Option Addr) (dc : Nat) (ds : List Nd) (l : Int) (hds : ∀ d ∈ ds, RSmallC d) : RSmallC (.mk k t ka kc ks da dc ds l) := by
  intro lv b n w hin hlv hn hbk hb
  have hf := hin.fit
  have e1 := hf.keysL
  have e2 := hf.kidsL
  have e3 := hf.text
  simp only [Nd.keys, Nd.kids, Nd.text] at e1 e2 e3
  unfold maxLen at e1 e2 e3
  obtain ⟨N, hN⟩ : ∃ N, ds.length = N := ⟨_, rfl⟩
  obtain ⟨M, hM⟩ : ∃ M, ks.length = M := ⟨_, rfl⟩
  have hbl : b < w.heap.size := (Array.getElem?_eq_some_iff.1 hb).1
  obtain ⟨H, hH⟩ : ∃ H, w.heap.size = H := ⟨_, rfl⟩
  obtain ⟨W, hW⟩ : ∃ W, w.alloc (.cells #[.int .u8 k, .string ⟨t.toArray⟩, .slice ka M kc, .slice da N dc, .int .i64 l] 61) = W := ⟨_, rfl⟩
  have hbw : Below w.heap.size w W := by rw [← hW]; exact (Below.refl _ w).alloc (Nat.le_refl _) _
  have g0 : W.heap[H]? = some (.cells #[.int .u8 k, .string ⟨t.toArray⟩, .slice ka M kc, .slice da N dc, .int .i64 l] 61) := by rw [← hW, ← hH]; exact World.alloc_heap_new _ _
  have hbW := (hbw.block b hbl).trans hb
  have hgw := grown_of_below hbw (some b)
  rw [hH] at hbl
  obtain ⟨V, hV⟩ : ∃ V, W.setCell ⟨b, 0, none⟩ (.int .i64 ((n : Int) - 1)) = V := ⟨_, rfl⟩
  have hgV : w.grownBy V (some b) := by rw [← hV]; exact grown_trans1 hgw (one_grown20 W b _)
  have hVb : V.heap[b]? = some (.cells #[.int .i64 ((n : Int) - 1)] 3) := by rw [← hV]; exact one_put20 hbW _
  have hV0 : V.heap[H]? = some (.cells #[.int .u8 k, .string ⟨t.toArray⟩, .slice ka M kc, .slice da N dc, .int .i64 l] 61) := by rw [← hV]; exact (Below.heap_setCell _ _ _ _ (by show H ≠ b; omega)).trans g0
  obtain ⟨c0, f0⟩ := one_cell20 hbW
  obtain ⟨c1, f1⟩ := one_cell20 hVb
  obtain ⟨⟨x0, _⟩, ⟨x1, _⟩, ⟨x2, _⟩, ⟨x3, _⟩, ⟨x4, _⟩⟩ := five_cell hV0
  have hnw : IntKind.i64.wrap ((n : Int) - 1) = (n : Int) - 1 := IntWalk.i64_in _ (by omega)
  have hinV : (Nd.mk k t ka kc ks da dc ds l).In V := hin.grown hgV (fun r e => by cases e; exact hbk)
  have hk1 := hinV.kids
  have hks := hinV.fit.keys
  simp only [Nd.da, Nd.kids, Nd.ka, Nd.keys] at hk1 hks
  have hbd : ∀ d ∈ ds, ¬ d.blk b := fun d hd hx => hbk (by simp only [Nd.blk]; exact .inr (.inr ((blkL_iff b ds).2 ⟨d, hd, hx⟩)))
  have hVl : H < V.heap.size := (Array.getElem?_eq_some_iff.1 hV0).1
  rw [Nd.val_eq, hN, hM]
  simp only [Nd.bare, P20.T.small]
  have HW := hide hW
  have HV := hide hV
  have HGV := hide hgV
  have HV0 := hide hV0
  have HVB := hide hVb
  have HK1 := hide hk1
  have HKS := hide hks
  have HDS := hide hds
  have HBD := hide hbd
  have HINV := hide hinV
  have HBK := hide hbk
  have HH := hide hH
  have HN := hide hN
  have HM := hide hM
  rw [hM]
  rw [hM] at e1
  rw [hN] at e2
  clear hin hbk hb hf hbw g0 hbW hgw hgV hV0 hVb hinV hk1 hks hds hbd hW hV hN hM hH
  by_cases hz : lv = 0 ∨ n = 0 ∨ 5000 < t.length ∨ 200 < M
  · rw [if_pos (by rcases hz with h | h | h | h <;> simp [h])]
    by_cases h1 : lv = 0
    · have j1 : (lv : Int) < 1 := by omega
      clear hz h1 x0 x1 x2 x3 x4
      go_enter Tryz.func108, Tryz.ntmps108
      go_upto_region 1 with fail
      try rw [unhide HH]
      rw [unhide HW]
      go_upto_region 2 with fail
      rw [unhide HV]
      go_wp2
      go_ret
      exact ⟨rfl, HGV, fun m h => by cases h⟩
    · have j1 : (1 : Int) ≤ (lv : Int) := by omega
      by_cases h2 : n = 0
      · have j2 : (n : Int) - 1 < 0 := by omega
        clear hz h1 h2 x0 x1 x2 x3 x4
        go_enter Tryz.func108, Tryz.ntmps108
        go_upto_region 1 with fail
        try rw [unhide HH]
        rw [unhide HW]
        go_upto_region 2 with fail
        rw [unhide HV]
        go_wp2
        go_ret
        exact ⟨rfl, HGV, fun m h => by cases h⟩
      · have j2 : (0 : Int) ≤ (n : Int) - 1 := by omega
        by_cases h3 : 5000 < t.length
        · have j3 : (5000 : Int) < (t.length : Int) := by omega
          clear hz h1 h2 h3
          go_enter Tryz.func108, Tryz.ntmps108
          go_upto_region 1 with fail
          try rw [unhide HH]
          rw [unhide HW]
          go_upto_region 2 with fail
          rw [unhide HV]
          go_wp2
          go_ret
          exact ⟨rfl, HGV, fun m h => by cases h⟩
        · have j3 : (t.length : Int) ≤ 5000 := by omega
          have j4 : (200 : Int) < (M : Int) := by rcases hz with h | h | h | h <;> omega
          clear hz h1 h2 h3
          go_enter Tryz.func108, Tryz.ntmps108
          go_upto_region 1 with fail
          try rw [unhide HH]
          rw [unhide HW]
          go_upto_region 2 with fail
          rw [unhide HV]
          go_wp2
          go_ret
          exact ⟨rfl, HGV, fun m h => by cases h⟩
  have j1 : (1 : Int) ≤ (lv : Int) := by omega
  have j2 : (0 : Int) ≤ (n : Int) - 1 := by omega
  have j3 : (t.length : Int) ≤ 5000 := by omega
  have j4 : (M : Int) ≤ 200 := by omega
  have hlw : IntKind.i64.wrap ((lv : Int) - 1) = (lv : Int) - 1 := IntWalk.i64_in _ (by omega)
  have hel : (if lv = 0 ∨ n = 0 ∨ 5000 < t.length ∨ 200 < M ∨ P20.shortKs ks = false then none else P20.smallL (lv - 1) (bareL ds) (n - 1)) = if P20.shortKs (ks.drop 0) = false then none else P20.smallL (lv - 1) (bareL ds) (n - 1) := by
    rw [List.drop_zero]
    by_cases h : P20.shortKs ks = false
    · rw [if_pos (by simp [h]), if_pos h]
    · rw [if_neg (by rintro (h1 | h1 | h1 | h1 | h1) <;> first | exact hz (.inl h1) | exact hz (.inr (.inl h1)) | exact hz (.inr (.inr (.inl h1))) | exact hz (.inr (.inr (.inr h1))) | exact h h1), if_neg h]
  rw [hel]
  obtain ⟨O, hO⟩ : ∃ O, (if P20.shortKs (ks.drop 0) = false then none else P20.smallL (lv - 1) (bareL ds) (n - 1)) = O := ⟨_, rfl⟩
  rw [hO]
  have HO := hide hO
  have HZ := hide hz
  clear hel hO hz
  go_enter Tryz.func108, Tryz.ntmps108
  go_upto_region 1 with fail
  try rw [unhide HH]
  rw [unhide HW]
  go_upto_region 2 with fail
  rw [unhide HV]
  go_wp2
  go_loopg [7] M (fun g s7 wx => ∃ i : Nat, i + g = M ∧ s7 = .int .i64 i ∧ Hid ((if P20.shortKs (ks.drop i) = false then none else P20.smallL (lv - 1) (bareL ds) (n - 1)) = O) ∧ V = wx)
  case atStart => exact ⟨0, by omega, by go_num, HO, rfl⟩
  case round =>
    obtain ⟨i, hig, rfl, HI, rfl⟩ := hrel
    cases gk with
    | succ g' =>
      have hlt : (i : Int) < (M : Int) := by omega
      have hki : IntKind.i64.wrap ((i : Int) + 1) = (i : Int) + 1 := IntWalk.i64_in _ (by omega)
      obtain ⟨x, hx⟩ := nth_of (unhide HM) (show i < M by omega)
      obtain ⟨b1, o1, rfl, hc⟩ := unhide HKS i x hx
      have hI := unhide HI
      rw [short_drop hx] at hI
      clear hx
      by_cases hxl : x.length ≤ 200
      · have jx : (x.length : Int) ≤ 200 := by omega
        rw [decide_eq_true hxl, Bool.true_and] at hI
        have HI2 := hide hI
        clear hI hxl
        go_wp2
        go_roundg g'
        case measure => omega
        case rel => exact ⟨i + 1, by omega, by go_num, HI2, rfl⟩
      · have jx : (200 : Int) < (x.length : Int) := by omega
        rw [decide_eq_false hxl, Bool.false_and, if_pos rfl] at hI
        subst hI
        clear hxl
        go_wp2
        go_ret
        exact ⟨rfl, HGV, fun m h => by cases h⟩
    | zero =>
      have e1 : (M : Int) = (i : Int) := by omega
      have hI := unhide HI
      rw [List.drop_of_length_le (by rw [unhide HM]; omega), if_neg (by simp [P20.shortKs])] at hI
      have HI2 := hide hI
      clear hI HI HO
      go_wp2
      clear x0 x1 x2 x3 x4 c0 f0 c1 f1 e1
      go_loopg [8] N (fun g s8 wx => ∃ i m : Nat, i + g = N ∧ s8 = .int .i64 i ∧ m ≤ n ∧ Hid (P20.smallL (lv - 1) (bareL (ds.drop i)) m = O) ∧ Hid (V.grownBy wx (some b)) ∧ Hid (wx.heap[b]? = some (.cells #[.int .i64 (m : Nat)] 3)))
      case atStart => exact ⟨0, n - 1, by omega, by go_num, by omega, HI2, hide (World.grownBy.refl _ _), hide (by rw [unhide HVB, show (((n - 1 : Nat)) : Int) = (n : Int) - 1 from by omega])⟩
      case round =>
        obtain ⟨i2, m, hig2, rfl, hmn, HS, HGX, HXB⟩ := hrel
        have hgx := unhide HGX
        obtain ⟨⟨x0, _⟩, ⟨x1, _⟩, ⟨x2, _⟩, ⟨x3, _⟩, ⟨x4, _⟩⟩ := five_cell ((hgx.block H hVl (fun e => by injection e; omega)).trans (unhide HV0))
        have HGW := hide (grown_trans1 (unhide HGV) hgx)
        clear hgx
        cases gk with
        | zero =>
          have e1 : (N : Int) = (i2 : Int) := by omega
          have hS := unhide HS
          rw [List.drop_of_length_le (by rw [unhide HN]; omega)] at hS
          simp only [bareL, P20.smallL] at hS
          subst hS
          go_wp2
          go_ret
          exact ⟨rfl, HGW, fun q h => by cases h; exact unhide HXB⟩
        | succ g' =>
          have hlt : (i2 : Int) < (N : Int) := by omega
          have hki : IntKind.i64.wrap ((i2 : Int) + 1) = (i2 : Int) + 1 := IntWalk.i64_in _ (by omega)
          obtain ⟨d, hg1⟩ := nth_of (unhide HN) (show i2 < N by omega)
          have hS := unhide HS
          rw [smallL_drop (lv - 1) hg1] at hS
          have hmem := List.mem_of_getElem? hg1
          have hcl0 := unhide HDS d hmem
          have hnb := unhide HBD d hmem
          have hinr := (unhide HINV).grown (unhide HGX) (fun r e => by cases e; exact unhide HBK)
          have hdr := hinr.kids
          simp only [Nd.da, Nd.kids] at hdr
          obtain ⟨b2, o2, k1, t1, ka1, kc1, ks1, da1, dc1, ds1, l1, rfl, rfl, y0, y1, y2, y3, y4, hin⟩ := kid_open hdr hg1
          have hcl := hcl0 (lv - 1) b m wr hin (by omega) (by omega) hnb (unhide HXB)
          rw [show (((lv - 1 : Nat)) : Int) = (lv : Int) - 1 from by omega, Nd.val_eq] at hcl
          obtain ⟨o, ho⟩ : ∃ o, (Nd.mk k1 t1 ka1 kc1 ks1 da1 dc1 ds1 l1).bare.small (lv - 1) m = o := ⟨_, rfl⟩
          rw [ho] at hcl hS
          have hle : ∀ q, o = some q → q ≤ m := fun q e => by
            have := P20.T.small_ok _ _ _ _ (ho.trans e) (by omega)
            omega
          have HCL := hide hcl
          have HLE := hide hle
          have HS2 := hide hS
          clear hcl0 hcl hS ho hin hinr hdr hg1 hmem hnb hle HS
          cases o with
          | none =>
            have hS := unhide HS2
            simp only at hS
            subst hS
            go_wp2_with (go_at_call 108; refine (unhide HCL).mono ?_; rintro x' w2 ⟨hx2, hg2, hq2⟩; obtain rfl : x' = .returned (.bool false) := hx2)
            go_ret
            exact ⟨rfl, hide (grown_trans1 (unhide HGW) (unhide hg2)), fun q h => by cases h⟩
          | some q =>
            have hS := unhide HS2
            simp only at hS
            have HS := hide hS
            have hqm := unhide HLE q rfl
            clear hS HS2
            go_wp2_with (go_at_call 108; refine (unhide HCL).mono ?_; rintro x' w2 ⟨hx2, hg2, hq2⟩; obtain rfl : x' = .returned (.bool true) := hx2)
            have HQ2 := hide (hq2 q rfl)
            go_roundg g'
            case measure => omega
            case rel => exact ⟨i2 + 1, q, by omega, by go_num, by omega, HS, hide (grown_trans1 (unhide HGX) (unhide hg2)), HQ2⟩
theorem rsmall_any (d : Nd) : RSmallC d := Nd.ind (p := RSmallC) rsmall_node d
set_option maxRecDepth 100000 in
theorem Small_any (d : Nd) (w : World) (hin : d.In w) : Calls Tryz.prog 66 #[d.val] w fun x w' => x = .returned (.bool (d.bare.small 18 150).isSome) ∧ Below w.heap.size w w' := by
  obtain ⟨k, t, ka, kc, ks, da, dc, ds, l⟩ := d
  obtain ⟨H, hH⟩ : ∃ H, w.heap.size = H := ⟨_, rfl⟩
  obtain ⟨W, hW⟩ : ∃ W, w.alloc (.cells #[.int .u8 k, .string ⟨t.toArray⟩, .slice ka ks.length kc, .slice da ds.length dc, .int .i64 l] 61) = W := ⟨_, rfl⟩
  have hbw : Below w.heap.size w W := by rw [← hW]; exact (Below.refl _ w).alloc (Nat.le_refl _) _
  have g0 : W.heap[H]? = some (.cells #[.int .u8 k, .string ⟨t.toArray⟩, .slice ka ks.length kc, .slice da ds.length dc, .int .i64 l] 61) := by rw [← hW, ← hH]; exact World.alloc_heap_new _ _
  have hs0 : W.heap.size = H + 1 := by rw [← hW]; simp; omega
  obtain ⟨V, hV⟩ : ∃ V, W.alloc (.cells #[.int .i64 150] 3) = V := ⟨_, rfl⟩
  have hVb : V.heap[H + 1]? = some (.cells #[.int .i64 150] 3) := by rw [← hV, ← hs0]; exact World.alloc_heap_new _ _
  have hbV : Below w.heap.size w V := by rw [← hV]; exact hbw.alloc (by omega) _
  have hV0 : V.heap[H]? = some (.cells #[.int .u8 k, .string ⟨t.toArray⟩, .slice ka ks.length kc, .slice da ds.length dc, .int .i64 l] 61) := by rw [← hV]; exact (Below.heap_alloc _ _ _ (by omega)).trans g0
  obtain ⟨⟨x0, _⟩, ⟨x1, _⟩, ⟨x2, _⟩, ⟨x3, _⟩, ⟨x4, _⟩⟩ := five_cell hV0
  have hc := rsmall_any (.mk k t ka kc ks da dc ds l) 18 (H + 1) 150 V (hin.below hbV) (by omega) (by omega) (fun hb => by have := hin.lt hb; omega) hVb
  rw [Nd.val_eq] at hc
  have HC := hide hc
  have HW := hide hW
  have HV := hide hV
  have HH := hide hH
  have HB := hide hbV
  have HS0 := hide hs0
  rw [Nd.val_eq]
  clear hc hW hV hin hbw g0 hVb hbV hV0 hs0
  go_enter Tryz.func66, Tryz.ntmps66
  go_upto_region 1 with fail
  rw [unhide HW]
  try rw [unhide HH]
  go_upto_region 2 with fail
  try rw [unhide HS0]
  rw [unhide HV]
  go_wp2_with (go_at_call 108; refine (unhide HC).mono ?_; rintro x w' ⟨rfl, hg, _⟩)
  go_ret
  have hb := unhide HB
  have hg := unhide hg
  have hh := unhide HH
  refine ⟨rfl, hb.trans ?_⟩
  exact ⟨hg.os, hg.tape, hg.output, Nat.le_trans hb.size hg.size |> fun _ => hg.size, fun i hi => hg.block i (Nat.lt_of_lt_of_le hi hb.size) (fun e => by injection e; omega)⟩
end Go.Proofs.YtefokfbgpfcbkaaGreat
namespace Go.Proofs.YtefokfbgpfcbkaaGreat
set_option linter.unusedVariables false
set_option linter.unusedSimpArgs false
namespace P20
mutual
theorem T.small_lines : ∀ (d : T) (lv n m : Nat), d.small lv n = some m → n ≤ 1000000000 → d.lines.length + 1 ≤ 2 * (n - m) ∧ ∀ x ∈ d.lines, x.length ≤ 30000 + 2 * lv
  | .mk k t ks ds l, lv, n, m, hs, hn => by
    have hok := T.small_ok _ lv n m hs hn
    unfold T.small at hs
    split at hs
    · cases hs
    · rename_i h0
      simp only [not_or] at h0
      obtain ⟨h1, h2, h3, h4, h5⟩ := h0
      have hm := (smallL_ok ds _ _ _ hs (by omega)).1
      unfold T.lines
      split
      · have := leaf_len k t
        refine ⟨by simp; omega, fun x hx => ?_⟩
        rw [List.mem_singleton.1 hx]
        omega
      · have h6 := smallL_lines ds (lv - 1) (n - 1) m k ks hs (by omega) (short_all h5)
        refine ⟨by omega, fun x hx => ?_⟩
        have := h6.2 x hx
        omega
theorem smallL_lines : ∀ (ds : List T) (lv n m k : Nat) (ks : List (List UInt8)), smallL lv ds n = some m → n ≤ 1000000000 → (∀ x ∈ ks, x.length ≤ 200) → (linesL k ks ds).length ≤ 2 * (n - m) ∧ ∀ x ∈ linesL k ks ds, x.length ≤ 30002 + 2 * lv
  | [], lv, n, m, k, ks, hs, hn, hk => by simp [linesL]
  | d :: ds, lv, n, m, k, ks, hs, hn, hk => by
    unfold smallL at hs
    split at hs
    · cases hs
    · rename_i m1 hm1
      obtain ⟨q1, q2, q3, q4, q5⟩ := T.small_ok d lv n m1 hm1 hn
      have r1 := (smallL_ok ds lv m1 m hs (by omega)).1
      obtain ⟨e1, e2⟩ := T.small_lines d lv n m1 hm1 hn
      obtain ⟨e3, e4⟩ := smallL_lines ds lv m1 m k ks.tail hs (by omega) (fun x hx => hk x (List.mem_of_mem_tail hx))
      have hp := put_len20 (ks.headD [])
      have hq := head_short hk
      unfold linesL
      rw [List.length_append]
      split
      · rename_i hc
        refine ⟨by simp only [List.length_cons, List.length_nil]; omega, fun x hx => ?_⟩
        rcases List.mem_append.1 hx with hx | hx
        · rw [List.mem_singleton.1 hx]
          obtain ⟨k2, t2, ks2, ds2, l2⟩ := d
          have hl : (T.mk k2 t2 ks2 ds2 l2).lines = [leaf k2 t2] := by unfold T.lines; exact if_pos hc.2
          rw [hl]
          have := leaf_len k2 t2
          unfold T.small at hm1
          split at hm1
          · cases hm1
          · rename_i h0
            simp only [not_or] at h0
            simp only [List.headD_cons, List.length_append, List.length_cons, List.length_nil]
            omega
        · exact e4 x hx
      · split
        · refine ⟨by simp only [List.length_cons, List.length_map]; omega, fun x hx => ?_⟩
          rcases List.mem_append.1 hx with hx | hx
          · rcases List.mem_cons.1 hx with rfl | hx
            · simp only [List.length_append, List.length_cons, List.length_nil]; omega
            · obtain ⟨y, hy, rfl⟩ := List.mem_map.1 hx
              have := e2 y hy
              simp only [List.length_append, List.length_cons, List.length_nil]; omega
          · exact e4 x hx
        · cases hl : d.lines with
          | nil => exact absurd hl (T.lines_ne d)
          | cons y r =>
            rw [hl] at e1 e2
            simp only [List.length_cons] at e1
            refine ⟨by simp only [List.length_cons, List.length_map]; omega, fun x hx => ?_⟩
            rcases List.mem_append.1 hx with hx | hx
            · rcases List.mem_cons.1 hx with rfl | hx
              · have := e2 y List.mem_cons_self
                simp only [List.length_append, List.length_cons, List.length_nil]; omega
              · obtain ⟨z, hz, rfl⟩ := List.mem_map.1 hx
                have := e2 z (List.mem_cons_of_mem _ hz)
                simp only [List.length_append, List.length_cons, List.length_nil]; omega
            · exact e4 x hx
end
/-- a kid's lines behind something -/
def ind (k : Nat) : List (List UInt8) → List (List UInt8)
  | [] => []
  | x :: r => ((if k = 2 then [45, 32] else [32, 32]) ++ x) :: r.map (fun y => [32, 32] ++ y)
theorem linesL_two (ks : List (List UInt8)) (d : T) (ds : List T) : linesL 2 ks (d :: ds) = ind 2 d.lines ++ linesL 2 ks.tail ds := by
  rw [linesL]
  rw [if_neg (by omega), if_neg (by omega)]
  cases d.lines <;> rfl
theorem linesL_leaf (ks : List (List UInt8)) (d : T) (ds : List T) (h : d.kids.isEmpty = true) : linesL 3 ks (d :: ds) = [P18.put (ks.headD []) ++ [58, 32] ++ d.lines.headD []] ++ linesL 3 ks.tail ds := by
  rw [linesL]
  rw [if_pos ⟨rfl, h⟩]
theorem linesL_key (ks : List (List UInt8)) (d : T) (ds : List T) (h : ¬ d.kids.isEmpty = true) : linesL 3 ks (d :: ds) = [P18.put (ks.headD []) ++ [58]] ++ (ind 3 d.lines ++ linesL 3 ks.tail ds) := by
  rw [linesL]
  rw [if_neg (fun e => h e.2), if_pos rfl]
  cases d.lines <;> rfl
end P20
end Go.Proofs.YtefokfbgpfcbkaaGreat
