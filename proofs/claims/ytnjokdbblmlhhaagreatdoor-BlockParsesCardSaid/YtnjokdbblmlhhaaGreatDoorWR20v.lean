/- The reference's Value: what stands in its boxes while it reads dashes or keys. -/
import Derived.Test.YtnjokdbblmlhhaaGreatDoorWR20b
namespace Go.Proofs.YtnjokdbblmlhhaaGreatDoor
set_option linter.unusedVariables false
set_option linter.unusedSimpArgs false
open Go.RowKit
namespace P20
def seqOut (n : Int) : Out (List T) → Out T
  | .ok ds r => .ok (.mk 2 [] [] ds n) r
  | .bad e l => .bad e l
def keyOut (n : Int) : Out (List (List UInt8) × List T) → Out T
  | .ok p r => .ok (.mk 3 [] p.1 p.2 n) r
  | .bad e l => .bad e l
/-- the ways of a value -/
inductive ValW (last : Int) (f lv : Nat) : List Tk → Out T → Prop
  | deep {ts : List Tk} (h : 16 < lv) : ValW last f lv ts (.bad 11 (hereL last ts))
  | none_ (h : lv ≤ 16) : ValW last f lv [] (.bad 3 last)
  | word {x : List UInt8} {n c : Int} {r : List Tk} (h : lv ≤ 16) : ValW last f lv ((5, x, n, c) :: r) (.ok (.mk 1 x [] [] n) r)
  | noseq {x : List UInt8} {n c : Int} {r : List Tk} (h : lv ≤ 16) : ValW last f lv ((6, x, n, c) :: r) (.ok (.mk 2 [] [] [] n) r)
  | nomap {x : List UInt8} {n c : Int} {r : List Tk} (h : lv ≤ 16) : ValW last f lv ((7, x, n, c) :: r) (.ok (.mk 3 [] [] [] n) r)
  | seq {x : List UInt8} {n c : Int} {r : List Tk} {o : Out (List T)} (h : lv ≤ 16) (hs : Sq last f (lv + 1) [] ((3, x, n, c) :: r) o) : ValW last f lv ((3, x, n, c) :: r) (seqOut n o)
  | keys {x : List UInt8} {n c : Int} {r : List Tk} {o : Out (List (List UInt8) × List T)} (h : lv ≤ 16) (hs : Ky last f (lv + 1) [] [] ((4, x, n, c) :: r) o) : ValW last f lv ((4, x, n, c) :: r) (keyOut n o)
  | form {k : Nat} {x : List UInt8} {n c : Int} {r : List Tk} (h : lv ≤ 16) (hk : k < 3 ∨ 7 < k) : ValW last f lv ((k, x, n, c) :: r) (.bad 3 n)
theorem Val.w {last : Int} {f lv : Nat} {ts : List Tk} {o : Out T} (h : Val last (f + 1) lv ts o) : ValW last f lv ts o := by
  cases h with
  | deep h => exact .deep h
  | none_ h => exact .none_ h
  | word h => exact .word h
  | noseq h => exact .noseq h
  | nomap h => exact .nomap h
  | seq h hs => exact .seq (o := .ok _ _) h hs
  | seqbad h hs => exact .seq (o := .bad _ _) h hs
  | keys h hs => exact .keys (o := .ok (_, _) _) h hs
  | keysbad h hs => exact .keys (o := .bad _ _) h hs
  | form h hk => exact .form h hk
end P20
/-- the boxes of Value: results at H and H + 1, the node at H + 2, with keys ks and kids ds so far -/
structure VI (w : World) (H B rb : Nat) (all : List Tk) (ln : Int) (kk : Nat) (ks : List (List UInt8)) (ds : List Nd) (kv dv : Value) (us : List Tk) (V : World) : Prop where
  hh : w.heap.size = H
  bh : B ≤ H
  own : KS V (H + 1 + 1 + 1) kv dv ks ds
  rpr : RPr V B rb all us
  grow : w.grownBy V (some rb)
  b0 : V.heap[H]? = some (.cells #[.int .u8 0, .string ⟨#[]⟩, .slice none 0 0, .slice none 0 0, .int .i64 0] 26)
  b1 : V.heap[H + 1]? = some (.cells #[.int .i64 0, .int .i64 0] 29)
  b2 : V.heap[H + 1 + 1]? = some (.cells #[.int .u8 kk, .string ⟨#[]⟩, kv, dv, .int .i64 ln] 26)
theorem VI.lt {w V : World} {H B rb kk : Nat} {all us : List Tk} {ln : Int} {ks : List (List UInt8)} {ds : List Nd} {kv dv : Value} (h : VI w H B rb all ln kk ks ds kv dv us V) : H + 1 + 1 < V.heap.size := (Array.getElem?_eq_some_iff.1 h.b2).1
theorem VI.old {w V W : World} {H B rb kk : Nat} {all us r : List Tk} {ln : Int} {ks : List (List UInt8)} {ds : List Nd} {kv dv : Value} (h : VI w H B rb all ln kk ks ds kv dv us V) (hg : V.grownBy W (some rb)) (hR : RPr W B rb all r) : VI w H B rb all ln kk ks ds kv dv r W := by
  have hl := h.lt
  have hr := hR.lt
  have hb := h.bh
  have hk := fun g (h1 : g < H + 1 + 1 + 1) (h2 : H ≤ g) => hg.block g (by omega) (fun e => by injection e; omega)
  exact ⟨h.hh, h.bh, h.own.old hg (by omega), hR, grown_trans1 h.grow hg, (hk H (by omega) (by omega)).trans h.b0, (hk (H + 1) (by omega) (by omega)).trans h.b1, (hk (H + 1 + 1) (by omega) (by omega)).trans h.b2⟩
theorem VI.rest {w V W : World} {H B rb kk : Nat} {all us : List Tk} {ln : Int} {ks : List (List UInt8)} {ds : List Nd} {kv dv : Value} (h : VI w H B rb all ln kk ks ds kv dv us V) (hg : V.grownBy W (some rb)) :
    w.grownBy W (some rb) ∧ W.heap[H]? = some (.cells #[.int .u8 0, .string ⟨#[]⟩, .slice none 0 0, .slice none 0 0, .int .i64 0] 26) ∧ W.heap[H + 1]? = some (.cells #[.int .i64 0, .int .i64 0] 29) ∧ W.heap[H + 1 + 1]? = some (.cells #[.int .u8 kk, .string ⟨#[]⟩, kv, dv, .int .i64 ln] 26) := by
  have hl := h.lt
  have hr := h.rpr.lt
  have hb := h.bh
  have hk := fun g (h1 : g < H + 1 + 1 + 1) (h2 : H ≤ g) => hg.block g (by omega) (fun e => by injection e; omega)
  exact ⟨grown_trans1 h.grow hg, (hk H (by omega) (by omega)).trans h.b0, (hk (H + 1) (by omega) (by omega)).trans h.b1, (hk (H + 1 + 1) (by omega) (by omega)).trans h.b2⟩
theorem VI.below {w V W : World} {H B rb kk : Nat} {all us : List Tk} {ln : Int} {ks : List (List UInt8)} {ds : List Nd} {kv dv : Value} (h : VI w H B rb all ln kk ks ds kv dv us V) (hb : Below V.heap.size V W) : VI w H B rb all ln kk ks ds kv dv us W :=
  h.old (grown_of_below hb _) (h.rpr.keep (by have := h.lt; have := h.bh; omega) hb)
theorem VI.drewN {w V : World} {H B rb kk : Nat} {all us : List Tk} {ln : Int} {ks : List (List UInt8)} {ds : List Nd} {kv dv : Value} (h : VI w H B rb all ln kk ks ds kv dv us V) (q : Nat) : VI w H B rb all ln kk ks ds kv dv us (V.drewN q) := h.old (grown_drewN _ _ _) (h.rpr.drewN q)
theorem VI.drew {w V : World} {H B rb kk : Nat} {all us : List Tk} {ln : Int} {ks : List (List UInt8)} {ds : List Nd} {kv dv : Value} (h : VI w H B rb all ln kk ks ds kv dv us V) : VI w H B rb all ln kk ks ds kv dv us V.drew := h.old (grown_drew (World.grownBy.refl V _)) h.rpr.drew
/-- one token on -/
theorem VI.step {w V : World} {H B rb kk : Nat} {all r : List Tk} {t : Tk} {ln : Int} {ks : List (List UInt8)} {ds : List Nd} {kv dv : Value} (h : VI w H B rb all ln kk ks ds kv dv (t :: r) V) : ∃ (a : Option Addr) (c k : Nat), V.heap[rb]? = some (.cells #[.slice a all.length c, .int .i64 k] 61) ∧ IntKind.i64.wrap ((k : Int) + 1) = (k : Int) + 1 ∧
    VI w H B rb all ln kk ks ds kv dv r (V.setCell ⟨rb, 1, none⟩ (.int .i64 ((k : Int) + 1))) := by
  obtain ⟨a, c, k, h1, h2, h3, h4⟩ := h.rpr.step
  exact ⟨a, c, k, h1, h2, h.old h4 h3⟩
theorem KS.put {W : World} {B O i : Nat} {v : Value} {kv dv : Value} {ks : List (List UInt8)} {ds : List Nd} (h : KS W B kv dv ks ds) (hO : O < B) : KS (W.setCell ⟨O, i, none⟩ v) B kv dv ks ds := by
  have hk : ∀ g, B ≤ g → (W.setCell ⟨O, i, none⟩ v).heap[g]? = W.heap[g]? := fun g hg => Below.heap_setCell _ _ _ _ (by show g ≠ O; omega)
  exact ⟨⟨own_keep h.str.own (fun g e => hk g (own_block_lt h.str.own g e).1)⟩, h.kids.keep (fun g e => hk g (own_block_lt h.kids.own g e).1) (fun d hm g hb => hk g (h.kids.new d hm g hb)), h.sep⟩
/-- what a new slice leaves alone -/
theorem VI.off {w V W : World} {H B rb kk : Nat} {all us : List Tk} {ln : Int} {ks : List (List UInt8)} {ds : List Nd} {kv dv : Value} (h : VI w H B rb all ln kk ks ds kv dv us V) {row : Option Nat} (hg : V.grownBy W row) (hr : ∀ q, row = some q → H + 1 + 1 + 1 ≤ q) :
    RPr W B rb all us ∧ w.grownBy W (some rb) ∧ W.heap[H]? = V.heap[H]? ∧ W.heap[H + 1]? = V.heap[H + 1]? ∧ W.heap[H + 1 + 1]? = V.heap[H + 1 + 1]? ∧ RPr W B rb all us := by
  have hl := h.lt
  have hb := h.bh
  have hk := fun g (h1 : g < H + 1 + 1 + 1) => hg.block g (by omega) (fun e => by have := hr g e.symm; omega)
  have hR := h.rpr.far (fun g hl => hk g (by omega))
  exact ⟨hR, grown_row h.grow hg (fun q e => by have := hr q e; have := h.hh; omega), hk H (by omega), hk _ (by omega), hk _ (by omega), hR⟩
theorem VI.kid {w V W : World} {H B rb kk : Nat} {all us : List Tk} {ln : Int} {ks : List (List UInt8)} {ds : List Nd} {kv dv dv' : Value} {nd : Nd} (h : VI w H B rb all ln kk ks ds kv dv us V) (hk : Kids W (H + 1 + 1 + 1) dv' (ds ++ [nd])) (hg : V.grownBy W dv.ownBlock) (hat : dv'.ownBlock = dv.ownBlock ∨ ∃ g, dv'.ownBlock = some g ∧ V.heap.size ≤ g)
    (hn : ∀ g, nd.blk g → kv.ownBlock ≠ some g) : W.heap[H + 1 + 1]? = some (.cells #[.int .u8 kk, .string ⟨#[]⟩, kv, dv, .int .i64 ln] 26) ∧ VI w H B rb all ln kk ks (ds ++ [nd]) kv dv' us (W.setCell ⟨H + 1 + 1, 3, none⟩ dv') := by
  have hq := fun q e => (own_block_lt h.own.kids.own q e).1
  obtain ⟨h1, h2, h3, h4, h5, _⟩ := h.off hg hq
  have hb := h.bh
  have e5 := h5.trans h.b2
  have hh := h.hh
  exact ⟨e5, h.hh, h.bh, (h.own.kid hk hg hat hn).put (by omega), h1.setCell (by omega) _ _, grown_new h2 (by omega) _, (Below.heap_setCell _ _ _ _ (by show H ≠ H + 1 + 1; omega)).trans (h3.trans h.b0), (Below.heap_setCell _ _ _ _ (by show H + 1 ≠ H + 1 + 1; omega)).trans (h4.trans h.b1), put5_3 e5 _⟩
theorem VI.key {w V W : World} {H B rb kk : Nat} {all us : List Tk} {ln : Int} {ks ks' : List (List UInt8)} {ds : List Nd} {kv kv' dv : Value} (h : VI w H B rb all ln kk ks ds kv dv us V) (hk : Strs W (H + 1 + 1 + 1) kv' ks') (hg : V.grownBy W kv.ownBlock) (hat : kv'.ownBlock = kv.ownBlock ∨ ∃ g, kv'.ownBlock = some g ∧ V.heap.size ≤ g) :
    W.heap[H + 1 + 1]? = some (.cells #[.int .u8 kk, .string ⟨#[]⟩, kv, dv, .int .i64 ln] 26) ∧ VI w H B rb all ln kk ks' ds kv' dv us (W.setCell ⟨H + 1 + 1, 2, none⟩ kv') := by
  have hq := fun q e => (own_block_lt h.own.str.own q e).1
  obtain ⟨h1, h2, h3, h4, h5, _⟩ := h.off hg hq
  have hb := h.bh
  have e5 := h5.trans h.b2
  have hh := h.hh
  exact ⟨e5, h.hh, h.bh, (h.own.key hk hg hat).put (by omega), h1.setCell (by omega) _ _, grown_new h2 (by omega) _, (Below.heap_setCell _ _ _ _ (by show H ≠ H + 1 + 1; omega)).trans (h3.trans h.b0), (Below.heap_setCell _ _ _ _ (by show H + 1 ≠ H + 1 + 1; omega)).trans (h4.trans h.b1), put5_2 e5 _⟩
theorem VI.kind {w V : World} {H B rb kk : Nat} {all us : List Tk} {ln : Int} {ks : List (List UInt8)} {ds : List Nd} {kv dv : Value} (h : VI w H B rb all ln kk ks ds kv dv us V) (k2 : Nat) : VI w H B rb all ln k2 ks ds kv dv us (V.setCell ⟨H + 1 + 1, 0, none⟩ (.int .u8 k2)) := by
  have hh := h.hh
  have hb := h.bh
  exact ⟨h.hh, h.bh, h.own.put (by omega), h.rpr.setCell (by omega) _ _, grown_new h.grow (by omega) _, (Below.heap_setCell _ _ _ _ (by show H ≠ H + 1 + 1; omega)).trans h.b0, (Below.heap_setCell _ _ _ _ (by show H + 1 ≠ H + 1 + 1; omega)).trans h.b1, put5_0 h.b2 _⟩
/-- the node is whole -/
theorem VI.done {w V W : World} {H B rb kk : Nat} {all us : List Tk} {ln : Int} {ks : List (List UInt8)} {ds : List Nd} {ka da : Option Addr} {kc dc : Nat} {a b : Obj} (h : VI w H B rb all ln kk ks ds (.slice ka ks.length kc) (.slice da ds.length dc) us V) (hT : Two V W H a b) (hk : kk < 256) (hl : ∀ x ∈ ks, x.length ≤ 64) :
    RNdOk w B rb all us (.mk kk [] ks (bareL ds) ln) (.mk kk [] ka kc ks da dc ds ln) W := by
  obtain ⟨a2, c2, hv2, hlc, hcm, hinl, hnl, hno⟩ := h.own.kids.slice
  injection hv2 with e1 _ e2
  subst e1
  subst e2
  obtain ⟨a3, c3, hv3, klc, kcm, kin, kno⟩ := h.own.str.slice
  injection hv3 with e1 _ e2
  subst e1
  subst e2
  have hh := h.hh
  have hin : (Nd.mk kk [] ka kc ks da dc ds ln).In V := .mk ⟨hk, Nat.zero_le _, Nat.le_trans klc kcm, Nat.le_trans hlc hcm, klc, hlc, fun y hy => by have := hl y hy; unfold maxLen; omega, kin⟩ hinl
  refine two_nd hT rfl hin (fun g hg => ?_) h.rpr h.grow (by omega) (by have := h.bh; omega)
  simp only [Nd.blk] at hg
  rcases hg with ⟨h1, h2⟩ | ⟨h1, h2⟩ | h1
  · have := kno g h1 h2; omega
  · have := hno g h1 h2; omega
  · have := hnl g h1; omega
end Go.Proofs.YtnjokdbblmlhhaaGreatDoor
