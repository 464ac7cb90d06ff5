/- Lemmas of this claim. -/
import Derived.Test.YtnjokdbblmlhhaaGreatDoorW22lZ
import Derived.Test.YtnjokdbblmlhhaaGreatDoorInvZ
import Derived.Test.YtnjokdbblmlhhaaGreatDoorW22sZ
namespace Go.Proofs.YtnjokdbblmlhhaaGreatDoor
set_option linter.unusedVariables false
set_option linter.unusedSimpArgs false
open Go.RowKit
theorem Ba {B:Nat} {v x y:Value} {n c:Nat} {T:TypeId} {w w':World} (h:∃ g,v=.slice (some ⟨g,0,none⟩) n c∧B≤g∧w.heap[g]?=some (.cells #[x,y] T)) (hb:∀ g x y t,B≤g→w.heap[g]?=some (.cells #[x,y] t)→w'.heap[g]?=some (.cells #[x,y] t)):∃ g,v=.slice (some ⟨g,0,none⟩) n c∧B≤g∧w'.heap[g]?=some (.cells #[x,y] T):=by
 obtain ⟨g,h1,h2,h3⟩:=h
 exact ⟨g,h1,h2,hb g x y T h2 h3⟩
theorem G2.sl {σ:Type} {Inv:σ→(Nat→Prop)→World→Prop} {M:Nat→Prop} {B:Nat} {rows:List (C8 σ)} {d:Nat} {W1:World} {sl nd:Value} {L:Array Bool} {vM vV vK vN:Value} {vR:Nat→Value} {w:World} (h:G2 Inv M B rows d W1 sl nd L vM vV vK vN vR w) (sl':Value) (hk:L.getD (2 * rows.length+2+d) false=false):G2 Inv M B rows d W1 sl' nd L vM vV vK vN vR w:=
 ⟨h.below,h.size,h.map,h.rd,h.mv,fun ht=>by (rw [hk] at ht;cases ht),h.ld⟩
set_option maxRecDepth 100000 in
set_option maxHeartbeats 32000000 in
theorem Rn (k:Nat) (t:List UInt8) (ka:Option Addr) (kc:Nat) (ks:List (List UInt8)) (da:Option Addr) (dc:Nat) (ds:List Nd) (l:Int) (w:World) (hin:(Nd.mk k t ka kc ks da dc ds l).In w) (hok:E6 (Nd.mk k t ka kc ks da dc ds l).bare) :
  Calls Tryz.prog 54 #[.agg #[.int .u8 k,.string ⟨t.toArray⟩,.slice ka ks.length kc,.slice da ds.length dc,.int .i64 l]] w (Vs w (P22.stepE (Nd.mk k t ka kc ks da dc ds l).bare)):=by
 obtain ⟨H,hH⟩:∃ H,w.heap.size=H:=⟨_,rfl⟩
 obtain ⟨W0,hW0⟩:∃ W0,((w.alloc (.cells #[.int .u8 k,.string ⟨t.toArray⟩,.slice ka ks.length kc,.slice da ds.length dc,.int .i64 l] 26)).alloc (.cells #[.string ⟨#[]⟩,.string ⟨#[]⟩,.string ⟨#[]⟩,.slice none 0 0,.int .i64 0,.int .i64 0,.int .i64 0,.int .i64 0,.int .u8 0,.string ⟨#[]⟩,.slice none 0 0,.slice none 0 0,.int .i64 0] 86)).alloc (.cells #[.int .i64 0,.int .i64 0] 29)=W0:=⟨_,rfl⟩
 obtain ⟨W1,hW1⟩:∃ W1,(((((((W0.alloc (.cells #[.string ⟨#[]⟩] 9)).alloc (.cells #[.string ⟨#[]⟩] 9)).alloc (.cells #[.string ⟨#[]⟩] 9)).alloc (.cells #[.slice none 0 0] 23)).alloc (.cells #[.int .i64 0,.int .i64 0,.int .i64 0] 84)).alloc (.cells #[.int .i64 0] 3)).alloc (.cells #[.int .u8 0,.string ⟨#[]⟩,.slice none 0 0,.slice none 0 0,.int .i64 0] 26))=W1:=⟨_,rfl⟩
 obtain ⟨hb0,hs0,ha0⟩:=Cf [.cells #[.int .u8 k,.string ⟨t.toArray⟩,.slice ka ks.length kc,.slice da ds.length dc,.int .i64 l] 26,.cells #[.string ⟨#[]⟩,.string ⟨#[]⟩,.string ⟨#[]⟩,.slice none 0 0,.int .i64 0,.int .i64 0,.int .i64 0,.int .i64 0,.int .u8 0,.string ⟨#[]⟩,.slice none 0 0,.slice none 0 0,.int .i64 0] 86,.cells #[.int .i64 0,.int .i64 0] 29] w
 rw [show ([.cells #[.int .u8 k,.string ⟨t.toArray⟩,.slice ka ks.length kc,.slice da ds.length dc,.int .i64 l] 26,.cells #[.string ⟨#[]⟩,.string ⟨#[]⟩,.string ⟨#[]⟩,.slice none 0 0,.int .i64 0,.int .i64 0,.int .i64 0,.int .i64 0,.int .u8 0,.string ⟨#[]⟩,.slice none 0 0,.slice none 0 0,.int .i64 0] 86,.cells #[.int .i64 0,.int .i64 0] 29]:List Obj).foldl World.alloc w=W0 from hW0,hH] at hb0 hs0 ha0
 obtain ⟨hb1,hs1,ha1⟩:=Cf [.cells #[.string ⟨#[]⟩] 9,.cells #[.string ⟨#[]⟩] 9,.cells #[.string ⟨#[]⟩] 9,.cells #[.slice none 0 0] 23,.cells #[.int .i64 0,.int .i64 0,.int .i64 0] 84,.cells #[.int .i64 0] 3,.cells #[.int .u8 0,.string ⟨#[]⟩,.slice none 0 0,.slice none 0 0,.int .i64 0] 26] W0
 rw [show ([.cells #[.string ⟨#[]⟩] 9,.cells #[.string ⟨#[]⟩] 9,.cells #[.string ⟨#[]⟩] 9,.cells #[.slice none 0 0] 23,.cells #[.int .i64 0,.int .i64 0,.int .i64 0] 84,.cells #[.int .i64 0] 3,.cells #[.int .u8 0,.string ⟨#[]⟩,.slice none 0 0,.slice none 0 0,.int .i64 0] 26]:List Obj).foldl World.alloc W0=W1 from hW1] at hb1 hs1 ha1
 replace hs0:W0.heap.size=H+1+1+1:=hs0
 rw [hs0] at hb1 hs1 ha1
 replace hs1:W1.heap.size=H+1+1+1+1+1+1+1+1+1+1:=hs1
 have n0:W1.heap[H]?=some (.cells #[.int .u8 k,.string ⟨t.toArray⟩,.slice ka ks.length kc,.slice da ds.length dc,.int .i64 l] 26):=(hb1.block H (by omega)).trans (ha0 0 _ rfl)
 have n1:W1.heap[H+1]?=some (.cells #[.string ⟨#[]⟩,.string ⟨#[]⟩,.string ⟨#[]⟩,.slice none 0 0,.int .i64 0,.int .i64 0,.int .i64 0,.int .i64 0,.int .u8 0,.string ⟨#[]⟩,.slice none 0 0,.slice none 0 0,.int .i64 0] 86):=(hb1.block (H+1) (by omega)).trans (ha0 1 _ rfl)
 have n2:W1.heap[H+1+1]?=some (.cells #[.int .i64 0,.int .i64 0] 29):=(hb1.block (H+1+1) (by omega)).trans (ha0 2 _ rfl)
 have i0:W1.heap[H+1+1+1]?=some (.cells #[.string ⟨#[]⟩] 9):=ha1 0 _ rfl
 have i1:W1.heap[H+1+1+1+1]?=some (.cells #[.string ⟨#[]⟩] 9):=ha1 1 _ rfl
 have i2:W1.heap[H+1+1+1+1+1]?=some (.cells #[.string ⟨#[]⟩] 9):=ha1 2 _ rfl
 have i3:W1.heap[H+1+1+1+1+1+1]?=some (.cells #[.slice none 0 0] 23):=ha1 3 _ rfl
 have i4:W1.heap[H+1+1+1+1+1+1+1]?=some (.cells #[.int .i64 0,.int .i64 0,.int .i64 0] 84):=ha1 4 _ rfl
 have i5:W1.heap[H+1+1+1+1+1+1+1+1]?=some (.cells #[.int .i64 0] 3):=ha1 5 _ rfl
 have i6:W1.heap[H+1+1+1+1+1+1+1+1+1]?=some (.cells #[.int .u8 0,.string ⟨#[]⟩,.slice none 0 0,.slice none 0 0,.int .i64 0] 26):=ha1 6 _ rfl
 have hbW:Below H w W1:=hb0.trans (hb1.mono (by omega))
 have hin1:(Nd.mk k t ka kc ks da dc ds l).In W1:=hin.below (by rw [hH];exact hbW)
 have hlt:=fun g hg=>Nd.In.lt hin (r:=g) hg
 rw [hH] at hlt
 have hcall:∀ bm c sg W',Below (H+1+1+1+1+1+1+1+1+1+1) W1 W'→H+1+1+1+1+1+1+1+1+1+1≤W'.heap.size→H+1+1+1+1+1+1+1+1+1+1≤c→H+1+1+1+1+1+1+1+1+1+1≤bm→bm<W'.heap.size→H+1+1+1+1+1+1+1+1+1+1≤sg→W'.heap[sg]?=some (.cells #[.string ⟨#[110,97,109,101]⟩,.string ⟨#[97,99,116,105,111,110]⟩] 9)→W'.heap[c]?=some (.cells #[.map (some bm)] 95)→W'.heap[c+1]?=some (.cells #[.slice (some ⟨sg,0,none⟩) 2 2] 23)→N6 (Qa (H+1+1+1)) (Jo (H+1+1+1)) bm (Du Ed) W'→Calls Tryz.prog 92 #[.agg #[.int .u8 k,.string ⟨t.toArray⟩,.slice ka ks.length kc,.slice da ds.length dc,.int .i64 l],.pointer (some ⟨c,0,none⟩),.pointer (some ⟨c+1,0,none⟩)] W' (Gm (Qa (H+1+1+1)) (Jo (H+1+1+1)) (fun g=>¬ (Jo (H+1+1+1)) g) W' (P22.stepE (Nd.mk k t ka kc ks da dc ds l).bare)):=fun bm c sg W' h hz hc hbm hbl hsg hsc q1 q2 hm=>by
  rw [Un] at hm
  unfold P22.stepE
  have hs2:=Af hsc
  refine Hu (Qa (H+1+1+1)) (O7 _) (Jo (H+1+1+1)) P22.stepRd [[110,97,109,101],[97,99,116,105,111,110]] c (c+1) bm (some ⟨sg,0,none⟩) 2 k t ka kc ks da dc ds l P22.Step.zero (fun g=>¬ (Jo (H+1+1+1)) g) W' ?_ hok (fun g hg hm=>?_) (fun g hg=>?_) q1 q2 ?_ (by simp) ?_ ?_ ?_ hbl (fun g _ h=>?_) hm ?_
  ·exact hin1.keep (fun g hg=>h.block g (by have:=hlt g hg;omega))
  ·have:=hlt g hg
   have:=hm.1
   omega
  ·have:=hg.2
   omega
  ·intro i x hx
   match i,hx with
   | 0,hx=>cases hx;exact ⟨sg,0,rfl,hs2.1.1⟩
   | 1,hx=>cases hx;exact ⟨sg,0,rfl,hs2.2.1⟩
  ·intro hm;have:=hm.2;omega
  ·intro hm;have:=hm.2;omega
  ·intro hm;have:=hm.2;omega
  ·intro hm
   obtain ⟨o,h⟩:=h
   have:g=sg:=by injection h with h;injection h with h;exact h.symm
   have:=hm.2
   omega
  ·refine ⟨(h.block _ (by omega)).trans i0,(h.block _ (by omega)).trans i1,(h.block _ (by omega)).trans i2,⟨none,0,(h.block _ (by omega)).trans i3,Strs.nil _ _,fun g hg=>by cases hg⟩,(h.block _ (by omega)).trans i4,(h.block _ (by omega)).trans i5,⟨0,[],none,0,[],none,0,[],0,rfl,?_,?_,(h.block _ (by omega)).trans i6⟩,fun g h1 h2 h3=>h3 ⟨h1,h2⟩,hz⟩
   ·exact Nd.zero_in _
   ·exact fun g hg=>absurd hg (Nd.zero_blk g)
 have hmm:=@run_makeMap Tryz.prog
 have HW0:=Ab hW0
 have HW1:=Ab hW1
 have HN0:=Ab n0
 have HN1:=Ab n1
 have HN2:=Ab n2
 have HBW:=Ab hbW
 have HCALL:=Ab hcall
 have hmx:=Dl
 clear hW0 hb0 hb1 ha0 ha1 hW1 n0 n1 n2 i0 i1 i2 i3 i4 i5 i6 hin1 hcall hbW hin
 go_enter Tryz.func54,Tryz.ntmps54
 go_upto_region 6 with fail
 try rw [hH]
 try rw [Aa HW0]
 try rw [Aa HW1]
 refine Cw hmx (fun L a w1=>∃ (vF vM vV vS vK vN vE:Value) (vR:Nat→Value),a=⟨#[.agg #[.int .u8 k,.string ⟨t.toArray⟩,.slice ka ks.length kc,.slice da ds.length dc,.int .i64 l],.pointer (some ⟨H,0,none⟩),.pointer (some ⟨H+1,0,none⟩),.pointer (some ⟨H+1+1,0,none⟩),.pointer (some ⟨H+1+1+1,0,none⟩),.pointer (some ⟨H+1+1+1+1,0,none⟩),.pointer (some ⟨H+1+1+1+1+1,0,none⟩),.pointer (some ⟨H+1+1+1+1+1+1,0,none⟩),.pointer (some ⟨H+1+1+1+1+1+1+1,0,none⟩),.pointer (some ⟨H+1+1+1+1+1+1+1+1,0,none⟩),.pointer (some ⟨H+1+1+1+1+1+1+1+1+1,0,none⟩),vF,vM,(vR 0),(vR 1),(vR 2),(vR 3),(vR 4),(vR 5),(vR 6),vV,vS,vK,vN,vE,undef,undef,undef,undef,undef,undef,undef,undef,undef],[]⟩∧Cl 7 1 L∧(L.getD 17 false=true→L.getD 16 false=true)∧(L.getD 19 false=false→G2 (Qa (H+1+1+1)) (Jo (H+1+1+1)) (H+1+1+1+1+1+1+1+1+1+1) Ed 1 W1 vS (.agg #[.int .u8 k,.string ⟨t.toArray⟩,.slice ka ks.length kc,.slice da ds.length dc,.int .i64 l]) L vM vV vK vN vR w1∧(L.getD 16 false=true→∃ g,vS=.slice (some ⟨g,0,none⟩) 2 2∧H+1+1+1+1+1+1+1+1+1+1≤g∧w1.heap[g]?=some (.cells #[.string ⟨#[110,97,109,101]⟩,.string ⟨#[97,99,116,105,111,110]⟩] 9)))∧(L.getD 19 false=true→Eg (Qa (H+1+1+1)) (Jo (H+1+1+1)) (H+1+1+1+1+1+1+1+1+1+1) 7 1 W1 (P22.stepE (Nd.mk k t ka kc ks da dc ds l).bare) L vF vE w1)∧Mo 7 1 (H+1+1+1+1+1+1+1+1+1+1) L vF vE w1) (by kernel_rfl) ?_ ?_ ?_
 ·exact ⟨undef,undef,undef,undef,undef,undef,undef,fun _=>undef,rfl,Cl.start 7 1,fun h=>absurd h (by decide),fun _=>⟨⟨(Below.refl _ W1).drew,by show _≤W1.heap.size;omega,fun h=>absurd h (by decide),fun i q hq h=>by
   match i,hq with
   | 0,_=>exact absurd h (by decide)
   | 1,_=>exact absurd h (by decide)
   | 2,_=>exact absurd h (by decide)
   | 3,_=>exact absurd h (by decide)
   | 4,_=>exact absurd h (by decide)
   | 5,_=>exact absurd h (by decide)
   | 6,_=>exact absurd h (by decide)
   | n+7,hq=>simp [Ed] at hq,fun h=>absurd h (by decide),fun h=>absurd h (by decide),fun h=>absurd h (by decide)⟩,fun h=>absurd h (by decide)⟩,fun h=>absurd h (by decide),fun h=>absurd h (by decide)⟩
 ·rintro L a' w1 i o ⟨vF,vM,vV,vS,vK,vN,vE,vR,rfl,hC,h16,hpre,hpost,hA⟩ ho hi hdep
  match i,ho with
  | 0,ho=>
   cases ho
   refine Ak rfl rfl ?_
   have n10:L.getD 19 false=false:=hC.not (n:=7) (d:=1) hi (.inl rfl)
   obtain ⟨hp,hsl⟩:=hpre n10
   refine Oper.wp_mono (K:=fun a2 w2=>a2=⟨#[.agg #[.int .u8 k,.string ⟨t.toArray⟩,.slice ka ks.length kc,.slice da ds.length dc,.int .i64 l],.pointer (some ⟨H,0,none⟩),.pointer (some ⟨H+1,0,none⟩),.pointer (some ⟨H+1+1,0,none⟩),.pointer (some ⟨H+1+1+1,0,none⟩),.pointer (some ⟨H+1+1+1+1,0,none⟩),.pointer (some ⟨H+1+1+1+1+1,0,none⟩),.pointer (some ⟨H+1+1+1+1+1+1,0,none⟩),.pointer (some ⟨H+1+1+1+1+1+1+1,0,none⟩),.pointer (some ⟨H+1+1+1+1+1+1+1+1,0,none⟩),.pointer (some ⟨H+1+1+1+1+1+1+1+1+1,0,none⟩),vF,(.map (some w1.heap.size)),(vR 0),(vR 1),(vR 2),(vR 3),(vR 4),(vR 5),(vR 6),vV,vS,vK,vN,vE,undef,undef,undef,undef,undef,undef,undef,undef,undef],[]⟩∧w2=w1.alloc (.map #[] 0)) (fun a2 w2 he=>?_) (by simp [Oper.wp,go_sem,hmm])
   obtain ⟨rfl,rfl⟩:=he
   exact ⟨vF,_,vV,vS,vK,vN,vE,vR,rfl,hC.set hi (fun i hi h=>by omega) (by omega) (by omega) (by omega) (by omega),(fun h=>by rw [Ae (by omega)] at h ⊢;exact h16 h),fun _=>⟨hp.make C9 hC hi,(fun h=>Ba (hsl (by rwa [Ae (by omega)] at h)) (Aw ((Below.refl _ w1).alloc (Nat.le_refl _) _)))⟩,fun h=>(Cs n10 (by decide) h).elim,hA.keep (Ae (by omega)) (Ae (by omega)) (fun _=>rfl) (Aw ((Below.refl _ w1).alloc (Nat.le_refl _) _))⟩
  | 1,ho=>
   cases ho
   refine Ak rfl rfl ?_
   have n10:L.getD 19 false=false:=hC.not (n:=7) (d:=1) hi (.inr (.inl ⟨0,by omega,.inl rfl⟩))
   obtain ⟨hp,hsl⟩:=hpre n10
   have heg:=enters_of Tryz.func58 (by kernel_rfl) rfl
   refine Bt (f:=58) (args:=#[.pointer (some ⟨H+1+1+1,0,none⟩),.int .i64 64]) (by simp [execOp,go_sem,heg]) (D2 (H+1+1+1) 64 w1) ?_
   rintro e2 w2 ⟨c2,rfl,hc2,q1,q2,hb2⟩
   have hz1:=hp.size
   exact ⟨_,rfl,vF,vM,vV,vS,vK,vN,vE,_,rfl,hC.set hi (fun i hi h=>by omega) (by omega) (by omega) (by omega) (by omega),(fun h=>by rw [Ae (by omega)] at h ⊢;exact h16 h),fun _=>⟨hp.call (i:=0) C9 rfl hi hb2 (U6 (b:=H+1+1+1) (by omega) q1 q2),(fun h=>Ba (hsl (by rwa [Ae (by omega)] at h)) (Aw hb2))⟩,fun h=>(Cs n10 (by decide) h).elim,hA.keep (Ae (by omega)) (Ae (by omega)) (fun _=>rfl) (Aw hb2)⟩
  | 2,ho=>
   cases ho
   refine Ak rfl rfl ?_
   have n10:L.getD 19 false=false:=hC.not (n:=7) (d:=1) hi (.inr (.inl ⟨0,by omega,.inr rfl⟩))
   obtain ⟨hp,hsl⟩:=hpre n10
   have d0:=hdep ⟨0,.data⟩ (by simp) rfl
   have d1:=hdep ⟨1,.data⟩ (by simp) rfl
   obtain ⟨bm,w2,rfl,r1,hp2,r2,r3,r4⟩:=hp.put (i:=0) C9 Fk hC rfl hi d0 d1
   dsimp only at r1
   refine Oper.wp_mono (K:=fun a2 w3=>a2=⟨#[.agg #[.int .u8 k,.string ⟨t.toArray⟩,.slice ka ks.length kc,.slice da ds.length dc,.int .i64 l],.pointer (some ⟨H,0,none⟩),.pointer (some ⟨H+1,0,none⟩),.pointer (some ⟨H+1+1,0,none⟩),.pointer (some ⟨H+1+1+1,0,none⟩),.pointer (some ⟨H+1+1+1+1,0,none⟩),.pointer (some ⟨H+1+1+1+1+1,0,none⟩),.pointer (some ⟨H+1+1+1+1+1+1,0,none⟩),.pointer (some ⟨H+1+1+1+1+1+1+1,0,none⟩),.pointer (some ⟨H+1+1+1+1+1+1+1+1,0,none⟩),.pointer (some ⟨H+1+1+1+1+1+1+1+1+1,0,none⟩),vF,(.map (some bm)),(vR 0),(vR 1),(vR 2),(vR 3),(vR 4),(vR 5),(vR 6),vV,vS,vK,vN,vE,undef,undef,undef,undef,undef,undef,undef,undef,undef],[]⟩∧w3=w2) (fun a2 w3 he=>?_) (by simp [Oper.wp,go_sem,r1])
   obtain ⟨rfl,rfl⟩:=he
   exact ⟨vF,_,vV,vS,vK,vN,vE,vR,rfl,hC.set hi (fun i hi h=>by have e:i=0:=(by omega);subst e;exact ⟨d0,d1⟩) (by omega) (by omega) (by omega) (by omega),(fun h=>by rw [Ae (by omega)] at h ⊢;exact h16 h),fun _=>⟨hp2,(fun h=>Ba (hsl (by rwa [Ae (by omega)] at h)) (Bw r4 r2))⟩,fun h=>(Cs n10 (by decide) h).elim,hA.keep (Ae (by omega)) (Ae (by omega)) (fun _=>rfl) (Bw r4 r2)⟩
  | 3,ho=>
   cases ho
   refine Ak rfl rfl ?_
   have n10:L.getD 19 false=false:=hC.not (n:=7) (d:=1) hi (.inr (.inl ⟨1,by omega,.inl rfl⟩))
   obtain ⟨hp,hsl⟩:=hpre n10
   have heg:=enters_of Tryz.func58 (by kernel_rfl) rfl
   refine Bt (f:=58) (args:=#[.pointer (some ⟨H+1+1+1+1,0,none⟩),.int .i64 64]) (by simp [execOp,go_sem,heg]) (D2 (H+1+1+1+1) 64 w1) ?_
   rintro e2 w2 ⟨c2,rfl,hc2,q1,q2,hb2⟩
   have hz1:=hp.size
   exact ⟨_,rfl,vF,vM,vV,vS,vK,vN,vE,_,rfl,hC.set hi (fun i hi h=>by omega) (by omega) (by omega) (by omega) (by omega),(fun h=>by rw [Ae (by omega)] at h ⊢;exact h16 h),fun _=>⟨hp.call (i:=1) C9 rfl hi hb2 (Um (b:=H+1+1+1) (by omega) q1 q2),(fun h=>Ba (hsl (by rwa [Ae (by omega)] at h)) (Aw hb2))⟩,fun h=>(Cs n10 (by decide) h).elim,hA.keep (Ae (by omega)) (Ae (by omega)) (fun _=>rfl) (Aw hb2)⟩
  | 4,ho=>
   cases ho
   refine Ak rfl rfl ?_
   have n10:L.getD 19 false=false:=hC.not (n:=7) (d:=1) hi (.inr (.inl ⟨1,by omega,.inr rfl⟩))
   obtain ⟨hp,hsl⟩:=hpre n10
   have d0:=hdep ⟨0,.data⟩ (by simp) rfl
   have d1:=hdep ⟨3,.data⟩ (by simp) rfl
   obtain ⟨bm,w2,rfl,r1,hp2,r2,r3,r4⟩:=hp.put (i:=1) C9 Fk hC rfl hi d0 d1
   dsimp only at r1
   refine Oper.wp_mono (K:=fun a2 w3=>a2=⟨#[.agg #[.int .u8 k,.string ⟨t.toArray⟩,.slice ka ks.length kc,.slice da ds.length dc,.int .i64 l],.pointer (some ⟨H,0,none⟩),.pointer (some ⟨H+1,0,none⟩),.pointer (some ⟨H+1+1,0,none⟩),.pointer (some ⟨H+1+1+1,0,none⟩),.pointer (some ⟨H+1+1+1+1,0,none⟩),.pointer (some ⟨H+1+1+1+1+1,0,none⟩),.pointer (some ⟨H+1+1+1+1+1+1,0,none⟩),.pointer (some ⟨H+1+1+1+1+1+1+1,0,none⟩),.pointer (some ⟨H+1+1+1+1+1+1+1+1,0,none⟩),.pointer (some ⟨H+1+1+1+1+1+1+1+1+1,0,none⟩),vF,(.map (some bm)),(vR 0),(vR 1),(vR 2),(vR 3),(vR 4),(vR 5),(vR 6),vV,vS,vK,vN,vE,undef,undef,undef,undef,undef,undef,undef,undef,undef],[]⟩∧w3=w2) (fun a2 w3 he=>?_) (by simp [Oper.wp,go_sem,r1])
   obtain ⟨rfl,rfl⟩:=he
   exact ⟨vF,_,vV,vS,vK,vN,vE,vR,rfl,hC.set hi (fun i hi h=>by have e:i=1:=(by omega);subst e;exact ⟨d0,d1⟩) (by omega) (by omega) (by omega) (by omega),(fun h=>by rw [Ae (by omega)] at h ⊢;exact h16 h),fun _=>⟨hp2,(fun h=>Ba (hsl (by rwa [Ae (by omega)] at h)) (Bw r4 r2))⟩,fun h=>(Cs n10 (by decide) h).elim,hA.keep (Ae (by omega)) (Ae (by omega)) (fun _=>rfl) (Bw r4 r2)⟩
  | 5,ho=>
   cases ho
   refine Ak rfl rfl ?_
   have n10:L.getD 19 false=false:=hC.not (n:=7) (d:=1) hi (.inr (.inl ⟨2,by omega,.inl rfl⟩))
   obtain ⟨hp,hsl⟩:=hpre n10
   have heg:=enters_of Tryz.func58 (by kernel_rfl) rfl
   refine Bt (f:=58) (args:=#[.pointer (some ⟨H+1+1+1+1+1,0,none⟩),.int .i64 64]) (by simp [execOp,go_sem,heg]) (D2 (H+1+1+1+1+1) 64 w1) ?_
   rintro e2 w2 ⟨c2,rfl,hc2,q1,q2,hb2⟩
   have hz1:=hp.size
   exact ⟨_,rfl,vF,vM,vV,vS,vK,vN,vE,_,rfl,hC.set hi (fun i hi h=>by omega) (by omega) (by omega) (by omega) (by omega),(fun h=>by rw [Ae (by omega)] at h ⊢;exact h16 h),fun _=>⟨hp.call (i:=2) C9 rfl hi hb2 (U3 (b:=H+1+1+1) (by omega) q1 q2),(fun h=>Ba (hsl (by rwa [Ae (by omega)] at h)) (Aw hb2))⟩,fun h=>(Cs n10 (by decide) h).elim,hA.keep (Ae (by omega)) (Ae (by omega)) (fun _=>rfl) (Aw hb2)⟩
  | 6,ho=>
   cases ho
   refine Ak rfl rfl ?_
   have n10:L.getD 19 false=false:=hC.not (n:=7) (d:=1) hi (.inr (.inl ⟨2,by omega,.inr rfl⟩))
   obtain ⟨hp,hsl⟩:=hpre n10
   have d0:=hdep ⟨0,.data⟩ (by simp) rfl
   have d1:=hdep ⟨5,.data⟩ (by simp) rfl
   obtain ⟨bm,w2,rfl,r1,hp2,r2,r3,r4⟩:=hp.put (i:=2) C9 Fk hC rfl hi d0 d1
   dsimp only at r1
   refine Oper.wp_mono (K:=fun a2 w3=>a2=⟨#[.agg #[.int .u8 k,.string ⟨t.toArray⟩,.slice ka ks.length kc,.slice da ds.length dc,.int .i64 l],.pointer (some ⟨H,0,none⟩),.pointer (some ⟨H+1,0,none⟩),.pointer (some ⟨H+1+1,0,none⟩),.pointer (some ⟨H+1+1+1,0,none⟩),.pointer (some ⟨H+1+1+1+1,0,none⟩),.pointer (some ⟨H+1+1+1+1+1,0,none⟩),.pointer (some ⟨H+1+1+1+1+1+1,0,none⟩),.pointer (some ⟨H+1+1+1+1+1+1+1,0,none⟩),.pointer (some ⟨H+1+1+1+1+1+1+1+1,0,none⟩),.pointer (some ⟨H+1+1+1+1+1+1+1+1+1,0,none⟩),vF,(.map (some bm)),(vR 0),(vR 1),(vR 2),(vR 3),(vR 4),(vR 5),(vR 6),vV,vS,vK,vN,vE,undef,undef,undef,undef,undef,undef,undef,undef,undef],[]⟩∧w3=w2) (fun a2 w3 he=>?_) (by simp [Oper.wp,go_sem,r1])
   obtain ⟨rfl,rfl⟩:=he
   exact ⟨vF,_,vV,vS,vK,vN,vE,vR,rfl,hC.set hi (fun i hi h=>by have e:i=2:=(by omega);subst e;exact ⟨d0,d1⟩) (by omega) (by omega) (by omega) (by omega),(fun h=>by rw [Ae (by omega)] at h ⊢;exact h16 h),fun _=>⟨hp2,(fun h=>Ba (hsl (by rwa [Ae (by omega)] at h)) (Bw r4 r2))⟩,fun h=>(Cs n10 (by decide) h).elim,hA.keep (Ae (by omega)) (Ae (by omega)) (fun _=>rfl) (Bw r4 r2)⟩
  | 7,ho=>
   cases ho
   refine Ak rfl rfl ?_
   have n10:L.getD 19 false=false:=hC.not (n:=7) (d:=1) hi (.inr (.inl ⟨3,by omega,.inl rfl⟩))
   obtain ⟨hp,hsl⟩:=hpre n10
   have heg:=enters_of Tryz.func86 (by kernel_rfl) rfl
   refine Bt (f:=86) (args:=#[.pointer (some ⟨H+1+1+1+1+1+1,0,none⟩)]) (by simp [execOp,go_sem,heg]) (Lp (H+1+1+1+1+1+1) w1) ?_
   rintro e2 w2 ⟨c2,rfl,hc2,q1,hb2⟩
   have hz1:=hp.size
   exact ⟨_,rfl,vF,vM,vV,vS,vK,vN,vE,_,rfl,hC.set hi (fun i hi h=>by omega) (by omega) (by omega) (by omega) (by omega),(fun h=>by rw [Ae (by omega)] at h ⊢;exact h16 h),fun _=>⟨hp.call (i:=3) C9 rfl hi hb2 (U8 (b:=H+1+1+1) (by omega) q1),(fun h=>Ba (hsl (by rwa [Ae (by omega)] at h)) (Aw hb2))⟩,fun h=>(Cs n10 (by decide) h).elim,hA.keep (Ae (by omega)) (Ae (by omega)) (fun _=>rfl) (Aw hb2)⟩
  | 8,ho=>
   cases ho
   refine Ak rfl rfl ?_
   have n10:L.getD 19 false=false:=hC.not (n:=7) (d:=1) hi (.inr (.inl ⟨3,by omega,.inr rfl⟩))
   obtain ⟨hp,hsl⟩:=hpre n10
   have d0:=hdep ⟨0,.data⟩ (by simp) rfl
   have d1:=hdep ⟨7,.data⟩ (by simp) rfl
   obtain ⟨bm,w2,rfl,r1,hp2,r2,r3,r4⟩:=hp.put (i:=3) C9 Fk hC rfl hi d0 d1
   dsimp only at r1
   refine Oper.wp_mono (K:=fun a2 w3=>a2=⟨#[.agg #[.int .u8 k,.string ⟨t.toArray⟩,.slice ka ks.length kc,.slice da ds.length dc,.int .i64 l],.pointer (some ⟨H,0,none⟩),.pointer (some ⟨H+1,0,none⟩),.pointer (some ⟨H+1+1,0,none⟩),.pointer (some ⟨H+1+1+1,0,none⟩),.pointer (some ⟨H+1+1+1+1,0,none⟩),.pointer (some ⟨H+1+1+1+1+1,0,none⟩),.pointer (some ⟨H+1+1+1+1+1+1,0,none⟩),.pointer (some ⟨H+1+1+1+1+1+1+1,0,none⟩),.pointer (some ⟨H+1+1+1+1+1+1+1+1,0,none⟩),.pointer (some ⟨H+1+1+1+1+1+1+1+1+1,0,none⟩),vF,(.map (some bm)),(vR 0),(vR 1),(vR 2),(vR 3),(vR 4),(vR 5),(vR 6),vV,vS,vK,vN,vE,undef,undef,undef,undef,undef,undef,undef,undef,undef],[]⟩∧w3=w2) (fun a2 w3 he=>?_) (by simp [Oper.wp,go_sem,r1])
   obtain ⟨rfl,rfl⟩:=he
   exact ⟨vF,_,vV,vS,vK,vN,vE,vR,rfl,hC.set hi (fun i hi h=>by have e:i=3:=(by omega);subst e;exact ⟨d0,d1⟩) (by omega) (by omega) (by omega) (by omega),(fun h=>by rw [Ae (by omega)] at h ⊢;exact h16 h),fun _=>⟨hp2,(fun h=>Ba (hsl (by rwa [Ae (by omega)] at h)) (Bw r4 r2))⟩,fun h=>(Cs n10 (by decide) h).elim,hA.keep (Ae (by omega)) (Ae (by omega)) (fun _=>rfl) (Bw r4 r2)⟩
  | 9,ho=>
   cases ho
   refine Ak rfl rfl ?_
   have n10:L.getD 19 false=false:=hC.not (n:=7) (d:=1) hi (.inr (.inl ⟨4,by omega,.inl rfl⟩))
   obtain ⟨hp,hsl⟩:=hpre n10
   have heg:=enters_of Tryz.func87 (by kernel_rfl) rfl
   refine Bt (f:=87) (args:=#[.pointer (some ⟨H+1+1+1+1+1+1+1,0,none⟩)]) (by simp [execOp,go_sem,heg]) (Ma (H+1+1+1+1+1+1+1) w1) ?_
   rintro e2 w2 ⟨c2,rfl,hc2,q1,hb2⟩
   have hz1:=hp.size
   exact ⟨_,rfl,vF,vM,vV,vS,vK,vN,vE,_,rfl,hC.set hi (fun i hi h=>by omega) (by omega) (by omega) (by omega) (by omega),(fun h=>by rw [Ae (by omega)] at h ⊢;exact h16 h),fun _=>⟨hp.call (i:=4) C9 rfl hi hb2 (Uv (b:=H+1+1+1) (by omega) q1),(fun h=>Ba (hsl (by rwa [Ae (by omega)] at h)) (Aw hb2))⟩,fun h=>(Cs n10 (by decide) h).elim,hA.keep (Ae (by omega)) (Ae (by omega)) (fun _=>rfl) (Aw hb2)⟩
  | 10,ho=>
   cases ho
   refine Ak rfl rfl ?_
   have n10:L.getD 19 false=false:=hC.not (n:=7) (d:=1) hi (.inr (.inl ⟨4,by omega,.inr rfl⟩))
   obtain ⟨hp,hsl⟩:=hpre n10
   have d0:=hdep ⟨0,.data⟩ (by simp) rfl
   have d1:=hdep ⟨9,.data⟩ (by simp) rfl
   obtain ⟨bm,w2,rfl,r1,hp2,r2,r3,r4⟩:=hp.put (i:=4) C9 Fk hC rfl hi d0 d1
   dsimp only at r1
   refine Oper.wp_mono (K:=fun a2 w3=>a2=⟨#[.agg #[.int .u8 k,.string ⟨t.toArray⟩,.slice ka ks.length kc,.slice da ds.length dc,.int .i64 l],.pointer (some ⟨H,0,none⟩),.pointer (some ⟨H+1,0,none⟩),.pointer (some ⟨H+1+1,0,none⟩),.pointer (some ⟨H+1+1+1,0,none⟩),.pointer (some ⟨H+1+1+1+1,0,none⟩),.pointer (some ⟨H+1+1+1+1+1,0,none⟩),.pointer (some ⟨H+1+1+1+1+1+1,0,none⟩),.pointer (some ⟨H+1+1+1+1+1+1+1,0,none⟩),.pointer (some ⟨H+1+1+1+1+1+1+1+1,0,none⟩),.pointer (some ⟨H+1+1+1+1+1+1+1+1+1,0,none⟩),vF,(.map (some bm)),(vR 0),(vR 1),(vR 2),(vR 3),(vR 4),(vR 5),(vR 6),vV,vS,vK,vN,vE,undef,undef,undef,undef,undef,undef,undef,undef,undef],[]⟩∧w3=w2) (fun a2 w3 he=>?_) (by simp [Oper.wp,go_sem,r1])
   obtain ⟨rfl,rfl⟩:=he
   exact ⟨vF,_,vV,vS,vK,vN,vE,vR,rfl,hC.set hi (fun i hi h=>by have e:i=4:=(by omega);subst e;exact ⟨d0,d1⟩) (by omega) (by omega) (by omega) (by omega),(fun h=>by rw [Ae (by omega)] at h ⊢;exact h16 h),fun _=>⟨hp2,(fun h=>Ba (hsl (by rwa [Ae (by omega)] at h)) (Bw r4 r2))⟩,fun h=>(Cs n10 (by decide) h).elim,hA.keep (Ae (by omega)) (Ae (by omega)) (fun _=>rfl) (Bw r4 r2)⟩
  | 11,ho=>
   cases ho
   refine Ak rfl rfl ?_
   have n10:L.getD 19 false=false:=hC.not (n:=7) (d:=1) hi (.inr (.inl ⟨5,by omega,.inl rfl⟩))
   obtain ⟨hp,hsl⟩:=hpre n10
   have heg:=enters_of Tryz.func88 (by kernel_rfl) rfl
   refine Bt (f:=88) (args:=#[.pointer (some ⟨H+1+1+1+1+1+1+1+1,0,none⟩)]) (by simp [execOp,go_sem,heg]) (F7 (H+1+1+1+1+1+1+1+1) w1) ?_
   rintro e2 w2 ⟨c2,rfl,hc2,q1,hb2⟩
   have hz1:=hp.size
   exact ⟨_,rfl,vF,vM,vV,vS,vK,vN,vE,_,rfl,hC.set hi (fun i hi h=>by omega) (by omega) (by omega) (by omega) (by omega),(fun h=>by rw [Ae (by omega)] at h ⊢;exact h16 h),fun _=>⟨hp.call (i:=5) C9 rfl hi hb2 (Uy (b:=H+1+1+1) (by omega) q1),(fun h=>Ba (hsl (by rwa [Ae (by omega)] at h)) (Aw hb2))⟩,fun h=>(Cs n10 (by decide) h).elim,hA.keep (Ae (by omega)) (Ae (by omega)) (fun _=>rfl) (Aw hb2)⟩
  | 12,ho=>
   cases ho
   refine Ak rfl rfl ?_
   have n10:L.getD 19 false=false:=hC.not (n:=7) (d:=1) hi (.inr (.inl ⟨5,by omega,.inr rfl⟩))
   obtain ⟨hp,hsl⟩:=hpre n10
   have d0:=hdep ⟨0,.data⟩ (by simp) rfl
   have d1:=hdep ⟨11,.data⟩ (by simp) rfl
   obtain ⟨bm,w2,rfl,r1,hp2,r2,r3,r4⟩:=hp.put (i:=5) C9 Fk hC rfl hi d0 d1
   dsimp only at r1
   refine Oper.wp_mono (K:=fun a2 w3=>a2=⟨#[.agg #[.int .u8 k,.string ⟨t.toArray⟩,.slice ka ks.length kc,.slice da ds.length dc,.int .i64 l],.pointer (some ⟨H,0,none⟩),.pointer (some ⟨H+1,0,none⟩),.pointer (some ⟨H+1+1,0,none⟩),.pointer (some ⟨H+1+1+1,0,none⟩),.pointer (some ⟨H+1+1+1+1,0,none⟩),.pointer (some ⟨H+1+1+1+1+1,0,none⟩),.pointer (some ⟨H+1+1+1+1+1+1,0,none⟩),.pointer (some ⟨H+1+1+1+1+1+1+1,0,none⟩),.pointer (some ⟨H+1+1+1+1+1+1+1+1,0,none⟩),.pointer (some ⟨H+1+1+1+1+1+1+1+1+1,0,none⟩),vF,(.map (some bm)),(vR 0),(vR 1),(vR 2),(vR 3),(vR 4),(vR 5),(vR 6),vV,vS,vK,vN,vE,undef,undef,undef,undef,undef,undef,undef,undef,undef],[]⟩∧w3=w2) (fun a2 w3 he=>?_) (by simp [Oper.wp,go_sem,r1])
   obtain ⟨rfl,rfl⟩:=he
   exact ⟨vF,_,vV,vS,vK,vN,vE,vR,rfl,hC.set hi (fun i hi h=>by have e:i=5:=(by omega);subst e;exact ⟨d0,d1⟩) (by omega) (by omega) (by omega) (by omega),(fun h=>by rw [Ae (by omega)] at h ⊢;exact h16 h),fun _=>⟨hp2,(fun h=>Ba (hsl (by rwa [Ae (by omega)] at h)) (Bw r4 r2))⟩,fun h=>(Cs n10 (by decide) h).elim,hA.keep (Ae (by omega)) (Ae (by omega)) (fun _=>rfl) (Bw r4 r2)⟩
  | 13,ho=>
   cases ho
   refine Ak rfl rfl ?_
   have n10:L.getD 19 false=false:=hC.not (n:=7) (d:=1) hi (.inr (.inl ⟨6,by omega,.inl rfl⟩))
   obtain ⟨hp,hsl⟩:=hpre n10
   have heg:=enters_of Tryz.func89 (by kernel_rfl) rfl
   refine Bt (f:=89) (args:=#[.pointer (some ⟨H+1+1+1+1+1+1+1+1+1,0,none⟩)]) (by simp [execOp,go_sem,heg]) (Nx (H+1+1+1+1+1+1+1+1+1) w1) ?_
   rintro e2 w2 ⟨c2,rfl,hc2,q1,hb2⟩
   have hz1:=hp.size
   exact ⟨_,rfl,vF,vM,vV,vS,vK,vN,vE,_,rfl,hC.set hi (fun i hi h=>by omega) (by omega) (by omega) (by omega) (by omega),(fun h=>by rw [Ae (by omega)] at h ⊢;exact h16 h),fun _=>⟨hp.call (i:=6) C9 rfl hi hb2 (Us (b:=H+1+1+1) (by omega) q1),(fun h=>Ba (hsl (by rwa [Ae (by omega)] at h)) (Aw hb2))⟩,fun h=>(Cs n10 (by decide) h).elim,hA.keep (Ae (by omega)) (Ae (by omega)) (fun _=>rfl) (Aw hb2)⟩
  | 14,ho=>
   cases ho
   refine Ak rfl rfl ?_
   have n10:L.getD 19 false=false:=hC.not (n:=7) (d:=1) hi (.inr (.inl ⟨6,by omega,.inr rfl⟩))
   obtain ⟨hp,hsl⟩:=hpre n10
   have d0:=hdep ⟨0,.data⟩ (by simp) rfl
   have d1:=hdep ⟨13,.data⟩ (by simp) rfl
   obtain ⟨bm,w2,rfl,r1,hp2,r2,r3,r4⟩:=hp.put (i:=6) C9 Fk hC rfl hi d0 d1
   dsimp only at r1
   refine Oper.wp_mono (K:=fun a2 w3=>a2=⟨#[.agg #[.int .u8 k,.string ⟨t.toArray⟩,.slice ka ks.length kc,.slice da ds.length dc,.int .i64 l],.pointer (some ⟨H,0,none⟩),.pointer (some ⟨H+1,0,none⟩),.pointer (some ⟨H+1+1,0,none⟩),.pointer (some ⟨H+1+1+1,0,none⟩),.pointer (some ⟨H+1+1+1+1,0,none⟩),.pointer (some ⟨H+1+1+1+1+1,0,none⟩),.pointer (some ⟨H+1+1+1+1+1+1,0,none⟩),.pointer (some ⟨H+1+1+1+1+1+1+1,0,none⟩),.pointer (some ⟨H+1+1+1+1+1+1+1+1,0,none⟩),.pointer (some ⟨H+1+1+1+1+1+1+1+1+1,0,none⟩),vF,(.map (some bm)),(vR 0),(vR 1),(vR 2),(vR 3),(vR 4),(vR 5),(vR 6),vV,vS,vK,vN,vE,undef,undef,undef,undef,undef,undef,undef,undef,undef],[]⟩∧w3=w2) (fun a2 w3 he=>?_) (by simp [Oper.wp,go_sem,r1])
   obtain ⟨rfl,rfl⟩:=he
   exact ⟨vF,_,vV,vS,vK,vN,vE,vR,rfl,hC.set hi (fun i hi h=>by have e:i=6:=(by omega);subst e;exact ⟨d0,d1⟩) (by omega) (by omega) (by omega) (by omega),(fun h=>by rw [Ae (by omega)] at h ⊢;exact h16 h),fun _=>⟨hp2,(fun h=>Ba (hsl (by rwa [Ae (by omega)] at h)) (Bw r4 r2))⟩,fun h=>(Cs n10 (by decide) h).elim,hA.keep (Ae (by omega)) (Ae (by omega)) (fun _=>rfl) (Bw r4 r2)⟩
  | 15,ho=>
   cases ho
   refine Ak rfl rfl ?_
   have n10:L.getD 19 false=false:=hC.not (n:=7) (d:=1) hi (.inr (.inr (.inl rfl)))
   obtain ⟨hp,hsl⟩:=hpre n10
   refine Oper.wp_mono (K:=fun a2 w2=>a2=⟨#[.agg #[.int .u8 k,.string ⟨t.toArray⟩,.slice ka ks.length kc,.slice da ds.length dc,.int .i64 l],.pointer (some ⟨H,0,none⟩),.pointer (some ⟨H+1,0,none⟩),.pointer (some ⟨H+1+1,0,none⟩),.pointer (some ⟨H+1+1+1,0,none⟩),.pointer (some ⟨H+1+1+1+1,0,none⟩),.pointer (some ⟨H+1+1+1+1+1,0,none⟩),.pointer (some ⟨H+1+1+1+1+1+1,0,none⟩),.pointer (some ⟨H+1+1+1+1+1+1+1,0,none⟩),.pointer (some ⟨H+1+1+1+1+1+1+1+1,0,none⟩),.pointer (some ⟨H+1+1+1+1+1+1+1+1+1,0,none⟩),vF,vM,(vR 0),(vR 1),(vR 2),(vR 3),(vR 4),(vR 5),(vR 6),vM,vS,vK,vN,vE,undef,undef,undef,undef,undef,undef,undef,undef,undef],[]⟩∧w2=w1) (fun a2 w2 he=>?_) (by simp [Oper.wp,go_sem])
   obtain ⟨rfl,rfl⟩:=he
   exact ⟨vF,vM,_,vS,vK,vN,vE,vR,rfl,hC.set hi (fun i hi h=>by omega) (fun _=>⟨hdep ⟨0,.data⟩ (by simp) rfl,fun i hi=>by
    match i,hi with
    | 0,_=>exact ⟨hdep ⟨1,.data⟩ (by simp) rfl,hdep ⟨2,.data⟩ (by simp) rfl⟩
    | 1,_=>exact ⟨hdep ⟨3,.data⟩ (by simp) rfl,hdep ⟨4,.data⟩ (by simp) rfl⟩
    | 2,_=>exact ⟨hdep ⟨5,.data⟩ (by simp) rfl,hdep ⟨6,.data⟩ (by simp) rfl⟩
    | 3,_=>exact ⟨hdep ⟨7,.data⟩ (by simp) rfl,hdep ⟨8,.data⟩ (by simp) rfl⟩
    | 4,_=>exact ⟨hdep ⟨9,.data⟩ (by simp) rfl,hdep ⟨10,.data⟩ (by simp) rfl⟩
    | 5,_=>exact ⟨hdep ⟨11,.data⟩ (by simp) rfl,hdep ⟨12,.data⟩ (by simp) rfl⟩
    | 6,_=>exact ⟨hdep ⟨13,.data⟩ (by simp) rfl,hdep ⟨14,.data⟩ (by simp) rfl⟩⟩) (by omega) (by omega) (by omega),(fun h=>by rw [Ae (by omega)] at h ⊢;exact h16 h),fun _=>⟨hp.move C9 hC hi,(fun h=>Ba (hsl (by rwa [Ae (by omega)] at h)) (fun g x y t _ hg=>hg))⟩,fun h=>(Cs n10 (by decide) h).elim,hA.keep (Ae (by omega)) (Ae (by omega)) (fun _=>rfl) (fun g x y t _ hg=>hg)⟩
  | 16,ho=>
   cases ho
   refine Ak rfl rfl ?_
   have f16:=(A4 hi).2
   have n17:L.getD 17 false=false:=by
    cases hq:L.getD 17 false with
    | false=>rfl
    | true=>rw [h16 hq] at f16;cases f16
   have n10:L.getD 19 false=false:=by
    cases hq:L.getD 19 false with
    | false=>rfl
    | true=>(have:=(hC.ca hq).1;rw [show L.getD 17 false=true from this] at n17;cases n17)
   obtain ⟨hp,hsl⟩:=hpre n10
   have hb2:Below w1.heap.size w1 (w1.alloc (.cells #[.string ⟨#[110,97,109,101]⟩,.string ⟨#[97,99,116,105,111,110]⟩] 9)):=(Below.refl _ w1).alloc (Nat.le_refl _) _
   refine Oper.wp_mono (K:=fun a2 w2=>a2=⟨#[.agg #[.int .u8 k,.string ⟨t.toArray⟩,.slice ka ks.length kc,.slice da ds.length dc,.int .i64 l],.pointer (some ⟨H,0,none⟩),.pointer (some ⟨H+1,0,none⟩),.pointer (some ⟨H+1+1,0,none⟩),.pointer (some ⟨H+1+1+1,0,none⟩),.pointer (some ⟨H+1+1+1+1,0,none⟩),.pointer (some ⟨H+1+1+1+1+1,0,none⟩),.pointer (some ⟨H+1+1+1+1+1+1,0,none⟩),.pointer (some ⟨H+1+1+1+1+1+1+1,0,none⟩),.pointer (some ⟨H+1+1+1+1+1+1+1+1,0,none⟩),.pointer (some ⟨H+1+1+1+1+1+1+1+1+1,0,none⟩),vF,vM,(vR 0),(vR 1),(vR 2),(vR 3),(vR 4),(vR 5),(vR 6),vV,(.slice (some ⟨w1.heap.size,0,none⟩) 2 2),vK,vN,vE,undef,undef,undef,undef,undef,undef,undef,undef,undef],[]⟩∧w2=w1.alloc (.cells #[.string ⟨#[110,97,109,101]⟩,.string ⟨#[97,99,116,105,111,110]⟩] 9)) (fun a2 w2 he=>?_) (by simp [Oper.wp,go_sem])
   obtain ⟨rfl,rfl⟩:=he
   have hzz:=hp.size
   exact ⟨vF,vM,vV,_,vK,vN,vE,vR,rfl,hC.set hi (fun i hi h=>by omega) (by omega) (by omega) (by omega) (by omega),fun _=>Bm hi,fun _=>⟨(hp.grow C9 hb2 (Ae (by omega)) (fun i hi=>⟨Ae (by simp [Ed] at hi;omega),Ae (by simp [Ed] at hi;omega)⟩) (Ae (by decide)) (Ae (by decide)) (Ae (by decide))).sl _ ((Ae (by decide)).trans n17),fun _=>⟨w1.heap.size,rfl,hzz,World.alloc_heap_new _ _⟩⟩,fun h=>(Cs n10 (by decide) h).elim,hA.keep (Ae (by omega)) (Ae (by omega)) (fun _=>rfl) (Aw hb2)⟩
  | 17,ho=>
   cases ho
   refine Ak rfl rfl ?_
   have n10:L.getD 19 false=false:=hC.not (n:=7) (d:=1) hi (.inr (.inr (.inr (.inl rfl))))
   obtain ⟨hp,hsl⟩:=hpre n10
   have d7:=hdep ⟨15,.data⟩ (by simp) rfl
   have d16:=hdep ⟨16,.data⟩ (by simp) rfl
   have hvv:=hp.mv d7
   obtain ⟨bm,rfl,_,_⟩:=hp.map (hC.mv d7).1
   subst hvv
   obtain ⟨sg,rfl,sB,sC⟩:=hsl d16
   have heg:=enters_of Tryz.func57 (by kernel_rfl) rfl
   refine Bt (f:=57) (args:=#[.map (some bm),.slice (some ⟨sg,0,none⟩) 2 2]) (by simp [execOp,go_sem,heg]) (Gt bm (some ⟨sg,0,none⟩) 2 2 w1) ?_
   rintro e2 w2 ⟨c2,rfl,hc2,q1,q2,hb2⟩
   exact ⟨_,rfl,vF,_,_,_,_,vN,vE,vR,rfl,hC.set hi (fun i hi h=>by omega) (by omega) (fun _=>d7) (by omega) (by omega),fun _=>by rw [Ae (by omega)];exact d16,fun _=>⟨hp.keys C9 hb2 (by omega) q1 q2,(fun h=>Ba (hsl (by rwa [Ae (by omega)] at h)) (Aw hb2))⟩,fun h=>(Cs n10 (by decide) h).elim,hA.keep (Ae (by omega)) (Ae (by omega)) (fun _=>rfl) (Aw hb2)⟩
  | 18,ho=>
   cases ho
   refine Ak rfl rfl ?_
   have n10:L.getD 19 false=false:=hC.not (n:=7) (d:=1) hi (.inr (.inr (.inr (.inr rfl))))
   obtain ⟨hp,hsl⟩:=hpre n10
   have y0:=Ad ((hp.below.block H (by omega)).trans (Aa HN0))
   refine Oper.wp_mono (K:=fun a2 w2=>a2=⟨#[.agg #[.int .u8 k,.string ⟨t.toArray⟩,.slice ka ks.length kc,.slice da ds.length dc,.int .i64 l],.pointer (some ⟨H,0,none⟩),.pointer (some ⟨H+1,0,none⟩),.pointer (some ⟨H+1+1,0,none⟩),.pointer (some ⟨H+1+1+1,0,none⟩),.pointer (some ⟨H+1+1+1+1,0,none⟩),.pointer (some ⟨H+1+1+1+1+1,0,none⟩),.pointer (some ⟨H+1+1+1+1+1+1,0,none⟩),.pointer (some ⟨H+1+1+1+1+1+1+1,0,none⟩),.pointer (some ⟨H+1+1+1+1+1+1+1+1,0,none⟩),.pointer (some ⟨H+1+1+1+1+1+1+1+1+1,0,none⟩),vF,vM,(vR 0),(vR 1),(vR 2),(vR 3),(vR 4),(vR 5),(vR 6),vV,vS,vK,(.agg #[.int .u8 k,.string ⟨t.toArray⟩,.slice ka ks.length kc,.slice da ds.length dc,.int .i64 l]),vE,undef,undef,undef,undef,undef,undef,undef,undef,undef],[]⟩∧w2=w1) (fun a2 w2 he=>?_) (by simp [Oper.wp,go_sem,y0])
   obtain ⟨rfl,rfl⟩:=he
   exact ⟨vF,vM,vV,vS,vK,_,vE,vR,rfl,hC.set hi (fun i hi h=>by omega) (by omega) (by omega) (by omega) (by omega),(fun h=>by rw [Ae (by omega)] at h ⊢;exact h16 h),fun _=>⟨hp.load C9,(fun h=>Ba (hsl (by rwa [Ae (by omega)] at h)) (fun g x y t _ hg=>hg))⟩,fun h=>(Cs n10 (by decide) h).elim,hA.keep (Ae (by omega)) (Ae (by omega)) (fun _=>rfl) (fun g x y t _ hg=>hg)⟩
  | 19,ho=>
   cases ho
   refine Ak rfl rfl ?_
   have n10:L.getD 19 false=false:=(A4 hi).2
   obtain ⟨hp,hsl⟩:=hpre n10
   have d8:=hdep ⟨17,.data⟩ (by simp) rfl
   have d9:=hdep ⟨18,.data⟩ (by simp) rfl
   obtain ⟨sg,rfl,sB,sC⟩:=hsl (h16 d8)
   obtain ⟨bm,c,rfl,rfl,hcB,hbB,hbl,q1,q2,hmc⟩:=hp.ready C9 hC (N7 (H+1+1+1)) d8 d9
   have heg:=enters_of Tryz.func92 (by kernel_rfl) rfl
   refine Bt (f:=92) (args:=#[.agg #[.int .u8 k,.string ⟨t.toArray⟩,.slice ka ks.length kc,.slice da ds.length dc,.int .i64 l],.pointer (some ⟨c,0,none⟩),.pointer (some ⟨c+1,0,none⟩)]) (by simp [execOp,go_sem,heg]) (Aa HCALL bm c sg w1 hp.below hp.size hcB hbB hbl sB sC q1 q2 hmc) ?_
   rintro e3 w3 hr3
   have hzz:=hp.size
   obtain ⟨v,rfl,hpo,hal⟩:=Eg.read (n:=7) (d:=1) (O7 (H+1+1+1)) hp.below (by omega) hp.size (N7 (H+1+1+1)) (fun g hg=>hg) hr3 hC hA hi (fun g h1 h2=>by omega)
   exact ⟨v,rfl,vF,vM,vV,_,_,_,v,vR,rfl,hC.set hi (fun i hi h=>by omega) (by omega) (by omega) (fun _=>⟨d8,d9⟩) (by omega),(fun h=>by rw [Ae (by omega)] at h ⊢;exact h16 h),fun h=>by (have h2:=(E3 hi).2 (.inl rfl) ;rw [h2] at h;cases h),fun _=>hpo,hal⟩
  | 20,ho=>
   cases ho
   refine Ak rfl rfl ?_
   refine Oper.wp_mono (K:=fun a2 w2=>a2=⟨#[.agg #[.int .u8 k,.string ⟨t.toArray⟩,.slice ka ks.length kc,.slice da ds.length dc,.int .i64 l],.pointer (some ⟨H,0,none⟩),.pointer (some ⟨H+1,0,none⟩),.pointer (some ⟨H+1+1,0,none⟩),.pointer (some ⟨H+1+1+1,0,none⟩),.pointer (some ⟨H+1+1+1+1,0,none⟩),.pointer (some ⟨H+1+1+1+1+1,0,none⟩),.pointer (some ⟨H+1+1+1+1+1+1,0,none⟩),.pointer (some ⟨H+1+1+1+1+1+1+1,0,none⟩),.pointer (some ⟨H+1+1+1+1+1+1+1+1,0,none⟩),.pointer (some ⟨H+1+1+1+1+1+1+1+1+1,0,none⟩),(.pointer (some ⟨w1.heap.size,0,none⟩)),vM,(vR 0),(vR 1),(vR 2),(vR 3),(vR 4),(vR 5),(vR 6),vV,vS,vK,vN,vE,undef,undef,undef,undef,undef,undef,undef,undef,undef],[]⟩∧w2=w1.alloc (.cells #[.int .i64 0,.int .i64 0] 29)) (fun a2 w2 he=>?_) (by simp [Oper.wp,go_sem])
   obtain ⟨rfl,rfl⟩:=he
   have hzz:H+1+1+1+1+1+1+1+1+1+1≤w1.heap.size:=by
    cases hq:L.getD 19 false with
    | false=>exact (hpre hq).1.size
    | true=>exact (hpost hq).2.1
   exact ⟨_,vM,vV,vS,vK,vN,vE,vR,rfl,hC.set hi (fun i hi h=>by omega) (by omega) (by omega) (by omega) (by omega),(fun h=>by rw [Ae (by omega)] at h ⊢;exact h16 h),fun h=>⟨(hpre (by rwa [Ae (by omega)] at h)).1.grow C9 ((Below.refl _ w1).alloc (Nat.le_refl _) _) (Ae (by omega)) (fun i hi=>⟨Ae (by simp [Ed] at hi;omega),Ae (by simp [Ed] at hi;omega)⟩) (Ae (by decide)) (Ae (by decide)) (Ae (by decide)),fun h2=>Ba ((hpre (by rwa [Ae (by omega)] at h)).2 (by rwa [Ae (by omega)] at h2)) (Aw ((Below.refl _ w1).alloc (Nat.le_refl _) _))⟩,fun h=>(hpost (by rwa [Ae (by omega)] at h)).alloc (O7 _) hi _,Mo.made hC hzz hi vE _ _⟩
  | 21,ho=>
   cases ho
   refine Ak rfl rfl ?_
   have d10:=hdep ⟨19,.data⟩ (by simp) rfl
   have d11:=hdep ⟨20,.data⟩ (by simp) rfl
   obtain ⟨fb,x,y,ec,el,rfl,rfl,e3,hp2,hA2⟩:=(hpost d10).store (O7 _) hA hi d11 (N7 (H+1+1+1)) (by omega)
   have z0:=Af e3
   refine Oper.wp_mono (K:=fun a2 w2=>a2=⟨#[.agg #[.int .u8 k,.string ⟨t.toArray⟩,.slice ka ks.length kc,.slice da ds.length dc,.int .i64 l],.pointer (some ⟨H,0,none⟩),.pointer (some ⟨H+1,0,none⟩),.pointer (some ⟨H+1+1,0,none⟩),.pointer (some ⟨H+1+1+1,0,none⟩),.pointer (some ⟨H+1+1+1+1,0,none⟩),.pointer (some ⟨H+1+1+1+1+1,0,none⟩),.pointer (some ⟨H+1+1+1+1+1+1,0,none⟩),.pointer (some ⟨H+1+1+1+1+1+1+1,0,none⟩),.pointer (some ⟨H+1+1+1+1+1+1+1+1,0,none⟩),.pointer (some ⟨H+1+1+1+1+1+1+1+1+1,0,none⟩),(.pointer (some ⟨fb,0,none⟩)),vM,(vR 0),(vR 1),(vR 2),(vR 3),(vR 4),(vR 5),(vR 6),vV,vS,vK,vN,(.agg #[.int .i64 ec,.int .i64 el]),undef,undef,undef,undef,undef,undef,undef,undef,undef],[]⟩∧w2=(w1.setCell ⟨fb,0,none⟩ (.int .i64 ec)).setCell ⟨fb,1,none⟩ (.int .i64 el)) (fun a2 w2 he=>?_) (by simp [Oper.wp,go_sem,z0])
   obtain ⟨rfl,rfl⟩:=he
   exact ⟨_,vM,vV,vS,vK,vN,_,vR,rfl,hC.set hi (fun i hi h=>by omega) (by omega) (by omega) (by omega) (fun _=>⟨d10,d11⟩),(fun h=>by rw [Ae (by omega)] at h ⊢;exact h16 h),fun h=>by (rw [Ae (by omega)] at h;rw [show L.getD 19 false=true from d10] at h;cases h),fun _=>hp2,hA2⟩
  | n+22,ho=>exact absurd ho (by simp)
 ·rintro L a' V ⟨vF,vM,vV,vS,vK,vN,vE,vR,rfl,hC,h16,hpre,hpost,hA⟩ hall
  have hall':∀ i,i<22→L.getD i false=true:=fun i hi=>by
   have:=hall i
   have hz:=hC.size
   have hi':i<L.size:=by omega
   simp only [Array.getD,hi',dif_pos] at this ⊢
   exact this
  obtain ⟨fb,e,l',s,rfl,hfB,e3,hk,hr,hI⟩:=(hpost (hall' 19 (by omega))).end hA (hall' 20 (by omega)) (hall' 21 (by omega))
  have m1:=(hk.same (H+1) (by omega) (fun q=>by have:=q.1;omega)).trans (Aa HN1)
  have m2:=(hk.same (H+1+1) (by omega) (fun q=>by have:=q.1;omega)).trans (Aa HN2)
  have hBV:Below H w V:=⟨hk.os.trans (Aa HBW).os,hk.tape.trans (Aa HBW).tape,hk.output.trans (Aa HBW).output,Nat.le_trans (Aa HBW).size hk.size,fun g hg=>(hk.same g (by omega) (fun q=>by have:=q.1;omega)).trans ((Aa HBW).block g hg)⟩
  have hVs:=hk.size
  obtain ⟨a3,c3,c_3,g3s,_⟩:=hI.b3
  obtain ⟨k6,t6,ka6,kc6,ks6,da6,dc6,ds6,l6,hbr,hin6,hbl6,c6⟩:=hI.b6
  have c0:=hI.b0
  have c1:=hI.b1
  have c2:=hI.b2
  have c3':=c_3
  have c4:=hI.b4
  have c5:=hI.b5
  clear hpre hpost hA hall hall' hI h16 hC
  go_upto_region 7 with fail
  refine Em hmx (fun L a w1=>∃ v25 v26 v27 v28 v29 v30 v31 v32 v33:Value,a=⟨#[.agg #[.int .u8 k,.string ⟨t.toArray⟩,.slice ka ks.length kc,.slice da ds.length dc,.int .i64 l],.pointer (some ⟨H,0,none⟩),.pointer (some ⟨H+1,0,none⟩),.pointer (some ⟨H+1+1,0,none⟩),.pointer (some ⟨H+1+1+1,0,none⟩),.pointer (some ⟨H+1+1+1+1,0,none⟩),.pointer (some ⟨H+1+1+1+1+1,0,none⟩),.pointer (some ⟨H+1+1+1+1+1+1,0,none⟩),.pointer (some ⟨H+1+1+1+1+1+1+1,0,none⟩),.pointer (some ⟨H+1+1+1+1+1+1+1+1,0,none⟩),.pointer (some ⟨H+1+1+1+1+1+1+1+1+1,0,none⟩),.pointer (some ⟨fb,0,none⟩),vM,(vR 0),(vR 1),(vR 2),(vR 3),(vR 4),(vR 5),(vR 6),vV,vS,vK,vN,vE,v25,v26,v27,v28,v29,v30,v31,v32,v33],[]⟩∧L.size=11 ∧
  (L.getD 0 false=true→v25=.string ⟨s.name.toArray⟩) ∧
  (L.getD 1 false=true→v26=.string ⟨s.action.toArray⟩) ∧
  (L.getD 2 false=true→v27=.string ⟨s.undo.toArray⟩) ∧
  (L.getD 3 false=true→v28=.slice a3 s.after.length c3) ∧
  (L.getD 4 false=true→v29=.agg #[.int .i64 s.tries.most,.int .i64 s.tries.first,.int .i64 s.tries.factor]) ∧
  (L.getD 5 false=true→v30=.int .i64 s.limit) ∧
  (L.getD 6 false=true→v31=.agg #[.int .u8 k6,.string ⟨t6.toArray⟩,.slice ka6 ks6.length kc6,.slice da6 ds6.length dc6,.int .i64 l6]) ∧
  (L.getD 7 false=true→v32=.agg #[.string ⟨s.name.toArray⟩,.string ⟨s.action.toArray⟩,.string ⟨s.undo.toArray⟩,.slice a3 s.after.length c3,.int .i64 s.tries.most,.int .i64 s.tries.first,.int .i64 s.tries.factor,.int .i64 s.limit,.int .u8 k6,.string ⟨t6.toArray⟩,.slice ka6 ks6.length kc6,.slice da6 ds6.length dc6,.int .i64 l6])∧(L.getD 8 false=true→v33=.agg #[.int .i64 e,.int .i64 l'])∧Q8 (H+1) (H+1+1) V w1 ∧
  (L.getD 9 false=false→w1.heap[H+1]?=some (.cells #[.string ⟨#[]⟩,.string ⟨#[]⟩,.string ⟨#[]⟩,.slice none 0 0,.int .i64 0,.int .i64 0,.int .i64 0,.int .i64 0,.int .u8 0,.string ⟨#[]⟩,.slice none 0 0,.slice none 0 0,.int .i64 0] 86))∧(L.getD 9 false=true→w1.heap[H+1]?=some (.cells #[.string ⟨s.name.toArray⟩,.string ⟨s.action.toArray⟩,.string ⟨s.undo.toArray⟩,.slice a3 s.after.length c3,.int .i64 s.tries.most,.int .i64 s.tries.first,.int .i64 s.tries.factor,.int .i64 s.limit,.int .u8 k6,.string ⟨t6.toArray⟩,.slice ka6 ks6.length kc6,.slice da6 ds6.length dc6,.int .i64 l6] 86)) ∧
  (L.getD 10 false=false→w1.heap[H+1+1]?=some (.cells #[.int .i64 0,.int .i64 0] 29))∧(L.getD 10 false=true→w1.heap[H+1+1]?=some (.cells #[.int .i64 e,.int .i64 l'] 29))) (by kernel_rfl) ?_ ?_ ?_
  ·refine ⟨undef,undef,undef,undef,undef,undef,undef,undef,undef,rfl,by kernel_rfl,?_,?_,?_,?_,?_,?_,?_,?_,?_,⟨Nat.le_refl _,fun _ _ _=>rfl,rfl,rfl,rfl⟩,fun _=>m1,?_,fun _=>m2,?_⟩
   all_goals (intro h;exact absurd h (by decide))
  ·rintro L a' w1 i o ⟨v25,v26,v27,v28,v29,v30,v31,v32,v33,rfl,hL,f0,f1,f2,f3,f4,f5,f6,f7,f8,hB,n9,y9,n10,y10⟩ ho hi hdep
   match i,ho with
   | 0,ho=>
    cases ho
    refine Ak rfl rfl ?_
    have z0:=Aq ((hB.same (H+1+1+1) (by omega) (by omega)).trans c0)
    refine Oper.wp_mono (K:=fun a2 w2=>a2=⟨#[.agg #[.int .u8 k,.string ⟨t.toArray⟩,.slice ka ks.length kc,.slice da ds.length dc,.int .i64 l],.pointer (some ⟨H,0,none⟩),.pointer (some ⟨H+1,0,none⟩),.pointer (some ⟨H+1+1,0,none⟩),.pointer (some ⟨H+1+1+1,0,none⟩),.pointer (some ⟨H+1+1+1+1,0,none⟩),.pointer (some ⟨H+1+1+1+1+1,0,none⟩),.pointer (some ⟨H+1+1+1+1+1+1,0,none⟩),.pointer (some ⟨H+1+1+1+1+1+1+1,0,none⟩),.pointer (some ⟨H+1+1+1+1+1+1+1+1,0,none⟩),.pointer (some ⟨H+1+1+1+1+1+1+1+1+1,0,none⟩),.pointer (some ⟨fb,0,none⟩),vM,(vR 0),(vR 1),(vR 2),(vR 3),(vR 4),(vR 5),(vR 6),vV,vS,vK,vN,vE,(.string ⟨s.name.toArray⟩),v26,v27,v28,v29,v30,v31,v32,v33],[]⟩∧w2=w1) (fun a2 w2 he=>?_) (by simp [Oper.wp,go_sem,z0])
    obtain ⟨rfl,rfl⟩:=he
    exact ⟨_,v26,v27,v28,v29,v30,v31,v32,v33,rfl,by simp [hL],(fun _=>rfl),(fun h=>f1 (Ac (by omega) h)),(fun h=>f2 (Ac (by omega) h)),(fun h=>f3 (Ac (by omega) h)),(fun h=>f4 (Ac (by omega) h)),(fun h=>f5 (Ac (by omega) h)),(fun h=>f6 (Ac (by omega) h)),(fun h=>f7 (Ac (by omega) h)),(fun h=>f8 (Ac (by omega) h)),hB,(fun h=>n9 (by rwa [Ae (by omega)] at h)),(fun h=>y9 (Ac (by omega) h)),(fun h=>n10 (by rwa [Ae (by omega)] at h)),(fun h=>y10 (Ac (by omega) h))⟩
   | 1,ho=>
    cases ho
    refine Ak rfl rfl ?_
    have z0:=Aq ((hB.same (H+1+1+1+1) (by omega) (by omega)).trans c1)
    refine Oper.wp_mono (K:=fun a2 w2=>a2=⟨#[.agg #[.int .u8 k,.string ⟨t.toArray⟩,.slice ka ks.length kc,.slice da ds.length dc,.int .i64 l],.pointer (some ⟨H,0,none⟩),.pointer (some ⟨H+1,0,none⟩),.pointer (some ⟨H+1+1,0,none⟩),.pointer (some ⟨H+1+1+1,0,none⟩),.pointer (some ⟨H+1+1+1+1,0,none⟩),.pointer (some ⟨H+1+1+1+1+1,0,none⟩),.pointer (some ⟨H+1+1+1+1+1+1,0,none⟩),.pointer (some ⟨H+1+1+1+1+1+1+1,0,none⟩),.pointer (some ⟨H+1+1+1+1+1+1+1+1,0,none⟩),.pointer (some ⟨H+1+1+1+1+1+1+1+1+1,0,none⟩),.pointer (some ⟨fb,0,none⟩),vM,(vR 0),(vR 1),(vR 2),(vR 3),(vR 4),(vR 5),(vR 6),vV,vS,vK,vN,vE,v25,(.string ⟨s.action.toArray⟩),v27,v28,v29,v30,v31,v32,v33],[]⟩∧w2=w1) (fun a2 w2 he=>?_) (by simp [Oper.wp,go_sem,z0])
    obtain ⟨rfl,rfl⟩:=he
    exact ⟨v25,_,v27,v28,v29,v30,v31,v32,v33,rfl,by simp [hL],(fun h=>f0 (Ac (by omega) h)),(fun _=>rfl),(fun h=>f2 (Ac (by omega) h)),(fun h=>f3 (Ac (by omega) h)),(fun h=>f4 (Ac (by omega) h)),(fun h=>f5 (Ac (by omega) h)),(fun h=>f6 (Ac (by omega) h)),(fun h=>f7 (Ac (by omega) h)),(fun h=>f8 (Ac (by omega) h)),hB,(fun h=>n9 (by rwa [Ae (by omega)] at h)),(fun h=>y9 (Ac (by omega) h)),(fun h=>n10 (by rwa [Ae (by omega)] at h)),(fun h=>y10 (Ac (by omega) h))⟩
   | 2,ho=>
    cases ho
    refine Ak rfl rfl ?_
    have z0:=Aq ((hB.same (H+1+1+1+1+1) (by omega) (by omega)).trans c2)
    refine Oper.wp_mono (K:=fun a2 w2=>a2=⟨#[.agg #[.int .u8 k,.string ⟨t.toArray⟩,.slice ka ks.length kc,.slice da ds.length dc,.int .i64 l],.pointer (some ⟨H,0,none⟩),.pointer (some ⟨H+1,0,none⟩),.pointer (some ⟨H+1+1,0,none⟩),.pointer (some ⟨H+1+1+1,0,none⟩),.pointer (some ⟨H+1+1+1+1,0,none⟩),.pointer (some ⟨H+1+1+1+1+1,0,none⟩),.pointer (some ⟨H+1+1+1+1+1+1,0,none⟩),.pointer (some ⟨H+1+1+1+1+1+1+1,0,none⟩),.pointer (some ⟨H+1+1+1+1+1+1+1+1,0,none⟩),.pointer (some ⟨H+1+1+1+1+1+1+1+1+1,0,none⟩),.pointer (some ⟨fb,0,none⟩),vM,(vR 0),(vR 1),(vR 2),(vR 3),(vR 4),(vR 5),(vR 6),vV,vS,vK,vN,vE,v25,v26,(.string ⟨s.undo.toArray⟩),v28,v29,v30,v31,v32,v33],[]⟩∧w2=w1) (fun a2 w2 he=>?_) (by simp [Oper.wp,go_sem,z0])
    obtain ⟨rfl,rfl⟩:=he
    exact ⟨v25,v26,_,v28,v29,v30,v31,v32,v33,rfl,by simp [hL],(fun h=>f0 (Ac (by omega) h)),(fun h=>f1 (Ac (by omega) h)),(fun _=>rfl),(fun h=>f3 (Ac (by omega) h)),(fun h=>f4 (Ac (by omega) h)),(fun h=>f5 (Ac (by omega) h)),(fun h=>f6 (Ac (by omega) h)),(fun h=>f7 (Ac (by omega) h)),(fun h=>f8 (Ac (by omega) h)),hB,(fun h=>n9 (by rwa [Ae (by omega)] at h)),(fun h=>y9 (Ac (by omega) h)),(fun h=>n10 (by rwa [Ae (by omega)] at h)),(fun h=>y10 (Ac (by omega) h))⟩
   | 3,ho=>
    cases ho
    refine Ak rfl rfl ?_
    have z0:=Aq ((hB.same (H+1+1+1+1+1+1) (by omega) (by omega)).trans c_3)
    refine Oper.wp_mono (K:=fun a2 w2=>a2=⟨#[.agg #[.int .u8 k,.string ⟨t.toArray⟩,.slice ka ks.length kc,.slice da ds.length dc,.int .i64 l],.pointer (some ⟨H,0,none⟩),.pointer (some ⟨H+1,0,none⟩),.pointer (some ⟨H+1+1,0,none⟩),.pointer (some ⟨H+1+1+1,0,none⟩),.pointer (some ⟨H+1+1+1+1,0,none⟩),.pointer (some ⟨H+1+1+1+1+1,0,none⟩),.pointer (some ⟨H+1+1+1+1+1+1,0,none⟩),.pointer (some ⟨H+1+1+1+1+1+1+1,0,none⟩),.pointer (some ⟨H+1+1+1+1+1+1+1+1,0,none⟩),.pointer (some ⟨H+1+1+1+1+1+1+1+1+1,0,none⟩),.pointer (some ⟨fb,0,none⟩),vM,(vR 0),(vR 1),(vR 2),(vR 3),(vR 4),(vR 5),(vR 6),vV,vS,vK,vN,vE,v25,v26,v27,(.slice a3 s.after.length c3),v29,v30,v31,v32,v33],[]⟩∧w2=w1) (fun a2 w2 he=>?_) (by simp [Oper.wp,go_sem,z0])
    obtain ⟨rfl,rfl⟩:=he
    exact ⟨v25,v26,v27,_,v29,v30,v31,v32,v33,rfl,by simp [hL],(fun h=>f0 (Ac (by omega) h)),(fun h=>f1 (Ac (by omega) h)),(fun h=>f2 (Ac (by omega) h)),(fun _=>rfl),(fun h=>f4 (Ac (by omega) h)),(fun h=>f5 (Ac (by omega) h)),(fun h=>f6 (Ac (by omega) h)),(fun h=>f7 (Ac (by omega) h)),(fun h=>f8 (Ac (by omega) h)),hB,(fun h=>n9 (by rwa [Ae (by omega)] at h)),(fun h=>y9 (Ac (by omega) h)),(fun h=>n10 (by rwa [Ae (by omega)] at h)),(fun h=>y10 (Ac (by omega) h))⟩
   | 4,ho=>
    cases ho
    refine Ak rfl rfl ?_
    have z0:=D9 ((hB.same (H+1+1+1+1+1+1+1) (by omega) (by omega)).trans c4)
    refine Oper.wp_mono (K:=fun a2 w2=>a2=⟨#[.agg #[.int .u8 k,.string ⟨t.toArray⟩,.slice ka ks.length kc,.slice da ds.length dc,.int .i64 l],.pointer (some ⟨H,0,none⟩),.pointer (some ⟨H+1,0,none⟩),.pointer (some ⟨H+1+1,0,none⟩),.pointer (some ⟨H+1+1+1,0,none⟩),.pointer (some ⟨H+1+1+1+1,0,none⟩),.pointer (some ⟨H+1+1+1+1+1,0,none⟩),.pointer (some ⟨H+1+1+1+1+1+1,0,none⟩),.pointer (some ⟨H+1+1+1+1+1+1+1,0,none⟩),.pointer (some ⟨H+1+1+1+1+1+1+1+1,0,none⟩),.pointer (some ⟨H+1+1+1+1+1+1+1+1+1,0,none⟩),.pointer (some ⟨fb,0,none⟩),vM,(vR 0),(vR 1),(vR 2),(vR 3),(vR 4),(vR 5),(vR 6),vV,vS,vK,vN,vE,v25,v26,v27,v28,(.agg #[.int .i64 s.tries.most,.int .i64 s.tries.first,.int .i64 s.tries.factor]),v30,v31,v32,v33],[]⟩∧w2=w1) (fun a2 w2 he=>?_) (by simp [Oper.wp,go_sem,z0])
    obtain ⟨rfl,rfl⟩:=he
    exact ⟨v25,v26,v27,v28,_,v30,v31,v32,v33,rfl,by simp [hL],(fun h=>f0 (Ac (by omega) h)),(fun h=>f1 (Ac (by omega) h)),(fun h=>f2 (Ac (by omega) h)),(fun h=>f3 (Ac (by omega) h)),(fun _=>rfl),(fun h=>f5 (Ac (by omega) h)),(fun h=>f6 (Ac (by omega) h)),(fun h=>f7 (Ac (by omega) h)),(fun h=>f8 (Ac (by omega) h)),hB,(fun h=>n9 (by rwa [Ae (by omega)] at h)),(fun h=>y9 (Ac (by omega) h)),(fun h=>n10 (by rwa [Ae (by omega)] at h)),(fun h=>y10 (Ac (by omega) h))⟩
   | 5,ho=>
    cases ho
    refine Ak rfl rfl ?_
    have z0:=Aq ((hB.same (H+1+1+1+1+1+1+1+1) (by omega) (by omega)).trans c5)
    refine Oper.wp_mono (K:=fun a2 w2=>a2=⟨#[.agg #[.int .u8 k,.string ⟨t.toArray⟩,.slice ka ks.length kc,.slice da ds.length dc,.int .i64 l],.pointer (some ⟨H,0,none⟩),.pointer (some ⟨H+1,0,none⟩),.pointer (some ⟨H+1+1,0,none⟩),.pointer (some ⟨H+1+1+1,0,none⟩),.pointer (some ⟨H+1+1+1+1,0,none⟩),.pointer (some ⟨H+1+1+1+1+1,0,none⟩),.pointer (some ⟨H+1+1+1+1+1+1,0,none⟩),.pointer (some ⟨H+1+1+1+1+1+1+1,0,none⟩),.pointer (some ⟨H+1+1+1+1+1+1+1+1,0,none⟩),.pointer (some ⟨H+1+1+1+1+1+1+1+1+1,0,none⟩),.pointer (some ⟨fb,0,none⟩),vM,(vR 0),(vR 1),(vR 2),(vR 3),(vR 4),(vR 5),(vR 6),vV,vS,vK,vN,vE,v25,v26,v27,v28,v29,(.int .i64 s.limit),v31,v32,v33],[]⟩∧w2=w1) (fun a2 w2 he=>?_) (by simp [Oper.wp,go_sem,z0])
    obtain ⟨rfl,rfl⟩:=he
    exact ⟨v25,v26,v27,v28,v29,_,v31,v32,v33,rfl,by simp [hL],(fun h=>f0 (Ac (by omega) h)),(fun h=>f1 (Ac (by omega) h)),(fun h=>f2 (Ac (by omega) h)),(fun h=>f3 (Ac (by omega) h)),(fun h=>f4 (Ac (by omega) h)),(fun _=>rfl),(fun h=>f6 (Ac (by omega) h)),(fun h=>f7 (Ac (by omega) h)),(fun h=>f8 (Ac (by omega) h)),hB,(fun h=>n9 (by rwa [Ae (by omega)] at h)),(fun h=>y9 (Ac (by omega) h)),(fun h=>n10 (by rwa [Ae (by omega)] at h)),(fun h=>y10 (Ac (by omega) h))⟩
   | 6,ho=>
    cases ho
    refine Ak rfl rfl ?_
    have z0:=Ad ((hB.same (H+1+1+1+1+1+1+1+1+1) (by omega) (by omega)).trans c6)
    refine Oper.wp_mono (K:=fun a2 w2=>a2=⟨#[.agg #[.int .u8 k,.string ⟨t.toArray⟩,.slice ka ks.length kc,.slice da ds.length dc,.int .i64 l],.pointer (some ⟨H,0,none⟩),.pointer (some ⟨H+1,0,none⟩),.pointer (some ⟨H+1+1,0,none⟩),.pointer (some ⟨H+1+1+1,0,none⟩),.pointer (some ⟨H+1+1+1+1,0,none⟩),.pointer (some ⟨H+1+1+1+1+1,0,none⟩),.pointer (some ⟨H+1+1+1+1+1+1,0,none⟩),.pointer (some ⟨H+1+1+1+1+1+1+1,0,none⟩),.pointer (some ⟨H+1+1+1+1+1+1+1+1,0,none⟩),.pointer (some ⟨H+1+1+1+1+1+1+1+1+1,0,none⟩),.pointer (some ⟨fb,0,none⟩),vM,(vR 0),(vR 1),(vR 2),(vR 3),(vR 4),(vR 5),(vR 6),vV,vS,vK,vN,vE,v25,v26,v27,v28,v29,v30,(.agg #[.int .u8 k6,.string ⟨t6.toArray⟩,.slice ka6 ks6.length kc6,.slice da6 ds6.length dc6,.int .i64 l6]),v32,v33],[]⟩∧w2=w1) (fun a2 w2 he=>?_) (by simp [Oper.wp,go_sem,z0])
    obtain ⟨rfl,rfl⟩:=he
    exact ⟨v25,v26,v27,v28,v29,v30,_,v32,v33,rfl,by simp [hL],(fun h=>f0 (Ac (by omega) h)),(fun h=>f1 (Ac (by omega) h)),(fun h=>f2 (Ac (by omega) h)),(fun h=>f3 (Ac (by omega) h)),(fun h=>f4 (Ac (by omega) h)),(fun h=>f5 (Ac (by omega) h)),(fun _=>rfl),(fun h=>f7 (Ac (by omega) h)),(fun h=>f8 (Ac (by omega) h)),hB,(fun h=>n9 (by rwa [Ae (by omega)] at h)),(fun h=>y9 (Ac (by omega) h)),(fun h=>n10 (by rwa [Ae (by omega)] at h)),(fun h=>y10 (Ac (by omega) h))⟩
   | 7,ho=>
    cases ho
    refine Ak rfl rfl ?_
    obtain rfl:=f0 (hdep ⟨0,.data⟩ (by simp) rfl)
    obtain rfl:=f1 (hdep ⟨1,.data⟩ (by simp) rfl)
    obtain rfl:=f2 (hdep ⟨2,.data⟩ (by simp) rfl)
    obtain rfl:=f3 (hdep ⟨3,.data⟩ (by simp) rfl)
    obtain rfl:=f4 (hdep ⟨4,.data⟩ (by simp) rfl)
    obtain rfl:=f5 (hdep ⟨5,.data⟩ (by simp) rfl)
    obtain rfl:=f6 (hdep ⟨6,.data⟩ (by simp) rfl)
    refine Oper.wp_mono (K:=fun a2 w2=>a2=⟨#[.agg #[.int .u8 k,.string ⟨t.toArray⟩,.slice ka ks.length kc,.slice da ds.length dc,.int .i64 l],.pointer (some ⟨H,0,none⟩),.pointer (some ⟨H+1,0,none⟩),.pointer (some ⟨H+1+1,0,none⟩),.pointer (some ⟨H+1+1+1,0,none⟩),.pointer (some ⟨H+1+1+1+1,0,none⟩),.pointer (some ⟨H+1+1+1+1+1,0,none⟩),.pointer (some ⟨H+1+1+1+1+1+1,0,none⟩),.pointer (some ⟨H+1+1+1+1+1+1+1,0,none⟩),.pointer (some ⟨H+1+1+1+1+1+1+1+1,0,none⟩),.pointer (some ⟨H+1+1+1+1+1+1+1+1+1,0,none⟩),.pointer (some ⟨fb,0,none⟩),vM,(vR 0),(vR 1),(vR 2),(vR 3),(vR 4),(vR 5),(vR 6),vV,vS,vK,vN,vE,(.string ⟨s.name.toArray⟩),(.string ⟨s.action.toArray⟩),(.string ⟨s.undo.toArray⟩),(.slice a3 s.after.length c3),(.agg #[.int .i64 s.tries.most,.int .i64 s.tries.first,.int .i64 s.tries.factor]),(.int .i64 s.limit),(.agg #[.int .u8 k6,.string ⟨t6.toArray⟩,.slice ka6 ks6.length kc6,.slice da6 ds6.length dc6,.int .i64 l6]),(.agg #[.string ⟨s.name.toArray⟩,.string ⟨s.action.toArray⟩,.string ⟨s.undo.toArray⟩,.slice a3 s.after.length c3,.int .i64 s.tries.most,.int .i64 s.tries.first,.int .i64 s.tries.factor,.int .i64 s.limit,.int .u8 k6,.string ⟨t6.toArray⟩,.slice ka6 ks6.length kc6,.slice da6 ds6.length dc6,.int .i64 l6]),v33],[]⟩∧w2=w1) (fun a2 w2 he=>?_) (wp_build 86 _ rfl (by kernel_rfl) ⟨by kernel_rfl,rfl⟩)
    obtain ⟨rfl,rfl⟩:=he
    exact ⟨_,_,_,_,_,_,_,_,v33,rfl,by simp [hL],(fun _=>rfl),(fun _=>rfl),(fun _=>rfl),(fun _=>rfl),(fun _=>rfl),(fun _=>rfl),(fun _=>rfl),(fun _=>rfl),(fun h=>f8 (Ac (by omega) h)),hB,(fun h=>n9 (by rwa [Ae (by omega)] at h)),(fun h=>y9 (Ac (by omega) h)),(fun h=>n10 (by rwa [Ae (by omega)] at h)),(fun h=>y10 (Ac (by omega) h))⟩
   | 8,ho=>
    cases ho
    refine Ak rfl rfl ?_
    have z0:=Af ((hB.same fb (by omega) (by omega)).trans e3)
    refine Oper.wp_mono (K:=fun a2 w2=>a2=⟨#[.agg #[.int .u8 k,.string ⟨t.toArray⟩,.slice ka ks.length kc,.slice da ds.length dc,.int .i64 l],.pointer (some ⟨H,0,none⟩),.pointer (some ⟨H+1,0,none⟩),.pointer (some ⟨H+1+1,0,none⟩),.pointer (some ⟨H+1+1+1,0,none⟩),.pointer (some ⟨H+1+1+1+1,0,none⟩),.pointer (some ⟨H+1+1+1+1+1,0,none⟩),.pointer (some ⟨H+1+1+1+1+1+1,0,none⟩),.pointer (some ⟨H+1+1+1+1+1+1+1,0,none⟩),.pointer (some ⟨H+1+1+1+1+1+1+1+1,0,none⟩),.pointer (some ⟨H+1+1+1+1+1+1+1+1+1,0,none⟩),.pointer (some ⟨fb,0,none⟩),vM,(vR 0),(vR 1),(vR 2),(vR 3),(vR 4),(vR 5),(vR 6),vV,vS,vK,vN,vE,v25,v26,v27,v28,v29,v30,v31,v32,(.agg #[.int .i64 e,.int .i64 l'])],[]⟩∧w2=w1) (fun a2 w2 he=>?_) (by simp [Oper.wp,go_sem,z0])
    obtain ⟨rfl,rfl⟩:=he
    exact ⟨v25,v26,v27,v28,v29,v30,v31,v32,_,rfl,by simp [hL],(fun h=>f0 (Ac (by omega) h)),(fun h=>f1 (Ac (by omega) h)),(fun h=>f2 (Ac (by omega) h)),(fun h=>f3 (Ac (by omega) h)),(fun h=>f4 (Ac (by omega) h)),(fun h=>f5 (Ac (by omega) h)),(fun h=>f6 (Ac (by omega) h)),(fun h=>f7 (Ac (by omega) h)),(fun _=>rfl),hB,(fun h=>n9 (by rwa [Ae (by omega)] at h)),(fun h=>y9 (Ac (by omega) h)),(fun h=>n10 (by rwa [Ae (by omega)] at h)),(fun h=>y10 (Ac (by omega) h))⟩
   | 9,ho=>
    cases ho
    refine Ak rfl rfl ?_
    obtain rfl:=f7 (hdep ⟨7,.data⟩ (by simp) rfl)
    refine Oper.wp_mono (K:=fun a2 w2=>a2=⟨#[.agg #[.int .u8 k,.string ⟨t.toArray⟩,.slice ka ks.length kc,.slice da ds.length dc,.int .i64 l],.pointer (some ⟨H,0,none⟩),.pointer (some ⟨H+1,0,none⟩),.pointer (some ⟨H+1+1,0,none⟩),.pointer (some ⟨H+1+1+1,0,none⟩),.pointer (some ⟨H+1+1+1+1,0,none⟩),.pointer (some ⟨H+1+1+1+1+1,0,none⟩),.pointer (some ⟨H+1+1+1+1+1+1,0,none⟩),.pointer (some ⟨H+1+1+1+1+1+1+1,0,none⟩),.pointer (some ⟨H+1+1+1+1+1+1+1+1,0,none⟩),.pointer (some ⟨H+1+1+1+1+1+1+1+1+1,0,none⟩),.pointer (some ⟨fb,0,none⟩),vM,(vR 0),(vR 1),(vR 2),(vR 3),(vR 4),(vR 5),(vR 6),vV,vS,vK,vN,vE,v25,v26,v27,v28,v29,v30,v31,(.agg #[.string ⟨s.name.toArray⟩,.string ⟨s.action.toArray⟩,.string ⟨s.undo.toArray⟩,.slice a3 s.after.length c3,.int .i64 s.tries.most,.int .i64 s.tries.first,.int .i64 s.tries.factor,.int .i64 s.limit,.int .u8 k6,.string ⟨t6.toArray⟩,.slice ka6 ks6.length kc6,.slice da6 ds6.length dc6,.int .i64 l6]),v33],[]⟩∧w2=w1.setRow (H+1) #[.string ⟨s.name.toArray⟩,.string ⟨s.action.toArray⟩,.string ⟨s.undo.toArray⟩,.slice a3 s.after.length c3,.int .i64 s.tries.most,.int .i64 s.tries.first,.int .i64 s.tries.factor,.int .i64 s.limit,.int .u8 k6,.string ⟨t6.toArray⟩,.slice ka6 ks6.length kc6,.slice da6 ds6.length dc6,.int .i64 l6]) (fun a2 w2 he=>?_) (wp_store_row 86 _ _ rfl (H+1) #[.string ⟨s.name.toArray⟩,.string ⟨s.action.toArray⟩,.string ⟨s.undo.toArray⟩,.slice a3 s.after.length c3,.int .i64 s.tries.most,.int .i64 s.tries.first,.int .i64 s.tries.factor,.int .i64 s.limit,.int .u8 k6,.string ⟨t6.toArray⟩,.slice ka6 ks6.length kc6,.slice da6 ds6.length dc6,.int .i64 l6] rfl rfl 86 #[.string ⟨#[]⟩,.string ⟨#[]⟩,.string ⟨#[]⟩,.slice none 0 0,.int .i64 0,.int .i64 0,.int .i64 0,.int .i64 0,.int .u8 0,.string ⟨#[]⟩,.slice none 0 0,.slice none 0 0,.int .i64 0] (n9 (A4 hi).2) (by kernel_rfl) rfl (by simp [Value.oneCell']) ⟨rfl,rfl⟩)
    obtain ⟨rfl,rfl⟩:=he
    exact ⟨v25,v26,v27,v28,v29,v30,v31,_,v33,rfl,by simp [hL],(fun h=>f0 (Ac (by omega) h)),(fun h=>f1 (Ac (by omega) h)),(fun h=>f2 (Ac (by omega) h)),(fun h=>f3 (Ac (by omega) h)),(fun h=>f4 (Ac (by omega) h)),(fun h=>f5 (Ac (by omega) h)),(fun h=>f6 (Ac (by omega) h)),(fun h=>f7 (Ac (by omega) h)),(fun h=>f8 (Ac (by omega) h)),hB.step (by simp [World.setRow]) (fun g h1 h2=>Br h1) rfl rfl rfl,(fun h=>by (rw [Bm hi] at h;cases h)),(fun _=>setRow_heap _ _ _ _ _ _ (n9 (A4 hi).2)),(fun h=>(Br (by omega)).trans (n10 (by rwa [Ae (by omega)] at h))),(fun h=>(Br (by omega)).trans (y10 (Ac (by omega) h)))⟩
   | 10,ho=>
    cases ho
    refine Ak rfl rfl ?_
    obtain rfl:=f8 (hdep ⟨8,.data⟩ (by simp) rfl)
    refine Oper.wp_mono (K:=fun a2 w2=>a2=⟨#[.agg #[.int .u8 k,.string ⟨t.toArray⟩,.slice ka ks.length kc,.slice da ds.length dc,.int .i64 l],.pointer (some ⟨H,0,none⟩),.pointer (some ⟨H+1,0,none⟩),.pointer (some ⟨H+1+1,0,none⟩),.pointer (some ⟨H+1+1+1,0,none⟩),.pointer (some ⟨H+1+1+1+1,0,none⟩),.pointer (some ⟨H+1+1+1+1+1,0,none⟩),.pointer (some ⟨H+1+1+1+1+1+1,0,none⟩),.pointer (some ⟨H+1+1+1+1+1+1+1,0,none⟩),.pointer (some ⟨H+1+1+1+1+1+1+1+1,0,none⟩),.pointer (some ⟨H+1+1+1+1+1+1+1+1+1,0,none⟩),.pointer (some ⟨fb,0,none⟩),vM,(vR 0),(vR 1),(vR 2),(vR 3),(vR 4),(vR 5),(vR 6),vV,vS,vK,vN,vE,v25,v26,v27,v28,v29,v30,v31,v32,(.agg #[.int .i64 e,.int .i64 l'])],[]⟩∧w2=w1.setRow (H+1+1) #[.int .i64 e,.int .i64 l']) (fun a2 w2 he=>?_) (wp_store_row 29 _ _ rfl (H+1+1) #[.int .i64 e,.int .i64 l'] rfl rfl 29 #[.int .i64 0,.int .i64 0] (n10 (A4 hi).2) (by kernel_rfl) rfl (by simp [Value.oneCell']) ⟨rfl,rfl⟩)
    obtain ⟨rfl,rfl⟩:=he
    exact ⟨v25,v26,v27,v28,v29,v30,v31,v32,_,rfl,by simp [hL],(fun h=>f0 (Ac (by omega) h)),(fun h=>f1 (Ac (by omega) h)),(fun h=>f2 (Ac (by omega) h)),(fun h=>f3 (Ac (by omega) h)),(fun h=>f4 (Ac (by omega) h)),(fun h=>f5 (Ac (by omega) h)),(fun h=>f6 (Ac (by omega) h)),(fun h=>f7 (Ac (by omega) h)),(fun h=>f8 (Ac (by omega) h)),hB.step (by simp [World.setRow]) (fun g h1 h2=>Br h2) rfl rfl rfl,(fun h=>(Br (by omega)).trans (n9 (by rwa [Ae (by omega)] at h))),(fun h=>(Br (by omega)).trans (y9 (Ac (by omega) h))),(fun h=>by (rw [Bm hi] at h;cases h)),(fun _=>setRow_heap _ _ _ _ _ _ (n10 (A4 hi).2))⟩
   | n+11,ho=>exact absurd ho (by simp)
  ·rintro L a' X ⟨v25,v26,v27,v28,v29,v30,v31,v32,v33,rfl,hL,f0,f1,f2,f3,f4,f5,f6,f7,f8,hB,n9,y9,n10,y10⟩ hall
   have hall':∀ i,i<11→L.getD i false=true:=fun i hi=>by
    have:=hall i
    have hi':i<L.size:=by omega
    simp only [Array.getD,hi',dif_pos] at this ⊢
    exact this
   have HY9:=Ab (y9 (hall' 9 (by omega)))
   have HY10:=Ab (y10 (hall' 10 (by omega)))
   have hz:=hB.size
   have HXX:=Ab (show Below H w X from ⟨hB.os.trans hBV.os,hB.tape.trans hBV.tape,hB.output.trans hBV.output,Nat.le_trans hBV.size hB.size,fun g hg=>(hB.same g (by omega) (by omega)).trans (hBV.block g hg)⟩)
   have HB7:=Ab hB
   clear f0 f1 f2 f3 f4 f5 f6 f7 f8 n9 y9 n10 y10 hall hall' hB
   go_wp2
   refine bodyPost_ret (Al rfl _ _ _ (H+1) (H+1+1) _ _ rfl (Cc (Aa HY9)) rfl (Ai (Aa HY10))) rfl ⟨by rw [hH];exact Aa HXX,⟨s.name,s.action,s.undo,a3,c3,s.after,s.tries.most,s.tries.first,s.tries.factor,s.limit,.mk k6 t6 ka6 kc6 ks6 da6 dc6 ds6 l6⟩,e,l',rfl,?_,?_,?_⟩
   ·obtain ⟨e1,e2,e3',e4⟩:=Hb g3s
    have hS:=(Aa HB7).same
    refine ⟨e1.keep (fun g hn hg=>(Aa HB7).same g (by have:=e4 g hn hg;omega) (by have:=e4 g hn hg;omega)),e2,e3',hin6.keep (fun g hg=>(Aa HB7).same g (by have:=(hbl6 g hg).1;omega) (by have:=(hbl6 g hg).1;omega))⟩
   ·obtain ⟨e1,e2,e3',e4⟩:=Hb g3s
    rintro g (⟨hn,hg⟩ | hg)
    ·have:=e4 g hn hg;omega
    ·have:=(hbl6 g hg).1;omega
   ·rcases hr with ⟨h1,h2,h3⟩ | ⟨h1,h2⟩
    ·refine .inl ⟨?_,h2,h3⟩
     rw [h1]
     show Except.ok s=Except.ok _
     unfold Bc.bare
     dsimp only
     rw [hbr]
    ·exact .inr ⟨h1,h2⟩
end Go.Proofs.YtnjokdbblmlhhaaGreatDoor
