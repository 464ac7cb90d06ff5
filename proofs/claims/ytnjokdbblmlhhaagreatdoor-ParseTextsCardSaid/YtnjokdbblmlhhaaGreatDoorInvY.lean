/- Lemmas of this claim. -/
import Derived.Test.YtnjokdbblmlhhaaGreatDoorW22aY
set_option linter.unusedVariables false
set_option linter.unusedSimpArgs false
namespace Go.Proofs.YtnjokdbblmlhhaaGreatDoor
set_option maxHeartbeats 16000000
set_option maxRecDepth 100000
open Go.RowKit
namespace P20
mutual
theorem T.check_cut:∀(d:T) (lv k:Nat),d.check lv=0→18≤lv+k→d.cut k=d
 | .mk k0 t ks ds l,lv,k,h,hk=>by
  have h1:lv≤16∧checkL (lv+1) ds=0:=by
   unfold T.check at h;by_cases hn:nodeE lv (.mk k0 t ks ds l)=0
   ·rw[if_neg (by simpa using hn)]at h;refine⟨?_,h⟩;simp only[nodeE]at hn;split at hn
    ·exact absurd hn (by decide)
    ·omega
   ·rw[if_pos hn]at h;exact absurd h hn
  unfold T.cut;rw[if_pos (by omega),It ds (lv+1) (k-1) h1.2 (by omega)]
theorem It:∀(ds:List T) (lv k:Nat),checkL lv ds=0→18≤lv+k→cutL k ds=ds
 | [],lv,k,h,hk=>rfl
 |d::ds,lv,k,h,hk=>by
  unfold checkL at h;by_cases hd:d.check lv=0
  ·rw[if_neg (by simpa using hd)]at h;unfold cutL;rw[T.check_cut d lv k hd hk,It ds lv k h hk]
  ·rw[if_pos hd]at h;exact absurd h hd
end
end P20
def Vk(w:World)(D:Nat)(d:P20.T)(e:Ending)(w':World):Prop:=
 w.grownBy w' (some D)∧(∃(k:Nat) (t:List UInt8) (ka:Option Addr) (kc:Nat) (ks:List (List UInt8)) (da:Option Addr) (dc:Nat) (ds:List Nd) (l:Int),(Nd.mk k t ka kc ks da dc ds l).bare=d.cut 18∧(Nd.mk k t ka kc ks da dc ds l).In w'∧(∀g,(Nd.mk k t ka kc ks da dc ds l).blk g→w.heap.size≤g)∧w'.heap[D]?=some (.cells #[.int .u8 k,.string ⟨t.toArray⟩,.slice ka ks.length kc,.slice da ds.length dc,.int .i64 l] 26)) ∧
 match P22.noteE d with
 | .ok _=>e=.returned (fV 0 0)
 | .error f=>e=.returned (fV f.1 f.2)
theorem Gp{w W:World}{D:Nat}(h:w.grownBy W (some D))(v0 G I v3 v4:Value):w.grownBy (((((W.setCell ⟨D,0,none⟩ v0).setCell ⟨D,1,none⟩ G).setCell ⟨D,2,none⟩ I).setCell ⟨D,3,none⟩ v3).setCell ⟨D,4,none⟩ v4) (some D):=by
 obtain⟨Q,o2,J,N⟩:=O2 W D v0 G I v3 v4 _ rfl;exact⟨Q.trans h.os,o2.trans h.tape,J.trans h.output,by rw[N];exact h.size,fun i hi hne=>(Az (by rintro rfl;exact hne rfl) _ _ _ _ _).trans (h.block i hi hne)⟩
theorem Qr(k:Nat)(t:List UInt8)(ka:Option Addr)(kc:Nat)(ks:List (List UInt8))(da:Option Addr)(dc:Nat)(ds:List Nd)(l:Int)(c1 Y:Nat)(z0 z1 z2 z3 z4:Value)(w:World)(bX:(Nd.mk k t ka kc ks da dc ds l).In w)(bN:E6 (Nd.mk k t ka kc ks da dc ds l).bare)(bR:¬(Nd.mk k t ka kc ks da dc ds l).blk Y)
  (h1:w.heap[c1]?=some (.cells #[.pointer (some ⟨Y,0,none⟩)] 146)) (hb:w.heap[Y]?=some (.cells #[z0,z1,z2,z3,z4] 26)) :
  Calls Tryz.prog 128 #[.agg #[.int .u8 k,.string ⟨t.toArray⟩,.slice ka ks.length kc,.slice da ds.length dc,.int .i64 l],.pointer (some ⟨c1,0,none⟩)] w (Vk w Y (Nd.mk k t ka kc ks da dc ds l).bare):=by
 obtain⟨H,hH⟩:∃H,w.heap.size=H:=⟨_,rfl⟩;obtain⟨W0,cA,aU,g0,g1,cM⟩:=A0 w (.cells #[.int .u8 k,.string ⟨t.toArray⟩,.slice ka ks.length kc,.slice da ds.length dc,.int .i64 l] 26) (.cells #[.int .i64 0,.int .i64 0] 29) H hH;have x0:=Ad g0;have y0:=Af g1;have p1:=(aU.block c1 (by have:=(qA.1 h1).1;omega)).trans h1;have p3:=(aU.block Y (by have:=(qA.1 hb).1;omega)).trans hb;have cQ:c1≠Y:=by rintro rfl;rw[h1]at hb;simp at hb
 have cN:Y<H:=by have:=(qA.1 hb).1;omega
 have cP:c1<H:=by have:=(qA.1 h1).1;omega
 have u1:=Aq p1;have u3:=Ad p3;have bI:=bX.below (by rw[hH];exact aU);have bY:=fun g (hg:(Nd.mk k t ka kc ks da dc ds l).blk g)=>bX.lt hg;rw[hH]at bY;have bQ:=Mz (Nd.mk k t ka kc ks da dc ds l) W0.drew bI.drew bN;have bK:=fun W (hi:(Nd.mk k t ka kc ks da dc ds l).In W)=>Lv (Nd.mk k t ka kc ks da dc ds l) W hi bN;have aW:=fun W (hi:(Nd.mk k t ka kc ks da dc ds l).In W)=>Qo (Nd.mk k t ka kc ks da dc ds l) W hi;simp only[Sr]at aW;obtain⟨T,hT⟩:∃T,(Nd.mk k t ka kc ks da dc ds l).bare=T:=⟨_,rfl⟩;simp only[hT,Nd.val_eq]at bQ bK aW ⊢;obtain⟨e,he⟩:∃e,T.check 1=e:=⟨_,rfl⟩;obtain⟨dd,bP⟩:∃dd,(T.size 18).1=dd:=⟨_,rfl⟩;simp only[he]at bK;simp only[bP]at aW;have cG:T.line=l:=by rw[←hT];simp only[Nd.bare,P20.T.line]
 have bU:=Ab cA;have bS:=Ab (show w.grownBy W0 (some Y) from Aj (aU.mono (by omega)) _);have aT:=Ab g0;have bM:=Ab g1;have bZ:=Ab p1;have aS:=Ab p3;have bT:=Ab bQ;have bV:=Ab bK;have cI:=Ab aW;have bO:=Ab bI;have HE:=Ab he;have cE:=Ab bP;have cC:=Ab cG;have cL:=Ab bY;have cO:=Dl;have S0:=Vd (W:=W0) x0 u1;clear cA aU g0 g1 h1 hb p1 p3 bQ bK aW bX bI he bP hT cG bY bN;by_cases hz:e=0
 ·subst hz;by_cases aR:13<dd
  ·obtain⟨e',l',aN,aL⟩:=Ct k t ka kc ks da dc ds l 11;have bD:=Ab aN;have aK:=aL.resolve_left (fun h=>by exact absurd h.1 (by decide));obtain⟨_,q1,q2⟩:=aK;have q1:=q1.symm;have q2:=q2.symm;subst q1;subst q2;have cK:(13:Int)<(dd:Int):=by omega
   have HZ:=Ab aR;clear aN aL aR;go_enter Tryz.func128,Tryz.ntmps128
   go_upto_region 1 with fail
   try rw[hH]
   rw[Aa bU];go_region_with_o (go_at_call 23;refine(Aa bT).mono ?_;rintro x2 w2 ⟨k2,t2,I,Q,N,R,S,J,l2,rfl,aC,D⟩;have D:Below W0.heap.size W0 w2:=⟨D.os,D.tape,D.output,D.size,D.block⟩;have bC:=Ad ((D.block H (by omega)).trans (Aa aT));have aX:=Aq ((D.block c1 (by omega)).trans (Aa bZ));have bA:=Ad ((D.block Y (by omega)).trans (Aa aS));have U:=Ab D;clear D)
   all_goals
    obtain⟨W1,G⟩:∃W1,(((((w2.setCell ⟨Y,0,none⟩ (.int .u8 k2)).setCell ⟨Y,1,none⟩ (.string ⟨t2.toArray⟩)).setCell ⟨Y,2,none⟩ (.slice I N.length Q)).setCell ⟨Y,3,none⟩ (.slice R J.length S)).setCell ⟨Y,4,none⟩ (.int .i64 l2))=W1:=⟨_,rfl⟩;have cB:=(Aa U).size;have n0:=(show W1.heap[H]?=w2.heap[H]? by rw[←G];exact Az (by omega) _ _ _ _ _).trans (((Aa U).block H (by omega)).trans (Aa aT));have n1:=(show W1.heap[H+1]?=w2.heap[H+1]? by rw[←G];exact Az (by omega) _ _ _ _ _).trans (((Aa U).block (H+1) (by omega)).trans (Aa bM));have n2:W1.heap[Y]?=some (.cells #[.int .u8 k2,.string ⟨t2.toArray⟩,.slice I N.length Q,.slice R J.length S,.int .i64 l2] 26):=by rw[←G];exact B9 (((Aa U).block Y (by omega)).trans (Aa aS)) _ _ _ _ _
    have cH:W1.heap.size=w2.heap.size:=by rw[←G];simp
    have aO:w.grownBy W1 (some Y):=by rw[←G];exact Gp (Ah (Aa bS) (Aj (Aa U) _)) _ _ _ _ _
    have X:=(Aa aC).2.2;have aD:(Nd.mk k2 t2 I Q N R S J l2).In W1:=by rw[←G];exact(Aa aC).2.1.keep (fun g hg=>Az (by have:=X g hg;simp only[World.drew]at this;omega) _ _ _ _ _)
    have aM:(Nd.mk k t ka kc ks da dc ds l).In W1:=by rw[←G];exact((Aa bO).below (Aa U)).keep (fun g hg=>Az (by rintro rfl;exact bR hg) _ _ _ _ _)
    have Z:∀g,(Nd.mk k2 t2 I Q N R S J l2).blk g→H+1+1≤g:=fun g hg=>by have:=X g hg;simp only[World.drew]at this;omega
    have aJ:=Ab aM;have aQ:=Ab n0;have bG:=Ab n1;have bE:=Ab n2;have aY:=Ab aO;have aB:=Ab (show (Nd.mk k2 t2 I Q N R S J l2).bare=T.cut 18∧(Nd.mk k2 t2 I Q N R S J l2).In W1∧(∀g,(Nd.mk k2 t2 I Q N R S J l2).blk g→H+1+1≤g) from ⟨(Aa aC).1,aD,Z⟩);have cD:=Ad n0;try rw[G]
    clear G bC aX bA n0 n1 n2 aO X aD Z aM U aC
   all_goals go_wp2_with (first
    |(go_at_call 16;refine(Aa bV W1 (Aa aJ)).mono ?_;rintro x3 w3 ⟨rfl,aA⟩;have bL:=Ab ((Aa aJ).below aA);have q0:=Ad ((aA.block H (by omega)).trans (Aa aQ));have aH:=Ab aA;have bB:=aA.size;clear aA)
    |(go_at_call 21;refine(Aa cI w3 (Aa bL)).mono ?_;rintro x4 w4 ⟨rfl,aI⟩;have cJ:=Ad ((aI.block H (by omega)).trans (((Aa aH).block H (by omega)).trans (Aa aQ)));have bJ:=Ab aI;have bW:=aI.size;clear aI)
    | (go_at_call 91;refine(Aa bD w4).mono ?_;rintro x5 w5 ⟨rfl,aG⟩;have t1:=(aG.block (H+1) (by omega)).trans ((Aa bJ).block (H+1) (by omega) |>.trans ((Aa aH).block (H+1) (by omega) |>.trans (Aa bG)));have cF:=Af t1;have bH:=Ab t1;have bF:=Ab aG;clear t1 aG))
   all_goals
    have aE:Below W1.heap.size W1 w5:=(Aa aH).trans (((Aa bJ).trans ((Aa bF).mono bW)).mono bB);have hk:=(Aa aB).2.1.below aE;have hq:=(aE.block Y (by omega)).trans (Aa bE);have aZ:=(Ar (W:=w5) (g:=H+1) (g':=Y) (by omega) (.int .i64 11) (.int .i64 l)).trans hq;refine qW (Av rfl _ _ _ (H+1) _ rfl (Ai (A3 (Aa bH) _ _))) rfl ⟨B4 (Ah (Aa aY) (Aj aE _)) (by omega) _ _,⟨k2,t2,I,Q,N,R,S,J,l2,(Aa aB).1,hk.keep (fun g hg=>Ar (by have:=(Aa aB).2.2 g hg;omega) _ _),fun g hg=>by have:=(Aa aB).2.2 g hg;omega,aZ⟩,?_⟩;unfold P22.noteE;rw[Aa HE,if_neg (by simp),Aa cE,if_pos (Aa HZ)];simp only;rw[Aa cC]
  ·obtain⟨e',l',aN,aL⟩:=Ct k t ka kc ks da dc ds l 0;have bD:=Ab aN;have aK:=aL.resolve_right (fun h=>h.1 rfl);obtain⟨_,q1,q2⟩:=aK;subst q1;subst q2;have cK:(dd:Int)≤13:=by omega
   have HZ:=Ab aR;clear aN aL aR;go_enter Tryz.func128,Tryz.ntmps128
   go_upto_region 1 with fail
   try rw[hH]
   rw[Aa bU];go_region_with_o (go_at_call 23;refine(Aa bT).mono ?_;rintro x2 w2 ⟨k2,t2,I,Q,N,R,S,J,l2,rfl,aC,D⟩;have D:Below W0.heap.size W0 w2:=⟨D.os,D.tape,D.output,D.size,D.block⟩;have bC:=Ad ((D.block H (by omega)).trans (Aa aT));have aX:=Aq ((D.block c1 (by omega)).trans (Aa bZ));have bA:=Ad ((D.block Y (by omega)).trans (Aa aS));have U:=Ab D;clear D)
   all_goals
    obtain⟨W1,G⟩:∃W1,(((((w2.setCell ⟨Y,0,none⟩ (.int .u8 k2)).setCell ⟨Y,1,none⟩ (.string ⟨t2.toArray⟩)).setCell ⟨Y,2,none⟩ (.slice I N.length Q)).setCell ⟨Y,3,none⟩ (.slice R J.length S)).setCell ⟨Y,4,none⟩ (.int .i64 l2))=W1:=⟨_,rfl⟩;have cB:=(Aa U).size;have n0:=(show W1.heap[H]?=w2.heap[H]? by rw[←G];exact Az (by omega) _ _ _ _ _).trans (((Aa U).block H (by omega)).trans (Aa aT));have n1:=(show W1.heap[H+1]?=w2.heap[H+1]? by rw[←G];exact Az (by omega) _ _ _ _ _).trans (((Aa U).block (H+1) (by omega)).trans (Aa bM));have n2:W1.heap[Y]?=some (.cells #[.int .u8 k2,.string ⟨t2.toArray⟩,.slice I N.length Q,.slice R J.length S,.int .i64 l2] 26):=by rw[←G];exact B9 (((Aa U).block Y (by omega)).trans (Aa aS)) _ _ _ _ _
    have cH:W1.heap.size=w2.heap.size:=by rw[←G];simp
    have aO:w.grownBy W1 (some Y):=by rw[←G];exact Gp (Ah (Aa bS) (Aj (Aa U) _)) _ _ _ _ _
    have X:=(Aa aC).2.2;have aD:(Nd.mk k2 t2 I Q N R S J l2).In W1:=by rw[←G];exact(Aa aC).2.1.keep (fun g hg=>Az (by have:=X g hg;simp only[World.drew]at this;omega) _ _ _ _ _)
    have aM:(Nd.mk k t ka kc ks da dc ds l).In W1:=by rw[←G];exact((Aa bO).below (Aa U)).keep (fun g hg=>Az (by rintro rfl;exact bR hg) _ _ _ _ _)
    have Z:∀g,(Nd.mk k2 t2 I Q N R S J l2).blk g→H+1+1≤g:=fun g hg=>by have:=X g hg;simp only[World.drew]at this;omega
    have aJ:=Ab aM;have aQ:=Ab n0;have bG:=Ab n1;have bE:=Ab n2;have aY:=Ab aO;have aB:=Ab (show (Nd.mk k2 t2 I Q N R S J l2).bare=T.cut 18∧(Nd.mk k2 t2 I Q N R S J l2).In W1∧(∀g,(Nd.mk k2 t2 I Q N R S J l2).blk g→H+1+1≤g) from ⟨(Aa aC).1,aD,Z⟩);have cD:=Ad n0;try rw[G]
    clear G bC aX bA n0 n1 n2 aO X aD Z aM U aC
   all_goals go_wp2_with (first
    |(go_at_call 16;refine(Aa bV W1 (Aa aJ)).mono ?_;rintro x3 w3 ⟨rfl,aA⟩;have bL:=Ab ((Aa aJ).below aA);have q0:=Ad ((aA.block H (by omega)).trans (Aa aQ));have aH:=Ab aA;have bB:=aA.size;clear aA)
    |(go_at_call 21;refine(Aa cI w3 (Aa bL)).mono ?_;rintro x4 w4 ⟨rfl,aI⟩;have cJ:=Ad ((aI.block H (by omega)).trans (((Aa aH).block H (by omega)).trans (Aa aQ)));have bJ:=Ab aI;have bW:=aI.size;clear aI)
    | (go_at_call 91;refine(Aa bD w4).mono ?_;rintro x5 w5 ⟨rfl,aG⟩;have t1:=(aG.block (H+1) (by omega)).trans ((Aa bJ).block (H+1) (by omega) |>.trans ((Aa aH).block (H+1) (by omega) |>.trans (Aa bG)));have cF:=Af t1;have bH:=Ab t1;have bF:=Ab aG;clear t1 aG))
   all_goals
    have aE:Below W1.heap.size W1 w5:=(Aa aH).trans (((Aa bJ).trans ((Aa bF).mono bW)).mono bB);have hk:=(Aa aB).2.1.below aE;have hq:=(aE.block Y (by omega)).trans (Aa bE);have aZ:=(Ar (W:=w5) (g:=H+1) (g':=Y) (by omega) (.int .i64 0) (.int .i64 0)).trans hq;refine qW (Av rfl _ _ _ (H+1) _ rfl (Ai (A3 (Aa bH) _ _))) rfl ⟨B4 (Ah (Aa aY) (Aj aE _)) (by omega) _ _,⟨k2,t2,I,Q,N,R,S,J,l2,(Aa aB).1,hk.keep (fun g hg=>Ar (by have:=(Aa aB).2.2 g hg;omega) _ _),fun g hg=>by have:=(Aa aB).2.2 g hg;omega,aZ⟩,?_⟩;unfold P22.noteE;rw[Aa HE,if_neg (by simp),Aa cE,if_neg (Aa HZ)]
 ·have jz:(e==0)=false:=by rw[beq_eq_false_iff_ne];exact hz
  obtain⟨e',l',aN,aL⟩:=Ct k t ka kc ks da dc ds l e;have bD:=Ab aN;have aK:=aL.resolve_left (fun h=>hz h.1);obtain⟨_,q1,q2⟩:=aK;have q1:=q1.symm;have q2:=q2.symm;subst q1;subst q2;have HZ:=Ab hz;clear aN aL hz;go_enter Tryz.func128,Tryz.ntmps128
  go_upto_region 1 with fail
  try rw[hH]
  rw[Aa bU];go_region_with_o (go_at_call 23;refine(Aa bT).mono ?_;rintro x2 w2 ⟨k2,t2,I,Q,N,R,S,J,l2,rfl,aC,D⟩;have D:Below W0.heap.size W0 w2:=⟨D.os,D.tape,D.output,D.size,D.block⟩;have bC:=Ad ((D.block H (by omega)).trans (Aa aT));have aX:=Aq ((D.block c1 (by omega)).trans (Aa bZ));have bA:=Ad ((D.block Y (by omega)).trans (Aa aS));have U:=Ab D;clear D)
  all_goals
   obtain⟨W1,G⟩:∃W1,(((((w2.setCell ⟨Y,0,none⟩ (.int .u8 k2)).setCell ⟨Y,1,none⟩ (.string ⟨t2.toArray⟩)).setCell ⟨Y,2,none⟩ (.slice I N.length Q)).setCell ⟨Y,3,none⟩ (.slice R J.length S)).setCell ⟨Y,4,none⟩ (.int .i64 l2))=W1:=⟨_,rfl⟩;have cB:=(Aa U).size;have n0:=(show W1.heap[H]?=w2.heap[H]? by rw[←G];exact Az (by omega) _ _ _ _ _).trans (((Aa U).block H (by omega)).trans (Aa aT));have n1:=(show W1.heap[H+1]?=w2.heap[H+1]? by rw[←G];exact Az (by omega) _ _ _ _ _).trans (((Aa U).block (H+1) (by omega)).trans (Aa bM));have n2:W1.heap[Y]?=some (.cells #[.int .u8 k2,.string ⟨t2.toArray⟩,.slice I N.length Q,.slice R J.length S,.int .i64 l2] 26):=by rw[←G];exact B9 (((Aa U).block Y (by omega)).trans (Aa aS)) _ _ _ _ _
   have cH:W1.heap.size=w2.heap.size:=by rw[←G];simp
   have aO:w.grownBy W1 (some Y):=by rw[←G];exact Gp (Ah (Aa bS) (Aj (Aa U) _)) _ _ _ _ _
   have X:=(Aa aC).2.2;have aD:(Nd.mk k2 t2 I Q N R S J l2).In W1:=by rw[←G];exact(Aa aC).2.1.keep (fun g hg=>Az (by have:=X g hg;simp only[World.drew]at this;omega) _ _ _ _ _)
   have aM:(Nd.mk k t ka kc ks da dc ds l).In W1:=by rw[←G];exact((Aa bO).below (Aa U)).keep (fun g hg=>Az (by rintro rfl;exact bR hg) _ _ _ _ _)
   have Z:∀g,(Nd.mk k2 t2 I Q N R S J l2).blk g→H+1+1≤g:=fun g hg=>by have:=X g hg;simp only[World.drew]at this;omega
   have aJ:=Ab aM;have aQ:=Ab n0;have bG:=Ab n1;have bE:=Ab n2;have aY:=Ab aO;have aB:=Ab (show (Nd.mk k2 t2 I Q N R S J l2).bare=T.cut 18∧(Nd.mk k2 t2 I Q N R S J l2).In W1∧(∀g,(Nd.mk k2 t2 I Q N R S J l2).blk g→H+1+1≤g) from ⟨(Aa aC).1,aD,Z⟩);have cD:=Ad n0;try rw[G]
   clear G bC aX bA n0 n1 n2 aO X aD Z aM U aC
  all_goals go_wp2_with (first
   |(go_at_call 16;refine(Aa bV W1 (Aa aJ)).mono ?_;rintro x3 w3 ⟨rfl,aA⟩;have bL:=Ab ((Aa aJ).below aA);have q0:=Ad ((aA.block H (by omega)).trans (Aa aQ));have aH:=Ab aA;have bB:=aA.size;clear aA)
   | (go_at_call 91;refine(Aa bD w3).mono ?_;rintro x5 w5 ⟨rfl,aG⟩;have t1:=(aG.block (H+1) (by omega)).trans ((Aa aH).block (H+1) (by omega) |>.trans (Aa bG));have cF:=Af t1;have bH:=Ab t1;have bF:=Ab aG;clear t1 aG))
  all_goals
   have aE:Below W1.heap.size W1 w5:=(Aa aH).trans ((Aa bF).mono bB);have hk:=(Aa aB).2.1.below aE;have hq:=(aE.block Y (by omega)).trans (Aa bE);have aZ:=(Ar (W:=w5) (g:=H+1) (g':=Y) (by omega) (.int .i64 e) (.int .i64 l)).trans hq;refine qW (Av rfl _ _ _ (H+1) _ rfl (Ai (A3 (Aa bH) _ _))) rfl ⟨B4 (Ah (Aa aY) (Aj aE _)) (by omega) _ _,⟨k2,t2,I,Q,N,R,S,J,l2,(Aa aB).1,hk.keep (fun g hg=>Ar (by have:=(Aa aB).2.2 g hg;omega) _ _),fun g hg=>by have:=(Aa aB).2.2 g hg;omega,aZ⟩,?_⟩;unfold P22.noteE;rw[Aa HE,if_pos (Aa HZ)];simp only;rw[Aa cC]
structure Dw (M:Nat→Prop) (W W':World):Prop where
 size:W.heap.size≤W'.heap.size
 same:∀g,g<W.heap.size→¬M g→W'.heap[g]?=W.heap[g]?
 os:W'.os=W.os
 tape:W'.tape=W.tape
 output:W'.output=W.output
theorem Dw.trans{M:Nat→Prop}{A B C:World}(h:Dw M A B)(k:Dw M B C):Dw M A C:=
 ⟨qK h.size k.size,fun g hl D=>(k.same g (zB hl h.size) D).trans (h.same g hl D),k.os.trans h.os,k.tape.trans h.tape,k.output.trans h.output⟩
theorem Dw.of_below{M:Nat→Prop}{W W':World}(h:Below W.heap.size W W'):Dw M W W':=⟨h.size,fun g hl _=>h.block g hl,h.os,h.tape,h.output⟩
theorem Dw.two{M:Nat→Prop}{W W':World}(h:Dw M W W'){g:Nat}(I:W.heap.size≤g)(v0 G:Value):Dw M W ((W'.setCell ⟨g,0,none⟩ v0).setCell ⟨g,1,none⟩ G):=
 ⟨by simpa using h.size,fun i hi D=>(Ar (by omega) _ _).trans (h.same i hi D),h.os,h.tape,h.output⟩
structure Gf {σ:Type} (Inv:σ→(Nat→Prop)→World→Prop):Prop where
 stays:∀s A W W',Inv s A W→W.heap.size≤W'.heap.size→(∀g,g<W.heap.size→¬A g→W'.heap[g]?=W.heap[g]?)→Inv s (fun g=>A g∨W.heap.size≤g) W'
 mono:∀s (A A':Nat→Prop) W,Inv s A W→(∀g,A' g→A g)→Inv s A' W
def Gm{σ:Type}(Inv:σ→(Nat→Prop)→World→Prop)(M A:Nat→Prop)(W:World)(o:Except P22.F σ)(e:Ending)(W':World):Prop:=
 Dw M W W'∧match o with
 | .ok s'=>e=.returned (fV 0 0)∧Inv s' (fun g=>A g∧g<W.heap.size) W'
 | .error x=>e=.returned (fV x.1 x.2)∧x.1≠0∧∃s',Inv s' (fun g=>A g∧g<W.heap.size) W'
def Uq{σ:Type}(Inv:σ→(Nat→Prop)→World→Prop)(M:Nat→Prop)(v:Value)(r:P22.Rd σ)(W:World):Prop:=
 ∃(f:Nat) (D:Array Value),v=.func (.func f) #[] D∧(∀args W,(callFunc f args).run Tryz.prog W=.ok (.enter f args) W)∧∀W',Dw M W W'→∀(nd:Nd) (s:σ) (A:Nat→Prop),nd.In W'→E6 nd.bare→(∀g,nd.blk g→¬M g)→Inv s A W' →
  Calls Tryz.prog f (#[nd.val]++D) W' (Gm Inv M A W' (r nd.bare s))
def N6{σ:Type}(Inv:σ→(Nat→Prop)→World→Prop)(M:Nat→Prop)(bm:Nat)(rd:List UInt8→Option (P22.Rd σ))(W:World):Prop:=
 ∀W',W'.heap[bm]?=W.heap[bm]?→∀k:List UInt8,∃v b,(Instr.lookup 95 (.map (some bm)) (.string ⟨k.toArray⟩) true).run Tryz.prog W'=.ok (.tuple #[v,.bool b]) W' ∧
  match rd k with
  |none=>b=false
  |some r=>b=true∧Uq Inv M v r W
structure LI {σ:Type} (Inv:σ→(Nat→Prop)→World→Prop) (M A:Nat→Prop) (W:World) (H:Nat) (cs:Array Value) (s:σ) (V:World):Prop where
 keep:Dw M W V
 inv:Inv s (fun g=>(A g∧g<H)∨g=H∨g=H+1) V
 b0:V.heap[H]?=some (.cells cs 26)
 b1:V.heap[H+1]?=some (.cells #[.int .i64 0,.int .i64 0] 29)
theorem LI.below{σ:Type}{Inv:σ→(Nat→Prop)→World→Prop}(N:Gf Inv){M A:Nat→Prop}{W:World}{H:Nat}{cs:Array Value}{s:σ}{V J:World}(h:LI Inv M A W H cs s V)(hb:Below V.heap.size V J):LI Inv M A W H cs s J:=by
 have I:=(qA.1 h.b0).1;have D:=(qA.1 h.b1).1;exact⟨h.keep.trans (.of_below hb),N.mono _ _ _ _ (N.stays _ _ _ _ h.inv hb.size (fun g G _=>hb.block g G)) (fun g G=>.inl G),(hb.block _ I).trans h.b0,(hb.block _ D).trans h.b1⟩
theorem LI.next{σ:Type}{Inv:σ→(Nat→Prop)→World→Prop}(R:Gf Inv){M A:Nat→Prop}{W:World}{H:Nat}{cs:Array Value}{s s':σ}{V D:World}(h:LI Inv M A W H cs s V)(S:W.heap.size=H)(N:∀g,M g→g<H)(hk:Dw M V D)(hi:Inv s' (fun g=>((A g∧g<H)∨g=H∨g=H+1)∧g<V.heap.size) D):LI Inv M A W H cs s' D:=by
 have I:=(qA.1 h.b0).1;have G:=(qA.1 h.b1).1;exact⟨h.keep.trans hk,R.mono _ _ _ _ hi (fun g Q=>⟨Q,by omega⟩),(hk.same _ I (fun J=>by have:=N _ J;omega)).trans h.b0,(hk.same _ G (fun J=>by have:=N _ J;omega)).trans h.b1⟩
theorem LI.done{σ:Type}{Inv:σ→(Nat→Prop)→World→Prop}(I:Gf Inv){M A:Nat→Prop}{W:World}{H:Nat}{cs:Array Value}{s:σ}{V:World}(h:LI Inv M A W H cs s V)(J:W.heap.size=H)(v0 D:Value) :
  Dw M W ((V.setCell ⟨H+1,0,none⟩ v0).setCell ⟨H+1,1,none⟩ D)∧Inv s (fun g=>A g∧g<W.heap.size) ((V.setCell ⟨H+1,0,none⟩ v0).setCell ⟨H+1,1,none⟩ D)∧(loadVar 29 ⟨H+1,0,none⟩).run Tryz.prog ((V.setCell ⟨H+1,0,none⟩ v0).setCell ⟨H+1,1,none⟩ D)=.ok (.agg #[v0,D]) ((V.setCell ⟨H+1,0,none⟩ v0).setCell ⟨H+1,1,none⟩ D):=by
 refine⟨h.keep.two (by omega) _ _,?_,Ai (A3 h.b1 _ _)⟩;have h1:=I.stays _ _ _ ((V.setCell ⟨H+1,0,none⟩ v0).setCell ⟨H+1,1,none⟩ D) h.inv (by simp) (fun g G N=>Ar (fun e=>N (.inr (.inr e))) _ _);exact I.mono _ _ _ _ h1 (fun g G=>.inl (.inl (by rw[←J];exact G)))
theorem Hu{σ:Type}(Inv:σ→(Nat→Prop)→World→Prop)(Z:Gf Inv)(M:Nat→Prop)(rd:List UInt8→Option (P22.Rd σ))(D:List (List UInt8))(p1 p2 bm:Nat)(sa:Option Addr)(sc:Nat)(k:Nat)(t:List UInt8)(ka:Option Addr)(kc:Nat)(ks:List (List UInt8))(da:Option Addr)(dc:Nat)(ds:List Nd)(l:Int)(s:σ)(A:Nat→Prop)(w:World)
  (bN:(Nd.mk k t ka kc ks da dc ds l).In w) (cX:E6 (Nd.mk k t ka kc ks da dc ds l).bare) (cR:∀g,(Nd.mk k t ka kc ks da dc ds l).blk g→¬M g) (hM:∀g,M g→g<w.heap.size) (h1:w.heap[p1]?=some (.cells #[.map (some bm)] 95)) (h2:w.heap[p2]?=some (.cells #[.slice sa D.length sc] 23)) (hs:Eu w sa D) (eU:D.length≤1000000)
  (dX:¬M p1) (dW:¬M p2) (eH:¬M bm) (eC:bm<w.heap.size) (dB:∀g,D≠[]→Bj sa g→¬M g) (bY:N6 Inv M bm rd w) (hi:Inv s A w) :
  Calls Tryz.prog 92 #[.agg #[.int .u8 k,.string ⟨t.toArray⟩,.slice ka ks.length kc,.slice da ds.length dc,.int .i64 l],.pointer (some ⟨p1,0,none⟩),.pointer (some ⟨p2,0,none⟩)] w (Gm Inv M A w (P22.keysE rd D (Nd.mk k t ka kc ks da dc ds l).bare s)):=by
 obtain⟨H,hH⟩:∃H,w.heap.size=H:=⟨_,rfl⟩;obtain⟨W0,cQ,aU,g0,g1,fC⟩:=A0 w (.cells #[.int .u8 k,.string ⟨t.toArray⟩,.slice ka ks.length kc,.slice da ds.length dc,.int .i64 l] 26) (.cells #[.int .i64 0,.int .i64 0] 29) H hH;have x0:=Ad g0;have y0:=Af g1;rw[hH]at hM eC;have dL:=bN.below (by rw[hH];exact aU)
 have dN:LI Inv M A w H #[.int .u8 k,.string ⟨t.toArray⟩,.slice ka ks.length kc,.slice da ds.length dc,.int .i64 l] s W0:=by
  refine⟨.of_below (by rw[hH];exact aU),?_,g0,g1⟩
  exact Z.mono _ _ _ _ (Z.stays _ _ _ _ hi aU.size (fun g hg _=>aU.block g (by omega))) (fun g hg=>by
   rcases hg with hg|hg|hg
   ·exact .inl hg.1
   ·exact .inr (by omega)
   ·exact .inr (by omega))
 have hf:=bN.fit;have dO:=fun e=>Ct k t ka kc ks da dc ds l e;have dF:=hf.keysL;have cV:=hf.kidsL;simp only[Nd.keys,Nd.kids]at dF cV
 have dA:P22.keysE rd D (Nd.mk k t ka kc ks da dc ds l).bare s=(if k≠3 then .error (7,l) else if ks.length≠(Am ds).length then .error (3,l) else match P22.keysGo rd ks (Am ds) s with | .error x=>.error x | .ok s'=>if ∀m∈D,m∈ks then .ok s' else .error (5,l)):=by
  simp only[Nd.bare];rfl
 rw[dA,Bs];have cJ:=Ab cQ;have cH:=Ab dN;have aI:=Ab bN;have eD:=Ab cX;have aY:=Ab cR;have cD:=Ab dO;have dD:=Ab bY;have HS:=Ab hs;have dR:=Ab dB;have dP:=Ab h1;have cO:=Ab h2;have fF:=Dl;clear cQ aU g0 g1 dN bN cX cR dO bY hs dB h1 h2 dL hf dA hi;by_cases hk:k=3
 rotate_left
 ·rw[if_pos hk];have jk:((k:Int) != 3)=true:=by simp;omega
  obtain⟨e',l',R,N⟩:=Aa cD 7;have J:=N.resolve_left (fun h=>absurd h.1 (by decide));obtain⟨_,q1,q2⟩:=J;have q1:=q1.symm;have q2:=q2.symm;subst q1;subst q2;have aM:=Ab R;clear hk R N;go_enter Tryz.func92,Tryz.ntmps92
  go_wp2;try rw[hH]
  rw[Aa cJ];go_step3;go_wp2_with (go_at_call 91;refine(Aa aM _).mono ?_;rintro x3 w3 ⟨rfl,S⟩;have G:=Ab ((Aa cH).below Z S);have cI:=Af (Aa G).b1;clear S)
  obtain⟨d1,d2,d3⟩:=(Aa G).done Z hH (.int .i64 7) (.int .i64 l);rw[Exit.noGoto_ret];exact qW (Av rfl _ _ _ (H+1) _ rfl d3) rfl ⟨d1,rfl,by simp,s,d2⟩
 rw[if_neg (by simpa using hk)];have jk:((k:Int) != 3)=false:=by simp;omega
 clear hk;by_cases hl:ks.length=ds.length
 rotate_left
 ·rw[if_pos hl];have jl:((ks.length:Int) != (ds.length:Int))=true:=by simp;omega
  obtain⟨e',l',R,N⟩:=Aa cD 3;have J:=N.resolve_left (fun h=>absurd h.1 (by decide));obtain⟨_,q1,q2⟩:=J;have q1:=q1.symm;have q2:=q2.symm;subst q1;subst q2;have aM:=Ab R;clear hl R N;go_enter Tryz.func92,Tryz.ntmps92
  go_wp2;try rw[hH]
  rw[Aa cJ];go_step3;go_wp2_with (go_at_call 91;refine(Aa aM _).mono ?_;rintro x3 w3 ⟨rfl,S⟩;have G:=Ab ((Aa cH).below Z S);have cI:=Af (Aa G).b1;clear S)
  obtain⟨d1,d2,d3⟩:=(Aa G).done Z hH (.int .i64 3) (.int .i64 l);rw[Exit.noGoto_ret];exact qW (Av rfl _ _ _ (H+1) _ rfl d3) rfl ⟨d1,rfl,by simp,s,d2⟩
 rw[if_neg (by simpa using hl)];have jl:((ks.length:Int) != (ds.length:Int))=false:=by simp;omega
 have HL:=Ab hl;have fH:(ds.length:Int)≤9223372036854775807:=by unfold maxLen at cV;omega
 clear hl;go_enter Tryz.func92,Tryz.ntmps92
 go_wp2;try rw[hH]
 rw[Aa cJ];go_step3;go_wp2;go_step3;go_wp2
 go_loopg [31] (ds.length) (fun g eL wx=>∃(i:Nat) (s1:σ),i+g=ds.length∧eL=.int .i64 i∧Hid (P22.keysGo rd ks (Am ds) s=P22.keysGo rd (ks.drop i) (Am (ds.drop i)) s1)∧Hid (LI Inv M A w H #[.int .u8 k,.string ⟨t.toArray⟩,.slice ka ks.length kc,.slice da ds.length dc,.int .i64 l] s1 wx))
 case atStart=>exact⟨0,s,by omega,by go_num,Ab rfl,cH⟩
 case round=>
  obtain⟨i,s1,eR,rfl,HG,Q⟩:=hrel;clear x0 y0;have x0:=Ad (Aa Q).b0;have y0:=Af (Aa Q).b1;cases gk with
  |zero=>
   have aQ:i=ds.length:=by omega
   have bP:P22.keysGo rd ks (Am ds) s=.ok s1:=by
    rw[Aa HG,qM (by have:=Aa HL;omega)];rfl
   have dI:=Ab bP;have e1:(ds.length:Int)≤(i:Int):=by omega
   have eW:decide (i<ds.length)=false:=by simp;omega
   have dH:=(Aa Q).keep.same p2 (qA.1 (Aa cO)).1 dW;have v0:=Aq (dH.trans (Aa cO))
   have bV:Eu wr ka ks:=by
    have h1:=(Aa aI).fit.keys;simp only[Nd.ka,Nd.keys]at h1
    exact h1.keep (fun r hn hr=>by
     have dJ:(Nd.mk k t ka kc ks da dc ds l).blk r:=by rw[Es];exact .inl ⟨hn,hr⟩
     exact(Aa Q).keep.same r ((Aa aI).lt dJ) (Aa aY _ dJ))
   have cT:=fun m=>Eh ka kc ks m wr bV (by unfold maxLen at dF ⊢;omega);have fA:(D.length:Int)≤9223372036854775807:=by omega
   have eB:=Ab cT;have eX:=Ab aQ;clear bP HG dH bV cT aQ;go_wp2
   go_loopg [60] (D.length) (fun g eJ wx=>∃j:Nat,j+g=D.length∧eJ=.int .i64 j∧Hid (∀y m,y<j→D[y]?=some m→m∈ks)∧wr=wx)
   case atStart=>exact⟨0,by omega,by go_num,Ab (fun y m hy=>by omega),rfl⟩
   case round=>
    obtain⟨j,fB,rfl,HJ,eK⟩:=hrel;subst eK;cases gk with
    |zero=>
     have e2:(D.length:Int)≤(j:Int):=by omega
     have bW:∀m∈D,m∈ks:=fun m hm=>by
      obtain⟨y,hy⟩:=List.mem_iff_getElem?.1 hm;exact Aa HJ y m (by have:=(qI.1 hy).1;omega) hy
     have dK:=Ab bW;clear bW;go_wp2;obtain⟨d1,d2,d3⟩:=(Aa Q).done Z hH (.int .i64 0) (.int .i64 0);try rw[Exit.noGoto_ret]
     refine qW (Av rfl _ _ _ (H+1) _ rfl d3) rfl ⟨d1,?_⟩;rw[Aa dI];dsimp only;rw[if_pos (Aa dK)];exact⟨rfl,d2⟩
    |succ g2=>
    have fD:(j:Int)<(D.length:Int):=by omega
    have fG:IntKind.i64.wrap ((j:Int)+1)=(j:Int)+1:=qG _ (by omega);have cS:j<D.length:=by omega
    obtain⟨m,cB⟩:=V3 (ds:=D) rfl cS;obtain⟨bs,os,dU,cM⟩:=Aa HS j m cB;subst dU;have dZ:=B3 cM;have cZ:=(Ag ((Aa Q).keep.same bs dZ (Aa dR bs (by rintro rfl;simp at cS) ⟨os,rfl⟩)) _).trans cM;have eQ:=B3 cZ;have aR:=Aa eB m;have cU:=Ab cB;clear cM cB;by_cases aT:m∈ks
    ·rw[decide_eq_true aT]at aR;have cG:=Ab aR;have cL:=Ab aT;clear aR aT;go_wp2_with (go_at_call 83;refine(Aa cG).mono ?_;rintro e' w' ⟨rfl,rfl⟩)
     go_roundg g2
     case measure=>omega
     case rel=>exact⟨j+1,by omega,by go_num,Ab (fun y m' hy bH=>by
      by_cases eF:y<j
      ·exact Aa HJ y m' eF bH
      ·obtain rfl:y=j:=by omega
       rw[Aa cU]at bH;injection bH with bH;subst bH
       exact Aa cL),rfl⟩
    ·rw[decide_eq_false aT]at aR;have cG:=Ab aR;have cL:=Ab aT;obtain⟨e',l',R,N⟩:=Aa cD 5;have J:=N.resolve_left (fun h=>absurd h.1 (by decide));obtain⟨_,q1,q2⟩:=J;have q1:=q1.symm;have q2:=q2.symm;subst q1;subst q2;have aM:=Ab R;clear aR aT R N
     go_wp2_with (first
      |(go_at_call 83;refine(Aa cG).mono ?_;rintro e' w' ⟨rfl,rfl⟩)
      | (go_at_call 91;refine(Aa aM _).mono ?_;rintro x3 w3 ⟨rfl,S⟩;have G:=Ab ((Aa Q).below Z S);have cI:=Af (Aa G).b1;clear S))
     obtain⟨d1,d2,d3⟩:=(Aa G).done Z hH (.int .i64 5) (.int .i64 l);try rw[Exit.noGoto_ret]
     refine qW (Av rfl _ _ _ (H+1) _ rfl d3) rfl ⟨d1,?_⟩;rw[Aa dI];dsimp only;rw[if_neg (fun h=>Aa cL (h m (qN (Aa cU))))];exact⟨rfl,by simp,s1,d2⟩
  |succ g'=>
  have fE:(i:Int)<(ds.length:Int):=by omega
  have eY:IntKind.i64.wrap ((i:Int)+1)=(i:Int)+1:=qG _ (by omega);have aQ:i<ds.length:=by omega
  have eM:(i:Int)<(ks.length:Int):=by have:=Aa HL;omega
  obtain⟨d,bB⟩:∃d,ds[i]?=some d:=⟨_,qO aQ⟩;obtain⟨x,aX⟩:=V3 (Aa HL) aQ;have cE:=(Aa aI).kids;simp only[Nd.da,Nd.kids]at cE;obtain⟨b3,o3,k3,t3,aD,aH,aB,aA,aE,aG,l3,rfl,rfl,e0,e1,e2,e3,e4,bS⟩:=Ce cE bB;have bQ:ds≠[]:=by rintro rfl;simp at aQ
  have bG:(Nd.mk k t ka kc ks (some ⟨b3,o3,none⟩) dc ds l).blk b3:=by rw[Es];exact .inr (.inl ⟨bQ,o3,rfl⟩)
  have aO:∀g,(Nd.mk k3 t3 aD aH aB aA aE aG l3).blk g→(Nd.mk k t ka kc ks (some ⟨b3,o3,none⟩) dc ds l).blk g:=fun g hg=>by rw[Es];exact .inr (.inr ((Eo g _).2 ⟨_,qN bB,hg⟩))
  have aC:=(Aa Q).keep.same b3 ((Aa aI).lt bG) (Aa aY _ bG);replace e0:=(Ag aC _).trans e0;replace e1:=(Ag aC _).trans e1;replace e2:=(Ag aC _).trans e2;replace e3:=(Ag aC _).trans e3;replace e4:=(Ag aC _).trans e4;have eN:=B3 e0;have bU:=bS.keep (fun g hg=>(Aa Q).keep.same g ((Aa aI).lt (aO g hg)) (Aa aY _ (aO g hg)));have bO:∀g,(Nd.mk k3 t3 aD aH aB aA aE aG l3).blk g→¬M g:=fun g hg=>Aa aY _ (aO g hg)
  have bT:E6 (Nd.mk k3 t3 aD aH aB aA aE aG l3).bare:=by
   have h0:=Aa eD;unfold Nd.bare E6 at h0;exact(Hf _).1 h0.2.2.2.2 _ (by rw[Ci];exact List.mem_map.2 ⟨_,qN bB,rfl⟩)
  have cN:=(Aa aI).fit.keys;simp only[Nd.ka,Nd.keys]at cN;obtain⟨bk,dC,eA,aS⟩:=cN i x aX;subst eA;have aW:(Nd.mk k t (some ⟨bk,dC,none⟩) kc ks (some ⟨b3,o3,none⟩) dc ds l).blk bk:=by rw[Es];exact .inl ⟨by rintro e;simp only[Nd.keys]at e;rw[e]at aX;simp at aX,dC,rfl⟩
  have bR:=(Aa Q).keep.same bk ((Aa aI).lt aW) (Aa aY _ aW);replace aS:=(Ag bR _).trans aS
  have bF:P22.keysGo rd (ks.drop i) (Am (ds.drop i)) s1=(match rd x with|none=>.error (18,l3)|some r=>match r (Nd.mk k3 t3 aD aH aB aA aE aG l3).bare s1 with | .error x=>.error x | .ok s'=>P22.keysGo rd (ks.drop (i+1)) (Am (ds.drop (i+1))) s'):=by
   obtain⟨dY,rfl⟩:=qI.1 aX;rw[qL dY,Cg bB];rfl
  have bC:=Ab bF;obtain⟨KB,cY⟩:∃KB,wr.heap.size=KB:=⟨_,rfl⟩;obtain⟨W1,bJ⟩:∃W1,wr.alloc (.cells #[.int .u8 k3,.string ⟨t3.toArray⟩,.slice aD aB.length aH,.slice aA aG.length aE,.int .i64 l3] 26)=W1:=⟨_,rfl⟩;have bL:Below wr.heap.size wr W1:=by rw[←bJ];exact(qV _ _).alloc (qJ _) _
  have gk:=(show W1.heap[KB]?=some (.cells #[.int .u8 k3,.string ⟨t3.toArray⟩,.slice aD aB.length aH,.slice aA aG.length aE,.int .i64 l3] 26) by rw[←bJ,←cY];exact qB _ _);have bK:=Ab ((Aa Q).below Z bL);have bX:=Ab (bU.below bL);have HX:=Ab aS;have cP:=(Aa bK).keep.same p1 (qA.1 (Aa dP)).1 dX;have v0:=Aq (cP.trans (Aa dP));have x1:=Ad (Aa bK).b0;have bZ:=(Ag (bL.block bk (by have:=B3 aS;exact this)) _).trans aS;have eO:=B3 bZ;have v1:=Ad gk;obtain⟨v,bb,dG,U⟩:=Aa dD W1.drew ((show W1.drew.heap[bm]?=W1.heap[bm]? from rfl).trans ((Aa bK).keep.same bm (by omega) eH)) x;have dM:=Ab gk;have eI:=Ab bJ;have bE:=Ab U;have dE:=Ab bO;have cW:=Ab bT;clear aC bR cE bB aX bQ bG aO bS bU bO bT cN aW bF bJ bL cP gk U aS;go_upto_region 8 with fail
  try rw[cY]
  try rw[Aa eI]
  clear x0 y0 e0 e1 e2 e3 e4;go_region
  obtain⟨X,hX⟩:∃X,W1.drew=X:=⟨_,rfl⟩;have cA:Below W1.heap.size W1 X:=by rw[←hX];exact(qV _ _).drew
  have aJ:=Ab ((Aa bK).below Z cA);have dQ:=Ab ((Aa bX).below cA);have gX:=(show X.heap[KB]?=W1.heap[KB]? by rw[←hX];rfl).trans (Aa dM);rw[hX];clear x1 v0 v1 bZ hX cA dG;have v1:=Ad gX;have y1:=Af (Aa aJ).b1;have eS:=Ab gX;have eV:KB<X.heap.size:=(qA.1 gX).1;have eZ:=(qA.1 (Aa aJ).b1).1;clear gX dM bX;cases hrx:rd x with
  |none=>
   have U:=Aa bE;rw[hrx]at U;simp only at U;subst U;have I:=Aa bC;rw[hrx]at I;simp only at I;have bA:=Ab ((Aa HG).trans I);obtain⟨e',l',R,N⟩:=Ct k3 t3 aD aH aB aA aE aG l3 18;have J:=N.resolve_left (fun h=>absurd h.1 (by decide));obtain⟨_,q1,q2⟩:=J;have q1:=q1.symm;have q2:=q2.symm;subst q1;subst q2;have aM:=Ab R;clear I R N hrx bE bC HG;go_wp2_with (go_at_call 91;refine(Aa aM _).mono ?_;rintro x3 w3 ⟨rfl,S⟩;have G:=Ab ((Aa aJ).below Z S);have cI:=Af (Aa G).b1;clear S)
   obtain⟨d1,d2,d3⟩:=(Aa G).done Z hH (.int .i64 18) (.int .i64 l3);try rw[Exit.noGoto_ret]
   refine qW (Av rfl _ _ _ (H+1) _ rfl d3) rfl ⟨d1,?_⟩;rw[Aa bA];exact⟨rfl,by simp,s1,d2⟩
  |some r=>
   have U:=Aa bE;rw[hrx]at U;simp only at U;obtain⟨aC,f,eP,hv,eT,aN⟩:=U;subst aC;subst hv;have I:=Aa bC;rw[hrx]at I;simp only at I;have aL:=aN X (Aa aJ).keep _ s1 _ (Aa dQ) (Aa cW) (Aa dE) (Aa aJ).inv;rw[Nd.val_eq]at aL;cases hro:r (Nd.mk k3 t3 aD aH aB aA aE aG l3).bare s1 with
   |error xe=>
    rw[hro]at aL I;simp only at I;have bA:=Ab ((Aa HG).trans I);have cC:=Ab aL;clear I aL aN hro hrx bE bC HG;obtain⟨bI,cK⟩:=xe;go_upto_region 12 with(refine(Aa cC).mono ?_;rintro x3 w3 ⟨aK,rfl,cF,s3,bD⟩;have G:=Ab ((Aa aJ).next Z hH hM aK bD);have dS:=aK.size)
    obtain⟨W4,Y⟩:∃W4,w3.alloc (.cells #[.int .i64 bI,.int .i64 cK] 29)=W4:=⟨_,rfl⟩;obtain⟨FB,aZ⟩:∃FB,w3.heap.size=FB:=⟨_,rfl⟩;have gf:W4.heap[FB]?=some (.cells #[.int .i64 bI,.int .i64 cK] 29):=by rw[←Y,←aZ];exact qB _ _
    have bM:=Ab ((Aa G).below Z (show Below w3.heap.size w3 W4 by rw[←Y];exact(qV _ _).alloc (qJ _) _));rw[Y];try rw[aZ]
    have z0:=Af gf;have y2:=Af (Aa bM).b1;have jx:(bI==0)=false:=by rw[beq_eq_false_iff_ne];exact cF
    have eE:=Ab cF;clear Y gf v1 y1 G aK bD cF;go_wp2;obtain⟨d1,d2,d3⟩:=(Aa bM).done Z hH (.int .i64 bI) (.int .i64 cK);try rw[Exit.noGoto_ret]
    refine qW (Av rfl _ _ _ (H+1) _ rfl d3) rfl ⟨d1,?_⟩;rw[Aa bA];exact⟨rfl,Aa eE,s3,d2⟩
   |ok s2=>
    rw[hro]at aL I;simp only at I;have eG:=Ab ((Aa HG).trans I);have cC:=Ab aL;clear I aL aN hro hrx bE bC HG;go_upto_region 12 with(refine(Aa cC).mono ?_;rintro x3 w3 ⟨aK,rfl,bD⟩;have G:=Ab ((Aa aJ).next Z hH hM aK bD);have dS:=aK.size)
    obtain⟨W4,Y⟩:∃W4,w3.alloc (.cells #[.int .i64 0,.int .i64 0] 29)=W4:=⟨_,rfl⟩;obtain⟨FB,aZ⟩:∃FB,w3.heap.size=FB:=⟨_,rfl⟩;have gf:W4.heap[FB]?=some (.cells #[.int .i64 0,.int .i64 0] 29):=by rw[←Y,←aZ];exact qB _ _
    have bM:=Ab ((Aa G).below Z (show Below w3.heap.size w3 W4 by rw[←Y];exact(qV _ _).alloc (qJ _) _));rw[Y];try rw[aZ]
    have z0:=Af gf;clear Y gf v1 y1 G aK bD;go_wp2;go_roundg g'
    case measure=>omega
    case rel=>exact⟨i+1,s2,by omega,by go_num,eG,bM⟩
namespace P22
def foldE{τ:Type}(r:Rd τ):List P20.T→τ→Except F τ
 | [],t=>.ok t
 |d::ds,t=>match r d t with
  | .error x=>.error x
  | .ok t'=>foldE r ds t'
theorem I1{α:Type}(f:P20.T→Except F α):∀(ds:List P20.T) (acc:List α),rowGo f ds acc=foldE (fun d acc=>(f d).map fun a=>acc++[a]) ds acc
 | [],acc=>rfl
 |d::ds,acc=>by
  unfold rowGo foldE;cases f d with
  |error x=>rfl
  |ok a=>exact I1 f ds (acc++[a])
def rowS{τ:Type}(most:Int)(r:Rd τ)(d:P20.T)(t:τ):Except F τ:=
 if d.kind≠2 then .error (7,d.line) else if most<(d.kids.length:Int) then .error (2,d.line) else foldE r d.kids t
theorem rowE_S{α:Type}(most:Int)(f:P20.T→Except F α)(d:P20.T):rowE most f d=rowS most (fun d acc=>(f d).map fun a=>acc++[a]) d []:=by
 unfold rowE rowS;rw[I1]
end P22
structure Cp (A:Nat→Prop) (W W':World):Prop where
 size:W.heap.size≤W'.heap.size
 same:∀g,g<W.heap.size→A g→W'.heap[g]?=W.heap[g]?
 os:W'.os=W.os
 tape:W'.tape=W.tape
 output:W'.output=W.output
theorem Cp.trans{A:Nat→Prop}{X Y Z:World}(h:Cp A X Y)(k:Cp A Y Z):Cp A X Z:=
 ⟨qK h.size k.size,fun g hl D=>(k.same g (zB hl h.size) D).trans (h.same g hl D),k.os.trans h.os,k.tape.trans h.tape,k.output.trans h.output⟩
theorem Cp.of_below{A:Nat→Prop}{W W':World}(h:Below W.heap.size W W'):Cp A W W':=⟨h.size,fun g hl _=>h.block g hl,h.os,h.tape,h.output⟩
theorem Cp.two{A:Nat→Prop}{W W':World}(h:Cp A W W'){g:Nat}(I:W.heap.size≤g)(v0 G:Value):Cp A W ((W'.setCell ⟨g,0,none⟩ v0).setCell ⟨g,1,none⟩ G):=
 ⟨by simpa using h.size,fun i hi D=>(Ar (by omega) _ _).trans (h.same i hi D),h.os,h.tape,h.output⟩
def D7{σ:Type}(Inv:σ→(Nat→Prop)→World→Prop)(A:Nat→Prop)(W:World)(o:Except P22.F σ)(e:Ending)(W':World):Prop:=
 Cp A W W'∧match o with
 | .ok s'=>e=.returned (fV 0 0)∧Inv s' (fun g=>A g∧g<W.heap.size) W'
 | .error x=>e=.returned (fV x.1 x.2)∧x.1≠0∧∃s',Inv s' (fun g=>A g∧g<W.heap.size) W'
def R0{σ:Type}(Inv:σ→(Nat→Prop)→World→Prop)(C:Nat→Prop)(G:σ→Nat)(N:Nat)(f:Nat)(D:Array Value)(r:P22.Rd σ)(W:World):Prop:=
 (∀args W,(callFunc f args).run Tryz.prog W=.ok (.enter f args) W)∧∀W',W.heap.size≤W'.heap.size→(∀g,C g→W'.heap[g]?=W.heap[g]?)→∀(nd:Nd) (s:σ) (A:Nat→Prop),nd.In W'→E6 nd.bare→(∀g,nd.blk g→A g)→(∀g,C g→A g)→Inv s A W'→G s<N →
  Calls Tryz.prog f (#[nd.val]++D) W' (D7 Inv A W' (r nd.bare s))
structure LR {σ:Type} (Inv:σ→(Nat→Prop)→World→Prop) (A:Nat→Prop) (W:World) (H:Nat) (cs:Array Value) (s:σ) (V:World):Prop where
 keep:Cp A W V
 inv:Inv s (fun g=>(A g∧g<H)∨g=H∨g=H+1) V
 b0:V.heap[H]?=some (.cells cs 26)
 b1:V.heap[H+1]?=some (.cells #[.int .i64 0,.int .i64 0] 29)
theorem LR.below{σ:Type}{Inv:σ→(Nat→Prop)→World→Prop}(N:Gf Inv){A:Nat→Prop}{W:World}{H:Nat}{cs:Array Value}{s:σ}{V J:World}(h:LR Inv A W H cs s V)(hb:Below V.heap.size V J):LR Inv A W H cs s J:=by
 have I:=(qA.1 h.b0).1;have D:=(qA.1 h.b1).1;exact⟨h.keep.trans (.of_below hb),N.mono _ _ _ _ (N.stays _ _ _ _ h.inv hb.size (fun g G _=>hb.block g G)) (fun g G=>.inl G),(hb.block _ I).trans h.b0,(hb.block _ D).trans h.b1⟩
theorem LR.next{σ:Type}{Inv:σ→(Nat→Prop)→World→Prop}(N:Gf Inv){A:Nat→Prop}{W:World}{H:Nat}{cs:Array Value}{s s':σ}{V G:World}(h:LR Inv A W H cs s V)(Q:W.heap.size=H)(hk:Cp (fun g=>(A g∧g<H)∨g=H∨g=H+1) V G)(hi:Inv s' (fun g=>((A g∧g<H)∨g=H∨g=H+1)∧g<V.heap.size) G):LR Inv A W H cs s' G:=by
 have J:=(qA.1 h.b0).1;have I:=(qA.1 h.b1).1;refine⟨⟨qK h.keep.size hk.size,fun g hl D=>(hk.same g (zB hl h.keep.size) (.inl ⟨D,by omega⟩)).trans (h.keep.same g hl D),hk.os.trans h.keep.os,hk.tape.trans h.keep.tape,hk.output.trans h.keep.output⟩,N.mono _ _ _ _ hi (fun g D=>⟨D,by omega⟩),(hk.same _ J (.inr (.inl rfl))).trans h.b0,(hk.same _ I (.inr (.inr rfl))).trans h.b1⟩
theorem LR.done{σ:Type}{Inv:σ→(Nat→Prop)→World→Prop}(I:Gf Inv){A:Nat→Prop}{W:World}{H:Nat}{cs:Array Value}{s:σ}{V:World}(h:LR Inv A W H cs s V)(J:W.heap.size=H)(v0 D:Value) :
  Cp A W ((V.setCell ⟨H+1,0,none⟩ v0).setCell ⟨H+1,1,none⟩ D)∧Inv s (fun g=>A g∧g<W.heap.size) ((V.setCell ⟨H+1,0,none⟩ v0).setCell ⟨H+1,1,none⟩ D)∧(loadVar 29 ⟨H+1,0,none⟩).run Tryz.prog ((V.setCell ⟨H+1,0,none⟩ v0).setCell ⟨H+1,1,none⟩ D)=.ok (.agg #[v0,D]) ((V.setCell ⟨H+1,0,none⟩ v0).setCell ⟨H+1,1,none⟩ D):=by
 refine⟨h.keep.two (by omega) _ _,?_,Ai (A3 h.b1 _ _)⟩;have h1:=I.stays _ _ _ ((V.setCell ⟨H+1,0,none⟩ v0).setCell ⟨H+1,1,none⟩ D) h.inv (by simp) (fun g G N=>Ar (fun e=>N (.inr (.inr e))) _ _);exact I.mono _ _ _ _ h1 (fun g G=>.inl (.inl (by rw[←J];exact G)))
theorem Mf{σ:Type}(Inv:σ→(Nat→Prop)→World→Prop)(hP:Gf Inv)(r:P22.Rd σ)(C:Nat→Prop)(sz:σ→Nat)(N:Nat)(bX:∀d s s',r d s=.ok s'→sz s'≤sz s+1)(most:Int)(f:Nat)(bG:Array Value)(p1 p2:Nat)(k:Nat)(t:List UInt8)(ka:Option Addr)(kc:Nat)(ks:List (List UInt8))(da:Option Addr)(dc:Nat)(ds:List Nd)(l:Int)(s:σ)(A:Nat→Prop)(w:World)
  (bT:(Nd.mk k t ka kc ks da dc ds l).In w) (cD:E6 (Nd.mk k t ka kc ks da dc ds l).bare) (bZ:∀g,(Nd.mk k t ka kc ks da dc ds l).blk g→A g) (h1:w.heap[p1]?=some (.cells #[.int .i64 most] 3)) (h2:w.heap[p2]?=some (.cells #[.func (.func f) #[] bG] 89))
  (cW:A p1) (cN:A p2) (bH:∀g,C g→A g∧g<w.heap.size) (cE:R0 Inv C sz N f bG r w) (hi:Inv s A w) (hN:(ds.length:Int)≤most→sz s+ds.length≤N) :
  Calls Tryz.prog 90 #[.agg #[.int .u8 k,.string ⟨t.toArray⟩,.slice ka ks.length kc,.slice da ds.length dc,.int .i64 l],.pointer (some ⟨p1,0,none⟩),.pointer (some ⟨p2,0,none⟩)] w (D7 Inv A w (P22.rowS most r (Nd.mk k t ka kc ks da dc ds l).bare s)):=by
 obtain⟨H,hH⟩:∃H,w.heap.size=H:=⟨_,rfl⟩;obtain⟨W0,bW,aJ,g0,g1,cY⟩:=A0 w (.cells #[.int .u8 k,.string ⟨t.toArray⟩,.slice ka ks.length kc,.slice da ds.length dc,.int .i64 l] 26) (.cells #[.int .i64 0,.int .i64 0] 29) H hH;have x0:=Ad g0;have y0:=Af g1;rw[hH]at bH;obtain⟨cA,aY⟩:=cE
 have cH:LR Inv A w H #[.int .u8 k,.string ⟨t.toArray⟩,.slice ka ks.length kc,.slice da ds.length dc,.int .i64 l] s W0:=by
  refine⟨.of_below (by rw[hH];exact aJ),?_,g0,g1⟩
  exact hP.mono _ _ _ _ (hP.stays _ _ _ _ hi aJ.size (fun g I _=>aJ.block g (by omega))) (fun g I=>by
   rcases I with I|I|I
   ·exact .inl I.1
   ·exact .inr (by omega)
   ·exact .inr (by omega))
 have cI:=fun e=>Ct k t ka kc ks da dc ds l e;have cC:=bT.fit.kidsL;simp only[Nd.kids]at cC
 have cF:P22.rowS most r (Nd.mk k t ka kc ks da dc ds l).bare s=(if k≠2 then .error (7,l) else if most<(((Am ds).length:Nat):Int) then .error (2,l) else P22.foldE r (Am ds) s):=by
  simp only[Nd.bare];rfl
 rw[cF,Bs];have q1:=Aq ((aJ.block p1 (by have:=(qA.1 h1).1;omega)).trans h1);have bP:=Ab bW;have bN:=Ab cH;have bC:=Ab bT;have cM:=Ab cD;have bM:=Ab bZ;have cB:=Ab cI;have bU:=Ab aY;have bL:=Ab bH;have dE:=Ab h1;have bV:=Ab h2;have dB:=Dl;clear bW aJ g0 g1 cH bT cD bZ cI aY bH h1 h2 cF hi;by_cases hk:k=2
 rotate_left
 ·rw[if_pos hk];have jk:((k:Int) != 2)=true:=by simp;omega
  obtain⟨e',l',aW,aN⟩:=Aa cB 7;have aM:=aN.resolve_left (fun h=>absurd h.1 (by decide));obtain⟨_,u1,u2⟩:=aM;have u1:=u1.symm;have u2:=u2.symm;subst u1;subst u2;have bQ:=Ab aW;clear hk aW aN cA;go_enter Tryz.func90,Tryz.ntmps90
  go_upto_region 1 with fail
  try rw[hH]
  rw[Aa bP];go_wp2_with (go_at_call 91;refine(Aa bQ _).mono ?_;rintro x3 w3 ⟨rfl,aZ⟩;have D:=Ab ((Aa bN).below hP aZ);have cL:=Af (Aa D).b1;clear aZ)
  obtain⟨d1,d2,d3⟩:=(Aa D).done hP hH (.int .i64 7) (.int .i64 l);exact qW (Av rfl _ _ _ (H+1) _ rfl d3) rfl ⟨d1,rfl,by simp,s,d2⟩
 rw[if_neg (by simpa using hk)];have jk:((k:Int) != 2)=false:=by simp;omega
 clear hk;by_cases hl:most<(ds.length:Int)
 ·rw[if_pos hl];obtain⟨e',l',aW,aN⟩:=Aa cB 2;have aM:=aN.resolve_left (fun h=>absurd h.1 (by decide));obtain⟨_,u1,u2⟩:=aM;have u1:=u1.symm;have u2:=u2.symm;subst u1;subst u2;have bQ:=Ab aW;clear aW aN cA;go_enter Tryz.func90,Tryz.ntmps90
  go_upto_region 1 with fail
  try rw[hH]
  rw[Aa bP];go_wp2_with (go_at_call 91;refine(Aa bQ _).mono ?_;rintro x3 w3 ⟨rfl,aZ⟩;have D:=Ab ((Aa bN).below hP aZ);have cL:=Af (Aa D).b1;clear aZ)
  obtain⟨d1,d2,d3⟩:=(Aa D).done hP hH (.int .i64 2) (.int .i64 l);exact qW (Av rfl _ _ _ (H+1) _ rfl d3) rfl ⟨d1,rfl,by simp,s,d2⟩
 rw[if_neg hl];have cP:(ds.length:Int)≤most:=by omega
 have dD:=hN cP;have cR:=Ab bX;clear bX hN;have dC:(ds.length:Int)≤9223372036854775807:=by unfold maxLen at cC;omega
 clear hl;go_enter Tryz.func90,Tryz.ntmps90
 go_upto_region 1 with fail
 try rw[hH]
 rw[Aa bP];go_wp2
 go_loopg [25] (ds.length) (fun g cK wx=>∃(i:Nat) (s1:σ),i+g=ds.length∧cK=.int .i64 i∧Hid (P22.foldE r (Am ds) s=P22.foldE r (Am (ds.drop i)) s1)∧Hid (LR Inv A w H #[.int .u8 k,.string ⟨t.toArray⟩,.slice ka ks.length kc,.slice da ds.length dc,.int .i64 l] s1 wx)∧sz s1≤sz s+i)
 case atStart=>exact⟨0,s,by omega,by go_num,Ab rfl,bN,qJ _⟩
 case round=>
  obtain⟨i,s1,cU,rfl,HG,aG,cV⟩:=hrel;clear x0 y0 q1;have x0:=Ad (Aa aG).b0;have y0:=Af (Aa aG).b1;cases gk with
  |zero=>
   have bF:P22.foldE r (Am ds) s=.ok s1:=by
    rw[Aa HG,qM (by omega)];rfl
   have cQ:=Ab bF;have e1:(ds.length:Int)≤(i:Int):=by omega
   clear bF HG;go_wp2;obtain⟨d1,d2,d3⟩:=(Aa aG).done hP hH (.int .i64 0) (.int .i64 0);refine qW (Av rfl _ _ _ (H+1) _ rfl d3) rfl ⟨d1,?_⟩;rw[Aa cQ];exact⟨rfl,d2⟩
  |succ g'=>
  have dA:(i:Int)<(ds.length:Int):=by omega
  have cX:IntKind.i64.wrap ((i:Int)+1)=(i:Int)+1:=qG _ (by omega);have bY:i<ds.length:=by omega
  obtain⟨d,aH⟩:∃d,ds[i]?=some d:=⟨_,qO bY⟩;have bB:=(Aa bC).kids;simp only[Nd.da,Nd.kids]at bB;obtain⟨b3,o3,k3,t3,X,aC,S,R,Y,Z,l3,rfl,rfl,e0,e1,e2,e3,e4,aS⟩:=Ce bB aH;have aK:ds≠[]:=by rintro rfl;simp at bY
  have aD:(Nd.mk k t ka kc ks (some ⟨b3,o3,none⟩) dc ds l).blk b3:=by rw[Es];exact .inr (.inl ⟨aK,o3,rfl⟩)
  have G:∀g,(Nd.mk k3 t3 X aC S R Y Z l3).blk g→(Nd.mk k t ka kc ks (some ⟨b3,o3,none⟩) dc ds l).blk g:=fun g I=>by rw[Es];exact .inr (.inr ((Eo g _).2 ⟨_,qN aH,I⟩))
  have U:=(Aa aG).keep.same b3 ((Aa bC).lt aD) (Aa bM _ aD);replace e0:=(Ag U _).trans e0;replace e1:=(Ag U _).trans e1;replace e2:=(Ag U _).trans e2;replace e3:=(Ag U _).trans e3;replace e4:=(Ag U _).trans e4;have cT:=B3 e0;have aU:=aS.keep (fun g I=>(Aa aG).keep.same g ((Aa bC).lt (G g I)) (Aa bM _ (G g I)));have aI:∀g,(Nd.mk k3 t3 X aC S R Y Z l3).blk g→(A g∧g<H)∨g=H∨g=H+1:=fun g I=>.inl ⟨Aa bM _ (G g I),by have:=(Aa bC).lt (G g I);omega⟩
  have aT:E6 (Nd.mk k3 t3 X aC S R Y Z l3).bare:=by
   have h0:=Aa cM;unfold Nd.bare E6 at h0;exact(Hf _).1 h0.2.2.2.2 _ (by rw[Ci];exact List.mem_map.2 ⟨_,qN aH,rfl⟩)
  have aB:P22.foldE r (Am (ds.drop i)) s1=(match r (Nd.mk k3 t3 X aC S R Y Z l3).bare s1 with | .error x=>.error x | .ok s'=>P22.foldE r (Am (ds.drop (i+1))) s'):=by
   rw[Cg aH];rfl
  have bO:=Ab aB;obtain⟨KB,bK⟩:∃KB,wr.heap.size=KB:=⟨_,rfl⟩;obtain⟨W1,aL⟩:∃W1,wr.alloc (.cells #[.int .u8 k3,.string ⟨t3.toArray⟩,.slice X S.length aC,.slice R Z.length Y,.int .i64 l3] 26)=W1:=⟨_,rfl⟩;have bD:Below wr.heap.size wr W1:=by rw[←aL];exact(qV _ _).alloc (qJ _) _
  have gk:=(show W1.heap[KB]?=some (.cells #[.int .u8 k3,.string ⟨t3.toArray⟩,.slice X S.length aC,.slice R Z.length Y,.int .i64 l3] 26) by rw[←aL,←bK];exact qB _ _);have aE:=Ab ((Aa aG).below hP bD);have aO:=aU.below bD;have bR:=(Aa aE).keep.same p2 (qA.1 (Aa bV)).1 cN;have v0:=Aq (bR.trans (Aa bV));have v1:=Ad gk;have aA:=Aa bU W1 (Aa aE).keep.size (fun g I=>(Aa aE).keep.same g (by have:=(Aa bL g I).2;omega) (Aa bL g I).1) _ s1 _ aO aT aI (fun g I=>.inl (Aa bL g I)) (Aa aE).inv (by omega);rw[Nd.val_eq]at aA;have cJ:=Ab aL;have Q:=Aa bO;cases hro:r (Nd.mk k3 t3 X aC S R Y Z l3).bare s1 with
  |error xe=>
   rw[hro]at aA Q;simp only at Q;have cG:=Ab ((Aa HG).trans Q);have bI:=Ab aA;obtain⟨bA,bS⟩:=xe;clear Q aA hro bO HG U bB aH aK aD G aS aU aI aT aB aL bD gk aO bR;go_upto_region 8 with fail
   try rw[bK]
   try rw[Aa cJ]
   go_upto_region 9 with(refine(Aa bI).mono ?_;rintro x3 w3 ⟨aQ,rfl,bJ,s3,aX⟩;have D:=Ab ((Aa aE).next hP hH aQ aX))
   obtain⟨W4,J⟩:∃W4,w3.alloc (.cells #[.int .i64 bA,.int .i64 bS] 29)=W4:=⟨_,rfl⟩;obtain⟨FB,aR⟩:∃FB,w3.heap.size=FB:=⟨_,rfl⟩;have gf:W4.heap[FB]?=some (.cells #[.int .i64 bA,.int .i64 bS] 29):=by rw[←J,←aR];exact qB _ _
   have bE:=Ab ((Aa D).below hP (show Below w3.heap.size w3 W4 by rw[←J];exact(qV _ _).alloc (qJ _) _));rw[J];try rw[aR]
   have z0:=Af gf;have y2:=Af (Aa bE).b1;have jx:(bA != 0)=true:=by simpa using bJ
   have cO:=Ab bJ;clear J gf v0 v1 x0 y0 D aQ aX bJ;go_wp2;obtain⟨d1,d2,d3⟩:=(Aa bE).done hP hH (.int .i64 bA) (.int .i64 bS);refine qW (Av rfl _ _ _ (H+1) _ rfl d3) rfl ⟨d1,?_⟩;rw[Aa cG];exact⟨rfl,Aa cO,s3,d2⟩
  |ok s2=>
   rw[hro]at aA Q;simp only at Q;have cS:=Ab ((Aa HG).trans Q);have cZ:=Aa cR _ _ _ hro;have bI:=Ab aA;clear Q aA hro bO HG U bB aH aK aD G aS aU aI aT aB aL bD gk aO bR;go_upto_region 8 with fail
   try rw[bK]
   try rw[Aa cJ]
   go_upto_region 9 with(refine(Aa bI).mono ?_;rintro x3 w3 ⟨aQ,rfl,aX⟩;have D:=Ab ((Aa aE).next hP hH aQ aX))
   obtain⟨W4,J⟩:∃W4,w3.alloc (.cells #[.int .i64 0,.int .i64 0] 29)=W4:=⟨_,rfl⟩;obtain⟨FB,aR⟩:∃FB,w3.heap.size=FB:=⟨_,rfl⟩;have gf:W4.heap[FB]?=some (.cells #[.int .i64 0,.int .i64 0] 29):=by rw[←J,←aR];exact qB _ _
   have bE:=Ab ((Aa D).below hP (show Below w3.heap.size w3 W4 by rw[←J];exact(qV _ _).alloc (qJ _) _));rw[J];try rw[aR]
   have z0:=Af gf;clear J gf v0 v1 x0 y0 D aQ aX;go_wp2;go_roundg g'
   case measure=>omega
   case rel=>exact⟨i+1,s2,by omega,by go_num,cS,bE,by omega⟩
theorem Ca:∀(D:Fn) (first cap:Array Value) (w:World),(Instr.makeFunc D first cap).run Tryz.prog w=.ok (.func D first cap) w:=fun _ _ _ _=>rfl
theorem D2(N:Nat)(most:Int)(w:World):Calls Tryz.prog 58 #[.pointer (some ⟨N,0,none⟩),.int .i64 most] w fun e w'=>∃c,e=.returned (.func (.func 93) #[] #[.pointer (some ⟨c,0,none⟩),.pointer (some ⟨c+1,0,none⟩)])∧c=w.heap.size∧w'.heap[c]?=some (.cells #[.pointer (some ⟨N,0,none⟩)] 94)∧w'.heap[c+1]?=some (.cells #[.int .i64 most] 3)∧Below w.heap.size w w':=by
 obtain⟨H,I⟩:∃H,w.heap.size=H:=⟨_,rfl⟩;obtain⟨Z,D,G,U,g1,Y⟩:=A0 w (.cells #[.pointer (some ⟨N,0,none⟩)] 94) (.cells #[.int .i64 most] 3) H I;have X:=Ca;have S:=Ab D;have Q:=Ab G;have R:=Ab U;have J:=Ab g1;clear D G U g1;go_enter Tryz.func58,Tryz.ntmps58
 go_upto_region 1 with fail
 try rw[I]
 rw[Aa S];go_wp2;refine qW (results_tmp rfl _ _ _) rfl ⟨H,rfl,I.symm,Aa R,Aa J,by rw[I];exact Aa Q⟩
theorem Kb(most:Int)(f:Nat)(D:Array Value)(w:World):Calls Tryz.prog 56 #[.int .i64 most,.func (.func f) #[] D] w fun e w'=>∃c,e=.returned (.func (.func 90) #[] #[.pointer (some ⟨c,0,none⟩),.pointer (some ⟨c+1,0,none⟩)])∧c=w.heap.size∧w'.heap[c]?=some (.cells #[.int .i64 most] 3)∧w'.heap[c+1]?=some (.cells #[.func (.func f) #[] D] 89)∧Below w.heap.size w w':=by
 obtain⟨H,J⟩:∃H,w.heap.size=H:=⟨_,rfl⟩;obtain⟨Z,G,I,U,g1,Y⟩:=A0 w (.cells #[.int .i64 most] 3) (.cells #[.func (.func f) #[] D] 89) H J;have X:=Ca;have S:=Ab G;have Q:=Ab I;have R:=Ab U;have N:=Ab g1;clear G I U g1;go_enter Tryz.func56,Tryz.ntmps56
 go_upto_region 1 with fail
 try rw[J]
 rw[Aa S];go_wp2;refine qW (results_tmp rfl _ _ _) rfl ⟨H,rfl,J.symm,Aa R,Aa N,by rw[J];exact Aa Q⟩
theorem Gt(bm:Nat)(sa:Option Addr)(n sc:Nat)(w:World):Calls Tryz.prog 57 #[.map (some bm),.slice sa n sc] w fun e w'=>∃c,e=.returned (.func (.func 92) #[] #[.pointer (some ⟨c,0,none⟩),.pointer (some ⟨c+1,0,none⟩)])∧c=w.heap.size∧w'.heap[c]?=some (.cells #[.map (some bm)] 95)∧w'.heap[c+1]?=some (.cells #[.slice sa n sc] 23)∧Below w.heap.size w w':=by
 obtain⟨H,I⟩:∃H,w.heap.size=H:=⟨_,rfl⟩;obtain⟨Y,D,G,S,g1,X⟩:=A0 w (.cells #[.map (some bm)] 95) (.cells #[.slice sa n sc] 23) H I;have U:=Ca;have R:=Ab D;have Q:=Ab G;have N:=Ab S;have J:=Ab g1;clear D G S g1;go_enter Tryz.func57,Tryz.ntmps57
 go_upto_region 1 with fail
 try rw[I]
 rw[Aa R];go_wp2;refine qW (results_tmp rfl _ _ _) rfl ⟨H,rfl,I.symm,Aa N,Aa J,by rw[I];exact Aa Q⟩
theorem F7(I:Nat)(w:World):Calls Tryz.prog 88 #[.pointer (some ⟨I,0,none⟩)] w fun e w'=>∃c,e=.returned (.func (.func 127) #[] #[.pointer (some ⟨c,0,none⟩)])∧c=w.heap.size∧w'.heap[c]?=some (.cells #[.pointer (some ⟨I,0,none⟩)] 65)∧Below w.heap.size w w':=by
 obtain⟨H,J⟩:∃H,w.heap.size=H:=⟨_,rfl⟩;obtain⟨N,D⟩:∃N,w.alloc (.cells #[.pointer (some ⟨I,0,none⟩)] 65)=N:=⟨_,rfl⟩;have U:N.heap[H]?=some (.cells #[.pointer (some ⟨I,0,none⟩)] 65):=by rw[←D,←J];exact qB _ _
 have G:Below H w N:=by rw[←D];exact(qV _ w).alloc (by omega) _
 have X:=Ca;have Q:=Ab D;have R:=Ab G;have S:=Ab U;clear D G U;go_enter Tryz.func88,Tryz.ntmps88
 go_upto_region 1 with fail
 try rw[J]
 rw[Aa Q];go_wp2;refine qW (results_tmp rfl _ _ _) rfl ⟨H,rfl,J.symm,Aa S,by rw[J];exact Aa R⟩
theorem Lp(I:Nat)(w:World):Calls Tryz.prog 86 #[.pointer (some ⟨I,0,none⟩)] w fun e w'=>∃c,e=.returned (.func (.func 124) #[] #[.pointer (some ⟨c,0,none⟩)])∧c=w.heap.size∧w'.heap[c]?=some (.cells #[.pointer (some ⟨I,0,none⟩)] 141)∧Below w.heap.size w w':=by
 obtain⟨H,J⟩:∃H,w.heap.size=H:=⟨_,rfl⟩;obtain⟨N,D⟩:∃N,w.alloc (.cells #[.pointer (some ⟨I,0,none⟩)] 141)=N:=⟨_,rfl⟩;have U:N.heap[H]?=some (.cells #[.pointer (some ⟨I,0,none⟩)] 141):=by rw[←D,←J];exact qB _ _
 have G:Below H w N:=by rw[←D];exact(qV _ w).alloc (by omega) _
 have X:=Ca;have Q:=Ab D;have R:=Ab G;have S:=Ab U;clear D G U;go_enter Tryz.func86,Tryz.ntmps86
 go_upto_region 1 with fail
 try rw[J]
 rw[Aa Q];go_wp2;refine qW (results_tmp rfl _ _ _) rfl ⟨H,rfl,J.symm,Aa S,by rw[J];exact Aa R⟩
theorem Ma(I:Nat)(w:World):Calls Tryz.prog 87 #[.pointer (some ⟨I,0,none⟩)] w fun e w'=>∃c,e=.returned (.func (.func 126) #[] #[.pointer (some ⟨c,0,none⟩)])∧c=w.heap.size∧w'.heap[c]?=some (.cells #[.pointer (some ⟨I,0,none⟩)] 143)∧Below w.heap.size w w':=by
 obtain⟨H,J⟩:∃H,w.heap.size=H:=⟨_,rfl⟩;obtain⟨N,D⟩:∃N,w.alloc (.cells #[.pointer (some ⟨I,0,none⟩)] 143)=N:=⟨_,rfl⟩;have U:N.heap[H]?=some (.cells #[.pointer (some ⟨I,0,none⟩)] 143):=by rw[←D,←J];exact qB _ _
 have G:Below H w N:=by rw[←D];exact(qV _ w).alloc (by omega) _
 have X:=Ca;have Q:=Ab D;have R:=Ab G;have S:=Ab U;clear D G U;go_enter Tryz.func87,Tryz.ntmps87
 go_upto_region 1 with fail
 try rw[J]
 rw[Aa Q];go_wp2;refine qW (results_tmp rfl _ _ _) rfl ⟨H,rfl,J.symm,Aa S,by rw[J];exact Aa R⟩
theorem Nx(I:Nat)(w:World):Calls Tryz.prog 89 #[.pointer (some ⟨I,0,none⟩)] w fun e w'=>∃c,e=.returned (.func (.func 128) #[] #[.pointer (some ⟨c,0,none⟩)])∧c=w.heap.size∧w'.heap[c]?=some (.cells #[.pointer (some ⟨I,0,none⟩)] 146)∧Below w.heap.size w w':=by
 obtain⟨H,J⟩:∃H,w.heap.size=H:=⟨_,rfl⟩;obtain⟨N,D⟩:∃N,w.alloc (.cells #[.pointer (some ⟨I,0,none⟩)] 146)=N:=⟨_,rfl⟩;have U:N.heap[H]?=some (.cells #[.pointer (some ⟨I,0,none⟩)] 146):=by rw[←D,←J];exact qB _ _
 have G:Below H w N:=by rw[←D];exact(qV _ w).alloc (by omega) _
 have X:=Ca;have Q:=Ab D;have R:=Ab G;have S:=Ab U;clear D G U;go_enter Tryz.func89,Tryz.ntmps89
 go_upto_region 1 with fail
 try rw[J]
 rw[Aa Q];go_wp2;refine qW (results_tmp rfl _ _ _) rfl ⟨H,rfl,J.symm,Aa S,by rw[J];exact Aa R⟩
def Tf(D:Array Oper):Bool:=(List.range D.size).all fun i=>match D[i]? with
 |some o=>o.after.all fun e=>decide (e.on<i)
 |none=>true
theorem Sj{D:Array Oper}(h:Tf D=true){i:Nat}{o:Oper}(ho:D[i]?=some o):∀e∈o.after,e.on<i:=by
 intro e he;have hi:=(qA.1 ho).1;have:=List.all_eq_true.1 h i (List.mem_range.2 hi);rw[ho]at this;simp only[Array.all_eq_true']at this;simpa using this e he
theorem A4{L:Array Bool}{i:Nat}(h:L.getD i true=false):i<L.size∧L.getD i false=false:=by
 have hl:i<L.size:=by
  by_cases hl:i<L.size
  ·exact hl
  ·simp[Array.getD,hl]at h
 refine⟨hl,?_⟩;simp only[Array.getD,hl,dif_pos]at h ⊢;exact h
theorem R1{md:Region.Mode}{D:Array Oper}(hd:Tf D=true){L:Array Bool}(hs:L.size=D.size):∀(n i:Nat),i≤n→L.getD i true=false→∃j,j∈Region.ready md D L:=by
 intro n
 induction n with
 |zero=>
  intro i hi h;obtain rfl:i=0:=by omega
  have hl:=(A4 h).1;refine⟨0,mem_ready.2 ⟨h,D[0]'(by omega),Array.getElem?_eq_getElem _,fun e he _=>?_⟩⟩;have:=Sj hd (Array.getElem?_eq_getElem (by omega:0<D.size)) e he;omega
 |succ n ih=>
  intro i hi h;have hl:=(A4 h).1;by_cases hr:∃e∈(D[i]'(by omega)).after,L.getD e.on false=false
  ·obtain⟨e,he,hf⟩:=hr;have h1:=Sj hd (Array.getElem?_eq_getElem (by omega:i<D.size)) e he;refine ih e.on (by omega) ?_;have G:e.on<L.size:=by omega
   simp only[Array.getD,G,dif_pos]at hf ⊢;exact hf
  ·exact⟨i,mem_ready.2 ⟨h,D[i]'(by omega),Array.getElem?_eq_getElem _,fun e he _=>by
    by_cases hx:L.getD e.on false=true
    ·exact hx
    ·exact absurd ⟨e,he,by simpa using hx⟩ hr⟩⟩
def T9(L:Array Bool):Nat:=L.toList.count false
theorem Ih{L:Array Bool}{i:Nat}(h:L.getD i true=false):T9 (L.setIfInBounds i true)+1=T9 L:=by
 obtain⟨hl,_⟩:=A4 h
 have hf:L.toList[i]'(by simpa using hl)=false:=by
  simp only[Array.getD,hl,dif_pos]at h;simpa using h
 unfold T9;rw[Array.toList_setIfInBounds];have h1:=List.count_set (l:=L.toList) (i:=i) (a:=true) (b:=false) (by simpa using hl);rw[hf]at h1;have h2:0<L.toList.count false:=List.count_pos_iff.2 (by rw[←hf];exact List.getElem_mem _);simp only[BEq.rfl,if_true,show (true==false)=false from rfl,Bool.false_eq_true,if_false]at h1;omega
theorem P5{P:Program}{md:Region.Mode}{D:Array Oper}{Q:Exit→Act→World→Prop}(J:Array Bool→Act→World→Prop)(hd:Tf D=true)
  (R:∀L a w i o,J L a w→D[i]?=some o→L.getD i true=false→(∀e∈o.after,Region.binds md e=true→L.getD e.on false=true)→wpOp P D Q i (J (L.setIfInBounds i true)) a w)
  (N:∀L a w,J L a w→(∀i,L.getD i true=true)→Q .normal a w) :
  ∀(G:Nat) (L:Array Bool) (a:Act) (w:World),L.size=D.size→T9 L≤G→J L a w→wpAny P md D Q G L a w:=by
 have S:∀(L:Array Bool),L.size=D.size→Region.ready md D L=[]→∀i,L.getD i true=true:=fun L hs hr i=>by
  by_cases h:L.getD i true=false
  ·obtain⟨j,hj⟩:=R1 (md:=md) hd hs i i (qJ _) h;rw[hr]at hj;exact absurd hj (by simp)
  ·simpa using h
 intro G
 induction G with
 |zero=>
  intro L a w hs hu U
  have I:∀i,L.getD i true=true:=fun i=>by
   by_cases h:L.getD i true=false
   ·have:=Ih h;omega
   ·simpa using h
  have hr:Region.ready md D L=[]:=by
   cases hq:Region.ready md D L with
   |nil=>rfl
   |cons j r=>
    have Y:j∈Region.ready md D L:=by rw[hq];exact List.mem_cons_self
    have:=(mem_ready.1 Y).1;rw[I j]at this;cases this
  exact⟨hr,N L a w U I⟩
 |succ G ih=>
  intro L a w hs hu U;refine⟨fun hr=>N L a w U (S L hs hr),fun i hi=>?_⟩;obtain⟨h0,o,ho,I⟩:=mem_ready.1 hi;have h1:=Ih h0;exact wpOp_mono (fun a' w' X=>ih _ a' w' (by simpa using hs) (by omega) X) (R L a w i o U ho h0 I)
theorem Cw{P:Program}{D:Array Oper}{Q:Exit→Act→World→Prop}{id:Nat}{a:Act}{w:World}(N:P.follows .mixedOrders=true)(J:Array Bool→Act→World→Prop)(hd:Tf D=true)
  (h0:J (Array.replicate D.size false) a w.drew)
  (G:∀L a w i o,J L a w→D[i]?=some o→L.getD i true=false→(∀e∈o.after,Region.binds .any e=true→L.getD e.on false=true)→wpOp P D Q i (J (L.setIfInBounds i true)) a w)
  (I:∀L a w,J L a w→(∀i,L.getD i true=true)→Q .normal a w):(Code.region id D true).wp P Q a w:=
 wp_region_any N (P5 J hd G I D.size _ a _ (by simp) (by simp[T9,List.count_replicate]) h0)
theorem Ak{P:Program}{D:Array Oper}{Q:Exit→Act→World→Prop}{i:Nat}{o:Oper}{K:Act→World→Prop}{a:Act}{w:World}(ho:D[i]?=some o)(G:o.guard=none)(h:Oper.wp P o a w K Q):wpOp P D Q i K a w:=by
 unfold wpOp;rw[ho];simp only[Region.wanted,G,if_true];exact .inl h
def Sy(md:Region.Mode)(D:Array Oper):Bool:=(List.range D.size).all fun i=>match D[i]? with
 |some o=>o.after.all fun e=>!Region.binds md e||decide (e.on<i)
 |none=>true
theorem Pg{md:Region.Mode}{D:Array Oper}(h:Sy md D=true){i:Nat}{o:Oper}(ho:D[i]?=some o):∀e∈o.after,Region.binds md e=true→e.on<i:=by
 intro e he G;have hi:=(qA.1 ho).1;have:=List.all_eq_true.1 h i (List.mem_range.2 hi);rw[ho]at this;simp only[Array.all_eq_true']at this;have:=this e he;simpa[G]using this
theorem Qv{md:Region.Mode}{D:Array Oper}(hd:Sy md D=true){L:Array Bool}(hs:L.size=D.size):∀(n i:Nat),i≤n→L.getD i true=false→∃j,j∈Region.ready md D L:=by
 intro n
 induction n with
 |zero=>
  intro i hi h;obtain rfl:i=0:=by omega
  have hl:=(A4 h).1;refine⟨0,mem_ready.2 ⟨h,D[0]'(by omega),Array.getElem?_eq_getElem _,fun e he G=>?_⟩⟩;have:=Pg hd (Array.getElem?_eq_getElem (by omega:0<D.size)) e he G;omega
 |succ n ih=>
  intro i hi h;have hl:=(A4 h).1;by_cases hr:∃e∈(D[i]'(by omega)).after,Region.binds md e=true∧L.getD e.on false=false
  ·obtain⟨e,he,G,hf⟩:=hr;have h1:=Pg hd (Array.getElem?_eq_getElem (by omega:i<D.size)) e he G;refine ih e.on (by omega) ?_;have I:e.on<L.size:=by omega
   simp only[Array.getD,I,dif_pos]at hf ⊢;exact hf
  ·exact⟨i,mem_ready.2 ⟨h,D[i]'(by omega),Array.getElem?_eq_getElem _,fun e he G=>by
    by_cases hx:L.getD e.on false=true
    ·exact hx
    ·exact absurd ⟨e,he,G,by simpa using hx⟩ hr⟩⟩
theorem Nk{P:Program}{md:Region.Mode}{D:Array Oper}{Q:Exit→Act→World→Prop}(J:Array Bool→Act→World→Prop)(hd:Sy md D=true)
  (R:∀L a w i o,J L a w→D[i]?=some o→L.getD i true=false→(∀e∈o.after,Region.binds md e=true→L.getD e.on false=true)→wpOp P D Q i (J (L.setIfInBounds i true)) a w)
  (N:∀L a w,J L a w→(∀i,L.getD i true=true)→Q .normal a w) :
  ∀(G:Nat) (L:Array Bool) (a:Act) (w:World),L.size=D.size→T9 L≤G→J L a w→wpAny P md D Q G L a w:=by
 have S:∀(L:Array Bool),L.size=D.size→Region.ready md D L=[]→∀i,L.getD i true=true:=fun L hs hr i=>by
  by_cases h:L.getD i true=false
  ·obtain⟨j,hj⟩:=Qv (md:=md) hd hs i i (qJ _) h;rw[hr]at hj;exact absurd hj (by simp)
  ·simpa using h
 intro G
 induction G with
 |zero=>
  intro L a w hs hu U
  have I:∀i,L.getD i true=true:=fun i=>by
   by_cases h:L.getD i true=false
   ·have:=Ih h;omega
   ·simpa using h
  have hr:Region.ready md D L=[]:=by
   cases hq:Region.ready md D L with
   |nil=>rfl
   |cons j r=>
    have Y:j∈Region.ready md D L:=by rw[hq];exact List.mem_cons_self
    have:=(mem_ready.1 Y).1;rw[I j]at this;cases this
  exact⟨hr,N L a w U I⟩
 |succ G ih=>
  intro L a w hs hu U;refine⟨fun hr=>N L a w U (S L hs hr),fun i hi=>?_⟩;obtain⟨h0,o,ho,I⟩:=mem_ready.1 hi;have h1:=Ih h0;exact wpOp_mono (fun a' w' X=>ih _ a' w' (by simpa using hs) (by omega) X) (R L a w i o U ho h0 I)
theorem Em{P:Program}{D:Array Oper}{Q:Exit→Act→World→Prop}{id:Nat}{a:Act}{w:World}(N:P.follows .mixedOrders=true)(J:Array Bool→Act→World→Prop)(hd:Sy .any D=true)
  (h0:J (Array.replicate D.size false) a w.drew)
  (G:∀L a w i o,J L a w→D[i]?=some o→L.getD i true=false→(∀e∈o.after,Region.binds .any e=true→L.getD e.on false=true)→wpOp P D Q i (J (L.setIfInBounds i true)) a w)
  (I:∀L a w,J L a w→(∀i,L.getD i true=true)→Q .normal a w):(Code.region id D true).wp P Q a w:=
 wp_region_any N (Nk J hd G I D.size _ a _ (by simp) (by simp[T9,List.count_replicate]) h0)
end Go.Proofs.YtnjokdbblmlhhaaGreatDoor
