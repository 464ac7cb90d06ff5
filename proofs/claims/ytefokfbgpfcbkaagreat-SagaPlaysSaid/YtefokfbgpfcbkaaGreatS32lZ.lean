import Derived.Test.YtefokfbgpfcbkaaGreatS32eZ
import Derived.Test.YtefokfbgpfcbkaaGreatInvMZ
set_option maxRecDepth 100000
set_option maxHeartbeats 4000000
set_option linter.unusedVariables false
set_option linter.unusedSimpArgs false
namespace Go.Proofs.YtefokfbgpfcbkaaGreat
open Go.RowKit
attribute [local go_sem] Oper.semAt_some
theorem Rf(b:Nat)(w:World):Calls Tryz.prog 97 #[qP0 b] w fun e w'=>e=.returned (.func (.func 139) #[] #[.pointer (some ⟨w.heap.size,0,none⟩)])∧w'=w.alloc (.cells #[qP0 b] 96):=by
 go_enter Tryz.func97,Tryz.ntmps97
 go_wp2;go_ret;exact⟨rfl,rfl⟩
open P32 (waysL waysL_len Ci)
def Vf(x:Nat × Bool):Array Value:=#[.agg #[.int .i64 (x.1:Int),.bool x.2]]
theorem Io(n b bx N sc:Nat)(sa:Option Addr)(R T:Nat→Prop)(W:World)(aD:W.heap[bx]?=some (.cells #[qP0 b] 96))(aG:R bx)(hR:∀r,R r→r<W.heap.size)(bU:N≤100000) :
  Qad Fence.wide n Tryz.prog 139 #[qP0 bx] Vf (waysL N) (fun _ V=>V.cell? ⟨b,2,none⟩=some (.slice sa N sc)) R T W:=by
 intro ly J Jx hJ aR hM hY hG M0 aY h0;have aI:∀r,M0 r→r<W.heap.size∧¬R r:=hM 0 M0 W h0
 have aB:∀d q x M V,(waysL N)[q]?=some x→J q M V→W.heap.size≤V.heap.size→YieldAt Fence.wide d Tryz.prog ly (Vf x) V fun e W'=>
   ∃M',Aj M V M' W'∧((e=.returned (.bool true)∧J (q+1) M' W')∨(e=.returned (.bool false)∧Jx (q+1) M' W')):=
  fun d q x M V hx hj hs=>YieldAt.anyD rfl d (hY q x M V hx hj hs)
 obtain⟨x0,_⟩:=A1 aD;obtain⟨K,hK⟩:=qeX W.heap.size;obtain⟨W3,aE,b3,g3,bQ⟩:=As W (.cells #[.bool false,.bool true] 4) K hK;have aP:W.grownBy W3 none:=by rw[←aE];exact qQ _ _ none
 have h3:J 0 M0 W3:=hJ 0 M0 W W3 none h0 aP (fun r e=>by cases e);have aN:¬M0 K:=fun h=>by have:=(aI K h).1;omega
 have aU:bx<K:=by rw[←hK];exact hR bx aG
 have aK:¬M0 bx:=fun h=>(aI bx h).2 aG;have g4:=(b3.block bx aU).trans aD;have I:=fun k i hk hi=>Ci N k i hk hi;have Z:=waysL_len N;obtain⟨L,hL⟩:=qeX (waysL N);rw[hL]at aB I Z ⊢;have HM:=Ab hM;have HJ:=Ab hJ;have HY:=Ab aB;have HG:=Ab hG;have H3:=Ab h3;have bJ:=Ab aN;have aX:=Ab aK;have aZ:=Ab g3;have bG:=Ab g4;have bK:=Ab I;have aM:=Ab Z;have aW:=Ab aE;have aT:=Ab hK;clear aD aG hR aI hM hJ aR hY aB hG aY h0 h3 aN aK g3 g4 I Z hL aE aP b3;refine callsIn_of_wp Tryz.func139 rfl trivial ?_ rfl;simp only[Tryz.ntmps139,zE,qE,qP,Nat.reduceAdd,Nat.reduceSub,Array.replicate_succ,Array.replicate_zero,List.push_toArray,List.append_toArray,zR,zQ]
 gi_upto_region 1 with fail
 try rw[hK]
 rw[Aa aW];clear x0
 gi_wp2
 gi_loopg [8] 2 (fun g s8 wx=>∃(k:Nat) (M:Nat→Prop),k+g=2∧s8=.int .i64 k∧Hid (Aj M0 W3 M wx)∧Hid (J (k*N) M wx))
 case atStart=>exact⟨0,M0,by omega,by go_num,Ab (Aj.refl _ _),Ab (by rw[Nat.zero_mul];exact Aa H3)⟩
 case round=>
  obtain⟨k,M,bO,rfl,HK,aJ⟩:=hrel;have hk:=Aa HK;have bL:=hk.size;cases gk with
  |zero=>
   have e1:(2:Int)≤(k:Int):=by omega
   have j1:decide ((k:Int)<2)=false:=by simp;omega
   have hfin:=Aa aJ;rw[show k*N=L.length by rw[Aa aM];rw[show k=2 by omega]]at hfin;have aL:=Ab hfin;clear hfin hk
   gi_wp2
   go_end0;exact⟨⟨_,rfl⟩,M,.inl (Aa aL)⟩
  |succ g'=>
   have e1:(k:Int)<2:=by omega
   have j1:decide ((k:Int)<2)=true:=by simp;omega
   have bV:IntKind.i64.wrap ((k:Int)+1)=(k:Int)+1:=qG _ (by omega);have g3:=(hk.same K (Aa bJ) (by omega)).trans (Aa aZ);have g4:=(hk.same bx (Aa aX) (by omega)).trans (Aa bG);obtain⟨x0,_⟩:=A1 g4;obtain⟨UD,aA⟩:∃u,decide (k=1)=u:=⟨_,rfl⟩
   have bE:wr.cell? ⟨K,k,none⟩=some (.bool UD):=by
    obtain⟨⟨q0,_⟩,⟨q1,_⟩⟩:=A2 g3;have h2:k=0∨k=1:=by omega
    rcases h2 with rfl|rfl
    ·rw[q0,←aA];rfl
    ·rw[q1,←aA];rfl
   have c2:=Aa HG _ _ _ (Aa aJ);have I:=fun i hi=>Aa bK k i (by omega) hi;rw[aA]at I;have bI:=Ab I;clear hk g3 g4 I aA
   gi_wp2
   gi_loopg [18] N (fun g bC wx=>∃(i:Nat) (M:Nat→Prop),i+g=N∧bC=.int .i64 i∧Hid (Aj M0 W3 M wx)∧Hid (J (k*N+i) M wx))
   case atStart=>exact⟨0,M,by omega,by go_num,HK,aJ⟩
   case round=>
    obtain⟨i,M1,bM,rfl,aH,aQ⟩:=hrel;clear x0 bE c2;have aC:=Aa aH;have bT:=aC.size;cases gk with
    |zero=>
     have e2:(N:Int)≤(i:Int):=by omega
     have j2:decide ((i:Int)<(N:Int))=false:=by simp;omega
     clear aC
     gi_wp2
     go_roundg g'
     case measure=>omega
     case rel=>exact⟨k+1,M1,by omega,by go_num,aH,Ab (by rw[show (k+1)*N=k*N+i by rw[Nat.succ_mul];omega];exact Aa aQ)⟩
    |succ g2=>
     have e2:(i:Int)<(N:Int):=by omega
     have bW:IntKind.i64.wrap ((i:Int)+1)=(i:Int)+1:=qG _ (by omega);have hx:=Aa bI i (by omega)
     have aS:=((Aa HY) (n-1) _ _ M1 wr hx (Aa aQ) (by have:=Aa aT;omega)).mono
      (R':=fun e W'=>∃bb,e=.returned (.bool bb)∧Hid (∃M',Aj M1 wr M' W'∧((bb=true∧J (k*N+i+1) M' W')∨(bb=false∧Jx (k*N+i+1) M' W')))) (by
       rintro e W' ⟨M',hk,(⟨rfl,h⟩|⟨rfl,h⟩)⟩
       ·exact⟨true,rfl,Ab ⟨M',hk,.inl ⟨rfl,h⟩⟩⟩
       ·exact⟨false,rfl,Ab ⟨M',hk,.inr ⟨rfl,h⟩⟩⟩)
     obtain⟨fn,tmps,assign,body,hy,hR⟩:=aS;replace hy:(Instr.yield ly #[.agg #[.int .i64 (i:Int),.bool UD]]).run Tryz.prog wr=.ok (.round ly fn tmps assign body) wr:=hy;have bD:k*N+i+1≤L.length:=by have:=(qI.1 hx).1;omega
     clear aC hx
     gi_wp2
     refine⟨fun h=>(by cases h),hR.mono ?_⟩;rintro e W4 ⟨bb,rfl,HB⟩;clear hy hR;cases bb
     ·gi_wp2
      refine qV (results_none rfl _ _ _) rfl ?_;obtain⟨M',hk,(⟨h,_⟩|⟨_,h⟩)⟩:=Aa HB
      ·cases h
      ·exact⟨⟨_,rfl⟩,M',.inr ⟨_,bD,h⟩⟩
     ·have aO:∃M',Aj M1 wr M' W4∧J (k*N+i+1) M' W4:=by
       obtain⟨M',hk,(⟨_,h⟩|⟨h,_⟩)⟩:=Aa HB
       ·exact⟨M',hk,h⟩
       ·cases h
      have bF:=Ab aO;clear aO HB
      gi_wp2
      go_roundg g2
      case measure=>omega
      case rel=>
       obtain⟨M',hk,h⟩:=Aa bF;exact⟨i+1,M',by omega,by go_num,Ab ((Aa aH).trans hk),Ab h⟩
end Go.Proofs.YtefokfbgpfcbkaaGreat
namespace Go.Proofs.YtefokfbgpfcbkaaGreat
open Go.RowKit
def Fw(U:World)(RA:P31.Run)(k:Nat)(f:Bool)(Bx:Value)(W:World):Prop:=Below U.heap.size U W∧(f=true→∃p,Bx=.pointer (some ⟨p,0,none⟩)∧U.heap.size≤p∧Bd W p (if k≤1 then P31.Run.zero else RA))
namespace Fw
variable {U W W':World} {RA:P31.Run} {k p:Nat} {f:Bool} {Bx:Value}
theorem start(U:World)(RA:P31.Run):Fw U RA 0 false undef U:=⟨qU _ _,fun h=>by cases h⟩
theorem call(h:Fw U RA 0 f Bx W)(hb:Below W.heap.size W W'):Fw U RA 1 f Bx W':=⟨h.1.trans (hb.mono h.1.size),fun hf=>by
 obtain⟨p,e,h1,h2⟩:=h.2 hf
 exact⟨p,e,h1,Bd.below h2 hb⟩⟩
theorem alloc(h:Fw U RA k false Bx W)(hk:k≤1):Fw U RA k true (.pointer (some ⟨W.heap.size,0,none⟩)) (W.alloc (.cells #[.int .u8 0,.int .i64 0,.int .i64 0,.bool false] 159)):=
 ⟨h.1.alloc h.1.size _,fun _=>⟨_,rfl,h.1.size,by rw[if_pos hk];exact qB _ _⟩⟩
theorem store(h:Fw U RA 1 true (qP0 p) W):Fw U RA 2 true (qP0 p) ((((W.setCell ⟨p,0,none⟩ (.int .u8 (RA.phase:Int))).setCell ⟨p,1,none⟩ (.int .i64 RA.att)).setCell ⟨p,2,none⟩ (.int .i64 RA.til)).setCell ⟨p,3,none⟩ (.bool RA.last)):=by
 obtain⟨q,e,h1,h2⟩:=h.2 rfl;cases e;have h3:Bd W p P31.Run.zero:=h2;exact⟨Below.set4 h.1 h1 _ _ _ _,fun _=>⟨p,rfl,h1,h3.out RA⟩⟩
end Fw
theorem Kg{b bm rb C:Nat}{vs:Nat→Value}{d:Af}{dn un:Value}{s:P32.S}(n:Int)(a:P33.Ans)(w:World)(h:Sg w b bm rb C vs d dn un s)(hi:P32.Inv d.bare s) :
  Calls Tryz.prog 61 #[qP0 b,.agg #[.int .i64 a.step,.int .i64 a.attempt,.bool a.undo,.int .u8 (a.outcome:Int)],.int .i64 n] w fun e w'=>∃V,e=.returned (.tuple #[V,.bool (P32.answer d.bare n a s).2])∧SE w (Mb b bm dn un) b bm rb C vs d (P32.answer d.bare n a s).1 V w':=by
 obtain⟨K,hK⟩:=qeX w.heap.size;obtain⟨ai,aa,I,ao⟩:=a;obtain⟨W1,cG,aQ,g0,cY⟩:=As w (.cells #[.int .i64 ai,.int .i64 aa,.bool I,.int .u8 (ao:Int)] 37) K hK;have h1:=h.below (by rw[hK];exact aQ);have bD:=fun q=>Jw b bm s.status (W1.drewN q) h1.cells.2.2.1.1 h1.cells.2.2.2.2.2.1;obtain⟨MV,aS⟩:∃z,(s.status==1||s.status==2)=z:=⟨_,rfl⟩;rw[aS]at bD
 have aD:MV=false∨P32.has d.bare ai=false→P32.answer d.bare n ⟨ai,aa,I,ao⟩ s=((s,[]),false):=fun hc=>by
  have hq:P32.moving s=false∨P32.has d.bare ai=false:=hc.imp (fun e=>aS.trans e) id;unfold P32.answer;exact if_pos hq
 have cZ:=h.nle;have dU:=h.cw;have dL:=h.lt (.inl (.inl rfl));obtain⟨N,hN⟩:=qeX d.steps.length
 have aE:P32.has d.bare ai=(decide (0≤ai)&&decide (ai<(N:Int))):=by
  unfold P32.has;rw[Md.blen,hN]
 have aY:∀q,SE w (Mb b bm dn un) b bm rb C vs d (s,[]) (.slice none 0 0) (W1.drewN q):=fun q=>SE.nil' h (by rw[hK];exact Ac aQ);have c2:=h1.cells.1.1;rw[hN]at cZ c2;obtain⟨⟨x0,_⟩,⟨x1,_⟩,⟨x2,_⟩,⟨x3,_⟩⟩:=Bl g0;have aP:=Ab cG;have HM:=Ab bD;have H0:=Ab h;have H1:=Ab h1;have aG:=Ab aY;have HI:=Ab hi;have HN:=Ab hN;have cQ:=Ab aS;have bY:=Ab aQ;have cF:=Ab g0;clear cG bD h1 aQ hi h aY aS hN g0;by_cases J:MV=false∨P32.has d.bare ai=false
 ·rw[aD J];rw[aE]at J
  have h3:MV=false∨(MV=true∧ai<0)∨(MV=true∧0≤ai∧(N:Int)≤ai):=by
   cases MV with
   |false=>exact .inl rfl
   |true=>
    rcases J with e|e
    ·cases e
    ·simp only[Bool.and_eq_false_iff,decide_eq_false_iff_not,Int.not_le,Int.not_lt]at e;rcases e with e|e
     ·exact .inr (.inl ⟨rfl,e⟩)
     ·rcases Int.lt_or_le ai 0 with q|q
      ·exact .inr (.inl ⟨rfl,q⟩)
      ·exact .inr (.inr ⟨rfl,q,e⟩)
  clear J aD aE;rcases h3 with rfl|⟨rfl,q⟩|⟨rfl,q1,q2⟩
  ·go_enter Tryz.func61,Tryz.ntmps61
   go_upto_region 1 with fail
   try rw[hK]
   rw[Aa aP];go_quiet (exact Calls.quiet_of_same (Aa HM _))
   go_wp2;exact qV (results_tmp2 rfl _ _ _) rfl ⟨_,rfl,Aa aG _⟩
  ·have d1:decide (ai<0)=true:=by simp;omega
   go_enter Tryz.func61,Tryz.ntmps61
   go_upto_region 1 with fail
   try rw[hK]
   rw[Aa aP];go_quiet (exact Calls.quiet_of_same (Aa HM _))
   go_wp2;exact qV (results_tmp2 rfl _ _ _) rfl ⟨_,rfl,Aa aG _⟩
  ·have d1:decide (ai<0)=false:=by simp;omega
   have d2:decide (ai≥(N:Int))=true:=by simp;omega
   go_enter Tryz.func61,Tryz.ntmps61
   go_upto_region 1 with fail
   try rw[hK]
   rw[Aa aP];go_quiet (exact Calls.quiet_of_same (Aa HM _))
   go_wp2;exact qV (results_tmp2 rfl _ _ _) rfl ⟨_,rfl,Aa aG _⟩
 ·have hm:MV=true:=by
   cases MV with
   |true=>rfl
   |false=>exact absurd (.inl rfl) J
  subst hm
  have hh:P32.has d.bare ai=true:=by
   cases hq:P32.has d.bare ai with
   |true=>rfl
   |false=>exact absurd (.inr hq) J
  have cB:0≤ai∧ai<(N:Int):=by rw[aE]at hh;simpa using hh
  obtain⟨i,rfl⟩:∃i:Nat,ai=(i:Int):=⟨ai.toNat,by omega⟩;have dR:i<N:=by omega
  have d1:decide ((i:Int)<0)=false:=by simp
  have d2:decide ((i:Int)≥(N:Int))=false:=by simp;omega
  have aB:P32.answer d.bare n ⟨(i:Int),aa,I,ao⟩ s=if (P31.answer (P32.stepAt d.bare i) n (s.run i I) aa ao).2=false then ((s,[]),false) else (P32.on d.bare n (P32.put i I (P31.answer (P32.stepAt d.bare i) n (s.run i I) aa ao).1 (s,[])),true):=by
   have hq:¬(P32.moving s=false∨P32.has d.bare (i:Int)=false):=fun hc=>J (hc.imp (fun e=>(Aa cQ).symm.trans e) id);unfold P32.answer;exact if_neg hq
  have bQ:=Ab aB;clear aB J aD aE hh cB;go_enter Tryz.func61,Tryz.ntmps61
  go_upto_region 1 with fail
  try rw[hK]
  rw[Aa aP];go_quiet (exact Calls.quiet_of_same (Aa HM _))
  go_upto_region 3 with fail
  obtain⟨V1,aL⟩:∃Z,W1.drewN nq=Z:=⟨_,rfl⟩;have bK:Below K w V1:=by rw[←aL];exact Ac (Aa bY)
  have cO:V1.heap.size=K+1:=by rw[←aL];exact cY
  have gV:V1.heap[K]?=some (.cells #[.int .i64 (i:Int),.int .i64 aa,.bool I,.int .u8 (ao:Int)] 37):=by rw[←aL];exact Aa cF
  rw[aL];clear aL x0 x1 x2 x3 c2 d1 d2 HM aG H1 bY cF aP;obtain⟨⟨x0,_⟩,⟨x1,_⟩,⟨x2,_⟩,⟨x3,_⟩⟩:=Bl gV;obtain⟨W2,cN,bF,g1,dJ⟩:=As V1 (.cells #[.int .i64 (i:Int),.bool I] 157) (K+1) cO;have bG:Below K w W2:=bK.trans (bF.mono (by omega));have h2:=(Aa H0).below (by rw[hK];exact bG);have g2:=(bF.block K (by omega)).trans gV;have cV:=Ab cN;have bX:=Ab bG;have dT:=Ab g1;have dF:=Ab h2;clear cN bK bF gV bG;go_upto_region 4 with fail
  try rw[cO]
  rw[Aa cV];clear x0 x1 x2 x3;obtain⟨⟨x0,_⟩,⟨x1,_⟩,⟨x2,_⟩,⟨x3,_⟩⟩:=Bl g2;obtain⟨⟨y0,_⟩,⟨y1,_⟩⟩:=A2 g1;have dK:Hid (b<K+1∧bm<K+1):=Ab ⟨by have:=(Aa H0).lt (.inl (.inl rfl));omega,by have:=(Aa H0).lt (.inl (.inr (.inl rfl)));omega⟩;obtain⟨sg,so,aH,bU⟩:=h2.steps;have c2:=h2.cells.1.1;have c4:=h2.cells.2.2.1.1;rw[aH,Aa HN]at c2;rw[aH];obtain⟨s1,bC⟩:∃s1,d.steps[i]?=some s1:=⟨_,qO (by rw[Aa HN];omega)⟩;obtain⟨⟨t0,t1,t2,t3⟩,⟨t4,t5,t6,t7⟩,⟨t8,t9,aX,aU,bE⟩⟩:=Ar (bU i s1 bC);obtain⟨⟨rp,ra,rt,rl⟩,aI⟩:∃y,s.run i I=y:=⟨_,rfl⟩
  have hlk:∀V,V.heap[bm]?=W2.heap[bm]?→(Instr.lookup 151 (.map (some bm)) (.agg #[.int .i64 (i:Int),.bool I]) false).run Tryz.prog V=.ok (.agg #[.int .u8 (rp:Int),.int .i64 ra,.int .i64 rt,.bool rl]) V:=fun V hV=>by
   have:=(h2.mp.keep hV).look i I;rw[aI]at this;exact this
  have cC:bm<W2.heap.size:=h2.mp.lt;have aT:(⟨rp,ra,rt,rl⟩:P31.Run).ok:=by have:=h2.ok i I;rwa [aI]at this
  have aC:=fun V=>Q7 ⟨rp,ra,rt,rl⟩ s1 n aa ao V ⟨Int.le_trans (by decide) aT.lo,Int.le_trans aT.hi (by decide)⟩;have aW:P32.stepAt d.bare i=s1.bare:=Bt d bC;have aB:=Aa bQ;rw[aW,aI]at aB;obtain⟨⟨RA,OK⟩,aM⟩:∃y,P31.answer s1.bare n ⟨rp,ra,rt,rl⟩ aa ao=y:=⟨_,rfl⟩;rw[aM]at aB aC;unfold Au Ai.val at aC;simp only[Ai.aV,Nd.kV,Nd.dV]at aC t3 aX aU;have bO:=Ab aC;have dC:Hid (OK=false→P32.answer d.bare n ⟨(i:Int),aa,I,ao⟩ s=((s,[]),false)):=Ab (fun e=>by rw[aB,if_pos e]);have cR:Hid (OK=true→P32.answer d.bare n ⟨(i:Int),aa,I,ao⟩ s=(P32.on d.bare n (P32.put i I RA (s,[])),true)):=Ab (fun e=>by rw[aB,if_neg (by rw[e];simp)]);have dA:=Ab hlk;have cU:=Ab cC;have dN:=Ab aM;have dS:=Ab aT;have cH:=enters_of Tryz.func103 (by kernel_rfl) rfl
  have cX:Hid (OK=true→P32.Good d.bare (P32.put i I RA (s,[]))):=Ab (fun e=>by
   have:=P32.good_ans (d:=d.bare) (n:=n) (a:=⟨(i:Int),aa,I,ao⟩) (s:=s) (Aa HI) (Aa cQ) (by rw[show P32.stepAt d.bare (⟨(i:Int),aa,I,ao⟩:P33.Ans).step.toNat=s1.bare from aW,show s.run (⟨(i:Int),aa,I,ao⟩:P33.Ans).step.toNat (⟨(i:Int),aa,I,ao⟩:P33.Ans).undo=⟨rp,ra,rt,rl⟩ from aI,aM,e];simp);rw[show P32.stepAt d.bare (⟨(i:Int),aa,I,ao⟩:P33.Ans).step.toNat=s1.bare from aW,show s.run (⟨(i:Int),aa,I,ao⟩:P33.Ans).step.toNat (⟨(i:Int),aa,I,ao⟩:P33.Ans).undo=⟨rp,ra,rt,rl⟩ from aI,aM]at this
   exact this)
  have cP:Hid (∀V,Below W2.heap.size W2 V→V.heap[K+1]?=some (.cells #[.int .i64 (i:Int),.bool I] 157)):=Ab (fun V hV=>(hV.block _ (by omega)).trans g1);clear aC aB h2 dF bU aH bQ hlk cC aM aT aW aI g1 g2 bC;refine B6 Bj [20,25] 24 (fun k f aF W=>∃Bx,aF={ tmps:=#[qP0 b,.agg #[nI i,.int .i64 aa,.bool I,.int .u8 (ao:Int)],.int .i64 n,uZ,qP0 K,uZ,.slice none 0 0,.bool false,qP0 (K+1),Bx,.bool OK,uZ,uZ,qP0 b,.bool true,.bool false,.bool false,qP0 K,nI i,.bool false,.bool false,.bool false,qP0 K,nI i,qP0 b,qP0 b,qP0 b,pT b 2,.slice (oA sg so) N d.sc,nI N,.bool (decide (N≤i)),.bool (decide (N≤i)),qP0 K,nI i,pT K 2,.bool I,.agg #[nI i,.bool I],.tuple #[.agg #[.int .u8 (RA.phase:Int),.int .i64 RA.att,.int .i64 RA.til,.bool RA.last],.bool OK],qP0 b,qP0 b,pT b 4,.map (some bm),.agg #[nI i,.bool I],.agg #[.int .u8 (rp:Int),.int .i64 ra,.int .i64 rt,.bool rl],qP0 b,qP0 b,qP0 b,pT b 2,.slice (oA sg so) N d.sc,qP0 K,nI i,pT sg (so+i*13),.agg #[sT s1.name,sT s1.action,sT s1.undo,.slice s1.aa s1.after.length s1.ac,.int .i64 s1.most,.int .i64 s1.first,.int .i64 s1.factor,.int .i64 s1.limit,.int .u8 (s1.note.kind:Int),sT s1.note.text,.slice s1.note.ka s1.note.keys.length s1.note.kc,.slice s1.note.da s1.note.kids.length s1.note.dc,.int .i64 s1.note.line],.int .i64 n,pT K 1,.int .i64 aa,pT K 3,.int .u8 (ao:Int),.tuple #[.agg #[.int .u8 (RA.phase:Int),.int .i64 RA.att,.int .i64 RA.til,.bool RA.last],.bool OK],.agg #[.int .u8 (RA.phase:Int),.int .i64 RA.att,.int .i64 RA.til,.bool RA.last],.bool OK,uZ,uZ,uZ,uZ,uZ,uZ,uZ,uZ,uZ,uZ,uZ,uZ,uZ,uZ,uZ,uZ,uZ,uZ],defers:=[] }∧Fw W2.drew RA k f Bx W) (by kernel_rfl) (by kernel_rfl) (by decide) (by decide) (by decide) ⟨undef,rfl,Fw.start _ _⟩ rfl rfl (Bs 9 2 37 24 (by kernel_rfl) (by kernel_rfl) (by decide) rfl rfl rfl) ?pure ?write ?free ?fin
  case pure=>
   rintro k f aF W ix o ⟨Bx,rfl,aA⟩ ho cL dD cK dQ bL;have bI:=aA.1;have hc:=fun g o (h:g<W2.heap.size)=>Ae (bI.block g h) o;have dM:=(Aa dA) W (bI.block bm (Aa cU));have v0:=(hc K 0 (Ad x0)).trans x0;have v1:=(hc K 1 (Ad x1)).trans x1;have v3:=(hc K 3 (Ad x3)).trans x3;have u0:=(hc (K+1) 0 (Ad y0)).trans y0;have u1:=(hc (K+1) 1 (Ad y1)).trans y1;have e2:=(hc b 2 (Ad c2)).trans c2;have e4:=(hc b 4 (Ad c4)).trans c4;have q0:=(hc sg _ (Ad t0)).trans t0;have q1:=(hc sg _ (Ad t1)).trans t1;have q2:=(hc sg _ (Ad t2)).trans t2;have q3:=(hc sg _ (Ad t3)).trans t3;have q4:=(hc sg _ (Ad t4)).trans t4;have q5:=(hc sg _ (Ad t5)).trans t5;have q6:=(hc sg _ (Ad t6)).trans t6;have q7:=(hc sg _ (Ad t7)).trans t7;have q8:=(hc sg _ (Ad t8)).trans t8;have q9:=(hc sg _ (Ad t9)).trans t9;have dI:=(hc sg _ (Ad aX)).trans aX;have dP:=(hc sg _ (Ad aU)).trans aU;have dH:=(hc sg _ (Ad bE)).trans bE;clear hc bI;rcases ix with _|_|_|_|_|_|_|_|_|_|_|_|_|_|_|_|_|_|_|_|_|_|_|_|_|_|_|ix
   iterate 20
    ·refine wq ho rfl rfl rfl rfl ?_
     go_simp
   ·exact absurd (by simp) cL
   iterate 3
    ·refine wq ho rfl rfl rfl rfl ?_
     go_simp
   ·exact absurd rfl dD
   ·exact absurd (by simp) cL
   ·refine wq ho rfl rfl rfl rfl ?_
    go_simp
   ·exfalso;simp at ho
  case write=>
   rintro k f aF W ix o ⟨Bx,rfl,aA⟩ hi ho bL;rcases k with _|_|k
   ·cases (show some 20=some ix from hi);have aJ:some _=some o:=ho;cases aJ;refine⟨rfl,.inr (.inr ⟨103,#[.agg #[.int .u8 (rp:Int),.int .i64 ra,.int .i64 rt,.bool rl],.agg #[.string ⟨s1.name.toArray⟩,.string ⟨s1.action.toArray⟩,.string ⟨s1.undo.toArray⟩,.slice s1.aa s1.after.length s1.ac,.int .i64 s1.most,.int .i64 s1.first,.int .i64 s1.factor,.int .i64 s1.limit,.int .u8 (s1.note.kind:Int),.string ⟨s1.note.text.toArray⟩,.slice s1.note.ka s1.note.keys.length s1.note.kc,.slice s1.note.da s1.note.kids.length s1.note.dc,.int .i64 s1.note.line],.int .i64 n,.int .i64 aa,.int .u8 (ao:Int)],W,?_,?_⟩)⟩
    ·simp[execOp,resolve,invoke,Act.eval,cH,Result.andThen,Deferred.ofValue]
    ·refine(Aa bO W).mono ?_;rintro e w4 ⟨rfl,b4⟩;exact⟨_,rfl,⟨Bx,rfl,aA.call b4⟩⟩
   ·cases (show some 25=some ix from hi);have aJ:some _=some o:=ho;cases aJ;have hf:f=true:=bL (by kernel_rfl);subst hf;obtain⟨p,rfl,cS,aO⟩:=aA.2 rfl;have aR:Bd W p P31.Run.zero:=aO;obtain⟨⟨z0,f0⟩,⟨z1,f1⟩,⟨z2,f2⟩,⟨z3,f3⟩⟩:=aR.cells;refine⟨rfl,.inr (.inl ⟨_,?_,⟨_,rfl,aA.store⟩⟩)⟩
    go_simp
   ·simp at hi
  case free=>
   rintro k aF W o ⟨Bx,rfl,aA⟩ ho cK;have aJ:some _=some o:=ho;cases aJ;have hk:k≤1:=cK 1 25 rfl (by kernel_rfl);refine⟨rfl,.inl ⟨_,_,?_,⟨_,rfl,aA.alloc hk⟩⟩⟩
   go_simp
  case fin=>
   rintro k aF W6 hk ⟨Bx,rfl,aA⟩;obtain⟨k,rfl⟩:∃k',k=k'+2:=⟨k-2,by simp at hk;omega⟩;obtain⟨p,rfl,cS,aO⟩:=aA.2 rfl;have aR:Bd W6 p RA:=by rw[if_neg (by omega)]at aO;exact aO
   have dG:=Ab aR;have cJ:Below K w W6:=((Aa bX).drew).trans (aA.1.mono (by have:=(Aa bX).size;show K≤W2.heap.size;omega));have aZ:=Ab cJ;have bM:Hid (Below W2.heap.size W2 W6):=Ab ((qU _ _).drew.trans aA.1);clear aA aO aR cJ x0 x1 x2 x3 y0 y1 c2 c4 t0 t1 t2 t3 t4 t5 t6 t7 t8 t9 aX aU bE;cases OK with
   |false=>
    go_wp2;rw[Aa dC (by simp)];exact qV (results_tmp2 rfl _ _ _) rfl ⟨_,rfl,SE.nil' (Aa H0) (by rw[hK];exact Aa aZ)⟩
   |true=>
    have cD:=Gl W6 ((Aa H0).below (by rw[hK];exact Aa aZ)) (KW.of (Aa aZ) (by omega)) (Aa H0).cw (fun g hg=>.inl hg);have bW:P32.Good d.bare (P32.put i I RA (s,[])):=Aa cX rfl;have aK:=Ab bW;have cW:=Ab cD;have cA:=Aa cP W6 (Aa bM);have bZ:=Ab cA;clear cD bW cA;have he:=F3;go_upto_region 7 with fail
    go_upto_region 8 with(go_at_call 104;refine(Aa cW).mono ?_;rintro e w7 ⟨h1,h2,ob,rfl,aH,bV⟩)
    have aN:Below W6.heap.size W6 w7:=bV;obtain⟨⟨u0,_⟩,⟨u1,_⟩⟩:=A2 ((aN.block (K+1) (qA.1 (Aa bZ)).1).trans (Aa bZ));obtain⟨⟨v0,_⟩,⟨v1,_⟩,⟨v2,_⟩,⟨v3,_⟩⟩:=Bd.cells (Bd.below (Aa dG) aN);have bJ:=Ke i I RA w7 aH (by rw[Aa HN];omega) (by have:=(Aa aK).inv.ok i I;rw[show (P32.put i I RA (s,[])).1.run i I=RA from P32.setR_self _ _ _ _]at this;exact this) (Aa aK).inv (by simp);unfold Au at bJ;have dE:=Ab bJ;clear bJ aH bV aN;go_wp2_with (first|(go_at_call 146;refine(Aa dE).mono ?_;rintro e w8 ⟨⟨v8,rfl⟩,cI⟩;have cT:=Ab (Ox n _ cI (Aa aK) (qK (P32.put_len i I RA (s,[])) (by simp)));clear cI)|(go_at_call 105;refine(Aa cT).mono ?_;rintro e w9 ⟨⟨v9,rfl⟩,bT⟩;obtain⟨V9,c9,cM⟩:=bT.out;have dB:=Ab cM;clear bT cM))
    rw[Aa cR (by simp)];exact qV (results_tmp2 rfl _ _ _) rfl ⟨_,rfl,Aa dB⟩
open Go.RowKit
attribute [local go_sem] Cx Oper.semAt_some
open P32 (waysL waysL_len Ci Em tickX C2 tickX_all tickX_good)
section
variable {w0 W W':World} {M0:Nat→Prop} {b bm rb C h1 h2 ob:Nat} {vs:Nat→Value} {d:Af} {x:P32.S × List P32.Order} {dn un v:Value}
theorem SA.at_(h:SA w0 M0 b bm rb C h1 h2 ob vs d x W)(k1:Sg W b bm rb C vs d dn un x.1)(k2:W.heap[ob]?=some (.cells #[v] 105)) :
  (∀g,v.ownBlock=some g→¬Mb b bm dn un g∧g≠h1∧g≠h2∧g≠ob∧(M0 g∨w0.heap.size≤g))∧(∀g,Mb b bm dn un g→g≠h1∧g≠h2∧g≠ob)∧(∀g,Mb b bm dn un g→M0 g∨w0.heap.size≤g):=by
 obtain⟨J,Z,v',q1,q2,q3,q4,q5,q6⟩:=h.ex
 have e2:v'=v:=by
  rw[k2]at q2;cases q2;rfl
 have I:=q1.bx;rw[k1.bx]at I;unfold Y7 at I
 have e3:dn=J∧un=Z:=by
  simp only[zK,Obj.cells.injEq,Array.mk.injEq,List.cons.injEq,and_true,true_and]at I;exact I
 obtain⟨rfl,rfl⟩:=e3;subst e2;exact⟨q4,q5,q6⟩
theorem SA.row{row:Option Nat}(h:SA w0 M0 b bm rb C h1 h2 ob vs d x W)(Z:Sg W b bm rb C vs d dn un x.1)(k2:W.heap[ob]?=some (.cells #[v] 105))(k3:Ba W C v x.2)(aC:∀g,Ce rb vs d.steps.length g∨d.blk g→¬M0 g)
  (hg:W.grownBy W' row) (hr:∀r,row=some r→¬MA b bm h1 h2 ob dn un v r∧¬(r<w0.heap.size∧¬M0 r)) :
  SA w0 M0 b bm rb C h1 h2 ob vs d x W'∧Sg W' b bm rb C vs d dn un x.1∧W'.heap[ob]?=some (.cells #[v] 105)∧Ba W' C v x.2:=by
 obtain⟨q4,q5,q6⟩:=h.at_ Z k2;obtain⟨l1,l2,l3,l4,l5,l6,l7⟩:=h.low;have keep:∀g,MA b bm h1 h2 ob dn un v g→g<W.heap.size→W'.heap[g]?=W.heap[g]?:=fun g hm hl=>hg.block g hl (fun e=>(hr g e.symm).1 hm);have I:∀g,Ce rb vs d.steps.length g∨d.blk g→W'.heap[g]?=W.heap[g]?:=fun g hm=>hg.block g (Z.lt (.inr hm)) (fun e=>(hr g e.symm).2 ⟨by have:=(Z.rest hm).2.2;omega,aC g hm⟩);have aA:Sg W' b bm rb C vs d dn un x.1:=Z.keep hg.size (fun g hm=>hm.elim (fun e=>keep g (.inl e) (Z.lt (.inl e))) (I g));have aB:=(keep ob (.inr (.inr (.inr (.inl rfl)))) (qA.1 k2).1).trans k2;have J:Ba W' C v x.2:=k3.keep (fun g hm=>keep g (.inr (.inr (.inr (.inr hm)))) (k3.lt hm).2);refine⟨⟨⟨dn,un,v,aA,aB,J,q4,q5,q6⟩,(keep h1 (.inr (.inl rfl)) (qA.1 h.c1).1).trans h.c1,(keep h2 (.inr (.inr (.inl rfl))) (qA.1 h.c2).1).trans h.c2,h.kw.grown hg (fun r e=>?_),h.low,h.ne⟩,aA,aB,J⟩;have:=(hr r e).2;by_cases hm:M0 r
 ·exact .inl hm
 ·exact .inr (Nat.le_of_not_lt (fun q=>this ⟨q,hm⟩))
def TkR(w0:World)(M0:Nat→Prop)(H P bx:Nat)(r:Nat):Prop:=(r<w0.heap.size∧¬M0 r)∨r=H∨r=H+1∨r=P∨r=bx
structure Rx (w0:World) (M0:Nat→Prop) (b bm rb C h1 h2 ob H P bx:Nat) (n:Int) (vs:Nat→Value) (d:Af) (x:P32.S × List P32.Order) (M:Nat→Prop) (V:World):Prop where
 sa:SA w0 M0 b bm rb C h1 h2 ob vs d x V
 ex:∃dn un v,Sg V b bm rb C vs d dn un x.1∧V.heap[ob]?=some (.cells #[v] 105)∧Ba V C v x.2∧∀r,M r↔MA b bm h1 h2 ob dn un v r
 m0:∀g,Ce rb vs d.steps.length g∨d.blk g→¬M0 g
 nr:∀r,M r→¬TkR w0 M0 H P bx r
 bS:V.heap[H]?=some (.cells #[qP0 b] 96)
 bN:V.heap[H+1]?=some (.cells #[.int .i64 n] 2)
 bP:V.heap[P]?=some (.cells #[.func (.func 146) #[] #[qP0 h1,qP0 h2]] 171)
 bB:bx<V.heap.size
namespace Rx
variable {H P bx:Nat} {n:Int} {M:Nat→Prop} {V V':World}
theorem lt(h:Rx w0 M0 b bm rb C h1 h2 ob H P bx n vs d x M V){r:Nat}(hr:M r):r<V.heap.size:=by
 obtain⟨dn,un,v,I,J,Z,hm⟩:=h.ex;rcases(hm r).1 hr with e|rfl|rfl|rfl|e
 ·exact I.lt (.inl e)
 ·exact(qA.1 h.sa.c1).1
 ·exact(qA.1 h.sa.c2).1
 ·exact(qA.1 J).1
 ·exact(Z.lt e).2
theorem abides{row:Option Nat}(h:Rx w0 M0 b bm rb C h1 h2 ob H P bx n vs d x M V)(hg:V.grownBy V' row)(hr:∀r,row=some r→¬M r∧¬TkR w0 M0 H P bx r):Rx w0 M0 b bm rb C h1 h2 ob H P bx n vs d x M V':=by
 obtain⟨dn,un,v,I,J,Z,hm⟩:=h.ex;obtain⟨a1,a2,a3,a4⟩:=h.sa.row I J Z h.m0 hg (fun r e=>⟨fun q=>(hr r e).1 ((hm r).2 q),fun q=>(hr r e).2 (.inl q)⟩);refine⟨a1,⟨dn,un,v,a2,a3,a4,hm⟩,h.m0,h.nr,(hg.block H (qA.1 h.bS).1 (fun e=>(hr H e.symm).2 (.inr (.inl rfl)))).trans h.bS,(hg.block _ (qA.1 h.bN).1 (fun e=>(hr _ e.symm).2 (.inr (.inr (.inl rfl))))).trans h.bN,(hg.block P (qA.1 h.bP).1 (fun e=>(hr P e.symm).2 (.inr (.inr (.inr (.inl rfl)))))).trans h.bP,zD h.bB hg.size⟩
theorem below(h:Rx w0 M0 b bm rb C h1 h2 ob H P bx n vs d x M V)(hb:Below V.heap.size V V'):Rx w0 M0 b bm rb C h1 h2 ob H P bx n vs d x M V':=h.abides (A4 hb none) (fun r e=>by cases e)
theorem base(h:Rx w0 M0 b bm rb C h1 h2 ob H P bx n vs d x M V):SA V M b bm rb C h1 h2 ob vs d x V:=by
 obtain⟨dn,un,v,J,Z,k3,hm⟩:=h.ex;obtain⟨I,q5,q6⟩:=h.sa.at_ J Z;obtain⟨l1,l2,l3,l4,l5,l6,l7⟩:=h.sa.low;exact⟨⟨dn,un,v,J,Z,k3,fun g hg=>⟨(I g hg).1,(I g hg).2.1,(I g hg).2.2.1,(I g hg).2.2.2.1,.inl ((hm g).2 (.inr (.inr (.inr (.inr hg)))))⟩,q5,fun g hg=>.inl ((hm g).2 (.inl hg))⟩,h.sa.c1,h.sa.c2,KW.refl _ _,⟨J.cw,.inl ((hm _).2 (.inr (.inl rfl))),.inl ((hm _).2 (.inr (.inr (.inl rfl)))),.inl ((hm _).2 (.inr (.inr (.inr (.inl rfl))))),l5,l6,l7⟩,h.sa.ne⟩
theorem step{x':P32.S × List P32.Order}(h:Rx w0 M0 b bm rb C h1 h2 ob H P bx n vs d x M V)(hp:SA V M b bm rb C h1 h2 ob vs d x' V'):∃M',Aj M V M' V'∧Rx w0 M0 b bm rb C h1 h2 ob H P bx n vs d x' M' V':=by
 obtain⟨dn,un,v,k1,k2,k3,hm⟩:=h.ex;obtain⟨I,J,Z,q1,q2,q3,q4,q5,q6⟩:=hp.ex
 have up:∀r,MA b bm h1 h2 ob I J Z r→M r∨V.heap.size≤r:=fun r hr=>by
  rcases hr with e|e|e|e|e
  ·exact q6 r e
  ·exact .inl ((hm r).2 (.inr (.inl e)))
  ·exact .inl ((hm r).2 (.inr (.inr (.inl e))))
  ·exact .inl ((hm r).2 (.inr (.inr (.inr (.inl e)))))
  ·exact(q4 r e).2.2.2.2
 have zS:=(qA.1 h.bS).1;have zN:=(qA.1 h.bN).1;have zP:=(qA.1 h.bP).1;have zB:=h.bB;have z0:=h.sa.kw.size;refine⟨_,⟨hp.kw.size,fun r hr hl=>hp.kw.same r hr hl,up⟩,⟨h.sa.debase (fun g hg=>?_) hp,⟨I,J,Z,q1,q2,q3,fun r=>Iff.rfl⟩,h.m0,fun r hr ht=>?_,(hp.kw.same H (fun e=>h.nr H e (.inr (.inl rfl))) zS).trans h.bS,(hp.kw.same _ (fun e=>h.nr _ e (.inr (.inr (.inl rfl)))) zN).trans h.bN,(hp.kw.same P (fun e=>h.nr P e (.inr (.inr (.inr (.inl rfl))))) zP).trans h.bP,zD zB hp.kw.size⟩⟩
 ·have:=h.nr g hg;by_cases hq:M0 g
  ·exact .inl hq
  ·exact .inr (Nat.le_of_not_lt (fun e=>this (.inl ⟨e,hq⟩)))
 ·rcases up r hr with e|e
  ·exact h.nr r e ht
  ·rcases ht with q|q|q|q|q<;>omega
end Rx
end
theorem SE.down{w I W:World}{M0:Nat→Prop}{b bm rb C K:Nat}{vs:Nat→Value}{d:Af}{x:P32.S × List P32.Order}{V:Value}(h:SE I M0 b bm rb C vs d x V W)(hb:Below K w I)(hK:w.heap.size≤K:=by omega):SE w M0 b bm rb C vs d x V W:=by
 obtain⟨dn,un,a1,a2,a3,a4,a5⟩:=h;have J:=hb.size;exact⟨dn,un,a1,a2,fun g hg=>⟨(a3 g hg).1,(a3 g hg).2.imp id (fun e=>by omega)⟩,fun g hg=>(a4 g hg).imp id (fun e=>by omega),(KW.of hb hK).trans a5⟩
theorem Xn{b bm rb C:Nat}{vs:Nat→Value}{d:Af}{dn un:Value}{s:P32.S}(n:Int)(w:World)(h:Sg w b bm rb C vs d dn un s)(hi:P32.Inv d.bare s) :
  Calls Tryz.prog 63 #[qP0 b,.int .i64 n] w fun e w'=>∃V,e=.returned V∧SE w (Mb b bm dn un) b bm rb C vs d (P32.tick d.bare n s) V w':=by
 obtain⟨H,hH⟩:=qeX w.heap.size;obtain⟨W1,cH,aZ,g0,g1,eS⟩:=Dt w (.cells #[qP0 b] 96) (.cells #[.int .i64 n] 2) H hH;have s1:=h.below (by rw[hH];exact aZ);have bI:=Jw b bm s.status W1 s1.cells.2.2.1.1 s1.cells.2.2.2.2.2.1;have dA:=Gl W1 s1 (KW.refl _ W1) s1.cw (fun g hg=>.inl hg);have bE:=SE.nil' h (by rw[hH];exact aZ);obtain⟨x0,_⟩:=A1 g0;obtain⟨x1,_⟩:=A1 g1;obtain⟨MV,bM⟩:∃z,(s.status==1||s.status==2)=z:=⟨_,rfl⟩;rw[bM]at bI;have HM:=Ab bI;have eD:=Ab dA;have cF:=Ab bE;have cN:=Ab cH;have dM:=Ab aZ;have H0:=Ab h;have HI:=Ab hi;have bL:=Ab bM;have eI:=Ab g0;have dW:=Ab g1;clear cH bI dA bE aZ h hi bM s1 g0 g1;cases MV with
 |false=>
  have aB:P32.tick d.bare n s=(s,[]):=by
   unfold P32.tick;exact if_pos (show P32.moving s=false from Aa bL)
  rw[aB];clear aB;go_enter Tryz.func63,Tryz.ntmps63
  go_upto_region 1 with fail
  try rw[hH]
  rw[Aa cN];go_wp2_with (go_at_call 102;refine(Aa HM).mono ?_;rintro e w' ⟨rfl,hw⟩;obtain rfl:=hw.symm)
  go_ret;exact⟨_,rfl,Aa cF⟩
 |true=>
  have aB:=tickX_all (d:=d.bare) (n:=n) (s:=s) (Aa bL);have aA:=fun j hj=>tickX_good (d:=d.bare) (n:=n) (Aa HI) (P32.moving_iff.1 (Aa bL)) j hj;obtain⟨X,hX⟩:=qeX (P32.tick d.bare n s);rw[hX]at aB ⊢;have dH:=Ab aB;have bK:=Ab aA;have cB:=(Aa H0).nle;have eY:=(Aa H0).cw;have fC:=(Aa H0).bc;clear aB aA hX;refine(callsIn_wide (n:=40)).1 ?_;refine callsIn_of_wp_marks Tryz.func63 rfl trivial ?_ rfl;simp only[Tryz.ntmps63,zE,qE,qP,Nat.reduceAdd,Nat.reduceSub,Array.replicate_succ,Array.replicate_zero,List.push_toArray,List.append_toArray,zR,zQ];refine wpIn_wide.2 ?_;go_upto_region 1 with fail
  try rw[hH]
  rw[Aa cN];go_upto_region 3 with(go_at_call 102;refine(Aa HM).mono ?_;rintro e w' ⟨rfl,hw⟩;obtain rfl:=hw.symm)
  go_upto_region 4 with(go_at_call 104;refine(Aa eD).mono ?_;rintro e w3 ⟨h1,h2,ob,rfl,I,aG⟩;obtain⟨P,hP⟩:=qeX w3.heap.size;obtain⟨W4,cK,aY,g4,cR⟩:=As w3 (.cells #[.func (.func 146) #[] #[qP0 h1,qP0 h2]] 171) P hP;have dX:=Ab cK;clear cK)
  try rw[hP]
  rw[Aa dX];have fG:=I.kw.size;obtain⟨bC,aS,v3,j1,j2,j3,j4,j5,j6⟩:=I.ex
  have aN:∀g,MA b bm h1 h2 ob bC aS v3 g→(Mb b bm dn un g∨W1.heap.size≤g)∧g<P:=by
   obtain⟨l1,l2,l3,l4,_⟩:=I.low;rintro g (e|rfl|rfl|rfl|e)
   ·exact⟨j6 g e,by rw[←hP];exact j1.lt (.inl e)⟩
   ·exact⟨l2,by rw[←hP];exact(qA.1 I.c1).1⟩
   ·exact⟨l3,by rw[←hP];exact(qA.1 I.c2).1⟩
   ·exact⟨l4,by rw[←hP];exact(qA.1 j2).1⟩
   ·exact⟨(j4 g e).2.2.2.2,by rw[←hP];exact(j3.lt e).2⟩
  have bO:W4.heap[H]?=some (.cells #[qP0 b] 96):=(aY.block H (by have:=aG.size;omega)).trans ((aG.block H (by omega)).trans (Aa eI));have cT:W4.heap[H+1]?=some (.cells #[.int .i64 n] 2):=(aY.block (H+1) (by have:=aG.size;omega)).trans ((aG.block (H+1) (by omega)).trans (Aa dW));have eW:H+2≤P:=by have:=aG.size;omega
  obtain⟨W5,cD,aQ,g5,eF⟩:=As W4 (.cells #[qP0 b] 96) (P+1) cR;have bF:=Rf b W4;rw[cR,cD]at bF;have aE:Below w3.heap.size w3 W5:=by rw[hP];exact aY.trans (aQ.mono (by omega))
  have dD:∀g,Ce rb vs d.steps.length g∨d.blk g→¬Mb b bm dn un g:=fun g hg hm=>by
   have hr:=(Aa H0).rest hg;rcases hm with rfl|rfl|e
   ·exact hr.1 rfl
   ·exact hr.2.1 rfl
   ·have:=(Aa H0).ownC e;omega
  have hm1:∀g,Mb b bm dn un g→g<H:=fun g hg=>by rw[←hH];exact(Aa H0).lt (.inl hg)
  have cP:Rx W1 (Mb b bm dn un) b bm rb C h1 h2 ob H P (P+1) n vs d (s,[]) (MA b bm h1 h2 ob bC aS v3) W5:=⟨I.below aE,⟨bC,aS,v3,j1.below aE,(aE.block ob (by rw[hP];exact(aN ob (.inr (.inr (.inr (.inl rfl))))).2)).trans j2,j3.keep (fun g hg=>aE.block g (j3.lt hg).2),fun r=>Iff.rfl⟩,dD,fun r hr ht=>by
   obtain⟨a1,a2⟩:=aN r hr;rcases ht with⟨q1,q2⟩|rfl|rfl|rfl|rfl
   ·exact a1.elim q2 (by omega)
   iterate 2
    ·exact a1.elim (fun e=>by have:=hm1 _ e;omega) (by omega)
   ·omega
   ·omega,(aQ.block H (by omega)).trans bO,(aQ.block (H+1) (by omega)).trans cT,(aQ.block P (by omega)).trans g4,by omega⟩
  obtain⟨y0,_⟩:=A1 bO
  have cQ:=fun V (aR:W5.grownBy V none)=>Io (40-1) b (P+1) d.steps.length d.sc d.sa (TkR W1 (Mb b bm dn un) H P (P+1)) (fun _=>False) V ((aR.block _ (by omega) (by simp)).trans g5) (.inr (.inr (.inr (.inr rfl)))) (fun r hr=>by
   have:=aR.size
   rcases hr with⟨q1,_⟩|rfl|rfl|rfl|rfl<;>omega) cB
  have eE:=Ab bF;have dQ:=Ab cP;have dJ:=Ab cQ;have eR:=Ab hm1;have fA:=Ab I;clear I aG aY g4 bO cT cD aQ g5 bF aE dD hm1 cP cQ j1 j2 j3 j4 j5 j6 aN;go_wp2_with (go_at_call 97;refine(Aa eE).mono ?_;rintro e w' ⟨rfl,hw⟩;obtain rfl:=hw.symm)
  refine(wpIn_wide (n:=40)).1 ?_;generalize hA:({ tmps:=_,defers:=_ }:Act)=A
  refine C3 rfl (by omega) (gf:=139) (lb:=#[.pointer (some ⟨P+1,0,none⟩)]) (by rw[←hA];rfl) trivial (enters_of Tryz.func139 (by kernel_rfl) rfl)
   (encs:=Vf) (waysL d.steps.length) (fun _ V=>V.cell? ⟨b,2,none⟩=some (.slice d.sa d.steps.length d.sc)) (TkR W1 (Mb b bm dn un) H P (P+1)) (fun _=>False) (fun r hr=>by rcases hr with⟨q1,_⟩|rfl|rfl|rfl|rfl<;>omega)
   (fun V aR _=>Aa dJ V aR) (fun _=>rfl)
   (fun j M V=>Rx W1 (Mb b bm dn un) b bm rb C h1 h2 ob H P (P+1) n vs d (tickX d.bare n s j) (M) V) (fun _ _ _ _=>False)
   (fun j M V V' row hi hg hr=>hi.abides hg hr) (fun c j M V V' row hi hg hr=>hi) (fun j M V hi r hr=>⟨hi.lt hr,hi.nr r hr⟩)
   (MA b bm h1 h2 ob bC aS v3) (fun r hr=>hr.elim) (Aa dQ)
   (fun j p M' a' V=>∃M q,(M'=fun r=>M r∨r=q)∧Rx W1 (Mb b bm dn un) b bm rb C h1 h2 ob H P (P+1) n vs d (tickX d.bare n s j) (M) V∧¬M q∧¬TkR W1 (Mb b bm dn un) H P (P+1) q∧V.heap[q]?=some (.cells #[.int .i64 (p.1:Int),.bool p.2] 157)∧a'=(A.put (some 20) (.agg #[.int .i64 (p.1:Int),.bool p.2])).put (some 7) (qP0 q))
   ?hB ?assign ?body (fun j M V hi=>by obtain⟨_,_,_,k1,_⟩:=hi.ex;exact k1.cells.1.1) ?done ?stop
  case hB=>
   rintro j p M' a' V V' row ⟨M,q,rfl,hi,aH,aX,gq,rfl⟩ hg hr;exact⟨M,q,rfl,hi.abides hg (fun r e=>⟨fun h=>(hr r e).1 (.inl h),(hr r e).2⟩),aH,aX,(hg.block q (qA.1 gq).1 (fun e=>(hr q e.symm).1 (.inr rfl))).trans gq,rfl⟩
  case assign=>
   rintro l2 j ⟨i,u⟩ M V K hx hi hV hK;subst hA;unfold Vf;obtain⟨q,hq⟩:=qeX V.heap.size;obtain⟨V1,bT,cS,gq,eT⟩:=As V (.cells #[.int .i64 (i:Int),.bool u] 157) q hq;have aH:¬M q:=fun h=>by have:=hi.lt h;omega
   have cU:=hK (fun r=>M r∨r=q) _ V1 (by rw[←bT];exact qQ _ _ none) (fun r hr=>hr.imp id (fun e=>by omega)) ⟨M,q,rfl,hi.below (by rw[hq];exact cS),aH,fun h=>by rcases h with⟨q1,_⟩|q1|q1|q1|q1<;>omega,gq,rfl⟩;have HK:=Ab cU;have eG:=Ab bT;clear cU hK bT cS gq
   gi_wp2
   try rw[hq]
   rw[Aa eG];exact Aa HK
  case stop=>
   rintro D c j M V rfl aD hj hi hK;exact hi.elim
  case done=>
   rintro D M V rfl aD hi hK;subst hA;obtain⟨X,hX⟩:=qeX (tickX d.bare n s (waysL d.steps.length).length);have aA:=Aa bK (waysL d.steps.length).length (by rw[waysL_len,Md.blen];exact qJ _);have aB:=Aa dH;rw[show (waysL d.bare.steps.length).length=(waysL d.steps.length).length by rw[Md.blen],hX]at aB;rw[hX]at hi aA;obtain⟨xS,_⟩:=A1 hi.bS;obtain⟨xN,_⟩:=A1 hi.bN;obtain⟨xP,_⟩:=A1 hi.bP;have bW:=Ox n V hi.base aA.1 (by have:=aA.2.2.1;rw[waysL_len]at this;omega);rw[←aB]at bW;have eA:=Ab bW;have cC:=Ab hi;have dY:=Ab aD;have dN:=Ab hK;clear bW aA aB hX hi aD hK;go_wp2_with (go_at_call 105;refine(Aa eA).mono ?_;rintro e w9 ⟨⟨v9,rfl⟩,aK⟩;obtain⟨V9,c9,_⟩:=aK.out;have dI:=Ab aK;clear aK)
   obtain⟨D,hD⟩:=qeX W5.heap.size;have aD:=Aa dY;have bJ:=Aa dN;have aK:=Aa dI;rw[hD]at aD bJ;have dS:D<V.heap.size:=(qA.1 bJ).1;have dK:=(aK.kw.same D aD dS).trans bJ;obtain⟨M',a1,a2⟩:=(Aa cC).step aK;have dZ:D=P+1+1:=hD.symm.trans eF
   have a3:=a2.abides (grownBy_putObj' w9 D (.deferred none)) (fun r e=>by
    cases e;refine⟨fun h=>(a1.more D h).elim aD (by omega),fun h=>?_⟩
    rcases h with⟨q1,_⟩|q1|q1|q1|q1<;>omega)
   obtain⟨cL,c10,cX⟩:=a3.sa.out
   have dU:ob≠D:=fun e=>by
    obtain⟨_,_,_,_,_,_,hm⟩:=(Aa cC).ex;exact aD (e ▸ (hm ob).2 (.inr (.inr (.inr (.inl rfl)))))
   have dT:cL=V9:=by
    rw[Ae (World.putObj_heap_other dU) 0,c9]at c10;cases c10;rfl
   subst dT;rw[←dZ];exact⟨by simp,.inl ⟨_,_,rfl,run_takeDeferred dK,_,results_tmp rfl _ _ _,cL,rfl,cX.down (Aa dM)⟩⟩
  case body=>
   rintro l2 j ⟨i,u⟩ M' a' V hx ⟨M,q,rfl,hi,aH,aX,gq,rfl⟩ hV;subst hA;obtain⟨bX,eJ⟩:=Em hx;have aI:=C2 (d:=d.bare) (n:=n) (s:=s) (j:=j) (p:=(i,u)) (by rw[Md.blen];exact hx);obtain⟨X,hX⟩:=qeX (tickX d.bare n s j);have aA:=Aa bK j (by rw[Md.blen];have:=(qI.1 hx).1;rw[waysL_len]at this;omega);have Z:=Aa bK (j+1) (by rw[Md.blen];have:=(qI.1 hx).1;rw[waysL_len]at this;omega);rw[aI]at Z;rw[hX]at hi aI aA Z;obtain⟨eV,eU,v2,k1,k2,k3,eC⟩:=hi.ex;obtain⟨xS,_⟩:=A1 hi.bS;obtain⟨xN,_⟩:=A1 hi.bN;obtain⟨xP,_⟩:=A1 hi.bP;obtain⟨⟨y0,_⟩,⟨y1,_⟩⟩:=A2 gq;obtain⟨sg,so,I,cW⟩:=k1.steps;have c2:=k1.cells.1.1;have c4:=k1.cells.2.2.1.1;rw[I]at c2;obtain⟨s1,bG⟩:∃s1,d.steps[i]?=some s1:=⟨_,qO bX⟩;obtain⟨⟨t0,t1,t2,t3⟩,⟨t4,t5,t6,t7⟩,⟨t8,t9,aW,aT,bV⟩⟩:=Ar (cW i s1 bG);obtain⟨⟨rp,ra,rt,rl⟩,aU⟩:∃y,X.1.run i u=y:=⟨_,rfl⟩
   have hlk:∀W,W.heap[bm]?=V.heap[bm]?→(Instr.lookup 151 (.map (some bm)) (.agg #[.int .i64 (i:Int),.bool u]) false).run Tryz.prog W=.ok (.agg #[.int .u8 (rp:Int),.int .i64 ra,.int .i64 rt,.bool rl]) W:=fun W hW=>by
    have:=(k1.mp.keep hW).look i u;rw[aU]at this;exact this
   have cY:bm<V.heap.size:=k1.mp.lt;have bQ:(⟨rp,ra,rt,rl⟩:P31.Run).ok:=by have:=k1.ok i u;rwa [aU]at this
   have aC:=fun W=>Wi ⟨rp,ra,rt,rl⟩ s1 n W ⟨Int.le_trans (by decide) bQ.lo,Int.le_trans bQ.hi (by decide)⟩;have cG:P32.stepAt d.bare i=s1.bare:=Bt d bG;obtain⟨⟨RA,OK⟩,bU⟩:∃y,P31.tick s1.bare n ⟨rp,ra,rt,rl⟩=y:=⟨_,rfl⟩;rw[bU]at aC;have cO:P32.tick1 d.bare n u X i=if OK=true then P32.put i u RA X else X:=by unfold P32.tick1;rw[cG,aU,bU]
   simp only at aI Z;rw[cO]at aI Z;unfold Au Ai.val at aC;simp only[Ai.aV,Nd.kV,Nd.dV]at aC t3 aW aT;have eN:(i:Int)<(d.steps.length:Int):=by omega
   have eO:d.steps.length≤100000:=cB;have fD:j<2*d.steps.length:=by have:=(qI.1 hx).1;rwa [waysL_len]at this
   have dB:=Ab aC;have cI:=Ab aI;have eL:=Ab Z;have cV:=Ab aA;have dP:=Ab hlk;have eB:=Ab cY;have dG:=Ab hi;have dE:=Ab gq;have eP:=Ab aH;have fB:=Ab aX;have eK:=Ab bX;have cZ:=enters_of Tryz.func107 (by kernel_rfl) rfl;clear aC aI Z aA hlk cY hi gq aH aX hx eJ hX k1 k2 k3 eC cW aU bQ cG bU cO bX bG I
   gi_upto_region 6 with fail
   refine Dx Bj [16,21] 20 (fun k f aF W=>∃Bx,aF={ tmps:=#[qP0 b,.int .i64 n,qP0 H,qP0 (H+1),.slice none 0 0,qP0 ob,qP0 P,qP0 q,Bx,.bool OK,qP0 b,.bool true,.bool false,.tuple #[qP0 ob,.func (.func 146) #[] #[qP0 h1,qP0 h2]],qP0 b,.tuple #[qP0 ob,.func (.func 146) #[] #[qP0 h1,qP0 h2]],qP0 ob,.func (.func 146) #[] #[qP0 h1,qP0 h2],qP0 b,.func (.func 139) #[] #[qP0 (P+1)],.agg #[nI i,.bool u],.tuple #[.agg #[.int .u8 (RA.phase:Int),.int .i64 RA.att,.int .i64 RA.til,.bool RA.last],.bool OK],qP0 b,qP0 b,pT b 4,.map (some bm),.agg #[nI i,.bool u],.agg #[.int .u8 (rp:Int),.int .i64 ra,.int .i64 rt,.bool rl],qP0 b,qP0 b,qP0 b,pT b 2,.slice (oA sg so) d.steps.length d.sc,qP0 q,nI i,pT sg (so+i*13),.agg #[sT s1.name,sT s1.action,sT s1.undo,.slice s1.aa s1.after.length s1.ac,.int .i64 s1.most,.int .i64 s1.first,.int .i64 s1.factor,.int .i64 s1.limit,.int .u8 (s1.note.kind:Int),sT s1.note.text,.slice s1.note.ka s1.note.keys.length s1.note.kc,.slice s1.note.da s1.note.kids.length s1.note.dc,.int .i64 s1.note.line],.int .i64 n,.tuple #[.agg #[.int .u8 (RA.phase:Int),.int .i64 RA.att,.int .i64 RA.til,.bool RA.last],.bool OK],.agg #[.int .u8 (RA.phase:Int),.int .i64 RA.att,.int .i64 RA.til,.bool RA.last],.bool OK,uZ,uZ,uZ,uZ,uZ,uZ,uZ,uZ,uZ,uZ,uZ,uZ],defers:=[] }∧Fw V.drew RA k f Bx W) (by kernel_rfl) (by kernel_rfl) (by decide) (by decide) (by decide) ⟨undef,rfl,Fw.start _ _⟩ rfl rfl (Bs 8 2 21 20 (by kernel_rfl) (by kernel_rfl) (by decide) rfl rfl rfl) ?pure ?write ?free ?fin
   case pure=>
    rintro k f aF W ix o ⟨Bx,rfl,J⟩ ho cM eH dC eX cA;have bY:=J.1;have hc:=fun g o (h:g<V.heap.size)=>Ae (bY.block g h) o;have fE:=(Aa dP) W (bY.block bm (Aa eB));have v0:=(hc H 0 (Ad xS)).trans xS;have v1:=(hc (H+1) 0 (Ad xN)).trans xN;have u0:=(hc q 0 (Ad y0)).trans y0;have u1:=(hc q 1 (Ad y1)).trans y1;have e2:=(hc b 2 (Ad c2)).trans c2;have e4:=(hc b 4 (Ad c4)).trans c4;have q0:=(hc sg _ (Ad t0)).trans t0;have q1:=(hc sg _ (Ad t1)).trans t1;have q2:=(hc sg _ (Ad t2)).trans t2;have q3:=(hc sg _ (Ad t3)).trans t3;have q4:=(hc sg _ (Ad t4)).trans t4;have q5:=(hc sg _ (Ad t5)).trans t5;have q6:=(hc sg _ (Ad t6)).trans t6;have q7:=(hc sg _ (Ad t7)).trans t7;have q8:=(hc sg _ (Ad t8)).trans t8;have q9:=(hc sg _ (Ad t9)).trans t9;have eQ:=(hc sg _ (Ad aW)).trans aW;have fF:=(hc sg _ (Ad aT)).trans aT;have eZ:=(hc sg _ (Ad bV)).trans bV;clear hc bY;rcases ix with _|_|_|_|_|_|_|_|_|_|_|_|_|_|_|_|_|_|_|_|_|_|_|ix
    iterate 16
     ·refine wq ho rfl rfl rfl rfl ?_
      go_simp
    ·exact absurd (by simp) cM
    iterate 3
     ·refine wq ho rfl rfl rfl rfl ?_
      go_simp
    ·exact absurd rfl eH
    ·exact absurd (by simp) cM
    ·refine wq ho rfl rfl rfl rfl ?_
     go_simp
    ·exfalso;simp at ho
   case write=>
    rintro k f aF W ix o ⟨Bx,rfl,J⟩ hi ho cA;rcases k with _|_|k
    ·cases (show some 16=some ix from hi);have aP:some _=some o:=ho;cases aP;refine⟨rfl,.inr (.inr ⟨107,#[.agg #[.int .u8 (rp:Int),.int .i64 ra,.int .i64 rt,.bool rl],.agg #[.string ⟨s1.name.toArray⟩,.string ⟨s1.action.toArray⟩,.string ⟨s1.undo.toArray⟩,.slice s1.aa s1.after.length s1.ac,.int .i64 s1.most,.int .i64 s1.first,.int .i64 s1.factor,.int .i64 s1.limit,.int .u8 (s1.note.kind:Int),.string ⟨s1.note.text.toArray⟩,.slice s1.note.ka s1.note.keys.length s1.note.kc,.slice s1.note.da s1.note.kids.length s1.note.dc,.int .i64 s1.note.line],.int .i64 n],W,?_,?_⟩)⟩
     ·simp[execOp,resolve,invoke,Act.eval,cZ,Result.andThen,Deferred.ofValue]
     ·refine(Aa dB W).mono ?_;rintro e w4 ⟨rfl,b4⟩;exact⟨_,rfl,⟨Bx,rfl,J.call b4⟩⟩
    ·cases (show some 21=some ix from hi);have aP:some _=some o:=ho;cases aP;have hf:f=true:=cA (by kernel_rfl);subst hf;obtain⟨p,rfl,dF,aO⟩:=J.2 rfl;have aM:Bd W p P31.Run.zero:=aO;obtain⟨⟨z0,f0⟩,⟨z1,f1⟩,⟨z2,f2⟩,⟨z3,f3⟩⟩:=aM.cells;refine⟨rfl,.inr (.inl ⟨_,?_,⟨_,rfl,J.store⟩⟩)⟩
     go_simp
    ·simp at hi
   case free=>
    rintro k aF W o ⟨Bx,rfl,J⟩ ho dC;have aP:some _=some o:=ho;cases aP;have hk:k≤1:=dC 1 21 rfl (by kernel_rfl);refine⟨rfl,.inl ⟨_,_,?_,⟨_,rfl,J.alloc hk⟩⟩⟩
    go_simp
   case fin=>
    rintro k aF W6 hk ⟨Bx,rfl,J⟩;obtain⟨k,rfl⟩:∃k',k=k'+2:=⟨k-2,by simp at hk;omega⟩;obtain⟨p,rfl,dF,aO⟩:=J.2 rfl;have aM:Bd W6 p RA:=by rw[if_neg (by omega)]at aO;exact aO
    have aL:Below V.heap.size V W6:=((qU _ _).drew).trans J.1;have aJ:=(Aa dG).below aL;have bD:Aj (fun r=>M r∨r=q) V M W6:=⟨aL.size,fun r _ hl=>aL.block r hl,fun r h=>.inl (.inl h)⟩;clear J aO xS xN xP y0 y1 c2 c4 t0 t1 t2 t3 t4 t5 t6 t7 t8 t9 aW aT bV;cases OK with
    |false=>
     have hfin:∃M',Aj (fun r=>M r∨r=q) V M' W6∧Rx W1 (Mb b bm dn un) b bm rb C h1 h2 ob H P (P+1) n vs d (tickX d.bare n s (j+1)) (M') W6:=⟨M,bD,by rw[Aa cI,if_neg (by simp)];exact aJ⟩;have HF:=Ab hfin;clear hfin aJ bD aL aM
     gi_wp2
     exact Aa HF
    |true=>
     obtain⟨⟨u0,_⟩,⟨u1,_⟩⟩:=A2 ((aL.block q (qA.1 (Aa dE)).1).trans (Aa dE));obtain⟨⟨v0,_⟩,⟨v1,_⟩,⟨v2,_⟩,⟨v3,_⟩⟩:=Bd.cells aM;obtain⟨xP,_⟩:=A1 aJ.bP;have Z:=Aa eL;rw[if_pos rfl]at Z;have bZ:=Ke i u RA W6 aJ.base (Aa eK) (by have:=Z.1.inv.ok i u;rw[show (P32.put i u RA X).1.run i u=RA from P32.setR_self _ _ _ _]at this;exact this) Z.1.inv (by have:=(Aa cV).2.2.1;omega);unfold Au at bZ;have dR:=Ab bZ;have eM:=Ab aJ;have dL:=Ab bD;have he:=F3;clear bZ Z aJ bD aL aM
     gi_wp2
     refine⟨trivial,(CallsIn.inRound l2 (callsIn_wide.2 (Aa dR))).mono ?_⟩;rintro e w8 ⟨⟨v8,rfl⟩,cJ⟩
     have hfin:∃M',Aj (fun r=>M r∨r=q) V M' w8∧Rx W1 (Mb b bm dn un) b bm rb C h1 h2 ob H P (P+1) n vs d (tickX d.bare n s (j+1)) (M') w8:=by
      obtain⟨M',a1,a2⟩:=(Aa eM).step cJ;exact⟨M',(Aa dL).trans a1,by rw[Aa cI,if_pos (by simp)];exact a2⟩
     have HF:=Ab hfin;clear hfin cJ
     gi_wp2
     exact Aa HF
end Go.Proofs.YtefokfbgpfcbkaaGreat
