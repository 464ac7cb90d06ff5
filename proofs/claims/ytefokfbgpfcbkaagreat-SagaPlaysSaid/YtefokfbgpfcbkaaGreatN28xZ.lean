import Derived.Deep.OwnRows
import Derived.Test.YtefokfbgpfcbkaaGreatInvZ
set_option maxRecDepth 100000
set_option maxHeartbeats 8000000
set_option linter.unusedVariables false
set_option linter.unusedSimpArgs false
namespace Go.Proofs.YtefokfbgpfcbkaaGreat
open Go.RowKit
theorem P7{ns:List (List UInt8)}{i:Nat}{n:List UInt8}(h:ns[i]?=some n)(x:List UInt8):P28.idx (ns.take (i+1)) x=match P28.idx (ns.take i) x with|some j=>some j|none=>if n=x then some i else none:=by
 have hl:=(qI.1 h).1;rw[List.take_add_one,h,show (some n).toList=[n] from rfl,P28.idx_snoc,qY,Nat.min_eq_left (Nat.le_of_lt hl)];cases P28.idx (List.take i ns) x<;>rfl
theorem Sq:Ea Tryz.prog 9 L8:=Qc Tryz.underlying9
def Qar(j:Nat):Value:=.int .i64 (j:Int)
theorem Lf(d:Af)(w:World)(bM:d.In w) :
  Calls Tryz.prog 143 #[d.val] w fun e w'=>∃bm L,e=.returned (.map (some bm))∧w.heap.size≤bm∧Bi L8 w' bm L∧(∀x,lk L x=(P28.idx (d.steps.map Ai.name) x).map Qar)∧Below w.heap.size w w':=by
 obtain⟨nm,tx,sa,sc,ss⟩:=d;obtain⟨aI,aK,aU⟩:=bM;obtain⟨M,hM⟩:=qeX ss.length;simp only at aI aK aU;unfold Af.val;simp only;rw[hM];rw[hM]at aK;have bJ:M≤maxLen:=by omega
 unfold maxLen at bJ;obtain⟨H,hH⟩:=qeX w.heap.size;obtain⟨W0,aT,aL,g0,g1,bX⟩:=Dt w (.cells #[.string ⟨nm.toArray⟩,.string ⟨tx.toArray⟩,.slice sa M sc] 24) (.map #[] 0) H hH;have x0:=Ag g0;have aD:Bi L8 W0 (H+1) []:=⟨#[],0,g1,⟨by simp,by simp⟩,rfl⟩;have bO:=Ab aT;have bI:=Ab aL;have bU:=Ab aI;have HM:=Ab hM;have aW:=Ab aD;clear aT aL g0 g1 aI hM aK aU aD;have bV:=@run_makeMap Tryz.prog;go_enter Tryz.func143,Tryz.ntmps143
 go_upto_region 2 with fail
 try rw[hH]
 rw[Aa bO];go_wp2
 go_loopg [12] M (fun g bT wx=>∃(i:Nat) (L:List (List UInt8 × Value)),i+g=M∧bT=.int .i64 i∧Hid (Bi L8 wx (H+1) L)∧Hid (∀x,lk L x=(P28.idx ((ss.map Ai.name).take i) x).map Qar)∧Hid (Below H w wx)∧H+1+1≤wx.heap.size)
 case atStart=>exact⟨0,[],by omega,by go_num,aW,Ab (fun x=>rfl),bI,by omega⟩
 case round=>
  obtain⟨i,L,bW,rfl,aH,aC,Z,bY⟩:=hrel;clear x0;cases gk with
  |zero=>
   have e1:(M:Int)≤(i:Int):=by omega
   have j1:decide ((i:Int)<(M:Int))=false:=by simp;omega
   go_wp2;go_ret;refine⟨H+1,L,rfl,by omega,Aa aH,fun x=>?_,by rw[hH];exact Aa Z⟩;have h:=Aa aC x;rw[List.take_of_length_le (by rw[qX,Aa HM];omega)]at h;exact h
  |succ g'=>
   have cC:(i:Int)<(M:Int):=by omega
   have cA:IntKind.i64.wrap ((i:Int)+1)=(i:Int)+1:=qG _ (by omega);obtain⟨s1,aJ⟩:=Ap (Aa HM) (show i<M by omega);have aE:(ss.map Ai.name)[i]?=some s1.name:=by rw[zJ,aJ];rfl
   have aX:=(Aa bU).below (by rw[hH];exact Aa Z);obtain⟨b1,o1,rfl,c1,bG⟩:=aX.get aJ;obtain⟨n1,a1,u1,bF,aS,aO,q1,aY,bE,bD,⟨k1,t1,aM,aR,aN,aP,aZ,aQ,l1⟩⟩:=s1;obtain⟨⟨c0,c1,c2,c3⟩,⟨c4,c5,c6,c7⟩,⟨c8,c9,c10,c11,c12⟩⟩:=Ar c1;simp only[Ai.aV,Nd.kind,Nd.text,Nd.kV,Nd.dV,Nd.line,Nd.ka,Nd.kc,Nd.keys,Nd.da,Nd.dc,Nd.kids]at c0 c1 c2 c3 c4 c5 c6 c7 c8 c9 c10 c11 c12 aE;have bC:=Ab aE;obtain⟨K,hK⟩:=qeX wr.heap.size;obtain⟨W1,J⟩:=qeX (wr.alloc (.cells #[.string ⟨n1.toArray⟩,.string ⟨a1.toArray⟩,.string ⟨u1.toArray⟩,.slice bF aO.length aS,.int .i64 q1,.int .i64 aY,.int .i64 bE,.int .i64 bD,.int .u8 k1,.string ⟨t1.toArray⟩,.slice aM aN.length aR,.slice aP aQ.length aZ,.int .i64 l1] 63));have r0:W1.heap[K]?=some (.cells #[.string ⟨n1.toArray⟩,.string ⟨a1.toArray⟩,.string ⟨u1.toArray⟩,.slice bF aO.length aS,.int .i64 q1,.int .i64 aY,.int .i64 bE,.int .i64 bD,.int .u8 k1,.string ⟨t1.toArray⟩,.slice aM aN.length aR,.slice aP aQ.length aZ,.int .i64 l1] 63):=by rw[←J,←hK];exact qB _ _
   have aG:Below K wr W1:=by rw[←J,←hK];exact(qU _ _).alloc (qJ _) _
   have hm1:Bi L8 W1 (H+1) L:=(Aa aH).keep (aG.block _ (by omega));have cB:W1.heap.size=K+1:=by rw[←J,←hK];simp
   have y0:=(Am r0).1;have aA:=Ab hm1;have I:=Ab ((Aa Z).trans (aG.mono (by omega)));have bQ:=Ab J;clear aE aJ bG aX aG hm1 r0 J aH Z;go_upto_region 5 with fail
   rw[Aa bQ];cases hlk:lk L n1 with
   |none=>
    have HN:=Ab hlk;clear hlk
    go_wp2_with (first
     |(at_lookup;refine G8 rfl _ _ rfl (Aa aA) Sq Tryz.underlying205 (Dc _) rfl n1 rfl (Aa HN) ?_)
     | (at_mapUpdate;refine J3 rfl _ _ _ rfl (Aa aA) Sq Tryz.underlying205 rfl n1 rfl (.int .i64 (i:Int)) rfl ?_;intro W2 bK aB bZ bL))
    go_roundg g'
    case measure=>omega
    case rel=>
     refine⟨i+1,_,by omega,by go_num,Ab bK,Ab (fun x=>?_),Ab ⟨aB.os.trans (Aa I).os,aB.tape.trans (Aa I).tape,aB.output.trans (Aa I).output,qK (Aa I).size aB.size,fun g hg=>(bL g (by omega)).trans ((Aa I).block g hg)⟩,by omega⟩;rw[F5,P7 (Aa bC)];have h1:=Aa aC x;by_cases hx:x=n1
     ·subst hx;have h2:=Aa aC x;rw[Aa HN]at h2;cases hq:P28.idx ((ss.map Ai.name).take i) x with
      |some j=>rw[hq]at h2;cases h2
      |none=>rw[if_pos rfl];simp[Qar]
     ·rw[if_neg hx,h1];cases hq:P28.idx ((ss.map Ai.name).take i) x with
      |some j=>rfl
      |none=>
       have:¬n1=x:=fun e=>hx e.symm;simp[this]
   |some v=>
    have HN:=Ab hlk;clear hlk
    go_wp2_with (first
     | (at_lookup;refine G8 rfl _ _ rfl (Aa aA) Sq Tryz.underlying205 (Dc _) rfl n1 rfl (Aa HN) ?_))
    go_roundg g'
    case measure=>omega
    case rel=>
     refine⟨i+1,L,by omega,by go_num,aA,Ab (fun x=>?_),I,by omega⟩;rw[P7 (Aa bC)];have h1:=Aa aC x;rw[h1];cases hq:P28.idx ((ss.map Ai.name).take i) x with
     |some j=>rfl
     |none=>
      have:¬n1=x:=by
       rintro rfl;rw[Aa HN,hq]at h1;cases h1
      simp[this]
open Go.RowKit
attribute [local go_sem] Oper.semAt_some
def Hn:Option Nat→Int
 |some j=>(j:Int)
 |none=>-1
def I0(r:P28.Ref):Array Value:=#[.agg #[.int .i64 r.1,.string ⟨r.2.1.toArray⟩,.int .i64 (Hn r.2.2)]]
theorem F8(ns:List (List UInt8)):∀(a b:List (List (List UInt8))) (k:Nat),P28.refL ns k (a++b)=P28.refL ns k a++P28.refL ns (k+a.length) b
 | [],b,k=>by simp[P28.refL]
 |x::a,b,k=>by
  have I:P28.refL ns k ((x::a)++b)=x.map (fun y=>(k,y,P28.idx ns y))++P28.refL ns (k+1) (a++b):=rfl;have J:P28.refL ns k (x::a)=x.map (fun y=>(k,y,P28.idx ns y))++P28.refL ns (k+1) a:=rfl;rw[I,J,F8 ns a b (k+1),zH,qE,show k+1+a.length=k+(a.length+1) by omega]
def Ex(ns:List (List UInt8))(af:List (List (List UInt8)))(i:Nat):Nat:=(P28.refL ns 0 (af.take i)).length
theorem Zx{ns:List (List UInt8)}{af:List (List (List UInt8))}{i:Nat}{a:List (List UInt8)}(h:af[i]?=some a):P28.refL ns 0 af=P28.refL ns 0 (af.take i)++(a.map (fun y=>(i,y,P28.idx ns y))++P28.refL ns (i+1) (af.drop (i+1))):=by
 obtain⟨hl,I⟩:=qI.1 h;have e:af=af.take i++a::af.drop (i+1):=by rw[←I];simp
 have J:P28.refL ns i (a::af.drop (i+1))=a.map (fun y=>(i,y,P28.idx ns y))++P28.refL ns (i+1) (af.drop (i+1)):=rfl;have:=F8 ns (af.take i) (a::af.drop (i+1)) 0;rw[←e,qY,Nat.min_eq_left (Nat.le_of_lt hl),Nat.zero_add,J]at this;exact this
theorem Yw{ns:List (List UInt8)}{af:List (List (List UInt8))}{i j:Nat}{a:List (List UInt8)}{x:List UInt8}(h:af[i]?=some a)(hx:a[j]?=some x):(P28.refL ns 0 af)[Ex ns af i+j]?=some (i,x,P28.idx ns x):=by
 have hj:=(qI.1 hx).1;rw[Zx h,zA (by unfold Ex;omega),show Ex ns af i+j-(P28.refL ns 0 (af.take i)).length=j by unfold Ex;omega,qZ (by rw[qX];exact hj),zJ,hx];rfl
theorem U6{ns:List (List UInt8)}{af:List (List (List UInt8))}{i:Nat}{a:List (List UInt8)}(h:af[i]?=some a):Ex ns af (i+1)=Ex ns af i+a.length:=by
 unfold Ex;have hl:=(qI.1 h).1;have e:af.take (i+1)=af.take i++[a]:=by rw[List.take_add_one,h];rfl
 rw[e,F8,qH];simp[P28.refL]
theorem Xw{ns:List (List UInt8)}{af:List (List (List UInt8))}{n:Nat}(h:af.length≤n):Ex ns af n=(P28.refL ns 0 af).length:=by
 unfold Ex;rw[List.take_of_length_le h]
theorem Aj.at{M M':Nat→Prop}{A B:World}(h:Aj M A M' B){r:Nat}{o:Obj}(hr:¬M r)(ho:A.heap[r]?=some o):B.heap[r]?=some o:=(h.same r hr (qA.1 ho).1).trans ho
theorem Qu(d:Af)(w:World):Calls Tryz.prog 101 #[d.val] w fun e w'=>e=.returned (.func (.func 142) #[] #[.pointer (some ⟨w.heap.size,0,none⟩)])∧w'=w.alloc (.cells #[.string ⟨d.name.toArray⟩,.string ⟨d.text.toArray⟩,.slice d.sa d.steps.length d.sc] 24):=by
 obtain⟨nm,tx,sa,sc,ss⟩:=d;unfold Af.val;simp only;have I:∀(fn:Fn) (first cap:Array Value) (w:World),(Instr.makeFunc fn first cap).run Tryz.prog w=.ok (.func fn first cap) w:=fun _ _ _ _=>rfl;go_enter Tryz.func101,Tryz.ntmps101
 go_wp2;go_ret;exact⟨rfl,rfl⟩
theorem Ig(n:Nat)(d:Af)(bx:Nat)(R T:Nat→Prop)(W:World)(aJ:W.heap[bx]?=some (.cells #[.string ⟨d.name.toArray⟩,.string ⟨d.text.toArray⟩,.slice d.sa d.steps.length d.sc] 24))
  (bV:d.In W) (aX:∀r,d.blk r→R r) (cH:R bx) (hR:∀r,R r→r<W.heap.size) (bW:∀s∈d.steps,s.after.length≤1000000) :
  Xl Fence.wide n Tryz.prog 142 #[qP0 bx] I0 (P28.refL (d.steps.map Ai.name) 0 (d.steps.map Ai.after)) R T W:=by
 intro l J Jx hJ cO hM hY M0 dH h0;have aG:=Lf d W bV;obtain⟨nm,tx,sa,sc,ss⟩:=d;obtain⟨bK,bZ,cI⟩:=id bV;obtain⟨N,hN⟩:=qeX ss.length;simp only at bK bZ cI aJ bW aG hY ⊢;rw[hN]at bZ aJ;unfold Af.val at aG;simp only[hN]at aG;have dK:N≤maxLen:=by omega
 unfold maxLen at dK;obtain⟨NS,aT⟩:=qeX (ss.map Ai.name);obtain⟨I,bQ⟩:=qeX (ss.map Ai.after);rw[aT]at aG;rw[aT,bQ]at hY ⊢;have cY:∀r,M0 r→r<W.heap.size∧¬R r:=hM 0 M0 W h0
 have cM:∀m i x M V,(P28.refL NS 0 I)[i]?=some x→J i M V→W.heap.size≤V.heap.size→YieldAt Fence.wide m Tryz.prog l (I0 x) V fun e W'=>
   ∃M',Aj M V M' W'∧((e=.returned (.bool true)∧J (i+1) M' W')∨(e=.returned (.bool false)∧Jx (i+1) M' W')):=
  fun m i x M V hx hj hs=>YieldAt.anyD rfl m (hY i x M V hx hj hs)
 obtain⟨⟨x0,_⟩,⟨x1,_⟩,⟨x2,_⟩⟩:=Ag aJ;have cN:=Ab aG;have cU:=Ab aJ;have cV:=Ab bK;have aW:=Ab aX;have cZ:=Ab cH;have bT:=Ab cY;have HM:=Ab hM;have HJ:=Ab hJ;have eD:=Ab cO;have HY:=Ab cM;have HN:=Ab hN;have eF:=Ab aT;have cT:=Ab bQ;have dR:=Ab bW;have cW:=Ab hR;clear aG aJ bK bV aX cH cY hM hJ cO hY cM hN aT bQ bW hR dH bZ cI;refine callsIn_of_wp Tryz.func142 rfl trivial ?_ rfl;simp only[Tryz.ntmps142,zE,qE,qP,Nat.reduceAdd,Nat.reduceSub,Array.replicate_succ,Array.replicate_zero,List.push_toArray,List.append_toArray,zR,zQ]
 gi_upto_region 1 with(refine⟨trivial,fun h=>(by cases h),?_⟩;gi_at_call 143;refine(callsIn_wide.2 (Aa cN)).mono ?_;rintro e w1 ⟨bm,LM,rfl,eE,bM,hlk,aH⟩)
 have aO:=(aH.block bx (Aa cW _ (Aa cZ))).trans (Aa cU);have bE:=(Aa cV).below aH;have cC:=(Aa HJ) 0 M0 W w1 none h0 (A4 aH none) (fun r e=>by cases e);have eG:=aH.size;have cX:=bM.lt;obtain⟨⟨y0,_⟩,⟨y1,_⟩,⟨y2,_⟩⟩:=Ag aO;have dG:=Ab bM;have dP:=Ab hlk;have cF:=Ab aO;have bF:=Ab bE;have dY:=Ab cC;clear x0 x1 x2 bM hlk aH aO bE cC h0 cU cV cN
 gi_wp2
 gi_loopg [15] N (fun g dX wx=>∃(i:Nat) (M:Nat→Prop),i+g=N∧dX=.int .i64 i∧Hid (Aj M0 w1 M wx)∧Hid (J (Ex NS I i) M wx))
 case atStart=>exact⟨0,M0,by omega,by go_num,Ab (Aj.refl _ _),dY⟩
 case round=>
  obtain⟨i,M,eB,rfl,HK,aS⟩:=hrel;clear y0 y1 y2;have hk:=Aa HK;have aL:∀r,R r→¬M0 r:=fun r h1 h2=>(Aa bT r h2).2 h1;have aN:=hk.at (aL bx (Aa cZ)) (Aa cF);have aE:=(Aa dG).keep (hk.same bm (fun h=>by have:=(Aa bT bm h).1;omega) cX);have aK:=(Aa bF).keep (fun r hr=>hk.same r (aL r (Aa aW r hr)) ((Aa bF).lt hr));have eJ:=hk.size;obtain⟨⟨y0,_⟩,⟨y1,_⟩,⟨y2,_⟩⟩:=Ag aN;cases gk with
  |zero=>
   have e1:(N:Int)≤(i:Int):=by omega
   have j1:decide ((i:Int)<(N:Int))=false:=by simp;omega
   have hfin:=Aa aS;rw[Xw (by rw[←Aa cT,qX,Aa HN];omega)]at hfin;have aP:=Ab hfin;clear hfin hk aN aE aK
   gi_wp2
   go_end0;exact⟨⟨_,rfl⟩,M,.inl (Aa aP)⟩
  |succ g'=>
   have eH:(i:Int)<(N:Int):=by omega
   have eM:IntKind.i64.wrap ((i:Int)+1)=(i:Int)+1:=qG _ (by omega);obtain⟨s1,aQ⟩:=Ap (Aa HN) (show i<N by omega);have aI:I[i]?=some s1.after:=by rw[←Aa cT,zJ,aQ];rfl
   have bD:=Aa dR s1 (qN aQ);have cS:∀r,s1.blk r→R r:=fun r hr=>Aa aW r (.inr ⟨s1,qN aQ,hr⟩);obtain⟨b1,o1,rfl,c1,bG⟩:=aK.get aQ;obtain⟨n1,a1,u1,cK,dJ,cD,q1,dT,dQ,dN,⟨k1,t1,dA,dS,dB,dC,dM,dD,l1⟩⟩:=s1;obtain⟨⟨c0,c1,c2,c3⟩,⟨c4,c5,c6,c7⟩,⟨c8,c9,c10,c11,c12⟩⟩:=Ar c1;simp only[Ai.aV,Nd.kind,Nd.text,Nd.kV,Nd.dV,Nd.line,Nd.ka,Nd.kc,Nd.keys,Nd.da,Nd.dc,Nd.kids]at c0 c1 c2 c3 c4 c5 c6 c7 c8 c9 c10 c11 c12 aI bD;obtain⟨A,hA⟩:=qeX cD.length;rw[hA]at c3 bD;have aB:=bG.keys;simp only at aB;obtain⟨K,hK⟩:=qeX wr.heap.size;obtain⟨V,hV,bJ,r0,eL⟩:=As wr (.cells #[.string ⟨n1.toArray⟩,.string ⟨a1.toArray⟩,.string ⟨u1.toArray⟩,.slice cK A dJ,.int .i64 q1,.int .i64 dT,.int .i64 dQ,.int .i64 dN,.int .u8 k1,.string ⟨t1.toArray⟩,.slice dA dB.length dS,.slice dC dD.length dM,.int .i64 l1] 63) K hK;have cB:=(Aa HJ) _ M wr V none (Aa aS) (by rw[←hV];exact qQ _ _ _) (fun r e=>by cases e);have cQ:=(Aa HM) _ M wr (Aa aS);have cL:=aE.keep (bJ.block bm (by have:=aE.lt;omega));have cJ:Ft V cK cD:=aB.keep (fun r hn hr=>bJ.block r (by have:=bG.lt (.inl ⟨hn,hr⟩);omega));have y0:=(Am r0).2.2.2.1;have cP:∀r,R r→¬M r:=fun r h1 h2=>(cQ r h2).2 h1
   have aU:¬M bm:=fun h=>by
    rcases hk.more bm h with h|h
    ·have:=(Aa bT bm h).1;omega
    ·omega
   have dI:=Ab (hk.trans (Aj.grown (row:=none) (show wr.grownBy V none by rw[←hV];exact qQ _ _ _) (fun r e=>by cases e)));have HV:=Ab hV;have dE:=Ab cB;have dW:=Ab cL;have dF:=Ab cJ;have aZ:=Ab aI;have HA:=Ab hA;have dU:=Ab cP;have cR:=Ab aU;have cG:=Ab cS;clear hk aN aE aK aB bG aQ aI hA hV bJ r0 cB cQ cL cJ aL aS HK cP aU cS
   gi_upto_region 4 with fail
   rw[Aa HV]
   gi_wp2
   gi_loopg [23] A (fun g2 dZ wy=>∃(j:Nat) (M2:Nat→Prop),j+g2=A∧dZ=.int .i64 j∧Hid (Aj M V M2 wy)∧Hid (J (Ex NS I i+j) M2 wy))
   case atStart=>exact⟨0,M,by omega,by go_num,Ab (Aj.refl _ _),dE⟩
   case round=>
    obtain⟨j,M2,eI,rfl,bY,bX⟩:=hrel;clear y0;have aA:=Aa bY;have aC:=(Aa dW).keep (aA.same bm (Aa cR) (by omega));have aD:=(Aa dF).keep (fun r hn hr=>aA.same r (Aa dU r (Aa cG r (.inl ⟨hn,hr⟩))) (by have:=Aa cW r (Aa cG r (.inl ⟨hn,hr⟩));omega));have eC:=aA.size;cases gk with
    |zero=>
     have e1:(A:Int)≤(j:Int):=by omega
     have j1:decide ((j:Int)<(A:Int))=false:=by simp;omega
     have hfin:=Aa bX;rw[show j=A by omega,←Aa HA,←U6 (Aa aZ)]at hfin;have aP:=Ab hfin;have dL:=Ab ((Aa dI).trans aA);clear hfin aA aC aD
     gi_wp2
     go_roundg g'
     case measure=>omega
     case rel=>exact⟨i+1,M2,by omega,by go_num,dL,aP⟩
    |succ g2'=>
     have eA:(j:Int)<(A:Int):=by omega
     have hkj:IntKind.i64.wrap ((j:Int)+1)=(j:Int)+1:=qG _ (by omega);obtain⟨x,hx⟩:=Ap (Aa HA) (show j<A by omega);obtain⟨b2,o2,rfl,eK⟩:=aD j x hx;have Z:=Yw (ns:=NS) (Aa aZ) hx;have aM:=Aa dP x;have aY:=Ab aC;obtain⟨tt,cA⟩:=qeX (P28.idx NS x);rw[cA]at aM Z;cases tt with
     |none=>
      have bO:=((Aa HY) (n-1) _ _ M2 wr Z (Aa bX) (by omega)).mono
       (R':=fun e W'=>∃bb,e=.returned (.bool bb)∧Hid (∃M',Aj M2 wr M' W'∧((bb=true∧J (Ex NS I i+j+1) M' W')∨(bb=false∧Jx (Ex NS I i+j+1) M' W')))) (by
        rintro e W' ⟨M',hk,(⟨rfl,h⟩|⟨rfl,h⟩)⟩
        ·exact⟨true,rfl,Ab ⟨M',hk,.inl ⟨rfl,h⟩⟩⟩
        ·exact⟨false,rfl,Ab ⟨M',hk,.inr ⟨rfl,h⟩⟩⟩)
      obtain⟨fn,tmps,assign,body,hy,hR⟩:=bO;replace hy:(Instr.yield l #[.agg #[.int .i64 i,.string ⟨x.toArray⟩,.int .i64 (-1)]]).run Tryz.prog wr=.ok (.round l fn tmps assign body) wr:=hy;have bI:=Ab aM;have bU:Ex NS I i+j<(P28.refL NS 0 I).length:=(qI.1 Z).1;clear aM Z aA aC aD hx cA
      gi_wp2_with (refine Fs rfl _ _ rfl (Aa aY) Sq Tryz.underlying205 (Dc _) rfl x rfl (Aa bI) ?_)
      refine⟨fun h=>(by cases h),hR.mono ?_⟩;rintro e W3 ⟨bb,rfl,HB⟩;clear hy hR;cases bb
      ·gi_wp2
       refine qV (results_none rfl _ _ _) rfl ?_;obtain⟨M',hk,(⟨h,_⟩|⟨_,h⟩)⟩:=Aa HB
       ·cases h
       ·exact⟨⟨_,rfl⟩,M',.inr ⟨_,bU,h⟩⟩
      ·have aR:∃M',Aj M2 wr M' W3∧J (Ex NS I i+(j+1)) M' W3:=by
        obtain⟨M',hk,(⟨_,h⟩|⟨h,_⟩)⟩:=Aa HB
        ·exact⟨M',hk,h⟩
        ·cases h
       have bL:=Ab aR;clear aR HB
       gi_wp2
       go_roundg g2'
       case measure=>omega
       case rel=>
        obtain⟨M',hk,h⟩:=Aa bL;exact⟨j+1,M',by omega,by go_num,Ab ((Aa bY).trans hk),Ab h⟩
     |some q=>
      have bO:=((Aa HY) (n-1) _ _ M2 wr Z (Aa bX) (by omega)).mono
       (R':=fun e W'=>∃bb,e=.returned (.bool bb)∧Hid (∃M',Aj M2 wr M' W'∧((bb=true∧J (Ex NS I i+j+1) M' W')∨(bb=false∧Jx (Ex NS I i+j+1) M' W')))) (by
        rintro e W' ⟨M',hk,(⟨rfl,h⟩|⟨rfl,h⟩)⟩
        ·exact⟨true,rfl,Ab ⟨M',hk,.inl ⟨rfl,h⟩⟩⟩
        ·exact⟨false,rfl,Ab ⟨M',hk,.inr ⟨rfl,h⟩⟩⟩)
      obtain⟨fn,tmps,assign,body,hy,hR⟩:=bO;replace hy:(Instr.yield l #[.agg #[.int .i64 i,.string ⟨x.toArray⟩,.int .i64 (q)]]).run Tryz.prog wr=.ok (.round l fn tmps assign body) wr:=hy;have bC:lk LM x=some (.int .i64 (q:Int)):=aM;have bI:=Ab bC;clear bC;have bU:Ex NS I i+j<(P28.refL NS 0 I).length:=(qI.1 Z).1;clear aM Z aA aC aD hx cA
      gi_wp2_with (refine Fs rfl _ _ rfl (Aa aY) Sq Tryz.underlying205 (Dc _) rfl x rfl (Aa bI) ?_)
      refine⟨fun h=>(by cases h),hR.mono ?_⟩;rintro e W3 ⟨bb,rfl,HB⟩;clear hy hR;cases bb
      ·gi_wp2
       refine qV (results_none rfl _ _ _) rfl ?_;obtain⟨M',hk,(⟨h,_⟩|⟨_,h⟩)⟩:=Aa HB
       ·cases h
       ·exact⟨⟨_,rfl⟩,M',.inr ⟨_,bU,h⟩⟩
      ·have aR:∃M',Aj M2 wr M' W3∧J (Ex NS I i+(j+1)) M' W3:=by
        obtain⟨M',hk,(⟨_,h⟩|⟨h,_⟩)⟩:=Aa HB
        ·exact⟨M',hk,h⟩
        ·cases h
       have bL:=Ab aR;clear aR HB
       gi_wp2
       go_roundg g2'
       case measure=>omega
       case rel=>
        obtain⟨M',hk,h⟩:=Aa bL;exact⟨j+1,M',by omega,by go_num,Ab ((Aa bY).trans hk),Ab h⟩
end Go.Proofs.YtefokfbgpfcbkaaGreat
namespace Go.Proofs.YtefokfbgpfcbkaaGreat
open Go.RowKit
def iv(j:Nat):Value:=.int .i64 (j:Int)
theorem Oo:(Tryz.prog.info? 3).map (fun i=>(i.zero,i.size,i.bytes))=some (some (.int .i64 0),1,8):=by kernel_rfl
theorem Uf:(Tryz.prog.info? 48).map (fun i=>(i.zero,i.size,i.bytes))=some (some (.slice none 0 0),1,24):=by kernel_rfl
def A5(W:World)(B:Nat)(v:Value)(l:List Nat):Prop:=W.ownsRow B 3 1 v l.length (l.map iv)
theorem A5.nil(W:World)(B:Nat):A5 W B (.slice none 0 0) []:=World.ownsRow_nil W B 3 1
theorem A5.keep{W W':World}{B:Nat}{v:Value}{l:List Nat}(h:A5 W B v l)(hk:∀g,v.ownBlock=some g→W'.heap[g]?=W.heap[g]?):A5 W' B v l:=Du h hk
theorem A5.lt{W:World}{B:Nat}{v:Value}{l:List Nat}(h:A5 W B v l){g:Nat}(hg:v.ownBlock=some g):B≤g∧g<W.heap.size:=Ax h g hg
theorem A5.base{W:World}{B J:Nat}{v:Value}{l:List Nat}(h:A5 W B v l)(hB:J≤B):A5 W J v l:=by
 refine⟨h.1,?_⟩;rcases h.2 with h2|⟨g,cap,I,Z,e2,e3⟩
 ·exact .inl h2
 ·exact .inr ⟨g,cap,I,Z,qK hB e2,e3⟩
def J4(W:World)(a:Option Addr)(l:List Nat):Prop:=∀i x,l[i]?=some x→∃b o,a=some ⟨b,o,none⟩∧W.cell? ⟨b,o+i,none⟩=some (iv x)
theorem A5.slice{W:World}{B:Nat}{v:Value}{l:List Nat}(h:A5 W B v l):∃a c,v=.slice a l.length c∧l.length≤c∧c≤maxLen∧J4 W a l:=by
 rcases h.2 with⟨rfl,h0⟩|⟨g,cap,I,rfl,hb,hh,hc,hm,hsz,J⟩
 ·have:l=[]:=qT h0;subst this;exact⟨none,0,rfl,qJ _,Nat.zero_le _,fun i x hx=>by simp at hx⟩
 ·refine⟨_,cap,rfl,hc,hm,fun i x hx=>⟨g,0,rfl,?_⟩⟩;have Z:=(qI.1 hx).1;have h1:(l.map iv)[i]?=some (iv x):=by rw[zJ,hx];rfl
  rw[←J,List.getElem?_take_of_lt (by omega)]at h1;rw[Nat.zero_add,cell_of_row W g i I _ (0,0) hh];simpa using h1
structure C0 (W:World) (B b:Nat) (vs:Nat→Value) (R:List (List Nat)):Prop where
 row:W.rowIs b 48 R.length vs
 base:B≤b
 own:∀i l,R[i]?=some l→A5 W B (vs i) l
 apart:∀i,i<R.length→(vs i).ownBlock≠some b
 sep:∀i j g,i<R.length→j<R.length→i≠j→(vs i).ownBlock=some g→(vs j).ownBlock≠some g
def Ce(b:Nat)(vs:Nat→Value)(n:Nat)(g:Nat):Prop:=g=b∨∃i,i<n∧(vs i).ownBlock=some g
theorem C0.keep{W W':World}{B b:Nat}{vs:Nat→Value}{R:List (List Nat)}(h:C0 W B b vs R)(hk:∀g,Ce b vs R.length g→W'.heap[g]?=W.heap[g]?):C0 W' B b vs R:=
 ⟨h.row.of_block (hk b (.inl rfl)),h.base,fun i l hi=>(h.own i l hi).keep (fun g hg=>hk g (.inr ⟨i,(qI.1 hi).1,hg⟩)),h.apart,h.sep⟩
theorem C0.lt{W:World}{B b:Nat}{vs:Nat→Value}{R:List (List Nat)}(h:C0 W B b vs R){g:Nat}(hg:Ce b vs R.length g):B≤g∧g<W.heap.size:=by
 rcases hg with rfl|⟨i,hi,hg⟩
 ·exact⟨h.base,h.row.lt⟩
 ·exact(h.own i _ (qO hi)).lt hg
theorem C0.below{W W':World}{B b:Nat}{vs:Nat→Value}{R:List (List Nat)}(h:C0 W B b vs R)(hb:Below W.heap.size W W'):C0 W' B b vs R:=h.keep (fun g hg=>hb.block g (h.lt hg).2)
theorem C0.low{W:World}{B I b:Nat}{vs:Nat→Value}{R:List (List Nat)}(h:C0 W B b vs R)(hB:I≤B):C0 W I b vs R:=⟨h.row,qK hB h.base,fun i l hi=>(h.own i l hi).base hB,h.apart,h.sep⟩
theorem C0.put{W W1:World}{B b:Nat}{vs:Nat→Value}{R:List (List Nat)}(h:C0 W B b vs R){i:Nat}(hi:i<R.length){l':List Nat}{v':Value}(ho:A5 W1 B v' l')(hg:W.grownBy W1 (vs i).ownBlock)(aB:v'.ownBlock=(vs i).ownBlock∨∃g,v'.ownBlock=some g∧W.heap.size≤g) :
  C0 (W1.setCell ⟨b,i,none⟩ v') B b (fun j=>if j=i then v' else vs j) (R.set i l'):=by
 have aD:v'.ownBlock≠some b:=fun e=>by
  rcases aB with h1|⟨g,h1,h2⟩
  ·rw[h1]at e;exact h.apart i hi e
  ·rw[h1]at e;cases e;have:=h.row.lt;omega
 have aG:W1.heap[b]?=W.heap[b]?:=hg.block b h.row.lt (fun e=>h.apart i hi e.symm)
 have aA:∀j,j<R.length→j≠i→∀g,(vs j).ownBlock=some g→v'.ownBlock≠some g∧g≠b∧W1.heap[g]?=W.heap[g]?:=fun j hj I g J=>by
  have hl:=((h.own j _ (qO hj)).lt J).2;refine⟨fun e=>?_,fun e=>h.apart j hj (by rw[J,e]),hg.block g hl (fun e=>h.sep j i g hj hi I J e.symm)⟩;rcases aB with h1|⟨g2,h1,h2⟩
  ·rw[h1]at e;exact h.sep j i g hj hi I J e
  ·rw[h1]at e;cases e;omega
 refine⟨?_,h.base,fun j l hj=>?_,fun j hj=>?_,fun j k g hj hk aC J=>?_⟩
 ·rw[List.length_set];exact(h.row.of_block aG).set i v'
 ·rw[List.getElem?_set]at hj;by_cases I:i=j
  ·subst I;rw[if_pos rfl,if_pos hi]at hj;cases hj;simp only[if_true];exact ho.keep (fun g J=>qC _ _ _ _ (fun e=>aD (by rw[J];exact congrArg some e)))
  ·rw[if_neg I]at hj;have aE:=(qI.1 hj).1;simp only[if_neg (Ne.symm I)];refine(h.own j l hj).keep (fun g J=>?_);obtain⟨_,q2,q3⟩:=aA j aE (Ne.symm I) g J;exact(qC _ _ _ _ q2).trans q3
 ·rw[List.length_set]at hj;by_cases I:j=i
  ·simp only[if_pos I];exact aD
  ·simp only[if_neg I];exact h.apart j hj
 ·rw[List.length_set]at hj hk;by_cases I:j=i
  ·have Z:k≠i:=fun e=>aC (I.trans e.symm);simp only[if_pos I]at J;simp only[if_neg Z];intro e;exact(aA k hk Z g e).1 J
  ·simp only[if_neg I]at J;by_cases Z:k=i
   ·simp only[if_pos Z];exact(aA j hj I g J).1
   ·simp only[if_neg Z];exact h.sep j k g hj hk aC J
theorem Vn{W:World}{B b n:Nat}(h:W.rowIs b 48 n (fun _=>.slice none 0 0))(hB:B≤b):C0 W B b (fun _=>.slice none 0 0) (List.replicate n []) where
 row:=by rw[List.length_replicate];exact h
 base:=hB
 own:=fun i l hi=>by
  have:l=[]:=by
   have:=qN hi;exact(List.mem_replicate.1 this).2
  subst this;exact A5.nil W B
 apart:=fun i _ e=>by cases e
 sep:=fun i j g _ _ _ e=>by cases e
open Go.RowKit
attribute [local go_sem] Oper.semAt_some
theorem Vp{W:World}{a:Option Addr}{l:List Nat}(h:J4 W a l)(hn:l≠[]):∃b o,a=some ⟨b,o,none⟩∧∀j,j<(l.map (fun x:Nat=>(x:Int))).length→W.cell? ⟨b,o+j,none⟩=some (.int .i64 ((l.map (fun x:Nat=>(x:Int))).getD j 0)):=by
 obtain⟨x,r,rfl⟩:∃x r,l=x::r:=by cases l with|nil=>exact absurd rfl hn|cons x r=>exact⟨x,r,rfl⟩
 obtain⟨b,o,rfl,_⟩:=h 0 x rfl;refine⟨b,o,rfl,fun j hj=>?_⟩;rw[qX]at hj;obtain⟨I,o',e,hc⟩:=h j _ (qO hj);cases e;rw[hc];unfold iv
 congr 2
 rw[List.getD_eq_getElem?_getD,zJ,qO hj];rfl
theorem Gy(a:Option Addr)(c:Nat)(l:List Nat)(x:Int)(w:World)(h:J4 w a l)(hl:l.length≤maxLen) :
  Calls Tryz.prog 77 #[.slice a l.length c,.int .i64 x] w fun e w'=>e=.returned (.bool (decide (x∈l.map (fun y:Nat=>(y:Int)))))∧w'=w:=by
 unfold maxLen at hl;by_cases hn:l=[]
 ·subst hn;exact Tryz.slices_Contains_int_empty a c x w
 ·obtain⟨b,o,rfl,hc⟩:=Vp h hn;refine(Tryz.slices_Contains_int b o l.length c (l.map (fun y:Nat=>(y:Int))) x w (by simp) (by omega) hc).mono ?_;rintro e w' ⟨rfl,rfl⟩;refine⟨Ao ?_,rfl⟩;rw[List.take_of_length_le (by simp),Bool.eq_iff_iff,List.contains_iff_mem,decide_eq_true_eq]
def C1(L:List P28.Ref)(N i:Nat):List (List Nat):=(L.take i).foldl P28.addRef (List.replicate N [])
theorem Qw{L:List P28.Ref}{N i:Nat}{r:P28.Ref}(h:L[i]?=some r):C1 L N (i+1)=P28.addRef (C1 L N i) r:=by
 unfold C1;rw[List.take_add_one,h,show (some r).toList=[r] from rfl,List.foldl_append];rfl
theorem Eg:∀(L:List P28.Ref) (o:List (List Nat)),(L.foldl P28.addRef o).length=o.length
 | [],o=>rfl
 |r::L,o=>by rw[List.foldl_cons,Eg L];simp[P28.addRef]
theorem Tf(L:List P28.Ref)(N i:Nat):(C1 L N i).length=N:=by unfold C1;rw[Eg];simp
theorem Mo(i:Nat)(l:List Nat)(I:Option Nat):(P28.addTo i l I).length≤l.length+1:=by
 unfold P28.addTo;split
 ·split<;>simp
 ·omega
theorem Fi:∀(L:List P28.Ref) (o:List (List Nat)) (k:Nat),(∀(j:Nat) (l:List Nat),o[j]?=some l→l.length≤k)→∀(j:Nat) (l:List Nat),(L.foldl P28.addRef o)[j]?=some l→l.length≤k+L.length
 | [],o,k,h,j,l,hj=>h j l hj
 |r::L,o,k,h,j,l,hj=>by
  rw[List.foldl_cons]at hj
  have:=Fi L (P28.addRef o r) (k+1) (fun Z J I=>by
   unfold P28.addRef at I;rw[List.getElem?_set]at I;split at I
   ·split at I
    ·cases I;refine qK (Mo _ _ _) ?_;rw[List.getD_eq_getElem?_getD];cases hq:o[r.1]? with
     |none=>simp
     |some q=>have:=h _ _ hq;simp;omega
    ·cases I
   ·have:=h Z J I;omega) j l hj
  simp only[qE];omega
theorem D2(ns:List (List UInt8))(c:Nat):∀(a:List (List (List UInt8))) (k:Nat),(∀x∈a,x.length≤c)→(P28.refL ns k a).length≤a.length*c
 | [],k,h=>by simp[P28.refL]
 |x::a,k,h=>by
  have e:P28.refL ns k (x::a)=x.map (fun y=>(k,y,P28.idx ns y))++P28.refL ns (k+1) a:=rfl;have h1:=D2 ns c a (k+1) (fun y hy=>h y (by simp[hy]));have h2:=h x (by simp);rw[e,qH,qX,qE,Nat.add_mul];omega
theorem Lj(ns:List (List UInt8)):∀(a:List (List (List UInt8))) (k:Nat) (r:P28.Ref),r∈P28.refL ns k a→r.1<k+a.length
 | [],k,r,h=>by simp[P28.refL]at h
 |x::a,k,r,h=>by
  have e:P28.refL ns k (x::a)=x.map (fun y=>(k,y,P28.idx ns y))++P28.refL ns (k+1) a:=rfl;rw[e]at h;rcases zG.1 h with h|h
  ·obtain⟨y,_,rfl⟩:=List.mem_map.1 h;simp
  ·have:=Lj ns a (k+1) r h;simp;omega
theorem F1{o:List (List Nat)}{i:Nat}{x:List UInt8}{I:Option Nat}{l:List Nat}(h:o[i]?=some l)(hs:P28.addTo i l I=l):P28.addRef o (i,x,I)=o:=by
 unfold P28.addRef;simp only;have e:o.getD i []=l:=by rw[List.getD_eq_getElem?_getD,h];rfl
 rw[e,hs];obtain⟨h1,h2⟩:=qI.1 h;rw[←h2];simp
theorem Pl{o:List (List Nat)}{i:Nat}{x:List UInt8}{j:Nat}{l:List Nat}(h:o[i]?=some l)(hj:j≠i)(hl:j∉l):P28.addRef o (i,x,some j)=o.set i (l++[j]):=by
 unfold P28.addRef;simp only;have e:o.getD i []=l:=by rw[List.getD_eq_getElem?_getD,h];rfl
 rw[e];unfold P28.addTo;simp only;rw[if_pos ⟨hj,hl⟩]
structure RfI (w:World) (H N:Nat) (Rw:List (List Nat)) (X M:Nat→Prop) (V:World):Prop where
 grid:∃vs,C0 V H (H+1) vs Rw∧(∀g,Ce (H+1) vs N g→M g∧¬X g)
 len:Rw.length=N
 box:V.heap[H+1+1]?=some (.cells #[.slice (some ⟨H+1,0,none⟩) N N] 47)
 below:Below H w V
 size:H+4≤V.heap.size
 ms:∀g,M g→H≤g∧g≠H+1+1∧g≠H+1+1+1∧g<V.heap.size
theorem RfI.abides{w:World}{H N:Nat}{Rw:List (List Nat)}{X M:Nat→Prop}{V V':World}{row:Option Nat}(h:RfI w H N Rw X M V)(hg:V.grownBy V' row)(hr:∀r,row=some r→¬M r∧¬(r<H∨r=H+1+1∨r=H+1+1+1)):RfI w H N Rw X M V':=by
 obtain⟨⟨vs,Z,I⟩,hl,hb,aB,hs,hm⟩:=h;refine⟨⟨vs,Z.keep (fun g J=>hg.block g (Z.lt J).2 (fun e=>?_)),I⟩,hl,(hg.block _ (by omega) (fun e=>?_)).trans hb,aB.grown hg (by omega) (fun k e=>?_),qK hs hg.size,fun g aA=>?_⟩
 ·exact(hr g e.symm).1 (I g (by rw[←hl];exact J)).1
 ·exact(hr _ e.symm).2 (.inr (.inl rfl))
 ·have:=(hr k e).2;omega
 ·have:=hm g aA;have:=hg.size;omega
theorem Dw{ops:Array Oper}{xs I:List Value}(n m:Nat)(hd:((List.range' n m).all fun t=>ops.any fun o=>o.dst==some t)=true)(h1:xs.take n=I.take n)(h2:xs.drop (n+m)=I.drop (n+m))(t:Nat):(∃(i:Nat) (o:Oper),ops[i]?=some o∧o.dst=some t)∨xs.toArray[t]?=I.toArray[t]?:=by
 by_cases ha:t<n
 ·right
  have:=congrArg (fun l:List Value=>l[t]?) h1;simpa[List.getElem?_take,ha]using this
 ·by_cases hb:t<n+m
  ·left
   have h3:=List.all_eq_true.1 hd t (List.mem_range'_1.2 ⟨by omega,by omega⟩);obtain⟨o,ho,h4⟩:=Array.any_eq_true'.1 h3;obtain⟨i,hi,rfl⟩:=Array.mem_iff_getElem.1 ho;exact⟨i,_,Array.getElem?_eq_getElem hi,beq_iff_eq.1 h4⟩
  ·right
   have:=congrArg (fun l:List Value=>l[t-(n+m)]?) h2;simp only[zL,show n+m+(t-(n+m))=t by omega]at this;simpa using this
def Xk(U:World)(H J:Nat)(v:Value)(l:List Nat)(j:Nat):Nat→Value→Value→World→Prop
 |0,_,_,W=>W=U
 |1,x3,_,W=>W=U.alloc (.cells #[.int .i64 j] 3)∧x3=.slice (some ⟨U.heap.size,0,none⟩) 1 1
 |2,_,x4,W=>A5 W H x4 (l++[j])∧(U.alloc (.cells #[.int .i64 j] 3)).grownBy W v.ownBlock∧(v.ownBlock=x4.ownBlock∨∃g,x4.ownBlock=some g∧U.heap.size+1≤g)
 |_,_,x4,W=>∃I,A5 I H x4 (l++[j])∧(U.alloc (.cells #[.int .i64 j] 3)).grownBy I v.ownBlock∧(v.ownBlock=x4.ownBlock∨∃g,x4.ownBlock=some g∧U.heap.size+1≤g)∧W=I.setCell ⟨H+1,J,none⟩ x4
theorem Xk.keep{U:World}{H J:Nat}{v:Value}{l:List Nat}{j k:Nat}{x3 x4:Value}{W:World}(h:Xk U H J v l j k x3 x4 W)(hk:k≤2){b:Nat}(hb:b<U.heap.size)(I:some b≠v.ownBlock):W.heap[b]?=U.heap[b]?:=by
 match k,hk with
 |0,_=>rw[show W=U from h]
 |1,_=>rw[h.1];exact heap_alloc_old U _ hb
 |2,_=>exact(h.2.1.block b (by simp;omega) I).trans (heap_alloc_old U _ hb)
theorem Zd{W:World}{B:Nat}{v:Value}{l:List Nat}{j:Nat}{g cap ty:Nat}(Z:A5 W B v l)(J:W.cell? ⟨g,0,none⟩=some (.int .i64 j))(aB:l.length+1≤1000000000000)(hB:B≤W.heap.size) :
  ∃g' I w',(Builtin.append_ #[48,48] ty #[v,.slice (some ⟨g,0,none⟩) 1 cap]).run Tryz.prog W=.ok (.slice (some ⟨g',0,none⟩) (l.length+1) I) w'∧A5 w' B (.slice (some ⟨g',0,none⟩) (l.length+1) I) (l++[j])∧W.grownBy w' v.ownBlock∧(v.ownBlock=some g'∨g'=W.heap.size):=by
 obtain⟨i,hi,hz,hsz,aA⟩:=info_parts Oo
 obtain⟨g',I,w',h1,h2,h3,h4,_⟩:=run_append_lies (P:=Tryz.prog) W 48 ty B 3 i (.int .i64 0) 1 8 Tryz.underlying48 hi hz hsz aA rfl (by decide) v l.length (l.map iv) Z
  ⟨g,0,none⟩ 1 cap [.int .i64 j] rfl (by intro k u hk;match k,hk with|0,hk=>simp at hk;subst hk;exact J) (by intro u hu;simp at hu;subst hu;rfl) (by decide) (by unfold maxLen;omega) (by omega) hB _ rfl
 refine⟨g',I,w',h1,?_,h3,h4⟩;unfold A5;rw[qH,List.map_append];exact h2
theorem Ko(d:Af)(w:World)(cD:d.In w)(hl:d.steps.length≤100000)(cF:∀s∈d.steps,s.after.length≤1000000) :
  Calls Tryz.prog 59 #[d.val] w fun e w'=>∃b vs,e=.returned (.slice (some ⟨b,0,none⟩) d.steps.length d.steps.length)∧C0 w' w.heap.size b vs (P28.refs d.bare)∧Below w.heap.size w w':=by
 have aG:=P28.refs_fold d.bare;have cV:P28.names d.bare=d.steps.map Ai.name:=by simp[P28.names,Af.bare,Ai.bare]
 have has:P28.afters d.bare=d.steps.map Ai.after:=by simp[P28.afters,Af.bare,Ai.bare]
 have cU:d.bare.steps.length=d.steps.length:=by simp[Af.bare]
 rw[cV,has,cU]at aG;obtain⟨L,hL⟩:=qeX (P28.refL (d.steps.map Ai.name) 0 (d.steps.map Ai.after));have bG:=Qu d;obtain⟨RS,cB⟩:=qeX (P28.refs d.bare);have aW:=fun r (hr:d.blk r)=>cD.lt hr;rw[hL,cB]at aG;rw[cB];obtain⟨H,hH⟩:=qeX w.heap.size;rw[hH]at aW ⊢;have aK:=fun(V:World) (bx:Nat) (R T:Nat→Prop) (n:Nat) h1 (h2:d.In V) h3 h4 h5=>Ig n d bx R T V h1 h2 h3 h4 h5 cF;rw[hL]at aK;have dM:=Ab cD;have bY:=Ab aW;have aX:=Ab aK;have aA:=Ab bG;have HL:=Ab hL;have aJ:=Ab aG
 have bX:∀(i:Nat) (r:P28.Ref),L[i]?=some r→r.1<d.steps.length:=fun i r h=>by
  have:=Lj _ _ _ r (by rw[hL];exact qN h);simpa using this
 have cL:L.length≤100000000000:=by
  have h1:=D2 (d.steps.map Ai.name) 1000000 (d.steps.map Ai.after) 0 (fun x hx=>by
   obtain⟨s,hs,rfl⟩:=List.mem_map.1 hx
   exact cF s hs)
  rw[Aa HL,qX]at h1;have h2:d.steps.length*1000000≤100000*1000000:=Nat.mul_le_mul_right _ hl;omega
 have dD:=Ab cL;have bI:=Ab bX;clear cD aW aK bG hL aG cB cV has cU cF bX cL;obtain⟨nm,tx,sa,sc,ss⟩:=d;obtain⟨N,hN⟩:=qeX ss.length;simp only at hl aA aX aJ bI ⊢;unfold Af.val at aA ⊢;simp only at aA ⊢;rw[hN]at hl aA aX aJ bI ⊢;have dX:=fun V=>run_make_row' (P:=Tryz.prog) 47 48 (.slice none 0 0) 24 Tryz.underlying47 Uf rfl .i64 .i64 N (by omega) (by omega) V;obtain⟨W1,cW,cJ,g0,g1,g2,cR⟩:=I5 w (.cells #[.string ⟨nm.toArray⟩,.string ⟨tx.toArray⟩,.slice sa N sc] 24) (.cells (madeCells #[.slice none 0 0] N) 48) (.cells #[.slice (some ⟨H+1,0,none⟩) N N] 47) H hH;have x0:=Ag (qB w (.cells #[.string ⟨nm.toArray⟩,.string ⟨tx.toArray⟩,.slice sa N sc] 24));rw[hH]at x0;have dN:=Ab cW;clear cW;refine(callsIn_wide (n:=40)).1 ?_;refine callsIn_of_wp_marks Tryz.func59 rfl trivial ?_ rfl;simp only[Tryz.ntmps59,zE,qE,qP,Nat.reduceAdd,Nat.reduceSub,Array.replicate_succ,Array.replicate_zero,List.push_toArray,List.append_toArray,zR,zQ]
 gi_upto_region 1 with fail
 try rw[hH]
 gi_upto_region 2 with fail
 rw[Aa dN];have y0:=Ag g0
 gi_upto_region 3 with(refine⟨trivial,?_⟩;gi_at_call 101;refine(callsIn_wide.2 (Aa aA _)).mono ?_;rintro e w2 ⟨rfl,rfl⟩)
 obtain⟨W2,cY,bT,g3,dU⟩:=As W1 (.cells #[.string ⟨nm.toArray⟩,.string ⟨tx.toArray⟩,.slice sa N sc] 24) (H+1+1+1) cR;rw[cY];have bV:Below H w W2:=cJ.trans (bT.mono (by omega));have cP:=(Aa dM).below (by rw[hH];exact bV)
 have r1:W2.rowIs (H+1) 48 N (fun _=>.slice none 0 0):=by
  have h:=(bT.block (H+1) (by omega)).trans g1;exact⟨_,h,size_madeCells _ _,fun i hi=>by simp[madeCells,hi,Nat.mod_one]⟩
 have r2:=(bT.block (H+1+1) (by omega)).trans g2;clear cY x0 y0 cJ bT g0 g1 g2 cR
 refine Bu rfl (by omega) (gf:=142) (lb:=#[.pointer (some ⟨H+1+1+1,0,none⟩)]) rfl trivial (enters_of Tryz.func142 (by kernel_rfl) rfl)
  (encs:=I0) L (fun r=>r<H∨r=H+1+1∨r=H+1+1+1) (fun _=>False) (fun r hr=>by omega)
  (fun V hg _=>(Aa aX) V (H+1+1+1) _ _ _ ((hg.block _ (by omega) (by simp)).trans g3) (cP.keep (fun r hr=>hg.block r (by have:=Aa bY r hr;omega) (by simp))) (fun r hr=>.inl (Aa bY r hr)) (.inr (.inr rfl)) (fun r hr=>by have:=hg.size;omega)) (fun _=>rfl)
  (fun i M V=>RfI w H N (C1 L N i) (fun _=>False) M V) (fun c i M V=>False)
  (fun i M V V' row hi hg hr=>hi.abides hg hr) (fun c i M V V' row hi hg hr=>hi)
  (fun i M V hi r hr=>⟨(hi.ms r hr).2.2.2,by have:=hi.ms r hr;omega⟩)
  (fun r=>Ce (H+1) (fun _=>.slice none 0 0) N r) (fun r hr=>hr.elim)
  ⟨⟨_,Vn r1 (by omega),fun g hg=>⟨hg,fun h=>h⟩⟩,Tf L N 0,r2,bV,by omega,fun g hg=>by
   rcases hg with rfl|⟨i,_,hg⟩
   ·omega
   ·cases hg⟩
  (fun i x M a' V=>∃p,RfI w H N (C1 L N i) (fun g=>g=p) M V∧M p∧V.heap[p]?=some (.cells #[.int .i64 x.1,.string ⟨x.2.1.toArray⟩,.int .i64 (Hn x.2.2)] 167) ∧
   a'={ tmps:=#[(.agg #[sT nm,sT tx,.slice sa N sc]),qP0 H,.slice none 0 0,qP0 (H+1+1),qP0 p,pT H 2,.slice sa N sc,.int .i64 N,.slice (oA (H+1) 0) N N,(.agg #[sT nm,sT tx,.slice sa N sc]),.func (.func 142) #[] #[qP0 (H+1+1+1)],.agg #[.int .i64 x.1,sT x.2.1,.int .i64 (Hn x.2.2)],uZ,uZ,uZ,uZ,uZ,uZ,uZ,uZ,uZ,uZ,uZ,uZ,uZ,uZ,uZ,uZ,uZ,uZ,uZ,uZ,uZ,uZ,uZ,uZ,uZ,uZ,uZ,uZ,uZ,uZ,uZ,uZ,uZ,uZ,uZ],defers:=[] })
  ?hB ?assign ?body ?done ?stop
 case hB=>
  rintro i x M a' V V' row ⟨p,hi,aO,aT,rfl⟩ hg hr;exact⟨p,hi.abides hg hr,aO,(hg.block p (qA.1 aT).1 (fun e=>(hr p e.symm).1 aO)).trans aT,rfl⟩
 case assign=>
  rintro l2 i ⟨I,xn,xt⟩ M V K hx hi hV hK;unfold I0;have J:=qQ V (.cells #[.int .i64 I,.string ⟨xn.toArray⟩,.int .i64 (Hn xt)] 167) none
  have cN:=hK (fun r=>M r∨r=V.heap.size) _ (V.alloc (.cells #[.int .i64 I,.string ⟨xn.toArray⟩,.int .i64 (Hn xt)] 167)) J (fun r hr=>hr.imp id (fun e=>by omega))
   ⟨V.heap.size,by
    obtain⟨⟨vs,h1,h2⟩,h3,h4,h5,h6,h7⟩:=hi;refine⟨⟨vs,h1.below ((qU _ _).alloc (qJ _) _),fun g hg=>⟨.inl (h2 g hg).1,fun e=>?_⟩⟩,h3,(qD _ _ _ (by omega)).trans h4,h5.alloc (by omega) _,by simp;omega,fun g hg=>?_⟩
    ·have:=(h7 g (h2 g hg).1).2.2.2;omega
    ·rcases hg with hg|rfl
     ·have:=h7 g hg;simp;omega
     ·simp;omega,.inr rfl,qB V _,rfl⟩
  have HK:=Ab cN;clear cN hK J
  gi_wp2
  exact Aa HK
 case body=>
  rintro l2 i ⟨I,xn,xt⟩ M a' V hx ⟨p,hi,dJ,aU,rfl⟩ hV;have aM:=Aa bI i _ hx;simp only at aM aU;obtain⟨⟨vs,J,cI⟩,aZ,bF,cM,hsz,dC⟩:=id hi;have aD:=Qw (N:=N) hx;obtain⟨Rw,bZ⟩:=qeX (C1 L N i);rw[bZ]at hi J aZ aD;obtain⟨rl,cH⟩:∃rl,Rw[I]?=some rl:=⟨_,qO (by omega)⟩;have aL:=J.own I rl cH;obtain⟨ra,rc,cO,dY,dQ,cS⟩:=aL.slice;have aS:=J.row.cell (i:=I) (by omega);rw[cO]at aS;obtain⟨b0,f0⟩:=A1 bF
  have aY:∀V',Below V.heap.size V V'→P28.addRef Rw (I,xn,xt)=Rw→∃M',Aj M V M' V'∧RfI w H N (C1 L N (i+1)) (fun _=>False) M' V':=fun V' hb he=>by
   rw[aD,he];have h:=hi.abides (A4 hb none) (fun r e=>by cases e);exact⟨M,.grown (A4 hb none) (fun r e=>by cases e),⟨h.grid.elim fun vs hv=>⟨vs,hv.1,fun g hg=>⟨(hv.2 g hg).1,fun h=>h⟩⟩,h.len,h.box,h.below,h.size,h.ms⟩⟩
  have aI:=Ab aY;have dH:=Ab bZ;have HI:=Ab hi;have dA:=Ab J;have aH:=Ab cI;have bK:=Ab cH;have dL:=Ab aD;have HX:=Ab hx;have bE:=Ab dC;have dP:=Bj;have dZ:Fence.wide.fn 77:=trivial;clear aY hi J cI cH aD hx dC bZ;cases xt with
  |none=>
   have Z:V.heap[p]?=some (.cells #[.int .i64 I,.string ⟨xn.toArray⟩,.int .i64 (-1)] 167):=aU;obtain⟨⟨p0,_⟩,⟨p1,_⟩,⟨p2,_⟩⟩:=Ag Z;clear aU Z
   gi_wp2
   refine Bm (by kernel_rfl) (by kernel_rfl) (by kernel_rfl) ?_
   repeat (go_big_quiet_step (fail))
   refine wpQuiet_nil ?_;rintro _ ⟨nq,rfl⟩
   gi_wp2
   exact Aa aI _ (Ac (qU _ _)) (F1 (Aa bK) rfl)
  |some j=>
   have Z:V.heap[p]?=some (.cells #[.int .i64 I,.string ⟨xn.toArray⟩,.int .i64 j] 167):=aU;obtain⟨⟨p0,_⟩,⟨p1,_⟩,⟨p2,_⟩⟩:=Ag Z;have j0:(0:Int)≤(j:Int):=by omega
   clear aU;by_cases hj:j=I
   ·subst hj;clear Z;have jn:((j:Int) != (j:Int))=false:=by simp
    gi_wp2
    refine Bm (by kernel_rfl) (by kernel_rfl) (by kernel_rfl) ?_
    repeat (go_big_quiet_step (fail))
    refine wpQuiet_nil ?_;rintro _ ⟨nq,rfl⟩
    gi_wp2
    exact Aa aI _ (Ac (qU _ _)) (F1 (Aa bK) (by simp[P28.addTo]))
   ·have jn:((j:Int) != (I:Int))=true:=by simp;omega
    have dB:=fun q=>Gy ra rc rl j (V.drewN q) (fun i x h=>by obtain⟨b,o,e1,e2⟩:=cS i x h;exact⟨b,o,e1,by simpa using e2⟩) (by omega);have bQ:=Ab dB;have dW:=Ab Z;clear dB Z;by_cases hc:j∈rl
    ·have bD:decide ((j:Int)∈rl.map (fun y:Nat=>(y:Int)))=true:=decide_eq_true (List.mem_map.2 ⟨j,hc,rfl⟩);have aC:=(Aa bQ);simp only[bD]at aC;have cC:=Ab aC;clear aC bD bQ
     gi_wp2
     refine Bm (by kernel_rfl) (by kernel_rfl) (by kernel_rfl) ?_
     repeat (go_big_quiet_step (exact Calls.quiet_of_same ((Aa cC) _)))
     refine wpQuiet_nil ?_;rintro _ ⟨nq,rfl⟩
     gi_wp2
     exact Aa aI _ (Ac (qU _ _)) (F1 (Aa bK) (by simp[P28.addTo,hc]))
    ·have bD:decide ((j:Int)∈rl.map (fun y:Nat=>(y:Int)))=false:=decide_eq_false (fun h=>hc (by obtain⟨y,hy,e⟩:=List.mem_map.1 h;have e2:y=j:=(by omega);rw[←e2];exact hy));have aC:=(Aa bQ);simp only[bD]at aC;have cC:=Ab aC;clear aC bD bQ
     gi_wp2
     refine Bm (by kernel_rfl) (by kernel_rfl) (by kernel_rfl) ?_
     repeat (go_big_quiet_step (exact Calls.quiet_of_same ((Aa cC) _)))
     refine wpQuiet_nil ?_;rintro _ ⟨nq,rfl⟩
     gi_wp2
     have aO:some p≠(vs I).ownBlock:=fun e=>((Aa aH) p (.inr ⟨I,aM,e.symm⟩)).2 rfl;have cX:some (H+1+1)≠(vs I).ownBlock:=fun e=>((Aa bE) _ ((Aa aH) _ (.inr ⟨I,aM,e.symm⟩)).1).2.1 rfl;have aT:some (H+1)≠(vs I).ownBlock:=fun e=>(Aa dA).apart I (by omega) e.symm;have cQ:p<V.heap.size:=((Aa bE) p dJ).2.2.2
     have dR:rl.length≤100000000000:=by
      have h1:=Fi (L.take i) (List.replicate N []) 0 (fun j l h=>by rw[List.getElem?_replicate]at h;split at h<;>cases h;simp) I rl (by have:=Aa bK;rw[←Aa dH]at this;exact this);have h2:=Aa dD;rw[qY]at h1;omega
     obtain⟨U,hU⟩:=qeX ((V.drewN nq).drew);have bO:Below V.heap.size V U:=by rw[←hU];exact(Ac (qU _ _)).drew
     have dT:U.heap.size=V.heap.size:=by rw[←hU];rfl
     have cT:=(Aa dA).below bO;have aE:∀(b o:Nat),b<V.heap.size→U.cell? ⟨b,o,none⟩=V.cell? ⟨b,o,none⟩:=fun b o hb=>zC (bO.block b hb)
     have hS:∀k x3 x4 W,Xk U H I (vs I) rl j k x3 x4 W→k≤2→W.cell? ⟨H+1+1,0,none⟩=some (.slice (some ⟨H+1,0,none⟩) N N)∧W.cell? ⟨p,0,none⟩=some (.int .i64 I)∧W.cell? ⟨p,2,none⟩=some (.int .i64 j)∧W.cell? ⟨H+1,I,none⟩=some (.slice ra rl.length rc):=fun k x3 x4 W h hk=>
      ⟨(zC (h.keep (b:=H+1+1) hk (by omega) cX)).trans ((aE _ _ (by omega)).trans b0),(zC (h.keep (b:=p) hk (by omega) aO)).trans ((aE _ _ cQ).trans p0),(zC (h.keep (b:=p) hk (by omega) aO)).trans ((aE _ _ cQ).trans p2),(zC (h.keep (b:=H+1) hk (by omega) aT)).trans ((aE _ _ (by omega)).trans aS)⟩
     have dE:∀k x3 x4 W,Xk U H I (vs I) rl j k x3 x4 W→k≤2→W.frozen? ⟨H+1,I,none⟩=false:=fun k x3 x4 W h hk=>by
      have h1:=cT.row.frozen I;rw[World.frozen?_of_block (h.keep (b:=H+1) hk (by omega) aT)];exact h1
     refine D3 dP [10,11,13] (fun k aF W=>∃x3 x4,aF={ tmps:=#[(.agg #[sT nm,sT tx,.slice sa N sc]),qP0 H,.slice none 0 0,qP0 (H+1+1),qP0 p,pT H 2,.slice sa N sc,.int .i64 N,.slice (oA (H+1) 0) N N,(.agg #[sT nm,sT tx,.slice sa N sc]),.func (.func 142) #[] #[qP0 (H+1+1+1)],.agg #[.int .i64 I,sT xn,.int .i64 (Hn (some j))],pT p 2,.int .i64 j,.bool true,.bool true,pT p 2,.int .i64 j,qP0 p,.int .i64 I,.bool true,.bool true,.bool true,.slice (oA (H+1) 0) N N,qP0 p,.int .i64 I,pT (H+1) I,.slice ra rl.length rc,pT p 2,.int .i64 j,.bool false,.bool true,.bool true,.slice (oA (H+1) 0) N N,qP0 p,.int .i64 I,.slice (oA (H+1) 0) N N,qP0 p,.int .i64 I,pT (H+1) I,.slice ra rl.length rc,pT p 2,.int .i64 j,x3,x4,pT (H+1) I,uZ],defers:=[] }∧Xk U H I (vs I) rl j k x3 x4 W) (aF:=(fun x3 x4=>{ tmps:=#[(.agg #[sT nm,sT tx,.slice sa N sc]),qP0 H,.slice none 0 0,qP0 (H+1+1),qP0 p,pT H 2,.slice sa N sc,.int .i64 N,.slice (oA (H+1) 0) N N,(.agg #[sT nm,sT tx,.slice sa N sc]),.func (.func 142) #[] #[qP0 (H+1+1+1)],.agg #[.int .i64 I,sT xn,.int .i64 (Hn (some j))],pT p 2,.int .i64 j,.bool true,.bool true,pT p 2,.int .i64 j,qP0 p,.int .i64 I,.bool true,.bool true,.bool true,.slice (oA (H+1) 0) N N,qP0 p,.int .i64 I,pT (H+1) I,.slice ra rl.length rc,pT p 2,.int .i64 j,.bool false,.bool true,.bool true,.slice (oA (H+1) 0) N N,qP0 p,.int .i64 I,.slice (oA (H+1) 0) N N,qP0 p,.int .i64 I,pT (H+1) I,.slice ra rl.length rc,pT p 2,.int .i64 j,x3,x4,pT (H+1) I,uZ],defers:=[] }) undef undef) (by kernel_rfl) (by kernel_rfl) (by simp) ⟨undef,undef,rfl,hU⟩ rfl rfl (Dw 33 13 (by kernel_rfl) rfl rfl) ?pure ?write ?fin
     case pure=>
      rintro k aF W i o ⟨x3,x4,rfl,aB⟩ ho cG bU;rcases i with _|_|_|_|_|_|_|_|_|_|_|_|_|_|i
      iterate 10
       ·obtain⟨c1,c2,c3,c4⟩:=hS k x3 x4 W aB (bU 2 13 rfl (by kernel_rfl));refine wq ho rfl rfl rfl rfl ?_
        go_simp
      ·exfalso;simp at cG
      ·exfalso;simp at cG
      ·obtain⟨c1,c2,c3,c4⟩:=hS k x3 x4 W aB (bU 2 13 rfl (by kernel_rfl));refine wq ho rfl rfl rfl rfl ?_
       go_simp
      ·exfalso;simp at cG
      ·exfalso;simp at ho
     case write=>
      rintro k aF W i o ⟨x3,x4,rfl,aB⟩ hi ho;rcases k with _|_|_|k
      ·cases (show some 10=some i from hi);have aP:some _=some o:=ho;cases aP;refine⟨rfl,.inl ⟨.slice (some ⟨U.heap.size,0,none⟩) 1 1,U.alloc (.cells #[.int .i64 j] 3),?_,⟨_,x4,rfl,rfl,rfl⟩⟩⟩;rw[show W=U from aB]
       go_simp
      ·cases (show some 11=some i from hi);have aP:some _=some o:=ho;cases aP;obtain⟨rfl,rfl⟩:=aB;obtain⟨g',dS,w',h1,h2,h3,h4⟩:=Zd (W:=U.alloc (.cells #[.int .i64 j] 3)) (B:=H) (v:=vs I) (l:=rl) (j:=j) (g:=U.heap.size) (cap:=1) (ty:=48) ((aL.keep (fun g hg=>bO.block g (aL.lt hg).2)).keep (fun g hg=>heap_alloc_old U _ (show g<U.heap.size by have:=(aL.lt hg).2;omega))) (by simp) (by unfold maxLen at dQ;omega) (by simp;omega);refine⟨rfl,.inl ⟨_,w',?_,⟨_,_,rfl,h2,h3,h4.imp id (fun e=>⟨g',rfl,by rw[e];simp⟩)⟩⟩⟩;rw[cO]at h1;simp[execOp,resolve,invoke,builtin,Act.eval,h1,Result.andThen]
      ·cases (show some 13=some i from hi);have aP:some _=some o:=ho;cases aP;have hf:=dE 2 x3 x4 W aB (qJ _);obtain⟨c1,c2,c3,c4⟩:=hS 2 x3 x4 W aB (qJ _);obtain⟨h2,h3,h4⟩:=id aB
       obtain⟨b4,o4,n4,k4,rfl⟩:∃b o n k,x4=.slice (some ⟨b,o,none⟩) n k:=by
        obtain⟨a4,k4,e4,_,_,dF⟩:=h2.slice;obtain⟨b,o,e5,_⟩:=dF rl.length j (by simp);exact⟨b,o,_,_,by rw[e4,e5]⟩
       refine⟨rfl,.inr (.inl ⟨W.setCell ⟨H+1,I,none⟩ (.slice (some ⟨b4,o4,none⟩) n4 k4),?_,⟨_,_,rfl,W,h2,h3,h4,rfl⟩⟩)⟩
       go_simp
      ·simp at hi
     case fin=>
      rintro k aF W hk ⟨x3,x4,rfl,aB⟩;obtain⟨k,rfl⟩:∃k',k=k'+3:=⟨k-3,by simp at hk;omega⟩;obtain⟨W1,aN,J,cA,rfl⟩:=id aB;have cZ:=cT.below ((qU U.heap.size U).alloc (qJ _) (.cells #[.int .i64 j] 3));have bC:=cZ.put (i:=I) (by omega) aN J (cA.imp Eq.symm (fun⟨g,e,h⟩=>⟨g,e,by simpa using h⟩));have dG:=J.size;simp at dG
      have aQ:∀g,x4.ownBlock=some g→(M g∧¬g=p)∨V.heap.size≤g:=fun g e=>by
       rcases cA with h|⟨g',e',h⟩
       ·exact .inl ((Aa aH) g (.inr ⟨I,aM,h.trans e⟩))
       ·rw[e]at e';cases e';exact .inr (by omega)
      have bM:∀g,Ce (H+1) (fun j=>if j=I then x4 else vs j) N g→(M g∧¬g=p)∨V.heap.size≤g:=fun g hg=>by
       rcases hg with rfl|⟨i',dK,hg⟩
       ·exact .inl ((Aa aH) _ (.inl rfl))
       ·by_cases e:i'=I
        ·simp only[if_pos e]at hg;exact aQ g hg
        ·simp only[if_neg e]at hg;exact .inl ((Aa aH) g (.inr ⟨i',dK,hg⟩))
      have aR:∀r,r<V.heap.size→r≠H+1→some r≠(vs I).ownBlock→(W1.setCell ⟨H+1,I,none⟩ x4).heap[r]?=V.heap[r]?:=fun r h1 h2 h3=>
       (qC _ _ _ _ h2).trans ((J.block r (by simp;omega) h3).trans ((heap_alloc_old U _ (show r<U.heap.size by omega)).trans (bO.block r h1)))
      have bL:Below H w U:=by rw[←hU];exact(Ac cM).drew
      have bJ:Below H w (W1.setCell ⟨H+1,I,none⟩ x4):=((bL.alloc (by omega) (.cells #[.int .i64 j] 3)).grown J (by simp;omega) (fun k e=>((Aa bE) k ((Aa aH) k (.inr ⟨I,aM,e⟩)).1).1)).setCell (by simp) _
      have bW:∃M',Aj M V M' (W1.setCell ⟨H+1,I,none⟩ x4)∧RfI w H N (C1 L N (i+1)) (fun _=>False) M' (W1.setCell ⟨H+1,I,none⟩ x4):=by
       refine⟨fun g=>Ce (H+1) (fun j=>if j=I then x4 else vs j) N g,⟨by simp;omega,fun r hr hl=>aR r hl (fun e=>hr (e ▸ ((Aa aH) _ (.inl rfl)).1)) (fun e=>hr ((Aa aH) r (.inr ⟨I,aM,e.symm⟩)).1),fun g hg=>(bM g hg).imp (fun h=>h.1) id⟩,?_⟩;rw[Aa dL,Pl (Aa bK) hj hc];refine⟨⟨_,bC,fun g hg=>⟨hg,fun h=>h⟩⟩,by simpa using aZ,(aR _ (by omega) (by omega) cX).trans bF,bJ,by simp;omega,fun g hg=>?_⟩;have hl:=bC.lt (by simpa[aZ]using hg);refine⟨hl.1,?_,?_,hl.2⟩
       ·rintro rfl;rcases bM _ hg with h|h
        ·exact((Aa bE) _ h.1).2.1 rfl
        ·omega
       ·rintro rfl;rcases bM _ hg with h|h
        ·exact((Aa bE) _ h.1).2.2.1 rfl
        ·omega
      have HF:=Ab bW;clear bW bC aN J cA aQ bM aR bL bJ aB cZ
      gi_wp2
      exact Aa HF
 case done=>
  rintro D M V rfl cK hi hK;obtain⟨⟨vs,h1,h2⟩,h3,h4,h5,h6,h7⟩:=hi;have bF:=A1 h4;have hfin:C1 L N L.length=RS:=by unfold C1;rw[List.take_of_length_le (qJ _)];exact Aa aJ
  rw[hfin]at h1;have dI:(C1 L N L.length).length=RS.length:=by rw[hfin]
  have H1:=Ab h1;have H5:=Ab h5;clear hfin h1 h4 h5
  gi_wp2
  refine⟨by simp,.inl ⟨_,_,rfl,run_takeDeferred hK,?_⟩⟩;refine⟨_,results_tmp rfl _ _ _,H+1,vs,rfl,?_,?_⟩
  ·have hb:=grownBy_putObj' V W2.heap.size (.deferred none);exact(Aa H1).keep (fun g hg=>hb.block g ((Aa H1).lt hg).2 (fun e=>by cases e;have:=(h2 _ (by rw[←h3,dI];exact hg)).1;exact cK this))
  ·exact(Aa H5).grown (grownBy_putObj' V W2.heap.size (.deferred none)) (by omega) (fun k e=>by cases e;omega)
 case stop=>
  rintro D c i M V rfl cK hi h hK;exact h.elim
end Go.Proofs.YtefokfbgpfcbkaaGreat
namespace Go.Proofs.YtefokfbgpfcbkaaGreat
open Go.RowKit
def Dd(k:Int × List UInt8):Value:=.agg #[.int .i64 k.1,.string ⟨k.2.toArray⟩]
def Bo(k:P28.Note):Value:=.agg #[.int .i64 k.1,.int .i64 k.2.1,.string ⟨k.2.2.toArray⟩]
theorem Ik(l:List UInt8):(ByteArray.mk l.toArray).toList=l:=by rw[Lib.toList_data]
theorem Qao(a c:Int)(s t:ByteArray)(w:World):(Op.equalIn 10000 224 (.agg #[.int .i64 a,.string s]) (.agg #[.int .i64 c,.string t])).run Tryz.prog w=.ok (a==c&&s.toList==t.toList) w:=by
 have Z:=Tryz.underlying3;have J:=Tryz.underlying9;have I:Tryz.prog.underlying 224=some (.struct (Tryz.prog.fieldsOf 224)):=by kernel_rfl
 rw[show (10000:Nat)=9999+1 from rfl,run_equalIn_agg w 9999 224 _ _ I (by kernel_rfl)];simp only[Program.fieldsOf,Tryz.underlying224]
 go_simp
 by_cases h1:a=c<;>by_cases h2:s.toList=t.toList<;>simp[h1,h2]
theorem Zf(e:Bool)(a:Int)(s:ByteArray)(w:World):(Instr.checkKey e 10000 224 (.agg #[.int .i64 a,.string s])).run Tryz.prog w=.ok () w:=by
 have J:=Tryz.underlying3;have I:=Tryz.underlying9;have b1:∀(n:Nat) (W:World) (e:Bool) (a:Int),(Instr.checkKey e (n+1) 3 (.int .i64 a)).run Tryz.prog W=.ok () W:=fun n W e a=>by simp[Instr.checkKey,run_underlying J]
 have b2:∀(n:Nat) (W:World) (e:Bool) (s:ByteArray),(Instr.checkKey e (n+1) 9 (.string s)).run Tryz.prog W=.ok () W:=fun n W e s=>by simp[Instr.checkKey,run_underlying I]
 have c1:∀(W:World) (e:Bool) (a:Int),(Instr.checkKey e 9999 3 (.int .i64 a)).run Tryz.prog W=.ok () W:=fun W e a=>b1 9998 W e a;have c2:∀(W:World) (e:Bool) (s:ByteArray),(Instr.checkKey e 9999 9 (.string s)).run Tryz.prog W=.ok () W:=fun W e s=>b2 9998 W e s;clear b1 b2;unfold Instr.checkKey;simp only[Sem.run_bind,run_underlying Tryz.underlying224,Result.andThen_ok]
 go_simp
theorem Oq:Ea Tryz.prog 224 Dd:=by
 refine .wide (by rw[Tryz.underlying224]) (fun x e W=>Zf e _ _ W) (fun x y W=>?_) (fun x=>?_)
 ·have h:=Qao x.1 y.1 ⟨x.2.toArray⟩ ⟨y.2.toArray⟩ W;rw[Ik,Ik]at h;have e:Op.equal 224 (Dd x) (Dd y)=Op.equalIn 10000 224 (Dd x) (Dd y):=by unfold Op.equal Op.maxDepth;rfl
  rw[e];refine Eq.trans h ?_
  congr 1
  obtain⟨J,I⟩:=x;obtain⟨y1,y2⟩:=y;rw[Bool.eq_iff_iff];simp
 ·have b1:∀(n:Nat) (a:Int),Instr.sameBits (n+1) (.int .i64 a) (.int .i64 a)=true:=fun n a=>by simp[Instr.sameBits]
  have b2:∀(n:Nat) (s:ByteArray),Instr.sameBits (n+1) (.string s) (.string s)=true:=fun n s=>by simp[Instr.sameBits,Go.MapKept.bytes_beq]
  have h1:=b1 9998 x.1;have h2:=b2 9998 ⟨x.2.toArray⟩;simp only[Dd,Instr.sameBits];simp;exact⟨h1,h2⟩
theorem Zk(a c a2 c2:Int)(s t:ByteArray)(w:World):(Op.equalIn 10000 183 (.agg #[.int .i64 a,.int .i64 a2,.string s]) (.agg #[.int .i64 c,.int .i64 c2,.string t])).run Tryz.prog w=.ok (a==c&&(a2==c2&&s.toList==t.toList)) w:=by
 have Z:=Tryz.underlying3;have J:=Tryz.underlying9;have u3:=Tryz.underlying29;have I:Tryz.prog.underlying 183=some (.struct (Tryz.prog.fieldsOf 183)):=by kernel_rfl
 rw[show (10000:Nat)=9999+1 from rfl,run_equalIn_agg w 9999 183 _ _ I (by kernel_rfl)];simp only[Program.fieldsOf,Tryz.underlying183]
 go_simp
 by_cases h1:a=c<;>by_cases h3:a2=c2<;>by_cases h2:s.toList=t.toList<;>simp[h1,h2,h3]
theorem Xu(e:Bool)(a a2:Int)(s:ByteArray)(w:World):(Instr.checkKey e 10000 183 (.agg #[.int .i64 a,.int .i64 a2,.string s])).run Tryz.prog w=.ok () w:=by
 have Z:=Tryz.underlying3;have J:=Tryz.underlying9;have u3:=Tryz.underlying29;have b1:∀(n:Nat) (W:World) (e:Bool) (a:Int),(Instr.checkKey e (n+1) 3 (.int .i64 a)).run Tryz.prog W=.ok () W:=fun n W e a=>by simp[Instr.checkKey,run_underlying Z]
 have b2:∀(n:Nat) (W:World) (e:Bool) (s:ByteArray),(Instr.checkKey e (n+1) 9 (.string s)).run Tryz.prog W=.ok () W:=fun n W e s=>by simp[Instr.checkKey,run_underlying J]
 have I:∀(n:Nat) (W:World) (e:Bool) (a:Int),(Instr.checkKey e (n+1) 29 (.int .i64 a)).run Tryz.prog W=.ok () W:=fun n W e a=>by simp[Instr.checkKey,run_underlying u3]
 have c3:∀(W:World) (e:Bool) (a:Int),(Instr.checkKey e 9999 29 (.int .i64 a)).run Tryz.prog W=.ok () W:=fun W e a=>I 9998 W e a;have c1:∀(W:World) (e:Bool) (a:Int),(Instr.checkKey e 9999 3 (.int .i64 a)).run Tryz.prog W=.ok () W:=fun W e a=>b1 9998 W e a;have c2:∀(W:World) (e:Bool) (s:ByteArray),(Instr.checkKey e 9999 9 (.string s)).run Tryz.prog W=.ok () W:=fun W e s=>b2 9998 W e s;clear b1 b2 I;unfold Instr.checkKey;simp only[Sem.run_bind,run_underlying Tryz.underlying183,Result.andThen_ok]
 go_simp
theorem Da:Ea Tryz.prog 183 Bo:=by
 refine .wide (by rw[Tryz.underlying183]) (fun x e W=>Xu e _ _ _ W) (fun x y W=>?_) (fun x=>?_)
 ·have h:=Zk x.1 y.1 x.2.1 y.2.1 ⟨x.2.2.toArray⟩ ⟨y.2.2.toArray⟩ W;rw[Ik,Ik]at h;have e:Op.equal 183 (Bo x) (Bo y)=Op.equalIn 10000 183 (Bo x) (Bo y):=by unfold Op.equal Op.maxDepth;rfl
  rw[e];refine Eq.trans h ?_
  congr 1
  obtain⟨J,I,x3⟩:=x;obtain⟨y1,y2,y3⟩:=y;rw[Bool.eq_iff_iff];simp
 ·have b1:∀(n:Nat) (a:Int),Instr.sameBits (n+1) (.int .i64 a) (.int .i64 a)=true:=fun n a=>by simp[Instr.sameBits]
  have b2:∀(n:Nat) (s:ByteArray),Instr.sameBits (n+1) (.string s) (.string s)=true:=fun n s=>by simp[Instr.sameBits,Go.MapKept.bytes_beq]
  have h1:=b1 9998 x.1;have h3:=b1 9998 x.2.1;have h2:=b2 9998 ⟨x.2.2.toArray⟩;simp only[Bo,Instr.sameBits];simp;exact⟨h1,h3,h2⟩
open Go.RowKit
theorem Eb(s:List UInt8)(w:World)(h:s.length≤maxLen):Calls Tryz.prog 85 #[.string ⟨s.toArray⟩] w fun e w'=>e=.returned (.bool (P28.right s))∧w'=w:=by
 have hp:=Ur ⟨s.toArray⟩ w (by simpa[ByteArray.size]using h);have hsz:(ByteArray.mk s.toArray).size=s.length:=by simp[ByteArray.size]
 simp only[List.toList_toArray]at hp;have e:P28.right s=(P18.plain s&&decide (s.length≤64)):=rfl;unfold maxLen at h;cases hq:P18.plain s with
 |false=>
  rw[hq]at hp e;rw[e];have I:=Ab hp;clear hp e;go_enter Tryz.func85,Tryz.ntmps85
  go_wp2_with (go_at_call 130;refine(Aa I).mono ?_;rintro e w' ⟨rfl,rfl⟩)
  all_goals go_ret
  all_goals exact⟨Ao (by simp),rfl⟩
 |true=>
  rw[hq]at hp e;rw[e];have I:=Ab hp;clear hp e;go_enter Tryz.func85,Tryz.ntmps85
  go_wp2_with (go_at_call 130;refine(Aa I).mono ?_;rintro e w' ⟨rfl,rfl⟩)
  all_goals go_ret
  all_goals exact⟨Ao (by simp[hsz];omega),rfl⟩
theorem P28.nt_le(c:Bool)(i e:Int)(t:List UInt8):(P28.nt c i e t).length≤1:=by cases c<;>simp[P28.nt]
def Be(d:Af):Obj:=.cells #[.string ⟨d.name.toArray⟩,.string ⟨d.text.toArray⟩,.slice d.sa d.steps.length d.sc] 24
structure NS (w W:World) (H f:Nat) (d:Af) (ns:List P28.Note) (v:Value):Prop where
 nb:NB W (H+3) (H+1) ns v
 df:W.heap[H]?=some (Be d)
 fn:W.heap[H+2]?=some (.cells #[.func (.func f) #[] #[.pointer (some ⟨H+1,0,none⟩)]] 221)
 bel:Below H w W
 size:H+3≤W.heap.size
theorem NS.gr{w W W':World}{H f:Nat}{d:Af}{ns I:List P28.Note}{v J:Value}(h:NS w W H f d ns v)(hn:NB W' (H+3) (H+1) I J)(hg:Gr W W' (H+1) v.ownBlock):NS w W' H f d I J:=by
 have ho:∀g,v.ownBlock=some g→H+3≤g:=fun g e=>(h.nb.own.lt e).1;have Z:=h.size;refine⟨hn,(hg.block H (by omega) (by omega) (fun e=>by have:=ho _ e.symm;omega)).trans h.df,(hg.block (H+2) (by omega) (by omega) (fun e=>by have:=ho _ e.symm;omega)).trans h.fn,hg.below h.bel (by omega) (by omega) (fun g e=>by have:=ho g e;omega),qK h.size hg.size⟩
theorem NS.keep{w W W':World}{H f:Nat}{d:Af}{ns:List P28.Note}{v:Value}(h:NS w W H f d ns v)(hb:Below W.heap.size W W'):NS w W' H f d ns v:=by
 have I:=h.size;exact⟨h.nb.below hb,(hb.block _ (by omega)).trans h.df,(hb.block _ (by omega)).trans h.fn,h.bel.trans (hb.mono (by omega)),qK h.size hb.size⟩
theorem NS.drewN{w W:World}{H f:Nat}{d:Af}{ns:List P28.Note}{v:Value}(h:NS w W H f d ns v)(n:Nat):NS w (W.drewN n) H f d ns v:=h.keep (Ac (qU _ _))
theorem NS.cells{w W:World}{H f:Nat}{d:Af}{ns:List P28.Note}{v:Value}(h:NS w W H f d ns v):W.cell? ⟨H,0,none⟩=some (.string ⟨d.name.toArray⟩)∧W.cell? ⟨H,1,none⟩=some (.string ⟨d.text.toArray⟩)∧W.cell? ⟨H,2,none⟩=some (.slice d.sa d.steps.length d.sc)∧W.cell? ⟨H+2,0,none⟩=some (.func (.func f) #[] #[.pointer (some ⟨H+1,0,none⟩)]):=by
 obtain⟨⟨a,_⟩,⟨b,_⟩,⟨c,_⟩⟩:=Ag h.df;exact⟨a,b,c,(A1 h.fn).1⟩
theorem NS.note{w W:World}{H f:Nat}{d:Af}{ns:List P28.Note}{v:Value}(hf:J9 f (H+1))(h:NS w W H f d ns v)(c:Bool)(i e:Int)(t:List UInt8)(hl:ns.length≤100000000000*9) :
  Calls Tryz.prog f #[.bool c,.int .i64 i,.int .i64 e,.string ⟨t.toArray⟩,.pointer (some ⟨H+1,0,none⟩)] W fun x W'=>x=.returned (.tuple #[])∧∃I,NS w W' H f d (ns++P28.nt c i e t) I∧Gr W W' (H+1) v.ownBlock∧(I.ownBlock=v.ownBlock∨∃g,I.ownBlock=some g∧W.heap.size≤g):=by
 refine(hf c i e t W (H+3) ns v h.nb h.size hl).mono ?_;rintro x W' ⟨rfl,I,h1,h2,h3⟩;exact⟨rfl,I,h.gr h1 h2,h2,h3⟩
def G5(L:List P28.Ref):List (Int × List UInt8):=L.map fun r=>((r.1:Int),r.2.1)
structure Wy (w:World) (H f R:Nat) (d:Af) (ns:List P28.Note) (ks:List (Int × List UInt8)) (X M:Nat→Prop) (V:World):Prop where
 st:∃v Lm,NS w V H f d ns v∧Bi Dd V R Lm∧(∀k,0<(match lk Lm k with|some (.int _ n)=>n|_=>0)↔k∈ks)∧(∀k u,lk Lm k=some u→∃n:Nat,u=.int .i64 n∧n≤ks.length)∧(∀g,v.ownBlock=some g→(g<R∨R+3≤g)∧M g∧¬X g)
 box:V.heap[R+1]?=some (.cells #[.map (some R)] 222)
 own:M (H+1)∧¬X (H+1)∧M R∧¬X R
 low:H+3≤R
 size:R+3≤V.heap.size
 ms:∀g,M g→(g=H+1∨H+3≤g)∧g≠R+1∧g≠R+2∧g<V.heap.size
theorem Wy.abides{w:World}{H f R:Nat}{d:Af}{ns:List P28.Note}{ks:List (Int × List UInt8)}{X M:Nat→Prop}{V V':World}{row:Option Nat}(h:Wy w H f R d ns ks X M V)(hg:V.grownBy V' row)(hr:∀r,row=some r→¬M r∧¬(r<H∨r=H∨r=H+2∨r=R+1∨r=R+2)):Wy w H f R d ns ks X M V':=by
 obtain⟨⟨v,Lm,h1,h2,h3,h4,h5⟩,h6,J,h8,h9,aA⟩:=h
 have hk:∀g,g<V.heap.size→(M g∨g=H∨g=H+2∨g=R+1)→V'.heap[g]?=V.heap[g]?:=fun g I Z=>hg.block g I (fun e=>by
  obtain⟨a,b⟩:=hr g e.symm;rcases Z with q|q
  ·exact a q
  ·exact b (by omega))
 refine⟨⟨v,Lm,⟨h1.nb.keep (hk _ (by omega) (.inl J.1)) (fun g e=>hk g (h1.nb.own.lt e).2 (.inl (h5 g e).2.1)),(hk _ (by omega) (by omega)).trans h1.df,(hk _ (by omega) (by omega)).trans h1.fn,h1.bel.grown hg (by omega) (fun k e=>by have:=(hr k e).2;omega),qK h1.size hg.size⟩,h2.keep (hk R (by omega) (.inl J.2.2.1)),h3,h4,h5⟩,(hk _ (by omega) (by omega)).trans h6,J,h8,qK h9 hg.size,fun g I=>?_⟩;have:=aA g I;have:=hg.size;omega
theorem Wy.alloc{w:World}{H f R:Nat}{d:Af}{ns:List P28.Note}{ks:List (Int × List UInt8)}{M:Nat→Prop}{V:World}(h:Wy w H f R d ns ks (fun _=>False) M V)(o:Obj):Wy w H f R d ns ks (fun g=>g=V.heap.size) (fun r=>M r∨r=V.heap.size) (V.alloc o):=by
 obtain⟨⟨v,Lm,h1,h2,h3,h4,J⟩,h6,Z,h8,h9,I⟩:=h;have hb:Below V.heap.size V (V.alloc o):=(qU _ _).alloc (qJ _) _;refine⟨⟨v,Lm,h1.keep hb,h2.keep (hb.block R (by omega)),h3,h4,fun g e=>⟨(J g e).1,.inl (J g e).2.1,fun q=>by have:=(h1.nb.own.lt e).2;omega⟩⟩,(hb.block _ (by omega)).trans h6,⟨.inl Z.1,by omega,.inl Z.2.2.1,by omega⟩,h8,by simp;omega,fun g hg=>?_⟩;rcases hg with hg|rfl
 ·have:=I g hg;simp;omega
 ·simp;omega
theorem Gd(ns:List (List UInt8)):∀(ss:List P22.Step) (k i:Nat) (s:P22.Step),ss[i]?=some s→P28.stepsN ns k (ss.take (i+1))=P28.stepsN ns k (ss.take i)++P28.stepN ns (k+i) s
 | [],k,i,s,h=>by simp at h
 |x::ss,k,0,s,h=>by simp at h;subst h;simp[P28.stepsN]
 |x::ss,k,i+1,s,h=>by
  have ih:=Gd ns ss (k+1) i s (by simpa using h);rw[List.take_succ_cons,List.take_succ_cons];show P28.stepN ns k x++P28.stepsN ns (k+1) (ss.take (i+1))=P28.stepN ns k x++P28.stepsN ns (k+1) (ss.take i)++_;rw[ih,zH,show k+1+i=k+(i+1) by omega]
theorem A6{W W':World}{b k:Nat}{v I:Value}(hg:Gr W W' b v.ownBlock)(ho:I.ownBlock=v.ownBlock∨∃g,I.ownBlock=some g∧W.heap.size≤g)(h1:k<W.heap.size)(h2:k≠b)(h3:v.ownBlock≠some k):W'.heap[k]?=W.heap[k]?∧I.ownBlock≠some k∧k<W'.heap.size:=by
 refine⟨hg.block k h1 h2 (fun e=>h3 e.symm),fun e=>?_,zD h1 hg.size⟩;rcases ho with h|⟨g,h,h4⟩
 ·exact h3 (h.symm.trans e)
 ·rw[h]at e;cases e;omega
theorem Fa(ns:List (List UInt8)):∀(ss:List P22.Step) (k:Nat),(P28.stepsN ns k ss).length≤ss.length*4
 | [],k=>by simp[P28.stepsN]
 |x::ss,k=>by
  have ih:=Fa ns ss (k+1);have h1:=P28.nt_le (!P28.right x.name) (k:Int) 18 x.name;have h2:=P28.nt_le (!P28.right x.action) (k:Int) 18 x.action;have h3:=P28.nt_le (!x.undo.isEmpty && !P28.right x.undo) (k:Int) 18 x.undo;have h4:=P28.nt_le (decide ((P28.idx ns x.name).getD 0<k)) (k:Int) 6 x.name;show (P28.stepN ns k x++P28.stepsN ns (k+1) ss).length≤_;simp only[P28.stepN,qH,qE]at *;omega
theorem B0{acc:List P28.Note}{n:Nat}{c:Bool}{i e:Int}{t:List UInt8}(h:acc.length≤n):(acc++P28.nt c i e t).length≤n+1:=by
 have:=P28.nt_le c i e t;rw[qH];omega
theorem Bb(c:Bool)(i e:Int)(t:List UInt8):(P28.nt c i e t).length≤1:=by cases c<;>simp[P28.nt]
theorem Td(ns:List (List UInt8)){L:List P28.Ref}{q:Nat}{r:P28.Ref}(h:L[q]?=some r):P28.refsN ns [] (L.take (q+1))=P28.refsN ns [] (L.take q)++P28.refN ns (L.take q) r:=by
 rw[List.take_add_one,h,show (some r).toList=[r] from rfl,P28.refsN_append];simp[P28.refsN]
theorem Gt(ns:List (List UInt8)):∀(L seen:List P28.Ref),(P28.refsN ns seen L).length≤L.length*3
 | [],seen=>by simp[P28.refsN]
 |r::L,seen=>by
  have ih:=Gt ns L (seen++[r]);have e:P28.refsN ns seen (r::L)=P28.refN ns seen r++P28.refsN ns (seen++[r]) L:=rfl;have h1:=P28.nt_le r.2.2.isNone r.1 5 r.2.1;have h2:=P28.nt_le (decide (r.2.1=ns.getD r.1 [])) r.1 8 r.2.1;have h3:=P28.nt_le (decide ((r.1,r.2.1)∈seen.map fun q=>(q.1,q.2.1))) r.1 6 r.2.1;rw[e];simp only[P28.refN,qH,qE];omega
theorem V8(L:List P28.Ref)(Z:Nat)(J:List UInt8):((Z:Int),J)∈G5 L↔(Z,J)∈L.map fun q=>(q.1,q.2.1):=by
 unfold G5;simp only[List.mem_map,Prod.mk.injEq];constructor
 ·rintro⟨r,h,e1,I⟩;exact⟨r,h,by omega,I⟩
 ·rintro⟨r,h,e1,I⟩;exact⟨r,h,by omega,I⟩
theorem S7{L:List P28.Ref}{q:Nat}{r:P28.Ref}(h:L[q]?=some r):G5 (L.take (q+1))=G5 (L.take q)++[((r.1:Int),r.2.1)]:=by
 unfold G5;rw[List.take_add_one,h];simp
theorem P2{V x y:World}{b n:Nat}{v J v2:Value}(I:Gr V x b v.ownBlock)(o1:J.ownBlock=v.ownBlock∨∃g,J.ownBlock=some g∧V.heap.size≤g)
  (g2:Gr (x.drewN n) y b J.ownBlock) (o2:v2.ownBlock=J.ownBlock∨∃g,v2.ownBlock=some g∧(x.drewN n).heap.size≤g):Gr V y b v.ownBlock∧(v2.ownBlock=v.ownBlock∨∃g,v2.ownBlock=some g∧V.heap.size≤g):=by
 have s1:=I.size;have s2:x.heap.size≤y.heap.size:=g2.size;refine⟨⟨g2.os.trans I.os,g2.tape.trans I.tape,g2.output.trans I.output,qK s1 s2,fun k hk hb Z=>(g2.block k (show k<x.heap.size by omega) hb (fun e=>?_)).trans (I.block k hk hb Z)⟩,?_⟩
 ·rcases o1 with o|⟨g,o,ho⟩
  ·exact Z (e.trans o)
  ·rw[o]at e;cases e;omega
 ·rcases o2 with o|⟨g,o,ho⟩
  ·rw[o];exact o1
  ·exact .inr ⟨g,o,qK s1 ho⟩
theorem Wy.next{w V x U W3:World}{H f R cn:Nat}{d:Af}{ns aE:List P28.Note}{ks:List (Int × List UInt8)}{k:Int × List UInt8}{X M:Nat→Prop}{v v':Value}{Lm:List ((Int × List UInt8) × Value)}
  (h:Wy w H f R d ns ks X M V) (aD:∀k,0<(match lk Lm k with|some (.int _ n)=>n|_=>0)↔k∈ks) (aB:∀k u,lk Lm k=some u→∃n:Nat,u=.int .i64 n∧n≤ks.length)
  (J:∀g,v.ownBlock=some g→(g<R∨R+3≤g)∧M g∧¬X g) (hN:NS w x H f d aE v') (hG:Gr V x (H+1) v.ownBlock) (hO:v'.ownBlock=v.ownBlock∨∃g,v'.ownBlock=some g∧V.heap.size≤g)
  (hU:x.drew=U) (aK:Bi Dd W3 R (De Lm k (.int .i64 ((cn:Int)+1)))) (Z:(lk Lm k).getD (.int .i64 0)=.int .i64 cn) (hg:U.grownBy W3 (some R)) :
  ∃M',Aj M V M' W3∧Wy w H f R d aE (ks++[k]) (fun _=>False) M' W3:=by
 subst hU;obtain⟨_,aL,aA,aG,hsz,aP⟩:=h;have aO:=hG.size;have aN:x.heap.size≤W3.heap.size:=hg.size;have I:∀r,r<x.heap.size→r≠R→W3.heap[r]?=x.heap[r]?:=fun r h1 h2=>hg.block r h1 (fun e=>h2 (by cases e;rfl))
 have aI:∀g,v'.ownBlock=some g→M g∨V.heap.size≤g:=fun g e=>by
  rcases hO with o|⟨g',o,ho⟩
  ·exact .inl (J g (o.symm.trans e)).2.1
  ·rw[e]at o;cases o;exact .inr ho
 have aC:∀g,v'.ownBlock=some g→g<R∨R+3≤g:=fun g e=>by
  rcases hO with o|⟨g',o,ho⟩
  ·exact(J g (o.symm.trans e)).1
  ·rw[e]at o;cases o;exact .inr (by omega)
 have aM:cn≤ks.length:=by
  cases hq:lk Lm k with
  |none=>rw[hq]at Z;simp at Z;omega
  |some u=>
   obtain⟨n,rfl,hn⟩:=aB k u hq;rw[hq]at Z;simp at Z;omega
 refine⟨fun r=>r=H+1∨r=R∨v'.ownBlock=some r,⟨by omega,fun r hr hl=>?_,fun r hr=>?_⟩,⟨v',_,?_,aK,fun k'=>?_,fun k' u hu=>?_,fun g e=>⟨aC g e,.inr (.inr e),id⟩⟩,?_,⟨.inl rfl,id,.inr (.inl rfl),id⟩,aG,by omega,fun g aH=>?_⟩
 ·have h1:r≠H+1:=fun e=>hr (e ▸ aA.1);have h2:r≠R:=fun e=>hr (e ▸ aA.2.2.1);have h3:some r≠v.ownBlock:=fun e=>hr (J r e.symm).2.1;exact(I r (by omega) h2).trans (hG.block r hl h1 h3)
 ·rcases hr with rfl|rfl|e
  ·exact .inl aA.1
  ·exact .inl aA.2.2.1
  ·exact aI r e
 ·have hl:=hN.size;have aJ:Below H w x:=hN.bel;exact⟨hN.nb.keep (I _ (by omega) (by omega)) (fun g e=>I g (hN.nb.own.lt e).2 (fun q=>by have:=aC g e;omega)),(I _ (by omega) (by omega)).trans hN.df,(I _ (by omega) (by omega)).trans hN.fn,(aJ.drew).grown hg (by show H≤x.heap.size;omega) (fun q e=>by cases e;omega),by omega⟩
 ·rw[F5,zG,zX];by_cases e:k'=k
  ·subst e;rw[if_pos rfl];refine⟨fun _=>.inr rfl,fun _=>?_⟩;show (0:Int)<(cn:Int)+1;omega
  ·rw[if_neg e];simp only[e,or_false];exact aD k'
 ·rw[F5]at hu;by_cases e:k'=k
  ·rw[if_pos e]at hu;cases hu;exact⟨cn+1,by simp,by simp;omega⟩
  ·rw[if_neg e]at hu;obtain⟨n,e1,e2⟩:=aB k' u hu;exact⟨n,e1,by simp;omega⟩
 ·exact(I _ (by omega) (by omega)).trans ((hG.block _ (by omega) (by omega) (fun e=>by have:=(J _ e.symm).1;omega)).trans aL)
 ·rcases aH with rfl|rfl|e
  ·omega
  ·omega
  ·have h1:=aC g e;have h2:=(hN.nb.own.lt e);refine⟨.inr h2.1,by omega,by omega,by omega⟩
end Go.Proofs.YtefokfbgpfcbkaaGreat
