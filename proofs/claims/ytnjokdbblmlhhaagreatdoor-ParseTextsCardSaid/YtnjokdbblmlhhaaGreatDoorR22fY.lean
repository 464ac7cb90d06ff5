/- Lemmas of this claim. -/
import Derived.Test.YtnjokdbblmlhhaaGreatDoorRetY
set_option linter.unusedVariables false
set_option linter.unusedSimpArgs false
namespace Go.Proofs.YtnjokdbblmlhhaaGreatDoor
set_option maxRecDepth 100000
open Go.RowKit
open P20 (okF)
def Vh(P:Nat→Prop)(w:World)(res:Except P22.F P22.Step)(e:Ending)(w':World):Prop:=
 Below w.heap.size w w'∧∃(x:Bc) (D G:Int),e=.returned (.tuple #[x.val,fV D G])∧x.In w'∧(∀g,x.blk g→P g∨w.heap.size≤g)∧((res=.ok x.bare∧D=0∧G=0)∨(res=.error (D,G)∧D≠0))
def Hg(r:Except P22.F P22.Step)(ks:List (List UInt8))(l:Int):Except P22.F P22.Step:=match r with
 | .error x=>.error x
 | .ok s'=>if ([110,97,109,101]∈ks∧[97,99,116,105,111,110]∈ks) then .ok s' else .error (5,l)
theorem Kx(k:Nat)(t:List UInt8)(ka:Option Addr)(kc:Nat)(ks:List (List UInt8))(da:Option Addr)(dc:Nat)(ds:List Nd)(l:Int){d:Nd}(hd:d∈ds){g:Nat}(D:d.blk g):(Nd.mk k t ka kc ks da dc ds l).blk g:=by
 rw[Es];exact .inr (.inr ((Eo g ds).2 ⟨d,hd,D⟩))
theorem Hc(g:Nat):¬Bc.zero.blk g:=fun h=>by
 rcases h with⟨h,_⟩|h
 ·exact h rfl
 ·exact Nd.zero_blk g h
set_option maxHeartbeats 32000000 in
theorem Qf(k:Nat)(t:List UInt8)(ka:Option Addr)(kc:Nat)(ks:List (List UInt8))(da:Option Addr)(dc:Nat)(ds:List Nd)(l:Int)(w:World)(eJ:(Nd.mk k t ka kc ks da dc ds l).In w)(gS:okF (Nd.mk k t ka kc ks da dc ds l).bare):Calls Tryz.prog 61 #[.agg #[.int .u8 k,.string ⟨t.toArray⟩,.slice ka ks.length kc,.slice da ds.length dc,.int .i64 l]] w (Vh (fun g=>(Nd.mk k t ka kc ks da dc ds l).blk g) w (P22.stepE (Nd.mk k t ka kc ks da dc ds l).bare)):=by
 obtain⟨q1,q2,q3,q4,q5⟩:=gS.kid;rw[Bs]at q4;have fJ:=eJ.kids;have fL:=eJ.fit.keys;simp only[Nd.da,Nd.kids,Nd.ka,Nd.keys]at fJ fL;have gF:∀d∈ds,okF d.bare:=fun d hd=>q5 _ (by rw[Ci];exact zC hd);obtain⟨H,hH⟩:∃H,w.heap.size=H:=⟨_,rfl⟩;obtain⟨PB,eI⟩:∃PB:Nat→Prop,PB=fun g=>(Nd.mk k t ka kc ks da dc ds l).blk g:=⟨_,rfl⟩
 have gZ:∀g,PB g→g<H:=fun g I=>by rw[eI]at I;rw[←hH];exact eJ.lt I
 have iF:∀d∈ds,∀g,d.blk g→PB g:=fun d hd g I=>by rw[eI];exact Kx k t ka kc ks da dc ds l hd I
 rw[←eI];clear eI;obtain⟨M,hM⟩:∃M,ks.length=M:=⟨_,rfl⟩;obtain⟨D,hD⟩:∃D,ds.length=D:=⟨_,rfl⟩;obtain⟨cO,eD⟩:∃cO,P22.stepE (Nd.mk k t ka kc ks da dc ds l).bare=cO:=⟨_,rfl⟩;obtain⟨RK,gA⟩:∃RK,P22.keysGo P22.stepRd ks (Am ds) P22.Step.zero=RK:=⟨_,rfl⟩;obtain⟨e,l',dP,eS⟩:=Gv P22.stepRd [[110,97,109,101],[97,99,116,105,111,110]] P22.Step.zero k t ka kc ks da dc ds l
 have dR:(e≠0∧cO=.error (e,l'))∨(e=0∧l'=0∧M=D∧cO=Hg RK ks l):=by
  rw[←eD];unfold P22.stepE;rcases eS with h|⟨h1,h2,h3,h4⟩
  ·exact .inl h
  ·refine .inr ⟨h1,h2,by omega,h4.trans ?_⟩;rw[←gA];unfold Hg;cases P22.keysGo P22.stepRd ks (Am ds) P22.Step.zero with
   |error x=>rfl
   |ok s'=>simp
 rw[eD];clear eS eD;rw[hM,hD]at dP ⊢;rw[hM]at q2;rw[hD]at q4;have iB:∀(os:List Obj),os=[.cells #[.int .u8 k,.string ⟨t.toArray⟩,.slice ka M kc,.slice da D dc,.int .i64 l] 26,.cells #[.string ⟨#[]⟩,.string ⟨#[]⟩,.string ⟨#[]⟩,.slice none 0 0,.int .i64 0,.int .i64 0,.int .i64 0,.int .i64 0,.int .u8 0,.string ⟨#[]⟩,.slice none 0 0,.slice none 0 0,.int .i64 0] 86,.cells #[.int .i64 0,.int .i64 0] 29,.cells #[.string ⟨#[]⟩,.string ⟨#[]⟩,.string ⟨#[]⟩,.slice none 0 0,.int .i64 0,.int .i64 0,.int .i64 0,.int .i64 0,.int .u8 0,.string ⟨#[]⟩,.slice none 0 0,.slice none 0 0,.int .i64 0] 86]→Below w.heap.size w (os.foldl World.alloc w)∧(os.foldl World.alloc w).heap.size=w.heap.size+os.length∧∀i o,os[i]?=some o→(os.foldl World.alloc w).heap[w.heap.size+i]?=some o:=fun os _=>Cf os w;obtain⟨fK,fU,dE⟩:=iB _ rfl;obtain⟨W0,fS⟩:∃W0,(((w.alloc (.cells #[.int .u8 k,.string ⟨t.toArray⟩,.slice ka M kc,.slice da D dc,.int .i64 l] 26)).alloc (.cells #[.string ⟨#[]⟩,.string ⟨#[]⟩,.string ⟨#[]⟩,.slice none 0 0,.int .i64 0,.int .i64 0,.int .i64 0,.int .i64 0,.int .u8 0,.string ⟨#[]⟩,.slice none 0 0,.slice none 0 0,.int .i64 0] 86)).alloc (.cells #[.int .i64 0,.int .i64 0] 29)).alloc (.cells #[.string ⟨#[]⟩,.string ⟨#[]⟩,.string ⟨#[]⟩,.slice none 0 0,.int .i64 0,.int .i64 0,.int .i64 0,.int .i64 0,.int .u8 0,.string ⟨#[]⟩,.slice none 0 0,.slice none 0 0,.int .i64 0] 86)=W0:=⟨_,rfl⟩;rw[show ([.cells #[.int .u8 k,.string ⟨t.toArray⟩,.slice ka M kc,.slice da D dc,.int .i64 l] 26,.cells #[.string ⟨#[]⟩,.string ⟨#[]⟩,.string ⟨#[]⟩,.slice none 0 0,.int .i64 0,.int .i64 0,.int .i64 0,.int .i64 0,.int .u8 0,.string ⟨#[]⟩,.slice none 0 0,.slice none 0 0,.int .i64 0] 86,.cells #[.int .i64 0,.int .i64 0] 29,.cells #[.string ⟨#[]⟩,.string ⟨#[]⟩,.string ⟨#[]⟩,.slice none 0 0,.int .i64 0,.int .i64 0,.int .i64 0,.int .i64 0,.int .u8 0,.string ⟨#[]⟩,.slice none 0 0,.slice none 0 0,.int .i64 0] 86]:List Obj).foldl World.alloc w=W0 from fS,hH]at fK fU dE;replace fU:W0.heap.size=H+1+1+1+1:=fU;have g0:W0.heap[H]?=some (.cells #[.int .u8 k,.string ⟨t.toArray⟩,.slice ka M kc,.slice da D dc,.int .i64 l] 26):=dE 0 _ rfl;have g1:W0.heap[H+1]?=some (.cells #[.string ⟨#[]⟩,.string ⟨#[]⟩,.string ⟨#[]⟩,.slice none 0 0,.int .i64 0,.int .i64 0,.int .i64 0,.int .i64 0,.int .u8 0,.string ⟨#[]⟩,.slice none 0 0,.slice none 0 0,.int .i64 0] 86):=dE 1 _ rfl;have g2:W0.heap[H+1+1]?=some (.cells #[.int .i64 0,.int .i64 0] 29):=dE 2 _ rfl;have g3:W0.heap[H+1+1+1]?=some (.cells #[.string ⟨#[]⟩,.string ⟨#[]⟩,.string ⟨#[]⟩,.slice none 0 0,.int .i64 0,.int .i64 0,.int .i64 0,.int .i64 0,.int .u8 0,.string ⟨#[]⟩,.slice none 0 0,.slice none 0 0,.int .i64 0] 86):=dE 3 _ rfl;have x0:=Ad g0;have gE:=dP W0;have gP:=Ab fS;have iH:=Ab fK;have iI:=Ab g0;have iG:=Ab g1;have iQ:=Ab g2;have iP:=Ab g3;have iK:=Ab gE;have HM:=Ab hM;have HD:=Ab hD;have hU:=Ab fJ;have fY:=Ab fL;have iL:=Ab gF;have fN:=Ab dR;have fP:=Ab gA;have cM:=Ab gZ;have iV:=Ab iF;have jC:=Dl;clear gA gZ iF iB fS fK dE g0 g1 g2 g3 dP gE dR hM hD fJ fL gF q5 q3 gS eJ
 go_enter Tryz.func61,Tryz.ntmps61
 go_upto_region 2 with fail
 try rw[hH]
 rw[Aa gP];go_upto_region 3 with(go_at_call 59;refine(Aa iK).mono ?_;rintro x2 w2 ⟨rfl,fH⟩;have iU:=fH.size;have eB:=Ab fH;clear fH)
 obtain⟨K,hK⟩:∃K,w2.heap.size=K:=⟨_,rfl⟩;obtain⟨W2,dU⟩:∃W2,w2.alloc (.cells #[.int .i64 e,.int .i64 l'] 29)=W2:=⟨_,rfl⟩;have dI:Below K w2 W2:=by rw[←dU];exact(qV _ w2).alloc (by omega) _
 have p0:W2.heap[K]?=some (.cells #[.int .i64 e,.int .i64 l'] 29):=by rw[←dU,←hK];exact qB _ _
 have jD:K+1≤W2.heap.size:=by rw[←dU];simp;omega
 rw[dU];rw[hK];rw[hK]at iU;have eK:Below H w W2:=(Aa iH).trans (((Aa eB).mono (by omega)).trans (dI.mono (by omega)));have r0:=(dI.block H (by omega)).trans (((Aa eB).block H (by omega)).trans (Aa iI));have r1:=(dI.block (H+1) (by omega)).trans (((Aa eB).block (H+1) (by omega)).trans (Aa iG));have r2:=(dI.block (H+1+1) (by omega)).trans (((Aa eB).block (H+1+1) (by omega)).trans (Aa iQ));have r3:=(dI.block (H+1+1+1) (by omega)).trans (((Aa eB).block (H+1+1+1) (by omega)).trans (Aa iP));have gJ:=(Aa hU).below (by rw[hH];exact eK);have dJ:=Eu.below (Aa fY) (by rw[hH];exact eK);have z0:=Ad r0;have z1:=A2 r1;have z2:=Af r2;have z3:=A2 r3;have z4:=Af p0;have eH:=Ab eK;have fG:=Ab r0;have eN:=Ab r1;have eM:=Ab r2;have iR:=Ab r3;have iW:=Ab gJ;have iO:=Ab dJ;clear gP dU dI p0 eK r0 r1 r2 r3 x0 gJ dJ;rcases Aa fN with⟨hne,hq⟩|⟨rfl,rfl,iE,hq⟩
 ·have j1:(e != 0)=true:=by simpa using hne
  have fB:=Ab hne;have HQ:=Ab hq;clear hne hq fN;go_upto_region 4 with fail
  go_region_with_o (fail)
  all_goals go_wp2
  all_goals
   have HE:=Dq (B:=H) (g1:=H+1) (g2:=H+1+1) (w:=w) (Aa eH) (Aa eN) (Aa eM) (by omega) (by omega) (by omega) (.string ⟨#[]⟩) (.string ⟨#[]⟩) (.string ⟨#[]⟩) (.slice none 0 0) (.int .i64 0) (.int .i64 0) (.int .i64 0) (.int .i64 0) (.int .u8 0) (.string ⟨#[]⟩) (.slice none 0 0) (.slice none 0 0) (.int .i64 0) (.int .i64 e) (.int .i64 l');exact qW (Al rfl _ _ _ (H+1) (H+1+1) _ _ rfl (Cc HE.2.1) rfl (Ai HE.2.2.1)) rfl ⟨by rw[hH];exact HE.1,Bc.zero,e,l',rfl,Bc.zero_in _,fun g I=>(Hc g I).elim,.inr ⟨Aa HQ,Aa fB⟩⟩
 ·have HQ:=Ab hq;have fR:=Ab iE;clear hq fN iE;go_wp2
  go_loopg [6] M (fun g s6 wx=>∃(i:Nat) (st:Bc),i+g=M∧s6=.int .i64 i∧Hid (P22.keysGo P22.stepRd (ks.drop i) (Am (ds.drop i)) st.bare=RK)∧Hid (Below (H+1+1+1) W2 wx)∧Hid (wx.heap[H+1+1+1]?=some (.cells st.cs.toArray 86)∧st.In wx∧∀g,st.blk g→PB g∨H+1+1+1<g)∧H+1+1+1+1≤wx.heap.size)
  case atStart=>exact⟨0,Bc.zero,by omega,by go_num,Ab (Aa fP),Ab (qV _ _),Ab ⟨Aa iR,Bc.zero_in _,fun g I=>(Hc g I).elim⟩,by omega⟩
  case round=>
   obtain⟨i,⟨n0,a0,u0,J,aA,aB,q0,X,aC,R,⟨k0,t0,Y,U,S,aD,N,Z,l0⟩⟩,iZ,rfl,HE,dG,bM,iN⟩:=hrel;clear z0 z1 z2 z3 z4;have y0:=((Aa dG).block H (by omega)).trans (Aa fG);have y1:=((Aa dG).block (H+1) (by omega)).trans (Aa eN);have y2:=((Aa dG).block (H+1+1) (by omega)).trans (Aa eM);have cW:Below H w wr:=(Aa eH).trans ((Aa dG).mono (by omega));have z0:=Ad y0;have z1:=A2 y1;have z2:=Af y2;have eF:wr.heap[H+1+1+1]?=some (.cells #[.string ⟨n0.toArray⟩,.string ⟨a0.toArray⟩,.string ⟨u0.toArray⟩,.slice J aB.length aA,.int .i64 q0,.int .i64 X,.int .i64 aC,.int .i64 R,.int .u8 k0,.string ⟨t0.toArray⟩,.slice Y S.length U,.slice aD Z.length N,.int .i64 l0] 86):=(Aa bM).1;have z3:=A2 eF;have cQ:=Ab y0;have cH:=Ab y1;have cI:=Ab y2;have cS:=Ab cW;have cJ:=Ab eF;clear y0 y1 y2 cW eF;cases gk with
   |zero=>
    have e1:(M:Int)≤(i:Int):=by omega
    have j1:decide ((i:Int)<(M:Int))=false:=by simp;omega
    have hE:=Aa HE;rw[qM (l:=ds) (by rw[Aa HD,←Aa fR];omega),qM (l:=ks) (by rw[Aa HM];omega)]at hE;simp only[Am,P22.keysGo]at hE;have hq:=Aa HQ;rw[←hE]at hq;have gB:=Ab hq;clear hE hq HQ HE fP;have gR:Eu wr ka ks:=Eu.below (Aa fY) (by rw[hH];exact Aa cS)
    have fQ:∀(x:List UInt8) W,Below wr.heap.size wr W→Calls Tryz.prog 62 #[.agg #[.int .u8 k,.string ⟨t.toArray⟩,.slice ka M kc,.slice da D dc,.int .i64 l],.string ⟨x.toArray⟩] W (fun e w'=>e=.returned (.bool (decide (x∈ks)))∧Below W.heap.size W w'):=fun x W hb=>by
     have h:=Ji k t ka kc ks da dc ds l x W (Eu.below gR hb) (by rw[Aa HM];omega);rw[Aa HM,Aa HD]at h;exact h
    have dH:=fQ [110,97,109,101] wr (qV _ _);have iC:=Ab fQ
    have aL:∀g,(PB g∨H+1+1+1<g)→g≠H+1∧g≠H+1+1∧g≠H+1+1+1:=fun g h1=>by
     have hp:=Aa cM g;rcases h1 with h|h
     ·have:=hp h;omega
     ·omega
    have aY:=Ab aL;clear fQ gR aL iW iO;by_cases m0:[110,97,109,101]∈ks
    ·rw[show decide ([110,97,109,101]∈ks)=true from decide_eq_true m0]at dH;have eL:=Ab dH;clear dH;by_cases m1:[97,99,116,105,111,110]∈ks
     ·have hq:=Aa gB
      have hr:cO=.ok (⟨n0,a0,u0,J,aA,aB,q0,X,aC,R,.mk k0 t0 Y U S aD N Z l0⟩:Bc).bare:=by
       rw[hq];unfold Hg;simp only[m0,m1,and_self,if_true]
      have HR:=Ab hr;clear hq hr
      go_upto_region 30 with(first
       |(have iT:=cR;go_at_call 62;have dC:=Aa iC [97,99,116,105,111,110] w5 (Aa cR);rw[show decide ([97,99,116,105,111,110]∈ks)=true from decide_eq_true m1]at dC;refine dC.mono ?_;rintro x6 w6 ⟨rfl,G⟩;have aR:=(Aa cR).trans (G.mono (Aa cR).size);have y0:=(aR.block H (by omega)).trans (Aa cQ);have y1:=(aR.block (H+1) (by omega)).trans (Aa cH);have y2:=(aR.block (H+1+1) (by omega)).trans (Aa cI);have y3:=(aR.block (H+1+1+1) (by omega)).trans (Aa cJ);have x0:=Ad y0;have x1:=A2 y1;have x2:=Af y2;have x3:=A2 y3;have bJ:=Ab aR;clear y0 y1 y2 y3 G aR dC)
       | (go_at_call 62;refine(Aa eL).mono ?_;rintro x5 w5 ⟨rfl,bH⟩;have w0:=Ad ((bH.block H (by omega)).trans (Aa cQ));have cR:=Ab bH;clear bH))
      go_wp2;have HE:=Lg (B:=H) (g1:=H+1) (g2:=H+1+1) (w:=w) ((Aa cS).trans ((Aa bJ).mono (by omega))) (((Aa bJ).block (H+1) (by omega)).trans (Aa cH)) (((Aa bJ).block (H+1+1) (by omega)).trans (Aa cI)) (by omega) (by omega) (by omega) (.string ⟨n0.toArray⟩) (.string ⟨a0.toArray⟩) (.string ⟨u0.toArray⟩) (.slice J aB.length aA) (.int .i64 q0) (.int .i64 X) (.int .i64 aC) (.int .i64 R) (.int .u8 k0) (.string ⟨t0.toArray⟩) (.slice Y S.length U) (.slice aD Z.length N) (.int .i64 l0) (.int .i64 0) (.int .i64 0);have cK:=((Aa bM).2.1.below (Aa bJ)).keep (fun g I=>HE.2.2.2 g (Aa aY g ((Aa bM).2.2 g I)).1 (Aa aY g ((Aa bM).2.2 g I)).2.1);exact qW (Al rfl _ _ _ (H+1) (H+1+1) _ _ rfl (Cc HE.2.1) rfl (Ai HE.2.2.1)) rfl ⟨by rw[hH];exact HE.1,(⟨n0,a0,u0,J,aA,aB,q0,X,aC,R,.mk k0 t0 Y U S aD N Z l0⟩:Bc),0,0,rfl,cK,fun g I=>((Aa bM).2.2 g I).imp id (fun h=>by rw[hH];omega),.inl ⟨Aa HR,rfl,rfl⟩⟩
     ·have hq:=Aa gB
      have hr:cO=.error (5,l):=by
       rw[hq];unfold Hg;simp only[m0,m1,and_false,if_false]
      have HR:=Ab hr;clear hq hr
      go_upto_region 29 with(first
       |(have iT:=cR;go_at_call 62;have dC:=Aa iC [97,99,116,105,111,110] w5 (Aa cR);rw[show decide ([97,99,116,105,111,110]∈ks)=false from decide_eq_false m1]at dC;refine dC.mono ?_;rintro x6 w6 ⟨rfl,G⟩;have aR:=(Aa cR).trans (G.mono (Aa cR).size);have y0:=(aR.block H (by omega)).trans (Aa cQ);have y1:=(aR.block (H+1) (by omega)).trans (Aa cH);have y2:=(aR.block (H+1+1) (by omega)).trans (Aa cI);have y3:=(aR.block (H+1+1+1) (by omega)).trans (Aa cJ);have x0:=Ad y0;have x1:=A2 y1;have x2:=Af y2;have x3:=A2 y3;have bJ:=Ab aR;clear y0 y1 y2 y3 G aR dC)
       | (go_at_call 62;refine(Aa eL).mono ?_;rintro x5 w5 ⟨rfl,bH⟩;have w0:=Ad ((bH.block H (by omega)).trans (Aa cQ));have cR:=Ab bH;clear bH))
      refine Pj (n:=111) (x:=4) (y:=1) (p:=2) (q:=3) (c:=5) (l:=l) (bx:=H+1+1+1) (by':=H) (g1:=H+1) (g2:=H+1+1) (cs:=#[.string ⟨n0.toArray⟩,.string ⟨a0.toArray⟩,.string ⟨u0.toArray⟩,.slice J aB.length aA,.int .i64 q0,.int .i64 X,.int .i64 aC,.int .i64 R,.int .u8 k0,.string ⟨t0.toArray⟩,.slice Y S.length U,.slice aD Z.length N,.int .i64 l0]) rfl (by decide) (by decide) (by decide) (by decide) (by decide) (by decide) (by decide) (by decide) rfl rfl rfl rfl (by omega) (by omega) (by omega) (by omega) (by omega) (((Aa bJ).block (H+1+1+1) (by omega)).trans (Aa cJ)) (((Aa bJ).block H (by omega)).trans (Aa cQ)) (((Aa bJ).block (H+1) (by omega)).trans (Aa cH)) (((Aa bJ).block (H+1+1) (by omega)).trans (Aa cI)) (fun o a w K ho he I hk=>Pi rfl o a w K ho he I hk) (by kernel_rfl) rfl (by simp[Value.oneCell']) ?_;intro a9 w9 eZ kp kq cF eC dO;have cK:=((Aa bM).2.1.below (Aa bJ)).keep (fun g I=>cF.same g (Aa aY g ((Aa bM).2.2 g I)).1 (Aa aY g ((Aa bM).2.2 g I)).2.1);have aU:Below H w w6:=(Aa cS).trans ((Aa bJ).mono (by omega));have cW:Below H w w9:=⟨cF.os.trans aU.os,cF.tape.trans aU.tape,cF.output.trans aU.output,qK aU.size cF.size,fun g I=>(cF.same g (by omega) (by omega)).trans (aU.block g I)⟩;have fI:=Ab eC;have fM:=Ab dO;have fO:=Ab kp;have fF:=Ab kq;have dM:=Ab cK;have dL:=Ab cW;clear eC dO kp kq cK cW aU;go_wp2;exact qW (Al rfl _ _ _ (H+1) (H+1+1) _ _ (Aa fO) (Cc (Aa fI)) (Aa fF) (Ai (Aa fM))) eZ ⟨by rw[hH];exact Aa dL,(⟨n0,a0,u0,J,aA,aB,q0,X,aC,R,.mk k0 t0 Y U S aD N Z l0⟩:Bc),5,l,rfl,Aa dM,fun g I=>((Aa bM).2.2 g I).imp id (fun h=>by rw[hH];omega),.inr ⟨Aa HR,by decide⟩⟩
    ·have hq:=Aa gB
     have hr:cO=.error (5,l):=by
      rw[hq];unfold Hg;simp only[m0,false_and,if_false]
     have HR:=Ab hr;rw[show decide ([110,97,109,101]∈ks)=false from decide_eq_false m0]at dH;have eL:=Ab dH;clear dH hq hr;go_upto_region 29 with(go_at_call 62;refine(Aa eL).mono ?_;rintro x6 w6 ⟨rfl,aR⟩;have y0:=(aR.block H (by omega)).trans (Aa cQ);have y1:=(aR.block (H+1) (by omega)).trans (Aa cH);have y2:=(aR.block (H+1+1) (by omega)).trans (Aa cI);have y3:=(aR.block (H+1+1+1) (by omega)).trans (Aa cJ);have x0:=Ad y0;have x1:=A2 y1;have x2:=Af y2;have x3:=A2 y3;have bJ:=Ab aR;clear y0 y1 y2 y3 aR)
     refine Pj (n:=111) (x:=4) (y:=1) (p:=2) (q:=3) (c:=5) (l:=l) (bx:=H+1+1+1) (by':=H) (g1:=H+1) (g2:=H+1+1) (cs:=#[.string ⟨n0.toArray⟩,.string ⟨a0.toArray⟩,.string ⟨u0.toArray⟩,.slice J aB.length aA,.int .i64 q0,.int .i64 X,.int .i64 aC,.int .i64 R,.int .u8 k0,.string ⟨t0.toArray⟩,.slice Y S.length U,.slice aD Z.length N,.int .i64 l0]) rfl (by decide) (by decide) (by decide) (by decide) (by decide) (by decide) (by decide) (by decide) rfl rfl rfl rfl (by omega) (by omega) (by omega) (by omega) (by omega) (((Aa bJ).block (H+1+1+1) (by omega)).trans (Aa cJ)) (((Aa bJ).block H (by omega)).trans (Aa cQ)) (((Aa bJ).block (H+1) (by omega)).trans (Aa cH)) (((Aa bJ).block (H+1+1) (by omega)).trans (Aa cI)) (fun o a w K ho he I hk=>Pi rfl o a w K ho he I hk) (by kernel_rfl) rfl (by simp[Value.oneCell']) ?_;intro a9 w9 eZ kp kq cF eC dO;have cK:=((Aa bM).2.1.below (Aa bJ)).keep (fun g I=>cF.same g (Aa aY g ((Aa bM).2.2 g I)).1 (Aa aY g ((Aa bM).2.2 g I)).2.1);have aU:Below H w w6:=(Aa cS).trans ((Aa bJ).mono (by omega));have cW:Below H w w9:=⟨cF.os.trans aU.os,cF.tape.trans aU.tape,cF.output.trans aU.output,qK aU.size cF.size,fun g I=>(cF.same g (by omega) (by omega)).trans (aU.block g I)⟩;have fI:=Ab eC;have fM:=Ab dO;have fO:=Ab kp;have fF:=Ab kq;have dM:=Ab cK;have dL:=Ab cW;clear eC dO kp kq cK cW aU;go_wp2;exact qW (Al rfl _ _ _ (H+1) (H+1+1) _ _ (Aa fO) (Cc (Aa fI)) (Aa fF) (Ai (Aa fM))) eZ ⟨by rw[hH];exact Aa dL,(⟨n0,a0,u0,J,aA,aB,q0,X,aC,R,.mk k0 t0 Y U S aD N Z l0⟩:Bc),5,l,rfl,Aa dM,fun g I=>((Aa bM).2.2 g I).imp id (fun h=>by rw[hH];omega),.inr ⟨Aa HR,by decide⟩⟩
   |succ g'=>
    have jB:(i:Int)<(M:Int):=by omega
    have iX:(i:Int)<(D:Int):=by have:=Aa fR;omega
    have jA:IntKind.i64.wrap ((i:Int)+1)=(i:Int)+1:=qG _ (by omega);obtain⟨d,dS⟩:=V3 (Aa HD) (show i<D by have:=Aa fR;omega);obtain⟨y,eY⟩:=V3 (Aa HM) (show i<M by omega);have gQ:=Aa iL d (qN dS);have gD:=Aa iV d (qN dS);have hE:=Aa HE
    rw[Cg dS,show ks.drop i=y::ks.drop (i+1) by
     obtain⟨h8,h9⟩:=qI.1 eY
     rw[qL h8,h9]]at hE
    unfold P22.keysGo at hE;have bV:=Ab hE;clear hE HE fP;obtain⟨b2,o2,k1,t1,bR,bQ,bS,bT,bU,bP,l1,rfl,rfl,v0,v1,v2,v3,v4,eV⟩:=Ce ((Aa hU).below (by rw[hH];exact Aa cS)) dS;obtain⟨b3,o3,rfl,dJ⟩:=Eu.below (Aa fY) (by rw[hH];exact Aa cS) i y eY;go_upto_region 10 with fail
    obtain⟨Q,hQ⟩:∃Q,wr.heap.size=Q:=⟨_,rfl⟩;obtain⟨W5,gN,bH,p4,p5,iS⟩:=A0 wr (.cells #[.int .u8 k1,.string ⟨t1.toArray⟩,.slice bR bS.length bQ,.slice bT bP.length bU,.int .i64 l1] 26) (.cells #[.int .i64 0,.int .i64 0] 29) Q hQ;rw[gN];rw[hQ];rw[hQ]at iN;have eU:Below H w W5:=(Aa cS).trans (bH.mono (by omega));have eT:Below (H+1+1+1) W2 W5:=(Aa dG).trans (bH.mono (by omega));have dK:=(bH.block (H+1+1+1) (by omega)).trans (Aa cJ);have eO:(⟨n0,a0,u0,J,aA,aB,q0,X,aC,R,.mk k0 t0 Y U S aD N Z l0⟩:Bc).In W5:=(Aa bM).2.1.below (by rw[hQ];exact bH);have eQ:∀g,(⟨n0,a0,u0,J,aA,aB,q0,X,aC,R,.mk k0 t0 Y U S aD N Z l0⟩:Bc).blk g→(PB g∨H+1+1+1<g)∧g<Q:=fun g I=>⟨(Aa bM).2.2 g I,by rw[←hQ];exact(Aa bM).2.1.lt I⟩;have y0:=(bH.block H (by omega)).trans (Aa cQ);have y1:=(bH.block (H+1) (by omega)).trans (Aa cH);have y2:=(bH.block (H+1+1) (by omega)).trans (Aa cI);have eW:(Nd.mk k1 t1 bR bQ bS bT bU bP l1).In W5:=eV.below (by rw[hQ];exact bH);have gM:W5.cell? ⟨b3,o3+i,none⟩=some (.string ⟨y.toArray⟩):=(Ag (bH.block b3 (by rw[←hQ];exact B3 dJ)) _).trans dJ;clear z0 z1 z2 z3 v0 v1 v2 v3 v4 dJ;have z0:=Ad y0;have z3:=A2 dK;have z4:=Ad p4;have z5:=Af p5;have iY:Q+1+1≤W5.heap.size:=by omega
    have gY:=Ab p4;have cL:=Ab p5;have eR:=Ab eU;have bW:=Ab eT;have bY:=Ab dK;have bX:=Ab eO;have aE:=Ab eQ;have cN:=Ab eW;have gL:=Ab y1;have gO:=Ab y2;have cT:=Ab gQ;have eA:=Ab gD;clear gN p4 p5 bH iS eU eT dK eO eQ y0 y1 y2 cQ cH cI cS dG bM cJ gQ gD eY dS eV eW;by_cases fD:y=[110,97,109,101]
    case' pos=>
     subst fD;have aM:P22.stepRd [110,97,109,101]=some (fun d s=>(P22.textE 64 d).map fun x=>{ s with name:=x }):=rfl;have hE:=Aa bV;rw[aM]at hE;have c0:([110,97,109,101]==[110,97,109,101])=true:=by decide
     have bL:=Ab hE;clear hE bV aM;obtain⟨v,ec,el,bZ,cA⟩:=Ei k1 t1 bR bQ bS bT bU bP l1 64 (by have:=(Aa cT).kid.1;omega);have cB:=Ab (bZ W5);clear bZ;go_upto_region 26 with(go_at_call 60;refine(Aa cB).mono ?_;rintro x6 w6 ⟨rfl,G⟩;have dF:=G.size;have a3:=(G.block (H+1+1+1) (by omega)).trans (Aa bY);have aF:=(G.block (Q+1) (by omega)).trans (Aa cL);have dA:=A2 a3;have cY:=Af aF;have aO:=Ab G;have cE:=Ab a3;have cD:=Ab aF;clear G a3 aF)
     have cC:Below (H+1+1+1) W2 w6:=(Aa bW).trans ((Aa aO).mono (by omega));obtain⟨aS,aT,aK,aQ⟩:=Cr cC (Aa cE) 0 (.string ⟨v.toArray⟩);obtain⟨f1,f2,f3,f4,f5⟩:=C6 (F:=Q+1) aS aT ((aK (Q+1) (by omega)).trans (Aa cD)) (by omega) (.int .i64 ec) (.int .i64 el);obtain⟨W8,bN⟩:∃W8,((w6.setCell ⟨H+1+1+1,0,none⟩ (.string ⟨v.toArray⟩)).setCell ⟨Q+1,0,none⟩ (.int .i64 ec)).setCell ⟨Q+1,1,none⟩ (.int .i64 el)=W8:=⟨_,rfl⟩;rw[bN]at f1 f2 f3 f4 f5 ⊢
     have aH:∀g,g≠H+1+1+1→g≠Q+1→W8.heap[g]?=w6.heap[g]?:=fun g h1 h2=>by
      rw[f4 g h2,aK g h1]
     have aL:∀g,(PB g∨H+1+1+1<g)→g≠H+1∧g≠H+1+1∧g≠H+1+1+1:=fun g h1=>by
      have hp:=Aa cM g;rcases h1 with h|h
      ·have:=hp h;omega
      ·omega
     have aN:∀g,(PB g∨H+1+1+1<g)→g<Q→W8.heap[g]?=W5.heap[g]?:=fun g h1 h2=>(aH g (aL g h1).2.2 (by omega)).trans ((Aa aO).block g (by omega));have aY:=Ab aL
     have aI:(⟨v,a0,u0,J,aA,aB,q0,X,aC,R,.mk k0 t0 Y U S aD N Z l0⟩:Bc).In W8:=by
      have h0:=(Aa bX).keep (fun g I=>aN g (Aa aE g I).1 (Aa aE g I).2);exact⟨h0.keys,h0.len,h0.cap,h0.note⟩
     have aJ:∀g,(⟨v,a0,u0,J,aA,aB,q0,X,aC,R,.mk k0 t0 Y U S aD N Z l0⟩:Bc).blk g→PB g∨H+1+1+1<g:=fun g I=>(Aa aE g I).1;have bO:W8.heap[H+1+1+1]?=some (.cells (⟨v,a0,u0,J,aA,aB,q0,X,aC,R,.mk k0 t0 Y U S aD N Z l0⟩:Bc).cs.toArray 86):=f2;have hE:=Aa bL;have cP:=Ab cA;obtain⟨⟨n2,a2,u2,bI,bA,aW,q2,bF,aX,bE,⟨k2,t2,bB,bD,bG,bK,aZ,bC,l2⟩⟩,aG⟩:∃st':Bc,(⟨v,a0,u0,J,aA,aB,q0,X,aC,R,.mk k0 t0 Y U S aD N Z l0⟩:Bc)=st':=⟨_,rfl⟩;have cV:(⟨v,a0,u0,J,aA,aB,q0,X,aC,R,.mk k0 t0 Y U S aD N Z l0⟩:Bc).bare=(⟨n2,a2,u2,bI,bA,aW,q2,bF,aX,bE,.mk k2 t2 bB bD bG bK aZ bC l2⟩:Bc).bare:=by rw[aG]
     rw[aG]at aI aJ bO;have dB:=Ab (show H+1+1+1+1≤W8.heap.size by rw[f5,aQ];omega);clear f5 aS aT aK aQ
    rotate_left
    by_cases fA:y=[97,99,116,105,111,110]
    case' pos=>
     subst fA;have aM:P22.stepRd [97,99,116,105,111,110]=some (fun d s=>(P22.textE 64 d).map fun x=>{ s with action:=x }):=rfl;have hE:=Aa bV;rw[aM]at hE;have c1:([97,99,116,105,111,110]==[97,99,116,105,111,110])=true:=by decide
     have c0:([97,99,116,105,111,110]==[110,97,109,101])=false:=by decide
     have bL:=Ab hE;clear hE bV aM;obtain⟨v,ec,el,bZ,cA⟩:=Ei k1 t1 bR bQ bS bT bU bP l1 64 (by have:=(Aa cT).kid.1;omega);have cB:=Ab (bZ W5);clear bZ;go_upto_region 26 with(go_at_call 60;refine(Aa cB).mono ?_;rintro x6 w6 ⟨rfl,G⟩;have dF:=G.size;have a3:=(G.block (H+1+1+1) (by omega)).trans (Aa bY);have aF:=(G.block (Q+1) (by omega)).trans (Aa cL);have dA:=A2 a3;have cY:=Af aF;have aO:=Ab G;have cE:=Ab a3;have cD:=Ab aF;clear G a3 aF)
     have cC:Below (H+1+1+1) W2 w6:=(Aa bW).trans ((Aa aO).mono (by omega));obtain⟨aS,aT,aK,aQ⟩:=Cr cC (Aa cE) 1 (.string ⟨v.toArray⟩);obtain⟨f1,f2,f3,f4,f5⟩:=C6 (F:=Q+1) aS aT ((aK (Q+1) (by omega)).trans (Aa cD)) (by omega) (.int .i64 ec) (.int .i64 el);obtain⟨W8,bN⟩:∃W8,((w6.setCell ⟨H+1+1+1,1,none⟩ (.string ⟨v.toArray⟩)).setCell ⟨Q+1,0,none⟩ (.int .i64 ec)).setCell ⟨Q+1,1,none⟩ (.int .i64 el)=W8:=⟨_,rfl⟩;rw[bN]at f1 f2 f3 f4 f5 ⊢
     have aH:∀g,g≠H+1+1+1→g≠Q+1→W8.heap[g]?=w6.heap[g]?:=fun g h1 h2=>by
      rw[f4 g h2,aK g h1]
     have aL:∀g,(PB g∨H+1+1+1<g)→g≠H+1∧g≠H+1+1∧g≠H+1+1+1:=fun g h1=>by
      have hp:=Aa cM g;rcases h1 with h|h
      ·have:=hp h;omega
      ·omega
     have aN:∀g,(PB g∨H+1+1+1<g)→g<Q→W8.heap[g]?=W5.heap[g]?:=fun g h1 h2=>(aH g (aL g h1).2.2 (by omega)).trans ((Aa aO).block g (by omega));have aY:=Ab aL
     have aI:(⟨n0,v,u0,J,aA,aB,q0,X,aC,R,.mk k0 t0 Y U S aD N Z l0⟩:Bc).In W8:=by
      have h0:=(Aa bX).keep (fun g I=>aN g (Aa aE g I).1 (Aa aE g I).2);exact⟨h0.keys,h0.len,h0.cap,h0.note⟩
     have aJ:∀g,(⟨n0,v,u0,J,aA,aB,q0,X,aC,R,.mk k0 t0 Y U S aD N Z l0⟩:Bc).blk g→PB g∨H+1+1+1<g:=fun g I=>(Aa aE g I).1;have bO:W8.heap[H+1+1+1]?=some (.cells (⟨n0,v,u0,J,aA,aB,q0,X,aC,R,.mk k0 t0 Y U S aD N Z l0⟩:Bc).cs.toArray 86):=f2;have hE:=Aa bL;have cP:=Ab cA;obtain⟨⟨n2,a2,u2,bI,bA,aW,q2,bF,aX,bE,⟨k2,t2,bB,bD,bG,bK,aZ,bC,l2⟩⟩,aG⟩:∃st':Bc,(⟨n0,v,u0,J,aA,aB,q0,X,aC,R,.mk k0 t0 Y U S aD N Z l0⟩:Bc)=st':=⟨_,rfl⟩;have cV:(⟨n0,v,u0,J,aA,aB,q0,X,aC,R,.mk k0 t0 Y U S aD N Z l0⟩:Bc).bare=(⟨n2,a2,u2,bI,bA,aW,q2,bF,aX,bE,.mk k2 t2 bB bD bG bK aZ bC l2⟩:Bc).bare:=by rw[aG]
     rw[aG]at aI aJ bO;have dB:=Ab (show H+1+1+1+1≤W8.heap.size by rw[f5,aQ];omega);clear f5 aS aT aK aQ
    rotate_left
    by_cases eX:y=[117,110,100,111]
    case' pos=>
     subst eX;have aM:P22.stepRd [117,110,100,111]=some (fun d s=>(P22.textE 64 d).map fun x=>{ s with undo:=x }):=rfl;have hE:=Aa bV;rw[aM]at hE;have c2:([117,110,100,111]==[117,110,100,111])=true:=by decide
     have c0:([117,110,100,111]==[110,97,109,101])=false:=by decide
     have c1:([117,110,100,111]==[97,99,116,105,111,110])=false:=by decide
     have bL:=Ab hE;clear hE bV aM;obtain⟨v,ec,el,bZ,cA⟩:=Ei k1 t1 bR bQ bS bT bU bP l1 64 (by have:=(Aa cT).kid.1;omega);have cB:=Ab (bZ W5);clear bZ;go_upto_region 26 with(go_at_call 60;refine(Aa cB).mono ?_;rintro x6 w6 ⟨rfl,G⟩;have dF:=G.size;have a3:=(G.block (H+1+1+1) (by omega)).trans (Aa bY);have aF:=(G.block (Q+1) (by omega)).trans (Aa cL);have dA:=A2 a3;have cY:=Af aF;have aO:=Ab G;have cE:=Ab a3;have cD:=Ab aF;clear G a3 aF)
     have cC:Below (H+1+1+1) W2 w6:=(Aa bW).trans ((Aa aO).mono (by omega));obtain⟨aS,aT,aK,aQ⟩:=Cr cC (Aa cE) 2 (.string ⟨v.toArray⟩);obtain⟨f1,f2,f3,f4,f5⟩:=C6 (F:=Q+1) aS aT ((aK (Q+1) (by omega)).trans (Aa cD)) (by omega) (.int .i64 ec) (.int .i64 el);obtain⟨W8,bN⟩:∃W8,((w6.setCell ⟨H+1+1+1,2,none⟩ (.string ⟨v.toArray⟩)).setCell ⟨Q+1,0,none⟩ (.int .i64 ec)).setCell ⟨Q+1,1,none⟩ (.int .i64 el)=W8:=⟨_,rfl⟩;rw[bN]at f1 f2 f3 f4 f5 ⊢
     have aH:∀g,g≠H+1+1+1→g≠Q+1→W8.heap[g]?=w6.heap[g]?:=fun g h1 h2=>by
      rw[f4 g h2,aK g h1]
     have aL:∀g,(PB g∨H+1+1+1<g)→g≠H+1∧g≠H+1+1∧g≠H+1+1+1:=fun g h1=>by
      have hp:=Aa cM g;rcases h1 with h|h
      ·have:=hp h;omega
      ·omega
     have aN:∀g,(PB g∨H+1+1+1<g)→g<Q→W8.heap[g]?=W5.heap[g]?:=fun g h1 h2=>(aH g (aL g h1).2.2 (by omega)).trans ((Aa aO).block g (by omega));have aY:=Ab aL
     have aI:(⟨n0,a0,v,J,aA,aB,q0,X,aC,R,.mk k0 t0 Y U S aD N Z l0⟩:Bc).In W8:=by
      have h0:=(Aa bX).keep (fun g I=>aN g (Aa aE g I).1 (Aa aE g I).2);exact⟨h0.keys,h0.len,h0.cap,h0.note⟩
     have aJ:∀g,(⟨n0,a0,v,J,aA,aB,q0,X,aC,R,.mk k0 t0 Y U S aD N Z l0⟩:Bc).blk g→PB g∨H+1+1+1<g:=fun g I=>(Aa aE g I).1;have bO:W8.heap[H+1+1+1]?=some (.cells (⟨n0,a0,v,J,aA,aB,q0,X,aC,R,.mk k0 t0 Y U S aD N Z l0⟩:Bc).cs.toArray 86):=f2;have hE:=Aa bL;have cP:=Ab cA;obtain⟨⟨n2,a2,u2,bI,bA,aW,q2,bF,aX,bE,⟨k2,t2,bB,bD,bG,bK,aZ,bC,l2⟩⟩,aG⟩:∃st':Bc,(⟨n0,a0,v,J,aA,aB,q0,X,aC,R,.mk k0 t0 Y U S aD N Z l0⟩:Bc)=st':=⟨_,rfl⟩;have cV:(⟨n0,a0,v,J,aA,aB,q0,X,aC,R,.mk k0 t0 Y U S aD N Z l0⟩:Bc).bare=(⟨n2,a2,u2,bI,bA,aW,q2,bF,aX,bE,.mk k2 t2 bB bD bG bK aZ bC l2⟩:Bc).bare:=by rw[aG]
     rw[aG]at aI aJ bO;have dB:=Ab (show H+1+1+1+1≤W8.heap.size by rw[f5,aQ];omega);clear f5 aS aT aK aQ
    rotate_left
    by_cases fW:y=[97,102,116,101,114]
    case' pos=>
     subst fW;have aM:P22.stepRd [97,102,116,101,114]=some (fun d s=>(P22.namesE d).map fun x=>{ s with after:=x }):=rfl;have hE:=Aa bV;rw[aM]at hE;have c3:([97,102,116,101,114]==[97,102,116,101,114])=true:=by decide
     have c0:([97,102,116,101,114]==[110,97,109,101])=false:=by decide
     have c1:([97,102,116,101,114]==[97,99,116,105,111,110])=false:=by decide
     have c2:([97,102,116,101,114]==[117,110,100,111])=false:=by decide
     have bL:=Ab hE;clear hE bV aM;have cB:=Ab (M7 k1 t1 bR bQ bS bT bU bP l1 W5 (Aa cN) (Aa cT));go_upto_region 26 with(go_at_call 94;refine(Aa cB).mono ?_;rintro x6 w6 ⟨G,a6,c6,xs,ec,el,rfl,gH,cA⟩;have dF:=G.size;have a3:=(G.block (H+1+1+1) (by omega)).trans (Aa bY);have aF:=(G.block (Q+1) (by omega)).trans (Aa cL);have dA:=A2 a3;have cY:=Af aF;have aO:=Ab G;have cE:=Ab a3;have cD:=Ab aF;clear G a3 aF;have iA:=Ab gH;clear gH)
     have cC:Below (H+1+1+1) W2 w6:=(Aa bW).trans ((Aa aO).mono (by omega));obtain⟨aS,aT,aK,aQ⟩:=Cr cC (Aa cE) 3 (.slice a6 xs.length c6);obtain⟨f1,f2,f3,f4,f5⟩:=C6 (F:=Q+1) aS aT ((aK (Q+1) (by omega)).trans (Aa cD)) (by omega) (.int .i64 ec) (.int .i64 el);obtain⟨W8,bN⟩:∃W8,((w6.setCell ⟨H+1+1+1,3,none⟩ (.slice a6 xs.length c6)).setCell ⟨Q+1,0,none⟩ (.int .i64 ec)).setCell ⟨Q+1,1,none⟩ (.int .i64 el)=W8:=⟨_,rfl⟩;rw[bN]at f1 f2 f3 f4 f5 ⊢
     have aH:∀g,g≠H+1+1+1→g≠Q+1→W8.heap[g]?=w6.heap[g]?:=fun g h1 h2=>by
      rw[f4 g h2,aK g h1]
     have aL:∀g,(PB g∨H+1+1+1<g)→g≠H+1∧g≠H+1+1∧g≠H+1+1+1:=fun g h1=>by
      have hp:=Aa cM g;rcases h1 with h|h
      ·have:=hp h;omega
      ·omega
     have aN:∀g,(PB g∨H+1+1+1<g)→g<Q→W8.heap[g]?=W5.heap[g]?:=fun g h1 h2=>(aH g (aL g h1).2.2 (by omega)).trans ((Aa aO).block g (by omega));have aY:=Ab aL
     have aI:(⟨n0,a0,u0,a6,c6,xs,q0,X,aC,R,.mk k0 t0 Y U S aD N Z l0⟩:Bc).In W8:=by
      obtain⟨s1,s2,s3,s4⟩:=Hb (Aa iA);have h0:=(Aa bX).keep (fun g I=>aN g (Aa aE g I).1 (Aa aE g I).2);exact⟨s1.keep (fun g hn I=>by have:=s4 g hn I;exact aH g (by omega) (by omega)),s2,s3,h0.note⟩
     have aJ:∀g,(⟨n0,a0,u0,a6,c6,xs,q0,X,aC,R,.mk k0 t0 Y U S aD N Z l0⟩:Bc).blk g→PB g∨H+1+1+1<g:=by
      obtain⟨s1,s2,s3,s4⟩:=Hb (Aa iA);rintro g (⟨hn,I⟩|I)
      ·have:=s4 g hn I;right;omega
      ·exact(Aa aE g (.inr I)).1
     have bO:W8.heap[H+1+1+1]?=some (.cells (⟨n0,a0,u0,a6,c6,xs,q0,X,aC,R,.mk k0 t0 Y U S aD N Z l0⟩:Bc).cs.toArray 86):=f2;have hE:=Aa bL;have cP:=Ab cA;obtain⟨⟨n2,a2,u2,bI,bA,aW,q2,bF,aX,bE,⟨k2,t2,bB,bD,bG,bK,aZ,bC,l2⟩⟩,aG⟩:∃st':Bc,(⟨n0,a0,u0,a6,c6,xs,q0,X,aC,R,.mk k0 t0 Y U S aD N Z l0⟩:Bc)=st':=⟨_,rfl⟩;have cV:(⟨n0,a0,u0,a6,c6,xs,q0,X,aC,R,.mk k0 t0 Y U S aD N Z l0⟩:Bc).bare=(⟨n2,a2,u2,bI,bA,aW,q2,bF,aX,bE,.mk k2 t2 bB bD bG bK aZ bC l2⟩:Bc).bare:=by rw[aG]
     rw[aG]at aI aJ bO;have dB:=Ab (show H+1+1+1+1≤W8.heap.size by rw[f5,aQ];omega);clear f5 aS aT aK aQ
    rotate_left
    by_cases fT:y=[114,101,116,114,121]
    case' pos=>
     subst fT;have aM:P22.stepRd [114,101,116,114,121]=some (fun d s=>(P22.triesE d).map fun x=>{ s with tries:=x }):=rfl;have hE:=Aa bV;rw[aM]at hE;have c4:([114,101,116,114,121]==[114,101,116,114,121])=true:=by decide
     have c0:([114,101,116,114,121]==[110,97,109,101])=false:=by decide
     have c1:([114,101,116,114,121]==[97,99,116,105,111,110])=false:=by decide
     have c2:([114,101,116,114,121]==[117,110,100,111])=false:=by decide
     have c3:([114,101,116,114,121]==[97,102,116,101,114])=false:=by decide
     have bL:=Ab hE;clear hE bV aM;have cB:=Ab (N1 k1 t1 bR bQ bS bT bU bP l1 W5 (Aa cN) (Aa cT));go_upto_region 26 with(go_at_call 95;refine(Aa cB).mono ?_;rintro x6 w6 ⟨G,⟨vm,vf,vg⟩,ec,el,rfl,cA⟩;have dF:=G.size;have a3:=(G.block (H+1+1+1) (by omega)).trans (Aa bY);have aF:=(G.block (Q+1) (by omega)).trans (Aa cL);have dA:=A2 a3;have cY:=Af aF;have aO:=Ab G;have cE:=Ab a3;have cD:=Ab aF;clear G a3 aF)
     have cC:Below (H+1+1+1) W2 w6:=(Aa bW).trans ((Aa aO).mono (by omega));obtain⟨aS,aT,aK,aQ⟩:=Cr cC (Aa cE) 4 (.int .i64 vm);obtain⟨dX,dW,cZ,dY⟩:=Cr aS aT 5 (.int .i64 vf);obtain⟨dZ,eE,cX,eG⟩:=Cr dX dW 6 (.int .i64 vg);obtain⟨f1,f2,f3,f4,f5⟩:=C6 (F:=Q+1) dZ eE ((cX (Q+1) (by omega)).trans ((cZ (Q+1) (by omega)).trans ((aK (Q+1) (by omega)).trans (Aa cD)))) (by omega) (.int .i64 ec) (.int .i64 el);obtain⟨W8,bN⟩:∃W8,((((w6.setCell ⟨H+1+1+1,4,none⟩ (.int .i64 vm)).setCell ⟨H+1+1+1,5,none⟩ (.int .i64 vf)).setCell ⟨H+1+1+1,6,none⟩ (.int .i64 vg)).setCell ⟨Q+1,0,none⟩ (.int .i64 ec)).setCell ⟨Q+1,1,none⟩ (.int .i64 el)=W8:=⟨_,rfl⟩;rw[bN]at f1 f2 f3 f4 f5 ⊢
     have aH:∀g,g≠H+1+1+1→g≠Q+1→W8.heap[g]?=w6.heap[g]?:=fun g h1 h2=>by
      rw[f4 g h2,cX g h1,cZ g h1,aK g h1]
     have aL:∀g,(PB g∨H+1+1+1<g)→g≠H+1∧g≠H+1+1∧g≠H+1+1+1:=fun g h1=>by
      have hp:=Aa cM g;rcases h1 with h|h
      ·have:=hp h;omega
      ·omega
     have aN:∀g,(PB g∨H+1+1+1<g)→g<Q→W8.heap[g]?=W5.heap[g]?:=fun g h1 h2=>(aH g (aL g h1).2.2 (by omega)).trans ((Aa aO).block g (by omega));have aY:=Ab aL
     have aI:(⟨n0,a0,u0,J,aA,aB,vm,vf,vg,R,.mk k0 t0 Y U S aD N Z l0⟩:Bc).In W8:=by
      have h0:=(Aa bX).keep (fun g I=>aN g (Aa aE g I).1 (Aa aE g I).2);exact⟨h0.keys,h0.len,h0.cap,h0.note⟩
     have aJ:∀g,(⟨n0,a0,u0,J,aA,aB,vm,vf,vg,R,.mk k0 t0 Y U S aD N Z l0⟩:Bc).blk g→PB g∨H+1+1+1<g:=fun g I=>(Aa aE g I).1;have bO:W8.heap[H+1+1+1]?=some (.cells (⟨n0,a0,u0,J,aA,aB,vm,vf,vg,R,.mk k0 t0 Y U S aD N Z l0⟩:Bc).cs.toArray 86):=f2;have hE:=Aa bL;have cP:=Ab cA;obtain⟨⟨n2,a2,u2,bI,bA,aW,q2,bF,aX,bE,⟨k2,t2,bB,bD,bG,bK,aZ,bC,l2⟩⟩,aG⟩:∃st':Bc,(⟨n0,a0,u0,J,aA,aB,vm,vf,vg,R,.mk k0 t0 Y U S aD N Z l0⟩:Bc)=st':=⟨_,rfl⟩;have cV:(⟨n0,a0,u0,J,aA,aB,vm,vf,vg,R,.mk k0 t0 Y U S aD N Z l0⟩:Bc).bare=(⟨n2,a2,u2,bI,bA,aW,q2,bF,aX,bE,.mk k2 t2 bB bD bG bK aZ bC l2⟩:Bc).bare:=by rw[aG]
     rw[aG]at aI aJ bO;have dB:=Ab (show H+1+1+1+1≤W8.heap.size by rw[f5,eG,dY,aQ];omega);clear f5 aS aT aK aQ dX dW cZ dY dZ eE cX eG
    rotate_left
    by_cases fZ:y=[108,105,109,105,116]
    case' pos=>
     subst fZ;have aM:P22.stepRd [108,105,109,105,116]=some (fun d s=>(P22.numE d).map fun x=>{ s with limit:=x }):=rfl;have hE:=Aa bV;rw[aM]at hE;have c5:([108,105,109,105,116]==[108,105,109,105,116])=true:=by decide
     have c0:([108,105,109,105,116]==[110,97,109,101])=false:=by decide
     have c1:([108,105,109,105,116]==[97,99,116,105,111,110])=false:=by decide
     have c2:([108,105,109,105,116]==[117,110,100,111])=false:=by decide
     have c3:([108,105,109,105,116]==[97,102,116,101,114])=false:=by decide
     have c4:([108,105,109,105,116]==[114,101,116,114,121])=false:=by decide
     have bL:=Ab hE;clear hE bV aM;obtain⟨v,ec,el,bZ,cA⟩:=Ex k1 t1 bR bQ bS bT bU bP l1 (Aa cT).kid.1;have cB:=Ab (bZ W5);clear bZ;go_upto_region 26 with(go_at_call 96;refine(Aa cB).mono ?_;rintro x6 w6 ⟨rfl,G⟩;have dF:=G.size;have a3:=(G.block (H+1+1+1) (by omega)).trans (Aa bY);have aF:=(G.block (Q+1) (by omega)).trans (Aa cL);have dA:=A2 a3;have cY:=Af aF;have aO:=Ab G;have cE:=Ab a3;have cD:=Ab aF;clear G a3 aF)
     have cC:Below (H+1+1+1) W2 w6:=(Aa bW).trans ((Aa aO).mono (by omega));obtain⟨aS,aT,aK,aQ⟩:=Cr cC (Aa cE) 7 (.int .i64 v);obtain⟨f1,f2,f3,f4,f5⟩:=C6 (F:=Q+1) aS aT ((aK (Q+1) (by omega)).trans (Aa cD)) (by omega) (.int .i64 ec) (.int .i64 el);obtain⟨W8,bN⟩:∃W8,((w6.setCell ⟨H+1+1+1,7,none⟩ (.int .i64 v)).setCell ⟨Q+1,0,none⟩ (.int .i64 ec)).setCell ⟨Q+1,1,none⟩ (.int .i64 el)=W8:=⟨_,rfl⟩;rw[bN]at f1 f2 f3 f4 f5 ⊢
     have aH:∀g,g≠H+1+1+1→g≠Q+1→W8.heap[g]?=w6.heap[g]?:=fun g h1 h2=>by
      rw[f4 g h2,aK g h1]
     have aL:∀g,(PB g∨H+1+1+1<g)→g≠H+1∧g≠H+1+1∧g≠H+1+1+1:=fun g h1=>by
      have hp:=Aa cM g;rcases h1 with h|h
      ·have:=hp h;omega
      ·omega
     have aN:∀g,(PB g∨H+1+1+1<g)→g<Q→W8.heap[g]?=W5.heap[g]?:=fun g h1 h2=>(aH g (aL g h1).2.2 (by omega)).trans ((Aa aO).block g (by omega));have aY:=Ab aL
     have aI:(⟨n0,a0,u0,J,aA,aB,q0,X,aC,v,.mk k0 t0 Y U S aD N Z l0⟩:Bc).In W8:=by
      have h0:=(Aa bX).keep (fun g I=>aN g (Aa aE g I).1 (Aa aE g I).2);exact⟨h0.keys,h0.len,h0.cap,h0.note⟩
     have aJ:∀g,(⟨n0,a0,u0,J,aA,aB,q0,X,aC,v,.mk k0 t0 Y U S aD N Z l0⟩:Bc).blk g→PB g∨H+1+1+1<g:=fun g I=>(Aa aE g I).1;have bO:W8.heap[H+1+1+1]?=some (.cells (⟨n0,a0,u0,J,aA,aB,q0,X,aC,v,.mk k0 t0 Y U S aD N Z l0⟩:Bc).cs.toArray 86):=f2;have hE:=Aa bL;have cP:=Ab cA;obtain⟨⟨n2,a2,u2,bI,bA,aW,q2,bF,aX,bE,⟨k2,t2,bB,bD,bG,bK,aZ,bC,l2⟩⟩,aG⟩:∃st':Bc,(⟨n0,a0,u0,J,aA,aB,q0,X,aC,v,.mk k0 t0 Y U S aD N Z l0⟩:Bc)=st':=⟨_,rfl⟩;have cV:(⟨n0,a0,u0,J,aA,aB,q0,X,aC,v,.mk k0 t0 Y U S aD N Z l0⟩:Bc).bare=(⟨n2,a2,u2,bI,bA,aW,q2,bF,aX,bE,.mk k2 t2 bB bD bG bK aZ bC l2⟩:Bc).bare:=by rw[aG]
     rw[aG]at aI aJ bO;have dB:=Ab (show H+1+1+1+1≤W8.heap.size by rw[f5,aQ];omega);clear f5 aS aT aK aQ
    rotate_left
    by_cases fE:y=[110,111,116,101]
    case' pos=>
     subst fE;have aM:P22.stepRd [110,111,116,101]=some (fun d s=>(P22.noteE d).map fun x=>{ s with note:=x }):=rfl;have hE:=Aa bV;rw[aM]at hE;have c6:([110,111,116,101]==[110,111,116,101])=true:=by decide
     have c0:([110,111,116,101]==[110,97,109,101])=false:=by decide
     have c1:([110,111,116,101]==[97,99,116,105,111,110])=false:=by decide
     have c2:([110,111,116,101]==[117,110,100,111])=false:=by decide
     have c3:([110,111,116,101]==[97,102,116,101,114])=false:=by decide
     have c4:([110,111,116,101]==[114,101,116,114,121])=false:=by decide
     have c5:([110,111,116,101]==[108,105,109,105,116])=false:=by decide
     have bL:=Ab hE;clear hE bV aM;obtain⟨ec,el,bZ,cA⟩:=Ra k1 t1 bR bQ bS bT bU bP l1 (P20.okF.sk (Aa cT)) ((Aa cT).size 18);have cB:=Ab (bZ W5 (Aa cN));clear bZ;go_upto_region 26 with(go_at_call 97;refine(Aa cB).mono ?_;rintro x6 w6 ⟨rfl,G⟩;have dF:=G.size;have a3:=(G.block (H+1+1+1) (by omega)).trans (Aa bY);have aF:=(G.block (Q+1) (by omega)).trans (Aa cL);have dA:=A2 a3;have cY:=Af aF;have aO:=Ab G;have cE:=Ab a3;have cD:=Ab aF;clear G a3 aF)
     have cC:Below (H+1+1+1) W2 w6:=(Aa bW).trans ((Aa aO).mono (by omega));obtain⟨aS,aT,aK,aQ⟩:=Cr cC (Aa cE) 8 (.int .u8 k1);obtain⟨dX,dW,cZ,dY⟩:=Cr aS aT 9 (.string ⟨t1.toArray⟩);obtain⟨dZ,eE,cX,eG⟩:=Cr dX dW 10 (.slice bR bS.length bQ);obtain⟨iD,gW,fC,gG⟩:=Cr dZ eE 11 (.slice bT bP.length bU);obtain⟨gK,gI,fX,gV⟩:=Cr iD gW 12 (.int .i64 l1);obtain⟨f1,f2,f3,f4,f5⟩:=C6 (F:=Q+1) gK gI ((fX (Q+1) (by omega)).trans ((fC (Q+1) (by omega)).trans ((cX (Q+1) (by omega)).trans ((cZ (Q+1) (by omega)).trans ((aK (Q+1) (by omega)).trans (Aa cD)))))) (by omega) (.int .i64 ec) (.int .i64 el);obtain⟨W8,bN⟩:∃W8,((((((w6.setCell ⟨H+1+1+1,8,none⟩ (.int .u8 k1)).setCell ⟨H+1+1+1,9,none⟩ (.string ⟨t1.toArray⟩)).setCell ⟨H+1+1+1,10,none⟩ (.slice bR bS.length bQ)).setCell ⟨H+1+1+1,11,none⟩ (.slice bT bP.length bU)).setCell ⟨H+1+1+1,12,none⟩ (.int .i64 l1)).setCell ⟨Q+1,0,none⟩ (.int .i64 ec)).setCell ⟨Q+1,1,none⟩ (.int .i64 el)=W8:=⟨_,rfl⟩;rw[bN]at f1 f2 f3 f4 f5 ⊢
     have aH:∀g,g≠H+1+1+1→g≠Q+1→W8.heap[g]?=w6.heap[g]?:=fun g h1 h2=>by
      rw[f4 g h2,fX g h1,fC g h1,cX g h1,cZ g h1,aK g h1]
     have aL:∀g,(PB g∨H+1+1+1<g)→g≠H+1∧g≠H+1+1∧g≠H+1+1+1:=fun g h1=>by
      have hp:=Aa cM g;rcases h1 with h|h
      ·have:=hp h;omega
      ·omega
     have aN:∀g,(PB g∨H+1+1+1<g)→g<Q→W8.heap[g]?=W5.heap[g]?:=fun g h1 h2=>(aH g (aL g h1).2.2 (by omega)).trans ((Aa aO).block g (by omega));have aY:=Ab aL
     have aI:(⟨n0,a0,u0,J,aA,aB,q0,X,aC,R,.mk k1 t1 bR bQ bS bT bU bP l1⟩:Bc).In W8:=by
      have h0:=(Aa bX).keep (fun g I=>aN g (Aa aE g I).1 (Aa aE g I).2);exact⟨h0.keys,h0.len,h0.cap,(Aa cN).keep (fun g I=>aN g (.inl (Aa eA g I)) (by have:=Aa cM g (Aa eA g I);omega))⟩
     have aJ:∀g,(⟨n0,a0,u0,J,aA,aB,q0,X,aC,R,.mk k1 t1 bR bQ bS bT bU bP l1⟩:Bc).blk g→PB g∨H+1+1+1<g:=by
      rintro g (I|I)
      ·exact(Aa aE g (.inl I)).1
      ·exact .inl (Aa eA g I)
     have bO:W8.heap[H+1+1+1]?=some (.cells (⟨n0,a0,u0,J,aA,aB,q0,X,aC,R,.mk k1 t1 bR bQ bS bT bU bP l1⟩:Bc).cs.toArray 86):=f2;have hE:=Aa bL;have cP:=Ab cA;obtain⟨⟨n2,a2,u2,bI,bA,aW,q2,bF,aX,bE,⟨k2,t2,bB,bD,bG,bK,aZ,bC,l2⟩⟩,aG⟩:∃st':Bc,(⟨n0,a0,u0,J,aA,aB,q0,X,aC,R,.mk k1 t1 bR bQ bS bT bU bP l1⟩:Bc)=st':=⟨_,rfl⟩;have cV:(⟨n0,a0,u0,J,aA,aB,q0,X,aC,R,.mk k1 t1 bR bQ bS bT bU bP l1⟩:Bc).bare=(⟨n2,a2,u2,bI,bA,aW,q2,bF,aX,bE,.mk k2 t2 bB bD bG bK aZ bC l2⟩:Bc).bare:=by rw[aG]
     rw[aG]at aI aJ bO;have dB:=Ab (show H+1+1+1+1≤W8.heap.size by rw[f5,gV,gG,eG,dY,aQ];omega);clear f5 aS aT aK aQ dX dW cZ dY dZ eE cX eG iD gW fC gG gK gI fX gV
    rotate_left
    ·have aM:P22.stepRd y=none:=by unfold P22.stepRd;rw[if_neg fD,if_neg fA,if_neg eX,if_neg fW,if_neg fT,if_neg fZ,if_neg fE]
     have hE:=Aa bV;rw[aM]at hE;have hq:=Aa HQ;rw[show RK=.error (18,l1) from hE.symm]at hq;have dQ:=Ab (show cO=.error (18,l1) from hq);have c0:(y==[110,97,109,101])=false:=by simpa using fD
     have c1:(y==[97,99,116,105,111,110])=false:=by simpa using fA
     have c2:(y==[117,110,100,111])=false:=by simpa using eX
     have c3:(y==[97,102,116,101,114])=false:=by simpa using fW
     have c4:(y==[114,101,116,114,121])=false:=by simpa using fT
     have c5:(y==[108,105,109,105,116])=false:=by simpa using fZ
     have c6:(y==[110,111,116,101])=false:=by simpa using fE
     clear hE bV aM hq;go_upto_region 26 with fail
     obtain⟨f1,f2,f3,f4,f5⟩:=C6 (F:=Q+1) (Aa bW) (Aa bY) (Aa cL) (by omega) (.int .i64 18) (.int .i64 l1);obtain⟨W8,bN⟩:∃W8,(W5.setCell ⟨Q+1,0,none⟩ (.int .i64 18)).setCell ⟨Q+1,1,none⟩ (.int .i64 l1)=W8:=⟨_,rfl⟩;rw[bN]at f1 f2 f3 f4 f5 ⊢;have aI:(⟨n0,a0,u0,J,aA,aB,q0,X,aC,R,.mk k0 t0 Y U S aD N Z l0⟩:Bc).In W8:=(Aa bX).keep (fun g I=>f4 g (by have:=(Aa aE g I).2;omega));have aJ:∀g,(⟨n0,a0,u0,J,aA,aB,q0,X,aC,R,.mk k0 t0 Y U S aD N Z l0⟩:Bc).blk g→PB g∨H+1+1+1<g:=fun g I=>(Aa aE g I).1
     have aL:∀g,(PB g∨H+1+1+1<g)→g≠H+1∧g≠H+1+1∧g≠H+1+1+1:=fun g h1=>by
      have hp:=Aa cM g;rcases h1 with h|h
      ·have:=hp h;omega
      ·omega
     have y0:=(f1.block H (by omega)).trans (Aa fG);have y1:=(f1.block (H+1) (by omega)).trans (Aa eN);have y2:=(f1.block (H+1+1) (by omega)).trans (Aa eM);have cU:Below H w W8:=(Aa eH).trans (f1.mono (by omega));clear z0 z3 z4 z5 gM;have z0:=Ad y0;have z1:=A2 y1;have z2:=Af y2;have z3:=A2 f2;have z5:=Af f3;have dN:=Ab cU;have cH:=Ab y1;have cI:=Ab y2;have dD:=Ab aI;have cG:=Ab aJ;have aY:=Ab aL;clear cU f1 f2 f3 f4 f5 y0 y1 y2 bN gY cL bY bW eR gL gO aI aJ aL bX aE cN;go_upto_region 27 with fail
     go_region_with_o (fail)
     all_goals go_wp2
     all_goals
      have HE:=Dq (B:=H) (g1:=H+1) (g2:=H+1+1) (w:=w) (Aa dN) (Aa cH) (Aa cI) (by omega) (by omega) (by omega) (.string ⟨n0.toArray⟩) (.string ⟨a0.toArray⟩) (.string ⟨u0.toArray⟩) (.slice J aB.length aA) (.int .i64 q0) (.int .i64 X) (.int .i64 aC) (.int .i64 R) (.int .u8 k0) (.string ⟨t0.toArray⟩) (.slice Y S.length U) (.slice aD Z.length N) (.int .i64 l0) (.int .i64 18) (.int .i64 l1);have cK:=(Aa dD).keep (fun g I=>HE.2.2.2 g (Aa aY g (Aa cG g I)).1 (Aa aY g (Aa cG g I)).2.1);exact qW (Al rfl _ _ _ (H+1) (H+1+1) _ _ rfl (Cc HE.2.1) rfl (Ai HE.2.2.1)) rfl ⟨by rw[hH];exact HE.1,(⟨n0,a0,u0,J,aA,aB,q0,X,aC,R,.mk k0 t0 Y U S aD N Z l0⟩:Bc),18,l1,rfl,cK,fun g I=>(Aa cG g I).imp id (fun h=>by rw[hH];omega),.inr ⟨Aa dQ,by decide⟩⟩
    all_goals
     have eP:W8.heap[H+1+1+1]?=some (.cells #[.string ⟨n2.toArray⟩,.string ⟨a2.toArray⟩,.string ⟨u2.toArray⟩,.slice bI aW.length bA,.int .i64 q2,.int .i64 bF,.int .i64 aX,.int .i64 bE,.int .u8 k2,.string ⟨t2.toArray⟩,.slice bB bG.length bD,.slice bK bC.length aZ,.int .i64 l2] 86):=bO;have dD:=Ab aI;have cG:=Ab aJ;have y0:=(f1.block H (by omega)).trans (Aa fG);have y1:=(f1.block (H+1) (by omega)).trans (Aa eN);have y2:=(f1.block (H+1+1) (by omega)).trans (Aa eM);have cU:Below H w W8:=(Aa eH).trans (f1.mono (by omega));clear z0 z3 z4 z5 gM dA cY cA hE;have z0:=Ad y0;have z1:=A2 y1;have z2:=Af y2;have z3:=A2 eP;have z5:=Af f3;have gC:=Ab cV;have dN:=Ab cU;have iM:=Ab f1;have iJ:=Ab bO;have cH:=Ab y1;have cI:=Ab y2;clear cU f1 f2 bO eP f3 f4 y0 y1 y2 bN cC cE cD aO gY cL bY bW eR gL gO cB aI aJ aG cV aH aN aL bX aE cN;rcases Aa cP with⟨hr,rfl,rfl⟩|⟨hr,hne⟩
     ·have hE:=Aa bL;rw[hr]at hE;have gU:P22.keysGo P22.stepRd (ks.drop (i+1)) (Am (ds.drop (i+1))) (⟨n2,a2,u2,bI,bA,aW,q2,bF,aX,bE,.mk k2 t2 bB bD bG bK aZ bC l2⟩:Bc).bare=RK:=by rw[←Aa gC];exact hE
      have dQ:=Ab gU;clear hE gU hr bL cP gC;go_wp2;go_roundg g'
      case measure=>omega
      case rel=>exact⟨i+1,(⟨n2,a2,u2,bI,bA,aW,q2,bF,aX,bE,.mk k2 t2 bB bD bG bK aZ bC l2⟩:Bc),by omega,by go_num,dQ,iM,Ab ⟨Aa iJ,Aa dD,Aa cG⟩,Aa dB⟩
     ·have j1:(ec != 0)=true:=by simpa using hne
      have hE:=Aa bL;rw[hr]at hE;have hq:=Aa HQ;rw[show RK=.error (ec,el) from hE.symm]at hq;have dQ:=Ab (show cO=.error (ec,el) from hq);have fB:=Ab hne;clear hE hr bL cP hne hq gC;go_upto_region 27 with fail
      go_region_with_o (fail)
      all_goals go_wp2
      all_goals
       have HE:=Dq (B:=H) (g1:=H+1) (g2:=H+1+1) (w:=w) (Aa dN) (Aa cH) (Aa cI) (by omega) (by omega) (by omega) (.string ⟨n2.toArray⟩) (.string ⟨a2.toArray⟩) (.string ⟨u2.toArray⟩) (.slice bI aW.length bA) (.int .i64 q2) (.int .i64 bF) (.int .i64 aX) (.int .i64 bE) (.int .u8 k2) (.string ⟨t2.toArray⟩) (.slice bB bG.length bD) (.slice bK bC.length aZ) (.int .i64 l2) (.int .i64 ec) (.int .i64 el);have cK:=(Aa dD).keep (fun g I=>HE.2.2.2 g (Aa aY g (Aa cG g I)).1 (Aa aY g (Aa cG g I)).2.1);exact qW (Al rfl _ _ _ (H+1) (H+1+1) _ _ rfl (Cc HE.2.1) rfl (Ai HE.2.2.1)) rfl ⟨by rw[hH];exact HE.1,(⟨n2,a2,u2,bI,bA,aW,q2,bF,aX,bE,.mk k2 t2 bB bD bG bK aZ bC l2⟩:Bc),ec,el,rfl,cK,fun g I=>(Aa cG g I).imp id (fun h=>by rw[hH];omega),.inr ⟨Aa dQ,Aa fB⟩⟩
end Go.Proofs.YtnjokdbblmlhhaaGreatDoor
