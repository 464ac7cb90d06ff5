/- Lemmas of this claim. -/
import Derived.Test.YtnjokdbblmlhhaaGreatDoorR22fY
import Derived.Test.YtnjokdbblmlhhaaGreatDoorW22pY
set_option linter.unusedVariables false
set_option linter.unusedSimpArgs false
namespace Go.Proofs.YtnjokdbblmlhhaaGreatDoor
set_option maxRecDepth 100000
open Go.RowKit
open P20 (okF)
def Ve(P:Nat→Prop)(w:World)(res:Except P22.F P22.Def)(e:Ending)(w':World):Prop:=
 Below w.heap.size w w'∧∃(d:Ch) (D G:Int),e=.returned (.tuple #[d.val,fV D G])∧d.In w'∧(∀g,d.blk g→P g∨w.heap.size≤g)∧((res=.ok d.bare∧D=0∧G=0)∨(res=.error (D,G)∧D≠0∧d=Ch.zero))
def Mp(r:Except P22.F P22.Def)(ks:List (List UInt8))(l:Int):Except P22.F P22.Def:=match r with
 | .error x=>.error x
 | .ok s'=>if ([115,97,103,97]∈ks∧[115,116,101,112,115]∈ks) then .ok s' else .error (5,l)
theorem Oc(k:Nat)(t:List UInt8)(ka:Option Addr)(kc:Nat)(ks:List (List UInt8))(da:Option Addr)(dc:Nat)(ds:List Nd)(l:Int):∃e l',(∀w,Calls Tryz.prog 59 #[.agg #[.int .u8 k,.string ⟨t.toArray⟩,.slice ka ks.length kc,.slice da ds.length dc,.int .i64 l],.int .u8 2,.int .i64 1024] w fun x w'=>x=.returned (fV e l')∧Below w.heap.size w w')∧((e≠0∧P22.rowE 1024 P22.stepE (Nd.mk k t ka kc ks da dc ds l).bare=.error (e,l'))∨(e=0∧l'=0∧ds.length≤1024∧P22.rowE 1024 P22.stepE (Nd.mk k t ka kc ks da dc ds l).bare=P22.rowGo P22.stepE (Am ds) [])):=by
 have h:=fun w=>Iy k t ka kc ks da dc ds l 1024 w
 have D:P22.rowE 1024 P22.stepE (Nd.mk k t ka kc ks da dc ds l).bare=if k≠2 then .error (7,l) else if (1024:Int)<((Am ds).length:Int) then .error (2,l) else P22.rowGo P22.stepE (Am ds) []:=by
  simp only[Nd.bare];rfl
 rw[D,Bs];by_cases hk:k=2
 ·rw[if_neg (by simpa using hk)];by_cases hn:1024<ds.length
  ·rw[if_pos (by omega)];refine⟨2,l,fun w=>?_,.inl ⟨by decide,rfl⟩⟩;have:=h w;rw[if_neg (by simpa using hk),if_pos hn]at this;exact this
  ·rw[if_neg (by omega)];refine⟨0,0,fun w=>?_,.inr ⟨rfl,rfl,by omega,rfl⟩⟩;have:=h w;rw[if_neg (by simpa using hk),if_neg hn]at this;exact this
 ·rw[if_pos hk];refine⟨7,l,fun w=>?_,.inl ⟨by decide,rfl⟩⟩;have:=h w;rw[if_pos hk]at this;exact this
theorem Ol{a:Option Addr}{n c:Nat}{D:List Bc}{g:Nat}(h:Cx.blkL a D g):Cx.ob (.slice a n c) D g:=by
 rcases h with⟨_,o,rfl⟩|h
 ·exact .inl rfl
 ·exact .inr h
theorem Q2{B P F:Nat}{W1 w:World}{u0 u1 u2 u3 u4 u5 u6 u7 u8 u9 Q aA Y x y:Value}(hb:Below B W1 w)(hP:B≤P)(hF:B≤F)(Z:P≠F)(h1:w.heap[P]?=some (.cells #[u0,u1,u2,u3,u4,u5,u6,u7,u8,u9,Q,aA,Y] 86))(h2:w.heap[F]?=some (.cells #[x,y] 29))(v0 N S v3 v4 v5 J R U v9 D G I e l:Value) :
  ∃X,(((((((((((((((w.setCell ⟨P,0,none⟩ v0).setCell ⟨P,1,none⟩ N).setCell ⟨P,2,none⟩ S).setCell ⟨P,3,none⟩ v3).setCell ⟨P,4,none⟩ v4).setCell ⟨P,5,none⟩ v5).setCell ⟨P,6,none⟩ J).setCell ⟨P,7,none⟩ R).setCell ⟨P,8,none⟩ U).setCell ⟨P,9,none⟩ v9).setCell ⟨P,10,none⟩ D).setCell ⟨P,11,none⟩ G).setCell ⟨P,12,none⟩ I).setCell ⟨F,0,none⟩ e).setCell ⟨F,1,none⟩ l)=X∧Below B W1 X∧X.heap[P]?=some (.cells #[v0,N,S,v3,v4,v5,J,R,U,v9,D,G,I] 86)∧X.heap[F]?=some (.cells #[e,l] 29)∧(∀g,g≠P→g≠F→X.heap[g]?=w.heap[g]?)∧X.heap.size=w.heap.size:=by
 refine⟨_,rfl,?_⟩;have q:=Lg (B:=B) (g1:=P) (g2:=F) hb h1 h2 hP hF Z v0 N S v3 v4 v5 J R U v9 D G I e l;exact⟨q.1,q.2.1,q.2.2.1,q.2.2.2,by simp⟩
set_option maxHeartbeats 32000000 in
theorem Q6(k:Nat)(t:List UInt8)(ka:Option Addr)(kc:Nat)(ks:List (List UInt8))(da:Option Addr)(dc:Nat)(ds:List Nd)(l:Int)(w:World)(eZ:(Nd.mk k t ka kc ks da dc ds l).In w)(jP:okF (Nd.mk k t ka kc ks da dc ds l).bare):Calls Tryz.prog 28 #[.agg #[.int .u8 k,.string ⟨t.toArray⟩,.slice ka ks.length kc,.slice da ds.length dc,.int .i64 l]] w (Ve (fun g=>(Nd.mk k t ka kc ks da dc ds l).blk g) w (P22.ofE (Nd.mk k t ka kc ks da dc ds l).bare)):=by
 obtain⟨q1,q2,q3,q4,q5⟩:=jP.kid;rw[Bs]at q4;have gV:=eZ.kids;have gH:=eZ.fit.keys;simp only[Nd.da,Nd.kids,Nd.ka,Nd.keys]at gV gH;have jW:∀d∈ds,okF d.bare:=fun d hd=>q5 _ (by rw[Ci];exact zC hd);obtain⟨H,hH⟩:∃H,w.heap.size=H:=⟨_,rfl⟩;obtain⟨PB,fC⟩:∃PB:Nat→Prop,PB=fun g=>(Nd.mk k t ka kc ks da dc ds l).blk g:=⟨_,rfl⟩
 have jN:∀g,PB g→g<H:=fun g G=>by rw[fC]at G;rw[←hH];exact eZ.lt G
 have jC:∀d∈ds,∀g,d.blk g→PB g:=fun d hd g G=>by rw[fC];exact Kx k t ka kc ks da dc ds l hd G
 rw[←fC];clear fC;obtain⟨M,hM⟩:∃M,ks.length=M:=⟨_,rfl⟩;obtain⟨D,hD⟩:∃D,ds.length=D:=⟨_,rfl⟩;obtain⟨bN,eR⟩:∃bN,P22.ofE (Nd.mk k t ka kc ks da dc ds l).bare=bN:=⟨_,rfl⟩;obtain⟨RK,gQ⟩:∃RK,P22.keysGo P22.defRd ks (Am ds) ⟨[],[],[]⟩=RK:=⟨_,rfl⟩;obtain⟨e,l',dZ,fL⟩:=Gv P22.defRd [[115,97,103,97],[115,116,101,112,115]] ⟨[],[],[]⟩ k t ka kc ks da dc ds l
 have eI:(e≠0∧bN=.error (e,l'))∨(e=0∧l'=0∧M=D∧bN=Mp RK ks l):=by
  rw[←eR];unfold P22.ofE;rcases fL with h|⟨h1,h2,h3,h4⟩
  ·exact .inl h
  ·refine .inr ⟨h1,h2,by omega,h4.trans ?_⟩;rw[←gQ];unfold Mp;cases P22.keysGo P22.defRd ks (Am ds) ⟨[],[],[]⟩with
   |error x=>rfl
   |ok s'=>simp
 rw[eR];clear fL eR;rw[hM,hD]at dZ ⊢;rw[hM]at q2;rw[hD]at q4;have iH:∀(os:List Obj),os=[.cells #[.int .u8 k,.string ⟨t.toArray⟩,.slice ka M kc,.slice da D dc,.int .i64 l] 26,.cells #[.string ⟨#[]⟩,.string ⟨#[]⟩,.slice none 0 0] 50,.cells #[.int .i64 0,.int .i64 0] 29,.cells #[.string ⟨#[]⟩,.string ⟨#[]⟩,.slice none 0 0] 50]→Below w.heap.size w (os.foldl World.alloc w)∧(os.foldl World.alloc w).heap.size=w.heap.size+os.length∧∀i o,os[i]?=some o→(os.foldl World.alloc w).heap[w.heap.size+i]?=some o:=fun os _=>Cf os w;obtain⟨gF,gP,dB⟩:=iH _ rfl;obtain⟨W0,gD⟩:∃W0,(((w.alloc (.cells #[.int .u8 k,.string ⟨t.toArray⟩,.slice ka M kc,.slice da D dc,.int .i64 l] 26)).alloc (.cells #[.string ⟨#[]⟩,.string ⟨#[]⟩,.slice none 0 0] 50)).alloc (.cells #[.int .i64 0,.int .i64 0] 29)).alloc (.cells #[.string ⟨#[]⟩,.string ⟨#[]⟩,.slice none 0 0] 50)=W0:=⟨_,rfl⟩;rw[show ([.cells #[.int .u8 k,.string ⟨t.toArray⟩,.slice ka M kc,.slice da D dc,.int .i64 l] 26,.cells #[.string ⟨#[]⟩,.string ⟨#[]⟩,.slice none 0 0] 50,.cells #[.int .i64 0,.int .i64 0] 29,.cells #[.string ⟨#[]⟩,.string ⟨#[]⟩,.slice none 0 0] 50]:List Obj).foldl World.alloc w=W0 from gD,hH]at gF gP dB;replace gP:W0.heap.size=H+1+1+1+1:=gP;have g0:W0.heap[H]?=some (.cells #[.int .u8 k,.string ⟨t.toArray⟩,.slice ka M kc,.slice da D dc,.int .i64 l] 26):=dB 0 _ rfl;have g1:W0.heap[H+1]?=some (.cells #[.string ⟨#[]⟩,.string ⟨#[]⟩,.slice none 0 0] 50):=dB 1 _ rfl;have g2:W0.heap[H+1+1]?=some (.cells #[.int .i64 0,.int .i64 0] 29):=dB 2 _ rfl;have g3:W0.heap[H+1+1+1]?=some (.cells #[.string ⟨#[]⟩,.string ⟨#[]⟩,.slice none 0 0] 50):=dB 3 _ rfl;have x0:=Ad g0;have iN:=dZ W0;have iZ:=Ab gD;have lD:=Ab gF;have lK:=Ab g0;have bW:=Ab g1;have kQ:=Ab g2;have fF:=Ab g3;have lL:=Ab iN;have HM:=Ab hM;have HD:=Ab hD;have gE:=Ab gV;have iG:=Ab gH;have lG:=Ab jW;have iF:=Ab eI;have gJ:=Ab gQ;have cD:=Ab jN;have lC:=Ab jC;have mB:=Dl;clear gQ jN jC iH gD gF dB g0 g1 g2 g3 dZ iN eI hM hD gV gH jW q5 q3 jP eZ;go_enter Tryz.func28,Tryz.ntmps28
 go_upto_region 2 with fail
 try rw[hH]
 rw[Aa iZ];go_upto_region 3 with(go_at_call 59;refine(Aa lL).mono ?_;rintro x2 w2 ⟨rfl,iB⟩;have gR:=iB.size;have dL:=Ab iB;clear iB)
 obtain⟨K,hK⟩:∃K,w2.heap.size=K:=⟨_,rfl⟩;obtain⟨W2,dR⟩:∃W2,w2.alloc (.cells #[.int .i64 e,.int .i64 l'] 29)=W2:=⟨_,rfl⟩;have cY:Below K w2 W2:=by rw[←dR];exact(qV _ w2).alloc (by omega) _
 have p0:W2.heap[K]?=some (.cells #[.int .i64 e,.int .i64 l'] 29):=by rw[←dR,←hK];exact qB _ _
 have lY:K+1≤W2.heap.size:=by rw[←dR];simp;omega
 rw[dR];rw[hK];rw[hK]at gR;have fA:Below H w W2:=(Aa lD).trans (((Aa dL).mono (by omega)).trans (cY.mono (by omega)));have r0:=(cY.block H (by omega)).trans (((Aa dL).block H (by omega)).trans (Aa lK));have r1:=(cY.block (H+1) (by omega)).trans (((Aa dL).block (H+1) (by omega)).trans (Aa bW));have r2:=(cY.block (H+1+1) (by omega)).trans (((Aa dL).block (H+1+1) (by omega)).trans (Aa kQ));have r3:=(cY.block (H+1+1+1) (by omega)).trans (((Aa dL).block (H+1+1+1) (by omega)).trans (Aa fF));have jO:=(Aa gE).below (by rw[hH];exact fA);have cV:=Eu.below (Aa iG) (by rw[hH];exact fA);have z0:=Ad r0;have z1:=An r1;have z2:=Af r2;have z3:=An r3;have z4:=Af p0;have cX:=Ab fA;have dF:=Ab r0;have dK:=Ab r1;have dC:=Ab r2;have kI:=Ab r3;have kX:=Ab jO;have kY:=Ab cV;clear iZ dR cY p0 fA r0 r1 r2 r3 x0 jO cV;rcases Aa iF with⟨hne,hq⟩|⟨rfl,rfl,jZ,hq⟩
 ·have j1:(e != 0)=true:=by simpa using hne
  have cI:=Ab hne;have HQ:=Ab hq;clear hne hq iF;go_upto_region 4 with fail
  go_region_with_o (fail)
  all_goals go_wp2
  all_goals
   have X:=C3 (B:=H) (g1:=H+1) (g2:=H+1+1) (w:=w) (Aa cX) (Aa dK) (Aa dC) (by omega) (by omega) (by omega) (.string ⟨#[]⟩) (.string ⟨#[]⟩) (.slice none 0 0) (.int .i64 e) (.int .i64 l');exact qW (Al rfl _ _ _ (H+1) (H+1+1) _ _ rfl (Cq X.2.1) rfl (Ai X.2.2.1)) rfl ⟨by rw[hH];exact X.1,Ch.zero,e,l',rfl,Ch.zero_in _,fun g G=>(Co none g G).elim,.inr ⟨Aa HQ,Aa cI,rfl⟩⟩
 ·have HQ:=Ab hq;have iD:=Ab jZ;clear hq iF jZ;go_wp2
  go_loopg [6] M (fun g s6 wx=>∃(i:Nat) (nm tx:List UInt8) (a:Option Addr) (c:Nat) (ss:List Bc),i+g=M∧s6=.int .i64 i∧Hid (P22.keysGo P22.defRd (ks.drop i) (Am (ds.drop i)) ⟨nm,tx,ss.map Bc.bare⟩=RK)∧Hid (Below (H+1+1+1) W2 wx)∧Hid (wx.heap[H+1+1+1]?=some (.cells #[.string ⟨nm.toArray⟩,.string ⟨tx.toArray⟩,.slice a ss.length c] 50)∧Cx.OwnC wx (H+1+1+1+1) 0 (.slice a ss.length c) ss∧∀g,Cx.ob (.slice a ss.length c) ss g→PB g∨H+1+1+1<g)∧H+1+1+1+1≤wx.heap.size)
  case atStart=>exact⟨0,[],[],none,0,[],by omega,by go_num,Ab (Aa gJ),Ab (qV _ _),Ab ⟨Aa kI,El.OwnC.nil _ _ _,fun g G=>(G4 g G).elim⟩,by omega⟩
  case round=>
   obtain⟨i,bH,bD,aX,aY,S,lO,rfl,X,dD,bS,lI⟩:=hrel;clear z0 z1 z2 z3 z4;have y0:=((Aa dD).block H (by omega)).trans (Aa dF);have y1:=((Aa dD).block (H+1) (by omega)).trans (Aa dK);have y2:=((Aa dD).block (H+1+1) (by omega)).trans (Aa dC);have jJ:Below H w wr:=(Aa cX).trans ((Aa dD).mono (by omega));have z0:=Ad y0;have z1:=An y1;have z2:=Af y2;have eC:wr.heap[H+1+1+1]?=some (.cells #[.string ⟨bH.toArray⟩,.string ⟨bD.toArray⟩,.slice aX S.length aY] 50):=(Aa bS).1;have z3:=An eC;have cO:=Ab y0;have aA:=Ab y1;have aB:=Ab y2;have bV:=Ab jJ;have cE:=Ab eC;clear y0 y1 y2 jJ eC;cases gk with
   |zero=>
    have e1:(M:Int)≤(i:Int):=by omega
    have j1:decide ((i:Int)<(M:Int))=false:=by simp;omega
    have R:=Aa X;rw[qM (l:=ds) (by rw[Aa HD,←Aa iD];omega),qM (l:=ks) (by rw[Aa HM];omega)]at R;simp only[Am,P22.keysGo]at R;have hq:=Aa HQ;rw[←R]at hq;have gN:=Ab hq;clear R hq HQ X gJ;have iK:Eu wr ka ks:=Eu.below (Aa iG) (by rw[hH];exact Aa bV)
    have gO:∀(x:List UInt8) W,Below wr.heap.size wr W→Calls Tryz.prog 62 #[.agg #[.int .u8 k,.string ⟨t.toArray⟩,.slice ka M kc,.slice da D dc,.int .i64 l],.string ⟨x.toArray⟩] W (fun e w'=>e=.returned (.bool (decide (x∈ks)))∧Below W.heap.size W w'):=fun x W hb=>by
     have h:=Ji k t ka kc ks da dc ds l x W (Eu.below iK hb) (by rw[Aa HM];omega);rw[Aa HM,Aa HD]at h;exact h
    have dJ:=gO [115,97,103,97] wr (qV _ _);have iI:=Ab gO
    have cC:∀g,(PB g∨H+1+1+1<g)→g≠H+1∧g≠H+1+1∧g≠H+1+1+1:=fun g h1=>by
     have hp:=Aa cD g;rcases h1 with h|h
     ·have:=hp h;omega
     ·omega
    have jV:=Ab cC;clear gO iK cC kX kY;by_cases eF:[115,97,103,97]∈ks
    ·rw[show decide ([115,97,103,97]∈ks)=true from decide_eq_true eF]at dJ;have eX:=Ab dJ;clear dJ;by_cases fE:[115,116,101,112,115]∈ks
     ·have hq:=Aa gN
      have hr:bN=.ok (⟨bH,bD,S.map Bc.bare⟩:P22.Def):=by
       rw[hq];unfold Mp;simp only[eF,fE,and_self,if_true]
      have HR:=Ab hr;clear hq hr
      go_upto_region 29 with(first
       |(have kT:=bU;go_at_call 62;have cQ:=Aa iI [115,116,101,112,115] w5 (Aa bU);rw[show decide ([115,116,101,112,115]∈ks)=true from decide_eq_true fE]at cQ;refine cQ.mono ?_;rintro x6 w6 ⟨rfl,I⟩;have U:=(Aa bU).trans (I.mono (Aa bU).size);have y0:=(U.block H (by omega)).trans (Aa cO);have y1:=(U.block (H+1) (by omega)).trans (Aa aA);have y2:=(U.block (H+1+1) (by omega)).trans (Aa aB);have y3:=(U.block (H+1+1+1) (by omega)).trans (Aa cE);have x0:=Ad y0;have x1:=An y1;have x2:=Af y2;have x3:=An y3;have bK:=Ab U;clear y0 y1 y2 y3 I U cQ)
       | (go_at_call 62;refine(Aa eX).mono ?_;rintro x5 w5 ⟨rfl,Y⟩;have w0:=Ad ((Y.block H (by omega)).trans (Aa cO));have bU:=Ab Y;clear Y))
      go_wp2;have X:=M8 (B:=H) (g1:=H+1) (g2:=H+1+1) (w:=w) ((Aa bV).trans ((Aa bK).mono (by omega))) (((Aa bK).block (H+1) (by omega)).trans (Aa aA)) (((Aa bK).block (H+1+1) (by omega)).trans (Aa aB)) (by omega) (by omega) (by omega) (.string ⟨bH.toArray⟩) (.string ⟨bD.toArray⟩) (.slice aX S.length aY) (.int .i64 0) (.int .i64 0);have hO:=((Aa bS).2.1.stay (fun g G=>(Aa bK).block g ((Aa bS).2.1.ob_lt G).2)).stay (fun g G=>X.2.2.2 g (Aa jV g ((Aa bS).2.2 g G)).1 (Aa jV g ((Aa bS).2.2 g G)).2.1);obtain⟨a',c',e0,e1,e2,e3,e4⟩:=hO.slice;cases e0;exact qW (Al rfl _ _ _ (H+1) (H+1+1) _ _ rfl (Cq X.2.1) rfl (Ai X.2.2.1)) rfl ⟨by rw[hH];exact X.1,⟨bH,bD,aX,aY,S⟩,0,0,rfl,⟨e3,e1,e2⟩,fun g G=>((Aa bS).2.2 g (Ol G)).imp id (fun h=>by rw[hH];omega),.inl ⟨Aa HR,rfl,rfl⟩⟩
     ·have hq:=Aa gN
      have hr:bN=.error (5,l):=by
       rw[hq];unfold Mp;simp only[eF,fE,and_false,if_false]
      have HR:=Ab hr;clear hq hr
      go_upto_region 28 with(first
       |(have kT:=bU;go_at_call 62;have cQ:=Aa iI [115,116,101,112,115] w5 (Aa bU);rw[show decide ([115,116,101,112,115]∈ks)=false from decide_eq_false fE]at cQ;refine cQ.mono ?_;rintro x6 w6 ⟨rfl,I⟩;have U:=(Aa bU).trans (I.mono (Aa bU).size);have y0:=(U.block H (by omega)).trans (Aa cO);have y1:=(U.block (H+1) (by omega)).trans (Aa aA);have y2:=(U.block (H+1+1) (by omega)).trans (Aa aB);have y3:=(U.block (H+1+1+1) (by omega)).trans (Aa cE);have x0:=Ad y0;have x1:=An y1;have x2:=Af y2;have x3:=An y3;have bK:=Ab U;clear y0 y1 y2 y3 I U cQ)
       | (go_at_call 62;refine(Aa eX).mono ?_;rintro x5 w5 ⟨rfl,Y⟩;have w0:=Ad ((Y.block H (by omega)).trans (Aa cO));have bU:=Ab Y;clear Y))
      go_region_with_o (fail)
      all_goals go_wp2
      all_goals
       have X:=C3 (B:=H) (g1:=H+1) (g2:=H+1+1) (w:=w) ((Aa bV).trans ((Aa bK).mono (by omega))) (((Aa bK).block (H+1) (by omega)).trans (Aa aA)) (((Aa bK).block (H+1+1) (by omega)).trans (Aa aB)) (by omega) (by omega) (by omega) (.string ⟨#[]⟩) (.string ⟨#[]⟩) (.slice none 0 0) (.int .i64 5) (.int .i64 l);exact qW (Al rfl _ _ _ (H+1) (H+1+1) _ _ rfl (Cq X.2.1) rfl (Ai X.2.2.1)) rfl ⟨by rw[hH];exact X.1,Ch.zero,5,l,rfl,Ch.zero_in _,fun g G=>(Co none g G).elim,.inr ⟨Aa HR,by decide,rfl⟩⟩
    ·have hq:=Aa gN
     have hr:bN=.error (5,l):=by
      rw[hq];unfold Mp;simp only[eF,false_and,if_false]
     have HR:=Ab hr;rw[show decide ([115,97,103,97]∈ks)=false from decide_eq_false eF]at dJ;have eX:=Ab dJ;clear dJ hq hr;go_upto_region 28 with(go_at_call 62;refine(Aa eX).mono ?_;rintro x6 w6 ⟨rfl,U⟩;have y0:=(U.block H (by omega)).trans (Aa cO);have y1:=(U.block (H+1) (by omega)).trans (Aa aA);have y2:=(U.block (H+1+1) (by omega)).trans (Aa aB);have y3:=(U.block (H+1+1+1) (by omega)).trans (Aa cE);have x0:=Ad y0;have x1:=An y1;have x2:=Af y2;have x3:=An y3;have bK:=Ab U;clear y0 y1 y2 y3 U)
     go_region_with_o (fail)
     all_goals go_wp2
     all_goals
      have X:=C3 (B:=H) (g1:=H+1) (g2:=H+1+1) (w:=w) ((Aa bV).trans ((Aa bK).mono (by omega))) (((Aa bK).block (H+1) (by omega)).trans (Aa aA)) (((Aa bK).block (H+1+1) (by omega)).trans (Aa aB)) (by omega) (by omega) (by omega) (.string ⟨#[]⟩) (.string ⟨#[]⟩) (.slice none 0 0) (.int .i64 5) (.int .i64 l);exact qW (Al rfl _ _ _ (H+1) (H+1+1) _ _ rfl (Cq X.2.1) rfl (Ai X.2.2.1)) rfl ⟨by rw[hH];exact X.1,Ch.zero,5,l,rfl,Ch.zero_in _,fun g G=>(Co none g G).elim,.inr ⟨Aa HR,by decide,rfl⟩⟩
   |succ g'=>
    have mA:(i:Int)<(M:Int):=by omega
    have lN:(i:Int)<(D:Int):=by have:=Aa iD;omega
    have lS:IntKind.i64.wrap ((i:Int)+1)=(i:Int)+1:=qG _ (by omega);obtain⟨d,cZ⟩:=V3 (Aa HD) (show i<D by have:=Aa iD;omega);obtain⟨y,gW⟩:=V3 (Aa HM) (show i<M by omega);have jF:=Aa lG d (qN cZ);have jU:=Aa lC d (qN cZ);have iM:d.In w:=(Il (Aa gE) i d cZ).2;have R:=Aa X
    rw[Cg cZ,show ks.drop i=y::ks.drop (i+1) by
     obtain⟨h8,h9⟩:=qI.1 gW
     rw[qL h8,h9]]at R
    unfold P22.keysGo at R;have cF:=Ab R;clear R X gJ;obtain⟨b2,o2,k1,t1,bI,bE,bG,bM,bF,J,l1,rfl,rfl,v0,v1,v2,v3,v4,fI⟩:=Ce ((Aa gE).below (by rw[hH];exact Aa bV)) cZ;obtain⟨b3,o3,rfl,cV⟩:=Eu.below (Aa iG) (by rw[hH];exact Aa bV) i y gW;go_upto_region 10 with fail
    obtain⟨Q,hQ⟩:∃Q,wr.heap.size=Q:=⟨_,rfl⟩;obtain⟨W5,iQ,Y,p4,p5,kP⟩:=A0 wr (.cells #[.int .u8 k1,.string ⟨t1.toArray⟩,.slice bI bG.length bE,.slice bM J.length bF,.int .i64 l1] 26) (.cells #[.int .i64 0,.int .i64 0] 29) Q hQ;rw[iQ];rw[hQ];rw[hQ]at lI;have fY:Below H w W5:=(Aa bV).trans (Y.mono (by omega));have fX:Below (H+1+1+1) W2 W5:=(Aa dD).trans (Y.mono (by omega));have eE:=(Y.block (H+1+1+1) (by omega)).trans (Aa cE);have eT:∀g,Cx.ob (.slice aX S.length aY) S g→g<Q:=fun g G=>by rw[←hQ];exact((Aa bS).2.1.ob_lt G).2
    have gA:Cx.OwnC W5 (H+1+1+1+1) 0 (.slice aX S.length aY) S:=(Aa bS).2.1.stay (fun g G=>Y.block g (eT g G));have fP:∀g,Cx.ob (.slice aX S.length aY) S g→(PB g∨H+1+1+1<g)∧g<Q:=fun g G=>⟨(Aa bS).2.2 g G,eT g G⟩;have y0:=(Y.block H (by omega)).trans (Aa cO);have y1:=(Y.block (H+1) (by omega)).trans (Aa aA);have y2:=(Y.block (H+1+1) (by omega)).trans (Aa aB);have gB:(Nd.mk k1 t1 bI bE bG bM bF J l1).In W5:=fI.below (by rw[hQ];exact Y);have fG:W5.cell? ⟨b3,o3+i,none⟩=some (.string ⟨y.toArray⟩):=(Ag (Y.block b3 (by rw[←hQ];exact B3 cV)) _).trans cV;clear z0 z1 z2 z3 v0 v1 v2 v3 v4 cV;have z0:=Ad y0;have z3:=An eE;have z4:=Ad p4;have z5:=Af p5;have lT:Q+1+1≤W5.heap.size:=by omega
    have cM:=Ab p4;have cG:=Ab p5;have cU:=Ab fY;have bC:=Ab fX;have bB:=Ab eE;have bT:=Ab gA;have aC:=Ab fP;have cT:=Ab gB;have fB:=Ab y1;have eY:=Ab y2;have eU:=Ab jF;have iX:=Ab jU;have kS:=Ab iM;clear iM iQ p4 p5 Y kP fY fX eE gA fP eT y0 y1 y2 cO aA aB bV dD bS cE jF jU gW cZ fI gB;by_cases hU:y=[115,97,103,97]
    ·subst hU;have bP:P22.defRd [115,97,103,97]=some (fun d s=>(P22.textE 64 d).map fun x=>{ s with name:=x }):=rfl;have R:=Aa cF;rw[bP]at R;have c0:([115,97,103,97]==[115,97,103,97])=true:=by decide
     have aZ:=Ab R;clear R cF bP;obtain⟨v,ec,el,dP,eK⟩:=Ei k1 t1 bI bE bG bM bF J l1 64 (by have:=(Aa eU).kid.1;omega);have bZ:=Ab (dP W5);clear dP;go_upto_region 25 with(go_at_call 60;refine(Aa bZ).mono ?_;rintro x6 w6 ⟨rfl,I⟩;have gL:=I.size;have a3:=(I.block (H+1+1+1) (by omega)).trans (Aa bB);have aF:=(I.block (Q+1) (by omega)).trans (Aa cG);have a4:=(I.block Q (by omega)).trans (Aa cM);have eH:=An a3;have cP:=Af aF;have eP:=Ad a4;have bJ:=Ab I;have bX:=Ab a3;have bR:=Ab aF;have dG:=Ab a4;clear I a3 aF a4)
     have bQ:Below (H+1+1+1) W2 w6:=(Aa bC).trans ((Aa bJ).mono (by omega));obtain⟨e1,e2,e3,e4⟩:=Cr bQ (Aa bX) 0 (.string ⟨v.toArray⟩);obtain⟨f1,f2,f3,f4,f5⟩:=C6 (F:=Q+1) e1 e2 ((e3 (Q+1) (by omega)).trans (Aa bR)) (by omega) (.int .i64 ec) (.int .i64 el);obtain⟨W8,bO⟩:∃W8,((w6.setCell ⟨H+1+1+1,0,none⟩ (.string ⟨v.toArray⟩)).setCell ⟨Q+1,0,none⟩ (.int .i64 ec)).setCell ⟨Q+1,1,none⟩ (.int .i64 el)=W8:=⟨_,rfl⟩;rw[bO]at f1 f2 f3 f4 f5 ⊢
     have cC:∀g,(PB g∨H+1+1+1<g)→g≠H+1∧g≠H+1+1∧g≠H+1+1+1:=fun g h1=>by
      have hp:=Aa cD g;rcases h1 with h|h
      ·have:=hp h;omega
      ·omega
     have aE:∀g,(PB g∨H+1+1+1<g)→g<Q→W8.heap[g]?=W5.heap[g]?:=fun g h1 h2=>((f4 g (by omega)).trans (e3 g (cC g h1).2.2)).trans ((Aa bJ).block g (by omega));have cA:Cx.OwnC W8 (H+1+1+1+1) 0 (.slice aX S.length aY) S:=(Aa bT).stay (fun g G=>aE g (Aa aC g G).1 (Aa aC g G).2);have cH:∀g,Cx.ob (.slice aX S.length aY) S g→PB g∨H+1+1+1<g:=fun g G=>(Aa aC g G).1;have cR:W8.heap[H+1+1+1]?=some (.cells #[.string ⟨v.toArray⟩,.string ⟨bD.toArray⟩,.slice aX S.length aY] 50):=f2;have cJ:=Ab eK;have eJ:=Ab cA;have dX:=Ab cH;have y0:=(f1.block H (by omega)).trans (Aa dF);have y1:=(f1.block (H+1) (by omega)).trans (Aa dK);have y2:=(f1.block (H+1+1) (by omega)).trans (Aa dC);have bA:Below H w W8:=(Aa cX).trans (f1.mono (by omega));clear z0 z3 z4 z5 fG eH cP eP eK;have z0:=Ad y0;have z1:=An y1;have z2:=Af y2;have z3:=An cR;have z5:=Af f3;have bY:=Ab bA;have eA:=Ab f1;have dQ:=Ab cR;have aA:=Ab y1;have aB:=Ab y2;have gZ:=Ab (show H+1+1+1+1≤W8.heap.size by rw[f5,e4];omega);clear bA f1 f2 cR f3 f4 f5 e1 e2 e3 e4 y0 y1 y2 bO bQ bX bR dG bJ cM cG bB bC cU fB eY bZ cA cH aE cC bT aC cT;rcases Aa cJ with⟨hr,rfl,rfl⟩|⟨hr,hne⟩
     ·have R:=Aa aZ;rw[hr]at R;have cB:P22.keysGo P22.defRd (ks.drop (i+1)) (Am (ds.drop (i+1))) ⟨v,bD,S.map Bc.bare⟩=RK:=R;have aW:=Ab cB;clear R cB hr aZ cJ;go_wp2;go_roundg g'
      case measure=>omega
      case rel=>exact⟨i+1,v,bD,aX,aY,S,by omega,by go_num,aW,eA,Ab ⟨Aa dQ,Aa eJ,Aa dX⟩,Aa gZ⟩
     ·have j1:(ec != 0)=true:=by simpa using hne
      have R:=Aa aZ;rw[hr]at R;have hq:=Aa HQ;rw[show RK=.error (ec,el) from R.symm]at hq;have aW:=Ab (show bN=.error (ec,el) from hq);have cI:=Ab hne;clear R hr aZ cJ hne hq;go_upto_region 26 with fail
      go_region_with_o (fail)
      all_goals go_wp2
      all_goals
       have X:=C3 (B:=H) (g1:=H+1) (g2:=H+1+1) (w:=w) (Aa bY) (Aa aA) (Aa aB) (by omega) (by omega) (by omega) (.string ⟨#[]⟩) (.string ⟨#[]⟩) (.slice none 0 0) (.int .i64 ec) (.int .i64 el);exact qW (Al rfl _ _ _ (H+1) (H+1+1) _ _ rfl (Cq X.2.1) rfl (Ai X.2.2.1)) rfl ⟨by rw[hH];exact X.1,Ch.zero,ec,el,rfl,Ch.zero_in _,fun g G=>(Co none g G).elim,.inr ⟨Aa aW,Aa cI,rfl⟩⟩
    by_cases gU:y=[116,101,120,116]
    ·subst gU;have bP:P22.defRd [116,101,120,116]=some (fun d s=>(P22.textE 4096 d).map fun x=>{ s with text:=x }):=rfl;have R:=Aa cF;rw[bP]at R;have c1:([116,101,120,116]==[116,101,120,116])=true:=by decide
     have c0:([116,101,120,116]==[115,97,103,97])=false:=by decide
     have aZ:=Ab R;clear R cF bP;obtain⟨v,ec,el,dP,eK⟩:=Ei k1 t1 bI bE bG bM bF J l1 4096 (by have:=(Aa eU).kid.1;omega);have bZ:=Ab (dP W5);clear dP;go_upto_region 25 with(go_at_call 60;refine(Aa bZ).mono ?_;rintro x6 w6 ⟨rfl,I⟩;have gL:=I.size;have a3:=(I.block (H+1+1+1) (by omega)).trans (Aa bB);have aF:=(I.block (Q+1) (by omega)).trans (Aa cG);have a4:=(I.block Q (by omega)).trans (Aa cM);have eH:=An a3;have cP:=Af aF;have eP:=Ad a4;have bJ:=Ab I;have bX:=Ab a3;have bR:=Ab aF;have dG:=Ab a4;clear I a3 aF a4)
     have bQ:Below (H+1+1+1) W2 w6:=(Aa bC).trans ((Aa bJ).mono (by omega));obtain⟨e1,e2,e3,e4⟩:=Cr bQ (Aa bX) 1 (.string ⟨v.toArray⟩);obtain⟨f1,f2,f3,f4,f5⟩:=C6 (F:=Q+1) e1 e2 ((e3 (Q+1) (by omega)).trans (Aa bR)) (by omega) (.int .i64 ec) (.int .i64 el);obtain⟨W8,bO⟩:∃W8,((w6.setCell ⟨H+1+1+1,1,none⟩ (.string ⟨v.toArray⟩)).setCell ⟨Q+1,0,none⟩ (.int .i64 ec)).setCell ⟨Q+1,1,none⟩ (.int .i64 el)=W8:=⟨_,rfl⟩;rw[bO]at f1 f2 f3 f4 f5 ⊢
     have cC:∀g,(PB g∨H+1+1+1<g)→g≠H+1∧g≠H+1+1∧g≠H+1+1+1:=fun g h1=>by
      have hp:=Aa cD g;rcases h1 with h|h
      ·have:=hp h;omega
      ·omega
     have aE:∀g,(PB g∨H+1+1+1<g)→g<Q→W8.heap[g]?=W5.heap[g]?:=fun g h1 h2=>((f4 g (by omega)).trans (e3 g (cC g h1).2.2)).trans ((Aa bJ).block g (by omega));have cA:Cx.OwnC W8 (H+1+1+1+1) 0 (.slice aX S.length aY) S:=(Aa bT).stay (fun g G=>aE g (Aa aC g G).1 (Aa aC g G).2);have cH:∀g,Cx.ob (.slice aX S.length aY) S g→PB g∨H+1+1+1<g:=fun g G=>(Aa aC g G).1;have cR:W8.heap[H+1+1+1]?=some (.cells #[.string ⟨bH.toArray⟩,.string ⟨v.toArray⟩,.slice aX S.length aY] 50):=f2;have cJ:=Ab eK;have eJ:=Ab cA;have dX:=Ab cH;have y0:=(f1.block H (by omega)).trans (Aa dF);have y1:=(f1.block (H+1) (by omega)).trans (Aa dK);have y2:=(f1.block (H+1+1) (by omega)).trans (Aa dC);have bA:Below H w W8:=(Aa cX).trans (f1.mono (by omega));clear z0 z3 z4 z5 fG eH cP eP eK;have z0:=Ad y0;have z1:=An y1;have z2:=Af y2;have z3:=An cR;have z5:=Af f3;have bY:=Ab bA;have eA:=Ab f1;have dQ:=Ab cR;have aA:=Ab y1;have aB:=Ab y2;have gZ:=Ab (show H+1+1+1+1≤W8.heap.size by rw[f5,e4];omega);clear bA f1 f2 cR f3 f4 f5 e1 e2 e3 e4 y0 y1 y2 bO bQ bX bR dG bJ cM cG bB bC cU fB eY bZ cA cH aE cC bT aC cT;rcases Aa cJ with⟨hr,rfl,rfl⟩|⟨hr,hne⟩
     ·have R:=Aa aZ;rw[hr]at R;have cB:P22.keysGo P22.defRd (ks.drop (i+1)) (Am (ds.drop (i+1))) ⟨bH,v,S.map Bc.bare⟩=RK:=R;have aW:=Ab cB;clear R cB hr aZ cJ;go_wp2;go_roundg g'
      case measure=>omega
      case rel=>exact⟨i+1,bH,v,aX,aY,S,by omega,by go_num,aW,eA,Ab ⟨Aa dQ,Aa eJ,Aa dX⟩,Aa gZ⟩
     ·have j1:(ec != 0)=true:=by simpa using hne
      have R:=Aa aZ;rw[hr]at R;have hq:=Aa HQ;rw[show RK=.error (ec,el) from R.symm]at hq;have aW:=Ab (show bN=.error (ec,el) from hq);have cI:=Ab hne;clear R hr aZ cJ hne hq;go_upto_region 26 with fail
      go_region_with_o (fail)
      all_goals go_wp2
      all_goals
       have X:=C3 (B:=H) (g1:=H+1) (g2:=H+1+1) (w:=w) (Aa bY) (Aa aA) (Aa aB) (by omega) (by omega) (by omega) (.string ⟨#[]⟩) (.string ⟨#[]⟩) (.slice none 0 0) (.int .i64 ec) (.int .i64 el);exact qW (Al rfl _ _ _ (H+1) (H+1+1) _ _ rfl (Cq X.2.1) rfl (Ai X.2.2.1)) rfl ⟨by rw[hH];exact X.1,Ch.zero,ec,el,rfl,Ch.zero_in _,fun g G=>(Co none g G).elim,.inr ⟨Aa aW,Aa cI,rfl⟩⟩
    by_cases iC:y=[115,116,101,112,115]
    ·subst iC;have bP:P22.defRd [115,116,101,112,115]=some (fun d s=>(P22.rowE 1024 P22.stepE d).map fun x=>{ s with steps:=x }):=rfl;have R:=Aa cF;rw[bP]at R;have c2:([115,116,101,112,115]==[115,116,101,112,115])=true:=by decide
     have c0:([115,116,101,112,115]==[115,97,103,97])=false:=by decide
     have c1:([115,116,101,112,115]==[116,101,120,116])=false:=by decide
     have aZ:=Ab R;clear R cF bP;obtain⟨aL,dI,jG,jS⟩:=Oc k1 t1 bI bE bG bM bF J l1;have bZ:=Ab (jG W5);have fQ:=Ab jS;clear jG jS;go_upto_region 19 with(go_at_call 59;refine(Aa bZ).mono ?_;rintro x6 w6 ⟨rfl,I⟩;have gL:=I.size;have a3:=(I.block (H+1+1+1) (by omega)).trans (Aa bB);have aF:=(I.block (Q+1) (by omega)).trans (Aa cG);have a4:=(I.block Q (by omega)).trans (Aa cM);have eH:=An a3;have cP:=Af aF;have eP:=Ad a4;have bJ:=Ab I;have bX:=Ab a3;have bR:=Ab aF;have dG:=Ab a4;clear I a3 aF a4)
     have bQ:Below (H+1+1+1) W2 w6:=(Aa bC).trans ((Aa bJ).mono (by omega));obtain⟨f1,f2,f3,f4,f5⟩:=C6 (F:=Q+1) bQ (Aa bX) (Aa bR) (by omega) (.int .i64 aL) (.int .i64 dI);obtain⟨e1,e2,e3,e4⟩:=Cr f1 f2 2 (.slice none 0 0);obtain⟨W8,bO⟩:∃W8,((w6.setCell ⟨Q+1,0,none⟩ (.int .i64 aL)).setCell ⟨Q+1,1,none⟩ (.int .i64 dI)).setCell ⟨H+1+1+1,2,none⟩ (.slice none 0 0)=W8:=⟨_,rfl⟩;rw[bO]at e1 e2 e3 e4 ⊢;have iE:W8.heap[H+1+1+1]?=some (.cells #[.string ⟨bH.toArray⟩,.string ⟨bD.toArray⟩,.slice none 0 0] 50):=e2;have gM:=(e3 (Q+1) (by omega)).trans f3;have iA:=((e3 Q (by omega)).trans (f4 Q (by omega))).trans (Aa dG);have kO:Q+1+1≤W8.heap.size:=by rw[e4,f5];omega
     have eA:=Ab e1;have dQ:=Ab iE;have lE:=Ab gM;have kH:=Ab iA;obtain⟨RJ,gK⟩:∃RJ,P22.rowGo P22.stepE (Am J) []=RJ:=⟨_,rfl⟩;have iY:(aL≠0∧P22.rowE 1024 P22.stepE (Nd.mk k1 t1 bI bE bG bM bF J l1).bare=.error (aL,dI))∨(aL=0∧dI=0∧J.length≤1024∧P22.rowE 1024 P22.stepE (Nd.mk k1 t1 bI bE bG bM bF J l1).bare=RJ):=by rw[←gK];exact Aa fQ
     have lJ:=Ab gK;have eS:=Ab iY;have jB:=kS;have lB:=An iE;have kW:=Af gM;have gR:=Ad iA;have lQ:J.length≤100000:=by have:=(Aa eU).kid.2.2.2.1;rw[Bs]at this;exact this
     clear fQ iY gK e1 e2 iE e3 e4 f1 f2 f3 gM f4 f5 iA bO bQ bX bR dG bJ cM cG bB bC cU fB eY bZ bT aC cT z0 z3 z4 z5 fG eH cP eP;go_wp2
     go_loopg [9] J.length (fun g s9 wx=>∃(j:Nat) (a:Option Addr) (c:Nat) (ss:List Bc) (ec el:Int),j+g=J.length∧s9=.int .i64 j∧ss.length≤j∧Hid (Below (H+1+1+1) W2 wx)∧Hid (wx.heap[H+1+1+1]?=some (.cells #[.string ⟨bH.toArray⟩,.string ⟨bD.toArray⟩,.slice a ss.length c] 50)∧Cx.OwnC wx (H+1+1+1+1) 0 (.slice a ss.length c) ss∧∀g,Cx.ob (.slice a ss.length c) ss g→PB g∨Q+1<g)∧Hid (wx.heap[Q+1]?=some (.cells #[.int .i64 ec,.int .i64 el] 29)∧wx.heap[Q]?=some (.cells #[.int .u8 k1,.string ⟨t1.toArray⟩,.slice bI bG.length bE,.slice bM J.length bF,.int .i64 l1] 26))∧Hid ((aL=0∧ec=0∧el=0∧P22.rowGo P22.stepE (Am (J.drop j)) (ss.map Bc.bare)=RJ)∨(ec≠0∧(aL=0→RJ=.error (ec,el))∧(aL≠0→ec=aL∧el=dI)))∧Q+1+1≤wx.heap.size)
     case atStart=>
      refine⟨0,none,0,[],aL,dI,by omega,by go_num,Nat.zero_le _,eA,Ab ⟨Aa dQ,El.OwnC.nil _ _ _,fun g G=>(G4 g G).elim⟩,Ab ⟨Aa lE,Aa kH⟩,Ab ?_,kO⟩;rcases Aa eS with⟨h1,h2⟩|⟨h1,h2,h3,h4⟩
      ·exact .inr ⟨h1,fun h=>absurd h h1,fun _=>⟨rfl,rfl⟩⟩
      ·exact .inl ⟨h1,h1,h2,Aa lJ⟩
     case round=>
      obtain⟨j,dA,dH,N,ec,el,lU,rfl,lR,bL,aD,dN,eV,iP⟩:=hrel;clear lB kW gR;have y0:=((Aa bL).block H (by omega)).trans (Aa dF);have y1:=((Aa bL).block (H+1) (by omega)).trans (Aa dK);have y2:=((Aa bL).block (H+1+1) (by omega)).trans (Aa dC);have fK:Below H w wr:=(Aa cX).trans ((Aa bL).mono (by omega));have z0:=Ad y0;have z1:=An y1;have z2:=Af y2;have z3:=An (Aa aD).1;have z4:=Ad (Aa dN).2;have z5:=Af (Aa dN).1;have aA:=Ab y1;have aB:=Ab y2;have eN:=Ab fK;clear y0 y1 y2 fK;by_cases dE:ec=0
      ·subst dE
       obtain⟨gS,kZ,Z⟩:aL=0∧el=0∧P22.rowGo P22.stepE (Am (J.drop j)) (N.map Bc.bare)=RJ:=by
        rcases Aa eV with⟨h1,_,h3,h4⟩|⟨h1,_⟩
        ·exact⟨h1,h3,h4⟩
        ·exact absurd rfl h1
       subst kZ
       have eQ:P22.rowE 1024 P22.stepE (Nd.mk k1 t1 bI bE bG bM bF J l1).bare=RJ:=by
        rcases Aa eS with⟨h1,_⟩|⟨_,_,_,h4⟩
        ·exact absurd gS h1
        ·exact h4
       have eW:=Ab Z;have kG:=Ab eQ;have gC:=Ab gS;clear Z eQ gS eV;cases gk with
       |zero=>
        have e1:(J.length:Int)≤(j:Int):=by omega
        have j1:decide ((j:Int)<(J.length:Int))=false:=by simp;omega
        have Z:=Aa eW;rw[qM (l:=J) (by omega)]at Z;simp only[Am,P22.rowGo]at Z;have R:=Aa aZ;rw[Aa kG,←Z]at R;have cB:P22.keysGo P22.defRd (ks.drop (i+1)) (Am (ds.drop (i+1))) ⟨bH,bD,N.map Bc.bare⟩=RK:=R;have aW:=Ab cB;clear R cB Z eW;go_wp2;go_roundg g'
        case measure=>omega
        case rel=>exact⟨i+1,bH,bD,dA,dH,N,by omega,by go_num,aW,bL,Ab ⟨(Aa aD).1,(Aa aD).2.1,fun g G=>((Aa aD).2.2 g G).imp id (fun h=>by omega)⟩,by omega⟩
       |succ g2=>
        have kD:(j:Int)<(J.length:Int):=by omega
        have mC:IntKind.i64.wrap ((j:Int)+1)=(j:Int)+1:=qG _ (by omega);obtain⟨d3,dO⟩:=V3 (rfl:J.length=J.length) (show j<J.length by omega);have jX:okF d3.bare:=(Aa eU).kid.2.2.2.2 _ (by rw[Ci];exact zC (qN dO));have iV:∀g,d3.blk g→PB g:=fun g G=>Aa iX g (Kx k1 t1 bI bE bG bM bF J l1 (qN dO) G);have Z:=Aa eW;rw[Cg dO]at Z;unfold P22.rowGo at Z;have fR:=Ab Z;have eG:=(Aa jB).kids;simp only[Nd.da,Nd.kids]at eG;clear Z eW;go_upto_region 23 with fail
        obtain⟨P,hP⟩:∃P,wr.heap.size=P:=⟨_,rfl⟩;obtain⟨W9,dU⟩:∃W9,wr.alloc (.cells #[.string ⟨#[]⟩,.string ⟨#[]⟩,.string ⟨#[]⟩,.slice none 0 0,.int .i64 0,.int .i64 0,.int .i64 0,.int .i64 0,.int .u8 0,.string ⟨#[]⟩,.slice none 0 0,.slice none 0 0,.int .i64 0] 86)=W9:=⟨_,rfl⟩;rw[dU];rw[hP];rw[hP]at iP;have cN:Below P wr W9:=by rw[←dU];exact(qV _ wr).alloc (by omega) _
        have p9:W9.heap[P]?=some (.cells #[.string ⟨#[]⟩,.string ⟨#[]⟩,.string ⟨#[]⟩,.slice none 0 0,.int .i64 0,.int .i64 0,.int .i64 0,.int .i64 0,.int .u8 0,.string ⟨#[]⟩,.slice none 0 0,.slice none 0 0,.int .i64 0] 86):=by rw[←dU,←hP];exact qB _ _
        have lZ:P+1≤W9.heap.size:=by rw[←dU];simp;omega
        have fZ:Below H w W9:=(Aa eN).trans (cN.mono (by omega));obtain⟨b4,o4,k3,t3,iT,kE,jM,jL,jY,iW,l3,rfl,rfl,v0,v1,v2,v3,v4,fJ⟩:=Ce (eG.below (by rw[hH];exact fZ)) dO;have gY:=Qf k3 t3 iT kE jM jL jY iW l3 W9 fJ jX;obtain⟨RS,gG⟩:∃RS,P22.stepE (Nd.mk k3 t3 iT kE jM jL jY iW l3).bare=RS:=⟨_,rfl⟩;rw[gG]at gY;have m0:=(cN.block H (by omega)).trans ((((Aa bL).block H (by omega)).trans (Aa dF)));have m3:=(cN.block (H+1+1+1) (by omega)).trans (Aa aD).1;have m4:=(cN.block Q (by omega)).trans (Aa dN).2;have m5:=(cN.block (Q+1) (by omega)).trans (Aa dN).1;clear z0 z1 z2 z3 z4 z5;have z4:=Ad m4;have lH:=Ab gY;have fM:=Ab gG;have iJ:=Ab cN;have kL:=Ab p9;have lW:=Ab m3;have lX:=Ab m4;have kM:=Ab m5;have lF:=Ab iV;clear dU cN p9 fZ gY gG m0 m3 m4 m5 iV jX eG fJ dO;go_upto_region 24 with(go_at_call 61;refine(Aa lH).mono ?_;rintro x6 w6 ⟨I,⟨n5,a5,u5,aM,aT,aQ,q5,aS,aI,aO,⟨k5,t5,aN,aH,aG,aJ,aK,aR,l5⟩⟩,cL,cW,rfl,iS,eD,iO⟩;rw[Bc.val_eq];have gL:=I.size;have aP:=(I.block P (by omega)).trans (Aa kL);have aF:=(I.block (Q+1) (by omega)).trans (Aa kM);have kU:=A2 aP;have cP:=Af aF;have bJ:=Ab I;have kJ:=Ab aP;have bR:=Ab aF;have lA:=Ab iS;have kN:=Ab eD;have kB:=Ab iO;clear I aP aF iS eD iO)
        have I:=Aa bJ;have bQ:Below (H+1+1+1) W2 w6:=(Aa bL).trans (((Aa iJ).mono (by omega)).trans (I.mono (by omega)));obtain⟨W7,jR,g1,jA,g3,g4,g5⟩:=Q2 (B:=H+1+1+1) (P:=P) (F:=Q+1) bQ (by omega) (by omega) (by omega) (Aa kJ) (Aa bR) (.string ⟨n5.toArray⟩) (.string ⟨a5.toArray⟩) (.string ⟨u5.toArray⟩) (.slice aM aQ.length aT) (.int .i64 q5) (.int .i64 aS) (.int .i64 aI) (.int .i64 aO) (.int .u8 k5) (.string ⟨t5.toArray⟩) (.slice aN aG.length aH) (.slice aJ aR.length aK) (.int .i64 l5) (.int .i64 cL) (.int .i64 cW);rw[jR];have aE:∀g,g<P→g≠Q+1→W7.heap[g]?=wr.heap[g]?:=fun g h1 h2=>((g4 g (by omega) h2).trans (I.block g (by omega))).trans ((Aa iJ).block g h1);have eO:∀g,Cx.ob (.slice dA N.length dH) N g→g<P:=fun g G=>by rw[←hP];exact((Aa aD).2.1.ob_lt G).2
        have dM:∀g,Cx.ob (.slice dA N.length dH) N g→(PB g∨Q+1<g)∧g≠Q+1∧g≠H+1+1+1:=fun g G=>by
         have hp:=Aa cD g;rcases(Aa aD).2.2 g G with h|h
         ·have:=hp h;exact⟨.inl h,by omega,by omega⟩
         ·exact⟨.inr h,by omega,by omega⟩
        have dY:Cx.OwnC W7 (H+1+1+1+1) 0 (.slice dA N.length dH) N:=(Aa aD).2.1.stay (fun g G=>aE g (eO g G) (dM g G).2.1);have eD:=Aa kN;have fD:∀g,(⟨n5,a5,u5,aM,aT,aQ,q5,aS,aI,aO,.mk k5 t5 aN aH aG aJ aK aR l5⟩:Bc).blk g→(PB g∨P<g):=fun g G=>(eD g G).imp (fun h=>Aa lF g h) (fun h=>by omega)
        have gI:∀g,(⟨n5,a5,u5,aM,aT,aQ,q5,aS,aI,aO,.mk k5 t5 aN aH aG aJ aK aR l5⟩:Bc).blk g→g≠P∧g≠Q+1:=fun g G=>by
         have hp:=Aa cD g;rcases fD g G with h|h
         ·have:=hp h;omega
         ·omega
        have kC:(⟨n5,a5,u5,aM,aT,aQ,q5,aS,aI,aO,.mk k5 t5 aN aH aG aJ aK aR l5⟩:Bc).In W7:=(Aa lA).keep (fun g G=>g4 g (gI g G).1 (gI g G).2)
        have jQ:∀g,(⟨n5,a5,u5,aM,aT,aQ,q5,aS,aI,aO,.mk k5 t5 aN aH aG aJ aK aR l5⟩:Bc).blk g→(Value.slice dA N.length dH).ownBlock≠some g:=fun g G hq=>by
         have h1:=Ao (Aa aD).2.1.own g hq;have hp:=Aa cD g;rcases fD g G with h|h
         ·have:=hp h;omega
         ·omega
        have r3:=(aE (H+1+1+1) (by omega) (by omega)).trans (Aa aD).1;have r4:=(aE Q (by omega) (by omega)).trans (Aa dN).2;have w3:=An r3;have wP:=A2 jA;have lP:P+1≤W7.heap.size:=by rw[g5];omega
        have bW:=Ab g1;have fF:=Ab g3;have cS:=Ab dY;have jH:=Ab kC;have iU:=Ab jQ;have jI:=Ab fD;have eL:=Ab r3;have fS:=Ab r4;have kF:=Ab eO;have eB:=Ab dM;have kK:N.length+1≤1000000000:=by omega
        clear I bQ jR g1 jA g3 g4 g5 aE eO dM dY eD fD gI kC jQ r3 r4 kU cP z4 v0 v1 v2 v3 v4;go_upto_region 21 with(at_builtin;refine El.wpList_app Sn (by decide) rfl (.tmp 81) (.tmp 83) rfl rfl (Aa cS) (x:=(⟨n5,a5,u5,aM,aT,aQ,q5,aS,aI,aO,.mk k5 t5 aN aH aG aJ aK aR l5⟩:Bc)) rfl (Aa jH) (fun _ _=>Nat.zero_le _) (Aa iU) rfl kK (by omega) ?_;intro a9 c9 w9 eM aU fO;have u9:=An ((aU.block (H+1+1+1) (by omega) (fun q=>by have:=(Ao (Aa cS).own _ q.symm).1;omega)).trans (Aa eL));have jD:=Ab eM;have jT:=Ab aU;have fU:=Ab fO;clear eM aU fO)
        have aU:=Aa jT;have eM:=Aa jD
        have dW:∀g,(Value.slice dA N.length dH).ownBlock=some g→H+1+1+1<g∧g≠Q+1∧g≠Q:=fun g hq=>by
         have h1:=(Ao (Aa cS).own g hq).1;have h2:=Aa eB g (.inl hq);have hp:=Aa cD g;rcases h2.1 with h|h
         ·have:=hp h;omega
         ·omega
        have fT:Below (H+1+1+1) W2 w9:=⟨aU.os.trans (Aa bW).os,aU.tape.trans (Aa bW).tape,aU.output.trans (Aa bW).output,qK (Aa bW).size aU.size,fun g G=>(aU.block g (by omega) (fun q=>by have:=(dW g q.symm).1;omega)).trans ((Aa bW).block g G)⟩;have m3:=(aU.block (H+1+1+1) (by omega) (fun q=>by have:=(dW _ q.symm).1;omega)).trans (Aa eL);have m4:=(aU.block Q (by omega) (fun q=>(dW _ q.symm).2.2 rfl)).trans (Aa fS);have m5:=(aU.block (Q+1) (by omega) (fun q=>(dW _ q.symm).2.1 rfl)).trans (Aa fF);obtain⟨e1,e2,e3,e4⟩:=Cr fT m3 2 (.slice a9 (N.length+1) c9);obtain⟨cK,fN⟩:∃cK,w9.setCell ⟨H+1+1+1,2,none⟩ (.slice a9 (N.length+1) c9)=cK:=⟨_,rfl⟩;rw[fN]at e1 e2 e3 e4 ⊢
        have dS:∀g,Cx.ob (.slice a9 (N.length+1) c9) (N++[(⟨n5,a5,u5,aM,aT,aQ,q5,aS,aI,aO,.mk k5 t5 aN aH aG aJ aK aR l5⟩:Bc)]) g→(PB g∨Q+1<g)∧g≠H+1+1+1:=fun g G=>by
         have hp:=Aa cD g;rcases El.ob_more (Aa fU) G with h|h|h
         ·have h2:=Aa eB g h;exact⟨h2.1,h2.2.2⟩
         ·rcases Aa jI g h with h2|h2
          ·have:=hp h2;exact⟨.inl h2,by omega⟩
          ·exact⟨.inr (by omega),by omega⟩
         ·exact⟨.inr (by omega),by omega⟩
        have fW:(N++[(⟨n5,a5,u5,aM,aT,aQ,q5,aS,aI,aO,.mk k5 t5 aN aH aG aJ aK aR l5⟩:Bc)]).length=N.length+1:=by simp
        have fH:cK.heap[H+1+1+1]?=some (.cells #[.string ⟨bH.toArray⟩,.string ⟨bD.toArray⟩,.slice a9 (N++[(⟨n5,a5,u5,aM,aT,aQ,q5,aS,aI,aO,.mk k5 t5 aN aH aG aJ aK aR l5⟩:Bc)]).length c9] 50)∧Cx.OwnC cK (H+1+1+1+1) 0 (.slice a9 (N++[(⟨n5,a5,u5,aM,aT,aQ,q5,aS,aI,aO,.mk k5 t5 aN aH aG aJ aK aR l5⟩:Bc)]).length c9) (N++[(⟨n5,a5,u5,aM,aT,aQ,q5,aS,aI,aO,.mk k5 t5 aN aH aG aJ aK aR l5⟩:Bc)])∧∀g,Cx.ob (.slice a9 (N++[(⟨n5,a5,u5,aM,aT,aQ,q5,aS,aI,aO,.mk k5 t5 aN aH aG aJ aK aR l5⟩:Bc)]).length c9) (N++[(⟨n5,a5,u5,aM,aT,aQ,q5,aS,aI,aO,.mk k5 t5 aN aH aG aJ aK aR l5⟩:Bc)]) g→PB g∨Q+1<g:=by
         rw[fW];exact⟨e2,eM.stay (fun g G=>e3 g (dS g G).2),fun g G=>(dS g G).1⟩
        have kA:=Ab fH;have lM:=Ab e1;have jK:=Ab (show cK.heap[Q+1]?=some (.cells #[.int .i64 cL,.int .i64 cW] 29)∧cK.heap[Q]?=some (.cells #[.int .u8 k1,.string ⟨t1.toArray⟩,.slice bI bG.length bE,.slice (some ⟨b4,o4,none⟩) J.length bF,.int .i64 l1] 26) from ⟨(e3 _ (by omega)).trans m5,(e3 _ (by omega)).trans m4⟩);have kR:Q+1+1≤cK.heap.size:=by rw[e4];have:=aU.size;omega
        clear aU eM dW fT m3 m4 m5 e1 e2 e3 e4 fN dS fH u9 w3 wP jD jT fU bW fF cS jH iU jI eL fS kF eB
        have iL:(aL=0∧cL=0∧cW=0∧P22.rowGo P22.stepE (Am (J.drop (j+1))) ((N++[(⟨n5,a5,u5,aM,aT,aQ,q5,aS,aI,aO,.mk k5 t5 aN aH aG aJ aK aR l5⟩:Bc)]).map Bc.bare)=RJ)∨(cL≠0∧(aL=0→RJ=.error (cL,cW))∧(aL≠0→cL=aL∧cW=0)):=by
         have Z:=Aa fR;rw[Aa fM]at Z;rcases Aa kB with⟨h1,h2,h3⟩|⟨h1,h2⟩
         ·rw[h1]at Z;refine .inl ⟨Aa gC,h2,h3,?_⟩;rw[List.map_append];exact Z
         ·rw[h1]at Z;exact .inr ⟨h2,fun _=>Z.symm,fun h=>absurd (Aa gC) h⟩
        have iR:=Ab iL;clear iL fR fM kB;go_wp2;go_roundg g2
        case measure=>omega
        case rel=>exact⟨j+1,a9,c9,N++[(⟨n5,a5,u5,aM,aT,aQ,q5,aS,aI,aO,.mk k5 t5 aN aH aG aJ aK aR l5⟩:Bc)],cL,cW,by omega,by go_num,by rw[fW];omega,lM,kA,jK,Ab ((Aa iR).imp id (fun h=>⟨h.1,h.2.1,fun q=>absurd (Aa gC) q⟩)),kR⟩
      ·have j1:(ec != 0)=true:=by simpa using dE
       have j0:(ec==0)=false:=by simpa using dE
       have eQ:P22.rowE 1024 P22.stepE (Nd.mk k1 t1 bI bE bG bM bF J l1).bare=.error (ec,el):=by
        rcases Aa eV with⟨_,h1,_⟩|⟨h1,h2,h3⟩
        ·exact absurd h1 dE
        ·rcases Aa eS with⟨h4,h5⟩|⟨h4,_,_,h5⟩
         ·rw[h5,(h3 h4).1,(h3 h4).2]
         ·rw[h5,h2 h4]
       have R:=Aa aZ;rw[eQ]at R;have hq:=Aa HQ;rw[show RK=.error (ec,el) from R.symm]at hq;have aW:=Ab (show bN=.error (ec,el) from hq);have cI:=Ab dE;clear R hq eQ dE aZ eV;cases gk with
       |zero=>
        have e1:(J.length:Int)≤(j:Int):=by omega
        have j2:decide ((j:Int)<(J.length:Int))=false:=by simp;omega
        go_upto_region 26 with fail
        go_region_with_o (fail)
        all_goals go_wp2
        all_goals
         have X:=C3 (B:=H) (g1:=H+1) (g2:=H+1+1) (w:=w) (Aa eN) (Aa aA) (Aa aB) (by omega) (by omega) (by omega) (.string ⟨#[]⟩) (.string ⟨#[]⟩) (.slice none 0 0) (.int .i64 ec) (.int .i64 el);exact qW (Al rfl _ _ _ (H+1) (H+1+1) _ _ rfl (Cq X.2.1) rfl (Ai X.2.2.1)) rfl ⟨by rw[hH];exact X.1,Ch.zero,ec,el,rfl,Ch.zero_in _,fun g G=>(Co none g G).elim,.inr ⟨Aa aW,Aa cI,rfl⟩⟩
       |succ g2=>
        have kD:(j:Int)<(J.length:Int):=by omega
        go_upto_region 26 with fail
        go_region_with_o (fail)
        all_goals go_wp2
        all_goals
         have X:=C3 (B:=H) (g1:=H+1) (g2:=H+1+1) (w:=w) (Aa eN) (Aa aA) (Aa aB) (by omega) (by omega) (by omega) (.string ⟨#[]⟩) (.string ⟨#[]⟩) (.slice none 0 0) (.int .i64 ec) (.int .i64 el);exact qW (Al rfl _ _ _ (H+1) (H+1+1) _ _ rfl (Cq X.2.1) rfl (Ai X.2.2.1)) rfl ⟨by rw[hH];exact X.1,Ch.zero,ec,el,rfl,Ch.zero_in _,fun g G=>(Co none g G).elim,.inr ⟨Aa aW,Aa cI,rfl⟩⟩
    have bP:P22.defRd y=none:=by unfold P22.defRd;rw[if_neg hU,if_neg gU,if_neg iC]
    have R:=Aa cF;rw[bP]at R;have hq:=Aa HQ;rw[show RK=.error (18,l1) from R.symm]at hq;have aW:=Ab (show bN=.error (18,l1) from hq);have c0:(y==[115,97,103,97])=false:=by simpa using hU
    have c1:(y==[116,101,120,116])=false:=by simpa using gU
    have c2:(y==[115,116,101,112,115])=false:=by simpa using iC
    clear R cF bP hq;go_upto_region 25 with fail
    obtain⟨f1,f2,f3,f4,f5⟩:=C6 (F:=Q+1) (Aa bC) (Aa bB) (Aa cG) (by omega) (.int .i64 18) (.int .i64 l1);obtain⟨W8,bO⟩:∃W8,(W5.setCell ⟨Q+1,0,none⟩ (.int .i64 18)).setCell ⟨Q+1,1,none⟩ (.int .i64 l1)=W8:=⟨_,rfl⟩;rw[bO]at f1 f2 f3 f4 f5 ⊢;have y0:=(f1.block H (by omega)).trans (Aa dF);have y1:=(f1.block (H+1) (by omega)).trans (Aa dK);have y2:=(f1.block (H+1+1) (by omega)).trans (Aa dC);have bA:Below H w W8:=(Aa cX).trans (f1.mono (by omega));clear z0 z3 z4 z5 fG;have z0:=Ad y0;have z1:=An y1;have z2:=Af y2;have z5:=Af f3;have bY:=Ab bA;have aA:=Ab y1;have aB:=Ab y2;clear bA f1 f2 f3 f4 f5 y0 y1 y2 bO cM cG bB bC cU fB eY bT aC cT;go_upto_region 26 with fail
    go_region_with_o (fail)
    all_goals go_wp2
    all_goals
     have X:=C3 (B:=H) (g1:=H+1) (g2:=H+1+1) (w:=w) (Aa bY) (Aa aA) (Aa aB) (by omega) (by omega) (by omega) (.string ⟨#[]⟩) (.string ⟨#[]⟩) (.slice none 0 0) (.int .i64 18) (.int .i64 l1);exact qW (Al rfl _ _ _ (H+1) (H+1+1) _ _ rfl (Cq X.2.1) rfl (Ai X.2.2.1)) rfl ⟨by rw[hH];exact X.1,Ch.zero,18,l1,rfl,Ch.zero_in _,fun g G=>(Co none g G).elim,.inr ⟨Aa aW,by decide,rfl⟩⟩
end Go.Proofs.YtnjokdbblmlhhaaGreatDoor
