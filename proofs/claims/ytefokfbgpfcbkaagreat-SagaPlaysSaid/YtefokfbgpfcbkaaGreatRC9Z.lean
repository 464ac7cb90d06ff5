import Derived.Test.YtefokfbgpfcbkaaGreatWR20wZ
import Derived.Test.YtefokfbgpfcbkaaGreatRC8Z
set_option maxRecDepth 100000
set_option maxHeartbeats 16000000
set_option linter.unusedVariables false
set_option linter.unusedSimpArgs false
namespace Go.Proofs.YtefokfbgpfcbkaaGreat
open Go.RowKit
theorem Lt(x:List UInt8)(l:List (List UInt8)):P28.texts (x::l)=if P03.check x 64≠0 then P03.check x 64 else P28.texts l:=rfl
theorem Oi{α:Type}{l:List α}{i:Nat}{x:α}(h:l[i]?=some x):l.drop i=x::l.drop (i+1):=by
 obtain⟨hl,e⟩:=qI.1 h;rw[qL hl,e]
def Hu:List Int→Bool
 | []=>true
 |x::l=>P28.fits x&&Hu l
theorem Ut(s:Ai)(w:World)(cG:s.In w)(bW:s.name.length≤1000000)(bU:s.action.length≤1000000)(cJ:s.undo.length≤1000000)(cZ:s.after.length≤1000000)(bX:∀x∈s.after,x.length≤1000000)(cQ:Sm s.note.bare)(hsz:(s.note.bare.size 18).2≤1000000000) :
  Calls Tryz.prog 117 #[s.val] w fun e w'=>e=.returned (.int .i64 (P28.stepE s.bare))∧Below w.heap.size w w':=by
 obtain⟨H,hH⟩:=qeX w.heap.size;rw[hH];have aO:=fun r (hr:s.blk r)=>cG.lt hr;rw[hH]at aO;have aM:∀V,Below H w V→s.In V:=fun V hV=>cG.keep (fun r hr=>hV.block r (aO r hr));have J:=fun V=>Us s.note V;have aA:=fun V (hV:Below H w V)=>Rm s.note V (aM V hV).note cQ;have aB:=fun V (hV:Below H w V)=>Wh s.note 18 V (aM V hV).note (by omega) hsz
 have aS:P28.stepE s.bare=if P28.texts [s.name,s.action,s.undo]≠0 then P28.texts [s.name,s.action,s.undo] else if 64<s.after.length then 2 else if P28.texts s.after≠0 then P28.texts s.after else
  if Hu [s.most,s.first,s.factor,s.limit]=false then 1 else if P28.noneB s.note.bare then 0 else if s.note.bare.check 1≠0 then s.note.bare.check 1 else if 13<(s.note.bare.size 18).1 then 11 else 0:=by
  simp only[Hu,Bool.and_true];rfl
 rw[aS];obtain⟨TT,bF⟩:∃T,P28.texts [s.name,s.action,s.undo]=T:=⟨_,rfl⟩;obtain⟨TA,aZ⟩:∃T,P28.texts s.after=T:=⟨_,rfl⟩;obtain⟨FB,bG⟩:∃T,Hu [s.most,s.first,s.factor,s.limit]=T:=⟨_,rfl⟩;obtain⟨NB,bQ⟩:∃T,P28.noneB s.note.bare=T:=⟨_,rfl⟩;obtain⟨CE,bZ⟩:∃T,s.note.bare.check 1=T:=⟨_,rfl⟩;obtain⟨DP,cA⟩:∃T,(s.note.bare.size 18).1=T:=⟨_,rfl⟩;obtain⟨DQ,cX⟩:∃T,(s.note.bare.size 18).2=T:=⟨_,rfl⟩;rw[bQ]at J;rw[bZ]at aA;rw[cA,cX]at aB;rw[bF,aZ,bG,bQ,bZ,cA];obtain⟨aY,aG⟩:∃R:Int,(if TT≠0 then TT else if 64<s.after.length then 2 else if TA≠0 then TA else if FB=false then 1 else if NB then 0 else if CE≠0 then CE else if 13<DP then 11 else 0)=R:=⟨_,rfl⟩;rw[aG];have aJ:=fun V hV=>(aM V hV).keys;obtain⟨n1,a1,u1,dR,dM,aW,q1,aE,aD,aC,⟨k1,t1,dB,dT,dC,dD,dN,dG,l1⟩⟩:=s;rw[Ai.val_eqn];unfold Nd.val at J aA aB;simp only[Nd.kind,Nd.text,Nd.kV,Nd.dV,Nd.line,Nd.ka,Nd.kc,Nd.keys,Nd.da,Nd.dc,Nd.kids]at J aA aB;simp only at bF aZ bG aG aJ bW bU cJ cZ bX;obtain⟨N1,cI⟩:=qeX aW.length;obtain⟨N2,cR⟩:=qeX dC.length;obtain⟨N3,cN⟩:=qeX dG.length;rw[cI]at aG cZ ⊢;rw[cR]at J aA aB ⊢;rw[cN]at J aA aB ⊢;obtain⟨W2,cW,cC,g0,g1,bV⟩:=Dt w (.cells #[.string ⟨n1.toArray⟩,.string ⟨a1.toArray⟩,.string ⟨u1.toArray⟩,.slice dR N1 dM,.int .i64 q1,.int .i64 aE,.int .i64 aD,.int .i64 aC,.int .u8 k1,.string ⟨t1.toArray⟩,.slice dB N2 dT,.slice dD N3 dN,.int .i64 l1] 63) (.cells #[.string ⟨n1.toArray⟩,.string ⟨a1.toArray⟩,.string ⟨u1.toArray⟩] 9) H hH;obtain⟨W3,cM,cD,g2,dH⟩:=As W2 (.cells #[.int .i64 q1,.int .i64 aE,.int .i64 aD,.int .i64 aC] 3) (H+1+1) bV;have bL:Below H w W3:=cC.trans (cD.mono (by omega));have cS:=(cD.block H (by omega)).trans g0;have y3:=A9 (o:=3) g0 rfl;obtain⟨⟨m0,_⟩,⟨m1,_⟩,⟨m2,_⟩⟩:=Ag g1;have Z:=fun(x:List UInt8) (hx:x.length≤1000000) V=>Cv ⟨x.toArray⟩ 64 V (by simp[ByteArray.size];omega);simp only[List.toList_toArray]at Z;have cL:=Ab Z;have dX:=Ab (And.intro bW (And.intro bU cJ));have dF:=Ab bX;have bY:=Ab aJ;have aQ:=Ab J;have bJ:=Ab aA;have bM:=Ab aB;have dI:=Ab bF;have dQ:=Ab aZ;have dL:=Ab bG;have I:=Ab aG;have cV:=Ab cI;have dJ:=Ab cW;have dE:=Ab cM;have aX:=Ab cC;have aR:=Ab bL;have cB:=Ab cS;have dP:=Ab g0;have G2:=Ab g2;clear Z bW bU cJ bX aJ J aA aB bF aZ bG aG cI cR cN bQ bZ cA cX aS cW cM cC cD bL g0 g1 g2 cS cG aO aM cQ hsz dH;go_enter Tryz.func117,Tryz.ntmps117
 go_upto_region 2 with fail
 try rw[hH]
 try rw[bV]
 rw[Aa dJ];go_wp2
 go_loopg [4] 3 (fun g s4 wx=>∃i:Nat,i+g=3∧s4=.int .i64 i∧W2=wx∧Hid (P28.texts ([n1,a1,u1].drop i)=TT))
 case atStart=>exact⟨0,by omega,by go_num,rfl,dI⟩
 case round=>
  obtain⟨i,eF,rfl,hw,HT⟩:=hrel;subst hw;cases gk with
  |succ g'=>
   have eJ:(i:Int)<3:=by omega
   have eM:IntKind.i64.wrap ((i:Int)+1)=(i:Int)+1:=qG _ (by omega)
   obtain⟨x,hx,aH,dU⟩:∃x,[n1,a1,u1][i]?=some x∧x.length≤1000000∧W2.cell? ⟨H+1,i,none⟩=some (.string ⟨x.toArray⟩):=by
    obtain⟨h1,h2,h3⟩:=Aa dX;rcases i with _|_|_|i
    ·exact⟨n1,rfl,h1,m0⟩
    ·exact⟨a1,rfl,h2,m1⟩
    ·exact⟨u1,rfl,h3,m2⟩
    ·omega
   have ht:=Aa HT;rw[Oi hx,Lt]at ht;have Z:=fun V=>Aa cL x aH V;obtain⟨CX,aI⟩:∃c,P03.check x 64=c:=⟨_,rfl⟩;rw[aI]at ht Z;have aP:=Ab Z;by_cases hz:CX=0
   ·subst hz;have bT:Hid (P28.texts ([n1,a1,u1].drop (i+1))=TT):=Ab (by simpa using ht);clear ht Z aI hx aH;go_wp2_with (go_at_call 116;refine(Aa aP _).mono ?_;rintro e w4 ⟨rfl,hw⟩;obtain rfl:=hw.symm)
    go_roundg g'
    case measure=>omega
    case rel=>exact⟨i+1,by omega,by go_num,rfl,bT⟩
   ·rw[if_pos hz]at ht;have dA:(CX != 0)=true:=by simpa using hz
    have e:aY=CX:=by rw[←Aa I,←ht,if_pos hz]
    subst e;clear ht Z aI hx aH;go_wp2_with (go_at_call 116;refine(Aa aP _).mono ?_;rintro e w4 ⟨rfl,hw⟩;obtain rfl:=hw.symm)
    go_ret;exact⟨rfl,Aa aX⟩
  |zero=>
   have e1:(3:Int)≤(i:Int):=by omega
   have j1:decide ((i:Int)<3)=false:=by simp;omega
   have dK:TT=0:=by
    rw[←Aa HT,List.drop_eq_nil_of_le (by simp;omega)];rfl
   subst dK;have hr:=Aa I;rw[if_neg (by simp)]at hr;clear I;by_cases cU:64<N1
   ·rw[if_pos cU]at hr;subst hr;have h6:(64:Int)<(N1:Int):=by omega
    go_wp2;go_ret;exact⟨rfl,Aa aX⟩
   rw[if_neg cU]at hr;have h6:¬(64:Int)<(N1:Int):=by omega
   have eB:decide ((64:Int)<(N1:Int))=false:=by simp;omega
   have I:=Ab hr;have cT:Hid (P28.texts (aW.drop 0)=TA):=dQ;clear hr;go_wp2
   go_loopg [6] N1 (fun g s6 wx=>∃i:Nat,i+g=N1∧s6=.int .i64 i∧W2=wx∧Hid (P28.texts (aW.drop i)=TA))
   case atStart=>exact⟨0,by omega,by go_num,rfl,cT⟩
   case round=>
    obtain⟨k,eG,rfl,hw,cY⟩:=hrel;subst hw;cases gk with
    |succ g'=>
     have eC:(k:Int)<(N1:Int):=by omega
     have eL:IntKind.i64.wrap ((k:Int)+1)=(k:Int)+1:=qG _ (by omega);obtain⟨x,hx⟩:=Ap (Aa cV) (show k<N1 by omega);have aH:=Aa dF x (qN hx);obtain⟨rb,ro,rfl,cx⟩:=Aa bY W2 (Aa aX) k x hx;have ht:=Aa cY;rw[Oi hx,Lt]at ht;have Z:=fun V=>Aa cL x aH V;obtain⟨CX,aI⟩:∃c,P03.check x 64=c:=⟨_,rfl⟩;rw[aI]at ht Z;have aP:=Ab Z;by_cases hz:CX=0
     ·subst hz;have bT:Hid (P28.texts (aW.drop (k+1))=TA):=Ab (by simpa using ht);clear ht Z aI hx aH;go_wp2_with (go_at_call 116;refine(Aa aP _).mono ?_;rintro e w4 ⟨rfl,hw⟩;obtain rfl:=hw.symm)
      go_roundg g'
      case measure=>omega
      case rel=>exact⟨k+1,by omega,by go_num,rfl,bT⟩
     ·rw[if_pos hz]at ht;have dA:(CX != 0)=true:=by simpa using hz
      have e:aY=CX:=by rw[←Aa I,←ht,if_pos hz]
      subst e;clear ht Z aI hx aH;go_wp2_with (go_at_call 116;refine(Aa aP _).mono ?_;rintro e w4 ⟨rfl,hw⟩;obtain rfl:=hw.symm)
      go_ret;exact⟨rfl,Aa aX⟩
    |zero=>
     have e2:(N1:Int)≤(k:Int):=by omega
     have j2:decide ((k:Int)<(N1:Int))=false:=by simp;omega
     have eN:¬k<N1:=by omega
     have dZ:TA=0:=by
      rw[←Aa cY,List.drop_eq_nil_of_le (by rw[Aa cV];omega)];rfl
     subst dZ;have hr:=Aa I;rw[if_neg (by simp)]at hr;clear I;have I:=Ab hr;have cK:Hid (Hu ([q1,aE,aD,aC].drop 0)=FB):=dL;obtain⟨_,_,_,_,⟨y4,_⟩,⟨y5,_⟩,⟨y6,_⟩,⟨y7,_⟩,_⟩:=Am (Aa dP);clear hr eB;go_upto_region 17 with fail
     try rw[bV]
     rw[Aa dE];clear y3 y4 y5 y6 y7 m0 m1 m2;have m0:=A9 (o:=0) (Aa G2) rfl;have m1:=A9 (o:=1) (Aa G2) rfl;have m2:=A9 (o:=2) (Aa G2) rfl;have m3:=A9 (o:=3) (Aa G2) rfl;go_wp2
     go_loopg [9] 4 (fun g s9 wx=>∃i:Nat,i+g=4∧s9=.int .i64 i∧W3=wx∧Hid (Hu ([q1,aE,aD,aC].drop i)=FB))
     case atStart=>exact⟨0,by omega,by go_num,rfl,cK⟩
     case round=>
      obtain⟨n,eI,rfl,hw,HF⟩:=hrel;subst hw;cases gk with
      |succ g'=>
       have eD:(n:Int)<4:=by omega
       have eH:IntKind.i64.wrap ((n:Int)+1)=(n:Int)+1:=qG _ (by omega)
       obtain⟨x,hx,dU⟩:∃x,[q1,aE,aD,aC][n]?=some x∧W3.cell? ⟨H+1+1,n,none⟩=some (.int .i64 x):=by
        rcases n with _|_|_|_|n
        ·exact⟨q1,rfl,m0⟩
        ·exact⟨aE,rfl,m1⟩
        ·exact⟨aD,rfl,m2⟩
        ·exact⟨aC,rfl,m3⟩
        ·omega
       have hf:=Aa HF;rw[Oi hx,show Hu (x::[q1,aE,aD,aC].drop (n+1))=(P28.fits x&&Hu ([q1,aE,aD,aC].drop (n+1))) from rfl]at hf;rcases(by omega:x<0∨(0≤x∧999999999<x)∨(0≤x∧x≤999999999))with h1|⟨h1,h2⟩|⟨h1,h2⟩
       ·have e:FB=false:=by rw[←hf];simp[P28.fits];omega
        have e2:aY=1:=by rw[←Aa I,e,if_pos rfl]
        subst e2;clear hf hx e;go_wp2;go_ret;exact⟨rfl,Aa aR⟩
       ·have e:FB=false:=by rw[←hf];simp[P28.fits];omega
        have e2:aY=1:=by rw[←Aa I,e,if_pos rfl]
        have h3:¬x<0:=by omega
        have j3:decide (x<0)=false:=by simp;omega
        subst e2;clear hf hx e;go_wp2;go_ret;exact⟨rfl,Aa aR⟩
       ·have h3:¬x<0:=by omega
        have j3:decide (x<0)=false:=by simp;omega
        have j4:decide (999999999<x)=false:=by simp;omega
        have dW:Hid (Hu ([q1,aE,aD,aC].drop (n+1))=FB):=Ab (by rw[←hf];simp[P28.fits,h1,h2]);clear hf hx;go_wp2;go_roundg g'
        case measure=>omega
        case rel=>exact⟨n+1,by omega,by go_num,rfl,dW⟩
      |zero=>
       have e3:(4:Int)≤(n:Int):=by omega
       have j5:decide ((n:Int)<4)=false:=by simp;omega
       have eA:FB=true:=by
        rw[←Aa HF,List.drop_eq_nil_of_le (by simp;omega)];rfl
       subst eA;have hr:=Aa I;rw[if_neg (by simp)]at hr;clear I m0 m1 m2 m3;obtain⟨_,_,_,_,_,_,_,_,⟨y8,_⟩,⟨y9,_⟩,⟨bC,_⟩,⟨aU,_⟩,⟨bD,_⟩⟩:=Am (Aa cB);cases NB with
       |true=>
        rw[if_pos rfl]at hr;subst hr;go_wp2_with (go_at_call 158;refine(Aa aQ _).mono ?_;rintro e w4 ⟨rfl,aN⟩)
        go_ret;exact⟨rfl,(Aa aR).trans (aN.mono (by have:=(Aa aR).size;omega))⟩
       |false=>
        rw[if_neg (by simp)]at hr;have bI:=Ab hr;clear hr;go_upto_region 24 with(go_at_call 158;refine(Aa aQ _).mono ?_;rintro e w4 ⟨rfl,aN⟩)
        have cP:=(qA.1 (Aa cB)).1;have bO:=(Aa aR).trans (aN.mono (by omega));have bE:=(aN.block H cP).trans (Aa cB);have cO:=(qA.1 bE).1;have aK:=Ab bO;have dY:=Ab bE;clear y8 y9 bC aU bD;obtain⟨_,_,_,_,_,_,_,_,⟨y8,_⟩,⟨y9,_⟩,⟨bC,_⟩,⟨aU,_⟩,⟨bD,_⟩⟩:=Am bE;clear aN bO bE;by_cases hz:CE=0
        ·have hr:=Aa bI;subst hz;rw[if_neg (by simp)]at hr;clear bI;go_upto_region 27 with(go_at_call 159;refine(Aa bJ _ (Aa aK)).mono ?_;rintro e w5 ⟨rfl,aT⟩)
         have bK:=(Aa aK).trans (aT.mono (by omega));have cH:=(aT.block H cO).trans (Aa dY);have eE:=(qA.1 cH).1;have aL:=Ab bK;clear y8 y9 bC aU bD;obtain⟨_,_,_,_,_,_,_,_,⟨y8,_⟩,⟨y9,_⟩,⟨bC,_⟩,⟨aU,_⟩,⟨bD,_⟩⟩:=Am cH;clear aT bK cH;by_cases hd:13<DP
         ·rw[if_pos hd]at hr;subst hr;have dS:(13:Int)<(DP:Int):=by omega
          go_wp2_with (go_at_call 160;refine(Aa bM _ (Aa aL)).mono ?_;rintro e w6 ⟨rfl,cF⟩)
          go_ret;exact⟨rfl,(Aa aL).trans (cF.mono (by omega))⟩
         ·rw[if_neg hd]at hr;subst hr;have dS:¬(13:Int)<(DP:Int):=by omega
          have eK:decide ((13:Int)<(DP:Int))=false:=by simp;omega
          go_wp2_with (go_at_call 160;refine(Aa bM _ (Aa aL)).mono ?_;rintro e w6 ⟨rfl,cF⟩)
          go_ret;exact⟨rfl,(Aa aL).trans (cF.mono (by omega))⟩
        ·have hr:=Aa bI;rw[if_pos hz]at hr;have dA:(CE != 0)=true:=by simpa using hz
         subst hr;clear bI;go_wp2_with (go_at_call 159;refine(Aa bJ _ (Aa aK)).mono ?_;rintro e w5 ⟨rfl,aT⟩)
         go_ret;exact⟨rfl,(Aa aK).trans (aT.mono (by omega))⟩
open Go.RowKit
structure Qbb (s:Ai):Prop where
 name:s.name.length≤1000000
 action:s.action.length≤1000000
 undo:s.undo.length≤1000000
 after:s.after.length≤1000000
 texts:∀x∈s.after,x.length≤1000000
 sm:Sm s.note.bare
 size:(s.note.bare.size 18).2≤1000000000
theorem Nw(d:Af)(w:World)(aS:d.In w)(bY:d.name.length≤1000000)(bV:d.text.length≤1000000)(hl:d.steps.length≤1000000)(bE:∀s∈d.steps,Qbb s) :
  Calls Tryz.prog 69 #[d.val] w fun e w'=>e=.returned (.agg #[.int .i64 (P28.defE d.bare).1,.int .i64 (P28.defE d.bare).2])∧Below w.heap.size w w':=by
 obtain⟨H,hH⟩:=qeX w.heap.size;rw[hH];have aE:=fun r (hr:d.blk r)=>aS.lt hr;rw[hH]at aE;have aO:∀V,Below H w V→d.In V:=fun V hV=>aS.keep (fun r hr=>hV.block r (aE r hr))
 have aA:P28.defE d.bare=if P03.check d.name 64≠0 then (P03.check d.name 64,0) else if P03.check d.text 4096≠0 then (P03.check d.text 4096,0) else if 1024<d.steps.length then (2,0) else P28.stepsE 0 (d.steps.map Ai.bare):=by
  unfold P28.defE;rw[show d.bare.steps=d.steps.map Ai.bare from rfl,qX];rfl
 obtain⟨W1,bJ,aT,g0,g1,cG⟩:=Dt w (Be d) (.cells #[.int .i64 0,.int .i64 0] 127) H hH;have bL:Za w W1 H d:=⟨g0,g1,aT,by omega⟩;have aB:=fun V=>Cv ⟨d.name.toArray⟩ 64 V (by simp[ByteArray.size];omega);have aD:=fun V=>Cv ⟨d.text.toArray⟩ 4096 V (by simp[ByteArray.size];omega);simp only[List.toList_toArray]at aB aD;obtain⟨TT,aR⟩:∃T,P03.check d.name 64=T:=⟨_,rfl⟩;obtain⟨TC,aP⟩:∃T,P03.check d.text 4096=T:=⟨_,rfl⟩;obtain⟨aW,aN⟩:∃R,P28.defE d.bare=R:=⟨_,rfl⟩;rw[aR]at aB;rw[aP]at aD;rw[aR,aP]at aA;rw[aN]at aA ⊢;obtain⟨⟨k0,_⟩,⟨k1,_⟩,⟨k2,_⟩⟩:=Ag g0;obtain⟨⟨p0,aM⟩,⟨p1,aJ⟩⟩:=A2 g1;have aC:=Ab aB;have aG:=Ab aD;have HR:=Ab aA.symm;have bX:=Ab aO;have aX:=Ab bE;have aL:=Ab bJ;have aH:=Ab bL;clear aB aD aA aO bE bJ bL g0 g1 aT aR aP aN aS aE bY bV;unfold Be at aL;obtain⟨nm,tx,sa,sc,ss⟩:=d;obtain⟨M,hM⟩:=qeX ss.length;unfold Af.val;simp only at k0 k1 k2 aL aC aG HR aX hl ⊢;rw[hM]at k2 aL HR hl ⊢;have HM:=Ab hM;clear hM;go_enter Tryz.func69,Tryz.ntmps69
 go_upto_region 1 with fail
 try rw[hH]
 rw[Aa aL];by_cases c1:TT=0
 rotate_left
 ·have d1:(TT==0)=false:=by simpa using c1
  have bW:(TT != 0)=true:=by simpa using c1
  have hr:=Aa HR;rw[if_pos c1]at hr;subst hr;clear HR c1;go_wp2_with (go_at_call 116;refine(Aa aC _).mono ?_;rintro e w4 ⟨rfl,hw⟩;obtain rfl:=hw.symm)
  (try simp only[Exit.noGoto_ret,Exit.inBlock,Exit.then])
  have hD:=Aa aH;refine qV (Ah rfl _ _ _ (H+1) _ rfl (Bz (C5 hD.fa _ _))) rfl ?_;exact⟨rfl,hD.out _ _⟩
 subst c1;have hr:=Aa HR;rw[if_neg (by simp)]at hr;have HR:=Ab hr;clear hr;by_cases c2:TC=0
 rotate_left
 ·have d1:(TC==0)=false:=by simpa using c2
  have bW:(TC != 0)=true:=by simpa using c2
  have hr:=Aa HR;rw[if_pos c2]at hr;subst hr;clear HR c2;go_upto_region 4 with(go_at_call 116;refine(Aa aC _).mono ?_;rintro e w4 ⟨rfl,hw⟩;obtain rfl:=hw.symm)
  go_wp2_with (go_at_call 116;refine(Aa aG _).mono ?_;rintro e w4 ⟨rfl,hw⟩;obtain rfl:=hw.symm)
  (try simp only[Exit.noGoto_ret,Exit.inBlock,Exit.then])
  have hD:=Aa aH;refine qV (Ah rfl _ _ _ (H+1) _ rfl (Bz (C5 hD.fa _ _))) rfl ?_;exact⟨rfl,hD.out _ _⟩
 subst c2;have hr:=Aa HR;rw[if_neg (by simp)]at hr;have HR:=Ab hr;clear hr;go_upto_region 4 with(go_at_call 116;refine(Aa aC _).mono ?_;rintro e w4 ⟨rfl,hw⟩;obtain rfl:=hw.symm)
 go_upto_region 7 with(go_at_call 116;refine(Aa aG _).mono ?_;rintro e w4 ⟨rfl,hw⟩;obtain rfl:=hw.symm)
 by_cases c3:1024<M
 ·have d1:(1024:Int)<(M:Int):=by omega
  have hr:=Aa HR;rw[if_pos c3]at hr;subst hr;clear HR c3;go_wp2
  (try simp only[Exit.noGoto_ret,Exit.inBlock,Exit.then])
  have hD:=Aa aH;refine qV (Ah rfl _ _ _ (H+1) _ rfl (Bz (C5 hD.fa _ _))) rfl ?_;exact⟨rfl,hD.out _ _⟩
 have d1:(M:Int)≤1024:=by omega
 have hr:=Aa HR;rw[if_neg c3]at hr;have HR:=Ab hr;clear hr c3;go_wp2
 go_loopg [5] M (fun g s5 wx=>∃(i:Nat),i+g=M∧s5=.int .i64 i∧Hid (Za w wx H ⟨nm,tx,sa,sc,ss⟩)∧Hid (P28.stepsE i ((ss.map Ai.bare).drop i)=aW))
 case atStart=>exact⟨0,by omega,by go_num,aH,by simpa using HR⟩
 case round=>
  obtain⟨i,cC,rfl,HD,HE⟩:=hrel;clear k0 k1 k2 p0 p1 aM aJ;have hD:=Aa HD;obtain⟨⟨k0,_⟩,⟨bF,_⟩,⟨k2,_⟩⟩:=Ag hD.df;obtain⟨⟨p0,aM⟩,⟨p1,aJ⟩⟩:=A2 hD.fa;simp only[Aa HM]at k0 bF k2;cases gk with
  |zero=>
   have e1:(M:Int)≤(i:Int):=by omega
   have j1:decide ((i:Int)<(M:Int))=false:=by simp;omega
   have hr:=Aa HE;rw[qM (by rw[qX,Aa HM];omega)]at hr;have hr:((0:Int),(0:Int))=aW:=hr;subst hr;clear HE HR hD;go_wp2
   (try simp only[Exit.noGoto_ret,Exit.inBlock,Exit.then])
   have hD:=Aa HD;refine qV (Ah rfl _ _ _ (H+1) _ rfl (Bz (C5 hD.fa _ _))) rfl ?_;exact⟨rfl,hD.out _ _⟩
  |succ g'=>
   have cJ:(i:Int)<(M:Int):=by omega
   have cO:IntKind.i64.wrap ((i:Int)+1)=(i:Int)+1:=qG _ (by omega);obtain⟨s1,aK⟩:=Ap (Aa HM) (show i<M by omega);have J:=Aa aX s1 (qN aK);have aZ:=((Aa bX) wr hD.bel).steps;obtain⟨b1,o1,rfl,c1,aU⟩:=aZ.get aK;have bI:(ss.map Ai.bare)[i]?=some s1.bare:=by rw[zJ,aK];rfl
   have Z:=Aa HE;rw[J0 _ i _ bI]at Z;have I:=Ut s1 wr aU J.name J.action J.undo J.after J.texts J.sm J.size;obtain⟨EE,bC⟩:∃E,P28.stepE s1.bare=E:=⟨_,rfl⟩;rw[bC]at Z I;obtain⟨n1,a1,u1,cI,cD,bT,q1,cN,cK,cH,⟨cL,t1,cA,cM,bO,cB,cF,bU,l1⟩⟩:=s1;obtain⟨⟨c0,c1,c2,c3⟩,⟨c4,c5,c6,c7⟩,⟨c8,c9,c10,c11,c12⟩⟩:=Ar c1;simp only[Ai.aV,Nd.kind,Nd.text,Nd.kV,Nd.dV,Nd.line,Nd.ka,Nd.kc,Nd.keys,Nd.da,Nd.dc,Nd.kids]at c0 c1 c2 c3 c4 c5 c6 c7 c8 c9 c10 c11 c12;simp only[Ai.val_eqn]at I;obtain⟨N1,bK⟩:=qeX bT.length;obtain⟨N2,bD⟩:=qeX bO.length;obtain⟨N3,aY⟩:=qeX bU.length;rw[bK]at c3 I;rw[bD]at c10 I;rw[aY]at c11 I;have bQ:=Ab I;have aQ:=Ab Z;clear Z hD I bC bI aZ aU aK J bK bD aY HE HR;go_upto_region 13 with(go_at_call 117;refine(Aa bQ).mono ?_;rintro e w5 ⟨rfl,bM⟩)
   have aI:=(Aa HD).keep bM;have bG:=Ab aI;clear c0 c1 c2 c3 c4 c5 c6 c7 c8 c9 c10 c11 c12 k0 bF k2 p0 p1 aM aJ bM;obtain⟨⟨p0,aM⟩,⟨p1,aJ⟩⟩:=A2 aI.fa;by_cases cE:EE=0
   ·subst cE;have Z:=Aa aQ;rw[if_neg (by simp)]at Z;have bZ:=Ab Z;clear Z aI;go_wp2;go_roundg g'
    case measure=>omega
    case rel=>exact⟨i+1,by omega,by go_num,bG,bZ⟩
   ·have Z:=Aa aQ;rw[if_pos cE]at Z;subst Z;have d1:(EE==0)=false:=by simpa using cE
    have d2:(EE != 0)=true:=by simpa using cE
    clear aQ cE aI;go_wp2
    (try simp only[Exit.noGoto_ret,Exit.inBlock,Exit.then])
    have hD:=Aa bG;refine qV (Ah rfl _ _ _ (H+1) _ rfl (Bz (C5 hD.fa _ _))) rfl ?_;exact⟨rfl,hD.out _ _⟩
open Go.RowKit
theorem Wo{w:World}{B B2:Nat}{v u:Value}{ns ms:List P28.Note}{ops:Array Oper}{o:Oper}{a:Act}{K:Act→World→Prop}{Q:Exit→Act→World→Prop}{E:Prop}(aA:o.guard=none)(s x:Operand)
  (ho:o.op=.call { callee:=.builtin .append,args:=#[s,x],argTypes:=#[124,124] })
  (hs:a.eval s=v) (J:A0 w B v ns) (hx:a.eval x=u) (hu:A0 w B2 u ms) (I:ns.length+ms.length≤1000000000000) (hB:B≤w.heap.size)
  (h:∀Z w',A0 w' B Z (ns++ms)→w.grownBy w' v.ownBlock→K (a.put o.dst Z) w') :
  if Region.wanted o (yielded ops a.tmps)=true then Oper.wp Tryz.prog o a w K Q else E:=by
 obtain⟨Z,w',hr,h2,h3⟩:=Q5 J hu o.type I hB;have hw:Region.wanted o (yielded ops a.tmps)=true:=by simp[Region.wanted,aA]
 rw[if_pos hw];unfold Oper.wp execOp;simp only[ho,resolve,invoke,builtin,Sem.run_bind,Sem.run_pure,Result.andThen_ok,List.map_toArray,List.map_cons,List.map_nil,hs,hx,hr];exact h Z w' h2 h3
namespace P28
def allR(d:P22.Def):List Note:=sortR (sortR (namesR d)++sortR (boundsR d)++cyc d)
theorem allR_nil(d:P22.Def):(decide ((allR d).length=0)&&(defE d).1==0)=Oe d:=by
 have h:allR d=[]↔namesR d=[]∧boundsR d=[]∧cyc d=[]:=by
  unfold allR;rw[Ja,List.append_eq_nil_iff,List.append_eq_nil_iff,Ja,Ja,and_assoc]
 unfold Oe;rw[Bool.eq_iff_iff];simp only[Bool.and_eq_true,List.isEmpty_iff,decide_eq_true_eq,List.length_eq_zero_iff,h,and_assoc]
end P28
theorem Sv(d:P22.Def)(hl:d.steps.length≤1000)(I:∀s∈d.steps,s.after.length≤1000):(P28.namesR d).length≤3004002:=by
 unfold P28.namesR;simp only[qH];have h1:=Bb d.steps.isEmpty (-1) 17 [];have h2:=Bb (!P28.right d.name) (-1) 18 d.name;have h3:=Hl (P28.names d) d.steps 0 I;omega
theorem Pq(d:P22.Def)(hl:d.steps.length≤1000):(P28.boundsR d).length≤1004000:=by
 unfold P28.boundsR;have h1:=Gc (P28.undos d) (P28.refs d) d.steps.length d.steps 0;have h2:d.steps.length*(4+d.steps.length)≤1000*1004:=Nat.mul_le_mul hl (by omega);omega
theorem Jr(RS:List (List Nat)):∀(g:Nat) (th:List Bool) (out:List Nat),(P28.orderGo RS g th out).length≤out.length+g
 |0,th,out=>qJ _
 |g+1,th,out=>by
  rw[Dk];split
  ·omega
  ·rename_i i _
   have:=Jr RS g (th.set i true) (out++[i]);rw[qH]at this;simp at this;omega
theorem V7(RS:List (List Nat)):(P28.order RS).length≤RS.length:=by
 have:=Jr RS RS.length (List.replicate RS.length false) [];unfold P28.order;simpa using this
structure Z2 (W V:World) (S:Nat) (acc:List P28.Note) (v:Value) (ol:List Nat) (vo:Value):Prop where
 own:A0 V S v acc
 bel:Below S W V
 size:S≤V.heap.size
 ord:A5 V S vo ol
 ne:∀g,vo.ownBlock=some g→v.ownBlock≠some g
theorem Z2.alloc{W V V':World}{S:Nat}{acc:List P28.Note}{v vo:Value}{ol:List Nat}(h:Z2 W V S acc v ol vo)(hb:Below V.heap.size V V'):Z2 W V' S acc v ol vo:=
 ⟨h.own.keep (fun g hg=>hb.block g (h.own.lt hg).2),h.bel.trans (hb.mono h.size),qK h.size hb.size,h.ord.keep (fun g hg=>hb.block g (h.ord.lt hg).2),h.ne⟩
theorem Z2.grow{W V V':World}{S g:Nat}{acc I:List P28.Note}{v Z vo:Value}{ol:List Nat}(h:Z2 W V S acc v ol vo)(ho:A0 V' S Z I)(hg:V.grownBy V' v.ownBlock)(he:Z.ownBlock=some g)(J:v.ownBlock=some g∨g=V.heap.size):Z2 W V' S I Z ol vo:=by
 refine⟨ho,h.bel.grown hg h.size (fun k hk=>(h.own.lt hk).1),qK h.size hg.size,h.ord.keep (fun k hk=>hg.block k (h.ord.lt hk).2 (fun e=>h.ne k hk e.symm)),fun k hk e=>?_⟩;rw[he]at e;cases e;rcases J with h1|h1
 ·exact h.ne _ hk h1
 ·have:=(h.ord.lt hk).2;omega
structure ROk (d:Af):Prop where
 len:d.steps.length≤1000
 after:∀s∈d.steps,s.after.length≤1000
 name:d.name.length≤1000000
 text:d.text.length≤1000000
 st:∀s∈d.steps,Qbb s
theorem Xi(d:Af)(w:World)(dD:d.In w)(aD:ROk d) :
  Calls Tryz.prog 68 #[d.val] w fun e w'=>∃v,e=.returned v∧A0 w' w.heap.size v (P28.allR d.bare)∧Below w.heap.size w w':=by
 have hl:=aD.len;have aJ:=aD.after
 have cR:=Sv d.bare (by simpa[Af.bare]using hl) (fun s hs=>by
  obtain⟨q,hq,rfl⟩:=List.mem_map.1 (show s∈d.steps.map Ai.bare from hs)
  exact aJ q hq)
 have cM:=Pq d.bare (by simpa[Af.bare]using hl);obtain⟨H,hH⟩:=qeX w.heap.size;rw[hH];obtain⟨W1,bJ,bU,g0,aM⟩:=As w (Be d) H hH;have aG:∀V,Below (H+1) W1 V→d.In V:=fun V hV=>dD.below (by rw[hH];exact bU.trans (hV.mono (by omega)));have bE:∀V,Below (H+1) W1 V→V.heap[H]?=some (Be d):=fun V hV=>(hV.block H (by omega)).trans g0;have aP:=fun(V:World) (hV:Below (H+1) W1 V)=>Nx d V (aG V hV) hl aJ aD.name (fun s hs=>⟨(aD.st s hs).name,(aD.st s hs).action,(aD.st s hs).undo⟩);have aO:=fun(V:World) (hV:Below (H+1) W1 V)=>Ny d V (aG V hV) hl aJ;have Z:=fun(V:World) (hV:Below (H+1) W1 V)=>Iu d V (aG V hV) (by omega) (fun s hs=>qK (aJ s hs) (by omega))
 have cI:∀l∈P28.refs d.bare,l.length≤1000:=Ii _ 1000 _ 0 (fun a ha=>by
  simp only[P28.afters,Af.bare,List.map_map,List.mem_map,Function.comp]at ha;obtain⟨s,hs,rfl⟩:=ha
  exact aJ s hs)
 have aT:∀l∈P28.refs d.bare,∀x∈l,x<d.steps.length:=fun l h x hx=>by
  have:=P28.refs_lt h hx;simpa[Af.bare]using this
 have aY:(P28.refs d.bare).length=d.steps.length:=by rw[P28.refs_len];simp[Af.bare]
 have bG:∀(i:Nat) s,d.steps[i]?=some s→(P28.names d.bare).getD i []=s.name:=fun i s hs=>by
  rw[List.getD_eq_getElem?_getD];simp[P28.names,Af.bare,Ai.bare,hs]
 have bM:P28.cyc d.bare=(P28.roundFrom (P28.order (P28.refs d.bare)) d.steps.length 0).map fun(i:Nat)=>((i:Int),(16:Int),(P28.names d.bare).getD i []):=by
  unfold P28.cyc P28.round;rw[aY]
 unfold P28.allR;rw[bM];obtain⟨RS,cV⟩:=qeX (P28.refs d.bare);obtain⟨ns,dJ⟩:=qeX (P28.names d.bare);obtain⟨L1,cC⟩:∃l,P28.sortR (P28.namesR d.bare)=l:=⟨_,rfl⟩;obtain⟨L2,bZ⟩:∃l,P28.sortR (P28.boundsR d.bare)=l:=⟨_,rfl⟩;have hm1:L1.length≤3004002:=by rw[←cC];exact qK (P28.sortR_len _) cR
 have cN:L2.length≤1004000:=by rw[←bZ];exact qK (P28.sortR_len _) cM
 rw[cC]at aP ⊢;rw[bZ]at aO ⊢;rw[dJ]at bG ⊢;rw[cV]at Z cI aT aY ⊢;obtain⟨aA,aQ⟩:∃o,P28.order RS=o:=⟨_,rfl⟩;rw[aQ];have dY:=aD.st;obtain⟨nm,tx,sa,sc,ss⟩:=d;obtain⟨N,hN⟩:=qeX ss.length;unfold Be at bJ bE g0;unfold Af.val at aP aO Z ⊢;simp only[hN]at bJ bE g0 hl aY Z aJ bG aP aO aT ⊢;obtain⟨aE,aC⟩:∃a,L1++L2=a:=⟨_,rfl⟩;have cQ:aE.length≤4008002:=by rw[←aC,qH];omega
 obtain⟨bQ,aR⟩:∃t,aE++(P28.roundFrom aA N 0).map (fun(i:Nat)=>((i:Int),(16:Int),ns.getD i []))=t:=⟨_,rfl⟩;rw[aC,aR];obtain⟨⟨k0,_⟩,⟨k1,_⟩,⟨k2,_⟩⟩:=Ag g0;have cT:=Ab aR;have cJ:=Ab aC;have cS:=Ab cQ;clear aR aC cQ;have eC:=Ab aG;have cH:=Ab bE;have dX:=Ab aP;have dS:=Ab aO;have cB:=Ab Z;have eD:=Ab bJ;have dQ:=Ab bU;have HN:=Ab hN;have eE:=Ab cI;have bT:=Ab aY;have eB:=Ab aT;have dU:=Ab bG;have bK:=Ab aQ;have dL:=Ab (And.intro hm1 cN);have bI:=Ab aM;clear aG bE aP aO Z bJ bU cV dJ cC bZ hN g0 dD aJ cI aY aT bG bM aQ hm1 cN cR cM aD dY aM;go_enter Tryz.func68,Tryz.ntmps68
 go_upto_region 1 with fail
 try rw[hH]
 rw[Aa eD];go_cut [3] from 6 to 10 (fun s3 wx=>∃v,s3=v∧Hid (T6 W1 wx (H+1) (L1++L2) v))
 case first=>
  go_region_law (first
   |(refine Wo (B:=H+1) (by rfl) _ _ (by rfl) (by rfl) (Aa aB) (by rfl) (Aa dM) (by have:=Aa dL;omega) (Aa bX) ?_;intro v5 w5 dE cW;have bF:=Ab cW;have dT:=Ab dE;clear cW dE)
   |(go_simp;go_at_call 112;refine(Aa dX _ (qU _ _).drew).mono ?_;rintro e w2 ⟨v2,rfl,cY,cZ⟩;have cA:Below (H+1) W1 w2:=(qU _ _).drew.trans (cZ.mono (by have:=Aa bI;simp;omega));have aB:Hid (A0 w2 (H+1) v2 L1):=Ab (cY.base (by have:=Aa bI;simp;omega));obtain⟨⟨j0,_⟩,⟨j1,_⟩,⟨j2,_⟩⟩:=Ag (Aa cH w2 cA);have bV:=Ab cA;clear cY cZ cA)
   | (go_simp;go_at_call 113;refine(Aa dS _ (Aa bV)).mono ?_;rintro e w4 ⟨v4,rfl,cU,bD⟩;have eK:=(Aa bV).size;have aB:=Ab ((Aa aB).keep (fun g hg=>bD.block g ((Aa aB).lt hg).2));have bX:Hid (H+1≤w4.heap.size):=Ab (by have:=bD.size;have:=Aa bI;omega);have dN:=Ab ((Aa bV).trans (bD.mono (by have:=Aa bI;omega)));have dM:=Ab cU;clear cU bD))
  all_goals (
   go_wp2
   go_meet
   exact⟨_,rfl,Ab ⟨Aa dT,(Aa dN).grown (Aa bF) (Aa bX) (fun g hg=>((Aa aB).lt hg).1),qK (Aa bX) (Aa bF).size⟩⟩)
 case rest=>
 obtain⟨v,rfl,HC⟩:=hcut;obtain⟨X,rfl⟩:∃X,X=wc:=⟨_,rfl⟩;have hc:=Aa HC;rw[Aa cJ]at hc;obtain⟨va,vc,rfl⟩:=hc.own.form;obtain⟨NL,aN⟩:=qeX aE.length;rw[aN]at hc ⊢;obtain⟨⟨k0,_⟩,⟨k1,_⟩,⟨k2,_⟩⟩:=Ag (Aa cH X hc.bel)
 have cX:aA.length≤1000000:=by
  rw[←Aa bK];have h1:=V7 RS;rw[Aa bT]at h1;omega
 have HC:=Ab hc;have dZ:=Ab cX;clear hc cX aN
 go_upto_region 3 with(first
  |(go_at_call 70;refine(Aa cB _ (Aa HC).bel).mono ?_;rintro e w5 ⟨vr,vs,rfl,aI,aH⟩;obtain⟨ra,rc,hv⟩:=aI.form;rw[Aa bT]at hv;subst hv;have aW:=Rp _ N rc ra vs RS w5 aI (Aa bT) (Aa eB) (by omega) (fun l hl=>qK (Aa eE l hl) (by omega));rw[Aa bK]at aW;have aU:=Ab aW;have dF:=Ab aH;clear aI aH aW)
  | (go_at_call 114;refine(Aa aU).mono ?_;rintro e w6 ⟨vo,rfl,I,dC⟩))
 have cK:Hid (Z2 W1 w6 (H+1) aE (.slice va NL vc) aA vo):=Ab (by
  have hc:=Aa HC;have aH:=Aa dF;have hsz:=hc.size;have bY:=aH.size;have bC:Below X.heap.size X w6:=aH.trans (dC.mono bY)
  exact⟨hc.own.keep (fun g hg=>bC.block g (hc.own.lt hg).2),hc.bel.trans (bC.mono hsz),qK hsz bC.size,I.base (by omega),fun g hg e=>by have h1:=(I.lt hg).1;have h2:=(hc.own.lt e).2;omega⟩)
 obtain⟨oa,oc,rfl,_⟩:=I.slice;obtain⟨OL,cF⟩:=qeX aA.length;rw[cF]at cK ⊢;have bO:=Ab cF;clear I dC cF k0 k1 k2 HC dF aU;go_wp2
 go_loopg [3,5] N (fun g s3 s5 wx=>∃(i:Nat) (v:Value) (acc:List P28.Note),i+g=N∧s5=.int .i64 i∧s3=v∧Hid (acc++(P28.roundFrom aA g i).map (fun(i:Nat)=>((i:Int),(16:Int),ns.getD i []))=bQ)∧Hid (acc.length≤4008002+i)∧Hid (Z2 W1 wx (H+1) acc v aA (.slice oa OL oc)))
 case atStart=>exact⟨0,_,aE,by omega,by go_num,rfl,cT,cS,cK⟩
 case round=>
  obtain⟨i,v,acc,eG,rfl,rfl,HT,HL,HA⟩:=hrel;have aZ:=(Aa HA).bel;obtain⟨⟨k0,_⟩,⟨k1,_⟩,⟨k2,_⟩⟩:=Ag (Aa cH wr aZ);obtain⟨eJ,eH,hv⟩:=(Aa HA).own.form;obtain⟨cL,aN⟩:∃NL,acc.length=NL:=⟨_,rfl⟩;rw[aN]at hv;subst hv;have dG:=Ab aN;clear aN cK;cases gk with
  |zero=>
   have e1:(N:Int)≤(i:Int):=by omega
   have j1:decide ((i:Int)<(N:Int))=false:=by simp;omega
   have ht:acc=bQ:=by
    have:=Aa HT;rw[show P28.roundFrom aA 0 i=[] from rfl,List.map_nil,List.append_nil]at this;exact this
   have aK:=Iw acc _ wr (H+1) (Aa HA).own (by have:=Aa HL;omega);rw[ht]at aK;have cG:=Ab aK;clear ht aK;go_wp2_with (go_at_call 115;refine(Aa cG).mono ?_;rintro e w7 ⟨v7,rfl,dR,dK⟩)
   go_ret;have hz:=(Aa HA).size;exact⟨_,rfl,dR.base (by omega),((Aa dQ).trans (aZ.mono (by omega))).trans (dK.mono (by omega))⟩
  |succ g'=>
   have aT:(i:Int)<(N:Int):=by omega
   have eL:IntKind.i64.wrap ((i:Int)+1)=(i:Int)+1:=qG _ (by omega);obtain⟨a2,c2,dI,_,_,aS⟩:=(Aa HA).ord.slice;rw[Aa bO]at dI;cases dI;have J:=J8 oa oc aA i wr aS (Aa dZ);rw[Aa bO]at J;have ht:=Aa HT;rw[Cw]at ht;by_cases hm:i∈aA
   ·rw[decide_eq_true hm]at J;rw[if_pos hm,zR]at ht;have aX:=Ab J;have aB:=Ab ht;clear hm J ht aS aZ;go_wp2_with (go_at_call 31;refine(Aa aX).mono ?_;rintro e w7 ⟨rfl,hw⟩;obtain rfl:=hw.symm)
    go_roundg g'
    case measure=>omega
    case rel=>exact⟨i+1,_,acc,by omega,by go_num,rfl,aB,Ab (by have:=Aa HL;omega),HA⟩
   ·rw[decide_eq_false hm]at J;rw[if_neg hm]at ht;obtain⟨s1,aM⟩:=Ap (Aa HN) (show i<N by omega);have cD:=Aa dU i s1 aM;obtain⟨⟨b1,o1,cP,cO⟩,_⟩:=(Aa eC wr aZ).steps i s1 aM;simp only at cP;subst cP;have c0:=(Ar cO).1.1;obtain⟨n1,dB⟩:∃n,s1.name=n:=⟨_,rfl⟩;rw[dB]at c0 cD;have aB:Hid ((acc++[((i:Int),(16:Int),n1)])++(P28.roundFrom aA g' (i+1)).map (fun(i:Nat)=>((i:Int),(16:Int),ns.getD i []))=bQ):=Ab (by rw[←ht,List.map_append,zH,←cD];rfl);obtain⟨W5,dA,aH,g5,bY⟩:=As wr (.cells #[.int .i64 i,.int .i64 16,.string ⟨n1.toArray⟩] 183) wr.heap.size rfl;have bW:=Ab ((Aa HA).alloc aH);have dW:=Ab dA;have bF:=Ab g5;have aX:=Ab J;have dP:=(Aa bW).size;have eI:cL≤4008002+i:=by rw[←Aa dG];exact Aa HL
    clear hm J ht aS aZ aM cO dB cD dA aH g5 bY;go_wp2_with (first|(go_at_call 31;refine(Aa aX).mono ?_;rintro e w7 ⟨rfl,hw⟩;obtain rfl:=hw.symm)|(rw[Aa dW];refine An (p:=(i,16,n1)) (by rfl) _ _ (by rfl) (by rfl) (Aa bW).own wr.heap.size 1 (by rfl) (Aa bF) cL (Aa dG) (by omega) dP ?_;intro g6 eF w6 I aL bL dH;have eA:=Ab ((Aa bW).grow I aL rfl bL);clear I aL bL dH))
    go_roundg g'
    case measure=>omega
    case rel=>exact⟨i+1,_,acc++[((i:Int),(16:Int),n1)],by omega,by go_num,rfl,aB,Ab (by have:=Aa HL;rw[qH];simp;omega),eA⟩
attribute [local go_sem] Fl
theorem Rn(d:Af)(w:World)(aL:d.In w)(aA:ROk d) :
  Calls Tryz.prog 14 #[d.val] w fun e w'=>e=.returned (.bool (P28.clean d.bare))∧Below w.heap.size w w':=by
 rw[←P28.clean_eq,←P28.allR_nil];obtain⟨H,hH⟩:=qeX w.heap.size;rw[hH];obtain⟨W1,aH,aJ,g0,aU⟩:=As w (Be d) H hH;have aD:∀V,Below (H+1) W1 V→d.In V:=fun V hV=>aL.below (by rw[hH];exact aJ.trans (hV.mono (by omega)));have aG:∀V,Below (H+1) W1 V→V.heap[H]?=some (Be d):=fun V hV=>(hV.block H (by omega)).trans g0;have I:=Xi d W1 (aD W1 (qU _ _)) aA;have aE:=fun(V:World) (hV:Below (H+1) W1 V)=>Nw d V (aD V hV) aA.name aA.text (by have:=aA.len;omega) aA.st;obtain⟨AL,aR⟩:∃l,P28.allR d.bare=l:=⟨_,rfl⟩;obtain⟨DE,aQ⟩:∃l,P28.defE d.bare=l:=⟨_,rfl⟩;rw[aR]at I ⊢;rw[aQ]at aE ⊢;rw[aU]at I;obtain⟨nm,tx,sa,sc,ss⟩:=d;obtain⟨N,hN⟩:=qeX ss.length;unfold Be at aH aG g0;unfold Af.val at I aE ⊢;simp only[hN]at aH aG g0 I aE ⊢;obtain⟨⟨k0,_⟩,⟨k1,_⟩,⟨k2,_⟩⟩:=Ag g0;have aS:=Ab aG;have aI:=Ab I;have aM:=Ab aE;have aT:=Ab aH;have aO:=Ab aJ;clear aD aG I aE aH aJ aR aQ hN g0 aL aA;obtain⟨NA,aK⟩:∃n,AL.length=n:=⟨_,rfl⟩;rw[aK];have aN:=Ab aK;clear aK;go_enter Tryz.func14,Tryz.ntmps14
 go_upto_region 1 with fail
 try rw[hH]
 rw[Aa aT];by_cases h0:NA=0
 ·have hz:((NA:Int)==0)=true:=by simp;omega
  have HZ:=Ab h0;clear h0
  go_wp2_with (first
   |(go_at_call 68;refine(Aa aI).mono ?_;rintro e w2 ⟨v2,rfl,aB,J⟩;obtain⟨va,vc,hv⟩:=aB.form;rw[Aa aN]at hv;subst hv;obtain⟨⟨j0,_⟩,⟨j1,_⟩,⟨j2,_⟩⟩:=Ag (Aa aS w2 J);have Z:=Ab J;clear aB J)
   | (go_at_call 69;refine(Aa aM _ (Aa Z)).mono ?_;rintro e w3 ⟨rfl,aC⟩;have aP:=Ab aC;clear aC))
  go_ret;have aW:=(Aa Z).size;exact⟨Ao (by rw[Aa HZ];simp),((Aa aO).trans ((Aa Z).mono (by omega))).trans ((Aa aP).mono (by omega))⟩
 ·have hz:((NA:Int)==0)=false:=by simp;omega
  go_wp2_with (first
   |(go_at_call 68;refine(Aa aI).mono ?_;rintro e w2 ⟨v2,rfl,aB,J⟩;obtain⟨va,vc,hv⟩:=aB.form;rw[Aa aN]at hv;subst hv;obtain⟨⟨j0,_⟩,⟨j1,_⟩,⟨j2,_⟩⟩:=Ag (Aa aS w2 J);have Z:=Ab J;clear aB J)
   | (go_at_call 69;refine(Aa aM _ (Aa Z)).mono ?_;rintro e w3 ⟨rfl,aC⟩;have aP:=Ab aC;clear aC))
  go_ret;exact⟨Ao (by simp[h0]),(Aa aO).trans ((Aa Z).mono (by omega))⟩
end Go.Proofs.YtefokfbgpfcbkaaGreat
