import Derived.Test.YtefokfbgpfcbkaaGreatRC1Z
set_option maxRecDepth 100000
set_option maxHeartbeats 8000000
set_option linter.unusedVariables false
set_option linter.unusedSimpArgs false
namespace Go.Proofs.YtefokfbgpfcbkaaGreat
open Go.RowKit
structure Ha (W V:World) (S K:Nat) (ob:Obj) (acc:List P28.Note) (v:Value):Prop where
 own:A0 V S v acc
 bel:Below S W V
 box:V.heap[K]?=some ob
 ne:v.ownBlock≠some K
 low:S≤K
theorem Ha.size{W V:World}{S K:Nat}{ob:Obj}{acc:List P28.Note}{v:Value}(h:Ha W V S K ob acc v):S≤V.heap.size:=by
 have:=(qA.1 h.box).1;have:=h.low;omega
theorem Ha.alloc{W V V':World}{S K:Nat}{ob:Obj}{acc:List P28.Note}{v:Value}(h:Ha W V S K ob acc v)(hb:Below V.heap.size V V'):Ha W V' S K ob acc v:=
 ⟨h.own.keep (fun g hg=>hb.block g (h.own.lt hg).2),h.bel.trans (hb.mono h.size),(hb.block K (qA.1 h.box).1).trans h.box,h.ne,h.low⟩
theorem Ha.grow{W V V':World}{S K g:Nat}{ob:Obj}{acc I:List P28.Note}{v Z:Value}(h:Ha W V S K ob acc v)(ho:A0 V' S Z I)(hg:V.grownBy V' v.ownBlock)(he:Z.ownBlock=some g)(J:v.ownBlock=some g∨g=V.heap.size):Ha W V' S K ob I Z:=by
 have hK:=(qA.1 h.box).1;refine⟨ho,h.bel.grown hg h.size (fun k hk=>(h.own.lt hk).1),(hg.block K hK (fun e=>h.ne e.symm)).trans h.box,fun e=>?_,h.low⟩;rw[he]at e;cases e;rcases J with h1|h1
 ·exact h.ne h1
 ·omega
theorem Gb(I:List (List UInt8))(R:List (List Nat))(n:Nat):∀(a b:List P22.Step) (i:Nat),P28.stepsBR I R n i (a++b)=P28.stepsBR I R n i a++P28.stepsBR I R n (i+a.length) b
 | [],b,i=>by simp[P28.stepsBR]
 |s::a,b,i=>by
  have J:P28.stepsBR I R n i ((s::a)++b)=P28.stepB i s++((if s.undo.isEmpty then P28.undoR I R i s.name n 0 else [])++P28.stepsBR I R n (i+1) (a++b)):=rfl;have Z:P28.stepsBR I R n i (s::a)=P28.stepB i s++((if s.undo.isEmpty then P28.undoR I R i s.name n 0 else [])++P28.stepsBR I R n (i+1) a):=rfl;rw[J,Z,Gb I R n a b (i+1),qE,show i+1+a.length=i+(a.length+1) by omega];simp only[zH]
theorem Lu(I:List (List UInt8))(R:List (List Nat))(i:Nat)(nm:List UInt8):∀n k:Nat,P28.undoR I R i nm (n+1) k=P28.undoR I R i nm n k++P28.nt (decide (i∈R.getD (k+n) []) && !(I.getD (k+n) []).isEmpty) i 19 nm
 |0,k=>by simp[P28.undoR]
 |n+1,k=>by
  have J:P28.undoR I R i nm (n+1+1) k=P28.nt (decide (i∈R.getD k []) && !(I.getD k []).isEmpty) i 19 nm++P28.undoR I R i nm (n+1) (k+1):=rfl;have Z:P28.undoR I R i nm (n+1) k=P28.nt (decide (i∈R.getD k []) && !(I.getD k []).isEmpty) i 19 nm++P28.undoR I R i nm n (k+1):=rfl;rw[J,Z,Lu I R i nm n (k+1),zH,show k+1+n=k+(n+1) by omega]
theorem Nl(I:List (List UInt8))(R:List (List Nat))(i:Nat)(nm:List UInt8):∀n k:Nat,(P28.undoR I R i nm n k).length≤n
 |0,k=>by simp[P28.undoR]
 |n+1,k=>by
  unfold P28.undoR;rw[qH];have:=Bb (decide (i∈R.getD k []) && !(I.getD k []).isEmpty) i 19 nm;have:=Nl I R i nm n (k+1);omega
theorem Gc(I:List (List UInt8))(R:List (List Nat))(n:Nat):∀(ss:List P22.Step) (i:Nat),(P28.stepsBR I R n i ss).length≤ss.length*(4+n)
 | [],i=>by simp[P28.stepsBR]
 |s::ss,i=>by
  unfold P28.stepsBR;rw[qH,qH,qE,Nat.add_mul,Nat.one_mul];have h1:=Gc I R n ss (i+1)
  have h2:(P28.stepB i s).length≤4:=by
   unfold P28.stepB;simp only[qH];have:=Bb (P28.out1 (P28.meant s.tries.most 1) 1 10) i 1 [109,111,115,116];have:=Bb (P28.out1 s.tries.first 0 1000) i 1 [102,105,114,115,116];have:=Bb (P28.out1 (P28.meant s.tries.factor 1) 1 10) i 1 [102,97,99,116,111,114];have:=Bb (P28.out1 (P28.meant s.limit 100) 1 10000) i 1 [108,105,109,105,116];omega
  have h3:(if s.undo.isEmpty then P28.undoR I R i s.name n 0 else []).length≤n:=by
   split
   ·exact Nl I R i s.name n 0
   ·simp
  omega
theorem Ny(d:Af)(w:World)(eI:d.In w)(hl:d.steps.length≤1000)(cR:∀s∈d.steps,s.after.length≤1000) :
  Calls Tryz.prog 113 #[d.val] w fun e w'=>∃v,e=.returned v∧A0 w' w.heap.size v (P28.sortR (P28.boundsR d.bare))∧Below w.heap.size w w':=by
 obtain⟨H,hH⟩:=qeX w.heap.size;rw[hH];obtain⟨W1,cQ,dM,g0,bT⟩:=As w (Be d) H hH;have cL:∀V,Below (H+1) W1 V→d.In V:=fun V hV=>eI.below (by rw[hH];exact dM.trans (hV.mono (by omega)));have cS:∀V,Below (H+1) W1 V→V.heap[H]?=some (Be d):=fun V hV=>(hV.block H (by omega)).trans g0;have aL:=Iu d W1 (cL W1 (qU _ _)) (by omega) (fun s hs=>qK (cR s hs) (by omega))
 have dJ:∀l∈P28.refs d.bare,l.length≤1000:=Ii _ 1000 _ 0 (fun a ha=>by
  simp only[P28.afters,Af.bare,List.map_map,List.mem_map,Function.comp]at ha;obtain⟨s,hs,rfl⟩:=ha
  exact cR s hs)
 have cT:(P28.refs d.bare).length=d.steps.length:=by rw[P28.refs_len];simp[Af.bare]
 have fC:P28.boundsR d.bare=P28.stepsBR (d.steps.map Ai.undo) (P28.refs d.bare) d.steps.length 0 (d.steps.map Ai.bare):=by
  unfold P28.boundsR;simp[P28.undos,Af.bare,Ai.bare,Function.comp_def]
 rw[fC];obtain⟨RS,dD⟩:=qeX (P28.refs d.bare);rw[dD,bT]at aL;rw[dD]at dJ cT ⊢;obtain⟨us,dN⟩:=qeX (d.steps.map Ai.undo);rw[dN];have bD:∀(k:Nat) s,d.steps[k]?=some s→us.getD k []=s.undo:=fun k s hs=>by rw[←dN,List.getD_eq_getElem?_getD,zJ,hs];rfl
 obtain⟨nm,tx,sa,sc,ss⟩:=d;obtain⟨N,hN⟩:=qeX ss.length;unfold Be at cQ cS g0;unfold Af.val at aL ⊢;simp only[hN]at cQ cS g0 hl cT aL cR bD ⊢;obtain⟨⟨k0,_⟩,⟨k1,_⟩,⟨k2,_⟩⟩:=Ag g0
 have cW:∀i,i≤N→(P28.stepsBR us RS N 0 ((ss.map Ai.bare).take i)).length≤1004000:=fun i hi=>by
  have h1:=Gc us RS N ((ss.map Ai.bare).take i) 0;have h2:((ss.map Ai.bare).take i).length*(4+N)≤1000*1004:=Nat.mul_le_mul (by rw[qY];omega) (by omega);omega
 have fF:=Ab cL;have fD:=Ab cS;have dR:=Ab aL;have fN:=Ab cQ;have fI:=Ab dM;have HN:=Ab hN;have fO:=Ab dJ;have eO:=Ab cT;have fS:=Ab bD;have eA:=Ab cW;clear cL cS aL cQ dM dD dN hN g0 eI cR dJ cT fC bD cW;go_enter Tryz.func113,Tryz.ntmps113
 go_upto_region 1 with fail
 try rw[hH]
 rw[Aa fN];go_upto_region 3 with(go_at_call 70;refine(Aa dR).mono ?_;rintro e w2 ⟨vr,vs,rfl,aR,dE⟩)
 obtain⟨S,hS⟩:=qeX w2.heap.size;have fM:H+1≤S:=by have:=dE.size;omega
 have eL:∀V,Below S w2 V→Below (H+1) W1 V:=fun V hV=>dE.trans (hV.mono fM);obtain⟨ra,rc,rfl⟩:=aR.form;rw[Aa eO]at aR ⊢;have cY:∀V,Below S w2 V→Bn V (H+1) (.slice ra N rc) vs RS:=fun V hV=>aR.keep (fun g hg=>hV.block g (by rw[←hS];exact hg));have HS:=Ab hS;have eK:=Ab eL;have dX:=Ab cY;clear dE hS eL cY aR k0 k1 k2;go_wp2
 go_loopg [3,5] N (fun g s3 s5 wx=>∃(i:Nat) (v:Value),i+g=N∧s5=.int .i64 i∧s3=v∧Hid (A0 wx S v (P28.stepsBR us RS N 0 ((ss.map Ai.bare).take i)))∧Hid (Below S w2 wx))
 case atStart=>exact⟨0,_,by omega,by go_num,rfl,Ab (A0.nil _ _),Ab (qU _ _)⟩
 case round=>
  obtain⟨i,v,fW,rfl,rfl,HO,HB⟩:=hrel;have aM:=Aa eK wr (Aa HB);obtain⟨⟨k0,_⟩,⟨k1,_⟩,⟨k2,_⟩⟩:=Ag (Aa fD wr aM);obtain⟨acc,aY⟩:=qeX (P28.stepsBR us RS N 0 ((ss.map Ai.bare).take i));have cO:=Aa eA i (by omega);have ho:=Aa HO;rw[aY]at cO ho;obtain⟨va,vc,rfl⟩:=ho.form;cases gk with
  |zero=>
   have e1:(N:Int)≤(i:Int):=by omega
   have j1:decide ((i:Int)<(N:Int))=false:=by simp;omega
   have hfin:P28.stepsBR us RS N 0 (ss.map Ai.bare)=acc:=by rw[←aY,List.take_of_length_le (by rw[qX,Aa HN];omega)]
   have bZ:=Iw acc _ wr S ho (by omega);have eZ:=Ab hfin;have dT:=Ab bZ;clear bZ hfin ho aY cO;go_wp2_with (go_at_call 115;refine(Aa dT).mono ?_;rintro e w3 ⟨v3,rfl,fJ,bE⟩)
   go_ret;have hz:=(Aa HB).size;rw[Aa HS]at hz;exact⟨_,rfl,by rw[Aa eZ];exact fJ.base (by omega),((Aa fI).trans (aM.mono (by omega))).trans (bE.mono (by omega))⟩
  |succ g'=>
   have gG:(i:Int)<(N:Int):=by omega
   have gA:IntKind.i64.wrap ((i:Int)+1)=(i:Int)+1:=qG _ (by omega);obtain⟨s1,bT⟩:=Ap (Aa HN) (show i<N by omega);obtain⟨⟨b1,o1,eC,eT⟩,_⟩:=(Aa fF wr aM).steps i s1 bT;simp only at eC;subst eC
   have aJ:P28.stepsBR us RS N 0 ((ss.map Ai.bare).take (i+1))=acc++(P28.stepB i s1.bare++(if s1.undo.isEmpty then P28.undoR us RS i s1.name N 0 else [])):=by
    rw[List.take_add_one,zJ,bT,Option.map_some,Option.toList_some,Gb,aY,qY,qX,Aa HN,Nat.min_eq_left (by omega),Nat.zero_add];simp[P28.stepsBR,Ai.bare]
   have aB:=fun V=>It s1 V;obtain⟨n1,a1,u1,bC,aX,eR,q1,aC,dS,dB,⟨k1,t1,aW,aU,dW,aT,aZ,eS,l1⟩⟩:=s1;obtain⟨⟨c0,c1,c2,c3⟩,⟨c4,c5,c6,c7⟩,⟨c8,c9,c10,c11,c12⟩⟩:=Ar eT;simp only[Ai.aV,Nd.kind,Nd.text,Nd.kV,Nd.dV,Nd.line,Nd.ka,Nd.kc,Nd.keys,Nd.da,Nd.dc,Nd.kids]at c0 c1 c2 c3 c4 c5 c6 c7 c8 c9 c10 c11 c12;unfold Ai.real at aB;simp only[Ai.val_eqn]at aB;obtain⟨N1,fE⟩:=qeX eR.length;obtain⟨N2,eW⟩:=qeX dW.length;obtain⟨N3,eU⟩:=qeX eS.length;rw[fE]at c3 aB;rw[eW]at c10 aB;rw[eU]at c11 aB;have eF:P28.stepB i (Ai.bare ⟨n1,a1,u1,bC,aX,eR,q1,aC,dS,dB,⟨k1,t1,aW,aU,dW,aT,aZ,eS,l1⟩⟩)=P28.nt (P28.out1 (P28.meant q1 1) 1 10) i 1 [109,111,115,116]++(P28.nt (P28.out1 aC 0 1000) i 1 [102,105,114,115,116]++(P28.nt (P28.out1 (P28.meant dS 1) 1 10) i 1 [102,97,99,116,111,114]++P28.nt (P28.out1 (P28.meant dB 100) 1 10000) i 1 [108,105,109,105,116])):=rfl;rw[eF]at aJ;simp only at aJ;obtain⟨mq,eD⟩:∃m,P28.meant q1 1=m:=⟨_,rfl⟩;obtain⟨mf,fH⟩:∃m,P28.meant dS 1=m:=⟨_,rfl⟩;obtain⟨ml,fB⟩:∃m,P28.meant dB 100=m:=⟨_,rfl⟩;rw[eD]at aB aJ;rw[fH]at aB aJ;rw[fB]at aB aJ;have bQ:=Ab aB;have dY:=Ab aJ;have eY:=Ab ho;obtain⟨NL,Z⟩:=qeX acc.length;rw[Z];have dI:=Ab Z;clear aB aJ eF eT aY ho fE eW eU eD fH fB bT Z HO aM;go_upto_region 7 with(go_at_call 154;refine(Aa bQ _).mono ?_;rintro e w3 ⟨rfl,bE⟩)
   obtain⟨K,hK⟩:=qeX w3.heap.size;obtain⟨X0,fG,eQ,g4,fQ⟩:=As w3 (.cells #[.string ⟨n1.toArray⟩,.string ⟨a1.toArray⟩,.string ⟨u1.toArray⟩,.slice bC N1 aX,.int .i64 mq,.int .i64 aC,.int .i64 mf,.int .i64 ml,.int .u8 k1,.string ⟨t1.toArray⟩,.slice aW N2 aU,.slice aT N3 aZ,.int .i64 l1] 63) K hK;try rw[hK]
   rw[fG];have dP:=(Aa HB).size;rw[Aa HS]at dP;have fR:S≤K:=by have:=bE.size;omega
   have bX:Below wr.heap.size wr X0:=bE.trans (eQ.mono (by have:=bE.size;omega))
   have cN:Hid (Ha w2 X0 S K (.cells #[.string ⟨n1.toArray⟩,.string ⟨a1.toArray⟩,.string ⟨u1.toArray⟩,.slice bC N1 aX,.int .i64 mq,.int .i64 aC,.int .i64 mf,.int .i64 ml,.int .u8 k1,.string ⟨t1.toArray⟩,.slice aW N2 aU,.slice aT N3 aZ,.int .i64 l1] 63) acc (.slice va NL vc)):=Ab (by
    have ho:=Aa eY;rw[Aa dI]at ho
    exact⟨ho.keep (fun g hg=>bX.block g (ho.lt hg).2),(Aa HB).trans (bX.mono dP),g4,fun e=>by have:=(ho.lt e).2;have:=bE.size;omega,fR⟩)
   have dZ:Hid (acc.length≤1004000):=Ab cO;clear fG eQ g4 bE bX eY HB c0 c1 c2 c3 c4 c5 c6 c7 c8 c9 c10 c11 c12 k0 k2 bQ fQ dP cO;have y4:=A9 (o:=4) (Aa cN).box rfl;obtain⟨q0,eH⟩:∃q,P28.out1 mq 1 10=q:=⟨_,rfl⟩;have bO:=Ab eH;clear eH;go_upto_region 7 with fail
   go_cut [32] from 10 to 114 (fun c wx=>c=.bool q0∧X0=wx)
   case first=>
    rcases(by omega:mq<1∨(1≤mq∧10<mq)∨(1≤mq∧mq≤10))with h1|⟨h1,h2⟩|⟨h1,h2⟩
    ·have e:q0=true:=by rw[←Aa bO];simp[P28.out1];omega
     subst e;go_wp2
     go_meet
     exact⟨rfl,rfl⟩
    ·have e:q0=true:=by rw[←Aa bO];simp[P28.out1];omega
     have h3:¬mq<1:=by omega
     have j3:decide (mq<1)=false:=by simp;omega
     subst e;go_wp2
     go_meet
     exact⟨rfl,rfl⟩
    ·have e:q0=false:=by rw[←Aa bO];simp[P28.out1];omega
     have h3:¬mq<1:=by omega
     have j3:decide (mq<1)=false:=by simp;omega
     have j4:decide (10<mq)=false:=by simp;omega
     subst e;go_wp2
     go_meet
     exact⟨rfl,rfl⟩
   case rest=>
   obtain⟨rfl,rfl⟩:=hcut;clear y4;obtain⟨bF,bL⟩:∃a,acc++P28.nt q0 i 1 [109,111,115,116]=a:=⟨_,rfl⟩;have cJ:=Ab bL;clear bL
   go_upto_if 32 with fail
   go_cut [3] from 10 to 114 (fun s3 wx=>∃(v:Value),s3=v∧Hid (Ha w2 wx S K (.cells #[.string ⟨n1.toArray⟩,.string ⟨a1.toArray⟩,.string ⟨u1.toArray⟩,.slice bC N1 aX,.int .i64 mq,.int .i64 aC,.int .i64 mf,.int .i64 ml,.int .u8 k1,.string ⟨t1.toArray⟩,.slice aW N2 aU,.slice aT N3 aZ,.int .i64 l1] 63) bF v))
   case first=>
    cases q0 with
    |false=>
     go_wp2
     go_meet
     exact⟨_,rfl,Ab (by rw[←Aa cJ];simpa[P28.nt]using Aa cN)⟩
    |true=>
     obtain⟨W5,aE,aH,g5,aP⟩:=As X0 (.cells #[.int .i64 i,.int .i64 1,.string ⟨#[109,111,115,116]⟩] 183) X0.heap.size rfl;have aD:=Ab ((Aa cN).alloc aH);have aQ:=Ab aE;have aN:=Ab g5;have aO:=(Aa aD).size;have cU:NL≤1004010:=by rw[←Aa dI];exact qK (Aa dZ) (by omega)
     clear aE aH g5 aP;go_wp2_with (rw[Aa aQ];refine An (p:=(i,1,[109,111,115,116])) (by rfl) _ _ (by rfl) (by rfl) (Aa aD).own X0.heap.size 1 (by rfl) (Aa aN) NL (Aa dI) (by omega) aO ?_;intro g6 bI w6 J I aA aG;have aS:=Ab ((Aa aD).grow J I rfl aA);clear J I aA aG)
     go_meet
     exact⟨_,rfl,Ab (by rw[←Aa cJ];exact Aa aS)⟩
   case rest=>
   obtain⟨vv,rfl,cH⟩:=hcut;obtain⟨X1,rfl⟩:∃X,X=wc:=⟨_,rfl⟩;have dH:Hid (bF.length≤1004001):=Ab (by have:=Aa dZ;have:=Bb q0 i 1 [109,111,115,116];rw[←Aa cJ,qH];omega);obtain⟨gJ,gD,hv⟩:=(Aa cH).own.form;obtain⟨eM,Z⟩:∃NL,bF.length=NL:=⟨_,rfl⟩;rw[Z]at hv;subst hv;have cD:=Ab Z;clear Z cN ;have y5:=A9 (o:=5) (Aa cH).box rfl;obtain⟨q1,eB⟩:∃q,P28.out1 aC 0 1000=q:=⟨_,rfl⟩;have cM:=Ab eB;clear eB;go_upto_region 9 with fail
   go_cut [47] from 10 to 114 (fun c wx=>c=.bool q1∧X1=wx)
   case first=>
    rcases(by omega:aC<0∨(0≤aC∧1000<aC)∨(0≤aC∧aC≤1000))with h1|⟨h1,h2⟩|⟨h1,h2⟩
    ·have e:q1=true:=by rw[←Aa cM];simp[P28.out1];omega
     subst e;go_wp2
     go_meet
     exact⟨rfl,rfl⟩
    ·have e:q1=true:=by rw[←Aa cM];simp[P28.out1];omega
     have h3:¬aC<0:=by omega
     have j3:decide (aC<0)=false:=by simp;omega
     subst e;go_wp2
     go_meet
     exact⟨rfl,rfl⟩
    ·have e:q1=false:=by rw[←Aa cM];simp[P28.out1];omega
     have h3:¬aC<0:=by omega
     have j3:decide (aC<0)=false:=by simp;omega
     have j4:decide (1000<aC)=false:=by simp;omega
     subst e;go_wp2
     go_meet
     exact⟨rfl,rfl⟩
   case rest=>
   obtain⟨rfl,rfl⟩:=hcut;clear y5;obtain⟨bG,cF⟩:∃a,bF++P28.nt q1 i 1 [102,105,114,115,116]=a:=⟨_,rfl⟩;have bM:=Ab cF;clear cF
   go_upto_if 47 with fail
   go_cut [3] from 10 to 114 (fun s3 wx=>∃(v:Value),s3=v∧Hid (Ha w2 wx S K (.cells #[.string ⟨n1.toArray⟩,.string ⟨a1.toArray⟩,.string ⟨u1.toArray⟩,.slice bC N1 aX,.int .i64 mq,.int .i64 aC,.int .i64 mf,.int .i64 ml,.int .u8 k1,.string ⟨t1.toArray⟩,.slice aW N2 aU,.slice aT N3 aZ,.int .i64 l1] 63) bG v))
   case first=>
    cases q1 with
    |false=>
     go_wp2
     go_meet
     exact⟨_,rfl,Ab (by rw[←Aa bM];simpa[P28.nt]using Aa cH)⟩
    |true=>
     obtain⟨W5,aE,aH,g5,aP⟩:=As X1 (.cells #[.int .i64 i,.int .i64 1,.string ⟨#[102,105,114,115,116]⟩] 183) X1.heap.size rfl;have aD:=Ab ((Aa cH).alloc aH);have aQ:=Ab aE;have aN:=Ab g5;have aO:=(Aa aD).size;have cU:eM≤1004010:=by rw[←Aa cD];exact qK (Aa dH) (by omega)
     clear aE aH g5 aP;go_wp2_with (rw[Aa aQ];refine An (p:=(i,1,[102,105,114,115,116])) (by rfl) _ _ (by rfl) (by rfl) (Aa aD).own X1.heap.size 1 (by rfl) (Aa aN) eM (Aa cD) (by omega) aO ?_;intro g6 bI w6 J I aA aG;have aS:=Ab ((Aa aD).grow J I rfl aA);clear J I aA aG)
     go_meet
     exact⟨_,rfl,Ab (by rw[←Aa bM];exact Aa aS)⟩
   case rest=>
   obtain⟨vv,rfl,cG⟩:=hcut;obtain⟨X2,rfl⟩:∃X,X=wc:=⟨_,rfl⟩;have dC:Hid (bG.length≤1004002):=Ab (by have:=Aa dH;have:=Bb q1 i 1 [102,105,114,115,116];rw[←Aa bM,qH];omega);obtain⟨gH,gI,hv⟩:=(Aa cG).own.form;obtain⟨eE,Z⟩:∃NL,bG.length=NL:=⟨_,rfl⟩;rw[Z]at hv;subst hv;have bU:=Ab Z;clear Z cH dH cD;have y6:=A9 (o:=6) (Aa cG).box rfl;obtain⟨q2,eJ⟩:∃q,P28.out1 mf 1 10=q:=⟨_,rfl⟩;have cA:=Ab eJ;clear eJ;go_upto_region 11 with fail
   go_cut [62] from 10 to 114 (fun c wx=>c=.bool q2∧X2=wx)
   case first=>
    rcases(by omega:mf<1∨(1≤mf∧10<mf)∨(1≤mf∧mf≤10))with h1|⟨h1,h2⟩|⟨h1,h2⟩
    ·have e:q2=true:=by rw[←Aa cA];simp[P28.out1];omega
     subst e;go_wp2
     go_meet
     exact⟨rfl,rfl⟩
    ·have e:q2=true:=by rw[←Aa cA];simp[P28.out1];omega
     have h3:¬mf<1:=by omega
     have j3:decide (mf<1)=false:=by simp;omega
     subst e;go_wp2
     go_meet
     exact⟨rfl,rfl⟩
    ·have e:q2=false:=by rw[←Aa cA];simp[P28.out1];omega
     have h3:¬mf<1:=by omega
     have j3:decide (mf<1)=false:=by simp;omega
     have j4:decide (10<mf)=false:=by simp;omega
     subst e;go_wp2
     go_meet
     exact⟨rfl,rfl⟩
   case rest=>
   obtain⟨rfl,rfl⟩:=hcut;clear y6;obtain⟨bJ,cI⟩:∃a,bG++P28.nt q2 i 1 [102,97,99,116,111,114]=a:=⟨_,rfl⟩;have cC:=Ab cI;clear cI
   go_upto_if 62 with fail
   go_cut [3] from 10 to 114 (fun s3 wx=>∃(v:Value),s3=v∧Hid (Ha w2 wx S K (.cells #[.string ⟨n1.toArray⟩,.string ⟨a1.toArray⟩,.string ⟨u1.toArray⟩,.slice bC N1 aX,.int .i64 mq,.int .i64 aC,.int .i64 mf,.int .i64 ml,.int .u8 k1,.string ⟨t1.toArray⟩,.slice aW N2 aU,.slice aT N3 aZ,.int .i64 l1] 63) bJ v))
   case first=>
    cases q2 with
    |false=>
     go_wp2
     go_meet
     exact⟨_,rfl,Ab (by rw[←Aa cC];simpa[P28.nt]using Aa cG)⟩
    |true=>
     obtain⟨W5,aE,aH,g5,aP⟩:=As X2 (.cells #[.int .i64 i,.int .i64 1,.string ⟨#[102,97,99,116,111,114]⟩] 183) X2.heap.size rfl;have aD:=Ab ((Aa cG).alloc aH);have aQ:=Ab aE;have aN:=Ab g5;have aO:=(Aa aD).size;have cU:eE≤1004010:=by rw[←Aa bU];exact qK (Aa dC) (by omega)
     clear aE aH g5 aP;go_wp2_with (rw[Aa aQ];refine An (p:=(i,1,[102,97,99,116,111,114])) (by rfl) _ _ (by rfl) (by rfl) (Aa aD).own X2.heap.size 1 (by rfl) (Aa aN) eE (Aa bU) (by omega) aO ?_;intro g6 bI w6 J I aA aG;have aS:=Ab ((Aa aD).grow J I rfl aA);clear J I aA aG)
     go_meet
     exact⟨_,rfl,Ab (by rw[←Aa cC];exact Aa aS)⟩
   case rest=>
   obtain⟨vv,rfl,bV⟩:=hcut;obtain⟨X3,rfl⟩:∃X,X=wc:=⟨_,rfl⟩;have dG:Hid (bJ.length≤1004003):=Ab (by have:=Aa dC;have:=Bb q2 i 1 [102,97,99,116,111,114];rw[←Aa cC,qH];omega);obtain⟨fY,fX,hv⟩:=(Aa bV).own.form;obtain⟨fA,Z⟩:∃NL,bJ.length=NL:=⟨_,rfl⟩;rw[Z]at hv;subst hv;have cK:=Ab Z;clear Z cG dC bU;have y7:=A9 (o:=7) (Aa bV).box rfl;obtain⟨q3,eP⟩:∃q,P28.out1 ml 1 10000=q:=⟨_,rfl⟩;have cB:=Ab eP;clear eP;go_upto_region 13 with fail
   go_cut [75] from 10 to 114 (fun c wx=>c=.bool q3∧X3=wx)
   case first=>
    rcases(by omega:ml<1∨(1≤ml∧10000<ml)∨(1≤ml∧ml≤10000))with h1|⟨h1,h2⟩|⟨h1,h2⟩
    ·have e:q3=true:=by rw[←Aa cB];simp[P28.out1];omega
     subst e;go_wp2
     go_meet
     exact⟨rfl,rfl⟩
    ·have e:q3=true:=by rw[←Aa cB];simp[P28.out1];omega
     have h3:¬ml<1:=by omega
     have j3:decide (ml<1)=false:=by simp;omega
     subst e;go_wp2
     go_meet
     exact⟨rfl,rfl⟩
    ·have e:q3=false:=by rw[←Aa cB];simp[P28.out1];omega
     have h3:¬ml<1:=by omega
     have j3:decide (ml<1)=false:=by simp;omega
     have j4:decide (10000<ml)=false:=by simp;omega
     subst e;go_wp2
     go_meet
     exact⟨rfl,rfl⟩
   case rest=>
   obtain⟨rfl,rfl⟩:=hcut;clear y7;obtain⟨aI,bY⟩:∃a,bJ++P28.nt q3 i 1 [108,105,109,105,116]=a:=⟨_,rfl⟩;have bW:=Ab bY;clear bY
   go_upto_if 75 with fail
   go_cut [3] from 10 to 114 (fun s3 wx=>∃(v:Value),s3=v∧Hid (Ha w2 wx S K (.cells #[.string ⟨n1.toArray⟩,.string ⟨a1.toArray⟩,.string ⟨u1.toArray⟩,.slice bC N1 aX,.int .i64 mq,.int .i64 aC,.int .i64 mf,.int .i64 ml,.int .u8 k1,.string ⟨t1.toArray⟩,.slice aW N2 aU,.slice aT N3 aZ,.int .i64 l1] 63) aI v))
   case first=>
    cases q3 with
    |false=>
     go_wp2
     go_meet
     exact⟨_,rfl,Ab (by rw[←Aa bW];simpa[P28.nt]using Aa bV)⟩
    |true=>
     obtain⟨W5,aE,aH,g5,aP⟩:=As X3 (.cells #[.int .i64 i,.int .i64 1,.string ⟨#[108,105,109,105,116]⟩] 183) X3.heap.size rfl;have aD:=Ab ((Aa bV).alloc aH);have aQ:=Ab aE;have aN:=Ab g5;have aO:=(Aa aD).size;have cU:fA≤1004010:=by rw[←Aa cK];exact qK (Aa dG) (by omega)
     clear aE aH g5 aP;go_wp2_with (rw[Aa aQ];refine An (p:=(i,1,[108,105,109,105,116])) (by rfl) _ _ (by rfl) (by rfl) (Aa aD).own X3.heap.size 1 (by rfl) (Aa aN) fA (Aa cK) (by omega) aO ?_;intro g6 bI w6 J I aA aG;have aS:=Ab ((Aa aD).grow J I rfl aA);clear J I aA aG)
     go_meet
     exact⟨_,rfl,Ab (by rw[←Aa bW];exact Aa aS)⟩
   case rest=>
   obtain⟨vv,rfl,dF⟩:=hcut;obtain⟨X4,rfl⟩:∃X,X=wc:=⟨_,rfl⟩;have fK:Hid (aI.length≤1004004):=Ab (by have:=Aa dG;have:=Bb q3 i 1 [108,105,109,105,116];rw[←Aa bW,qH];omega);obtain⟨fZ,gF,hv⟩:=(Aa dF).own.form;obtain⟨gE,Z⟩:∃NL,aI.length=NL:=⟨_,rfl⟩;rw[Z]at hv;subst hv;have fU:=Ab Z;clear Z bV dG cK
   have cZ:Hid (P28.stepsBR us RS N 0 ((ss.map Ai.bare).take (i+1))=aI++(if u1.isEmpty then P28.undoR us RS i n1 N 0 else [])):=Ab (by
    rw[Aa dY,←Aa bW,←Aa cC,←Aa bM,←Aa cJ,Aa bO,Aa cM,Aa cA,Aa cB]
    simp only[zH])
   clear dY cJ bM cC bW bO cM cA cB;go_wp2
   go_loopg [3,7] N (fun g s3 s7 wx=>∃(k:Nat) (v:Value) (ac:List P28.Note),k+g=N∧s7=.int .i64 k∧s3=v∧Hid (aI++(if u1.isEmpty then P28.undoR us RS i n1 k 0 else [])=ac)∧Hid (ac.length≤1004010+k)∧Hid (Ha w2 wx S K (.cells #[.string ⟨n1.toArray⟩,.string ⟨a1.toArray⟩,.string ⟨u1.toArray⟩,.slice bC N1 aX,.int .i64 mq,.int .i64 aC,.int .i64 mf,.int .i64 ml,.int .u8 k1,.string ⟨t1.toArray⟩,.slice aW N2 aU,.slice aT N3 aZ,.int .i64 l1] 63) ac v))
   case atStart=>exact⟨0,_,aI,by omega,by go_num,rfl,Ab (by simp[P28.undoR]),Ab (qK (Aa fK) (by omega)),dF⟩
   case round=>
    obtain⟨k,v,ac,gB,rfl,rfl,dU,cP,HC⟩:=hrel;have aM:=Aa eK wr (Aa HC).bel;obtain⟨⟨k0,_⟩,⟨k1,_⟩,⟨k2,_⟩⟩:=Ag (Aa fD wr aM);have y2:=A9 (o:=2) (Aa HC).box rfl;have y0:=A9 (o:=0) (Aa HC).box rfl;obtain⟨fV,gC,hv⟩:=(Aa HC).own.form;obtain⟨eX,Z⟩:∃NL,ac.length=NL:=⟨_,rfl⟩;rw[Z]at hv;subst hv;have cX:=Ab Z;clear Z dF;cases gk with
    |zero=>
     have e2:(N:Int)≤(k:Int):=by omega
     have j2:decide ((k:Int)<(N:Int))=false:=by simp;omega
     have j3:¬k<N:=by omega
     have dK:Hid (P28.stepsBR us RS N 0 ((ss.map Ai.bare).take (i+1))=ac):=Ab (by rw[Aa cZ,←Aa dU,show k=N by omega]);clear aM;go_wp2;go_roundg g'
     case measure=>omega
     case rel=>exact⟨i+1,_,by omega,by go_num,rfl,Ab (by rw[Aa dK];exact(Aa HC).own),Ab (Aa HC).bel⟩
    |succ g2=>
     have fT:(k:Int)<(N:Int):=by omega
     have j3:k<N:=by omega
     have gL:IntKind.i64.wrap ((k:Int)+1)=(k:Int)+1:=qG _ (by omega);cases u1 with
     |cons uc0 ur0=>
      have dK:Hid (P28.stepsBR us RS N 0 ((ss.map Ai.bare).take (i+1))=ac):=Ab (by rw[Aa cZ,←Aa dU];rfl);clear aM;go_wp2;go_roundg g'
      case measure=>omega
      case rel=>exact⟨i+1,_,by omega,by go_num,rfl,Ab (by rw[Aa dK];exact(Aa HC).own),Ab (Aa HC).bel⟩
     |nil=>
      obtain⟨lk,hlk⟩:∃l,RS[k]?=some l:=Ap (Aa eO) (by omega);obtain⟨gr,ua,uc,rfl,fL,dA⟩:=(Aa dX wr (Aa HC).bel).get hlk;have fP:=Aa fO lk (qN hlk);have aK:=J8 ua uc lk i wr dA (by omega);obtain⟨LK,eV⟩:∃L,lk.length=L:=⟨_,rfl⟩;rw[eV]at fL aK;obtain⟨s2,dQ⟩:=Ap (Aa HN) (show k<N by omega);obtain⟨⟨b2,o2,e2,cV⟩,_⟩:=(Aa fF wr aM).steps k s2 dQ;cases e2;have z2:=(Ar cV).1.2.2.1;obtain⟨un,eN⟩:=qeX s2.undo;have bD:=Aa fS k s2 dQ;rw[eN]at z2 bD
      have eG:aI++(if ([]:List UInt8).isEmpty then P28.undoR us RS i n1 (k+1) 0 else [])=ac++P28.nt (decide (i∈lk) && !un.isEmpty) i 19 n1:=by
       rw[←Aa dU,if_pos (show ([]:List UInt8).isEmpty=true from rfl),if_pos (show ([]:List UInt8).isEmpty=true from rfl),Lu,Nat.zero_add,bD,List.getD_eq_getElem?_getD,hlk,Option.getD_some,zH]
      have dL:=Ab eG;clear hlk dA fP eV dQ cV eN bD eG aM;by_cases hm:i∈lk
      ·rw[decide_eq_true hm]at aK;have bK:=Ab aK;have HM:=Ab (decide_eq_true hm);clear hm aK;cases un with
       |nil=>
        go_wp2_with (go_at_call 31;refine(Aa bK).mono ?_;rintro e w4 ⟨rfl,hw⟩;obtain rfl:=hw.symm)
        go_roundg g2
        case measure=>omega
        case rel=>exact⟨k+1,_,ac,by omega,by go_num,rfl,Ab (by rw[Aa dL];simp[P28.nt]),Ab (by have:=Aa cP;omega),HC⟩
       |cons un0 unr=>
        obtain⟨W5,aE,aH,g5,aP⟩:=As wr (.cells #[.int .i64 i,.int .i64 19,.string ⟨n1.toArray⟩] 183) wr.heap.size rfl;have aD:=Ab ((Aa HC).alloc aH);have aQ:=Ab aE;have aN:=Ab g5;have aO:=(Aa aD).size;have cU:eX≤1004010+k:=by rw[←Aa cX];exact Aa cP
        clear aE aH g5 aP;go_wp2_with (first|(go_at_call 31;refine(Aa bK).mono ?_;rintro e w4 ⟨rfl,hw⟩;obtain rfl:=hw.symm)|(rw[Aa aQ];refine An (p:=(i,19,n1)) (by rfl) _ _ (by rfl) (by rfl) (Aa aD).own wr.heap.size 1 (by rfl) (Aa aN) eX (Aa cX) (by omega) aO ?_;intro g6 bI w6 J I aA aG;have aS:=Ab ((Aa aD).grow J I rfl aA);clear J I aA aG))
        go_roundg g2
        case measure=>omega
        case rel=>exact⟨k+1,_,ac++[((i:Int),(19:Int),n1)],by omega,by go_num,rfl,Ab (by rw[Aa dL,Aa HM];rfl),Ab (by have:=Aa cP;rw[qH];simp;omega),aS⟩
      ·rw[decide_eq_false hm]at aK;have bK:=Ab aK;have HM:=Ab (decide_eq_false hm);clear hm aK;go_wp2_with (go_at_call 31;refine(Aa bK).mono ?_;rintro e w4 ⟨rfl,hw⟩;obtain rfl:=hw.symm)
       go_roundg g2
       case measure=>omega
       case rel=>exact⟨k+1,_,ac,by omega,by go_num,rfl,Ab (by rw[Aa dL,Aa HM];simp[P28.nt]),Ab (by have:=Aa cP;omega),HC⟩
end Go.Proofs.YtefokfbgpfcbkaaGreat
