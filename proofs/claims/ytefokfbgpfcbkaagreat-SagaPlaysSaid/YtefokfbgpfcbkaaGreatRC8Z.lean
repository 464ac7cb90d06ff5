import Derived.Test.YtefokfbgpfcbkaaGreatRC7Z
set_option maxRecDepth 100000
set_option maxHeartbeats 16000000
set_option linter.unusedVariables false
set_option linter.unusedSimpArgs false
namespace Go.Proofs.YtefokfbgpfcbkaaGreat
open Go.RowKit
structure T6 (W V:World) (S:Nat) (acc:List P28.Note) (v:Value):Prop where
 own:A0 V S v acc
 bel:Below S W V
 size:S≤V.heap.size
theorem T6.alloc{W V V':World}{S:Nat}{acc:List P28.Note}{v:Value}(h:T6 W V S acc v)(hb:Below V.heap.size V V'):T6 W V' S acc v:=
 ⟨h.own.keep (fun g hg=>hb.block g (h.own.lt hg).2),h.bel.trans (hb.mono h.size),qK h.size hb.size⟩
theorem T6.grow{W V V':World}{S:Nat}{acc I:List P28.Note}{v J:Value}(h:T6 W V S acc v)(ho:A0 V' S J I)(hg:V.grownBy V' v.ownBlock):T6 W V' S I J:=
 ⟨ho,h.bel.grown hg h.size (fun k hk=>(h.own.lt hk).1),qK h.size hg.size⟩
theorem Ha.a{W V:World}{S K:Nat}{ob:Obj}{acc:List P28.Note}{v:Value}(h:Ha W V S K ob acc v):T6 W V S acc v:=⟨h.own,h.bel,h.size⟩
theorem G7(ns:List (List UInt8)):∀(a b:List P22.Step) (i:Nat),P28.stepsR ns i (a++b)=P28.stepsR ns i a++P28.stepsR ns (i+a.length) b
 | [],b,i=>by simp[P28.stepsR]
 |s::a,b,i=>by
  have I:P28.stepsR ns i ((s::a)++b)=P28.stepN ns i s++(P28.afterR ns i s.name [] s.after++P28.stepsR ns (i+1) (a++b)):=rfl;have J:P28.stepsR ns i (s::a)=P28.stepN ns i s++(P28.afterR ns i s.name [] s.after++P28.stepsR ns (i+1) a):=rfl;rw[I,J,G7 ns a b (i+1),qE,show i+1+a.length=i+(a.length+1) by omega];simp only[zH]
theorem Gw(ns:List (List UInt8))(i:Nat)(nm:List UInt8):∀(a b seen:List (List UInt8)),P28.afterR ns i nm seen (a++b)=P28.afterR ns i nm seen a++P28.afterR ns i nm (seen++a) b
 | [],b,seen=>by simp[P28.afterR]
 |x::a,b,seen=>by
  have I:P28.afterR ns i nm seen ((x::a)++b)=P28.nt (P28.idx ns x).isNone i 5 x++(P28.nt (decide (x=nm)) i 8 nm++(P28.nt (decide (x∈seen)) i 6 x++P28.afterR ns i nm (seen++[x]) (a++b))):=rfl;have J:P28.afterR ns i nm seen (x::a)=P28.nt (P28.idx ns x).isNone i 5 x++(P28.nt (decide (x=nm)) i 8 nm++(P28.nt (decide (x∈seen)) i 6 x++P28.afterR ns i nm (seen++[x]) a)):=rfl;rw[I,J,Gw ns i nm a b];simp only[zH,zQ,zR]
theorem Ks(ns:List (List UInt8))(i:Nat)(nm:List UInt8):∀(a seen:List (List UInt8)),(P28.afterR ns i nm seen a).length≤a.length*3
 | [],seen=>by simp[P28.afterR]
 |x::a,seen=>by
  unfold P28.afterR;simp only[qH,qE];have:=Bb (P28.idx ns x).isNone i 5 x;have:=Bb (decide (x=nm)) i 8 nm;have:=Bb (decide (x∈seen)) i 6 x;have:=Ks ns i nm a (seen++[x]);omega
theorem Tr(ns:List (List UInt8))(i:Nat)(s:P22.Step):(P28.stepN ns i s).length≤4:=by
 unfold P28.stepN;simp only[qH];have:=Bb (!P28.right s.name) i 18 s.name;have:=Bb (!P28.right s.action) i 18 s.action;have:=Bb (!s.undo.isEmpty && !P28.right s.undo) i 18 s.undo;have:=Bb (decide ((P28.idx ns s.name).getD 0<i)) i 6 s.name;omega
theorem Hl(ns:List (List UInt8)):∀(ss:List P22.Step) (i:Nat),(∀s∈ss,s.after.length≤1000)→(P28.stepsR ns i ss).length≤ss.length*3004
 | [],i,h=>by simp[P28.stepsR]
 |s::ss,i,h=>by
  unfold P28.stepsR;simp only[qH,qE];have:=Tr ns i s;have:=Ks ns i s.name s.after [];have:=h s (by simp);have:=Hl ns ss (i+1) (fun s hs=>h s (by simp[hs]));omega
theorem Qaq{ns:List (List UInt8)}{x:List UInt8}{i:Nat}(h:ns[i]?=some x):∃j,P28.idx ns x=some j:=by
 cases hq:P28.idx ns x with
 |some j=>exact⟨j,rfl⟩
 |none=>exact absurd (qN h) (P28.idx_none.1 hq)
theorem Nx(d:Af)(w:World)(jB:d.In w)(hl:d.steps.length≤1000)(fL:∀s∈d.steps,s.after.length≤1000)(iH:d.name.length≤1000000)(iG:∀s∈d.steps,s.name.length≤1000000∧s.action.length≤1000000∧s.undo.length≤1000000) :
  Calls Tryz.prog 112 #[d.val] w fun e w'=>∃v,e=.returned v∧A0 w' w.heap.size v (P28.sortR (P28.namesR d.bare))∧Below w.heap.size w w':=by
 obtain⟨H,hH⟩:=qeX w.heap.size;rw[hH];obtain⟨W1,fJ,hZ,g0,cI⟩:=As w (Be d) H hH;have fC:∀V,Below (H+1) W1 V→d.In V:=fun V hV=>jB.below (by rw[hH];exact hZ.trans (hV.mono (by omega)));have fO:∀V,Below (H+1) W1 V→V.heap[H]?=some (Be d):=fun V hV=>(hV.block H (by omega)).trans g0;have eN:=fun(x:List UInt8) (V:World) (hV:Below (H+1) W1 V)=>Kj d x V (fC V hV) (by omega);have gP:=fun V=>Es d.name V iH;obtain⟨ns,fN⟩:=qeX (d.steps.map Ai.name);have iD:∀(i:Nat) s,d.steps[i]?=some s→ns[i]?=some s.name:=fun i s hs=>by rw[←fN,zJ,hs];rfl
 have jV:P28.namesR d.bare=P28.nt (decide (d.steps.length=0)) (-1) 17 []++(P28.nt (!P28.right d.name) (-1) 18 d.name++P28.stepsR ns 0 (d.steps.map Ai.bare)):=by
  unfold P28.namesR;rw[←fN]
  congr 1
  ·congr 1
   cases hq:d.steps<;>simp[Af.bare,hq]
  ·simp[P28.names,Af.bare,Ai.bare,Function.comp_def]
 rw[jV];rw[fN]at eN;obtain⟨nm,tx,sa,sc,ss⟩:=d;obtain⟨N,hN⟩:=qeX ss.length;unfold Be at fJ fO g0;unfold Af.val at eN ⊢;simp only[hN]at fJ fO g0 hl fL eN iD iG gP iH ⊢
 have fZ:∀i,i≤N→(P28.stepsR ns 0 ((ss.map Ai.bare).take i)).length≤3004000:=fun i hi=>by
  have h1:=Hl ns ((ss.map Ai.bare).take i) 0 (fun s hs=>by
   obtain⟨q,hq,rfl⟩:=List.mem_map.1 (List.mem_of_mem_take hs)
   exact fL q hq)
  have h2:((ss.map Ai.bare).take i).length*3004≤1000*3004:=Nat.mul_le_mul (by rw[qY];omega) (by omega);omega
 obtain⟨⟨k0,_⟩,⟨k1,_⟩,⟨k2,_⟩⟩:=Ag g0;have jZ:=Ab fC;have eX:=Ab fO;have kD:=Ab eN;have kC:=Ab gP;have kN:=Ab fJ;have kG:=Ab hZ;have HN:=Ab hN;have kK:=Ab iD;have jY:=Ab iG;have kW:=Ab fL;have iQ:=Ab fZ;have iL:T6 W1 W1 (H+1) [] (.slice none 0 0):=⟨A0.nil _ _,qU _ _,by omega⟩;have gL:=Ab iL;have gM:Hid (([]:List P28.Note).length≤0):=Ab (qJ 0);have gY:Hid (([]:List P28.Note).length=0):=Ab rfl;clear fC fO eN fJ hZ fN hN g0 jB fL jV iD fZ gP iG iH iL cI;go_enter Tryz.func112,Tryz.ntmps112
 go_upto_region 1 with fail
 try rw[hH]
 rw[Aa kN];obtain⟨q0,jA⟩:∃q,decide (N=0)=q:=⟨_,rfl⟩;have gN:=Ab jA;clear jA;go_upto_region 2 with fail
 go_cut [10] from 7 to 24 (fun c wx=>c=.bool q0∧Hid (T6 W1 wx (H+1) [] (.slice none 0 0)))
 case first=>
  rcases Nat.eq_zero_or_pos N with h1|h1
  ·have e:q0=true:=by rw[←Aa gN];simp[h1]
   have hz:((N:Int)==0)=true:=by simp;omega
   subst e;have HZ:=Ab h1;clear h1;go_wp2
   go_meet
   exact⟨rfl,gL⟩
  ·have e:q0=false:=by rw[←Aa gN];simp;omega
   have hz:((N:Int)==0)=false:=by simp;omega
   subst e;go_wp2
   go_meet
   exact⟨rfl,gL⟩
 case rest=>
 obtain⟨rfl,eV⟩:=hcut;obtain⟨iC,rfl⟩:∃X,X=wc:=⟨_,rfl⟩;obtain⟨cM,dW⟩:∃a,[]++P28.nt q0 (-1) 17 []=a:=⟨_,rfl⟩;have fS:=Ab dW;clear dW
 go_upto_if 10 with fail
 go_cut [3] from 7 to 24 (fun s3 wx=>∃(v:Value),s3=v∧Hid (T6 W1 wx (H+1) cM v))
 case first=>
  cases q0 with
  |false=>
   go_wp2
   go_meet
   exact⟨_,rfl,Ab (by rw[←Aa fS];simpa[P28.nt]using Aa eV)⟩
  |true=>
   obtain⟨W5,aD,aG,g5,aR⟩:=As iC (.cells #[.int .i64 (-1),.int .i64 17,.string ⟨#[]⟩] 183) iC.heap.size rfl;have aC:=Ab ((Aa eV).alloc aG);have aU:=Ab aD;have aL:=Ab g5;have aP:=(Aa aC).size;have cP:0≤10:=by have h1:=Aa gY;have h2:=Aa gM;omega
   clear aD aG g5 aR;go_wp2_with (rw[Aa aU];refine An (p:=((-1),17,[])) (by rfl) _ _ (by rfl) (by rfl) (Aa aC).own iC.heap.size 1 (by rfl) (Aa aL) 0 (Aa gY) (by omega) aP ?_;intro g6 bG w6 Z I aB aE;have aX:=Ab ((Aa aC).grow Z I);clear Z I aB aE)
   go_meet
   exact⟨_,rfl,Ab (by rw[←Aa fS];exact Aa aX)⟩
 case rest=>
 obtain⟨vv,rfl,fQ⟩:=hcut;obtain⟨X1,rfl⟩:∃X,X=wc:=⟨_,rfl⟩;have gT:Hid (cM.length≤10+1):=Ab (by have:=Aa gM;have:=Bb q0 (-1) 17 [];rw[←Aa fS,qH];omega);obtain⟨kZ,kS,hv⟩:=(Aa fQ).own.form;obtain⟨gZ,aA⟩:∃NL,cM.length=NL:=⟨_,rfl⟩;rw[aA]at hv;subst hv;have eM:=Ab aA;clear aA eV gL gM gY;obtain⟨⟨k0,_⟩,⟨k1,_⟩,⟨k2,_⟩⟩:=Ag (Aa eX X1 (Aa fQ).bel);obtain⟨q1,iR⟩:∃q,(!P28.right nm)=q:=⟨_,rfl⟩;have kE:=Ab iR;clear iR;go_upto_region 4 with fail
 go_cut [18] from 7 to 24 (fun c wx=>c=.bool q1∧Hid (T6 W1 wx (H+1) cM (.slice kZ gZ kS)))
 case first=>
  go_wp2_with (go_at_call 88;refine(Aa kC _).mono ?_;rintro e w4 ⟨rfl,hw⟩;obtain rfl:=hw.symm)
  go_meet
  exact⟨by rw[←Aa kE],fQ⟩
 case rest=>
 obtain⟨rfl,dM⟩:=hcut;obtain⟨fK,rfl⟩:∃X,X=wc:=⟨_,rfl⟩;obtain⟨bF,eO⟩:∃a,cM++P28.nt q1 (-1) 18 nm=a:=⟨_,rfl⟩;have fH:=Ab eO;clear eO
 go_upto_if 18 with fail
 go_cut [3] from 7 to 24 (fun s3 wx=>∃(v:Value),s3=v∧Hid (T6 W1 wx (H+1) bF v))
 case first=>
  cases q1 with
  |false=>
   go_wp2
   go_meet
   exact⟨_,rfl,Ab (by rw[←Aa fH];simpa[P28.nt]using Aa dM)⟩
  |true=>
   obtain⟨W5,aD,aG,g5,aR⟩:=As fK (.cells #[.int .i64 (-1),.int .i64 18,.string ⟨nm.toArray⟩] 183) fK.heap.size rfl;have aC:=Ab ((Aa dM).alloc aG);have aU:=Ab aD;have aL:=Ab g5;have aP:=(Aa aC).size;have cP:gZ≤11:=by have h1:=Aa eM;have h2:=Aa gT;omega
   clear k0 k1 k2;obtain⟨⟨k0,_⟩,⟨k1,_⟩,⟨k2,_⟩⟩:=Ag (Aa eX fK (Aa dM).bel);clear aD aG g5 aR;go_wp2_with (rw[Aa aU];refine An (p:=((-1),18,nm)) (by rfl) _ _ (by rfl) (by rfl) (Aa aC).own fK.heap.size 1 (by rfl) (Aa aL) gZ (Aa eM) (by omega) aP ?_;intro g6 bG w6 Z I aB aE;have aX:=Ab ((Aa aC).grow Z I);clear Z I aB aE)
   go_meet
   exact⟨_,rfl,Ab (by rw[←Aa fH];exact Aa aX)⟩
 case rest=>
 obtain⟨vv,rfl,iF⟩:=hcut;obtain⟨X2,rfl⟩:∃X,X=wc:=⟨_,rfl⟩;have kI:Hid (bF.length≤11+1):=Ab (by have:=Aa gT;have:=Bb q1 (-1) 18 nm;rw[←Aa fH,qH];omega);obtain⟨lP,lR,hv⟩:=(Aa iF).own.form;obtain⟨lI,aA⟩:∃NL,bF.length=NL:=⟨_,rfl⟩;rw[aA]at hv;subst hv;have lC:=Ab aA;clear aA dM fQ gT eM k0 k1 k2;go_wp2
 go_loopg [3,4] N (fun g s3 s4 wx=>∃(i:Nat) (v:Value),i+g=N∧s4=.int .i64 i∧s3=v∧Hid (T6 W1 wx (H+1) (bF++P28.stepsR ns 0 ((ss.map Ai.bare).take i)) v))
 case atStart=>exact⟨0,_,by omega,by go_num,rfl,Ab (by simpa[P28.stepsR]using Aa iF)⟩
 case round=>
  obtain⟨i,v,lG,rfl,rfl,HO⟩:=hrel;have fR:=(Aa HO).bel;obtain⟨⟨k0,_⟩,⟨k1,_⟩,⟨k2,_⟩⟩:=Ag (Aa eX wr fR);obtain⟨aJ,bY⟩:∃acc,bF++P28.stepsR ns 0 ((ss.map Ai.bare).take i)=acc:=⟨_,rfl⟩
  have gO:aJ.length≤3004020:=by
   have h1:=Aa iQ i (by omega);have h2:=Aa kI;rw[←bY,qH];omega
  have ho:=Aa HO;rw[bY]at ho;obtain⟨fV,gB,rfl⟩:=ho.own.form;clear iF HO;cases gk with
  |zero=>
   have e1:(N:Int)≤(i:Int):=by omega
   have j1:decide ((i:Int)<(N:Int))=false:=by simp;omega
   have hfin:P28.nt (decide (N=0)) (-1) 17 []++(P28.nt (!P28.right nm) (-1) 18 nm++P28.stepsR ns 0 (ss.map Ai.bare))=aJ:=by
    rw[←bY,←Aa fH,←Aa fS,Aa gN,Aa kE,zR,zH,List.take_of_length_le (by rw[qX,Aa HN];omega)]
   have eJ:=Iw aJ _ wr (H+1) ho.own (by omega);have jS:=Ab hfin;have iI:=Ab eJ;have kX:=Ab ho.size;clear eJ hfin ho bY gO;go_wp2_with (go_at_call 115;refine(Aa iI).mono ?_;rintro e w3 ⟨v3,rfl,kJ,kM⟩)
   go_ret;have hz:=Aa kX;exact⟨_,rfl,by rw[Aa jS];exact kJ.base (by omega),((Aa kG).trans (fR.mono (by omega))).trans (kM.mono (by omega))⟩
  |succ g'=>
   have lO:(i:Int)<(N:Int):=by omega
   have lK:IntKind.i64.wrap ((i:Int)+1)=(i:Int)+1:=qG _ (by omega);obtain⟨s1,cI⟩:=Ap (Aa HN) (show i<N by omega);obtain⟨⟨b1,o1,iS,jL⟩,_⟩:=(Aa jZ wr fR).steps i s1 cI;simp only at iS;subst iS;have dY:=qN cI;obtain⟨iE,gJ,gX⟩:=Aa jY s1 dY;have gE:=Aa kW s1 dY;have gW:=Aa kK i s1 cI
   have cD:∀V,Below (H+1) W1 V→Ft V s1.aa s1.after∧s1.after.length≤s1.ac:=fun V hV=>by
    obtain⟨_,gF⟩:=(Aa jZ V hV).steps i s1 cI;exact⟨gF.keys,gF.len⟩
   have dH:bF++P28.stepsR ns 0 ((ss.map Ai.bare).take (i+1))=aJ++(P28.stepN ns i s1.bare++P28.afterR ns i s1.name [] s1.after):=by
    rw[List.take_add_one,zJ,cI,Option.map_some,Option.toList_some,G7,←bY,qY,qX,Aa HN,Nat.min_eq_left (by omega),Nat.zero_add];simp[P28.stepsR,Ai.bare]
   obtain⟨n1,a1,u1,bI,aI,aZ,q1,aO,aT,aM,⟨aW,t1,aQ,aN,iK,aK,aS,jJ,l1⟩⟩:=s1;obtain⟨⟨c0,c1,c2,c3⟩,⟨c4,c5,c6,c7⟩,⟨c8,c9,c10,c11,c12⟩⟩:=Ar jL;simp only[Ai.aV,Nd.kind,Nd.text,Nd.kV,Nd.dV,Nd.line,Nd.ka,Nd.kc,Nd.keys,Nd.da,Nd.dc,Nd.kids]at c0 c1 c2 c3 c4 c5 c6 c7 c8 c9 c10 c11 c12;simp only at iE gJ gX gE gW cD;obtain⟨j0,iB⟩:=Qaq gW;have iY:P28.stepN ns i (Ai.bare ⟨n1,a1,u1,bI,aI,aZ,q1,aO,aT,aM,⟨aW,t1,aQ,aN,iK,aK,aS,jJ,l1⟩⟩)=P28.nt (!P28.right n1) i 18 n1++(P28.nt (!P28.right a1) i 18 a1++(P28.nt (!u1.isEmpty && !P28.right u1) i 18 u1++P28.nt (decide ((P28.idx ns n1).getD 0<i)) i 6 n1)):=rfl;rw[iY,iB,Option.getD_some]at dH;simp only at dH;have fD:=fun V hV=>Aa kD n1 V hV;rw[iB]at fD;have jT:=fun V=>Es n1 V iE;have jI:=fun V=>Es a1 V gJ;have jW:=fun V=>Es u1 V gX;obtain⟨N1,fT⟩:=qeX aZ.length;obtain⟨N2,jQ⟩:=qeX iK.length;obtain⟨N3,jM⟩:=qeX jJ.length;rw[fT]at c3 gE;simp only[fT]at cD;rw[jQ]at c10;rw[jM]at c11;have iN:=Ab dH;have cU:=Ab cD;have gS:=Ab fT;have jH:=Ab jT;have jX:=Ab jI;have iW:=Ab jW;have fB:=Ab fD;obtain⟨dL,aA⟩:∃NL,aJ.length=NL:=⟨_,rfl⟩;rw[aA];rw[aA]at ho;have cQ:=Ab aA;have eD:Hid (aJ.length≤3004020):=Ab gO;obtain⟨K,hK⟩:=qeX wr.heap.size;obtain⟨kR,kB,bL,g4,kT⟩:=As wr (.cells #[.string ⟨n1.toArray⟩,.string ⟨a1.toArray⟩,.string ⟨u1.toArray⟩,.slice bI N1 aI,.int .i64 q1,.int .i64 aO,.int .i64 aT,.int .i64 aM,.int .u8 aW,.string ⟨t1.toArray⟩,.slice aQ N2 aN,.slice aK N3 aS,.int .i64 l1] 63) K hK;have iT:H+1≤K:=by rw[←hK];exact ho.size
   have eA:Hid (Ha W1 kR (H+1) K (.cells #[.string ⟨n1.toArray⟩,.string ⟨a1.toArray⟩,.string ⟨u1.toArray⟩,.slice bI N1 aI,.int .i64 q1,.int .i64 aO,.int .i64 aT,.int .i64 aM,.int .u8 aW,.string ⟨t1.toArray⟩,.slice aQ N2 aN,.slice aK N3 aS,.int .i64 l1] 63) aJ (.slice fV dL gB)):=Ab
    ⟨ho.own.keep (fun g hg=>bL.block g (by rw[←hK];exact(ho.own.lt hg).2)),ho.bel.trans (bL.mono iT),g4,fun e=>by have:=(ho.own.lt e).2;omega,iT⟩
   have iP:=Ab kB;clear dH iY jL bY ho fT jQ jM cI aA fR dY iE gJ gX gW cD iB fD jT jI jW kB bL g4 kT gO;go_upto_region 10 with fail
   try rw[hK]
   rw[Aa iP];clear c0 c1 c2 c3 c4 c5 c6 c7 c8 c9 c10 c11 c12 k0 k2 iP;obtain⟨fM,fX⟩:∃q,(!P28.right n1)=q:=⟨_,rfl⟩;have eQ:=Ab fX;clear fX;go_upto_region 10 with fail
   go_cut [40] from 25 to 147 (fun c wx=>c=.bool fM∧Hid (Ha W1 wx (H+1) K (.cells #[.string ⟨n1.toArray⟩,.string ⟨a1.toArray⟩,.string ⟨u1.toArray⟩,.slice bI N1 aI,.int .i64 q1,.int .i64 aO,.int .i64 aT,.int .i64 aM,.int .u8 aW,.string ⟨t1.toArray⟩,.slice aQ N2 aN,.slice aK N3 aS,.int .i64 l1] 63) aJ (.slice fV dL gB)))
   case first=>
    have y0:=A9 (o:=0) (Aa eA).box rfl;go_wp2_with (go_at_call 88;refine(Aa jH _).mono ?_;rintro e w4 ⟨rfl,hw⟩;obtain rfl:=hw.symm)
    go_meet
    exact⟨by rw[←Aa eQ],eA⟩
   case rest=>
   obtain⟨rfl,cF⟩:=hcut;obtain⟨eY,rfl⟩:∃X,X=wc:=⟨_,rfl⟩;obtain⟨bJ,dB⟩:∃a,aJ++P28.nt fM i 18 n1=a:=⟨_,rfl⟩;have cH:=Ab dB;clear dB
   go_upto_if 40 with fail
   go_cut [3] from 25 to 147 (fun s3 wx=>∃(v:Value),s3=v∧Hid (Ha W1 wx (H+1) K (.cells #[.string ⟨n1.toArray⟩,.string ⟨a1.toArray⟩,.string ⟨u1.toArray⟩,.slice bI N1 aI,.int .i64 q1,.int .i64 aO,.int .i64 aT,.int .i64 aM,.int .u8 aW,.string ⟨t1.toArray⟩,.slice aQ N2 aN,.slice aK N3 aS,.int .i64 l1] 63) bJ v))
   case first=>
    cases fM with
    |false=>
     go_wp2
     go_meet
     exact⟨_,rfl,Ab (by rw[←Aa cH];simpa[P28.nt]using Aa cF)⟩
    |true=>
     obtain⟨W5,aD,aG,g5,aR⟩:=As eY (.cells #[.int .i64 i,.int .i64 18,.string ⟨n1.toArray⟩] 183) eY.heap.size rfl;have aC:=Ab ((Aa cF).alloc aG);have aU:=Ab aD;have aL:=Ab g5;have aP:=(Aa aC).size;have cP:dL≤3004020:=by have h1:=Aa cQ;have h2:=Aa eD;omega
     have y0:=A9 (o:=0) (Aa cF).box rfl;clear aD aG g5 aR;go_wp2_with (rw[Aa aU];refine An (p:=(i,18,n1)) (by rfl) _ _ (by rfl) (by rfl) (Aa aC).own eY.heap.size 1 (by rfl) (Aa aL) dL (Aa cQ) (by omega) aP ?_;intro g6 bG w6 Z I aB aE;have aX:=Ab ((Aa aC).grow Z I rfl aB);clear Z I aB aE)
     go_meet
     exact⟨_,rfl,Ab (by rw[←Aa cH];exact Aa aX)⟩
   case rest=>
   obtain⟨vv,rfl,cZ⟩:=hcut;obtain⟨lM,rfl⟩:∃X,X=wc:=⟨_,rfl⟩;have eK:Hid (bJ.length≤3004020+1):=Ab (by have:=Aa eD;have:=Bb fM i 18 n1;rw[←Aa cH,qH];omega);obtain⟨jE,jN,hv⟩:=(Aa cZ).own.form;obtain⟨eB,aA⟩:∃NL,bJ.length=NL:=⟨_,rfl⟩;rw[aA]at hv;subst hv;have cR:=Ab aA;clear aA cF eA eD cQ;obtain⟨fP,gD⟩:∃q,(!P28.right a1)=q:=⟨_,rfl⟩;have eI:=Ab gD;clear gD;go_upto_region 12 with fail
   go_cut [51] from 25 to 147 (fun c wx=>c=.bool fP∧Hid (Ha W1 wx (H+1) K (.cells #[.string ⟨n1.toArray⟩,.string ⟨a1.toArray⟩,.string ⟨u1.toArray⟩,.slice bI N1 aI,.int .i64 q1,.int .i64 aO,.int .i64 aT,.int .i64 aM,.int .u8 aW,.string ⟨t1.toArray⟩,.slice aQ N2 aN,.slice aK N3 aS,.int .i64 l1] 63) bJ (.slice jE eB jN)))
   case first=>
    have y1:=A9 (o:=1) (Aa cZ).box rfl;go_wp2_with (go_at_call 88;refine(Aa jX _).mono ?_;rintro e w4 ⟨rfl,hw⟩;obtain rfl:=hw.symm)
    go_meet
    exact⟨by rw[←Aa eI],cZ⟩
   case rest=>
   obtain⟨rfl,cA⟩:=hcut;obtain⟨eC,rfl⟩:∃X,X=wc:=⟨_,rfl⟩;obtain⟨bM,dF⟩:∃a,bJ++P28.nt fP i 18 a1=a:=⟨_,rfl⟩;have cG:=Ab dF;clear dF
   go_upto_if 51 with fail
   go_cut [3] from 25 to 147 (fun s3 wx=>∃(v:Value),s3=v∧Hid (Ha W1 wx (H+1) K (.cells #[.string ⟨n1.toArray⟩,.string ⟨a1.toArray⟩,.string ⟨u1.toArray⟩,.slice bI N1 aI,.int .i64 q1,.int .i64 aO,.int .i64 aT,.int .i64 aM,.int .u8 aW,.string ⟨t1.toArray⟩,.slice aQ N2 aN,.slice aK N3 aS,.int .i64 l1] 63) bM v))
   case first=>
    cases fP with
    |false=>
     go_wp2
     go_meet
     exact⟨_,rfl,Ab (by rw[←Aa cG];simpa[P28.nt]using Aa cA)⟩
    |true=>
     obtain⟨W5,aD,aG,g5,aR⟩:=As eC (.cells #[.int .i64 i,.int .i64 18,.string ⟨a1.toArray⟩] 183) eC.heap.size rfl;have aC:=Ab ((Aa cA).alloc aG);have aU:=Ab aD;have aL:=Ab g5;have aP:=(Aa aC).size;have cP:eB≤3004021:=by have h1:=Aa cR;have h2:=Aa eK;omega
     have y1:=A9 (o:=1) (Aa cA).box rfl;clear aD aG g5 aR;go_wp2_with (rw[Aa aU];refine An (p:=(i,18,a1)) (by rfl) _ _ (by rfl) (by rfl) (Aa aC).own eC.heap.size 1 (by rfl) (Aa aL) eB (Aa cR) (by omega) aP ?_;intro g6 bG w6 Z I aB aE;have aX:=Ab ((Aa aC).grow Z I rfl aB);clear Z I aB aE)
     go_meet
     exact⟨_,rfl,Ab (by rw[←Aa cG];exact Aa aX)⟩
   case rest=>
   obtain⟨vv,rfl,cJ⟩:=hcut;obtain⟨lJ,rfl⟩:∃X,X=wc:=⟨_,rfl⟩;have fA:Hid (bM.length≤3004021+1):=Ab (by have:=Aa eK;have:=Bb fP i 18 a1;rw[←Aa cG,qH];omega);obtain⟨iM,iO,hv⟩:=(Aa cJ).own.form;obtain⟨eU,aA⟩:∃NL,bM.length=NL:=⟨_,rfl⟩;rw[aA]at hv;subst hv;have cW:=Ab aA;clear aA cA cZ eK cR;obtain⟨fG,fW⟩:∃q,(!u1.isEmpty && !P28.right u1)=q:=⟨_,rfl⟩;have dJ:=Ab fW;clear fW;go_upto_region 14 with fail
   go_cut [67] from 25 to 147 (fun c wx=>c=.bool fG∧Hid (Ha W1 wx (H+1) K (.cells #[.string ⟨n1.toArray⟩,.string ⟨a1.toArray⟩,.string ⟨u1.toArray⟩,.slice bI N1 aI,.int .i64 q1,.int .i64 aO,.int .i64 aT,.int .i64 aM,.int .u8 aW,.string ⟨t1.toArray⟩,.slice aQ N2 aN,.slice aK N3 aS,.int .i64 l1] 63) bM (.slice iM eU iO)))
   case first=>
    have y2:=A9 (o:=2) (Aa cJ).box rfl;cases u1 with
    |nil=>
     have e:fG=false:=by rw[←Aa dJ];rfl
     subst e;go_wp2
     go_meet
     exact⟨rfl,cJ⟩
    |cons uc0 ur0=>
     go_wp2_with (go_at_call 88;refine(Aa iW _).mono ?_;rintro e w4 ⟨rfl,hw⟩;obtain rfl:=hw.symm)
     go_meet
     exact⟨by rw[←Aa dJ];simp,cJ⟩
   case rest=>
   obtain⟨rfl,cC⟩:=hcut;obtain⟨eF,rfl⟩:∃X,X=wc:=⟨_,rfl⟩;obtain⟨bU,dN⟩:∃a,bM++P28.nt fG i 18 u1=a:=⟨_,rfl⟩;have cN:=Ab dN;clear dN
   go_upto_if 67 with fail
   go_cut [3] from 25 to 147 (fun s3 wx=>∃(v:Value),s3=v∧Hid (Ha W1 wx (H+1) K (.cells #[.string ⟨n1.toArray⟩,.string ⟨a1.toArray⟩,.string ⟨u1.toArray⟩,.slice bI N1 aI,.int .i64 q1,.int .i64 aO,.int .i64 aT,.int .i64 aM,.int .u8 aW,.string ⟨t1.toArray⟩,.slice aQ N2 aN,.slice aK N3 aS,.int .i64 l1] 63) bU v))
   case first=>
    cases fG with
    |false=>
     go_wp2
     go_meet
     exact⟨_,rfl,Ab (by rw[←Aa cN];simpa[P28.nt]using Aa cC)⟩
    |true=>
     obtain⟨W5,aD,aG,g5,aR⟩:=As eF (.cells #[.int .i64 i,.int .i64 18,.string ⟨u1.toArray⟩] 183) eF.heap.size rfl;have aC:=Ab ((Aa cC).alloc aG);have aU:=Ab aD;have aL:=Ab g5;have aP:=(Aa aC).size;have cP:eU≤3004022:=by have h1:=Aa cW;have h2:=Aa fA;omega
     have y2:=A9 (o:=2) (Aa cC).box rfl;clear aD aG g5 aR;go_wp2_with (rw[Aa aU];refine An (p:=(i,18,u1)) (by rfl) _ _ (by rfl) (by rfl) (Aa aC).own eF.heap.size 1 (by rfl) (Aa aL) eU (Aa cW) (by omega) aP ?_;intro g6 bG w6 Z I aB aE;have aX:=Ab ((Aa aC).grow Z I rfl aB);clear Z I aB aE)
     go_meet
     exact⟨_,rfl,Ab (by rw[←Aa cN];exact Aa aX)⟩
   case rest=>
   obtain⟨vv,rfl,bE⟩:=hcut;obtain⟨gQ,rfl⟩:∃X,X=wc:=⟨_,rfl⟩;have eE:Hid (bU.length≤3004022+1):=Ab (by have:=Aa fA;have:=Bb fG i 18 u1;rw[←Aa cN,qH];omega);obtain⟨jD,jK,hv⟩:=(Aa bE).own.form;obtain⟨eS,aA⟩:∃NL,bU.length=NL:=⟨_,rfl⟩;rw[aA]at hv;subst hv;have cT:=Ab aA;clear aA cC cJ fA cW;obtain⟨dT,gC⟩:∃q,(decide (j0<i))=q:=⟨_,rfl⟩;have dP:=Ab gC;clear gC;go_upto_region 16 with fail
   go_cut [80] from 25 to 147 (fun c wx=>c=.bool dT∧Hid (Ha W1 wx (H+1) K (.cells #[.string ⟨n1.toArray⟩,.string ⟨a1.toArray⟩,.string ⟨u1.toArray⟩,.slice bI N1 aI,.int .i64 q1,.int .i64 aO,.int .i64 aT,.int .i64 aM,.int .u8 aW,.string ⟨t1.toArray⟩,.slice aQ N2 aN,.slice aK N3 aS,.int .i64 l1] 63) bU (.slice jD eS jK)))
   case first=>
    have y0:=A9 (o:=0) (Aa bE).box rfl;obtain⟨⟨k0,_⟩,⟨k1,_⟩,⟨k2,_⟩⟩:=Ag (Aa eX gQ (Aa bE).bel);have e0:Hn (some j0)=(j0:Int):=rfl;rcases Nat.lt_or_ge j0 i with h1|h1
    ·have e:dT=true:=by rw[←Aa dP];simp[h1]
     have h2:(j0:Int)<(i:Int):=by omega
     subst e;go_wp2_with (go_at_call 118;refine(Aa fB gQ (Aa bE).bel).mono ?_;rintro e w4 ⟨rfl,bL⟩)
     go_meet
     exact⟨rfl,Ab ((Aa bE).alloc bL)⟩
    ·have e:dT=false:=by rw[←Aa dP];simp;omega
     have h2:¬j0<i:=by omega
     have j2:decide ((j0:Int)<(i:Int))=false:=by simp;omega
     subst e;go_wp2_with (go_at_call 118;refine(Aa fB gQ (Aa bE).bel).mono ?_;rintro e w4 ⟨rfl,bL⟩)
     go_meet
     exact⟨rfl,Ab ((Aa bE).alloc bL)⟩
   case rest=>
   obtain⟨rfl,cB⟩:=hcut;obtain⟨fF,rfl⟩:∃X,X=wc:=⟨_,rfl⟩;obtain⟨aY,dA⟩:∃a,bU++P28.nt dT i 6 n1=a:=⟨_,rfl⟩;have cO:=Ab dA;clear dA
   go_upto_if 80 with fail
   go_cut [3] from 25 to 147 (fun s3 wx=>∃(v:Value),s3=v∧Hid (Ha W1 wx (H+1) K (.cells #[.string ⟨n1.toArray⟩,.string ⟨a1.toArray⟩,.string ⟨u1.toArray⟩,.slice bI N1 aI,.int .i64 q1,.int .i64 aO,.int .i64 aT,.int .i64 aM,.int .u8 aW,.string ⟨t1.toArray⟩,.slice aQ N2 aN,.slice aK N3 aS,.int .i64 l1] 63) aY v))
   case first=>
    cases dT with
    |false=>
     go_wp2
     go_meet
     exact⟨_,rfl,Ab (by rw[←Aa cO];simpa[P28.nt]using Aa cB)⟩
    |true=>
     obtain⟨W5,aD,aG,g5,aR⟩:=As fF (.cells #[.int .i64 i,.int .i64 6,.string ⟨n1.toArray⟩] 183) fF.heap.size rfl;have aC:=Ab ((Aa cB).alloc aG);have aU:=Ab aD;have aL:=Ab g5;have aP:=(Aa aC).size;have cP:eS≤3004023:=by have h1:=Aa cT;have h2:=Aa eE;omega
     have y0:=A9 (o:=0) (Aa cB).box rfl;clear aD aG g5 aR;go_wp2_with (rw[Aa aU];refine An (p:=(i,6,n1)) (by rfl) _ _ (by rfl) (by rfl) (Aa aC).own fF.heap.size 1 (by rfl) (Aa aL) eS (Aa cT) (by omega) aP ?_;intro g6 bG w6 Z I aB aE;have aX:=Ab ((Aa aC).grow Z I rfl aB);clear Z I aB aE)
     go_meet
     exact⟨_,rfl,Ab (by rw[←Aa cO];exact Aa aX)⟩
   case rest=>
   obtain⟨vv,rfl,cY⟩:=hcut;obtain⟨lT,rfl⟩:∃X,X=wc:=⟨_,rfl⟩;have jG:Hid (aY.length≤3004023+1):=Ab (by have:=Aa eE;have:=Bb dT i 6 n1;rw[←Aa cO,qH];omega);obtain⟨lF,lE,hv⟩:=(Aa cY).own.form;obtain⟨lD,aA⟩:∃NL,aY.length=NL:=⟨_,rfl⟩;rw[aA]at hv;subst hv;have kQ:=Ab aA;clear aA cB bE eE cT
   have jR:Hid (bF++P28.stepsR ns 0 ((ss.map Ai.bare).take (i+1))=aY++P28.afterR ns i n1 [] aZ):=Ab (by
    rw[Aa iN,←Aa cO,←Aa cN,←Aa cG,←Aa cH,Aa eQ,Aa eI,Aa dJ,Aa dP]
    simp only[zH])
   clear iN cH cG cN cO eQ eI dJ dP jH jX iW fB k1;have y3:=A9 (o:=3) (Aa cY).box rfl;go_wp2
   go_loopg [3,6] N1 (fun g s3 s6 wx=>∃(k:Nat) (v:Value) (ac:List P28.Note),k+g=N1∧s6=.int .i64 k∧s3=v∧Hid (aY++P28.afterR ns i n1 [] (aZ.take k)=ac)∧Hid (ac.length≤3004030+k*3)∧Hid (Ha W1 wx (H+1) K (.cells #[.string ⟨n1.toArray⟩,.string ⟨a1.toArray⟩,.string ⟨u1.toArray⟩,.slice bI N1 aI,.int .i64 q1,.int .i64 aO,.int .i64 aT,.int .i64 aM,.int .u8 aW,.string ⟨t1.toArray⟩,.slice aQ N2 aN,.slice aK N3 aS,.int .i64 l1] 63) ac v))
   case atStart=>exact⟨0,_,aY,by omega,by go_num,rfl,Ab (by simp[P28.afterR]),Ab (qK (Aa jG) (by omega)),cY⟩
   case round=>
    clear y3;obtain⟨k,v,bT,lL,rfl,rfl,jU,kL,aH⟩:=hrel;have y3:=A9 (o:=3) (Aa aH).box rfl;obtain⟨jC,jP,hv⟩:=(Aa aH).own.form;obtain⟨eG,aA⟩:∃NL,bT.length=NL:=⟨_,rfl⟩;rw[aA]at hv;subst hv;have cV:=Ab aA;clear aA cY;cases gk with
    |zero=>
     have e2:(N1:Int)≤(k:Int):=by omega
     have j2:decide ((k:Int)<(N1:Int))=false:=by simp;omega
     have kO:Hid (bF++P28.stepsR ns 0 ((ss.map Ai.bare).take (i+1))=bT):=Ab (by rw[Aa jR,←Aa jU,List.take_of_length_le (by rw[Aa gS];omega)]);go_wp2;go_roundg g'
     case measure=>omega
     case rel=>exact⟨i+1,_,by omega,by go_num,rfl,Ab (by rw[Aa kO];exact(Aa aH).a)⟩
    |succ g2=>
     have lA:(k:Int)<(N1:Int):=by omega
     have lS:IntKind.i64.wrap ((k:Int)+1)=(k:Int)+1:=qG _ (by omega);obtain⟨x,hx⟩:=Ap (Aa gS) (show k<N1 by omega);obtain⟨gR,rfl⟩:∃X,X=wr:=⟨_,rfl⟩;obtain⟨jO,lH⟩:=Aa cU gR (Aa aH).bel;obtain⟨rb,ro,rfl,cx⟩:=jO k x hx
     have fU:∀V,Below (H+1) W1 V→V.cell? ⟨rb,ro+k,none⟩=some (.string ⟨x.toArray⟩):=fun V hV=>by
      obtain⟨b2,o2,e2,c2⟩:=(Aa cU V hV).1 k x hx;cases e2;exact c2
     have gA:∀V,Below (H+1) W1 V→Ft V (some ⟨rb,ro,none⟩) (aZ.take k):=fun V hV j y hj=>(Aa cU V hV).1 j y (by
      have kF:=(qI.1 hj).1;rw[qY]at kF;rw[List.getElem?_take_of_lt (by omega)]at hj
      exact hj)
     have iZ:(aZ.take k).length=k:=by rw[qY,Aa gS];omega
     have iA:=fun V hV=>Tb (some ⟨rb,ro,none⟩) aI (aZ.take k) x V (gA V hV) (by omega);rw[iZ]at iA;have lN:(N1:Int)≤(aI:Int):=by omega
     have lB:(k:Int)≤(aI:Int):=by omega
     obtain⟨J,hJ⟩:=qeX (P28.idx ns x);have eT:=fun V hV=>Aa kD x V hV;rw[hJ]at eT
     have dZ:P28.afterR ns i n1 [] (aZ.take (k+1))=P28.afterR ns i n1 [] (aZ.take k)++(P28.nt J.isNone i 5 x++(P28.nt (decide (x=n1)) i 8 n1++P28.nt (decide (x∈aZ.take k)) i 6 x)):=by
      rw[List.take_add_one,hx,Option.toList_some,Gw,zR];simp only[P28.afterR,hJ,List.append_nil]
     have eW:Hid (aY++P28.afterR ns i n1 [] (aZ.take (k+1))=bT++(P28.nt J.isNone i 5 x++(P28.nt (decide (x=n1)) i 8 n1++P28.nt (decide (x∈aZ.take k)) i 6 x))):=Ab (by rw[dZ,←zH,Aa jU]);have bW:=Ab fU;have kY:=Ab iA;have gH:=Ab eT;have eR:=kL;clear jO hx fU gA iZ iA hJ eT dZ cx;obtain⟨dS,gI⟩:∃q,(J.isNone)=q:=⟨_,rfl⟩;have dD:=Ab gI;clear gI;go_upto_region 21 with fail
     go_cut [102] from 88 to 147 (fun c wx=>c=.bool dS∧Hid (Ha W1 wx (H+1) K (.cells #[.string ⟨n1.toArray⟩,.string ⟨a1.toArray⟩,.string ⟨u1.toArray⟩,.slice (some ⟨rb,ro,none⟩) N1 aI,.int .i64 q1,.int .i64 aO,.int .i64 aT,.int .i64 aM,.int .u8 aW,.string ⟨t1.toArray⟩,.slice aQ N2 aN,.slice aK N3 aS,.int .i64 l1] 63) bT (.slice jC eG jP)))
     case first=>
      have y3:=A9 (o:=3) (Aa aH).box rfl;have y0:=A9 (o:=0) (Aa aH).box rfl;have cx:=Aa bW gR (Aa aH).bel;obtain⟨⟨k0,_⟩,⟨k1,_⟩,⟨k2,_⟩⟩:=Ag (Aa eX gR (Aa aH).bel);refine Ak 6 (by kernel_rfl) (by kernel_rfl) (by kernel_rfl) (by kernel_rfl) (by kernel_rfl) ?_;simp only[List.take_succ_cons,List.take_zero,List.drop_succ_cons,List.drop_zero]
      repeat (go_big_quiet_step (fail))
      refine wpQuiet_nil ?_;rintro _ ⟨nq,rfl⟩;cases J with
      |none=>
       have e0:Hn none=-1:=rfl;have e:dS=true:=by rw[←Aa dD];rfl
       subst e;go_wp2_with (go_at_call 118;refine(Aa gH _ ((Aa aH).bel.trans (Ac (qU _ _)))).mono ?_;rintro e w4 ⟨rfl,bL⟩)
       go_meet
       exact⟨rfl,Ab (((Aa aH).alloc (Ac (qU _ _))).alloc bL)⟩
      |some j=>
       have e0:Hn (some j)=(j:Int):=rfl;have h1:¬(j:Int)<0:=by omega
       have j2:decide ((j:Int)<0)=false:=by simp
       have e:dS=false:=by rw[←Aa dD];rfl
       subst e;go_wp2_with (go_at_call 118;refine(Aa gH _ ((Aa aH).bel.trans (Ac (qU _ _)))).mono ?_;rintro e w4 ⟨rfl,bL⟩)
       go_meet
       exact⟨rfl,Ab (((Aa aH).alloc (Ac (qU _ _))).alloc bL)⟩
     case rest=>
     obtain⟨rfl,bD⟩:=hcut;obtain⟨dE,rfl⟩:∃X,X=wc:=⟨_,rfl⟩;obtain⟨bQ,dC⟩:∃a,bT++P28.nt dS i 5 x=a:=⟨_,rfl⟩;have cL:=Ab dC;clear dC
     go_upto_if 102 with fail
     go_cut [3] from 88 to 147 (fun s3 wx=>∃(v:Value),s3=v∧Hid (Ha W1 wx (H+1) K (.cells #[.string ⟨n1.toArray⟩,.string ⟨a1.toArray⟩,.string ⟨u1.toArray⟩,.slice (some ⟨rb,ro,none⟩) N1 aI,.int .i64 q1,.int .i64 aO,.int .i64 aT,.int .i64 aM,.int .u8 aW,.string ⟨t1.toArray⟩,.slice aQ N2 aN,.slice aK N3 aS,.int .i64 l1] 63) bQ v))
     case first=>
      cases dS with
      |false=>
       go_wp2
       go_meet
       exact⟨_,rfl,Ab (by rw[←Aa cL];simpa[P28.nt]using Aa bD)⟩
      |true=>
       obtain⟨W5,aD,aG,g5,aR⟩:=As dE (.cells #[.int .i64 i,.int .i64 5,.string ⟨x.toArray⟩] 183) dE.heap.size rfl;have aC:=Ab ((Aa bD).alloc aG);have aU:=Ab aD;have aL:=Ab g5;have aP:=(Aa aC).size;have cP:eG≤(3004030+k*3):=by have h1:=Aa cV;have h2:=Aa eR;omega
       have y3:=A9 (o:=3) (Aa bD).box rfl;have y0:=A9 (o:=0) (Aa bD).box rfl;have cx:=Aa bW dE (Aa bD).bel;clear aD aG g5 aR;go_wp2_with (rw[Aa aU];refine An (p:=(i,5,x)) (by rfl) _ _ (by rfl) (by rfl) (Aa aC).own dE.heap.size 1 (by rfl) (Aa aL) eG (Aa cV) (by omega) aP ?_;intro g6 bG w6 Z I aB aE;have aX:=Ab ((Aa aC).grow Z I rfl aB);clear Z I aB aE)
       go_meet
       exact⟨_,rfl,Ab (by rw[←Aa cL];exact Aa aX)⟩
     case rest=>
     obtain⟨vv,rfl,bO⟩:=hcut;obtain⟨kP,rfl⟩:∃X,X=wc:=⟨_,rfl⟩;have dU:Hid (bQ.length≤(3004030+k*3)+1):=Ab (by have:=Aa eR;have:=Bb dS i 5 x;rw[←Aa cL,qH];omega);obtain⟨iX,jF,hv⟩:=(Aa bO).own.form;obtain⟨eZ,aA⟩:∃NL,bQ.length=NL:=⟨_,rfl⟩;rw[aA]at hv;subst hv;have cS:=Ab aA;clear aA bD aH eR cV;obtain⟨dR,fY⟩:∃q,(decide (x=n1))=q:=⟨_,rfl⟩;have dG:=Ab fY;clear fY;go_upto_region 23 with fail
     go_cut [120] from 88 to 147 (fun c wx=>c=.bool dR∧Hid (Ha W1 wx (H+1) K (.cells #[.string ⟨n1.toArray⟩,.string ⟨a1.toArray⟩,.string ⟨u1.toArray⟩,.slice (some ⟨rb,ro,none⟩) N1 aI,.int .i64 q1,.int .i64 aO,.int .i64 aT,.int .i64 aM,.int .u8 aW,.string ⟨t1.toArray⟩,.slice aQ N2 aN,.slice aK N3 aS,.int .i64 l1] 63) bQ (.slice iX eZ jF)))
     case first=>
      have y3:=A9 (o:=3) (Aa bO).box rfl;have y0:=A9 (o:=0) (Aa bO).box rfl;have cx:=Aa bW kP (Aa bO).bel;by_cases fI:x=n1
      ·have e:dR=true:=by rw[←Aa dG];simp[fI]
       subst fI;subst e;refine wp_region_quiet_lit (by kernel_rfl) (by kernel_rfl) ?_
       repeat (go_big_quiet_step (fail))
       refine wpQuiet_nil ?_;rintro _ ⟨nq,rfl⟩;go_wp2
       go_meet
       exact⟨rfl,Ab ((Aa bO).alloc (Ac (qU _ _)))⟩
      ·have e:dR=false:=by rw[←Aa dG];simp[fI]
       have lQ:(x==n1)=false:=by simpa using fI
       subst e;refine wp_region_quiet_lit (by kernel_rfl) (by kernel_rfl) ?_
       repeat (go_big_quiet_step (fail))
       refine wpQuiet_nil ?_;rintro _ ⟨nq,rfl⟩;go_wp2
       go_meet
       exact⟨rfl,Ab ((Aa bO).alloc (Ac (qU _ _)))⟩
     case rest=>
     obtain⟨rfl,bC⟩:=hcut;obtain⟨dK,rfl⟩:∃X,X=wc:=⟨_,rfl⟩;obtain⟨bV,dQ⟩:∃a,bQ++P28.nt dR i 8 n1=a:=⟨_,rfl⟩;have cK:=Ab dQ;clear dQ
     go_upto_if 120 with fail
     go_cut [3] from 88 to 147 (fun s3 wx=>∃(v:Value),s3=v∧Hid (Ha W1 wx (H+1) K (.cells #[.string ⟨n1.toArray⟩,.string ⟨a1.toArray⟩,.string ⟨u1.toArray⟩,.slice (some ⟨rb,ro,none⟩) N1 aI,.int .i64 q1,.int .i64 aO,.int .i64 aT,.int .i64 aM,.int .u8 aW,.string ⟨t1.toArray⟩,.slice aQ N2 aN,.slice aK N3 aS,.int .i64 l1] 63) bV v))
     case first=>
      cases dR with
      |false=>
       go_wp2
       go_meet
       exact⟨_,rfl,Ab (by rw[←Aa cK];simpa[P28.nt]using Aa bC)⟩
      |true=>
       obtain⟨W5,aD,aG,g5,aR⟩:=As dK (.cells #[.int .i64 i,.int .i64 8,.string ⟨n1.toArray⟩] 183) dK.heap.size rfl;have aC:=Ab ((Aa bC).alloc aG);have aU:=Ab aD;have aL:=Ab g5;have aP:=(Aa aC).size;have cP:eZ≤(3004030+k*3)+1:=by have h1:=Aa cS;have h2:=Aa dU;omega
       have y3:=A9 (o:=3) (Aa bC).box rfl;have y0:=A9 (o:=0) (Aa bC).box rfl;have cx:=Aa bW dK (Aa bC).bel;clear aD aG g5 aR;go_wp2_with (rw[Aa aU];refine An (p:=(i,8,n1)) (by rfl) _ _ (by rfl) (by rfl) (Aa aC).own dK.heap.size 1 (by rfl) (Aa aL) eZ (Aa cS) (by omega) aP ?_;intro g6 bG w6 Z I aB aE;have aX:=Ab ((Aa aC).grow Z I rfl aB);clear Z I aB aE)
       go_meet
       exact⟨_,rfl,Ab (by rw[←Aa cK];exact Aa aX)⟩
     case rest=>
     obtain⟨vv,rfl,bX⟩:=hcut;obtain⟨kH,rfl⟩:∃X,X=wc:=⟨_,rfl⟩;have eP:Hid (bV.length≤(3004030+k*3)+1+1):=Ab (by have:=Aa dU;have:=Bb dR i 8 n1;rw[←Aa cK,qH];omega);obtain⟨iV,iU,hv⟩:=(Aa bX).own.form;obtain⟨dX,aA⟩:∃NL,bV.length=NL:=⟨_,rfl⟩;rw[aA]at hv;subst hv;have eH:=Ab aA;clear aA bC bO dU cS;obtain⟨iJ,gG⟩:∃q,(decide (x∈aZ.take k))=q:=⟨_,rfl⟩;have fE:=Ab gG;clear gG;go_upto_region 25 with fail
     go_cut [137] from 88 to 147 (fun c wx=>c=.bool iJ∧Hid (Ha W1 wx (H+1) K (.cells #[.string ⟨n1.toArray⟩,.string ⟨a1.toArray⟩,.string ⟨u1.toArray⟩,.slice (some ⟨rb,ro,none⟩) N1 aI,.int .i64 q1,.int .i64 aO,.int .i64 aT,.int .i64 aM,.int .u8 aW,.string ⟨t1.toArray⟩,.slice aQ N2 aN,.slice aK N3 aS,.int .i64 l1] 63) bV (.slice iV dX iU)))
     case first=>
      have y3:=A9 (o:=3) (Aa bX).box rfl;have y0:=A9 (o:=0) (Aa bX).box rfl;have cx:=Aa bW kH (Aa bX).bel;refine Ak 9 (by kernel_rfl) (by kernel_rfl) (by kernel_rfl) (by kernel_rfl) (by kernel_rfl) ?_;simp only[List.take_succ_cons,List.take_zero,List.drop_succ_cons,List.drop_zero]
      repeat (go_big_quiet_step (fail))
      refine wpQuiet_nil ?_;rintro _ ⟨nq,rfl⟩;go_wp2_with (go_at_call 153;refine(Aa kY _ ((Aa bX).bel.trans (Ac (qU _ _)))).mono ?_;rintro e w4 ⟨rfl,hw⟩;obtain rfl:=hw.symm)
      go_meet
      exact⟨by rw[←Aa fE],Ab ((Aa bX).alloc (Ac (qU _ _)))⟩
     case rest=>
     obtain⟨rfl,bK⟩:=hcut;obtain⟨dI,rfl⟩:∃X,X=wc:=⟨_,rfl⟩;obtain⟨eL,cX⟩:∃a,bV++P28.nt iJ i 6 x=a:=⟨_,rfl⟩;have bZ:=Ab cX;clear cX;cases iJ with
     |false=>
       go_wp2;go_roundg g2
       case measure=>omega
       case rel=>exact⟨k+1,_,eL,by omega,by go_num,rfl,Ab (by rw[Aa eW,←Aa bZ,←Aa cK,←Aa cL,Aa dD,Aa dG,Aa fE];simp only[zH]),Ab (by have:=Aa eP;have:=Bb false i 6 x;rw[←Aa bZ,qH];omega),Ab (by rw[←Aa bZ];simpa[P28.nt]using Aa bK)⟩
     |true=>
       obtain⟨W5,aD,aG,g5,aR⟩:=As dI (.cells #[.int .i64 i,.int .i64 6,.string ⟨x.toArray⟩] 183) dI.heap.size rfl;have aC:=Ab ((Aa bK).alloc aG);have aU:=Ab aD;have aL:=Ab g5;have aP:=(Aa aC).size;have cP:dX≤(3004030+k*3)+1+1:=by have h1:=Aa eH;have h2:=Aa eP;omega
       have y3:=A9 (o:=3) (Aa bK).box rfl;have y0:=A9 (o:=0) (Aa bK).box rfl;have cx:=Aa bW dI (Aa bK).bel;clear aD aG g5 aR;go_wp2_with (rw[Aa aU];refine An (p:=(i,6,x)) (by rfl) _ _ (by rfl) (by rfl) (Aa aC).own dI.heap.size 1 (by rfl) (Aa aL) dX (Aa eH) (by omega) aP ?_;intro g6 bG w6 Z I aB aE;have aX:=Ab ((Aa aC).grow Z I rfl aB);clear Z I aB aE)
       go_roundg g2
       case measure=>omega
       case rel=>exact⟨k+1,_,eL,by omega,by go_num,rfl,Ab (by rw[Aa eW,←Aa bZ,←Aa cK,←Aa cL,Aa dD,Aa dG,Aa fE];simp only[zH]),Ab (by have:=Aa eP;have:=Bb true i 6 x;rw[←Aa bZ,qH];omega),Ab (by rw[←Aa bZ];exact Aa aX)⟩
end Go.Proofs.YtefokfbgpfcbkaaGreat
