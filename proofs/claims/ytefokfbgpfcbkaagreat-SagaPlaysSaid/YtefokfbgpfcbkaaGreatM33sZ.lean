import Derived.Test.YtefokfbgpfcbkaaGreatM33zZ
set_option maxRecDepth 100000
set_option maxHeartbeats 8000000
set_option linter.unusedVariables false
set_option linter.unusedSimpArgs false
namespace Go.Proofs.YtefokfbgpfcbkaaGreat
open Go.RowKit
namespace P21
open P22 (Def Step)
def smallS(s:Step):Bool:=decide (s.name.length≤200)&&(decide (s.action.length≤200)&&(decide (s.undo.length≤200)&&(decide (s.after.length≤70)&&((s.note.small 18 150).isSome&&s.after.all fun x=>decide (x.length≤200)))))
def small(d:Def):Bool:=decide (d.name.length≤200)&&(decide (d.text.length≤5000)&&(decide (d.steps.length≤30)&&d.steps.all smallS))
end P21
theorem Pk(d:Af)(w:World)(bM:d.In w):Calls Tryz.prog 12 #[d.val] w fun e w'=>e=.returned (.bool (P21.small d.bare))∧Below w.heap.size w w':=by
 obtain⟨H,hH⟩:=qeX w.heap.size;rw[hH];obtain⟨W1,aO,aU,g0,cO⟩:=As w (Be d) H hH;have aS:∀V,Below (H+1) W1 V→d.In V:=fun V hV=>bM.below (by rw[hH];exact aU.trans (hV.mono (by omega)));have aM:∀V,Below (H+1) W1 V→V.heap[H]?=some (Be d):=fun V hV=>(hV.block H (by omega)).trans g0;obtain⟨nm,tx,sa,sc,ss⟩:=d;obtain⟨N,hN⟩:=qeX ss.length;obtain⟨J,aB⟩:=qeX (P21.small (Af.bare ⟨nm,tx,sa,sc,ss⟩));rw[aB];unfold Be at aO aM g0;unfold Af.val;simp only[hN]at aO aM g0 ⊢;unfold P21.small at aB;simp only[Af.bare,qX,hN]at aB;obtain⟨⟨k0,_⟩,⟨k1,_⟩,⟨k2,_⟩⟩:=Ag g0;have cH:=Ab aS;have cF:=Ab aM;have aP:=Ab aO;have Z:=Ab aU;have HR:=Ab aB;have HN:=Ab hN;clear aS aM aO aU aB hN g0 bM;by_cases h1:nm.length≤200
 ·by_cases h2:tx.length≤5000
  ·by_cases h3:N≤30
   ·have hr:=Aa HR;simp only[h1,h2,h3,decide_true,Bool.true_and]at hr;have cJ:=Ab hr;have i1:(nm.length:Int)≤200:=by omega
    have i2:(tx.length:Int)≤5000:=by omega
    have i3:(N:Int)≤30:=by omega
    clear hr HR;go_enter Tryz.func12,Tryz.ntmps12
    go_upto_region 1 with fail
    try rw[hH]
    rw[Aa aP];go_wp2
    go_loopg [3] N (fun g s3 wx=>∃i:Nat,i+g=N∧s3=.int .i64 i∧Hid (Below (H+1) W1 wx)∧Hid (((ss.drop i).map Ai.bare).all P21.smallS=J))
    case atStart=>exact⟨0,by omega,by go_num,Ab (qU _ _),by simpa using cJ⟩
    case round=>
     obtain⟨i,cM,rfl,HX,bJ⟩:=hrel;clear k0 k1 k2;have aA:=Aa HX;obtain⟨⟨k0,_⟩,⟨k1,_⟩,⟨k2,_⟩⟩:=Ag (Aa cF wr aA);cases gk with
     |zero=>
      have e1:(N:Int)≤(i:Int):=by omega
      have j1:decide ((i:Int)<(N:Int))=false:=by simp;omega
      have hr:=Aa bJ;rw[List.drop_eq_nil_of_le (by rw[Aa HN];omega)]at hr;have cG:=Ab hr;clear hr aA;go_wp2;go_ret;refine⟨?_,(Aa Z).trans ((Aa HX).mono (by omega))⟩;rw[←Aa cG];rfl
     |succ g'=>
      have cP:(i:Int)<(N:Int):=by omega
      have hkj:IntKind.i64.wrap ((i:Int)+1)=(i:Int)+1:=qG _ (by omega);obtain⟨s,hs⟩:=Ap (Aa HN) (show i<N by omega)
      have aI:ss.drop i=s::ss.drop (i+1):=by
       obtain⟨hl,e⟩:=qI.1 hs;rw[qL hl,e]
      have hr:=Aa bJ;rw[aI,List.map_cons,List.all_cons]at hr;obtain⟨bL,aG⟩:∃R,((ss.drop (i+1)).map Ai.bare).all P21.smallS=R:=⟨_,rfl⟩;rw[aG]at hr;have hI:=Aa cH wr aA;obtain⟨⟨b1,o1,bG,aX⟩,bI⟩:=hI.steps i s hs;simp only at bG;subst bG
      have cR:b1<wr.heap.size:=by
       have:=(Ar aX).1.1;exact Ad this
      obtain⟨⟨c0,c1,c2,c3⟩,⟨c4,c5,c6,c7⟩,⟨c8,c9,c10,c11,c12⟩⟩:=Ar aX;have aW:∀o:Obj,Below (H+1) W1 (wr.alloc o):=fun o=>aA.alloc (by have:=aA.size;omega) o;obtain⟨n1,a1,u1,bY,bW,aL,q1,cI,cB,bX,cC⟩:=s;obtain⟨k,t,ka,kc,ks,da,dc,ds,l⟩:=cC;obtain⟨A,hA⟩:=qeX aL.length;obtain⟨KL,bC⟩:∃x,ks.length=x:=⟨_,rfl⟩;obtain⟨DL,aT⟩:∃x,ds.length=x:=⟨_,rfl⟩;simp only[Ai.aV,Nd.kind,Nd.text,Nd.kV,Nd.dV,Nd.line,Nd.keys,Nd.kids,Nd.ka,Nd.kc,Nd.da,Nd.dc,hA,bC,aT]at c0 c1 c2 c3 c4 c5 c6 c7 c8 c9 c10 c11 c12;obtain⟨K,hK⟩:=qeX wr.heap.size;have cS:H+1≤K:=by have:=aA.size;omega
      obtain⟨W2,bQ,bF,g2,bV⟩:=As wr (.cells #[.string ⟨n1.toArray⟩,.string ⟨a1.toArray⟩,.string ⟨u1.toArray⟩,.slice bY A bW,.int .i64 q1,.int .i64 cI,.int .i64 cB,.int .i64 bX,.int .u8 k,.string ⟨t.toArray⟩,.slice ka KL kc,.slice da DL dc,.int .i64 l] 63) K hK;have aR:Below (H+1) W1 W2:=aA.trans (bF.mono (by have:=aA.size;omega));have aE:=(hI.below (by rw[hK];exact bF)).steps i _ hs;have aK:=aE.2.keys;have aJ:=U1 (.mk k t ka kc ks da dc ds l) W2 aE.2.note;unfold Nd.val at aJ;simp only[Nd.kind,Nd.text,Nd.kV,Nd.dV,Nd.line,Nd.keys,Nd.kids,Nd.ka,Nd.kc,Nd.da,Nd.dc,bC,aT,bV]at aJ;obtain⟨SM,aZ⟩:=qeX (((Nd.mk k t ka kc ks da dc ds l).bare.small 18 150).isSome);rw[aZ]at aJ;unfold P21.smallS at hr;simp only[Ai.bare,aZ,hA]at hr;have aD:=Ab hr;have bD:=Ab aK;have bK:=Ab aJ;have bU:=Ab bQ;have I:=Ab aR;have HA:=Ab hA;have aY:=Ab aG;obtain⟨⟨y0,_⟩,⟨y1,_⟩,⟨y2,_⟩,⟨y3,_⟩,⟨y4,_⟩,⟨y5,_⟩,⟨y6,_⟩,⟨y7,_⟩,⟨y8,_⟩,⟨y9,_⟩,⟨cA,_⟩,⟨bT,_⟩,⟨cD,_⟩⟩:=Am g2;have G2:=Ab g2;clear hr aA hI aX bI aW aK aJ bQ bF g2 aR aE bC aT aZ aI hs aG;go_upto_region 7 with fail
      try rw[hK]
      rw[Aa bU];by_cases m1:n1.length≤200
      ·have p1:(n1.length:Int)≤200:=by omega
       by_cases m2:a1.length≤200
       ·have p2:(a1.length:Int)≤200:=by omega
        by_cases m3:u1.length≤200
        ·have p3:(u1.length:Int)≤200:=by omega
         by_cases m4:A≤70
         ·have p4:(A:Int)≤70:=by omega
          cases SM with
          |false=>
           have e:J=false:=by rw[←Aa aD];simp[]
           subst e;go_wp2_with (go_at_call 66;refine(Aa bK).mono ?_;rintro e w3 ⟨rfl,b3⟩)
           go_ret;exact⟨rfl,((Aa Z).trans ((Aa I).mono (by omega))).trans (b3.mono (by have:=(Aa I).size;omega))⟩
          |true=>
           have bE:=Aa aD;simp only[m1,m2,m3,m4,decide_true,Bool.true_and]at bE;have bZ:=Ab bE;clear bE aD;go_wp2_with (go_at_call 66;refine(Aa bK).mono ?_;rintro e w3 ⟨rfl,b3⟩;have g3:=(b3.block K (by omega)).trans (Aa G2);obtain⟨_,_,_,⟨x3,_⟩,_⟩:=Am g3;have G3:=Ab g3;clear g3)
           go_loopg [5] A (fun g s5 wx=>∃j:Nat,j+g=A∧s5=.int .i64 j∧Hid (Below (K+1) W2 wx)∧Hid (((aL.drop j).all (fun x=>decide (x.length≤200))&&bL)=J))
           case atStart=>exact⟨0,by omega,by go_num,Ab b3,by simpa using bZ⟩
           case round=>
            obtain⟨j,cQ,rfl,HY,bO⟩:=hrel;clear x3 y0 y1 y2 y3 y4 y5 y6 y7 y8 y9 cA bT cD;have aN:=Aa HY;have g4:=(aN.block K (by omega)).trans (Aa G2);obtain⟨_,_,_,⟨x3,_⟩,_⟩:=Am g4;cases gk with
            |zero=>
             have e1:(A:Int)≤(j:Int):=by omega
             have j1:decide ((j:Int)<(A:Int))=false:=by simp;omega
             have aC:=Aa bO;rw[List.drop_eq_nil_of_le (by rw[Aa HA];omega)]at aC;simp only[List.all_nil,Bool.true_and]at aC;have aQ:=Ab aC;clear aC aN g4;go_wp2;go_roundg g'
             case measure=>omega
             case rel=>
              refine⟨i+1,by omega,by go_num,Ab ((Aa I).trans ((Aa HY).mono (by omega))),Ab ?_⟩;rw[Aa aY];exact Aa aQ
            |succ g2=>
             have cK:(j:Int)<(A:Int):=by omega
             have cL:IntKind.i64.wrap ((j:Int)+1)=(j:Int)+1:=qG _ (by omega);obtain⟨x,hx⟩:=Ap (Aa HA) (show j<A by omega)
             have aH:aL.drop j=x::aL.drop (j+1):=by
              obtain⟨hl,e⟩:=qI.1 hx;rw[qL hl,e]
             have aC:=Aa bO;rw[aH,List.all_cons]at aC;have aQ:=Ab aC;obtain⟨rb,ro,rfl,cj⟩:=Aa bD j x hx;have cN:=(zC (a:=⟨rb,ro+j,none⟩) (aN.block rb (by have:=Ad cj;omega))).trans cj;clear aC aN g4 cj aH hx;by_cases m5:x.length≤200
             ·have p5:(x.length:Int)≤200:=by omega
              go_wp2;go_roundg g2
              case measure=>omega
              case rel=>
               refine⟨j+1,by omega,by go_num,HY,Ab ?_⟩;have:=Aa aQ;simpa[m5]using this
             ·have p5:(200:Int)<(x.length:Int):=by omega
              have e:J=false:=by rw[←Aa aQ];simp[m5]
              subst e;go_wp2;go_ret;exact⟨rfl,((Aa Z).trans ((Aa I).mono (by omega))).trans ((Aa HY).mono (by have:=(Aa I).size;omega))⟩
         ·have p4:(70:Int)<(A:Int):=by omega
          have e:J=false:=by rw[←Aa aD];simp[m4]
          subst e;go_wp2;go_ret;exact⟨rfl,(Aa Z).trans ((Aa I).mono (by omega))⟩
        ·have p3:(200:Int)<(u1.length:Int):=by omega
         have e:J=false:=by rw[←Aa aD];simp[m3]
         subst e;go_wp2;go_ret;exact⟨rfl,(Aa Z).trans ((Aa I).mono (by omega))⟩
       ·have p2:(200:Int)<(a1.length:Int):=by omega
        have e:J=false:=by rw[←Aa aD];simp[m2]
        subst e;go_wp2;go_ret;exact⟨rfl,(Aa Z).trans ((Aa I).mono (by omega))⟩
      ·have p1:(200:Int)<(n1.length:Int):=by omega
       have e:J=false:=by rw[←Aa aD];simp[m1]
       subst e;go_wp2;go_ret;exact⟨rfl,(Aa Z).trans ((Aa I).mono (by omega))⟩
   ·have i3:(30:Int)<(N:Int):=by omega
    have e:J=false:=by rw[←Aa HR];simp[h3]
    subst e;have i1:(nm.length:Int)≤200:=by omega
    have i2:(tx.length:Int)≤5000:=by omega
    go_enter Tryz.func12,Tryz.ntmps12
    go_upto_region 1 with fail
    try rw[hH]
    rw[Aa aP];go_wp2;go_ret;exact⟨rfl,Aa Z⟩
  ·have i2:(5000:Int)<(tx.length:Int):=by omega
   have e:J=false:=by rw[←Aa HR];simp[h2]
   subst e;have i1:(nm.length:Int)≤200:=by omega
   go_enter Tryz.func12,Tryz.ntmps12
   go_upto_region 1 with fail
   try rw[hH]
   rw[Aa aP];go_wp2;go_ret;exact⟨rfl,Aa Z⟩
 ·have i1:(200:Int)<(nm.length:Int):=by omega
  have e:J=false:=by rw[←Aa HR];simp[h1]
  subst e;go_enter Tryz.func12,Tryz.ntmps12
  go_upto_region 1 with fail
  try rw[hH]
  rw[Aa aP];go_wp2;go_ret;exact⟨rfl,Aa Z⟩
structure Eu (d:Af):Prop where
 name:d.name.length≤200
 text:d.text.length≤5000
 len:d.steps.length≤30
 st:∀s∈d.steps,s.name.length≤200∧s.action.length≤200∧s.undo.length≤200∧s.after.length≤70∧(∃m,s.note.bare.small 18 150=some m)∧∀x∈s.after,x.length≤200
theorem Cr{d:Af}(h:P21.small d.bare=true):Eu d:=by
 have h:P21.small ⟨d.name,d.text,d.steps.map Ai.bare⟩=true:=h;unfold P21.small at h;simp only[Bool.and_eq_true,decide_eq_true_eq,List.all_eq_true,qX]at h;refine⟨h.1,h.2.1,h.2.2.1,fun s hs=>?_⟩;have h4:P21.smallS ⟨s.name,s.action,s.undo,s.after,⟨s.most,s.first,s.factor⟩,s.limit,s.note.bare⟩=true:=h.2.2.2 s.bare (List.mem_map.2 ⟨s,hs,rfl⟩);unfold P21.smallS at h4;simp only[Bool.and_eq_true,decide_eq_true_eq,List.all_eq_true]at h4;exact⟨h4.1,h4.2.1,h4.2.2.1,h4.2.2.2.1,Option.isSome_iff_exists.1 h4.2.2.2.2.1,h4.2.2.2.2.2⟩
theorem Yj{s:Ai}{m:Nat}(h:s.note.bare.small 18 150=some m):Ov s.note.bare:=(P20.T.small_ok _ _ _ _ h (by omega)).2.2.2.1
theorem Eu.ok{d:Af}(h:Eu d):d.ok where
 fit:=⟨by have:=h.len;omega,by have:=h.name;unfold maxLen;omega,fun s hs=>by obtain⟨a,b,c,_⟩:=h.st s hs;unfold maxLen;omega,fun s hs=>by obtain⟨_,_,_,a,_⟩:=h.st s hs;omega⟩
 short:=⟨by have:=h.name;omega,by have:=h.text;omega,by have:=h.len;omega,fun s hs=>by
  obtain⟨a,b,c,e,⟨m,f⟩,g⟩:=h.st s hs
  exact⟨by omega,by omega,by omega,fun x hx=>by have:=g x hx;omega,by omega,Yj f⟩⟩
theorem Eu.cp{d:Af}(h:Eu d)(hn:d.steps≠[]):d.cp:=
 ⟨by have:=h.len;omega,fun e=>absurd e hn,fun s hs=>by obtain⟨_,_,_,a,_⟩:=h.st s hs;omega,fun s hs=>by obtain⟨_,_,_,_,⟨m,f⟩,_⟩:=h.st s hs;exact Yj f⟩
theorem Eu.af{d:Af}(h:Eu d):∀s∈d.steps,s.after.length≤1000000:=fun s hs=>by obtain⟨_,_,_,a,_⟩:=h.st s hs;omega
theorem Xv{d:P22.Def}(h:P28.clean d=true):d.steps≠[]:=fun e=>by
 unfold P28.clean P28.namesP at h;simp[e,P28.nt]at h
theorem J8(a:Option Addr)(c:Nat)(l:List Nat)(x:Nat)(w:World)(h:J4 w a l)(hl:l.length≤1000000) :
  Calls Tryz.prog 31 #[.slice a l.length c,.int .i64 (x:Int)] w fun e w'=>e=.returned (.bool (decide (x∈l)))∧w'=w:=by
 obtain⟨N,hN⟩:=qeX l.length;obtain⟨J,Z⟩:∃R,decide (x∈l)=R:=⟨_,rfl⟩;rw[hN]at hl ⊢;rw[Z];have HH:=Ab h;have HN:=Ab hN;have HR:=Ab Z;clear h hN Z;go_enter Tryz.func31,Tryz.ntmps31
 go_wp2
 go_loopg [5] N (fun g s5 wx=>∃i:Nat,i+g=N∧s5=.int .i64 i∧w=wx∧Hid (x∉l.take i))
 case atStart=>exact⟨0,by omega,by go_num,rfl,Ab (by simp)⟩
 case round=>
  obtain⟨i,aA,rfl,hw,HX⟩:=hrel;subst hw;cases gk with
  |zero=>
   have e1:(N:Int)≤(i:Int):=by omega
   have j1:decide ((i:Int)<(N:Int))=false:=by simp;omega
   have e:J=false:=by
    have h1:=Aa HX;rw[List.take_of_length_le (by rw[Aa HN];omega)]at h1;rw[←Aa HR];simpa using h1
   subst e;go_wp2;go_ret;exact⟨rfl,rfl⟩
  |succ g'=>
   have aC:(i:Int)<(N:Int):=by omega
   have hkj:IntKind.i64.wrap ((i:Int)+1)=(i:Int)+1:=qG _ (by omega);obtain⟨y,hy⟩:=Ap (Aa HN) (show i<N by omega);obtain⟨b,o,rfl,cj⟩:=Aa HH i y hy;unfold iv at cj;have HY:=Ab hy;clear hy;by_cases I:y=x
   ·subst I
    have e:J=true:=by
     rw[←Aa HR];simpa using qN (Aa HY)
    subst e;go_wp2;go_ret;exact⟨rfl,rfl⟩
   ·have aB:((y:Int)==(x:Int))=false:=by simp;omega
    go_wp2;go_roundg g'
    case measure=>omega
    case rel=>
     refine⟨i+1,by omega,by go_num,rfl,Ab ?_⟩;rw[List.take_add_one,Aa HY];intro hm;rcases zG.1 hm with hm|hm
     ·exact Aa HX hm
     ·simp at hm;exact I hm.symm
open Go.RowKit Go.Deep Go.ChangeShapes
theorem Vv{H:Type}{enc:TypeId × Value→H}{W:World}{I:Nat}{cs:List Value}{x:DataW H × List MemPlace}(h:DataW.trod enc Tryz.prog W 0 (fun _=>true) true I 56 cs=some x) :
  ∃(a:Option Addr) (ks:List (List UInt8)) (c:Nat),cs=[.slice a ks.length c]∧ks.length≤c∧c≤maxLen∧(∀y∈ks,y.length≤maxLen)∧Ft W a ks:=by
 rcases open_strs Tryz.underlying56 Tryz.underlying9 (by kernel_rfl) h with⟨rfl,_⟩|⟨a,len,cap,m,J,rfl,_,hl,hc,hm,_,hx⟩
 ·exact⟨none,[],0,rfl,qJ _,Nat.zero_le _,fun y hy=>by simp at hy,fun i y hy=>by simp at hy⟩
 have Z:len≤m:=by rw[hm,if_pos rfl];exact hl
 refine⟨some a,(List.range len).map (fun i=>(J i).data.toList),cap,by simp,by simpa using hl,hc,fun y hy=>?_,fun i y hy=>?_⟩
 ·obtain⟨i,hi,rfl⟩:=List.mem_map.1 hy;have hi:=List.mem_range.1 hi;have:=(hx i (by omega)).2;rw[Cq];exact this
 ·have hi:i<len:=by have:=(qI.1 hy).1;simpa using this
  rw[zJ,List.getElem?_range hi]at hy;simp only[Option.map_some,zK]at hy;subst hy;have h0:=(hx 0 (by omega)).1;rw[Cc]at h0;obtain⟨b,o,rfl⟩:=Ck h0;have h1:=(hx i (by omega)).1;rw[B7]at h1;exact⟨b,o,rfl,by rw[h1,Dr]⟩
def Ai.fit(s:Ai):Prop:=s.name.length≤maxLen∧s.action.length≤maxLen∧s.undo.length≤maxLen∧∀y∈s.after,y.length≤maxLen
theorem Vx{H:Type}{enc:TypeId × Value→H}{W:World}{aB:Nat}{cs:List Value}{x:DataW H × List MemPlace}(h:DataW.trod enc Tryz.prog W 0 (fun _=>true) true aB 63 cs=some x):∃s:Ai,cs=s.cs∧s.In W∧s.fit:=by
 obtain⟨xs,n,aK,_,hl,aA,hf⟩:=DataW.trod_struct Tryz.underlying63 h;have Z:Tryz.prog.cellsOf 63=13:=by kernel_rfl
 have aD:Tryz.prog.cellsOf 58=3:=by kernel_rfl
 have aG:Tryz.prog.cellsOf 61=5:=by kernel_rfl
 have aC:Tryz.prog.cellsOf 3=1:=by kernel_rfl
 have aH:Tryz.prog.cellsOf 9=1:=by kernel_rfl
 have aI:Tryz.prog.cellsOf 56=1:=by kernel_rfl
 rw[Z]at hl
 match cs,hl with
 | [c0,c1,c2,c3,c4,c5,c6,c7,c8,c9,c10,c11,c12],_=>
  match xs,aA with
  | [y0,y1,y2,y3,y4,y5,y6],_=>
   have g0:=hf 0 _ rfl;have g1:=hf 1 _ rfl;have g2:=hf 2 _ rfl;have g3:=hf 3 _ rfl;have g4:=hf 4 _ rfl;have g5:=hf 5 _ rfl;have g6:=hf 6 _ rfl;simp only[aD,aG,aC,aH,aI,List.drop_zero,List.drop_succ_cons,List.take_succ_cons,List.take_zero,zF,List.getElem?_cons_succ]at g0 g1 g2 g3 g4 g5 g6;obtain⟨t0,e0,_,w0⟩:=DataW.trod_string Tryz.underlying9 g0;obtain⟨t1,e1,_,w1⟩:=DataW.trod_string Tryz.underlying9 g1;obtain⟨t2,e2,_,w2⟩:=DataW.trod_string Tryz.underlying9 g2;obtain⟨aa,af,ac,e3,q1,q2,q3,q4⟩:=Vv g3;obtain⟨zs,n2,_,_,aJ,I,J⟩:=DataW.trod_struct Tryz.underlying58 g4
   match zs,I with
   | [z0,z1,z2],_=>
    have r0:=J 0 _ rfl;have r1:=J 1 _ rfl;have r2:=J 2 _ rfl;simp only[aC,List.drop_zero,List.drop_succ_cons,List.take_succ_cons,List.take_zero,zF,List.getElem?_cons_succ]at r0 r1 r2;obtain⟨m0,f0,_,_⟩:=DataW.trod_int Tryz.underlying3 r0;obtain⟨m1,f1,_,_⟩:=DataW.trod_int Tryz.underlying3 r1;obtain⟨m2,f2,_,_⟩:=DataW.trod_int Tryz.underlying3 r2;obtain⟨li,e5,_,_⟩:=DataW.trod_int Tryz.underlying3 g5;obtain⟨nd,e6,aE⟩:=Vw _ _ _ g6;injection e0 with e0;injection e1 with e1;injection e2 with e2;injection e3 with e3;injection f0 with f0;injection f1 with f1;injection f2 with f2;injection e5 with e5;simp only[Nd.cs,List.cons.injEq,and_true]at e6;obtain⟨rfl,rfl,rfl,rfl,rfl⟩:=e6;subst e0 e1 e2 e3 f0 f1 f2 e5;refine⟨⟨t0.data.toList,t1.data.toList,t2.data.toList,aa,ac,af,m0,m1,m2,li,nd⟩,by simp[Ai.cs,Ai.aV,Dr],⟨q4,q1,q2,aE⟩,by rw[Cq];exact w0,by rw[Cq];exact w1,by rw[Cq];exact w2,q3⟩
theorem R7{p:Nat→Ai→Prop}{n:Nat}(h:∀i,i<n→∃x,p i x):∃f:Nat→Ai,∀i,i<n→p i (f i):=by
 refine⟨fun i=>if hi:i<n then Classical.choose (h i hi) else Ai.zero,fun i hi=>?_⟩;simp only[hi,dif_pos];exact Classical.choose_spec (h i hi)
theorem Vy{H:Type}{enc:TypeId × Value→H}{W:World}{aA:Nat}{cs:List Value}{x:DataW H × List MemPlace}(h:DataW.trod enc Tryz.prog W 0 (fun _=>true) true aA 22 cs=some x) :
  ∃(a:Option Addr) (ss:List Ai) (c:Nat),cs=[.slice a ss.length c]∧ss.length≤c∧c≤maxLen∧Me.InL W a ss∧∀s∈ss,s.fit:=by
 have Z:Tryz.prog.cellsOf 63=13:=by kernel_rfl
 have aE:Tryz.prog.cellsOf 22=1:=by kernel_rfl
 rcases DataW.trod_slice Tryz.underlying22 h with⟨e3,_⟩|⟨a,len,cap,aH,rest,m,hm,e3,_,_,aD,aI,aK,aC,_,_⟩
 ·exact⟨none,[],0,e3,qJ _,Nat.zero_le _,El.InL.nil _ _,fun s hs=>by simp at hs⟩
 have aB:∀i,i<len→∃d:Ai,W.cells? 0 (a.add (i*13)) 13=some d.cs∧d.In W∧d.fit:=by
  intro i hi;have h1:=aC i hi;rw[Z,qO (by omega)]at h1;obtain⟨aJ,h2,h3⟩:=Option.bind_eq_some_iff.1 h1;obtain⟨d,rfl,hd⟩:=Vx h3;exact⟨d,h2,hd⟩
 obtain⟨f,I⟩:=R7 aB;refine⟨some a,(List.range len).map f,cap,by simpa[aE]using e3,by simpa using aD,aI,fun j d hj=>?_,fun s hs=>?_⟩
 ·have hi:j<len:=by have:=(qI.1 hj).1;simpa using this
  rw[zJ,List.getElem?_range hi]at hj;simp only[Option.map_some,zK]at hj;subst hj;obtain⟨h0,hd,_⟩:=I j hi;obtain⟨hz,_⟩:=I 0 (by omega);obtain⟨_,_,z0⟩:=World.cells?_some hz;have z1:=z0 0 (by simp[Ai.cs]);rw[Nat.zero_mul,Cc,Cc]at z1;rw[qO (by simp[Ai.cs])]at z1;obtain⟨b,o,rfl⟩:=Ck z1;obtain⟨_,_,J⟩:=World.cells?_some h0;refine⟨⟨b,o,rfl,fun i v hv=>?_⟩,hd⟩;have aG:i<13:=by have:=(qI.1 hv).1;simpa[Ai.cs]using this
  have d0:=J i aG;rw[B7,B7]at d0;rw[←hv];exact d0
 ·obtain⟨i,hi,rfl⟩:=List.mem_map.1 hs;exact(I i (List.mem_range.1 hi)).2.2
theorem Zu{H:Type}{enc:TypeId × Value→H}{W:World}{r:Reach}{b0:Nat}{v:Value}{d:DataW H}{ps:List MemPlace}(J:Value.okWide Tryz.prog W r b0 24 v)
  (hd:DataW.Trod enc Tryz.prog W 0 (fun _=>true) true 24 v d ps):∃D:Af,v=D.val∧D.In W∧D.name.length≤maxLen∧D.text.length≤maxLen∧∀s∈D.steps,s.fit:=by
 obtain⟨aE,h⟩:=hd;obtain⟨cs,rfl,hsz⟩:=Go.WideShapes.okWide_struct Tryz.underlying24 J;obtain⟨xs,n,aG,_,hl,Z,hf⟩:=DataW.trod_struct Tryz.underlying24 h;have aB:Tryz.prog.cellsOf 24=3:=by kernel_rfl
 have aC:Tryz.prog.cellsOf 9=1:=by kernel_rfl
 have aD:Tryz.prog.cellsOf 22=1:=by kernel_rfl
 rw[aB]at hl;obtain⟨l,I⟩:=qeX ((Value.agg cs).cells.toList);rw[I]at hl hf
 match l,hl with
 | [c0,c1,c2],_=>
  match xs,Z with
  | [y0,y1,y2],_=>
   have g0:=hf 0 _ rfl;have g1:=hf 1 _ rfl;have g2:=hf 2 _ rfl;simp only[aC,aD,List.drop_zero,List.drop_succ_cons,List.take_succ_cons,List.take_zero,zF,List.getElem?_cons_succ]at g0 g1 g2;obtain⟨t0,e0,_,w0⟩:=DataW.trod_string Tryz.underlying9 g0;obtain⟨t1,e1,_,w1⟩:=DataW.trod_string Tryz.underlying9 g1;obtain⟨a,ss,c,e2,q1,q2,q3,q4⟩:=Vy g2;injection e0 with e0;injection e1 with e1;injection e2 with e2;subst e0 e1 e2;have aA:cs.toList=[.string t0,.string t1,.slice a ss.length c]:=by simpa[Value.cells]using I
   refine⟨⟨t0.data.toList,t1.data.toList,a,c,ss⟩,?_,⟨q3,q1,q2⟩,by rw[Cq];exact w0,by rw[Cq];exact w1,q4⟩;show Value.agg cs=Value.agg _
   congr 1
   rw[←Array.toArray_toList (xs:=cs),aA]
   first|done|simp[Dr]
def Z6{α:Type}(W:World)(k:Nat)(cs:α→List Value)(ad:Option Addr)(l:List α):Prop:=∀i z,l[i]?=some z→∃b o,ad=some ⟨b,o,none⟩∧∀j u,(cs z)[j]?=some u→W.cell? ⟨b,o+i*k+j,none⟩=some u
theorem Xt{W:World}{b o:Nat}{v:Value}(h:W.cell? ⟨b,o,none⟩=some v):b<W.heap.size:=by
 rcases Nat.lt_or_ge b W.heap.size with h1|h1
 ·exact h1
 ·have h9:W.heap[b]?=none:=Array.getElem?_eq_none h1;simp[World.cell?,h9]at h
theorem Z6.below{α:Type}{W W':World}{k:Nat}{cs:α→List Value}{ad:Option Addr}{l:List α}(h:Z6 W k cs ad l)(hb:Below W.heap.size W W'):Z6 W' k cs ad l:=fun i z I=>by
 obtain⟨b,o,e,hc⟩:=h i z I;exact⟨b,o,e,fun j u hu=>(zC (a:=⟨b,o+i*k+j,none⟩) (hb.block b (Xt (hc j u hu)))).trans (hc j u hu)⟩
theorem Zg{α:Type}[Inhabited α]{p:Nat→α→Prop}{n:Nat}(h:∀i,i<n→∃x,p i x):∃f:Nat→α,∀i,i<n→p i (f i):=by
 refine⟨fun i=>if hi:i<n then Classical.choose (h i hi) else default,fun i hi=>?_⟩;simp only[hi,dif_pos];exact Classical.choose_spec (h i hi)
theorem Yn{α:Type}[Inhabited α]{tS tE:TypeId}{k:Nat}{csOf:α→List Value}(hk:0<k)(I:∀z,(csOf z).length=k)(hu:Tryz.prog.underlying tS=some (.slice tE))(aI:Tryz.prog.cellsOf tE=k)(aM:Tryz.prog.cellsOf tS=1)
  {H:Type} {enc:TypeId × Value→H} {W:World} (aD:∀{J:Nat} {cs:List Value} {x:DataW H × List MemPlace},DataW.trod enc Tryz.prog W 0 (fun _=>true) true J tE cs=some x→∃z,cs=csOf z)
  {r:Reach} {b0:Nat} {v:Value} {d:DataW H} {ps:List MemPlace} (aB:Value.okWide Tryz.prog W r b0 tS v)
  (hd:DataW.Trod enc Tryz.prog W 0 (fun _=>true) true tS v d ps):∃(ad:Option Addr) (l:List α) (cap:Nat),v=.slice ad l.length cap∧Z6 W k csOf ad l∧l.length≤maxLen:=by
 obtain⟨J,h⟩:=hd;obtain⟨sa,sl,sc,rfl⟩:=Go.WideShapes.okWide_slice hu aB;rcases DataW.trod_slice hu h with⟨e3,_⟩|⟨a,len,cap,aH,rest,m,hm,e3,_,_,aJ,aN,aL,aE,_,_⟩
 ·simp[Value.cells]at e3;obtain⟨rfl,rfl,rfl⟩:=e3;exact⟨none,[],0,rfl,fun i z hz=>by simp at hz,Nat.zero_le _⟩
 ·simp[Value.cells]at e3;obtain⟨rfl,rfl,rfl⟩:=e3
  have Z:∀i,i<sl→∃z:α,W.cells? 0 (a.add (i*k)) k=some (csOf z):=by
   intro i hi;have h1:=aE i hi;rw[aI,qO (by omega)]at h1;obtain⟨aK,h2,h3⟩:=Option.bind_eq_some_iff.1 h1;obtain⟨z,rfl⟩:=aD h3;exact⟨z,h2⟩
  obtain⟨f,aC⟩:=Zg Z;refine⟨some a,(List.range sl).map f,sc,by simp,fun j z hj=>?_,by simp;omega⟩;have hi:j<sl:=by have:=(qI.1 hj).1;simpa using this
  rw[zJ,List.getElem?_range hi]at hj;simp only[Option.map_some,zK]at hj;subst hj;have h0:=aC j hi;have hz:=aC 0 (by omega);obtain⟨_,_,z0⟩:=World.cells?_some hz;have z1:=z0 0 hk;rw[Nat.zero_mul,Cc,Cc]at z1;rw[qO (by rw[I];exact hk)]at z1;obtain⟨b,o,rfl⟩:=Ck z1;obtain⟨_,_,aA⟩:=World.cells?_some h0;refine⟨b,o,rfl,fun i v hv=>?_⟩;have aG:i<k:=by have:=(qI.1 hv).1;rwa [I]at this
  have d0:=aA i aG;rw[B7,B7]at d0;rw[←hv];exact d0
theorem Qbd{n:Int}(h:(Lit.int .u8 n).wf=true):∃m:Nat,n=(m:Int):=by
 simp only[Lit.wf,Bool.and_eq_true,decide_eq_true_eq]at h;have h1:(0:Int)≤n:=h.1;exact⟨n.toNat,by omega⟩
theorem S2{H:Type}{enc:TypeId × Value→H}{W:World}{J:Nat}{cs:List Value}{x:DataW H × List MemPlace}(h:DataW.trod enc Tryz.prog W 0 (fun _=>true) true J 37 cs=some x) :
  ∃(s a:Int) (u:Bool) (o:Nat),cs=[.int .i64 s,.int .i64 a,.bool u,.int .u8 o]:=by
 obtain⟨xs,n,aC,_,hl,I,hf⟩:=DataW.trod_struct Tryz.underlying37 h;have hc:Tryz.prog.cellsOf 37=4:=by kernel_rfl
 have aA:Tryz.prog.cellsOf 3=1:=by kernel_rfl
 have aB:Tryz.prog.cellsOf 4=1:=by kernel_rfl
 have Z:Tryz.prog.cellsOf 5=1:=by kernel_rfl
 rw[hc]at hl
 match cs,hl with
 | [c0,c1,c2,c3],_=>
  match xs,I with
  | [y0,y1,y2,y3],_=>
   have g0:=hf 0 _ rfl;have g1:=hf 1 _ rfl;have g2:=hf 2 _ rfl;have g3:=hf 3 _ rfl;simp only[aA,aB,Z,List.drop_zero,List.drop_succ_cons,List.take_succ_cons,List.take_zero,zF,List.getElem?_cons_succ]at g0 g1 g2 g3;obtain⟨n0,e0,_⟩:=DataW.trod_int Tryz.underlying3 g0;obtain⟨n1,e1,_⟩:=DataW.trod_int Tryz.underlying3 g1;obtain⟨n2,e2,_⟩:=DataW.trod_bool Tryz.underlying4 g2;obtain⟨n3,e3,w3⟩:=DataW.trod_int Tryz.underlying5 g3;injection e0 with e0;injection e1 with e1;injection e2 with e2;injection e3 with e3;subst e0 e1 e2 e3;obtain⟨m,rfl⟩:=Qbd w3.2;exact⟨n0,n1,n2,m,rfl⟩
theorem I2{W:World}{v:Value}{l:List Nat}(h:Iv W v (l.map fun k:Nat=>(k:Int))):∃a c,v=.slice a l.length c∧l.length≤c∧J4 W a l:=by
 obtain⟨a,c,rfl,⟨I,_⟩,h2⟩:=h;refine⟨a,c,by simp,by simpa using I,fun j x hx=>?_⟩;exact h2 j (x:Int) (by rw[zJ,hx];rfl)
theorem J4.below'{W W':World}{a:Option Addr}{l:List Nat}(h:J4 W a l)(hb:Below W.heap.size W W'):J4 W' a l:=fun i x hx=>by
 obtain⟨b,o,e,hc⟩:=h i x hx;exact⟨b,o,e,(zC (a:=⟨b,o+i,none⟩) (hb.block b (Ad hc))).trans hc⟩
def Qa7(W:World)(v:Value):Prop:=∃D:Af,v=D.val∧D.In W∧D.name.length≤maxLen∧D.text.length≤maxLen∧∀s∈D.steps,s.fit
end Go.Proofs.YtefokfbgpfcbkaaGreat
