import Derived.Test.YtefokfbgpfcbkaaGreatRS32aZ
import Derived.Test.YtefokfbgpfcbkaaGreatS32qZ
set_option maxRecDepth 100000
set_option maxHeartbeats 8000000
set_option linter.unusedVariables false
set_option linter.unusedSimpArgs false
namespace Go.Proofs.YtefokfbgpfcbkaaGreat
open Go.RowKit
theorem Jk(a1 a2:Option Addr)(c1 c2:Nat)(os:List P32.Order)(w:World)(h1:Cs w a1 os)(h2:Cs w a2 os)(hl:os.length≤1000000) :
  Calls Tryz.prog 55 #[.slice a1 os.length c1,.slice a2 os.length c2] w fun e w'=>e=.returned (.bool true)∧Below w.heap.size w w':=by
 obtain⟨N,hN⟩:=qeX os.length;rw[hN]at hl ⊢;have H1:=Ab h1;have H2:=Ab h2;have HN:=Ab hN;clear h1 h2 hN;go_enter Tryz.func55,Tryz.ntmps55
 go_wp2
 go_loopg [5] N (fun g s5 wx=>∃i:Nat,i+g=N∧s5=.int .i64 i∧Hid (Below w.heap.size w wx))
 case atStart=>exact⟨0,by omega,by go_num,Ab (qU _ _)⟩
 case round=>
  obtain⟨i,aA,rfl,I⟩:=hrel;cases gk with
  |zero=>
   have e1:(N:Int)≤(i:Int):=by omega
   have j1:decide ((i:Int)<(N:Int))=false:=by simp;omega
   go_wp2;go_ret;exact⟨rfl,Aa I⟩
  |succ g'=>
   have aC:(i:Int)<(N:Int):=by omega
   have aB:IntKind.i64.wrap ((i:Int)+1)=(i:Int)+1:=qG _ (by omega);obtain⟨o,ho⟩:=Ap (Aa HN) (show i<N by omega);obtain⟨g,q,rfl,x0,x1,x2,x3⟩:=(Aa H1).below (Aa I) i o ho;obtain⟨g2,q2,rfl,y0,y1,y2,y3⟩:=(Aa H2).below (Aa I) i o ho;obtain⟨oi,J,ou,Z⟩:=o;simp only at x0 x1 x2 x3 y0 y1 y2 y3;go_upto_region 6 with fail
   go_quiet (fail)
   go_wp2;go_roundg g'
   case measure=>omega
   case rel=>exact⟨i+1,by omega,by go_num,Ab (Ac (Aa I))⟩
theorem Xp(f:Nat→Bool)(i:Nat):((List.range (i+1)).all f)=((List.range i).all f&&f i):=by
 rw[List.range_succ,List.all_append];simp
theorem Rs{d:Af}{C b:Nat}{x:P32.S × List P32.Order}{M R:Nat→Prop}(n:Int)(w:World)(h:Cz d C b x M R w)(hI:P32.Inv d.bare x.1)(aC:x.1.status=1)(bL:d.steps.length≤100000)(hn:x.2.length≤900000) :
  Calls Tryz.prog 180 #[qP0 b,.int .i64 n] w fun e w'=>e=.returned (.bool (P32.once d.bare n x).isSome)∧∃M',Cz d C b ((P32.once d.bare n x).getD x) M' R w'∧KM M w M' w':=by
 obtain⟨gd,gu,ra,rc,vs,o,h1,hM,hR⟩:=h.ex;have c8:w.cell? ⟨b,8,none⟩=some (.int .u8 (x.1.status:Int)):=h1.cell (j:=8) rfl;have f8:=h1.froz 8;have c4:w.cell? ⟨b,4,none⟩=some (.slice (some ⟨gd,0,none⟩) d.steps.length d.steps.length):=h1.cell (j:=4) rfl;rw[aC]at c8;obtain⟨N,hN⟩:=qeX d.steps.length;have bQ:d.bare.steps.length=N:=(Md.blen d).trans hN;rw[hN]at c4 bL;have HN:=Ab hN;have aE:=Ab bQ;have H1:=Ab h1;have HX:=Ab h;have HI:=Ab hI;have aH:=Ab aC;have HM:=Ab hM;have HR:=Ab hR;clear h h1 hN bQ hI aC hM hR;go_enter Tryz.func180,Tryz.ntmps180
 go_wp2
 go_loopg [5,6] N (fun g s5 s6 wx=>∃i:Nat,i+g=N∧s5=.bool ((List.range i).all fun j=>(x.1.run j false).phase==3)∧s6=.int .i64 i∧w=wx∧Hid (∀j,j<i→(x.1.run j false).phase≠4))
 case atStart=>exact⟨0,by omega,rfl,by go_num,rfl,Ab (fun j hj=>by omega)⟩
 case round=>
  obtain⟨i,cO,rfl,rfl,hw,aJ⟩:=hrel;subst hw;cases gk with
  |zero=>
   have e1:(N:Int)≤(i:Int):=by omega
   have j1:decide ((i:Int)<(N:Int))=false:=by simp;omega
   obtain rfl:i=N:=by omega
   have aG:P32.anyP d.bare x.1 4=false:=by
    unfold P32.anyP;rw[Aa aE,List.any_eq_false];intro j hj;have:=Aa aJ j (List.mem_range.1 hj);simpa using this
   obtain⟨AL,aA⟩:∃a,((List.range i).all fun j=>(x.1.run j false).phase==3)=a:=⟨_,rfl⟩;rw[aA];cases AL with
   |true=>
    have I:P32.once d.bare n x=some (⟨x.1.run,x.1.done,x.1.undone,3⟩,x.2):=by
     unfold P32.once;rw[if_pos (Aa aH),aG,Aa aE,aA];rfl
    have aB:=Ab I;clear I aG aA;go_wp2;go_ret;have cD:=(Aa H1).status 3;have hk:=(Aa H1).keepsSet (y:=b) (by simp) 8 (.int .u8 3);rw[Aa aB];refine⟨rfl,_,⟨_,_,_,_,_,_,cD,rfl,Aa HR⟩,?_⟩;rw[Aa HM];exact hk
   |false=>
    have bI:∀z,(List.range i).find? (P32.ready d.bare x.1)=z→P32.once d.bare n x=z.map fun i=>P32.put i false (P31.begin_ (P32.stepAt d.bare i) n) x:=fun z hz=>by
     unfold P32.once;rw[if_pos (Aa aH),aG,Aa aE,aA,hz];rfl
    have bF:=Ab bI;have Z:(P28.refs d.bare).length=i:=(P28.refs_len _).trans (Aa aE);have bW:=Ab Z;clear bI aG aA Z aJ c8 c4 f8 j1 e1;have k8:w.cell? ⟨b,8,none⟩=some (.int .u8 1):=by have:=(Aa H1).cell (j:=8) (v:=.int .u8 (x.1.status:Int)) rfl;rw[Aa aH]at this;exact this
    have k4:w.cell? ⟨b,4,none⟩=some (.slice (some ⟨gd,0,none⟩) d.steps.length d.steps.length):=(Aa H1).cell (j:=4) rfl;rw[Aa HN]at k4;have e1:(i:Int)≤(i:Int):=Int.le_refl _;have j1:decide ((i:Int)<(i:Int))=false:=by simp
    go_wp2;clear k8 k4 e1 j1
    go_loopg [7] i (fun g s7 wx=>∃k:Nat,k+g=i∧s7=.int .i64 k∧Hid (Below w.heap.size w wx)∧Hid (∀j,j<k→P32.ready d.bare x.1 j=false))
    case atStart=>exact⟨0,by omega,by go_num,Ab (qU _ _),Ab (fun j hj=>by omega)⟩
    case round=>
     obtain⟨k,cP,rfl,aR,aT⟩:=hrel;have h2:=(Aa H1).below (Aa aR);have k8:wr.cell? ⟨b,8,none⟩=some (.int .u8 1):=by have:=h2.cell (j:=8) (v:=.int .u8 (x.1.status:Int)) rfl;rw[Aa aH]at this;exact this
     have k4:wr.cell? ⟨b,4,none⟩=some (.slice (some ⟨gd,0,none⟩) d.steps.length d.steps.length):=h2.cell (j:=4) rfl;rw[Aa HN]at k4;cases gk with
     |zero=>
      have e1:(i:Int)≤(k:Int):=by omega
      have j1:decide ((k:Int)<(i:Int))=false:=by simp;omega
      have I:=Aa bF none (List.find?_eq_none.2 (fun j hj=>by
       have:=Aa aT j (by have:=List.mem_range.1 hj;omega)
       rw[this];simp))
      have aB:=Ab I;have cK:=Ab h2;clear I h2;go_wp2;go_ret;rw[Aa aB];exact⟨rfl,_,⟨_,_,_,_,_,_,Aa cK,Aa HM,Aa HR⟩,KM.of_below (KM.refl _ _) (Aa aR)⟩
     |succ g2=>
      have cC:(k:Int)<(i:Int):=by omega
      have cU:IntKind.i64.wrap ((k:Int)+1)=(k:Int)+1:=qG _ (by omega);obtain⟨⟨y0,z0⟩,_,_,_⟩:=h2.dr.cells (i:=k) (by rw[Aa HN];omega);obtain⟨p,hp⟩:=qeX ((x.1.run k false).phase);rw[hp]at y0;by_cases h0:p=0
      ·have m0:((p:Int)==0)=true:=by rw[h0];rfl
       obtain⟨rl,Z⟩:∃l,(P28.refs d.bare)[k]?=some l:=Ap (Aa bW) (by omega);obtain⟨rg,va,vc,aS,aK,aQ⟩:=h2.rows.get Z;have k3:wr.cell? ⟨b,3,none⟩=some (.slice ra d.steps.length rc):=h2.cell (j:=3) rfl;rw[Aa HN,aS]at k3;have aY:∀q∈rl,q<i:=fun q hq=>by have:=P28.refs_lt (qN Z) hq;rwa [Aa aE]at this
       have aX:P32.ready d.bare x.1 k=rl.all fun q=>(x.1.run q false).phase==3:=by
        unfold P32.ready;rw[hp,h0,List.getD_eq_getElem?_getD,Z];rfl
       have aZ:rl.length≤maxLen:=by
        have cI:k<vs.length:=by rw[h2.rows.len,Aa bW];omega
        obtain⟨_,_,_,cQ,cT,_⟩:=(h2.rows.row k _ rl (qO cI) Z).slice;omega
       obtain⟨RL,bD⟩:∃z,rl.length=z:=⟨_,rfl⟩;rw[bD]at aZ;unfold maxLen at aZ;have cL:=Ab Z;have bT:=Ab aX;have bU:=Ab aY;have aO:=Ab bD;clear Z aX aY bD aQ aK k3 aS h2 h0 hp rg va vc;go_upto_region 17 with fail
       clear y0 z0 k8 k4;have k3:wr.cell? ⟨b,3,none⟩=some (.slice ra d.steps.length rc):=((Aa H1).below (Aa aR)).cell (j:=3) rfl;go_wp2;clear k3
       go_loopg [8,9] RL (fun g s8 s9 wx=>∃j:Nat,j+g=RL∧s8=.bool ((rl.take j).all fun q=>(x.1.run q false).phase==3)∧s9=.int .i64 j∧Hid (Below w.heap.size w wx))
       case atStart=>exact⟨0,by omega,rfl,by go_num,aR⟩
       case round=>
        obtain⟨j,cR,rfl,rfl,aI⟩:=hrel;have h3:=(Aa H1).below (Aa aI);obtain⟨rg,va,vc,aS,aK,aQ⟩:=h3.rows.get (Aa cL);rw[Aa aO]at aK;have k3:wr.cell? ⟨b,3,none⟩=some (.slice ra d.steps.length rc):=h3.cell (j:=3) rfl;rw[Aa HN,aS]at k3;have k4:wr.cell? ⟨b,4,none⟩=some (.slice (some ⟨gd,0,none⟩) d.steps.length d.steps.length):=h3.cell (j:=4) rfl;rw[Aa HN]at k4;have k8:wr.cell? ⟨b,8,none⟩=some (.int .u8 1):=by have:=h3.cell (j:=8) (v:=.int .u8 (x.1.status:Int)) rfl;rw[Aa aH]at this;exact this
        cases gk with
        |zero=>
         have e1:(RL:Int)≤(j:Int):=by omega
         have j1:decide ((j:Int)<(RL:Int))=false:=by simp;omega
         obtain rfl:j=RL:=by omega
         have aD:(rl.take j).all (fun q=>(x.1.run q false).phase==3)=P32.ready d.bare x.1 k:=by
          rw[List.take_of_length_le (by rw[Aa aO];exact qJ _),Aa bT]
         rw[aD];cases hrd:P32.ready d.bare x.1 k with
         |true=>
          obtain⟨s1,aC⟩:∃s,d.steps[k]?=some s:=⟨_,qO (by rw[Aa HN];omega)⟩;have I:=Aa bF (some k) (P32.find_first (by omega) hrd (Aa aT));simp only[Option.map_some,Bt d aC]at I;obtain⟨⟨sb,so,bK,bJ⟩,_⟩:=h3.din.steps k s1 aC;have k2:wr.cell? ⟨b,2,none⟩=some (.slice d.sa d.steps.length d.sc):=h3.cell (j:=2) rfl;rw[bK,Aa HN]at k2;obtain⟨⟨t0,t1,t2,t3⟩,⟨t4,t5,t6,t7⟩,⟨t8,t9,cJ,cB,cS⟩⟩:=Ar bJ;have aL:=Ki s1 n;obtain⟨⟨bp,bn,bt,bl⟩,bO⟩:∃y,P31.begin_ s1.bare n=y:=⟨_,rfl⟩;rw[bO]at aL I;unfold Au Ai.val at aL;simp only[Ai.aV,Nd.kV,Nd.dV]at aL t3 cJ cB;have bY:=Ab aL;have aB:=Ab I;have H3:=Ab h3
          have cA:x.1.done.length≤1000000:=by
           have:=P32.len_le d.bare.steps.length x.1.done (Aa HI).nodup (fun i hi=>(Aa HI).lt hi);rw[Aa aE]at this;omega
          clear aL I h3 bJ bK aC bO hrd aD aQ;go_upto_region 23 with(first|(go_at_call 209;refine(Aa bY _).mono ?_;rintro e w4 ⟨rfl,b4⟩;have aU:=Fy k false ⟨bp,bn,bt,bl⟩ w4 ⟨_,_,_,_,_,_,(Aa H3).below b4,Aa HM,Aa HR⟩ (by rw[Aa HN];omega) (by rw[Aa HN];omega) (by omega) cA;unfold Au at aU;simp only at aU;have cG:=Ab aU;have bZ:=Ab ((Aa aI).trans (b4.mono (Aa aI).size));clear aU b4)|(go_at_call 135;with_reducible refine(Aa cG).mono ?_;rintro e w9 ⟨⟨v9,rfl⟩,M9,h9,k9⟩))
          go_wp2;go_ret;rw[Aa aB];exact⟨rfl,M9,h9,(KM.of_below (KM.refl _ _) (Aa bZ)).trans k9⟩
         |false=>
          have aN:Hid (∀j,j<k+1→P32.ready d.bare x.1 j=false):=Ab (fun j hj=>by
           by_cases bC:j=k
           ·rw[bC];exact hrd
           ·exact Aa aT j (by omega))
          clear h3 hrd aD aQ;go_wp2;go_roundg g2
          case measure=>omega
          case rel=>exact⟨k+1,by omega,by go_num,aI,aN⟩
        |succ g3=>
         have cM:(j:Int)<(RL:Int):=by omega
         have cW:IntKind.i64.wrap ((j:Int)+1)=(j:Int)+1:=qG _ (by omega);obtain⟨q,hq⟩:=Ap (Aa aO) (show j<RL by omega);obtain⟨ig,io,rfl,cx⟩:=aQ j q hq;unfold iv at cx;have bX:=Aa bU q (qN hq);have cN:(q:Int)<(i:Int):=by omega
         obtain⟨⟨y0,z0⟩,_,_,_⟩:=h3.dr.cells (i:=q) (by rw[Aa HN];exact bX)
         have J:(rl.take (j+1)).all (fun q=>(x.1.run q false).phase==3)=((rl.take j).all (fun q=>(x.1.run q false).phase==3)&&((x.1.run q false).phase==3)):=by
          rw[List.take_add_one,hq,List.all_append];simp
         obtain⟨p3,bG⟩:∃p,(x.1.run q false).phase=p:=⟨_,rfl⟩;rw[bG]at y0 J
         have e3:((p3:Int)==3)=(p3==3):=by
          by_cases h3:p3=3
          ·rw[h3];rfl
          ·rw[beq_eq_false_iff_ne.2 h3];simp;omega
         obtain⟨B3,aM⟩:∃q,(p3==3)=q:=⟨_,rfl⟩;rw[aM]at e3 J;obtain⟨AJ,bE⟩:∃a,((rl.take j).all fun q=>(x.1.run q false).phase==3)=a:=⟨_,rfl⟩;rw[bE]at J ⊢;have aP:=Ab J;clear J bE aM bG hq h3;cases AJ with
         |true=>
          go_upto_region 20 with fail
          go_quiet (fail)
          go_wp2;go_roundg g3
          case measure=>omega
          case rel=>exact⟨j+1,by omega,by rw[Aa aP];rfl,by go_num,Ab (Ac (Aa aI))⟩
         |false=>
          go_upto_region 20 with fail
          go_quiet (fail)
          go_wp2;go_roundg g3
          case measure=>omega
          case rel=>exact⟨j+1,by omega,by rw[Aa aP];rfl,by go_num,Ab (Ac (Aa aI))⟩
      ·have m0:((p:Int)==0)=false:=by simp;omega
       have bM:P32.ready d.bare x.1 k=false:=by
        unfold P32.ready;rw[hp,beq_eq_false_iff_ne.2 h0,Bool.false_and]
       have aN:Hid (∀j,j<k+1→P32.ready d.bare x.1 j=false):=Ab (fun j hj=>by
        by_cases bC:j=k
        ·rw[bC];exact bM
        ·exact Aa aT j (by omega))
       clear h2 bM h0 hp;go_wp2;go_roundg g2
       case measure=>omega
       case rel=>exact⟨k+1,by omega,by go_num,aR,aN⟩
  |succ g'=>
   have cC:(i:Int)<(N:Int):=by omega
   have cV:IntKind.i64.wrap ((i:Int)+1)=(i:Int)+1:=qG _ (by omega);obtain⟨⟨y0,z0⟩,_,_,_⟩:=(Aa H1).dr.cells (i:=i) (by rw[Aa HN];omega);obtain⟨p,hp⟩:=qeX ((x.1.run i false).phase);rw[hp]at y0;by_cases h4:p=4
   ·have m4:((p:Int)==4)=true:=by rw[h4];rfl
    have aW:P32.anyP d.bare x.1 4=true:=by
     unfold P32.anyP;rw[Aa aE,List.any_eq_true];exact⟨i,List.mem_range.2 (by omega),by rw[hp,h4];rfl⟩
    have I:P32.once d.bare n x=some (P32.halt d.bare x.1,x.2):=by
     unfold P32.once;rw[if_pos (Aa aH),if_pos aW]
    have aB:=Ab I;have cF:=Ab (Ml w (Aa HX) (by rw[Aa HN];exact bL));clear I aW h4 hp;go_wp2_with (go_at_call 138;with_reducible refine(Aa cF).mono ?_;rintro e w9 ⟨⟨v9,rfl⟩,h9⟩)
    go_ret;rw[Aa aB];exact⟨rfl,h9⟩
   ·have m4:((p:Int)==4)=false:=by simp;omega
    have J:=Xp (fun j=>(x.1.run j false).phase==3) i;simp only[hp]at J;obtain⟨AL,aA⟩:∃a,((List.range i).all fun j=>(x.1.run j false).phase==3)=a:=⟨_,rfl⟩;rw[aA]at J ⊢
    have e3:((p:Int)==3)=(p==3):=by
     by_cases h3:p=3
     ·rw[h3];rfl
     ·rw[beq_eq_false_iff_ne.2 h3];simp;omega
    obtain⟨B3,aM⟩:∃q,(p==3)=q:=⟨_,rfl⟩;rw[aM]at e3 J;have aP:=Ab J
    have bV:Hid (∀j,j<i+1→(x.1.run j false).phase≠4):=Ab (fun j hj=>by
     by_cases cH:j=i
     ·rw[cH,hp];exact h4
     ·exact Aa aJ j (by omega))
    clear J aA h4 hp aM;cases AL with
    |true=>
     go_wp2;go_roundg g'
     case measure=>omega
     case rel=>exact⟨i+1,by omega,by rw[Aa aP];rfl,by go_num,rfl,bV⟩
    |false=>
     go_wp2;go_roundg g'
     case measure=>omega
     case rel=>exact⟨i+1,by omega,by rw[Aa aP];rfl,by go_num,rfl,bV⟩
theorem Rr{d:Af}{C b:Nat}{x:P32.S × List P32.Order}{M R:Nat→Prop}(n:Int)(w:World)(h:Cz d C b x M R w)(J:x.1.status≠1)(I:x.1.status≠2)(aB:d.steps.length≤100000) :
  Calls Tryz.prog 180 #[qP0 b,.int .i64 n] w fun e w'=>e=.returned (.bool (P32.once d.bare n x).isSome)∧∃M',Cz d C b ((P32.once d.bare n x).getD x) M' R w'∧KM M w M' w':=by
 obtain⟨gd,gu,ra,rc,vs,o,h1,hM,hR⟩:=h.ex;have aA:P32.once d.bare n x=none:=P32.once_end J I;rw[aA];have c8:w.cell? ⟨b,8,none⟩=some (.int .u8 (x.1.status:Int)):=h1.cell (j:=8) rfl;have c4:w.cell? ⟨b,4,none⟩=some (.slice (some ⟨gd,0,none⟩) d.steps.length d.steps.length):=h1.cell (j:=4) rfl;obtain⟨st,Z⟩:=qeX x.1.status;rw[Z]at c8 J I;have m1:((st:Int)==1)=false:=by simp;omega
 have m2:((st:Int)==2)=false:=by simp;omega
 have m3:((st:Int) != 2)=true:=by simp;omega
 obtain⟨N,hN⟩:=qeX d.steps.length;rw[hN]at c4 aB;have HN:=Ab hN;have H1:=Ab h1;have HX:=Ab h;clear h h1 hN hM hR aA Z J I;go_enter Tryz.func180,Tryz.ntmps180
 go_wp2
 go_loopg [5,6] N (fun g s5 s6 wx=>∃(i:Nat) (a:Bool),i+g=N∧s5=.bool a∧s6=.int .i64 i∧w=wx)
 case atStart=>exact⟨0,true,by omega,rfl,by go_num,rfl⟩
 case round=>
  obtain⟨i,a,aD,rfl,rfl,hw⟩:=hrel;subst hw;cases gk with
  |zero=>
   have e1:(N:Int)≤(i:Int):=by omega
   have j1:decide ((i:Int)<(N:Int))=false:=by simp;omega
   go_wp2;clear e1 j1
   go_loopg [7] N (fun g s7 wx=>∃k:Nat,k+g=N∧s7=.int .i64 k∧w=wx)
   case atStart=>exact⟨0,by omega,by go_num,rfl⟩
   case round=>
    obtain⟨k,aE,rfl,hw⟩:=hrel;subst hw;cases gk with
    |zero=>
     have e1:(N:Int)≤(k:Int):=by omega
     have j1:decide ((k:Int)<(N:Int))=false:=by simp;omega
     go_wp2;go_ret;exact⟨rfl,_,Aa HX,KM.refl _ _⟩
    |succ g2=>
     have aC:(k:Int)<(N:Int):=by omega
     have aG:IntKind.i64.wrap ((k:Int)+1)=(k:Int)+1:=qG _ (by omega);go_wp2;go_roundg g2
     case measure=>omega
     case rel=>exact⟨k+1,by omega,by go_num,rfl⟩
  |succ g'=>
   have aC:(i:Int)<(N:Int):=by omega
   have aH:IntKind.i64.wrap ((i:Int)+1)=(i:Int)+1:=qG _ (by omega);obtain⟨⟨y0,z0⟩,_,_,_⟩:=(Aa H1).dr.cells (i:=i) (by rw[Aa HN];omega);cases a with
   |true=>
    go_wp2;go_roundg g'
    case measure=>omega
    case rel=>exact⟨i+1,_,by omega,rfl,by go_num,rfl⟩
   |false=>
    go_wp2;go_roundg g'
    case measure=>omega
    case rel=>exact⟨i+1,_,by omega,rfl,by go_num,rfl⟩
theorem Rt{d:Af}{C b:Nat}{x:P32.S × List P32.Order}{M R:Nat→Prop}(n:Int)(w:World)(h:Cz d C b x M R w)(hI:P32.Inv d.bare x.1)(aQ:x.1.status=2)(cP:d.steps.length≤100000)(hn:x.2.length≤900000) :
  Calls Tryz.prog 180 #[qP0 b,.int .i64 n] w fun e w'=>e=.returned (.bool (P32.once d.bare n x).isSome)∧∃M',Cz d C b ((P32.once d.bare n x).getD x) M' R w'∧KM M w M' w':=by
 obtain⟨gd,gu,ra,rc,vs,o,h1,hM,hR⟩:=h.ex;have bG:d.bare.steps.length=d.steps.length:=Md.blen d
 have bL:P32.anyP d.bare x.1 1=true→P32.once d.bare n x=none:=fun h1=>by
  unfold P32.once;rw[if_neg (by omega),if_pos aQ,if_pos h1]
 have bK:P32.anyP d.bare x.1 1=false→P32.once d.bare n x=P32.once2 d.bare n x (P32.lastU x.1.undone x.1.done):=fun h1=>by
  unfold P32.once;rw[if_neg (by omega),if_pos aQ,if_neg (by rw[h1];simp)]
 have bX:=P32.len_le d.bare.steps.length x.1.done hI.nodup (fun i hi=>hI.lt hi);have bY:=hI.len;have c8:w.cell? ⟨b,8,none⟩=some (.int .u8 (x.1.status:Int)):=h1.cell (j:=8) rfl;have c4:w.cell? ⟨b,4,none⟩=some (.slice (some ⟨gd,0,none⟩) d.steps.length d.steps.length):=h1.cell (j:=4) rfl;obtain⟨st,cC⟩:=qeX x.1.status;rw[cC]at c8 aQ;have m1:((st:Int)==1)=false:=by rw[aQ];rfl
 have m2:((st:Int)==2)=true:=by rw[aQ];rfl
 have m3:((st:Int) != 2)=false:=by rw[aQ];rfl
 obtain⟨N,hN⟩:=qeX d.steps.length;rw[hN]at c4 cP bG;rw[bG]at bX;obtain⟨D,hD⟩:=qeX x.1.done.length;obtain⟨U,hU⟩:=qeX x.1.undone.length;rw[hD]at bX bY;rw[hU]at bY;have HD:=Ab hD;have HU:=Ab hU;have bZ:=Ab bL;have cB:=Ab bK;have HI:=Ab hI;have bW:=Ab bG;have HM:=Ab hM;have HR:=Ab hR;have HN:=Ab hN;have H1:=Ab h1;have HX:=Ab h;clear h h1 hN hM hR bL bK cC aQ hD hU hI bG;go_enter Tryz.func180,Tryz.ntmps180
 go_wp2
 go_loopg [5,6] N (fun g s5 s6 wx=>∃(i:Nat) (a:Bool),i+g=N∧s5=.bool a∧s6=.int .i64 i∧w=wx)
 case atStart=>exact⟨0,true,by omega,rfl,by go_num,rfl⟩
 case round=>
  obtain⟨i,a,cY,rfl,rfl,hw⟩:=hrel;subst hw;cases gk with
  |zero=>
   have e1:(N:Int)≤(i:Int):=by omega
   have j1:decide ((i:Int)<(N:Int))=false:=by simp;omega
   go_wp2;clear e1 j1
   go_loopg [7] N (fun g s7 wx=>∃k:Nat,k+g=N∧s7=.int .i64 k∧w=wx∧Hid (∀j,j<k→(x.1.run j false).phase≠1))
   case atStart=>exact⟨0,by omega,by go_num,rfl,Ab (fun j hj=>by omega)⟩
   case round=>
    obtain⟨k,cZ,rfl,hw,cF⟩:=hrel;subst hw;cases gk with
    |zero=>
     have e1:(N:Int)≤(k:Int):=by omega
     have j1:decide ((k:Int)<(N:Int))=false:=by simp;omega
     have aM:P32.anyP d.bare x.1 1=false:=by
      unfold P32.anyP;rw[Aa bW,List.any_eq_false];intro j hj;have:=Aa cF j (by have:=List.mem_range.1 hj;omega);simpa using this
     have I:=Aa cB aM;have bO:=Ab I;clear I aM;have c6:w.cell? ⟨b,6,none⟩=some (o 0):=(Aa H1).cell (j:=6) rfl;obtain⟨da,dc,bF,_,_,_⟩:=(Aa H1).dno.slice;rw[Aa HD]at bF;rw[bF]at c6;go_wp2;clear c6 e1 j1 c8 c4
     go_loopg [10,11] D (fun g cM cQ wx=>∃m:Nat,m+g=D∧cM=.int .i64 (Hn (P32.lastU x.1.undone (x.1.done.take m)))∧cQ=.int .i64 m∧Hid (Below w.heap.size w wx))
     case atStart=>exact⟨0,by omega,rfl,by go_num,Ab (qU _ _)⟩
     case round=>
      obtain⟨m,cX,rfl,rfl,aI⟩:=hrel;have h3:=(Aa H1).below (Aa aI);have c6:wr.cell? ⟨b,6,none⟩=some (o 0):=h3.cell (j:=6) rfl;have c7:wr.cell? ⟨b,7,none⟩=some (o 1):=h3.cell (j:=7) rfl;rw[bF]at c6;obtain⟨ua,uc,aK,_,_,aG⟩:=h3.uno.slice;obtain⟨dD,dA,bM,_,_,aC⟩:=h3.dno.slice;rw[bF,Aa HD]at bM;cases bM;rw[aK]at c7;rw[Aa HU]at c7;cases gk with
      |zero=>
       have e1:(D:Int)≤(m:Int):=by omega
       have j1:decide ((m:Int)<(D:Int))=false:=by simp;omega
       rw[List.take_of_length_le (by rw[Aa HD];omega)];have I:=Aa bO;obtain⟨LU,aB⟩:∃z,P32.lastU x.1.undone x.1.done=z:=⟨_,rfl⟩;rw[aB]at I ⊢;have f8:=h3.froz 8;have c8:wr.cell? ⟨b,8,none⟩=some (.int .u8 (x.1.status:Int)):=h3.cell (j:=8) rfl;cases LU with
       |none=>
        have bJ:P32.once d.bare n x=some (⟨x.1.run,x.1.done,x.1.undone,4⟩,x.2):=I;have ht:Hn none=-1:=rfl;rw[ht];have aA:=Ab bJ;have H3:=Ab h3;clear I bJ h3 aG aC aB;go_wp2;go_ret;rw[Aa aA];refine⟨rfl,_,⟨_,_,_,_,_,_,(Aa H3).status 4,rfl,Aa HR⟩,?_⟩;rw[Aa HM];exact(KM.of_below (KM.refl _ _) (Aa aI)).trans ((Aa H3).keepsSet (y:=b) (by simp) 8 _)
       |some i=>
        have aX:P32.lastU x.1.undone x.1.done=P32.turn x.1:=P32.lastU_turn (Aa HI).nodup (Aa HI).und;have J:i∈x.1.done:=qN (P32.turn_get (aX.symm.trans aB)).2;have cG:i<N:=by have:=(Aa HI).lt J;rwa [Aa bW]at this
        have cW:(i:Int)<(N:Int):=by omega
        have ht:Hn (some i)=(i:Int):=rfl;have n0:decide ((i:Int)<0)=false:=by simp
        rw[ht];obtain⟨s1,aN⟩:∃s,d.steps[i]?=some s:=⟨_,qO (by rw[Aa HN];exact cG)⟩;obtain⟨⟨sb,so,aU,aT⟩,_⟩:=h3.din.steps i s1 aN;have k2:wr.cell? ⟨b,2,none⟩=some (.slice d.sa d.steps.length d.sc):=h3.cell (j:=2) rfl;rw[aU,Aa HN]at k2;have k5:wr.cell? ⟨b,5,none⟩=some (.slice (some ⟨gu,0,none⟩) d.steps.length d.steps.length):=h3.cell (j:=5) rfl;rw[Aa HN]at k5;obtain⟨⟨t0,t1,t2,t3⟩,⟨t4,t5,t6,t7⟩,⟨t8,t9,cU,cR,dB⟩⟩:=Ar aT;obtain⟨⟨y0,z0⟩,_,_,_⟩:=h3.ur.cells (i:=i) (by rw[Aa HN];exact cG);obtain⟨p,hp⟩:=qeX ((x.1.run i true).phase);rw[hp]at y0;have aJ:P33.undoOf d.bare i=s1.undo:=Md.undo_eq d aN;simp only[P32.once2,aJ,hp]at I;have H3:=Ab h3;by_cases hE:s1.undo.isEmpty=true∨p=3
        ·rw[if_pos hE]at I;have aA:=Ab I;cases hu:s1.undo with
         |nil=>
          rw[hu]at t2;clear hE hu;have HL:=Ab (Aa HU);obtain⟨K,hK⟩:=qeX wr.heap.size;obtain⟨W5,bD,aS,g5,cN⟩:=As wr (.cells #[.int .i64 (i:Int)] 3) K hK;have h5:=(Aa H3).below (W':=W5) (by rw[hK];exact aS);rw[Aa HU]at aK;have aY:C≤W5.heap.size:=by have:=h5.low.1;have:=h5.inM (g:=b) (by simp);omega
          have aL:b<W5.heap.size∧some b≠(Value.slice ua U uc).ownBlock:=⟨h5.inM (by simp),fun e=>(h5.fo 1 (by decide) b (by rw[aK];exact e.symm)).1 (by simp)⟩;have aZ:KM (E8 b gd gu o) w (E8 b gd gu o) W5:=(KM.of_below (KM.refl _ _) (Aa aI)).of_below (by rw[hK];exact aS);have H5:=Ab h5;have bV:=Ab aZ;have bU:=Ab bD;have bT:=Ab g5;have aP:=Ab aK;have cT:U≤1000000:=by omega
          clear h5 aS bD g5 aZ I h3 aG aC aB aX J aT aU aN aJ hp aK f8 c8;have h7:A5 W5 C (.slice ua U uc) x.1.undone:=by rw[←Aa aP];exact(Aa H5).uno
          go_wp2_with ((try rw[hK]);rw[Aa bU];refine Bf (j:=i) (by rfl) _ _ (by rfl) (by rfl) h7 K 1 (by rfl) (Aa bT) U (Aa HU) (by omega) aY ?_;intro g6 bC w6 aH Z aO cH;have aD:=(Z.block b aL.1 aL.2).trans (Aa H5).box;have cL:w6.cell? ⟨b,7,none⟩=some (o 1):=A9 (o:=7) aD rfl;have cV:w6.frozen? ⟨b,7,none⟩=false:=(by simp[World.frozen?,aD]);have bE:=Ab ((Aa H5).grow (W':=w6) (x':=(⟨x.1.run,x.1.done,x.1.undone++[i],x.1.status⟩,x.2)) (k:=1) (c:=7) (v:=.slice (some ⟨g6,0,none⟩) (U+1) bC) (g:=g6) (.inr (.inl ⟨rfl,rfl⟩)) (by rw[Aa aP];exact Z) rfl (by rw[Aa aP];exact aO.imp id (fun e=>Nat.le_of_eq e.symm)) rfl rfl rfl (by rw[if_pos rfl];exact aH) rfl);clear aD aH Z aO)
          go_ret;rw[Aa aA];exact⟨rfl,_,⟨_,_,_,_,_,_,(Aa bE).1,rfl,Aa HR⟩,by rw[Aa HM];exact(Aa bV).trans (Aa bE).2⟩
         |cons u0 ur=>
          have m5:((p:Int)==3)=true:=by
           have:p=3:=hE.resolve_left (by rw[hu];simp);rw[this];rfl
          rw[hu]at t2;clear hE hu;have HL:=Ab (Aa HU);obtain⟨K,hK⟩:=qeX wr.heap.size;obtain⟨W5,bD,aS,g5,cN⟩:=As wr (.cells #[.int .i64 (i:Int)] 3) K hK;have h5:=(Aa H3).below (W':=W5) (by rw[hK];exact aS);rw[Aa HU]at aK;have aY:C≤W5.heap.size:=by have:=h5.low.1;have:=h5.inM (g:=b) (by simp);omega
          have aL:b<W5.heap.size∧some b≠(Value.slice ua U uc).ownBlock:=⟨h5.inM (by simp),fun e=>(h5.fo 1 (by decide) b (by rw[aK];exact e.symm)).1 (by simp)⟩;have aZ:KM (E8 b gd gu o) w (E8 b gd gu o) W5:=(KM.of_below (KM.refl _ _) (Aa aI)).of_below (by rw[hK];exact aS);have H5:=Ab h5;have bV:=Ab aZ;have bU:=Ab bD;have bT:=Ab g5;have aP:=Ab aK;have cT:U≤1000000:=by omega
          clear h5 aS bD g5 aZ I h3 aG aC aB aX J aT aU aN aJ hp aK f8 c8;have h7:A5 W5 C (.slice ua U uc) x.1.undone:=by rw[←Aa aP];exact(Aa H5).uno
          go_wp2_with ((try rw[hK]);rw[Aa bU];refine Bf (j:=i) (by rfl) _ _ (by rfl) (by rfl) h7 K 1 (by rfl) (Aa bT) U (Aa HU) (by omega) aY ?_;intro g6 bC w6 aH Z aO cH;have aD:=(Z.block b aL.1 aL.2).trans (Aa H5).box;have cL:w6.cell? ⟨b,7,none⟩=some (o 1):=A9 (o:=7) aD rfl;have cV:w6.frozen? ⟨b,7,none⟩=false:=(by simp[World.frozen?,aD]);have bE:=Ab ((Aa H5).grow (W':=w6) (x':=(⟨x.1.run,x.1.done,x.1.undone++[i],x.1.status⟩,x.2)) (k:=1) (c:=7) (v:=.slice (some ⟨g6,0,none⟩) (U+1) bC) (g:=g6) (.inr (.inl ⟨rfl,rfl⟩)) (by rw[Aa aP];exact Z) rfl (by rw[Aa aP];exact aO.imp id (fun e=>Nat.le_of_eq e.symm)) rfl rfl rfl (by rw[if_pos rfl];exact aH) rfl);clear aD aH Z aO)
          go_ret;rw[Aa aA];exact⟨rfl,_,⟨_,_,_,_,_,_,(Aa bE).1,rfl,Aa HR⟩,by rw[Aa HM];exact(Aa bV).trans (Aa bE).2⟩
        ·rw[if_neg hE]at I
         obtain⟨u0,ur,hu⟩:∃a l,s1.undo=a::l:=by
          cases hq:s1.undo with
          |nil=>exact absurd (.inl (by rw[hq];rfl)) hE
          |cons a l=>exact⟨a,l,rfl⟩
         have m5:((p:Int)==3)=false:=by
          have:p≠3:=fun e=>hE (.inr e);simp;omega
         by_cases p0:p=0
         ·have m6:((p:Int)==0)=true:=by rw[p0];rfl
          rw[if_pos p0,Bt d aN]at I;have aW:=Ki s1 n;obtain⟨⟨bp,bn,bt,bl⟩,cD⟩:∃y,P31.begin_ s1.bare n=y:=⟨_,rfl⟩;rw[cD]at aW I;unfold Au Ai.val at aW;simp only[Ai.aV,Nd.kV,Nd.dV]at aW t3 cU cR;rw[hu]at t2;simp only[Ai.cs,hu]at aW;have cK:=Ab aW;have aA:=Ab I;clear aW I h3 aG aC aB aX J aT aU aN cD aJ hp p0 hE hu;go_upto_region 43 with(first|(go_at_call 209;refine(Aa cK _).mono ?_;rintro e w4 ⟨rfl,b4⟩;have bI:=Fy i true ⟨bp,bn,bt,bl⟩ w4 ⟨_,_,_,_,_,_,(Aa H3).below b4,Aa HM,Aa HR⟩ (by rw[Aa HN];omega) (by rw[Aa HN];omega) (by omega) (by rw[Aa HD];omega);unfold Au at bI;simp only at bI;have cS:=Ab bI;have cO:=Ab ((Aa aI).trans (b4.mono (Aa aI).size));clear bI b4)|(go_at_call 135;with_reducible refine(Aa cS).mono ?_;rintro e w9 ⟨⟨v9,rfl⟩,M9,h9,k9⟩))
          go_wp2;go_ret;rw[Aa aA];exact⟨rfl,M9,h9,(KM.of_below (KM.refl _ _) (Aa cO)).trans k9⟩
         ·have m6:((p:Int)==0)=false:=by simp;omega
          rw[if_neg p0]at I;rw[hu]at t2;by_cases p4:p=4
          ·have m7:((p:Int)==4)=true:=by rw[p4];rfl
           rw[if_pos p4]at I;have aA:=Ab I;clear I h3 aG aC aB aX J aT aU aN aJ hp p0 p4 hE hu;go_wp2;go_ret;rw[Aa aA];refine⟨rfl,_,⟨_,_,_,_,_,_,(Aa H3).status 5,rfl,Aa HR⟩,?_⟩;rw[Aa HM];exact(KM.of_below (KM.refl _ _) (Aa aI)).trans ((Aa H3).keepsSet (y:=b) (by simp) 8 _)
          ·have m7:((p:Int)==4)=false:=by simp;omega
           rw[if_neg p4]at I;have aA:=Ab I;clear I h3 aG aC aB aX J aT aU aN aJ hp p0 p4 hE hu;go_wp2;go_ret;rw[Aa aA];refine⟨rfl,_,⟨_,_,_,_,_,_,Aa H3,Aa HM,Aa HR⟩,KM.of_below (KM.refl _ _) (Aa aI)⟩
      |succ g3=>
       have cA:(m:Int)<(D:Int):=by omega
       have dC:IntKind.i64.wrap ((m:Int)+1)=(m:Int)+1:=qG _ (by omega);obtain⟨q,hq⟩:=Ap (Aa HD) (show m<D by omega);obtain⟨ig,io,rfl,cx⟩:=aC m q hq;unfold iv at cx;have aE:=fun z=>J8 ua uc x.1.undone q (wr.drewN z) (aG.below' (Ac (qU _ _))) (by rw[Aa HU];omega);rw[Aa HU]at aE
       have aR:P32.lastU x.1.undone (x.1.done.take (m+1))=if q∈x.1.undone then P32.lastU x.1.undone (x.1.done.take m) else some q:=by
        unfold P32.lastU;rw[List.take_add_one,hq,List.foldl_append];rfl
       obtain⟨LU,aB⟩:∃z,P32.lastU x.1.undone (x.1.done.take m)=z:=⟨_,rfl⟩;rw[aB]at aR ⊢;by_cases J:q∈x.1.undone
       ·rw[if_pos J]at aR;rw[show decide (q∈x.1.undone)=true by simpa using J]at aE;have bQ:=Ab aR;have HH:=Ab aE;clear aR aE J aB hq;go_upto_region 32 with fail
        refine wp_region_quiet_lit (by kernel_rfl) (by kernel_rfl) ?_
        repeat (go_big_quiet_step (exact Calls.quiet_of_same (Aa HH _)))
        refine wpQuiet_nil ?_;rintro _ ⟨nq,rfl⟩;go_wp2;go_roundg g3
        case measure=>omega
        case rel=>exact⟨m+1,by omega,(congrArg (fun z=>Value.int IntKind.i64 (Hn z)) (Aa bQ)).symm,by go_num,Ab (Ac (Aa aI))⟩
       ·rw[if_neg J]at aR;rw[show decide (q∈x.1.undone)=false by simpa using J]at aE;have bQ:=Ab aR;have HH:=Ab aE;clear aR aE J aB hq;go_upto_region 32 with fail
        refine wp_region_quiet_lit (by kernel_rfl) (by kernel_rfl) ?_
        repeat (go_big_quiet_step (exact Calls.quiet_of_same (Aa HH _)))
        refine wpQuiet_nil ?_;rintro _ ⟨nq,rfl⟩;go_wp2;go_roundg g3
        case measure=>omega
        case rel=>exact⟨m+1,by omega,(congrArg (fun z=>Value.int IntKind.i64 (Hn z)) (Aa bQ)).symm,by go_num,Ab (Ac (Aa aI))⟩
    |succ g2=>
     have cA:(k:Int)<(N:Int):=by omega
     have dE:IntKind.i64.wrap ((k:Int)+1)=(k:Int)+1:=qG _ (by omega);obtain⟨⟨y0,z0⟩,_,_,_⟩:=(Aa H1).dr.cells (i:=k) (by rw[Aa HN];omega);obtain⟨p,hp⟩:=qeX ((x.1.run k false).phase);rw[hp]at y0;by_cases h1:p=1
     ·have m4:((p:Int)==1)=true:=by rw[h1];rfl
      have aM:P32.anyP d.bare x.1 1=true:=by
       unfold P32.anyP;rw[Aa bW,List.any_eq_true];exact⟨k,List.mem_range.2 (by omega),by rw[hp,h1];rfl⟩
      have bO:=Ab (Aa bZ aM);clear aM h1 hp;go_wp2;go_ret;rw[Aa bO];exact⟨rfl,_,Aa HX,KM.refl _ _⟩
     ·have m4:((p:Int)==1)=false:=by simp;omega
      have cI:Hid (∀j,j<k+1→(x.1.run j false).phase≠1):=Ab (fun j hj=>by
       by_cases cJ:j=k
       ·rw[cJ,hp];exact h1
       ·exact Aa cF j (by omega))
      clear h1 hp;go_wp2;go_roundg g2
      case measure=>omega
      case rel=>exact⟨k+1,by omega,by go_num,rfl,cI⟩
  |succ g'=>
   have cA:(i:Int)<(N:Int):=by omega
   have dF:IntKind.i64.wrap ((i:Int)+1)=(i:Int)+1:=qG _ (by omega);obtain⟨⟨y0,z0⟩,_,_,_⟩:=(Aa H1).dr.cells (i:=i) (by rw[Aa HN];omega);cases a with
   |true=>
    go_wp2;go_roundg g'
    case measure=>omega
    case rel=>exact⟨i+1,_,by omega,rfl,by go_num,rfl⟩
   |false=>
    go_wp2;go_roundg g'
    case measure=>omega
    case rel=>exact⟨i+1,_,by omega,rfl,by go_num,rfl⟩
end Go.Proofs.YtefokfbgpfcbkaaGreat
