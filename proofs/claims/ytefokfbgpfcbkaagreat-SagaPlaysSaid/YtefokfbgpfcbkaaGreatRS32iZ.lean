import Derived.Test.YtefokfbgpfcbkaaGreatRS32eZ
import Derived.Test.YtefokfbgpfcbkaaGreatS32uZ
set_option maxRecDepth 100000
set_option maxHeartbeats 8000000
set_option linter.unusedVariables false
set_option linter.unusedSimpArgs false
namespace Go.Proofs.YtefokfbgpfcbkaaGreat
open Go.RowKit
theorem Uw{d:Af}{C b:Nat}{x:P32.S × List P32.Order}{M R:Nat→Prop}(n:Int)(w:World)(h:Cz d C b x M R w)(J:P32.Inv d.bare x.1)(I:d.steps.length≤100000)(hn:x.2.length≤900000) :
  Calls Tryz.prog 180 #[qP0 b,.int .i64 n] w fun e w'=>e=.returned (.bool (P32.once d.bare n x).isSome)∧∃M',Cz d C b ((P32.once d.bare n x).getD x) M' R w'∧KM M w M' w':=by
 by_cases h1:x.1.status=1
 ·exact Rs n w h J h1 I hn
 ·by_cases h2:x.1.status=2
  ·exact Rt n w h J h2 I hn
  ·exact Rr n w h h1 h2 I
section
variable {d:Af} {C:Nat} {W W':World} {b gd gu rc:Nat} {ra:Option Addr} {vs:List Value} {o:Nat→Value} {x x':P32.S × List P32.Order}
theorem RS.handed(h:RS d C W b gd gu ra rc vs o x):RS d C (W.setCell ⟨b,9,none⟩ (.slice none 0 0)) b gd gu ra rc vs (Ri o 2 (.slice none 0 0)) (x.1,[])∧KM (E8 b gd gu o) W (E8 b gd gu (Ri o 2 (.slice none 0 0))) (W.setCell ⟨b,9,none⟩ (.slice none 0 0))∧∀g,(o 2).ownBlock=some g→¬E8 b gd gu (Ri o 2 (.slice none 0 0)) g:=by
 obtain⟨n1,n2,n3⟩:=h.ne;have hb:∀g,g≠b→(W.setCell ⟨b,9,none⟩ (.slice none 0 0)).heap[g]?=W.heap[g]?:=fun g hg=>qC _ _ _ _ hg;have hl:=h.low
 have hz:∀g,(Ri o 2 (.slice none 0 0) 2).ownBlock=some g→False:=fun g hg=>by
  have e:(none:Option Nat)=some g:=hg;cases e
 have ho:∀j,j<3→∀g,(Ri o 2 (.slice none 0 0) j).ownBlock=some g→j≠2∧(o j).ownBlock=some g:=fun j hj g hg=>by
  by_cases e:j=2
  ·subst e;exact(hz g hg).elim
  ·refine⟨e,?_⟩;unfold Ri at hg
   rwa [if_neg e]at hg
 have hs:∀g,E8 b gd gu (Ri o 2 (.slice none 0 0)) g→E8 b gd gu o g:=fun g hg=>by
  rcases hg with hg|⟨j,hj,hg⟩
  ·exact .inl hg
  ·exact .inr ⟨j,hj,(ho j hj g hg).2⟩
 refine⟨⟨h.din.keep (fun g hg=>hb g (fun e=>by have:=h.dlt g hg;omega)),h.dlt,(Wk h.box).trans rfl,h.rows.keepB (fun g hg=>hb g (fun e=>(h.fr g hg).1 (by rw[e];simp))),h.dr.of_block (hb _ (fun e=>n1 e.symm)),h.ur.of_block (hb _ (fun e=>n2 e.symm)),?_,?_,Ba.nil _ _,hl,h.nd,fun j hj g hg=>?_,fun g hg=>⟨(h.fr g hg).1,fun j hj e=>(h.fr g hg).2 j hj (ho j hj g e).2⟩⟩,⟨by simp,fun r hr _=>hb r (fun e=>hr (.inl (by rw[e];simp))),fun r hr=>.inl (hs r hr),rfl,rfl,rfl⟩,fun g hg hr=>?_⟩
 ·exact h.dno.keep (fun g hg=>hb g (fun e=>(h.fo 0 (by decide) g hg).1 (by rw[e];simp)))
 ·exact h.uno.keep (fun g hg=>hb g (fun e=>(h.fo 1 (by decide) g hg).1 (by rw[e];simp)))
 ·obtain⟨Z,J⟩:=ho j hj g hg;obtain⟨f1,f2⟩:=h.fo j hj g J;exact⟨f1,fun i hi I e=>f2 i hi I (ho i hi g e).2⟩
 ·obtain⟨f1,f2⟩:=h.fo 2 (by decide) g hg;rcases hr with hr|⟨j,hj,hr⟩
  ·exact f1 hr
  ·obtain⟨Z,J⟩:=ho j hj g hr;exact f2 j hj Z J
end
def Nz(d:Af)(C b:Nat)(x:P32.S × List P32.Order)(M R:Nat→Prop)(w:World)(v:Value)(w':World):Prop:=Cj w' v x.2∧∃M',Cz d C b (x.1,[]) M' R w'∧KM M w M' w'
theorem Cz.c4{d:Af}{C b:Nat}{x:P32.S × List P32.Order}{M R:Nat→Prop}{V:World}(h:Cz d C b x M R V):∃gd,V.cell? ⟨b,4,none⟩=some (.slice (some ⟨gd,0,none⟩) d.steps.length d.steps.length):=by
 obtain⟨gd,gu,ra,rc,vs,o,h1,_⟩:=h.ex;exact⟨gd,h1.cell (j:=4) rfl⟩
theorem Cz.out{d:Af}{C b:Nat}{x:P32.S × List P32.Order}{M R:Nat→Prop}{V:World}(h:Cz d C b x M R V):∃I J,V.cell? ⟨b,9,none⟩=some (.slice I x.2.length J)∧V.frozen? ⟨b,9,none⟩=false∧Nz d C b x M R V (.slice I x.2.length J) (V.setCell ⟨b,9,none⟩ (.slice none 0 0)):=by
 obtain⟨gd,gu,ra,rc,vs,o,h1,rfl,rfl⟩:=h.ex;obtain⟨k1,k2,k3⟩:=h1.handed;obtain⟨I,J,e,hc,aA⟩:=h1.oo.slice;have Z:=h1.fo 2 (by decide);rw[e]at Z;refine⟨I,J,?_,h1.froz 9,⟨I,J,rfl,hc,fun j q hq=>?_⟩,_,⟨gd,gu,ra,rc,vs,_,k1,rfl,rfl⟩,k2⟩
 ·rw[←e];exact h1.cell (j:=9) rfl
 ·obtain⟨g,z,rfl,c0,c1,c2,c3⟩:=aA j q hq;have aB:g≠b:=fun e2=>(Z g rfl).1 (by rw[e2];simp);have hg:(V.setCell ⟨b,9,none⟩ (.slice none 0 0)).heap[g]?=V.heap[g]?:=qC _ _ _ _ aB;exact⟨g,z,rfl,(Ae hg _).trans c0,(Ae hg _).trans c1,(Ae hg _).trans c2,(Ae hg _).trans c3⟩
theorem Gk{d:Af}{C b:Nat}{x:P32.S × List P32.Order}{M R:Nat→Prop}(n:Int)(w:World)(h:Cz d C b x M R w)(hg:P32.Good d.bare x)(aM:d.steps.length≤100000)(hn:x.2.length≤700000) :
  Calls Tryz.prog 136 #[qP0 b,.int .i64 n] w fun e w'=>∃v,e=.returned v∧Nz d C b (P32.on d.bare n x) M R w v w':=by
 obtain⟨N,hN⟩:=qeX d.steps.length;have aL:d.bare.steps.length=N:=(Md.blen d).trans hN;have aG:=P32.rgo_on (n:=n) hg.inv;have Z:=P32.on_len d.bare n x;rw[aL]at aG Z;obtain⟨y,hy⟩:=qeX (P32.on d.bare n x);rw[hy]at aG Z ⊢;have J:=fun(M1:Nat→Prop) (z:P32.S × List P32.Order) (V:World) (hz:Cz d C b z M1 R V) (aP:P32.Good d.bare z) (hl:z.2.length≤900000)=>Uw n V hz aP.inv aM hl
 have aJ:∀f z,P32.Good d.bare z→P32.rgo d.bare n f z=y→z.2.length≤900000:=fun f z hz hr=>by
  have:=P32.rgo_pre (n:=n) f z hz;rw[hr]at this;omega
 have aN:∀(M1:Nat→Prop) (z:P32.S × List P32.Order) (V:World),Cz d C b z M1 R V→∃gd,V.cell? ⟨b,4,none⟩=some (.slice (some ⟨gd,0,none⟩) N N):=fun M1 z V hz=>by rw[←hN];exact hz.c4
 have h0:Cz d C b x M R w∧KM M w M w∧P32.Good d.bare x∧P32.rgo d.bare n (10*N+10) x=y:=⟨h,KM.refl _ _,hg,aG⟩;have HO:=Ab J;have aO:=Ab aJ;have aK:=Ab aN;have H0:=Ab h0;have aS:N≤100000:=by omega
 have w1:IntKind.i64.wrap (10*(N:Int))=10*(N:Int):=qG _ (by omega);have w2:IntKind.i64.wrap (10*(N:Int)+10)=10*(N:Int)+10:=qG _ (by omega);clear J aJ aN h0 h hg aG Z hy hN aL aM hn;go_enter Tryz.func136,Tryz.ntmps136
 go_wp2
 go_loopg [5] (10*N+10) (fun g s5 wx=>∃(i:Nat) (z:P32.S × List P32.Order) (M1:Nat→Prop),i+g=10*N+10∧s5=.int .i64 i∧Hid (Cz d C b z M1 R wx∧KM M w M1 wx∧P32.Good d.bare z∧P32.rgo d.bare n g z=y))
 case atStart=>exact⟨0,x,M,by omega,by go_num,H0⟩
 case round=>
  obtain⟨i,z,M1,aR,rfl,I⟩:=hrel;obtain⟨gd,c4⟩:=Aa aK M1 z wr (Aa I).1;cases gk with
  |zero=>
   have e1:10*(N:Int)+10≤(i:Int):=by omega
   have j1:decide ((i:Int)<10*(N:Int)+10)=false:=by simp;omega
   obtain⟨oa,oc,c9,f9,he⟩:=(Aa I).1.out;obtain⟨LZ,aA⟩:∃q,z.2.length=q:=⟨_,rfl⟩;rw[aA]at c9 he;have HE:=Ab he;clear he aA;go_wp2;go_ret;obtain⟨k1,k2,k3,k4⟩:=Aa I;obtain⟨q1,M',q2,q3⟩:=Aa HE;have k5:z=y:=k4;rw[←k5];exact⟨_,rfl,q1,M',q2,k2.trans q3⟩
  |succ g'=>
   have aT:(i:Int)<10*(N:Int)+10:=by omega
   have hkj:IntKind.i64.wrap ((i:Int)+1)=(i:Int)+1:=qG _ (by omega);have ho:=Aa HO M1 z wr (Aa I).1 (Aa I).2.2.1 (Aa aO _ z (Aa I).2.2.1 (Aa I).2.2.2);cases hq:P32.once d.bare n z with
   |none=>
    rw[hq]at ho;have aD:z=y:=(P32.rgo_none hq (g'+1)).symm.trans (Aa I).2.2.2;have aE:=Ab aD;have aH:=Ab ho;clear ho hq aD c4;obtain⟨gd,c4⟩:=Aa aK M1 z wr (Aa I).1;go_upto_region 4 with(go_at_call 180;refine(Aa aH).mono ?_;rintro e w4 ⟨rfl,M',aC,aB⟩)
    obtain⟨oa,oc,c9,f9,he⟩:=aC.out;obtain⟨LZ,aA⟩:∃q,((none:Option (P32.S × List P32.Order)).getD z).2.length=q:=⟨_,rfl⟩;rw[aA]at c9 he;have HE:=Ab he;have HK:=Ab aB;clear he aA aC aB c4;go_wp2;go_ret;obtain⟨q1,aQ,q2,q3⟩:=Aa HE;rw[←Aa aE];exact⟨_,rfl,q1,aQ,q2,((Aa I).2.1.trans (Aa HK)).trans q3⟩
   |some z'=>
    rw[hq]at ho;have aD:P32.Good d.bare z'∧P32.rgo d.bare n g' z'=y:=⟨P32.good_once (Aa I).2.2.1 hq,(P32.rgo_some hq).symm.trans (Aa I).2.2.2⟩;have aE:=Ab aD;have aH:=Ab ho;clear ho hq aD;go_wp2_with (go_at_call 180;refine(Aa aH).mono ?_;rintro e w4 ⟨rfl,M',aC,aB⟩;have aI:=Ab (And.intro aC aB);clear aC aB)
    go_roundg g'
    case measure=>omega
    case rel=>exact⟨i+1,z',M',by omega,by go_num,Ab ⟨(Aa aI).1,(Aa I).2.1.trans (Aa aI).2,(Aa aE).1,(Aa aE).2⟩⟩
open Go.RowKit
theorem Nz.up{d:Af}{C b:Nat}{x:P32.S × List P32.Order}{M I R:Nat→Prop}{w J w':World}{v:Value}(h:Nz d C b x I R J v w')(hk:KM M w I J):Nz d C b x M R w v w':=by
 obtain⟨h1,M',h2,h3⟩:=h;exact⟨h1,M',h2,hk.trans h3⟩
theorem Nz.nil0{d:Af}{C b:Nat}{s:P32.S}{M R:Nat→Prop}{w w':World}(h:Cz d C b (s,[]) M R w)(hb:Below w.heap.size w w'):Nz d C b (s,[]) M R w (.slice none 0 0) w':=by
 refine⟨⟨none,0,rfl,qJ _,fun j o ho=>by simp at ho⟩,M,?_,KM.of_below (KM.refl _ _) hb⟩;obtain⟨gd,gu,ra,rc,vs,o,h1,h2,h3⟩:=h.ex;exact⟨gd,gu,ra,rc,vs,o,h1.below hb,h2,h3⟩
theorem Cz.c8{d:Af}{C b:Nat}{x:P32.S × List P32.Order}{M R:Nat→Prop}{V:World}(h:Cz d C b x M R V):V.cell? ⟨b,8,none⟩=some (.int .u8 (x.1.status:Int))∧V.frozen? ⟨b,8,none⟩=false:=by
 obtain⟨gd,gu,ra,rc,vs,o,h1,_⟩:=h.ex;exact⟨h1.cell (j:=8) rfl,h1.froz 8⟩
theorem Cz.status{d:Af}{C b:Nat}{x:P32.S × List P32.Order}{M R:Nat→Prop}{V:World}(h:Cz d C b x M R V)(st:Nat):Cz d C b (⟨x.1.run,x.1.done,x.1.undone,st⟩,x.2) M R (V.setCell ⟨b,8,none⟩ (.int .u8 st))∧KM M V M (V.setCell ⟨b,8,none⟩ (.int .u8 st)):=by
 obtain⟨gd,gu,ra,rc,vs,o,h1,rfl,rfl⟩:=h.ex;exact⟨⟨gd,gu,ra,rc,vs,o,h1.status st,rfl,rfl⟩,h1.keepsSet (by simp) _ _⟩
def Pb(m:Nat)(U:World)(A:P31.Run)(k:Nat)(f:Bool)(Bx:Value)(W:World):Prop:=Below U.heap.size U W∧(f=true→∃p,Bx=.pointer (some ⟨p,0,none⟩)∧U.heap.size≤p∧Av W p (if k≤m then P31.Run.zero else A))
namespace Pb
variable {U W W':World} {A:P31.Run} {m k p:Nat} {f:Bool} {Bx:Value}
theorem start(m:Nat)(U:World)(A:P31.Run)(k:Nat):Pb m U A k false undef U.drew:=⟨(qU _ _).drew,fun h=>by cases h⟩
theorem call(h:Pb m U A k f Bx W)(hk:k+1≤m)(hb:Below W.heap.size W W'):Pb m U A (k+1) f Bx W':=⟨h.1.trans (hb.mono h.1.size),fun hf=>by
 obtain⟨p,e,h1,h2⟩:=h.2 hf;rw[if_pos (by omega)]at h2;have h3:p<W.heap.size:=(qA.1 h2).1
 exact⟨p,e,h1,by rw[if_pos hk];exact(hb.block p h3).trans h2⟩⟩
theorem alloc(h:Pb m U A k false Bx W)(hk:k≤m):Pb m U A k true (.pointer (some ⟨W.heap.size,0,none⟩)) (W.alloc (.cells #[.int .u8 0,.int .i64 0,.int .i64 0,.bool false] 163)):=
 ⟨h.1.alloc h.1.size _,fun _=>⟨_,rfl,h.1.size,by rw[if_pos hk];exact qB _ _⟩⟩
theorem store(h:Pb m U A m true (qP0 p) W):Pb m U A (m+1) true (qP0 p) ((((W.setCell ⟨p,0,none⟩ (.int .u8 (A.phase:Int))).setCell ⟨p,1,none⟩ (.int .i64 A.att)).setCell ⟨p,2,none⟩ (.int .i64 A.til)).setCell ⟨p,3,none⟩ (.bool A.last)):=by
 obtain⟨q,e,h1,h2⟩:=h.2 rfl;cases e;rw[if_pos (qJ _)]at h2;exact⟨Below.set4 h.1 h1 _ _ _ _,fun _=>⟨p,rfl,h1,by rw[if_neg (by omega)];exact Av.out h2 A⟩⟩
end Pb
theorem N6{d:Af}{C b:Nat}{s:P32.S}{M R:Nat→Prop}(n:Int)(w:World)(h:Cz d C b (s,[]) M R w)(hi:P32.Inv d.bare s)(aD:d.steps.length≤100000) :
  Calls Tryz.prog 95 #[qP0 b,.int .i64 n] w fun e w'=>∃v,e=.returned v∧Nz d C b (P32.start d.bare n s) M R w v w':=by
 obtain⟨c8,f8⟩:=h.c8;by_cases h0:s.status=0
 ·have I:P32.start d.bare n s=P32.on d.bare n (⟨s.run,s.done,s.undone,1⟩,[]):=by
   unfold P32.start;rw[if_neg (by omega)]
  obtain⟨k1,k2⟩:=h.status 1;have J:=Gk n _ k1 (P32.good_nil (P32.inv_start hi h0)) aD (by simp);rw[←I]at J;have aC:=Ab J;have HK:=Ab k2;rw[show ((s,([]:List P32.Order)):P32.S × List P32.Order).1.status=0 from h0]at c8;clear J k1 k2 I h hi h0;go_enter Tryz.func95,Tryz.ntmps95
  go_wp2_with (go_at_call 136;refine(Aa aC).mono ?_;rintro e w4 ⟨v,rfl,Z⟩;have aB:=Ab Z;clear Z)
  go_ret;exact⟨_,rfl,(Aa aB).up (Aa HK)⟩
 ·have I:P32.start d.bare n s=(s,[]):=by
   unfold P32.start;rw[if_pos (by omega)]
  rw[I];obtain⟨ST,aA⟩:∃z,s.status=z:=⟨_,rfl⟩;rw[show ((s,([]:List P32.Order)):P32.S × List P32.Order).1.status=ST from aA]at c8;have p0:((ST:Int) != 0)=true:=by simp;omega
  have HX:=Ab h;clear I h hi aA h0;go_enter Tryz.func95,Tryz.ntmps95
  go_wp2;go_ret;exact⟨_,rfl,Nz.nil0 (Aa HX) (qU _ _)⟩
theorem L4{d:Af}{C b:Nat}{s:P32.S}{M R:Nat→Prop}(n:Int)(w:World)(h:Cz d C b (s,[]) M R w)(hi:P32.Inv d.bare s)(aA:d.steps.length≤100000) :
  Calls Tryz.prog 94 #[qP0 b,.int .i64 n] w fun e w'=>∃v,e=.returned (.tuple #[v,.bool (P32.cancel d.bare n s).2])∧Nz d C b (P32.cancel d.bare n s).1 M R w v w':=by
 obtain⟨c8,f8⟩:=h.c8;by_cases h1:s.status=1
 ·have I:P32.cancel d.bare n s=(P32.on d.bare n (P32.halt d.bare s,[]),true):=by
   unfold P32.cancel;rw[if_neg (by omega)]
  have aE:=Ml w h aA;have Z:=fun(M1:Nat→Prop) (V:World) (hz:Cz d C b (P32.halt d.bare s,[]) M1 R V)=>Gk n V hz (P32.good_nil (P32.inv_halt hi h1)) aA (by simp);rw[I];simp only;have aI:=Ab aE;have aJ:=Ab Z;rw[show ((s,([]:List P32.Order)):P32.S × List P32.Order).1.status=1 from h1]at c8;clear aE Z I h hi h1 f8;go_enter Tryz.func94,Tryz.ntmps94
  go_wp2_with (first
   |(go_at_call 138;refine(Aa aI).mono ?_;rintro e w3 ⟨⟨v3,rfl⟩,M3,J,aD⟩;have aC:=Ab (And.intro J aD);clear J aD)
   | (go_at_call 136;refine(Aa aJ _ _ (Aa aC).1).mono ?_;rintro e w4 ⟨v,rfl,aG⟩;have aH:=Ab aG;clear aG))
  exact qV (results_tmp2 rfl _ _ _) rfl ⟨_,rfl,(Aa aH).up (Aa aC).2⟩
 ·have I:P32.cancel d.bare n s=((s,[]),false):=by
   unfold P32.cancel;rw[if_pos (by omega)]
  rw[I];simp only;obtain⟨ST,aB⟩:∃z,s.status=z:=⟨_,rfl⟩;rw[show ((s,([]:List P32.Order)):P32.S × List P32.Order).1.status=ST from aB]at c8;have p0:((ST:Int) != 1)=true:=by simp;omega
  have HX:=Ab h;clear I h hi aB h1;go_enter Tryz.func94,Tryz.ntmps94
  go_wp2;exact qV (results_tmp2 rfl _ _ _) rfl ⟨_,rfl,Nz.nil0 (Aa HX) (qU _ _)⟩
open Go.RowKit
theorem L0{d:Af}{C b:Nat}{s:P32.S}{M R:Nat→Prop}(n:Int)(a:P33.Ans)(w:World)(h:Cz d C b (s,[]) M R w)(hi:P32.Inv d.bare s)(bG:d.steps.length≤100000) :
    Calls Tryz.prog 92 #[qP0 b,.agg #[.int .i64 a.step,.int .i64 a.attempt,.bool a.undo,.int .u8 (a.outcome:Int)],.int .i64 n] w fun e w'=>∃v,e=.returned (.tuple #[v,.bool (P32.answer d.bare n a s).2])∧Nz d C b (P32.answer d.bare n a s).1 M R w v w':=by
  obtain⟨H,hH⟩:=qeX w.heap.size;obtain⟨si,aa,J,ao⟩:=a;obtain⟨W1,cM,bD,g0,dP⟩:=As w (.cells #[.int .i64 si,.int .i64 aa,.bool J,.int .u8 (ao:Int)] 37) H hH;obtain⟨⟨x0,_⟩,⟨x1,_⟩,⟨x2,_⟩,⟨x3,_⟩⟩:=Bl g0;obtain⟨gd,gu,ra,rc,vs,ov,h1,hM,hR⟩:=h.ex;have aY:RS d C W1 b gd gu ra rc vs ov (s,[]):=h1.below (by rw[hH];exact bD);obtain⟨N,hN⟩:=qeX d.steps.length;obtain⟨ST,aU⟩:∃z,s.status=z:=⟨_,rfl⟩;have c8:W1.cell? ⟨b,8,none⟩=some (.int .u8 (ST:Int)):=by rw[←aU];exact aY.cell (j:=8) rfl
  have c4:W1.cell? ⟨b,4,none⟩=some (.slice (some ⟨gd,0,none⟩) N N):=by rw[←hN];exact aY.cell (j:=4) rfl
  have cQ:P32.moving s=false∨P32.has d.bare si=false→P32.answer d.bare n ⟨si,aa,J,ao⟩ s=((s,[]),false):=fun q=>by
    unfold P32.answer;rw[if_pos q]
  have aB:P32.moving s=false↔ST≠1∧ST≠2:=by rw[←aU];simp[P32.moving]
  have aM:P32.has d.bare si=false↔si<0∨(N:Int)≤si:=by
    unfold P32.has;rw[Md.blen,hN];simp only[Bool.and_eq_false_iff,decide_eq_false_iff_not];omega
  have aN:=Ab cQ;have HX:=Ab h;have HI:=Ab hi;have H1:=Ab h1;have HM:=Ab (And.intro hM hR);have aP:=Ab cM;have aL:=Ab bD;have HN:=Ab hN;have cW:=Ab aU;have cL:=Ab g0;have dB:=Ab aY;rw[hN]at bG;clear cQ h hi h1 hM hR cM bD hN aU g0 aY;by_cases hm:ST=1∨ST=2
  case neg=>
    have HE:=Ab (Aa aN (.inl (aB.2 (by omega))));have m1:((ST:Int) != 1)=true:=by simp;omega
    have m2:((ST:Int) != 2)=true:=by simp;omega
    clear hm aB aM aN;rw[Aa HE];simp only;go_enter Tryz.func92,Tryz.ntmps92
    go_upto_region 1 with fail
    try rw[hH]
    rw[Aa aP];go_quiet (fail)
    go_wp2;exact qV (results_tmp2 rfl _ _ _) rfl ⟨_,rfl,Nz.nil0 (Aa HX) (by rw[hH];exact Ac (Aa aL))⟩
  case pos=>
    by_cases hs:si<0∨(N:Int)≤si
    case pos=>
      have HE:=Ab (Aa aN (.inr (aM.2 hs)));clear aB aM aN;rcases hs with hs|hs
      · rcases hm with rfl|rfl
        iterate 2
          · clear bG
            rw[Aa HE];simp only;go_enter Tryz.func92,Tryz.ntmps92
            go_upto_region 1 with fail
            try rw[hH]
            rw[Aa aP];go_quiet (fail)
            go_wp2;exact qV (results_tmp2 rfl _ _ _) rfl ⟨_,rfl,Nz.nil0 (Aa HX) (by rw[hH];exact Ac (Aa aL))⟩
      · have dM:¬si<0:=by omega
        have d1:decide (si<0)=false:=by simp;omega
        have d2:(N:Int)≤si:=hs;rcases hm with rfl|rfl
        iterate 2
          · clear bG
            rw[Aa HE];simp only;go_enter Tryz.func92,Tryz.ntmps92
            go_upto_region 1 with fail
            try rw[hH]
            rw[Aa aP];go_quiet (fail)
            go_wp2;exact qV (results_tmp2 rfl _ _ _) rfl ⟨_,rfl,Nz.nil0 (Aa HX) (by rw[hH];exact Ac (Aa aL))⟩
    case neg=>
      obtain⟨i,rfl⟩:∃i:Nat,si=(i:Int):=⟨si.toNat,by omega⟩;have dR:i<N:=by omega
      have d1:decide ((i:Int)<0)=false:=by simp
      have d0:¬(i:Int)<0:=by omega
      have d2:(i:Int)<(N:Int):=by omega
      have d3:decide ((N:Int)≤(i:Int))=false:=by simp;omega
      have aZ:¬(P32.moving s=false∨P32.has d.bare (i:Int)=false):=fun q=>q.elim (fun q=>by have:=aB.1 q;omega) (fun q=>hs (aM.1 q))
      have aC:P32.answer d.bare n ⟨(i:Int),aa,J,ao⟩ s=if (P31.answer (P32.stepAt d.bare i) n (s.run i J) aa ao).2=false then ((s,[]),false) else (P32.on d.bare n (P32.put i J (P31.answer (P32.stepAt d.bare i) n (s.run i J) aa ao).1 (s,[])),true):=by
        unfold P32.answer;rw[if_neg aZ];rfl
      have cI:=Ab aC;clear aC aZ hs aB aM aN;have cZ:=Ab hm;go_enter Tryz.func92,Tryz.ntmps92
      go_upto_region 1 with fail
      try rw[hH]
      rw[Aa aP];go_cut [37] from 11 to 37 (fun c wx=>c=.bool false∧Hid (∃nq,wx=W1.drewN nq))
      case first=>
        rcases hm with rfl|rfl
        iterate 2
          · go_quiet (fail)
            go_wp2
            go_meet
            exact⟨by simp;omega,Ab ⟨_,rfl⟩⟩
      case rest=>
        obtain⟨rfl,HQ⟩:=hcut;obtain⟨nq,hU⟩:=Aa HQ;obtain⟨U,rfl⟩:∃U,U=wc:=⟨_,rfl⟩;have bL:Below H w U:=by rw[hU];exact Ac (Aa aL)
        have gU:U.heap[H]?=some (.cells #[.int .i64 (i:Int),.int .i64 aa,.bool J,.int .u8 (ao:Int)] 37):=by rw[hU];exact Aa cL
        have zU:H+1≤U.heap.size:=(qA.1 gU).1;have cD:RS d C U b gd gu ra rc vs ov (s,[]):=(Aa H1).below (by rw[hH];exact bL);obtain⟨⟨fp,fn,ft,fl⟩,hf⟩:∃q,s.run i false=q:=⟨_,rfl⟩;obtain⟨⟨tp,tn,tt,tl⟩,ht⟩:∃q,s.run i true=q:=⟨_,rfl⟩;have bF:=Ab cD;have bV:=Ab gU;have cH:=Ab bL;have HF:=Ab hf;have HT:=Ab ht;clear cD gU bL hf ht hU x0 x1 x2 x3 c4 c8 aP aL dB cL HQ hm d0 d1 d3;go_upto_region 3 with fail
        refine B6 Bj [9] 8 (fun Z f aF W=>∃Bx,aF={ tmps:=#[qP0 b,.agg #[nI i,.int .i64 aa,.bool J,.int .u8 (ao:Int)],.int .i64 n,uZ,qP0 H,uZ,.slice none 0 0,.bool false,Bx,uZ,uZ,u11,u12,u13,u14,u15,u16,u17,u18,u19,u20,u21,u22,u23,u24,u25,u26,u27,u28,u29,u30,u31,u32,u33,u34,u35,u36,.bool false,qP0 b,qP0 b,pT b 4,.slice (oA gd 0) N N,qP0 H,nI i,pT gd (i*4),.agg #[.int .u8 (fp:Int),.int .i64 fn,.int .i64 ft,.bool fl],uZ,uZ,uZ,uZ,uZ,uZ,uZ,uZ,uZ,uZ,uZ,uZ,uZ,uZ,uZ,uZ,uZ,uZ,uZ,uZ,uZ,uZ,uZ,uZ,uZ,uZ,uZ,uZ,uZ,uZ,uZ,uZ,uZ,uZ,uZ,uZ,uZ,uZ,uZ,uZ,uZ],defers:=[] }∧Pb 0 U ⟨fp,fn,ft,fl⟩ Z f Bx W) (by kernel_rfl) (by kernel_rfl) (by decide) (by decide) (by decide) ⟨undef,rfl,Pb.start _ _ _ _⟩ rfl rfl (Bs 8 1 38 8 (by kernel_rfl) (by kernel_rfl) (by decide) rfl rfl rfl) ?pure ?write ?free ?fin
        case pure=>
          rintro Z f aF W ix o ⟨Bx,rfl,I⟩ ho bT bO aO dH aK;have bK:=(Aa bF).below I.1;have q4:W.cell? ⟨b,4,none⟩=some (.slice (some ⟨gd,0,none⟩) d.steps.length d.steps.length):=bK.cell (j:=4) rfl;rw[Aa HN]at q4;obtain⟨⟨y0,_⟩,⟨y1,_⟩,⟨y2,_⟩,⟨y3,_⟩⟩:=bK.dr.cells (i:=i) (by rw[Aa HN];omega);simp only[Aa HF]at y0 y1 y2 y3;obtain⟨⟨v0,_⟩,⟨v1,_⟩,⟨v2,_⟩,⟨v3,_⟩⟩:=Bl ((I.1.block H (by omega)).trans (Aa bV));clear bK;rcases ix with _|_|_|_|_|_|_|_|_|_|ix
          all_goals first
            |(refine absurd ?_ bT;simp;done)
            |(exact absurd rfl bO)
            | (refine wq ho rfl rfl rfl rfl ?_
               go_simp
               done)
            |(exfalso;simp at ho;done)
        case write=>
          rintro Z f aF W ix o ⟨Bx,rfl,I⟩ hi ho aK;rcases Z with _|Z
          · cases (show some 9=some ix from hi)
            have aA:some _=some o:=ho;cases aA;have hf:f=true:=aK (by kernel_rfl);subst hf;obtain⟨p,rfl,bE,aE⟩:=I.2 rfl;have aH:Av W p P31.Run.zero:=aE;obtain⟨⟨z0,f0⟩,⟨z1,f1⟩,⟨z2,f2⟩,⟨z3,f3⟩⟩:=aH.cells;refine⟨rfl,.inr (.inl ⟨_,?_,⟨_,rfl,I.store⟩⟩)⟩
            go_simp
          · simp at hi
        case free=>
          rintro Z aF W o ⟨Bx,rfl,I⟩ ho aO;have aA:some _=some o:=ho;cases aA;refine⟨rfl,.inl ⟨_,_,?_,⟨_,rfl,I.alloc (aO 0 9 rfl (by kernel_rfl))⟩⟩⟩
          go_simp
        case fin=>
          rintro Z aF W3 hk ⟨Bx,rfl,I⟩;obtain⟨Z,rfl⟩:∃k',Z=k'+1:=⟨Z-1,by simp at hk;omega⟩;obtain⟨p,rfl,bE,aE⟩:=I.2 rfl;have aH:Av W3 p ⟨fp,fn,ft,fl⟩:=by rw[if_neg (by omega)]at aE;exact aE
          have aT:=Ab I.1;have aX:=Ab aH;obtain⟨⟨v0,_⟩,⟨v1,_⟩,⟨v2,_⟩,⟨v3,_⟩⟩:=Bl ((I.1.block H (by omega)).trans (Aa bV));clear I aE aH;obtain⟨⟨rp,rn,rt,rl⟩,hr⟩:∃q,s.run i J=q:=⟨_,rfl⟩;have aI:=Ab hr;clear hr
          go_upto_if 47 with fail
          go_cut [8] from 48 to 55 (fun c wx=>c=.pointer (some ⟨p,0,none⟩)∧Hid (Below U.heap.size U wx∧Av wx p ⟨rp,rn,rt,rl⟩))
          case first=>
            cases J with
            |true=>
              have bQ:=(Aa bF).below (Aa aT);have k5:W3.cell? ⟨b,5,none⟩=some (.slice (some ⟨gu,0,none⟩) d.steps.length d.steps.length):=bQ.cell (j:=5) rfl;rw[Aa HN]at k5;obtain⟨⟨y0,_⟩,⟨y1,_⟩,⟨y2,_⟩,⟨y3,_⟩⟩:=bQ.ur.cells (i:=i) (by rw[Aa HN];omega);simp only[Aa aI]at y0 y1 y2 y3;obtain⟨⟨z0,f0⟩,⟨z1,f1⟩,⟨z2,f2⟩,⟨z3,f3⟩⟩:=(Aa aX).cells;clear bQ;go_upto_region 5 with fail
              refine Ak 8 (by kernel_rfl) (by kernel_rfl) (by kernel_rfl) (by kernel_rfl) (by kernel_rfl) ?_;simp only[List.take_succ_cons,List.take_zero,List.drop_succ_cons,List.drop_zero]
              repeat (go_big_quiet_step (fail))
              refine wpQuiet_nil ?_;rintro _ ⟨dA,rfl⟩;go_wp2
              go_meet
              exact⟨rfl,Ab ⟨Below.set4 (Ac (Aa aT)) bE _ _ _ _,Av.out (V:=W3.drewN dA) (Aa aX) ⟨rp,rn,rt,rl⟩⟩⟩
            |false=>
              have cV:=(Aa HF).symm.trans (Aa aI);go_wp2
              go_meet
              exact⟨rfl,Ab ⟨Aa aT,by rw[←cV];exact Aa aX⟩⟩
          case rest=>
            obtain⟨rfl,HV⟩:=hcut;obtain⟨aJ,bC⟩:=Aa HV;obtain⟨V,rfl⟩:∃V,V=wc:=⟨_,rfl⟩;clear v0 v1 v2 v3 HT HF aX aT HV;go_upto_region 6 with fail
            have gV:=(aJ.block H (by omega)).trans (Aa bV);have zV:U.heap.size≤V.heap.size:=aJ.size;have aQ:=(Aa bF).below aJ;have cR:Below H w V:=(Aa cH).trans (aJ.mono (by have:=(Aa cH).size;omega));obtain⟨s1,bI⟩:∃s1,d.steps[i]?=some s1:=⟨_,qO (by rw[Aa HN];omega)⟩;obtain⟨⟨sb,so,cB,cA⟩,_⟩:=aQ.din.steps i s1 bI;have c2:V.cell? ⟨b,2,none⟩=some (.slice d.sa d.steps.length d.sc):=aQ.cell (j:=2) rfl;rw[cB,Aa HN]at c2;obtain⟨⟨t0,t1,t2,t3⟩,⟨t4,t5,t6,t7⟩,⟨t8,t9,aW,aR,bM⟩⟩:=Ar cA;have bJ:(⟨rp,rn,rt,rl⟩:P31.Run).ok:=by have:=(Aa HI).ok i J;rwa [Aa aI]at this
            have aD:=fun X=>Lz ⟨rp,rn,rt,rl⟩ s1 n aa ao X ⟨Int.le_trans (by decide) bJ.lo,Int.le_trans bJ.hi (by decide)⟩;have aG:P32.stepAt d.bare i=s1.bare:=Bt d bI;have aC:=Aa cI;rw[aG,Aa aI]at aC;obtain⟨⟨RA,OK⟩,aS⟩:∃y,P31.answer s1.bare n ⟨rp,rn,rt,rl⟩ aa ao=y:=⟨_,rfl⟩;rw[aS]at aC aD;unfold Au Ai.val at aD;simp only[Ai.aV,Nd.kV,Nd.dV]at aD t3 aW aR;have bZ:=Ab aD;have dF:Hid (OK=false→P32.answer d.bare n ⟨(i:Int),aa,J,ao⟩ s=((s,[]),false)):=Ab (fun e=>by rw[aC,if_pos e]);have cT:Hid (OK=true→P32.answer d.bare n ⟨(i:Int),aa,J,ao⟩ s=(P32.on d.bare n (P32.put i J RA (s,[])),true)):=Ab (fun e=>by rw[aC,if_neg (by rw[e];simp)]);have aB:P32.moving s=true:=P32.moving_iff.2 (by have:=Aa cW;have:=Aa cZ;omega)
            have cY:Hid (OK=true→P32.Good d.bare (P32.put i J RA (s,[]))):=Ab (fun e=>by
              have:=P32.good_ans (d:=d.bare) (n:=n) (a:=⟨(i:Int),aa,J,ao⟩) (s:=s) (Aa HI) aB (by rw[show P32.stepAt d.bare (⟨(i:Int),aa,J,ao⟩:P33.Ans).step.toNat=s1.bare from aG,show s.run (⟨(i:Int),aa,J,ao⟩:P33.Ans).step.toNat (⟨(i:Int),aa,J,ao⟩:P33.Ans).undo=⟨rp,rn,rt,rl⟩ from Aa aI,aS,e];simp);rw[show P32.stepAt d.bare (⟨(i:Int),aa,J,ao⟩:P33.Ans).step.toNat=s1.bare from aG,show s.run (⟨(i:Int),aa,J,ao⟩:P33.Ans).step.toNat (⟨(i:Int),aa,J,ao⟩:P33.Ans).undo=⟨rp,rn,rt,rl⟩ from Aa aI,aS]at this
              exact this)
            have cN:=enters_of Tryz.func134 (by kernel_rfl) rfl;have dC:=Ab aQ;have cJ:=Ab gV;have dJ:=Ab bC;have dE:=Ab cR;have cU:p<V.heap.size:=(qA.1 bC).1;clear aD aC aQ cA cB aS bJ aG gV bI bC cR aJ aB;refine B6 Bj [15,20] 19 (fun Z f aF W=>∃Bx,aF={ tmps:=#[qP0 b,.agg #[nI i,.int .i64 aa,.bool J,.int .u8 (ao:Int)],.int .i64 n,uZ,qP0 H,uZ,.slice none 0 0,.bool false,qP0 p,Bx,.bool OK,u11,u12,u13,u14,u15,u16,u17,u18,u19,u20,u21,u22,u23,u24,u25,u26,u27,u28,u29,u30,u31,u32,u33,u34,u35,u36,.bool false,qP0 b,qP0 b,pT b 4,.slice (oA gd 0) N N,qP0 H,nI i,pT gd (i*4),.agg #[.int .u8 (fp:Int),.int .i64 fn,.int .i64 ft,.bool fl],pT H 2,.bool J,u48,u49,u50,u51,u52,u53,u54,u55,.tuple #[.agg #[.int .u8 (RA.phase:Int),.int .i64 RA.att,.int .i64 RA.til,.bool RA.last],.bool OK],.agg #[.int .u8 (rp:Int),.int .i64 rn,.int .i64 rt,.bool rl],qP0 b,qP0 b,qP0 b,pT b 2,.slice (oA sb so) N d.sc,qP0 H,nI i,pT sb (so+i*13),.agg #[sT s1.name,sT s1.action,sT s1.undo,.slice s1.aa s1.after.length s1.ac,.int .i64 s1.most,.int .i64 s1.first,.int .i64 s1.factor,.int .i64 s1.limit,.int .u8 (s1.note.kind:Int),sT s1.note.text,.slice s1.note.ka s1.note.keys.length s1.note.kc,.slice s1.note.da s1.note.kids.length s1.note.dc,.int .i64 s1.note.line],.int .i64 n,pT H 1,.int .i64 aa,pT H 3,.int .u8 (ao:Int),.tuple #[.agg #[.int .u8 (RA.phase:Int),.int .i64 RA.att,.int .i64 RA.til,.bool RA.last],.bool OK],.agg #[.int .u8 (RA.phase:Int),.int .i64 RA.att,.int .i64 RA.til,.bool RA.last],.bool OK,uZ,uZ,uZ,uZ,uZ,uZ,uZ,uZ,uZ,uZ,uZ,uZ],defers:=[] }∧Pb 1 V RA Z f Bx W) (by kernel_rfl) (by kernel_rfl) (by decide) (by decide) (by decide) ⟨undef,rfl,Pb.start _ _ _ _⟩ rfl rfl (Bs 9 2 56 19 (by kernel_rfl) (by kernel_rfl) (by decide) rfl rfl rfl) ?pure ?write ?free ?fin
            case pure=>
              rintro Z f aF W ix o ⟨Bx,rfl,I⟩ ho bT bO aO dH aK;have hc:=fun g o (h:g<V.heap.size)=>Ae (I.1.block g h) o;obtain⟨⟨v0,_⟩,⟨v1,_⟩,⟨v2,_⟩,⟨v3,_⟩⟩:=Bl ((I.1.block H (by omega)).trans (Aa cJ));obtain⟨⟨z0,_⟩,⟨z1,_⟩,⟨z2,_⟩,⟨z3,_⟩⟩:=Av.cells ((I.1.block p cU).trans (Aa dJ));have e2:=(hc b 2 (Ad c2)).trans c2;have q0:=(hc sb _ (Ad t0)).trans t0;have q1:=(hc sb _ (Ad t1)).trans t1;have q2:=(hc sb _ (Ad t2)).trans t2;have q3:=(hc sb _ (Ad t3)).trans t3;have q4:=(hc sb _ (Ad t4)).trans t4;have q5:=(hc sb _ (Ad t5)).trans t5;have q6:=(hc sb _ (Ad t6)).trans t6;have q7:=(hc sb _ (Ad t7)).trans t7;have q8:=(hc sb _ (Ad t8)).trans t8;have q9:=(hc sb _ (Ad t9)).trans t9;have dL:=(hc sb _ (Ad aW)).trans aW;have dQ:=(hc sb _ (Ad aR)).trans aR;have dK:=(hc sb _ (Ad bM)).trans bM;clear hc;rcases ix with _|_|_|_|_|_|_|_|_|_|_|_|_|_|_|_|_|_|_|_|_|_|ix
              all_goals first
                |(refine absurd ?_ bT;simp;done)
                |(exact absurd rfl bO)
                | (refine wq ho rfl rfl rfl rfl ?_
                   go_simp
                   done)
                |(exfalso;simp at ho;done)
            case write=>
              rintro Z f aF W ix o ⟨Bx,rfl,I⟩ hi ho aK;rcases Z with _|_|Z
              · cases (show some 15=some ix from hi)
                have aA:some _=some o:=ho;cases aA;refine⟨rfl,.inr (.inr ⟨134,#[.agg #[.int .u8 (rp:Int),.int .i64 rn,.int .i64 rt,.bool rl],.agg #[.string ⟨s1.name.toArray⟩,.string ⟨s1.action.toArray⟩,.string ⟨s1.undo.toArray⟩,.slice s1.aa s1.after.length s1.ac,.int .i64 s1.most,.int .i64 s1.first,.int .i64 s1.factor,.int .i64 s1.limit,.int .u8 (s1.note.kind:Int),.string ⟨s1.note.text.toArray⟩,.slice s1.note.ka s1.note.keys.length s1.note.kc,.slice s1.note.da s1.note.kids.length s1.note.dc,.int .i64 s1.note.line],.int .i64 n,.int .i64 aa,.int .u8 (ao:Int)],W,?_,?_⟩)⟩
                · simp[execOp,resolve,invoke,Act.eval,cN,Result.andThen,Deferred.ofValue]
                · refine(Aa bZ W).mono ?_
                  rintro e w4 ⟨rfl,b4⟩;exact⟨_,rfl,⟨Bx,rfl,I.call (by omega) b4⟩⟩
              · cases (show some 20=some ix from hi)
                have aA:some _=some o:=ho;cases aA;have hf:f=true:=aK (by kernel_rfl);subst hf;obtain⟨q,rfl,bE,aE⟩:=I.2 rfl;have aH:Av W q P31.Run.zero:=aE;obtain⟨⟨z0,f0⟩,⟨z1,f1⟩,⟨z2,f2⟩,⟨z3,f3⟩⟩:=aH.cells;refine⟨rfl,.inr (.inl ⟨_,?_,⟨_,rfl,I.store⟩⟩)⟩
                go_simp
              · simp at hi
            case free=>
              rintro Z aF W o ⟨Bx,rfl,I⟩ ho aO;have aA:some _=some o:=ho;cases aA;refine⟨rfl,.inl ⟨_,_,?_,⟨_,rfl,I.alloc (aO 1 20 rfl (by kernel_rfl))⟩⟩⟩
              go_simp
            case fin=>
              rintro Z aF W6 hk ⟨Bx,rfl,I⟩;obtain⟨Z,rfl⟩:∃k',Z=k'+2:=⟨Z-2,by simp at hk;omega⟩;obtain⟨q,rfl,dN,bU⟩:=I.2 rfl;have bX:Av W6 q RA:=by rw[if_neg (by omega)]at bU;exact bU
              obtain⟨⟨v0,_⟩,⟨v1,_⟩,⟨v2,_⟩,⟨v3,_⟩⟩:=Bl ((I.1.block H (by omega)).trans (Aa cJ));obtain⟨⟨z0,_⟩,⟨z1,_⟩,⟨z2,_⟩,⟨z3,_⟩⟩:=bX.cells;have cO:Below H w W6:=(Aa dE).trans (I.1.mono (by omega));have h6:Cz d C b (s,[]) M R W6:=⟨gd,gu,ra,rc,vs,ov,(Aa dC).below I.1,Aa HM⟩;have cF:=Ab cO;have dI:=Ab h6;clear I bU bX cO h6 c2 t0 t1 t2 t3 t4 t5 t6 t7 t8 t9 aW aR bM;cases OK with
              |false=>
                go_wp2;rw[Aa dF (by simp)];exact qV (results_tmp2 rfl _ _ _) rfl ⟨_,rfl,Nz.nil0 (Aa HX) (by rw[hH];exact Aa cF)⟩
              |true=>
                have cC:=Aa cY rfl;have bW:=Fy i J RA W6 (Aa dI) (by rw[Aa HN];omega) (by rw[Aa HN];omega) (by simp) (by have h1:=P32.len_le _ s.done (Aa HI).nodup (fun i hi=>(Aa HI).lt hi);have h2:d.bare.steps.length=N:=(Md.blen d).trans (Aa HN);show s.done.length≤1000000;omega);have cK:=fun(M1:Nat→Prop) (X:World) (hz:Cz d C b (P32.put i J RA (s,[])) M1 R X)=>Gk n X hz cC (by rw[Aa HN];omega) (by have:=P32.put_len i J RA (s,[]);simp at this;omega);unfold Au at bW;have dG:=Ab bW;have cX:=Ab cK;clear bW cK cC
                go_wp2_with (first
                  |(go_at_call 135;refine(Aa dG).mono ?_;rintro e w8 ⟨⟨v8,rfl⟩,M8,cG,cS⟩;have cP:=Ab (And.intro cG cS);clear cG cS)
                  | (go_at_call 136;refine(Aa cX _ _ (Aa cP).1).mono ?_;rintro e w9 ⟨v9,rfl,bY⟩;have dD:=Ab bY;clear bY))
                rw[Aa cT (by simp)];exact qV (results_tmp2 rfl _ _ _) rfl ⟨_,rfl,(Aa dD).up ((KM.of_below (KM.refl _ _) (by rw[hH];exact Aa cF)).trans (Aa cP).2)⟩
open Go.RowKit
open P32 (waysL waysL_len Ci Em tickX C2 tickX_all tickX_good)
theorem Pg{d:Af}{C b:Nat}{s:P32.S}{M R:Nat→Prop}(n:Int)(w:World)(h:Cz d C b (s,[]) M R w)(hi:P32.Inv d.bare s)(bE:d.steps.length≤100000) :
    Calls Tryz.prog 93 #[qP0 b,.int .i64 n] w fun e w'=>∃v,e=.returned v∧Nz d C b (P32.tick d.bare n s) M R w v w':=by
  obtain⟨N,hN⟩:=qeX d.steps.length;have aM:d.bare.steps.length=N:=(Md.blen d).trans hN;obtain⟨c8,_⟩:=h.c8;obtain⟨ST,bM⟩:∃z,s.status=z:=⟨_,rfl⟩;rw[show ((s,([]:List P32.Order)):P32.S × List P32.Order).1.status=ST from bM]at c8;by_cases hm:ST=1∨ST=2
  case neg=>
    have aL:P32.tick d.bare n s=(s,[]):=by
      unfold P32.tick;rw[if_pos (by simp[P32.moving];omega)]
    rw[aL];have m1:((ST:Int) != 1)=true:=by simp;omega
    have m2:((ST:Int) != 2)=true:=by simp;omega
    have HX:=Ab h;clear aL hm h hi bM hN aM bE;go_enter Tryz.func93,Tryz.ntmps93
    go_wp2;go_ret;exact⟨_,rfl,Nz.nil0 (Aa HX) (qU _ _)⟩
  case pos=>
    have bF:P32.moving s=true:=P32.moving_iff.2 (by omega);have aL:=P32.tickX_all (d:=d.bare) (n:=n) bF;rw[waysL_len,aM]at aL
    have Z:∀j,j≤2*N→P32.Good d.bare (tickX d.bare n s j)∧(tickX d.bare n s j).1.status=s.status∧(tickX d.bare n s j).2.length≤j:=fun j hj=>by
      obtain⟨a,c,e,_⟩:=tickX_good (n:=n) hi (P32.moving_iff.1 bF) j (by rw[aM];exact hj);exact⟨a,c,e⟩
    have bX:∀i,i<N→tickX d.bare n s (i+1)=P32.tick1 d.bare n false (tickX d.bare n s i) i:=fun i hi=>C2 (p:=(i,false)) (by have:=Ci N 0 i (by omega) hi;simpa[aM]using this);have bT:∀i,i<N→tickX d.bare n s (N+i+1)=P32.tick1 d.bare n true (tickX d.bare n s (N+i)) i:=fun i hi=>C2 (p:=(i,true)) (by have:=Ci N 1 i (by omega) hi;simpa[aM]using this);have h0:Cz d C b (tickX d.bare n s 0) M R w∧KM M w M w:=⟨h,KM.refl _ _⟩;have cM:N≤100000:=by omega
    have aK:=fun(M1:Nat→Prop) (X:World) (hz:Cz d C b (tickX d.bare n s (2*N)) M1 R X)=>Gk n X hz (Z _ (qJ _)).1 bE (by have:=(Z _ (qJ _)).2.2;omega);rw[←aL]at aK;have bW:=Ab Z;have bV:=Ab bX;have bY:=Ab bT;have H0:=Ab h0;have cF:=Ab aK;have HN:=Ab hN;clear bF aL Z bX bT h0 aK hN aM h hi bM bE;go_enter Tryz.func93,Tryz.ntmps93
    go_upto_region 1 with fail
    go_cut [22] from 11 to 22 (fun c wx=>c=.bool false∧w=wx)
    case first=>
      rcases hm with rfl|rfl
      · go_wp2
        go_meet
        exact⟨rfl,rfl⟩
      · go_wp2
        go_meet
        exact⟨rfl,rfl⟩
    case rest=>
      obtain⟨rfl,hw⟩:=hcut;subst hw;clear c8 hm;go_wp2
      go_loopg [5] N (fun g s5 wx=>∃(i:Nat) (M1:Nat→Prop),i+g=N∧s5=.int .i64 i∧Hid (Cz d C b (tickX d.bare n s i) M1 R wx∧KM M w M1 wx))
      case atStart=>exact⟨0,M,by omega,by go_num,H0⟩
      case round=>
        obtain⟨i,M1,cC,rfl,HZ⟩:=hrel;obtain⟨gd,gu,ra,rc,vs,ov,h3,rfl,rfl⟩:=(Aa HZ).1.ex;have k4:wr.cell? ⟨b,4,none⟩=some (.slice (some ⟨gd,0,none⟩) d.steps.length d.steps.length):=h3.cell (j:=4) rfl;rw[Aa HN]at k4;cases gk with
        |succ g'=>
          have cI:(i:Int)<(N:Int):=by omega
          have hkj:IntKind.i64.wrap ((i:Int)+1)=(i:Int)+1:=qG _ (by omega);have Z:=Aa bW i (by omega);have aB:=Aa bV i (by omega);obtain⟨s1,aG⟩:∃s1,d.steps[i]?=some s1:=⟨_,qO (by rw[Aa HN];omega)⟩;obtain⟨⟨sb,so,aR,aQ⟩,_⟩:=h3.din.steps i s1 aG;have c2:wr.cell? ⟨b,2,none⟩=some (.slice d.sa d.steps.length d.sc):=h3.cell (j:=2) rfl;rw[aR,Aa HN]at c2;obtain⟨⟨t0,t1,t2,t3⟩,⟨t4,t5,t6,t7⟩,⟨t8,t9,aD,aC,aI⟩⟩:=Ar aQ;obtain⟨⟨y0,_⟩,⟨y1,_⟩,⟨y2,_⟩,⟨y3,_⟩⟩:=h3.dr.cells (i:=i) (by rw[Aa HN];omega);obtain⟨⟨rp,rn,rt,rl⟩,hr⟩:∃q,(P32.tickX d.bare n s i).1.run i false=q:=⟨_,rfl⟩;simp only[hr]at y0 y1 y2 y3;have aH:(⟨rp,rn,rt,rl⟩:P31.Run).ok:=by have:=Z.1.inv.ok i false;rwa [hr]at this
          have J:=fun X=>Jl ⟨rp,rn,rt,rl⟩ s1 n X ⟨Int.le_trans (by decide) aH.lo,Int.le_trans aH.hi (by decide)⟩;rw[P32.tick1_put,hr,Bt d aG]at aB;obtain⟨⟨RA,OK⟩,aU⟩:∃y,P31.tick s1.bare n ⟨rp,rn,rt,rl⟩=y:=⟨_,rfl⟩;rw[aU]at aB J;unfold Au Ai.val at J;simp only[Ai.aV,Nd.kV,Nd.dV]at J t3 aD aC;have aE:=fun X (hb:Below wr.heap.size wr X)=>Fy i false RA X (⟨_,_,_,_,_,_,h3.below hb,rfl,rfl⟩:Cz d C b (P32.tickX d.bare n s i) _ _ X) (by rw[Aa HN];omega) (by rw[Aa HN];omega) (by have:=Z.2.2;omega) (by have h1:=P32.len_le _ _ Z.1.inv.nodup (fun i hi=>Z.1.inv.lt hi);have h2:d.bare.steps.length=N:=(Md.blen d).trans (Aa HN);omega);rw[←aB]at aE;unfold Au at aE;have aP:=Ab J;have bI:=Ab aE;have H3:=Ab h3;have aS:=enters_of Tryz.func137 (by kernel_rfl) rfl;clear Z aB aR aQ hr aH J aU aE h3 aG;go_upto_region 6 with fail
          refine B6 Bj [16,21] 20 (fun pk f aF W=>∃Bx,aF={ tmps:=#[qP0 b,.int .i64 n,uZ,uZ,.slice none 0 0,nI i,Bx,.bool OK,uZ,uZ,uZ,u11,u12,u13,u14,u15,u16,u17,u18,u19,u20,u21,.bool false,nI i,qP0 b,qP0 b,pT b 4,.slice (oA gd 0) N N,nI N,.bool true,u30,u31,.tuple #[.agg #[.int .u8 (RA.phase:Int),.int .i64 RA.att,.int .i64 RA.til,.bool RA.last],.bool OK],qP0 b,qP0 b,pT b 4,.slice (oA gd 0) N N,nI i,pT gd (i*4),.agg #[.int .u8 (rp:Int),.int .i64 rn,.int .i64 rt,.bool rl],qP0 b,qP0 b,qP0 b,pT b 2,.slice (oA sb so) N d.sc,nI i,pT sb (so+i*13),.agg #[sT s1.name,sT s1.action,sT s1.undo,.slice s1.aa s1.after.length s1.ac,.int .i64 s1.most,.int .i64 s1.first,.int .i64 s1.factor,.int .i64 s1.limit,.int .u8 (s1.note.kind:Int),sT s1.note.text,.slice s1.note.ka s1.note.keys.length s1.note.kc,.slice s1.note.da s1.note.kids.length s1.note.dc,.int .i64 s1.note.line],.int .i64 n,.tuple #[.agg #[.int .u8 (RA.phase:Int),.int .i64 RA.att,.int .i64 RA.til,.bool RA.last],.bool OK],.agg #[.int .u8 (RA.phase:Int),.int .i64 RA.att,.int .i64 RA.til,.bool RA.last],.bool OK,u52,u53,u54,u55,uZ,uZ,uZ,uZ,uZ,uZ,uZ,uZ,uZ,uZ,uZ,uZ,uZ,uZ,uZ,uZ,uZ,uZ,uZ,uZ,uZ,uZ,uZ,uZ,uZ,uZ,uZ,uZ,uZ,uZ,uZ,uZ,uZ,uZ,uZ,uZ],defers:=[] }∧Pb 1 wr RA pk f Bx W) (by kernel_rfl) (by kernel_rfl) (by decide) (by decide) (by decide) ⟨undef,rfl,Pb.start _ _ _ _⟩ rfl rfl (Bs 6 2 32 20 (by kernel_rfl) (by kernel_rfl) (by decide) rfl rfl rfl) ?pure ?write ?free ?fin
          case pure=>
            rintro pk f aF W ix o ⟨Bx,rfl,I⟩ ho bJ bG aW cL aO;have hc:=fun g o (h:g<wr.heap.size)=>Ae (I.1.block g h) o;have e2:=(hc b 2 (Ad c2)).trans c2;have e4:=(hc b 4 (Ad k4)).trans k4;have x0:=(hc _ _ (Ad y0)).trans y0;have x1:=(hc _ _ (Ad y1)).trans y1;have x2:=(hc _ _ (Ad y2)).trans y2;have x3:=(hc _ _ (Ad y3)).trans y3;have q0:=(hc sb _ (Ad t0)).trans t0;have q1:=(hc sb _ (Ad t1)).trans t1;have q2:=(hc sb _ (Ad t2)).trans t2;have q3:=(hc sb _ (Ad t3)).trans t3;have q4:=(hc sb _ (Ad t4)).trans t4;have q5:=(hc sb _ (Ad t5)).trans t5;have q6:=(hc sb _ (Ad t6)).trans t6;have q7:=(hc sb _ (Ad t7)).trans t7;have q8:=(hc sb _ (Ad t8)).trans t8;have q9:=(hc sb _ (Ad t9)).trans t9;have cD:=(hc sb _ (Ad aD)).trans aD;have cK:=(hc sb _ (Ad aC)).trans aC;have cA:=(hc sb _ (Ad aI)).trans aI;clear hc;rcases ix with _|_|_|_|_|_|_|_|_|_|_|_|_|_|_|_|_|_|_|_|_|_|_|ix
            all_goals first
              |(refine absurd ?_ bJ;simp;done)
              |(exact absurd rfl bG)
              | (refine wq ho rfl rfl rfl rfl ?_
                 go_simp
                 done)
              |(exfalso;simp at ho;done)
          case write=>
            rintro pk f aF W ix o ⟨Bx,rfl,I⟩ hi ho aO;rcases pk with _|_|pk
            · cases (show some 16=some ix from hi)
              have aA:some _=some o:=ho;cases aA;refine⟨rfl,.inr (.inr ⟨137,#[.agg #[.int .u8 (rp:Int),.int .i64 rn,.int .i64 rt,.bool rl],.agg #[.string ⟨s1.name.toArray⟩,.string ⟨s1.action.toArray⟩,.string ⟨s1.undo.toArray⟩,.slice s1.aa s1.after.length s1.ac,.int .i64 s1.most,.int .i64 s1.first,.int .i64 s1.factor,.int .i64 s1.limit,.int .u8 (s1.note.kind:Int),.string ⟨s1.note.text.toArray⟩,.slice s1.note.ka s1.note.keys.length s1.note.kc,.slice s1.note.da s1.note.kids.length s1.note.dc,.int .i64 s1.note.line],.int .i64 n],W,?_,?_⟩)⟩
              · simp[execOp,resolve,invoke,Act.eval,aS,Result.andThen,Deferred.ofValue]
              · refine(Aa aP W).mono ?_
                rintro e w4 ⟨rfl,b4⟩;exact⟨_,rfl,⟨Bx,rfl,I.call (by omega) b4⟩⟩
            · cases (show some 21=some ix from hi)
              have aA:some _=some o:=ho;cases aA;have hf:f=true:=aO (by kernel_rfl);subst hf;obtain⟨q,rfl,cB,bK⟩:=I.2 rfl;have bC:Av W q P31.Run.zero:=bK;obtain⟨⟨z0,f0⟩,⟨z1,f1⟩,⟨z2,f2⟩,⟨z3,f3⟩⟩:=bC.cells;refine⟨rfl,.inr (.inl ⟨_,?_,⟨_,rfl,I.store⟩⟩)⟩
              go_simp
            · simp at hi
          case free=>
            rintro pk aF W o ⟨Bx,rfl,I⟩ ho aW;have aA:some _=some o:=ho;cases aA;refine⟨rfl,.inl ⟨_,_,?_,⟨_,rfl,I.alloc (aW 1 21 rfl (by kernel_rfl))⟩⟩⟩
            go_simp
          case fin=>
            rintro pk aF W6 hk ⟨Bx,rfl,I⟩;obtain⟨pk,rfl⟩:∃k',pk=k'+2:=⟨pk-2,by simp at hk;omega⟩;obtain⟨q,rfl,cG,aJ⟩:=I.2 rfl;have aN:Av W6 q RA:=by rw[if_neg (by omega)]at aJ;exact aJ
            obtain⟨⟨z0,_⟩,⟨z1,_⟩,⟨z2,_⟩,⟨z3,_⟩⟩:=aN.cells;have bD:=Ab I.1;have aT:=Ab (Aa bI W6 I.1);clear I aJ aN c2 t0 t1 t2 t3 t4 t5 t6 t7 t8 t9 aD aC aI y0 y1 y2 y3 k4;go_wp2_with (go_at_call 135;refine(Aa aT).mono ?_;rintro e w8 ⟨⟨v8,rfl⟩,M8,aY,aZ⟩;have aX:=Ab (And.intro aY aZ);clear aY aZ)
            go_roundg g'
            case measure=>omega
            case rel=>exact⟨i+1,M8,by omega,by go_num,Ab ⟨(Aa aX).1,(Aa HZ).2.trans ((KM.of_below (KM.refl _ _) (Aa bD)).trans (Aa aX).2)⟩⟩
        |zero=>
          have e1:(N:Int)≤(i:Int):=by omega
          have j1:decide ((i:Int)<(N:Int))=false:=by simp;omega
          have bL:N=i:=by omega
          subst bL;have h0:Cz d C b (tickX d.bare n s (N+0)) (E8 b gd gu ov) (Fk ra vs) wr∧KM M w (E8 b gd gu ov) wr:=Aa HZ;have H1:=Ab h0;clear h3 h0;go_wp2
          go_loopg [8] N (fun g s8 wx=>∃(j:Nat) (M1:Nat→Prop),j+g=N∧s8=.int .i64 j∧Hid (Cz d C b (tickX d.bare n s (N+j)) M1 (Fk ra vs) wx∧KM M w M1 wx))
          case atStart=>exact⟨0,_,by omega,by go_num,H1⟩
          case round=>
            obtain⟨i,M1,cC,rfl,HZ⟩:=hrel;obtain⟨hd,gu,cP,cO,cN,ov,h3,bU,bQ⟩:=(Aa HZ).1.ex;have k5:wr.cell? ⟨b,5,none⟩=some (.slice (some ⟨gu,0,none⟩) d.steps.length d.steps.length):=h3.cell (j:=5) rfl;rw[Aa HN]at k5;cases gk with
            |succ g'=>
              have cI:(i:Int)<(N:Int):=by omega
              have hkj:IntKind.i64.wrap ((i:Int)+1)=(i:Int)+1:=qG _ (by omega);have Z:=Aa bW (N+i) (by omega);have aB:=Aa bY i (by omega);obtain⟨s1,aG⟩:∃s1,d.steps[i]?=some s1:=⟨_,qO (by rw[Aa HN];omega)⟩;obtain⟨⟨sb,so,aR,aQ⟩,_⟩:=h3.din.steps i s1 aG;have c2:wr.cell? ⟨b,2,none⟩=some (.slice d.sa d.steps.length d.sc):=h3.cell (j:=2) rfl;rw[aR,Aa HN]at c2;obtain⟨⟨t0,t1,t2,t3⟩,⟨t4,t5,t6,t7⟩,⟨t8,t9,aD,aC,aI⟩⟩:=Ar aQ;obtain⟨⟨y0,_⟩,⟨y1,_⟩,⟨y2,_⟩,⟨y3,_⟩⟩:=h3.ur.cells (i:=i) (by rw[Aa HN];omega);obtain⟨⟨rp,rn,rt,rl⟩,hr⟩:∃q,(P32.tickX d.bare n s (N+i)).1.run i true=q:=⟨_,rfl⟩;simp only[hr]at y0 y1 y2 y3;have aH:(⟨rp,rn,rt,rl⟩:P31.Run).ok:=by have:=Z.1.inv.ok i true;rwa [hr]at this
              have J:=fun X=>Jl ⟨rp,rn,rt,rl⟩ s1 n X ⟨Int.le_trans (by decide) aH.lo,Int.le_trans aH.hi (by decide)⟩;rw[P32.tick1_put,hr,Bt d aG]at aB;obtain⟨⟨RA,OK⟩,aU⟩:∃y,P31.tick s1.bare n ⟨rp,rn,rt,rl⟩=y:=⟨_,rfl⟩;rw[aU]at aB J;unfold Au Ai.val at J;simp only[Ai.aV,Nd.kV,Nd.dV]at J t3 aD aC;have aE:=fun X (hb:Below wr.heap.size wr X)=>Fy i true RA X (⟨_,_,_,_,_,_,h3.below hb,bU,bQ⟩:Cz d C b (P32.tickX d.bare n s (N+i)) _ _ X) (by rw[Aa HN];omega) (by rw[Aa HN];omega) (by have:=Z.2.2;omega) (by have h1:=P32.len_le _ _ Z.1.inv.nodup (fun i hi=>Z.1.inv.lt hi);have h2:d.bare.steps.length=N:=(Md.blen d).trans (Aa HN);omega);rw[←aB]at aE;unfold Au at aE;have aP:=Ab J;have bI:=Ab aE;have H3:=Ab h3;have aS:=enters_of Tryz.func137 (by kernel_rfl) rfl;clear bU bQ Z aB aR aQ hr aH J aU aE h3 aG;go_upto_region 11 with fail
              refine B6 Bj [16,21] 20 (fun pk f aF W=>∃Bx,aF={ tmps:=#[qP0 b,.int .i64 n,uZ,uZ,.slice none 0 0,nI N,u6,u7,nI i,Bx,.bool OK,u11,u12,u13,u14,u15,u16,u17,u18,u19,u20,u21,.bool false,nI N,qP0 b,qP0 b,pT b 4,.slice (oA gd 0) N N,nI N,.bool false,u30,u31,u32,u33,u34,u35,u36,u37,u38,u39,u40,u41,u42,u43,u44,u45,u46,u47,u48,u49,u50,u51,u52,u53,u54,u55,nI i,qP0 b,qP0 b,pT b 5,.slice (oA gu 0) N N,nI N,.bool true,u63,u64,.tuple #[.agg #[.int .u8 (RA.phase:Int),.int .i64 RA.att,.int .i64 RA.til,.bool RA.last],.bool OK],qP0 b,qP0 b,pT b 5,.slice (oA gu 0) N N,nI i,pT gu (i*4),.agg #[.int .u8 (rp:Int),.int .i64 rn,.int .i64 rt,.bool rl],qP0 b,qP0 b,qP0 b,pT b 2,.slice (oA sb so) N d.sc,nI i,pT sb (so+i*13),.agg #[sT s1.name,sT s1.action,sT s1.undo,.slice s1.aa s1.after.length s1.ac,.int .i64 s1.most,.int .i64 s1.first,.int .i64 s1.factor,.int .i64 s1.limit,.int .u8 (s1.note.kind:Int),sT s1.note.text,.slice s1.note.ka s1.note.keys.length s1.note.kc,.slice s1.note.da s1.note.kids.length s1.note.dc,.int .i64 s1.note.line],.int .i64 n,.tuple #[.agg #[.int .u8 (RA.phase:Int),.int .i64 RA.att,.int .i64 RA.til,.bool RA.last],.bool OK],.agg #[.int .u8 (RA.phase:Int),.int .i64 RA.att,.int .i64 RA.til,.bool RA.last],.bool OK,u85,u86,u87,u88,uZ,uZ,uZ],defers:=[] }∧Pb 1 wr RA pk f Bx W) (by kernel_rfl) (by kernel_rfl) (by decide) (by decide) (by decide) ⟨undef,rfl,Pb.start _ _ _ _⟩ rfl rfl (Bs 9 2 65 20 (by kernel_rfl) (by kernel_rfl) (by decide) rfl rfl rfl) ?pure ?write ?free ?fin
              case pure=>
                rintro pk f aF W ix o ⟨Bx,rfl,I⟩ ho bJ bG aW cL aO;have hc:=fun g o (h:g<wr.heap.size)=>Ae (I.1.block g h) o;have e2:=(hc b 2 (Ad c2)).trans c2;have e4:=(hc b 5 (Ad k5)).trans k5;have x0:=(hc _ _ (Ad y0)).trans y0;have x1:=(hc _ _ (Ad y1)).trans y1;have x2:=(hc _ _ (Ad y2)).trans y2;have x3:=(hc _ _ (Ad y3)).trans y3;have q0:=(hc sb _ (Ad t0)).trans t0;have q1:=(hc sb _ (Ad t1)).trans t1;have q2:=(hc sb _ (Ad t2)).trans t2;have q3:=(hc sb _ (Ad t3)).trans t3;have q4:=(hc sb _ (Ad t4)).trans t4;have q5:=(hc sb _ (Ad t5)).trans t5;have q6:=(hc sb _ (Ad t6)).trans t6;have q7:=(hc sb _ (Ad t7)).trans t7;have q8:=(hc sb _ (Ad t8)).trans t8;have q9:=(hc sb _ (Ad t9)).trans t9;have cD:=(hc sb _ (Ad aD)).trans aD;have cK:=(hc sb _ (Ad aC)).trans aC;have cA:=(hc sb _ (Ad aI)).trans aI;clear hc;rcases ix with _|_|_|_|_|_|_|_|_|_|_|_|_|_|_|_|_|_|_|_|_|_|_|ix
                all_goals first
                  |(refine absurd ?_ bJ;simp;done)
                  |(exact absurd rfl bG)
                  | (refine wq ho rfl rfl rfl rfl ?_
                     go_simp
                     done)
                  |(exfalso;simp at ho;done)
              case write=>
                rintro pk f aF W ix o ⟨Bx,rfl,I⟩ hi ho aO;rcases pk with _|_|pk
                · cases (show some 16=some ix from hi)
                  have aA:some _=some o:=ho;cases aA;refine⟨rfl,.inr (.inr ⟨137,#[.agg #[.int .u8 (rp:Int),.int .i64 rn,.int .i64 rt,.bool rl],.agg #[.string ⟨s1.name.toArray⟩,.string ⟨s1.action.toArray⟩,.string ⟨s1.undo.toArray⟩,.slice s1.aa s1.after.length s1.ac,.int .i64 s1.most,.int .i64 s1.first,.int .i64 s1.factor,.int .i64 s1.limit,.int .u8 (s1.note.kind:Int),.string ⟨s1.note.text.toArray⟩,.slice s1.note.ka s1.note.keys.length s1.note.kc,.slice s1.note.da s1.note.kids.length s1.note.dc,.int .i64 s1.note.line],.int .i64 n],W,?_,?_⟩)⟩
                  · simp[execOp,resolve,invoke,Act.eval,aS,Result.andThen,Deferred.ofValue]
                  · refine(Aa aP W).mono ?_
                    rintro e w4 ⟨rfl,b4⟩;exact⟨_,rfl,⟨Bx,rfl,I.call (by omega) b4⟩⟩
                · cases (show some 21=some ix from hi)
                  have aA:some _=some o:=ho;cases aA;have hf:f=true:=aO (by kernel_rfl);subst hf;obtain⟨q,rfl,cB,bK⟩:=I.2 rfl;have bC:Av W q P31.Run.zero:=bK;obtain⟨⟨z0,f0⟩,⟨z1,f1⟩,⟨z2,f2⟩,⟨z3,f3⟩⟩:=bC.cells;refine⟨rfl,.inr (.inl ⟨_,?_,⟨_,rfl,I.store⟩⟩)⟩
                  go_simp
                · simp at hi
              case free=>
                rintro pk aF W o ⟨Bx,rfl,I⟩ ho aW;have aA:some _=some o:=ho;cases aA;refine⟨rfl,.inl ⟨_,_,?_,⟨_,rfl,I.alloc (aW 1 21 rfl (by kernel_rfl))⟩⟩⟩
                go_simp
              case fin=>
                rintro pk aF W6 hk ⟨Bx,rfl,I⟩;obtain⟨pk,rfl⟩:∃k',pk=k'+2:=⟨pk-2,by simp at hk;omega⟩;obtain⟨q,rfl,cG,aJ⟩:=I.2 rfl;have aN:Av W6 q RA:=by rw[if_neg (by omega)]at aJ;exact aJ
                obtain⟨⟨z0,_⟩,⟨z1,_⟩,⟨z2,_⟩,⟨z3,_⟩⟩:=aN.cells;have bD:=Ab I.1;have aT:=Ab (Aa bI W6 I.1);clear I aJ aN c2 t0 t1 t2 t3 t4 t5 t6 t7 t8 t9 aD aC aI y0 y1 y2 y3 k5;go_wp2_with (go_at_call 135;refine(Aa aT).mono ?_;rintro e w8 ⟨⟨v8,rfl⟩,M8,aY,aZ⟩;have aX:=Ab (And.intro aY aZ);clear aY aZ)
                go_roundg g'
                case measure=>omega
                case rel=>exact⟨i+1,M8,by omega,by go_num,Ab ⟨(Aa aX).1,(Aa HZ).2.trans ((KM.of_below (KM.refl _ _) (Aa bD)).trans (Aa aX).2)⟩⟩
            |zero=>
              have e1:(N:Int)≤(i:Int):=by omega
              have j1:decide ((i:Int)<(N:Int))=false:=by simp;omega
              have bL:N=i:=by omega
              subst bL;have bZ:N+N=2*N:=by omega
              have aK:=Aa cF M1 wr (by rw[←bZ];exact(Aa HZ).1);have cH:=Ab aK;clear h3 aK;go_wp2_with (go_at_call 136;refine(Aa cH).mono ?_;rintro e w9 ⟨v9,rfl,bO⟩;have cJ:=Ab bO;clear bO)
              go_ret;exact⟨_,rfl,(Aa cJ).up (Aa HZ).2⟩
end Go.Proofs.YtefokfbgpfcbkaaGreat
namespace Go.Proofs.YtefokfbgpfcbkaaGreat
open Go.RowKit
def openP(s:P32.S)(i:Nat):List P32.Order:=(List.range i).flatMap fun i=>P32.openU s i false++P32.openU s i true
theorem Hi(s:P32.S)(i:Nat):openP s (i+1)=openP s i++P32.openU s i false++P32.openU s i true:=by
 unfold openP;rw[List.range_succ,List.flatMap_append];simp
theorem La(s:P32.S)(i:Nat)(u:Bool):(P32.openU s i u).length≤1:=by unfold P32.openU;split<;>simp
theorem I6(s:P32.S):∀i,(openP s i).length≤2*i
 |0=>by simp[openP]
 |i+1=>by
  have ih:=I6 s i;have h1:=La s i false;have h2:=La s i true;rw[Hi,qH,qH];omega
def Kh(H:Nat)(w:World)(l:List P32.Order)(j:P32.Order)(n:Nat)(v:Value)(k:Nat)(X Y:Value)(W:World):Prop:=
 Below H w W∧(k=0→Ba W H v l∧H≤W.heap.size)∧(k=1→∃g c,X=.slice (some ⟨g,0,none⟩) 1 c∧Ba W H v l∧W.heap[g]?=some (.cells #[.int .i64 (j.step:Int),.int .i64 j.att,.bool j.undo,.int .i64 j.til] 35)∧H≤W.heap.size)∧(2≤k→∃g c,Y=.slice (some ⟨g,0,none⟩) (n+1) c∧Ba W H Y (l++[j]))
namespace Kh
variable {H n:Nat} {w W W':World} {l:List P32.Order} {j:P32.Order} {v X Y:Value}
theorem start(h:Below w.heap.size w W)(ho:Ba W w.heap.size v l):Kh w.heap.size w l j n v 0 X Y W.drew:=
 ⟨h.drew,fun _=>⟨ho.keep (fun _ _=>rfl),h.size⟩,fun h=>by omega,fun h=>by omega⟩
theorem lay(h:Kh H w l j n v 0 X Y W):Kh H w l j n v 1 (.slice (some ⟨W.heap.size,0,none⟩) 1 1) Y (W.alloc (.cells #[.int .i64 (j.step:Int),.int .i64 j.att,.bool j.undo,.int .i64 j.til] 35)):=by
 obtain⟨h1,h2,_,_⟩:=h;obtain⟨h3,h4⟩:=h2 rfl;have hk:Below W.heap.size W (W.alloc (.cells #[.int .i64 (j.step:Int),.int .i64 j.att,.bool j.undo,.int .i64 j.til] 35)):=(qU _ W).alloc (qJ _) _;exact⟨h1.alloc h4 _,fun h=>by omega,fun _=>⟨_,_,rfl,h3.keep (fun g hg=>hk.block g (h3.lt hg).2),qB _ _,by have:=hk.size;omega⟩,fun h=>by omega⟩
theorem app(h:Kh H w l j n v 1 X Y W)(ho:Ba W H v l)(I:H≤W.heap.size){g c:Nat}(J:Ba W' H (.slice (some ⟨g,0,none⟩) (n+1) c) (l++[j]))(Z:W.grownBy W' v.ownBlock):Kh H w l j n v 2 X (.slice (some ⟨g,0,none⟩) (n+1) c) W':=
 ⟨h.1.grown Z I (fun k e=>(ho.lt e).1),fun h=>by omega,fun h=>by omega,fun _=>⟨g,c,rfl,J⟩⟩
end Kh
theorem Pf{d:Af}{C b:Nat}{s:P32.S}{os:List P32.Order}{M R:Nat→Prop}(w:World)(h:Cz d C b (s,os) M R w)(aO:d.steps.length≤100000) :
    Calls Tryz.prog 57 #[qP0 b] w fun e w'=>∃v,e=.returned v∧Cj w' v (P32.open_ d.bare s)∧Below w.heap.size w w':=by
  obtain⟨gd,gu,ra,rc,vs,ov,h1,hM,hR⟩:=h.ex;obtain⟨N,hN⟩:=qeX d.steps.length;have aJ:P32.open_ d.bare s=openP s N:=by unfold P32.open_ openP;rw[Md.blen,hN]
  obtain⟨H,hH⟩:=qeX w.heap.size;have h0:Ba w H (.slice none 0 0) (openP s 0)∧Below H w w:=⟨Ba.nil w H,qU _ _⟩;rw[aJ,hH];have aS:N≤100000:=by omega
  have HS:=Ab h1;have HN:=Ab hN;have H0:=Ab h0;clear h h1 hM hR hN aJ h0 aO;go_enter Tryz.func57,Tryz.ntmps57
  go_wp2
  go_loopg [3,4] N (fun g s3 s4 wx=>∃(i:Nat) (v:Value),i+g=N∧s3=v∧s4=.int .i64 i∧Hid (Ba wx H v (openP s i)∧Below H w wx))
  case atStart=>exact⟨0,_,by omega,rfl,by go_num,H0⟩
  case round=>
    obtain⟨i,v,aR,hv,rfl,Z⟩:=hrel;have hv:=hv.symm;subst hv;have J:=(Aa HS).below (by rw[hH];exact(Aa Z).2);have k4:wr.cell? ⟨b,4,none⟩=some (.slice (some ⟨gd,0,none⟩) d.steps.length d.steps.length):=J.cell (j:=4) rfl;rw[Aa HN]at k4;cases gk with
    |zero=>
      have e1:(N:Int)≤(i:Int):=by omega
      have j1:decide ((i:Int)<(N:Int))=false:=by simp;omega
      have aN:N=i:=by omega
      subst aN;clear J;go_wp2;go_ret;obtain⟨a,c,e,h1,h2⟩:=(Aa Z).1.slice;exact⟨_,rfl,⟨a,c,e,h1,h2⟩,(Aa Z).2⟩
    |succ g'=>
      have aT:(i:Int)<(N:Int):=by omega
      have hkj:IntKind.i64.wrap ((i:Int)+1)=(i:Int)+1:=qG _ (by omega);obtain⟨⟨y0,_⟩,_⟩:=J.dr.cells (i:=i) (by rw[Aa HN];omega);obtain⟨⟨fp,fn,ft,fl⟩,hf⟩:∃q,s.run i false=q:=⟨_,rfl⟩;obtain⟨⟨tp,tn,tt,tl⟩,ht⟩:∃q,s.run i true=q:=⟨_,rfl⟩;simp only[hf]at y0;obtain⟨Q1,aI⟩:∃q,decide (fp=1)=q:=⟨_,rfl⟩
      have p1:((fp:Int)==1)=Q1:=by
        rw[←aI];by_cases h:fp=1
        · rw[h];rfl
        · rw[show decide (fp=1)=false by simpa using h];simp;omega
      have HF:=Ab hf;have HT:=Ab ht;have aK:=Ab aI;clear J hf ht aI
      go_upto_if 22 with fail
      go_cut [3] from 23 to 43 (fun s3 wx=>∃v2:Value,s3=v2∧Hid (Ba wx H v2 (openP s i++P32.openU s i false)∧Below H w wx))
      case first=>
        cases Q1 with
        |false=>
          have hu:P32.openU s i false=[]:=by
            unfold P32.openU;rw[Aa HF,if_neg (by simpa using Aa aK)]
          go_wp2
          go_meet
          exact⟨_,rfl,Ab (by rw[hu,List.append_nil];exact Aa Z)⟩
        |true=>
          have hu:P32.openU s i false=[⟨i,fn,false,ft⟩]:=by
            unfold P32.openU;rw[Aa HF,if_pos (by simpa using Aa aK)]
          obtain⟨L,hL⟩:=qeX ((openP s i).length);have aQ:L≤1000000:=by have:=I6 s i;omega
          have HU:=Ab hu;have HL:=Ab hL;clear hu hL y0 k4;subst hH;go_upto_region 6 with fail
          refine Ep Bj rfl [19,20] (fun pk aF W=>∃X Y,aF={ tmps:=#[qP0 b,uZ,.slice none 0 0,v,nI i,nI i,qP0 b,qP0 b,pT b 4,.slice (oA gd 0) N N,nI N,.bool true,u12,u13,qP0 b,qP0 b,pT b 4,.slice (oA gd 0) N N,nI i,pT gd (i*4),pT gd (i*4),.int .u8 (fp:Int),.bool true,v,nI i,qP0 b,qP0 b,pT b 4,.slice (oA gd 0) N N,nI i,pT gd (i*4),pT gd (i*4+1),.int .i64 fn,qP0 b,qP0 b,pT b 4,.slice (oA gd 0) N N,nI i,pT gd (i*4),pT gd (i*4+2),.int .i64 ft,.agg #[nI i,.int .i64 fn,.bool false,.int .i64 ft],X,Y,u44,u45,u46,u47,u48,u49,u50,u51,u52,u53,u54,u55,u56,u57,u58,u59,u60,u61,u62,u63,u64,u65,u66,u67,u68,u69,u70,u71,u72,u73,uZ],defers:=[] }∧Kh w.heap.size w (openP s i) ⟨i,fn,false,ft⟩ L v pk X Y W) (by kernel_rfl) (by kernel_rfl) (by kernel_rfl) (by kernel_rfl) (by decide) ⟨undef,undef,rfl,Kh.start (Aa Z).2 (Aa Z).1⟩ rfl rfl (Bs 23 21 75 0 (by kernel_rfl) (by kernel_rfl) (by decide) rfl rfl rfl) ?hpure ?hwrite ?hfin
          case hpure=>
            rintro pk aF W ix o ⟨X,Y,rfl,I⟩ ho aH aL aM;have J:=(Aa HS).below I.1;have q4:W.cell? ⟨b,4,none⟩=some (.slice (some ⟨gd,0,none⟩) d.steps.length d.steps.length):=J.cell (j:=4) rfl;rw[Aa HN]at q4;obtain⟨_,⟨y1,_⟩,⟨y2,_⟩,_⟩:=J.dr.cells (i:=i) (by rw[Aa HN];omega);simp only[Aa HF]at y1 y2;clear J;rcases ix with _|_|_|_|_|_|_|_|_|_|_|_|_|_|_|_|_|_|_|_|_|ix
            all_goals first
              |(refine absurd ?_ aH;simp;done)
              | (refine wq ho rfl rfl rfl rfl ?_
                 go_simp
                 done)
              |(exfalso;simp at ho;done)
          case hwrite=>
            rintro pk aF W ix o ⟨X,Y,rfl,I⟩ hi ho;rcases pk with _|_|pk
            · cases (show some 19=some ix from hi)
              have aB:some _=some o:=ho;cases aB;refine⟨rfl,.inl ⟨.slice (some ⟨W.heap.size,0,none⟩) 1 1,W.alloc (.cells #[.int .i64 (i:Int),.int .i64 fn,.bool false,.int .i64 ft] 35),?_,⟨_,⟨_,Y,rfl,I.lay⟩,Fx.refl _ _ _⟩⟩⟩
              go_simp
            · cases (show some 20=some ix from hi)
              have aB:some _=some o:=ho;cases aB;obtain⟨g,c,rfl,aA,aE,hz⟩:=I.2.2.1 rfl;obtain⟨g',aD,w',hr,h5,h6,h7⟩:=F9 105 aA g c aE L (Aa HL) (by omega) hz;refine⟨rfl,.inl ⟨.slice (some ⟨g',0,none⟩) (L+1) aD,w',?_,⟨_,⟨_,_,rfl,I.app aA hz h5 h6⟩,Fx.refl _ _ _⟩⟩⟩;simp[execOp,resolve,invoke,builtin,Act.eval,hr,Result.andThen,Deferred.ofValue]
            · simp at hi
          case hfin=>
            rintro pk aF W6 hk ⟨X,Y,rfl,I⟩;obtain⟨ga,ca,rfl,h5⟩:=I.2.2.2 hk;have aG:=Ab (And.intro h5 I.1);clear I h5;refine qR (K:=fun a2 w2=>a2={ tmps:=#[qP0 b,uZ,.slice none 0 0,.slice (oA ga 0) (L+1) ca,nI i,nI i,qP0 b,qP0 b,pT b 4,.slice (oA gd 0) N N,nI N,.bool true,u12,u13,qP0 b,qP0 b,pT b 4,.slice (oA gd 0) N N,nI i,pT gd (i*4),pT gd (i*4),.int .u8 (fp:Int),.bool true,v,nI i,qP0 b,qP0 b,pT b 4,.slice (oA gd 0) N N,nI i,pT gd (i*4),pT gd (i*4+1),.int .i64 fn,qP0 b,qP0 b,pT b 4,.slice (oA gd 0) N N,nI i,pT gd (i*4),pT gd (i*4+2),.int .i64 ft,.agg #[nI i,.int .i64 fn,.bool false,.int .i64 ft],X,.slice (oA ga 0) (L+1) ca,u44,u45,u46,u47,u48,u49,u50,u51,u52,u53,u54,u55,u56,u57,u58,u59,u60,u61,u62,u63,u64,u65,u66,u67,u68,u69,u70,u71,u72,u73,uZ],defers:=[] }∧w2=W6) (fun a2 w2 he=>?_) (by simp[Oper.wp,go_sem]);obtain⟨rfl,rfl⟩:=he;go_wp2
            go_meet
            exact⟨_,rfl,Ab (by rw[Aa HU];exact Aa aG)⟩
      case rest=>
        obtain⟨v,hv,Z⟩:=hcut;have hv:=hv.symm;subst hv;obtain⟨X0,aP⟩:∃X,X=wc:=⟨_,rfl⟩;subst aP;have J:=(Aa HS).below (by rw[hH];exact(Aa Z).2);have k5:X0.cell? ⟨b,5,none⟩=some (.slice (some ⟨gu,0,none⟩) d.steps.length d.steps.length):=J.cell (j:=5) rfl;rw[Aa HN]at k5;obtain⟨⟨y0,_⟩,_⟩:=J.ur.cells (i:=i) (by rw[Aa HN];omega);simp only[Aa HT]at y0;clear J;by_cases aC:tp=1
        · have p2:((tp:Int)==1)=true:=by rw[aC];rfl
          have hu:P32.openU s i true=[⟨i,tn,true,tt⟩]:=by
            unfold P32.openU;rw[Aa HT,if_pos aC]
          obtain⟨L,hL⟩:=qeX ((openP s i++P32.openU s i false).length)
          have aQ:L≤1000000:=by
            have:=I6 s i;have:=La s i false;rw[qH]at hL;omega
          have HU:=Ab hu;have HL:=Ab hL;clear hu hL aC;subst hH;go_upto_region 8 with fail
          refine Ep Bj rfl [19,20] (fun pk aF W=>∃X Y,aF={ tmps:=#[qP0 b,uZ,.slice none 0 0,v,nI i,nI i,qP0 b,qP0 b,pT b 4,.slice (oA gd 0) N N,nI N,.bool true,u12,u13,qP0 b,qP0 b,pT b 4,.slice (oA gd 0) N N,nI i,pT gd (i*4),pT gd (i*4),.int .u8 (fp:Int),.bool Q1,u23,u24,u25,u26,u27,u28,u29,u30,u31,u32,u33,u34,u35,u36,u37,u38,u39,u40,u41,u42,u43,qP0 b,qP0 b,pT b 5,.slice (oA gu 0) N N,nI i,pT gu (i*4),pT gu (i*4),.int .u8 (tp:Int),.bool true,v,nI i,qP0 b,qP0 b,pT b 5,.slice (oA gu 0) N N,nI i,pT gu (i*4),pT gu (i*4+1),.int .i64 tn,qP0 b,qP0 b,pT b 5,.slice (oA gu 0) N N,nI i,pT gu (i*4),pT gu (i*4+2),.int .i64 tt,.agg #[nI i,.int .i64 tn,.bool true,.int .i64 tt],X,Y,uZ],defers:=[] }∧Kh w.heap.size w (openP s i++P32.openU s i false) ⟨i,tn,true,tt⟩ L v pk X Y W) (by kernel_rfl) (by kernel_rfl) (by kernel_rfl) (by kernel_rfl) (by decide) ⟨undef,undef,rfl,Kh.start (Aa Z).2 (Aa Z).1⟩ rfl rfl (Bs 53 21 75 0 (by kernel_rfl) (by kernel_rfl) (by decide) rfl rfl rfl) ?hpure ?hwrite ?hfin
          case hpure=>
            rintro pk aF W ix o ⟨X,Y,rfl,I⟩ ho aH aL aM;have J:=(Aa HS).below I.1;have q4:W.cell? ⟨b,5,none⟩=some (.slice (some ⟨gu,0,none⟩) d.steps.length d.steps.length):=J.cell (j:=5) rfl;rw[Aa HN]at q4;obtain⟨_,⟨y1,_⟩,⟨y2,_⟩,_⟩:=J.ur.cells (i:=i) (by rw[Aa HN];omega);simp only[Aa HT]at y1 y2;clear J;rcases ix with _|_|_|_|_|_|_|_|_|_|_|_|_|_|_|_|_|_|_|_|_|ix
            all_goals first
              |(refine absurd ?_ aH;simp;done)
              | (refine wq ho rfl rfl rfl rfl ?_
                 go_simp
                 done)
              |(exfalso;simp at ho;done)
          case hwrite=>
            rintro pk aF W ix o ⟨X,Y,rfl,I⟩ hi ho;rcases pk with _|_|pk
            · cases (show some 19=some ix from hi)
              have aB:some _=some o:=ho;cases aB;refine⟨rfl,.inl ⟨.slice (some ⟨W.heap.size,0,none⟩) 1 1,W.alloc (.cells #[.int .i64 (i:Int),.int .i64 tn,.bool true,.int .i64 tt] 35),?_,⟨_,⟨_,Y,rfl,I.lay⟩,Fx.refl _ _ _⟩⟩⟩
              go_simp
            · cases (show some 20=some ix from hi)
              have aB:some _=some o:=ho;cases aB;obtain⟨g,c,rfl,aA,aE,hz⟩:=I.2.2.1 rfl;obtain⟨g',aD,w',hr,h5,h6,h7⟩:=F9 105 aA g c aE L (Aa HL) (by omega) hz;refine⟨rfl,.inl ⟨.slice (some ⟨g',0,none⟩) (L+1) aD,w',?_,⟨_,⟨_,_,rfl,I.app aA hz h5 h6⟩,Fx.refl _ _ _⟩⟩⟩;simp[execOp,resolve,invoke,builtin,Act.eval,hr,Result.andThen,Deferred.ofValue]
            · simp at hi
          case hfin=>
            rintro pk aF W6 hk ⟨X,Y,rfl,I⟩;obtain⟨ga,ca,rfl,h5⟩:=I.2.2.2 hk;have aG:=Ab (And.intro h5 I.1);clear I h5;refine qR (K:=fun a2 w2=>a2={ tmps:=#[qP0 b,uZ,.slice none 0 0,.slice (oA ga 0) (L+1) ca,nI i,nI i,qP0 b,qP0 b,pT b 4,.slice (oA gd 0) N N,nI N,.bool true,u12,u13,qP0 b,qP0 b,pT b 4,.slice (oA gd 0) N N,nI i,pT gd (i*4),pT gd (i*4),.int .u8 (fp:Int),.bool Q1,u23,u24,u25,u26,u27,u28,u29,u30,u31,u32,u33,u34,u35,u36,u37,u38,u39,u40,u41,u42,u43,qP0 b,qP0 b,pT b 5,.slice (oA gu 0) N N,nI i,pT gu (i*4),pT gu (i*4),.int .u8 (tp:Int),.bool true,v,nI i,qP0 b,qP0 b,pT b 5,.slice (oA gu 0) N N,nI i,pT gu (i*4),pT gu (i*4+1),.int .i64 tn,qP0 b,qP0 b,pT b 5,.slice (oA gu 0) N N,nI i,pT gu (i*4),pT gu (i*4+2),.int .i64 tt,.agg #[nI i,.int .i64 tn,.bool true,.int .i64 tt],X,.slice (oA ga 0) (L+1) ca,uZ],defers:=[] }∧w2=W6) (fun a2 w2 he=>?_) (by simp[Oper.wp,go_sem]);obtain⟨rfl,rfl⟩:=he;go_wp2;go_roundg g'
            case measure=>omega
            case rel=>exact⟨i+1,_,by omega,rfl,by go_num,Ab (by rw[Hi,Aa HU];exact Aa aG)⟩
        · have p2:((tp:Int)==1)=false:=by simp;omega
          have hu:P32.openU s i true=[]:=by
            unfold P32.openU;rw[Aa HT,if_neg aC]
          have HU:=Ab hu;clear hu aC;go_wp2;go_roundg g'
          case measure=>omega
          case rel=>exact⟨i+1,v,by omega,rfl,by go_num,Ab (by rw[Hi,Aa HU,List.append_nil];exact Aa Z)⟩
end Go.Proofs.YtefokfbgpfcbkaaGreat
