/- Lemmas of this claim. -/
import Derived.Test.YtnjokdbblmlhhaaGreatDoorR22gY
import Derived.Test.YtnjokdbblmlhhaaGreatDoorWR19fY
import Derived.Test.YtnjokdbblmlhhaaGreatDoorSame21Y
set_option linter.unusedVariables false
set_option linter.unusedSimpArgs false
namespace Go.Proofs.YtnjokdbblmlhhaaGreatDoor
set_option maxHeartbeats 16000000
set_option maxRecDepth 100000
namespace P20
def T1:T:=.mk 3 [] [[115,116,101,112,115],[115,97,103,97]] [.mk 2 [] [] [.mk 3 [] [[97,99,116,105,111,110],[110,97,109,101],[108,105,109,105,116]] [.mk 1 [100,111] [] [] 2,.mk 1 [97] [] [] 3,.mk 1 [53] [] [] 4] 2] 2,.mk 1 [120] [] [] 5] 1
theorem par_T1:PaR [115,116,101,112,115,58,10,32,32,45,32,97,99,116,105,111,110,58,32,100,111,10,32,32,32,32,110,97,109,101,58,32,97,10,32,32,32,32,108,105,109,105,116,58,32,53,10,115,97,103,97,58,32,120] (.ok T1):=by
 have h:P19.all [115,116,101,112,115,58,10,32,32,45,32,97,99,116,105,111,110,58,32,100,111,10,32,32,32,32,110,97,109,101,58,32,97,10,32,32,32,32,108,105,109,105,116,58,32,53,10,115,97,103,97,58,32,120]=([(4,[115,116,101,112,115],1,0),(1,[],2,2),(3,[],2,2),(1,[],2,4),(4,[97,99,116,105,111,110],2,4),(5,[100,111],2,12),(4,[110,97,109,101],3,4),(5,[97],3,10),(4,[108,105,109,105,116],4,4),(5,[53],4,11),(2,[],5,0),(2,[],5,0),(4,[115,97,103,97],5,0),(5,[120],5,6)],0,0):=by decide +kernel
 unfold PaR;rw[h];simp only;rw[if_neg (by decide),if_neg (by simp)]
 have D:∀last:Int,Ky last 6 4 [] [] [(4,[97,99,116,105,111,110],2,4),(5,[100,111],2,12),(4,[110,97,109,101],3,4),(5,[97],3,10),(4,[108,105,109,105,116],4,4),(5,[53],4,11),(2,[],5,0),(2,[],5,0),(4,[115,97,103,97],5,0),(5,[120],5,6)] (.ok ([[97,99,116,105,111,110],[110,97,109,101],[108,105,109,105,116]],[.mk 1 [100,111] [] [] 2,.mk 1 [97] [] [] 3,.mk 1 [53] [] [] 4]) [(2,[],5,0),(2,[],5,0),(4,[115,97,103,97],5,0),(5,[120],5,6)]):=fun last=>
  .inl (by decide) (by simp) (by simp[kindOf,hereL]) (.word (by omega)) (.inl (by decide) (by simp) (by simp[kindOf,hereL]) (.word (by omega)) (.inl (by decide) (by simp) (by simp[kindOf,hereL]) (.word (by omega)) (.done (by simp[kindOf]))))
 exact⟨13,.ok (.keys (by omega) (.wi (by decide) (by simp) (by simp[kindOf]) (.ok (.seq (by omega) (.next (.ok (.keys (by omega) (D _))) (.done (by simp[kindOf]))))) (.inl (by decide) (by simp) (by simp[kindOf,hereL]) (.word (by omega)) (.done (by simp[kindOf])))))⟩
def T2:T:=.mk 3 [] [[115,97,103,97]] [.mk 1 [120] [] [] 1] 1
theorem par_T2:PaR [115,97,103,97,58,32,120] (.ok T2):=by
 have h:P19.all [115,97,103,97,58,32,120]=([(4,[115,97,103,97],1,0),(5,[120],1,6)],0,0):=by decide +kernel
 unfold PaR;rw[h];simp only;rw[if_neg (by decide),if_neg (by simp)];exact⟨10,.ok (.keys (by omega) (.inl (by decide) (by simp) (by simp[kindOf,hereL]) (.word (by omega)) (.done (by simp[kindOf]))))⟩
def T3:T:=.mk 3 [] [[115,97,103,97],[115,116,101,112,115],[109,111,114,101]] [.mk 1 [120] [] [] 1,.mk 2 [] [] [] 2,.mk 1 [49] [] [] 3] 1
theorem par_T3:PaR [115,97,103,97,58,32,120,10,115,116,101,112,115,58,32,91,93,10,109,111,114,101,58,32,49] (.ok T3):=by
 have h:P19.all [115,97,103,97,58,32,120,10,115,116,101,112,115,58,32,91,93,10,109,111,114,101,58,32,49]=([(4,[115,97,103,97],1,0),(5,[120],1,6),(4,[115,116,101,112,115],2,0),(6,[],2,7),(4,[109,111,114,101],3,0),(5,[49],3,6)],0,0):=by decide +kernel
 unfold PaR;rw[h];simp only;rw[if_neg (by decide),if_neg (by simp)];exact⟨10,.ok (.keys (by omega) (.inl (by decide) (by simp) (by simp[kindOf,hereL]) (.word (by omega)) (.inl (by decide) (by simp) (by simp[kindOf,hereL]) (.noseq (by omega)) (.inl (by decide) (by simp) (by simp[kindOf,hereL]) (.word (by omega)) (.done (by simp[kindOf]))))))⟩
theorem okT_T1:E6 T1:=by simp[T1,E6,Hn]
theorem okT_T2:E6 T2:=by simp[T2,E6,Hn]
theorem okT_T3:E6 T3:=by simp[T3,E6,Hn]
end P20
namespace P22
theorem of_T1:ofE P20.T1=.ok ⟨[120],[],[⟨[97],[100,111],[],[],⟨0,0,0⟩,5,.mk 0 [] [] [] 0⟩]⟩:=by rfl
theorem of_T2:ofE P20.T2=.error (5,1):=by rfl
theorem of_T3:ofE P20.T3=.error (18,3):=by rfl
theorem of_T4:ofE (.mk 2 [] [] [] 4)=.error (7,4):=by rfl
end P22
open Go.RowKit
theorem Zr(s:ByteArray)(o:Except (Int × Int) P20.T)(w:World)(hs:s.size≤3000)(ho:P20.PaR s.data.toList o)(aG:∀d,o=.ok d→P20.okF d):Calls Tryz.prog 31 #[.string s] w (Ve (fun g=>False) w (P22.defE o)):=by
 obtain⟨H,hH⟩:∃H,w.heap.size=H:=⟨_,rfl⟩;obtain⟨W0,aB,aC,g0,g1,bF⟩:=A0 w (.cells #[.string ⟨#[]⟩,.string ⟨#[]⟩,.slice none 0 0] 50) (.cells #[.int .i64 0,.int .i64 0] 29) H hH;have R:=Zs s o W0 hs ho;have aO:=Ab aB;have aW:=Ab aC;have aS:=Ab g0;have aN:=Ab g1;cases o with
 |ok d=>
  have aX:=Ab (aG d rfl);have aM:=Ab R;clear R aG aB aC g0 g1 ho hs;go_enter Tryz.func31,Tryz.ntmps31
  go_upto_region 1 with fail
  try rw[hH]
  rw[Aa aO];go_upto_region 2 with(go_at_call 11;refine(Aa aM).mono ?_;rintro e2 w2 ⟨k,t,ka,kc,ks,da,dc,ds,l,rfl,HD,I⟩;have aE:=I.size;have G:=Ab I;clear I)
  obtain⟨K,Y⟩:∃K,w2.heap.size=K:=⟨_,rfl⟩;obtain⟨W3,N,D,p0,p1,aQ⟩:=A0 w2 (.cells #[.int .u8 k,.string ⟨t.toArray⟩,.slice ka ks.length kc,.slice da ds.length dc,.int .i64 l] 26) (.cells #[.int .i64 0,.int .i64 0] 29) K Y;rw[N];rw[Y];rw[Y]at aE;have Q:Below H w W3:=(Aa aW).trans (((Aa G).mono (by omega)).trans (D.mono (by omega)));have q0:=(D.block H (by omega)).trans (((Aa G).block H (by omega)).trans (Aa aS));have q1:=(D.block (H+1) (by omega)).trans (((Aa G).block (H+1) (by omega)).trans (Aa aN));have Z:(Nd.mk k t ka kc ks da dc ds l).In W3:=(Aa HD).2.1.below (by rw[Y];exact D);have aA:=Q6 k t ka kc ks da dc ds l W3 Z (by rw[(Aa HD).1];exact Aa aX);rw[(Aa HD).1]at aA;have x0:=Ad p0;have x1:=Af p1;have aZ:=Ab aA;have aJ:=Ab Q;have aI:=Ab q0;have aK:=Ab q1;have bH:K+1+1≤W3.heap.size:=by omega
  clear aA Q q0 q1 Z D p0 p1 N aQ;go_upto_region 4 with fail
  go_wp2_with (go_at_call 28;refine(Aa aZ).mono ?_;rintro e5 w5 ⟨S,⟨dn,dt,aL,aD,aH⟩,ec,el,rfl,aU,J,aT⟩;have r0:=(S.block H (by omega)).trans (Aa aI);have r1:=(S.block (H+1) (by omega)).trans (Aa aK);have u0:=D9 r0;have u1:=Af r1;have bB:=Ab r0;have bC:=Ab r1;have bA:=Ab S;have bE:=Ab aU;have aY:=Ab J;have bD:=Ab aT;unfold Ch.val;clear r0 r1 S aU J aT)
  have U:=Ok (B:=H) (g1:=H) (g2:=H+1) (w:=w) ((Aa aJ).trans ((Aa bA).mono (by omega))) (Aa bB) (Aa bC) (by omega) (by omega) (by omega) (.string ⟨dn.toArray⟩) (.string ⟨dt.toArray⟩) (.slice aL aH.length aD) (.int .i64 ec) (.int .i64 el)
  have J:∀g,(⟨dn,dt,aL,aD,aH⟩:Ch).blk g→H+1<g:=fun g X=>by
   rcases Aa aY g X with h|h
   ·have:=(Aa HD).2.2 g h;omega
   ·omega
  exact qW (Al rfl _ _ _ H (H+1) _ _ rfl (Cq U.2.1) rfl (Ai U.2.2.1)) rfl ⟨by rw[hH];exact U.1,⟨dn,dt,aL,aD,aH⟩,ec,el,rfl,(Aa bE).keep (fun g X=>U.2.2.2 g (by have:=J g X;omega) (by have:=J g X;omega)),fun g X=>.inr (by have:=J g X;omega),(Aa bD)⟩
 |error x=>
  obtain⟨x1,x2⟩:=x;have hbad:=P20.PaR.bad ho;have j1:(x1 != 0)=true:=by simpa using hbad
  have aR:=Ab hbad;have bG:=Dl;have aM:=Ab R;clear R aG aB aC g0 g1 ho hs hbad;go_enter Tryz.func31,Tryz.ntmps31
  go_upto_region 1 with fail
  try rw[hH]
  rw[Aa aO];go_upto_region 2 with(go_at_call 11;refine(Aa aM).mono ?_;rintro e2 w2 ⟨rfl,I⟩;have aE:=I.size;have G:=Ab I;clear I)
  obtain⟨K,Y⟩:∃K,w2.heap.size=K:=⟨_,rfl⟩;obtain⟨W3,N,D,p0,p1,aQ⟩:=A0 w2 (.cells #[.int .u8 0,.string ⟨#[]⟩,.slice none 0 0,.slice none 0 0,.int .i64 0] 26) (.cells #[.int .i64 x1,.int .i64 x2] 29) K Y;rw[N];rw[Y];rw[Y]at aE;have Q:Below H w W3:=(Aa aW).trans (((Aa G).mono (by omega)).trans (D.mono (by omega)));have q0:=(D.block H (by omega)).trans (((Aa G).block H (by omega)).trans (Aa aS));have q1:=(D.block (H+1) (by omega)).trans (((Aa G).block (H+1) (by omega)).trans (Aa aN));have y0:=D9 q0;have y1:=Af q1;have y2:=Af p1;have aJ:=Ab Q;have aI:=Ab q0;have aK:=Ab q1;clear Q q0 q1 D p0 p1 N;go_upto_region 3 with fail
  go_region_with_o (fail)
  all_goals go_wp2
  all_goals
   have U:=Pu (B:=H) (g1:=H) (g2:=H+1) (w:=w) (Aa aJ) (Aa aI) (Aa aK) (by omega) (by omega) (by omega) (.string ⟨#[]⟩) (.string ⟨#[]⟩) (.slice none 0 0) (.int .i64 x1) (.int .i64 x2);exact qW (Al rfl _ _ _ H (H+1) _ _ rfl (Cq U.2.1) rfl (Ai U.2.2)) rfl ⟨by rw[hH];exact U.1,Ch.zero,x1,x2,rfl,Ch.zero_in _,fun g X=>(Co none g X).elim,.inr ⟨rfl,Aa aR,rfl⟩⟩
theorem U4(w:World):Calls Tryz.prog 30 #[.string ⟨#[115,116,101,112,115,58,10,32,32,45,32,97,99,116,105,111,110,58,32,100,111,10,32,32,32,32,110,97,109,101,58,32,97,10,32,32,32,32,108,105,109,105,116,58,32,53,10,115,97,103,97,58,32,120]⟩] w fun e w'=>∃(b o sc:Nat),e=.returned (.tuple #[.agg #[.string ⟨#[120]⟩,.string ⟨#[]⟩,.slice (some ⟨b,o,none⟩) 1 sc],.agg #[.int .i64 0,.int .i64 0]]) ∧
  Hid (w'.cell? ⟨b,o,none⟩=some (.string ⟨#[97]⟩)∧w'.cell? ⟨b,o+7,none⟩=some (.int .i64 5))∧Below w.heap.size w w':=by
 refine(Kc _ (.ok P20.T1) w (by decide) P20.par_T1 (fun d h=>by cases h;exact P20.okT_T1)).mono ?_;rintro e w' ⟨hb,⟨nm,tx,sa,sc,J⟩,U,Z,rfl,I,_,hr⟩;have h1:P22.defE (.ok P20.T1)=.ok ⟨[120],[],[⟨[97],[100,111],[],[],⟨0,0,0⟩,5,.mk 0 [] [] [] 0⟩]⟩:=P22.of_T1;rw[h1]at hr;rcases hr with⟨hr,rfl,rfl⟩|⟨hr,_⟩
 ·unfold Ch.bare at hr;injection hr with hr;injection hr with N Q D;simp only at N Q D;subst N Q
  obtain⟨s,rfl,hs⟩:∃s,J=[s]∧s.bare=⟨[97],[100,111],[],[],⟨0,0,0⟩,5,.mk 0 [] [] [] 0⟩:=by
   cases J with
   |nil=>simp at D
   |cons s r=>
    cases r with
    |nil=>simp only[List.map_cons,List.map_nil,List.cons.injEq,and_true]at D;exact⟨s,rfl,D.symm⟩
    |cons t r=>simp at D
  obtain⟨b,o,G,hc,_⟩:=I.steps.get (j:=0) rfl;simp only at G;subst G;unfold Bc.bare at hs;injection hs with S f2 f3 X f5 R Y;refine⟨b,o,sc,rfl,Ab ⟨?_,?_⟩,hb⟩
  ·have:=hc 0 _ rfl;rw[S]at this;simpa using this
  ·have:=hc 7 _ rfl;rw[R]at this;simpa using this
 ·cases hr
theorem Ts(s:ByteArray)(d:P20.T)(x:Int × Int)(w:World)(hs:s.size≤1048576)(hp:P20.PaR s.data.toList (.ok d))(hk:E6 d)(hx:P22.ofE d=.error x):Calls Tryz.prog 30 #[.string s] w fun e w'=>e=.returned (.tuple #[.agg #[.string ⟨#[]⟩,.string ⟨#[]⟩,.slice none 0 0],.agg #[.int .i64 x.1,.int .i64 x.2]])∧Below w.heap.size w w':=by
 refine(Kc s (.ok d) w hs hp (fun I h=>by cases h;exact hk)).mono ?_;rintro e w' ⟨hb,N,G,J,rfl,D,_,hr⟩;have h1:P22.defE (.ok d)=.error x:=hx;rw[h1]at hr;rcases hr with⟨hr,_⟩|⟨hr,_,rfl⟩
 ·cases hr
 ·injection hr with hr;subst hr;exact⟨rfl,hb⟩
theorem Vf(w:World):Calls Tryz.prog 27 #[.agg #[.int .u8 2,.string ⟨#[]⟩,.slice none 0 0,.slice none 0 0,.int .i64 4]] w fun e w'=>e=.returned (.tuple #[.agg #[.string ⟨#[]⟩,.string ⟨#[]⟩,.slice none 0 0],.agg #[.int .i64 7,.int .i64 4]])∧Below w.heap.size w w':=by
 have D:(Nd.mk 2 [] none 0 [] none 0 [] 4).In w:=by
  refine .mk ⟨by decide,by simp[Nd.text],by simp[Nd.keys],by simp[Nd.kids],by simp[Nd.keys,Nd.kc],by simp[Nd.kids,Nd.dc],by simp[Nd.keys],?_⟩ trivial;intro i x hx;simp[Nd.keys]at hx
 have h:=Jb 2 [] none 0 [] none 0 [] 4 w D (by simp[Nd.bare,Am,E6,Hn]);refine h.mono ?_;rintro e w' ⟨hb,Q,J,N,rfl,_,_,hr⟩;have h1:P22.ofE (Nd.mk 2 [] none 0 [] none 0 [] 4).bare=.error (7,4):=P22.of_T4;rw[h1]at hr;rcases hr with⟨hr,_⟩|⟨hr,_,rfl⟩
 ·cases hr
 ·injection hr with hr;injection hr with G I;subst G I;exact⟨rfl,hb⟩
theorem F1{W:World}{g:Nat}{T:TypeId}{a b c:Value}(h:W.heap[g]?=some (.cells #[a,b,c] T)):(W.cell? ⟨g,0,none⟩=some a∧W.frozen? ⟨g,0,none⟩=false)∧(W.cell? ⟨g,1,none⟩=some b∧W.frozen? ⟨g,1,none⟩=false)∧(W.cell? ⟨g,2,none⟩=some c∧W.frozen? ⟨g,2,none⟩=false):=by
 simp[World.cell?,World.frozen?,h]
theorem Op(w:World):Calls Tryz.prog 26 #[] w fun e w'=>e=.returned (.bool true)∧Below w.heap.size w w':=by
 obtain⟨H,hH⟩:∃H,w.heap.size=H:=⟨_,rfl⟩;have hA:=U4 w;rw[hH]at hA;have HA:=Ab hA;clear hA;go_enter Tryz.func26,Tryz.ntmps26
 go_upto_region 2 with(go_at_call 30;refine(Aa HA).mono ?_;rintro e w1 ⟨b,o,sc,rfl,HC,R⟩)
 obtain⟨K1,aB⟩:∃K,w1.heap.size=K:=⟨_,rfl⟩;obtain⟨W1,aJ,G,aY,aK,bG⟩:=A0 w1 (.cells #[.string ⟨#[120]⟩,.string ⟨#[]⟩,.slice (some ⟨b,o,none⟩) 1 sc] 50) (.cells #[.int .i64 0,.int .i64 0] 29) K1 aB;rw[aJ];rw[aB];have aT:b<K1:=by rw[←aB];exact B3 (Aa HC).1
 have c0:=(Ag (G.block b aT) _).trans (Aa HC).1;have c7:=(Ag (G.block b aT) _).trans (Aa HC).2;have bA:Below H w W1:=R.trans (G.mono (by have:=R.size;omega));have bQ:K1+1+1≤W1.heap.size:=by omega
 have aR:=Ab aY;have aI:=Ab aK;have bD:=Ab c0;have bO:=Ab c7;have aO:=Ab bA;have bP:=Ab (Ts ⟨#[115,97,103,97,58,32,120]⟩ P20.T2 (5,1) W1 (by decide) P20.par_T2 P20.okT_T2 P22.of_T2);clear bG aJ G aY aK c0 c7 bA R HC;go_upto_region 3 with(go_at_call 30;refine(Aa bP).mono ?_;rintro e w2 ⟨rfl,aA⟩)
 obtain⟨K2,Q⟩:∃K,w2.heap.size=K:=⟨_,rfl⟩;obtain⟨W2,aW,bB,bN,aX,bE⟩:=A0 w2 (.cells #[.string ⟨#[]⟩,.string ⟨#[]⟩,.slice none 0 0] 50) (.cells #[.int .i64 5,.int .i64 1] 29) K2 Q;rw[aW];rw[Q];have J:=aA.size;rw[Q]at J;have aM:Below W1.heap.size W1 W2:=aA.trans (bB.mono J);have bU:K2+1+1≤W2.heap.size:=by omega
 have aQ:=Ab aX;have aU:=Ab aM;have bK:=Ab (Ts ⟨#[115,97,103,97,58,32,120,10,115,116,101,112,115,58,32,91,93,10,109,111,114,101,58,32,49]⟩ P20.T3 (18,3) W2 (by decide) P20.par_T3 P20.okT_T3 P22.of_T3);clear bE aW bB bN aX aM aA;go_upto_region 4 with(go_at_call 30;refine(Aa bK).mono ?_;rintro e w3 ⟨rfl,aC⟩)
 obtain⟨K3,X⟩:∃K,w3.heap.size=K:=⟨_,rfl⟩;obtain⟨W3,aL,aD,bL,aN,bF⟩:=A0 w3 (.cells #[.string ⟨#[]⟩,.string ⟨#[]⟩,.slice none 0 0] 50) (.cells #[.int .i64 18,.int .i64 3] 29) K3 X;rw[aL];rw[X];have I:=aC.size;rw[X]at I;have aZ:Below W2.heap.size W2 W3:=aC.trans (aD.mono I);have bX:K3+1+1≤W3.heap.size:=by omega
 have aH:=Ab aN;have aE:=Ab aZ;have bJ:=Ab (Vf W3);clear bF aL aD bL aN aZ aC;go_upto_region 5 with(go_at_call 27;refine(Aa bJ).mono ?_;rintro e w4 ⟨rfl,Y⟩)
 obtain⟨K4,U⟩:∃K,w4.heap.size=K:=⟨_,rfl⟩;obtain⟨W4,aS,aG,bI,bC,bM⟩:=A0 w4 (.cells #[.string ⟨#[]⟩,.string ⟨#[]⟩,.slice none 0 0] 50) (.cells #[.int .i64 7,.int .i64 4] 29) K4 U;rw[aS];rw[U];have N:=Y.size;rw[U]at N;have Z:Below W3.heap.size W3 W4:=Y.trans (aG.mono N);have S:Below W2.heap.size W2 W4:=(Aa aE).trans (Z.mono (Aa aE).size);have D:Below W1.heap.size W1 W4:=(Aa aU).trans (S.mono (Aa aU).size);have bS:=F1 ((D.block K1 (by omega)).trans (Aa aR));have bW:=Af ((D.block (K1+1) (by omega)).trans (Aa aI));have bV:=Af ((S.block (K2+1) (by omega)).trans (Aa aQ));have bT:=Af ((Z.block (K3+1) (by omega)).trans (Aa aH));have bR:=Af bC;have c0:=(Ag (D.block b (by omega)) _).trans (Aa bD);have c7:=(Ag (D.block b (by omega)) _).trans (Aa bO);have bH:=Ab (show Below w.heap.size w W4 by rw[hH];exact(Aa aO).trans (D.mono (by have:=(Aa aO).size;rw[hH]at this;exact this)));clear bM aS aG bI bC Z Y S D;go_wp2;go_ret;exact⟨rfl,Aa bH⟩
theorem Tr{P:Nat→Prop}{r:Except P22.F P22.Def}{J Q:Ch}{G l1 I N:Int}(h1:(r=.ok J.bare∧G=0∧l1=0)∨(r=.error (G,l1)∧G≠0∧J=Ch.zero))(h2:(r=.ok Q.bare∧I=0∧N=0)∨(r=.error (I,N)∧I≠0∧Q=Ch.zero)):G=I∧l1=N∧J.bare=Q.bare:=by
 rcases h1 with⟨D,rfl,rfl⟩|⟨D,R,rfl⟩
 ·rcases h2 with⟨b1,rfl,rfl⟩|⟨b1,_,_⟩
  ·rw[D]at b1;injection b1 with b1;exact⟨rfl,rfl,b1⟩
  ·rw[D]at b1;cases b1
 ·rcases h2 with⟨b1,_,_⟩|⟨b1,b2,rfl⟩
  ·rw[D]at b1;cases b1
  ·rw[D]at b1;injection b1 with b1;injection b1 with b1 b2;exact⟨b1,b2,rfl⟩
theorem X3(s:ByteArray)(w:World):Calls Tryz.prog 8 #[.string s] w fun e w'=>e=.returned (.bool true)∧Below w.heap.size w w':=by
 by_cases aA:(3000:Int)<(s.size:Int)
 ·go_enter Tryz.func8,Tryz.ntmps8
  go_wp2_with (go_at_call 26;refine(Op _).mono ?_;rintro e w1 ⟨rfl,G⟩)
  go_ret;exact⟨rfl,G⟩
 have bZ:(s.size:Int)≤3000:=by omega
 clear aA;obtain⟨o2,Q⟩:=P20.PaR.total s.data.toList
 have D:∀d,o2=.ok d→E6 d∧P20.okF d:=fun d h=>by
  subst h;obtain⟨h1,h2,h3,_⟩:=P20.PaR.fine Q (by rw[←zP];omega);exact⟨h3,P20.T.check_okF d 1 h1 (by omega)⟩
 have bS:=Ab (fun V=>Kc s o2 V (by omega) Q (fun d h=>(D d h).1));have bR:=Ab (fun V=>Zr s o2 V (by omega) Q (fun d h=>(D d h).2));clear Q D;go_enter Tryz.func8,Tryz.ntmps8
 go_upto_region 5 with(go_at_call 26;refine(Op _).mono ?_;rintro e w0 ⟨rfl,Y⟩)
 have bV:=Ab Y;have bP:=Y.size;clear Y;have aG:=Ab (Aa bS w0);go_upto_region 6 with(go_at_call 30;refine(Aa aG).mono ?_;rintro e1 w1 ⟨G,⟨bJ,bF,aJ,bL,aT⟩,ec,el,rfl,bA,_,aQ⟩;unfold Ch.val;have aH:=G.size;have aN:=Ab G;have aK:=Ab bA;have bC:=Ab aQ;clear G bA aQ)
 obtain⟨K1,R⟩:∃K,w1.heap.size=K:=⟨_,rfl⟩;obtain⟨W1,Z,aC,bK,aU,bO⟩:=A0 w1 (.cells #[.string ⟨bJ.toArray⟩,.string ⟨bF.toArray⟩,.slice aJ aT.length bL] 50) (.cells #[.int .i64 ec,.int .i64 el] 29) K1 R;rw[Z];rw[R];rw[R]at aH;have bM:Below w0.heap.size w0 W1:=(Aa aN).trans (aC.mono aH);have bX:K1+1+1≤W1.heap.size:=by omega
 have X:=Ab ((Aa aK).below (by rw[R];exact aC));have U:=Ab bK;have S:=Ab aU;have aB:=Ab bM;have cD:=Ab Z;have aM:=Ab (Aa bR W1);clear bO Z aC bK aU bM aK aN;go_upto_region 7 with(go_at_call 31;refine(Aa aM).mono ?_;rintro e2 w2 ⟨aD,⟨aO,aX,aY,aL,bH⟩,cA,cC,rfl,bI,_,bB⟩;unfold Ch.val;have aW:=aD.size;have aI:=Ab aD;have aS:=Ab bI;have aR:=Ab bB;clear aD bI bB)
 obtain⟨q1,q2,q3⟩:=Tr (P:=fun _=>True) (Aa bC) (Aa aR);subst q1 q2;have bQ:=Ab q3;clear q3 bC aR;obtain⟨K2,J⟩:∃K,w2.heap.size=K:=⟨_,rfl⟩;obtain⟨W2,bE,aE,aZ,bG,bN⟩:=A0 w2 (.cells #[.string ⟨aO.toArray⟩,.string ⟨aX.toArray⟩,.slice aY bH.length aL] 50) (.cells #[.int .i64 ec,.int .i64 el] 29) K2 J;rw[bE];rw[J];rw[J]at aW;have I:Below W1.heap.size W1 W2:=(Aa aI).trans (aE.mono aW);have bW:K2+1+1≤W2.heap.size:=by omega
 have cB:=F1 ((I.block K1 (by omega)).trans (Aa U));have cF:=Af ((I.block (K1+1) (by omega)).trans (Aa S));have cE:=F1 aZ;have bY:=Af bG;have N:=Pw ⟨bJ,bF,aJ,bL,aT⟩ ⟨aO,aX,aY,aL,bH⟩ W2 ((Aa X).below I) ((Aa aS).below (by rw[J];exact aE)) (Aa bQ);unfold Ch.val at N;simp only at N;have bU:=Ab N;have bD:=Ab I;clear bN bE aE aZ bG I N aS aI X U S;go_wp2_with (go_at_call 29;refine(Aa bU).mono ?_;rintro e3 w3 ⟨rfl,bT⟩)
 go_ret;exact⟨rfl,(Aa bV).trans (((Aa aB).trans ((Aa bD).mono (Aa aB).size)).mono bP |>.trans (bT.mono (by have:=(Aa aB).size;have:=(Aa bD).size;omega)))⟩
end Go.Proofs.YtnjokdbblmlhhaaGreatDoor
