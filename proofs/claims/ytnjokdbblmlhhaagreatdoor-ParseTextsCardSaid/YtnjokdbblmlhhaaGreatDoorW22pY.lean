/- Lemmas of this claim. -/
import Derived.Test.YtnjokdbblmlhhaaGreatDoorW22oY
import Derived.Test.YtnjokdbblmlhhaaGreatDoorWR20wY
set_option linter.unusedVariables false
set_option linter.unusedSimpArgs false
namespace Go.Proofs.YtnjokdbblmlhhaaGreatDoor
set_option maxHeartbeats 32000000
set_option maxRecDepth 100000
open Go.RowKit
def Iq(G B:Nat)(acc:List P22.Step)(A:Nat→Prop)(W:World):Prop:=
 (∃D a c,D.map Bc.bare=acc∧W.heap[G]?=some (.cells #[.slice a D.length c] 48)∧Cx.Own W B (.slice a D.length c) D∧∀g,Cx.ob (.slice a D.length c) D g→¬A g)∧¬A G∧G<B∧B≤W.heap.size
theorem Vi(I B:Nat):Gf (Iq I B) where
 stays:=by
  rintro s A W W' ⟨⟨G,a,c,h0,h1,h2,h3⟩,h4,h5,h6⟩ hz hs;have hl:=(qA.1 h1).1;refine⟨⟨G,a,c,h0,(hs I hl h4).trans h1,h2.stay (fun g D=>hs g (h2.ob_le D).2 (h3 g D)),fun g D=>?_⟩,?_,h5,by omega⟩
  ·have:=(h2.ob_le D).2;rintro(h7|h7)
   ·exact h3 g D h7
   ·omega
  ·rintro(h7|h7)
   ·exact h4 h7
   ·omega
 mono:=by
  rintro s A A' W ⟨⟨G,a,c,h0,h1,h2,h3⟩,h4,h5,h6⟩ J;exact⟨⟨G,a,c,h0,h1,h2,fun g D h=>h3 g D (J g h)⟩,fun h=>h4 (J _ h),h5,h6⟩
theorem T7:∀(args:Array Value) (W:World),(callFunc 53 args).run Tryz.prog W=.ok (.enter 53 args) W:=enters_of Tryz.func53 (by kernel_rfl) rfl
def Q7:P22.Rd (List P22.Step):=fun d acc=>(P22.stepE d).map fun a=>acc++[a]
theorem S6{G B H:Nat}{acc:List P22.Step}{D:List Bc}{x:Bc}{A:Nat→Prop}{w V S:World}{a a9:Option Addr}{c I:Nat}{e l':Int}{res:Except P22.F (List P22.Step)}
  (hH:w.heap.size=H) (hV:H+1<V.heap.size) (hF:Cp A w V) (i4:¬A G) (i5:G<B) (aK:G<H) (i6:B≤H) (aH:D.map Bc.bare=acc)
  (aA:∀g,Cx.ob (.slice a D.length c) D g→¬A g) (Y:∀g,Cx.ob (.slice a D.length c) D g→B≤g∧g<H)
  (hT:V.heap[G]?=some (.cells #[.slice a D.length c] 48)) (hN:V.heap[H+1]?=some (.cells #[.int .i64 0,.int .i64 0] 29))
  (J:V.grownBy S (Value.slice a D.length c).ownBlock) (aD:Cx.Own S B (.slice a9 (D.length+1) I) (D++[x])) (aJ:∀g,x.blk g→H+1<g)
  (aC:(Value.slice a9 (D.length+1) I).ownBlock=(Value.slice a D.length c).ownBlock∨∃g,(Value.slice a9 (D.length+1) I).ownBlock=some g∧V.heap.size≤g)
  (aB:(res=.ok (acc++[x.bare])∧e=0∧l'=0)∨(res=.error (e,l')∧e≠0)) :
  (S.setCell ⟨G,0,none⟩ (.slice a9 (D.length+1) I)).heap[H+1]?=some (.cells #[.int .i64 0,.int .i64 0] 29)∧(∀g,g<V.heap.size→H+1<g→(S.setCell ⟨G,0,none⟩ (.slice a9 (D.length+1) I)).heap[g]?=V.heap[g]?) ∧
  (∀W6,((S.setCell ⟨G,0,none⟩ (.slice a9 (D.length+1) I)).setCell ⟨H+1,0,none⟩ (.int .i64 e)).setCell ⟨H+1,1,none⟩ (.int .i64 l')=W6→D7 (Iq G B) A w res (.returned (fV e l')) W6∧(loadVar 29 ⟨H+1,0,none⟩).run Tryz.prog W6=.ok (fV e l') W6):=by
 have R:∀g,(Value.slice a D.length c).ownBlock=some g→B≤g∧g<H:=fun g N=>Y g (.inl N)
 have Z:∀g,g<V.heap.size→g≠G→(Value.slice a D.length c).ownBlock≠some g→(S.setCell ⟨G,0,none⟩ (.slice a9 (D.length+1) I)).heap[g]?=V.heap[g]?:=fun g N hne ho=>
  (qC _ _ _ _ hne).trans (J.block g N (fun q=>ho q.symm))
 have f5:=(Z (H+1) (by omega) (by omega) (fun q=>by have:=(R _ q).2;omega)).trans hN;refine⟨f5,fun g N aM=>Z g N (by omega) (fun q=>by have:=(R _ q).2;omega),?_⟩;rintro W6 rfl;have aL:=J.size;have aE:=(J.block G (by omega) (fun q=>by have:=(R _ q.symm).1;omega)).trans hT;have aI:(((S.setCell ⟨G,0,none⟩ (.slice a9 (D.length+1) I)).setCell ⟨H+1,0,none⟩ (.int .i64 e)).setCell ⟨H+1,1,none⟩ (.int .i64 l')).heap[G]?=some (.cells #[.slice a9 (D.length+1) I] 48):=(Ar (by omega) _ _).trans (Gb aE _)
 have X:∀g,Cx.ob (.slice a9 (D.length+1) I) (D++[x]) g→(B≤g∧g<H∧¬A g)∨H+1<g:=by
  intro g N;rcases El.ob_more aC N with h|h|h
  ·exact .inl ⟨(Y g h).1,(Y g h).2,aA g h⟩
  ·exact .inr (aJ g h)
  ·exact .inr (by omega)
 have Q:(D++[x]).length=D.length+1:=by simp
 have U:Iq G B (acc++[x.bare]) (fun g=>A g∧g<w.heap.size) (((S.setCell ⟨G,0,none⟩ (.slice a9 (D.length+1) I)).setCell ⟨H+1,0,none⟩ (.int .i64 e)).setCell ⟨H+1,1,none⟩ (.int .i64 l')):=by
  refine⟨⟨D++[x],a9,I,by simp[aH],by rw[Q];exact aI,?_,?_⟩,fun h=>i4 h.1,i5,by simp;omega⟩
  ·rw[Q];refine aD.stay (fun g N=>?_);have:=X g N;refine(Ar (by omega) _ _).trans (qC _ _ _ _ ?_);show g≠G;omega
  ·rw[Q];intro g N h;rcases X g N with h1|h1
   ·exact h1.2.2 h.1
   ·rw[hH]at h;omega
 have aG:Cp A w (((S.setCell ⟨G,0,none⟩ (.slice a9 (D.length+1) I)).setCell ⟨H+1,0,none⟩ (.int .i64 e)).setCell ⟨H+1,1,none⟩ (.int .i64 l')):=by
  refine Cp.two ⟨?_,fun g N hA=>(Z g (by omega) (fun q=>i4 (q ▸ hA)) (fun q=>aA g (.inl q) hA)).trans (hF.same g N hA),J.os.trans hF.os,J.tape.trans hF.tape,J.output.trans hF.output⟩ (by omega) _ _;have:=hF.size;simp;omega
 refine⟨⟨aG,?_⟩,Ai (A3 f5 _ _)⟩;rcases aB with⟨rfl,rfl,rfl⟩|⟨rfl,h⟩
 ·exact⟨rfl,U⟩
 ·exact⟨rfl,h,_,U⟩
theorem Ro(tb B:Nat)(k:Nat)(t:List UInt8)(ka:Option Addr)(kc:Nat)(ks:List (List UInt8))(da:Option Addr)(dc:Nat)(ds:List Nd)(l:Int)(acc:List P22.Step)(A:Nat→Prop)(w:World)(bD:(Nd.mk k t ka kc ks da dc ds l).In w)(aO:E6 (Nd.mk k t ka kc ks da dc ds l).bare)
  (hi:Iq tb B acc A w) (aB:acc.length+1≤1000000000) :
  Calls Tryz.prog 53 #[.agg #[.int .u8 k,.string ⟨t.toArray⟩,.slice ka ks.length kc,.slice da ds.length dc,.int .i64 l],.pointer (some ⟨tb,0,none⟩)] w (D7 (Iq tb B) A w (Q7 (Nd.mk k t ka kc ks da dc ds l).bare acc)):=by
 obtain⟨H,hH⟩:∃H,w.heap.size=H:=⟨_,rfl⟩;obtain⟨W0,aL,aH,g0,g1,bR⟩:=A0 w (.cells #[.int .u8 k,.string ⟨t.toArray⟩,.slice ka ks.length kc,.slice da ds.length dc,.int .i64 l] 26) (.cells #[.int .i64 0,.int .i64 0] 29) H hH;have x0:=Ad g0;have y0:=Af g1;obtain⟨⟨ss,a,c,i0,i1,i2,i3⟩,i4,i5,i6⟩:=hi;have bE:=(qA.1 i1).1;have aJ:=fun g Z=>i2.ob_le (g:=g) Z;rw[hH]at bE aJ i6;have aK:=Rn k t ka kc ks da dc ds l W0 (bD.below (by rw[hH];exact aH)) aO;have aG:ss.length+1≤1000000000:=by rw[←i0]at aB;simpa using aB
 obtain⟨res,X⟩:∃res,P22.stepE (Nd.mk k t ka kc ks da dc ds l).bare=res:=⟨_,rfl⟩;unfold Q7;rw[X]at aK ⊢;have bS:=Ab aL;have bA:=Ab aH;have bI:=Ab g1;have bM:=Ab i0;have bH:=Ab i1;have aM:=Ab i2;have bN:=Ab i3;have Y:=Ab aJ;have bJ:=Ab aK;have cA:=Ab X;clear aL aH g0 g1 i0 i1 i2 i3 aJ aK X bD aO y0;go_enter Tryz.func53,Tryz.ntmps53
 go_upto_region 1 with fail
 try rw[hH]
 rw[Aa bS];go_upto_region 2 with(go_at_call 54;refine(Aa bJ).mono ?_;rintro e2 w2 ⟨aI,⟨n,ac,u,aa,D,af,m,fi,fa,li,⟨k2,t2,I,Q,N,R,S,J,l2⟩⟩,ec,el,rfl,aY,G,aT⟩;rw[Bc.val_eq];have bV:=aI.size;have aD:=Ab aI;have aQ:=Ab aY;have aZ:=Ab G;have bU:=Ab aT;clear aI aY G aT)
 obtain⟨K,hK⟩:∃K,w2.heap.size=K:=⟨_,rfl⟩;obtain⟨W3,aR,aA,p0,p1,bT⟩:=A0 w2 (.cells #[.string ⟨n.toArray⟩,.string ⟨ac.toArray⟩,.string ⟨u.toArray⟩,.slice aa af.length D,.int .i64 m,.int .i64 fi,.int .i64 fa,.int .i64 li,.int .u8 k2,.string ⟨t2.toArray⟩,.slice I N.length Q,.slice R J.length S,.int .i64 l2] 86) (.cells #[.int .i64 ec,.int .i64 el] 29) K hK;rw[aR];rw[hK];rw[hK]at bV;have G:=Aa aZ;rw[bR]at G;have U:Below H w W3:=(Aa bA).trans (((Aa aD).mono (by omega)).trans (aA.mono (by omega)));have t3:=(U.block tb (by omega)).trans (Aa bH);have n3:=(aA.block (H+1) (by omega)).trans (((Aa aD).block (H+1) (by omega)).trans (Aa bI));have o3:Cx.Own W3 B (.slice a ss.length c) ss:=(Aa aM).stay (fun g Z=>U.block g (Aa Y g Z).2);have x3:(⟨n,ac,u,aa,D,af,m,fi,fa,li,.mk k2 t2 I Q N R S J l2⟩:Bc).In W3:=(Aa aQ).below (by rw[hK];exact aA);have aW:∀g,(⟨n,ac,u,aa,D,af,m,fi,fa,li,.mk k2 t2 I Q N R S J l2⟩:Bc).blk g→B≤g:=fun g Z=>by have:=G g Z;omega
 have aN:∀g,(⟨n,ac,u,aa,D,af,m,fi,fa,li,.mk k2 t2 I Q N R S J l2⟩:Bc).blk g→(Value.slice a ss.length c).ownBlock≠some g:=fun g Z hq=>by have:=G g Z;have:=(Aa Y g (.inl hq)).2;omega
 have bB:Cp A w W3:=.of_below (by rw[hH];exact U);have u3:=Aq t3;have v3:=A2 p0;have cE:K+1+1≤W3.heap.size:=by omega
 clear bT;have cB:=Ab U;have bG:=Ab t3;have bL:=Ab n3;have bW:=Ab o3;have aS:=Ab x3;have bZ:=Ab aW;have bP:=Ab aN;have bQ:=Ab bB;have bY:=Ab p1;have bF:=Ab G;clear aR aA p0 p1 G U t3 n3 o3 x3 aW aN bB bA aD aQ aZ aM x0;go_upto_region 3 with(at_builtin;refine El.wpList_app Sn (by decide) rfl (.tmp 11) (.tmp 13) rfl rfl (Aa bW) (x:=(⟨n,ac,u,aa,D,af,m,fi,fa,li,.mk k2 t2 I Q N R S J l2⟩:Bc)) rfl (Aa aS) (Aa bZ) (Aa bP) rfl aG (by omega) ?_;intro a9 c9 w9 aU aE aC;have u9:=Aq ((aE.block tb (by omega) (fun q=>by have:=(Aa Y _ (.inl q.symm)).1;omega)).trans (Aa bG));have bX:=Ab aU;have bO:=Ab aE;have bC:=Ab aC;clear aU aE aC)
 obtain⟨e5,f5,g5⟩:=S6 (x:=(⟨n,ac,u,aa,D,af,m,fi,fa,li,.mk k2 t2 I Q N R S J l2⟩:Bc)) (res:=res.map fun a=>acc++[a]) (e:=ec) (l':=el) hH (by omega) (Aa bQ) i4 i5 bE i6 (Aa bM) (Aa bN) (Aa Y) (Aa bG) (Aa bL) (Aa bO) (Aa bX) (fun g Z=>by have:=Aa bF g Z;omega) (Aa bC) (by
  rcases Aa bU with⟨h1,h2,h3⟩|⟨h1,h2⟩
  ·rw[h1];exact .inl ⟨rfl,h2,h3⟩
  ·rw[h1]
   exact .inr ⟨rfl,h2⟩)
 have k5:=(f5 (K+1) (by omega) (by omega)).trans (Aa bY);obtain⟨W5,aX⟩:∃W5,w9.setCell ⟨tb,0,none⟩ (.slice a9 (ss.length+1) c9)=W5:=⟨_,rfl⟩;rw[aX]at e5 k5 g5 ⊢;have y5:=Af e5;have z5:=Af k5;have cD:=Ab e5;have cC:=Ab k5;have bK:=Ab g5;clear e5 k5 g5 f5 aX u9 u3 v3;go_wp2;have hq:=Aa bK _ rfl;exact qW (Av rfl _ _ _ (H+1) _ rfl hq.2) rfl hq.1
end Go.Proofs.YtnjokdbblmlhhaaGreatDoor
namespace Go.Proofs.YtnjokdbblmlhhaaGreatDoor
set_option maxHeartbeats 32000000
set_option maxRecDepth 100000
open Go.RowKit
def Iz(w:World)(G B:Nat)(res:Except P22.F (List P22.Step))(e l':Int)(w':World):Prop:=
 w.grownBy w' (some G)∧∃a c D,w'.heap[G]?=some (.cells #[.slice a D.length c] 48)∧Cx.Own w' B (.slice a D.length c) D∧((res=.ok (D.map Bc.bare)∧e=0∧l'=0)∨(res=.error (e,l')∧e≠0))
theorem G4(g:Nat):¬Cx.ob (.slice none 0 0) [] g:=fun D=>by
 rcases D with D|⟨x,G,_⟩
 ·cases D
 ·simp at G
theorem Rj(d:P20.T)(s s':List P22.Step)(h:Q7 d s=.ok s'):s'.length≤s.length+1:=by
 unfold Q7 at h;cases hq:P22.stepE d with
 |error x=>rw[hq]at h;cases h
 |ok x=>rw[hq]at h;cases h;simp
theorem Tj(G B:Nat)(w:World):R0 (Iq G B) (fun g=>False) List.length 1024 53 #[.pointer (some ⟨G,0,none⟩)] Q7 w:=by
 refine⟨T7,fun W' hs N nd s A D I R J hi Q=>?_⟩;obtain⟨k,t,ka,kc,ks,da,dc,ds,l⟩:=nd;rw[Nd.val_eq];exact Ro G B k t ka kc ks da dc ds l s A W' D I hi (by omega)
theorem Iz.of{I:Nat}{w W1 w':World}{res:Except P22.F (List P22.Step)}{e:Ending}(D:w.grownBy W1 (some I))(h:D7 (Iq I w.heap.size) (fun g=>g≠I) W1 res e w')(S:I<w.heap.size):∃c l',e=.returned (fV c l')∧Iz w I W1.heap.size res c l' w':=by
 obtain⟨hf,Q⟩:=h;have R:w.grownBy w' (some I):=⟨hf.os.trans D.os,hf.tape.trans D.tape,hf.output.trans D.output,qK D.size hf.size,fun i hi hne=>(hf.same i (zB hi D.size) (fun e=>hne (by rw[e]))).trans (D.block i hi hne)⟩
 have hr:∀xs,Iq I w.heap.size xs (fun g=>g≠I∧g<W1.heap.size) w'→∃a c G,w'.heap[I]?=some (.cells #[.slice a G.length c] 48)∧Cx.Own w' W1.heap.size (.slice a G.length c) G∧G.map Bc.bare=xs:=by
  rintro xs ⟨⟨G,a,c,h0,h1,h2,h3⟩,_⟩;refine⟨a,c,G,h1,h2.raise (fun g J=>?_),h0⟩;have hB:=(h2.ob_le J).1;exact Nat.le_of_not_lt (fun N=>h3 g J ⟨by omega,N⟩)
 cases res with
 |ok xs=>
  obtain⟨he,hi⟩:=Q;obtain⟨a,c,G,h1,h2,rfl⟩:=hr _ hi;exact⟨0,0,he,R,a,c,G,h1,h2,.inl ⟨rfl,rfl,rfl⟩⟩
 |error f=>
  obtain⟨he,hne,xs,hi⟩:=Q;obtain⟨a,c,G,h1,h2,_⟩:=hr _ hi;exact⟨f.1,f.2,he,R,a,c,G,h1,h2,.inr ⟨rfl,hne⟩⟩
theorem Iz.two{D B:Nat}{w w':World}{res:Except P22.F (List P22.Step)}{e l':Int}(h:Iz w D B res e l' w'){g:Nat}(I:w.heap.size≤g)(J:g<B)(ht:D<w.heap.size)(v0 N:Value):Iz w D B res e l' ((w'.setCell ⟨g,0,none⟩ v0).setCell ⟨g,1,none⟩ N):=by
 obtain⟨G,a,c,xs,h1,h2,h3⟩:=h;exact⟨B4 G I _ _,a,c,xs,(Ar (by omega) _ _).trans h1,h2.stay (fun i hi=>Ar (by have:=(h2.ob_le hi).1;omega) _ _),h3⟩
theorem Iz.base{G B B':Nat}{w w':World}{res:Except P22.F (List P22.Step)}{e l':Int}(h:Iz w G B res e l' w')(hB:B'≤B):Iz w G B' res e l' w':=by
 obtain⟨D,a,c,xs,h1,h2,h3⟩:=h;exact⟨D,a,c,xs,h1,h2.base hB,h3⟩
theorem R5(D p:Nat)(k:Nat)(t:List UInt8)(ka:Option Addr)(kc:Nat)(ks:List (List UInt8))(da:Option Addr)(dc:Nat)(ds:List Nd)(l:Int)(v0:Value)(w:World)(aD:(Nd.mk k t ka kc ks da dc ds l).In w)(aR:E6 (Nd.mk k t ka kc ks da dc ds l).bare)(aL:¬(Nd.mk k t ka kc ks da dc ds l).blk D)
  (hp:w.heap[p]?=some (.cells #[.func (.func 53) #[] #[.pointer (some ⟨D,0,none⟩)]] 89)) (hb:w.heap[D]?=some (.cells #[v0] 48)) :
  Calls Tryz.prog 55 #[.agg #[.int .u8 k,.string ⟨t.toArray⟩,.slice ka ks.length kc,.slice da ds.length dc,.int .i64 l],.pointer (some ⟨D,0,none⟩),.pointer (some ⟨p,0,none⟩)] w fun e w'=>∃c l',e=.returned (fV c l')∧Iz w D w.heap.size (P22.rowE 1024 P22.stepE (Nd.mk k t ka kc ks da dc ds l).bare) c l' w':=by
 obtain⟨H,hH⟩:∃H,w.heap.size=H:=⟨_,rfl⟩;obtain⟨W0,aG,G,g0,g1,bE⟩:=A0 w (.cells #[.int .u8 k,.string ⟨t.toArray⟩,.slice ka ks.length kc,.slice da ds.length dc,.int .i64 l] 26) (.cells #[.int .i64 0,.int .i64 0] 29) H hH;have x0:=Ad g0;have y0:=Af g1;have aW:=(qA.1 hp).1;have aS:=(qA.1 hb).1;have bC:p≠D:=by rintro rfl;rw[hb]at hp;simp at hp
 rw[hH]at aW aS;have p0:=(G.block p (by omega)).trans hp;have t0:=(G.block D (by omega)).trans hb;obtain⟨W1,U⟩:∃W1,W0.setCell ⟨D,0,none⟩ (.slice none 0 0)=W1:=⟨_,rfl⟩;have J:∀g,g≠D→W1.heap[g]?=W0.heap[g]?:=fun g hg=>by rw[←U];exact qC _ _ _ _ hg
 have bF:W1.heap.size=H+1+1:=by rw[←U];simp;omega
 have N:w.grownBy W1 (some D):=by rw[←U];exact Gc ⟨G.os,G.tape,G.output,by omega,fun i hi _=>G.block i (by omega)⟩ _
 have t1:W1.heap[D]?=some (.cells #[.slice none 0 0] 48):=by rw[←U];exact Gb t0 _
 have p1:=(J p bC).trans p0;have n0:=(J H (by omega)).trans g0;have n1:=(J (H+1) (by omega)).trans g1
 have Z:(Nd.mk k t ka kc ks da dc ds l).In W1:=aD.keep (fun g hg=>by
  have bG:=aD.lt hg
  exact(J g (fun q=>aL (q ▸ hg))).trans (G.block g (by omega)))
 have aK:∀W',Below (H+1+1) W1 W'→Iq D w.heap.size [] (fun g=>g≠D) W':=fun W' h=>by
  have:=h.size;exact⟨⟨[],none,0,rfl,(h.block D (by omega)).trans t1,El.OwnC.nil _ _ _,fun g hg=>(G4 g hg).elim⟩,fun h=>h rfl,by omega,by omega⟩
 have aA:∀c W',Below (H+1+1) W1 W'→H+1<c→W'.heap[c]?=some (.cells #[.int .i64 1024] 3)→W'.heap[c+1]?=some (.cells #[.func (.func 53) #[] #[.pointer (some ⟨D,0,none⟩)]] 89)→Calls Tryz.prog 90 #[.agg #[.int .u8 k,.string ⟨t.toArray⟩,.slice ka ks.length kc,.slice da ds.length dc,.int .i64 l],.pointer (some ⟨c,0,none⟩),.pointer (some ⟨c+1,0,none⟩)] W' (D7 (Iq D w.heap.size) (fun g=>g≠D) W' (P22.rowE 1024 P22.stepE (Nd.mk k t ka kc ks da dc ds l).bare)):=fun c W' h hc q1 q2=>by
  have hz:=h.size;have bD:=(h.block p (by omega)).trans p1;rw[P22.rowE_S];refine Mf (Iq D w.heap.size) (Vi _ _) Q7 (fun g=>False) List.length 1024 Rj 1024 53 #[.pointer (some ⟨D,0,none⟩)] c (c+1) k t ka kc ks da dc ds l [] (fun g=>g≠D) W' ?_ aR (fun g hg q=>aL (q ▸ hg)) q1 q2 (by omega) (by omega) ?_ (Tj D _ W') (aK W' h) (fun h=>by simp;omega)
  ·exact Z.keep (fun g hg=>h.block g (by have:=Z.lt hg;omega))
  ·rintro g hf;exact hf.elim
 have u0:=Aq p0;have u1:=Aq t0;have x1:=Ad n0;have bB:=Ab p1;have aO:=Ab aG;have aZ:=Ab U;have aX:=Ab n0;have aI:=Ab n1;have aE:=Ab aA;have aM:=Ab N;have aT:=Dl;clear aG G g0 g1 U x0 y0 hp hb p0 t0 t1 p1 n0 n1 Z aK aA N J aD;go_enter Tryz.func55,Tryz.ntmps55
 go_upto_region 1 with fail
 try rw[hH]
 rw[Aa aO];go_upto_region 2 with fail
 rw[Aa aZ]
 refine Cw aT (fun L a w'=>∃v6 v7 v8 v9:Value,a=⟨#[.agg #[.int .u8 k,.string ⟨t.toArray⟩,.slice ka ks.length kc,.slice da ds.length dc,.int .i64 l],.pointer (some ⟨D,0,none⟩),.pointer (some ⟨p,0,none⟩),.pointer (some ⟨H,0,none⟩),.pointer (some ⟨H+1,0,none⟩),v6,v7,v8,v9],[]⟩∧L.size=5 ∧
  (L.getD 1 false=true→L.getD 0 false=true)∧(L.getD 3 false=true→L.getD 0 false=true∧L.getD 1 false=true∧L.getD 2 false=true)∧(L.getD 4 false=true→L.getD 3 false=true) ∧
  (L.getD 0 false=true→v6=.func (.func 53) #[] #[.pointer (some ⟨D,0,none⟩)])∧(L.getD 2 false=true→v8=.agg #[.int .u8 k,.string ⟨t.toArray⟩,.slice ka ks.length kc,.slice da ds.length dc,.int .i64 l]) ∧
  (L.getD 3 false=false→Below (H+1+1) W1 w'∧(L.getD 1 false=true→∃c,v7=.func (.func 90) #[] #[.pointer (some ⟨c,0,none⟩),.pointer (some ⟨c+1,0,none⟩)]∧H+1<c∧w'.heap[c]?=some (.cells #[.int .i64 1024] 3)∧w'.heap[c+1]?=some (.cells #[.func (.func 53) #[] #[.pointer (some ⟨D,0,none⟩)]] 89))) ∧
  (L.getD 3 false=true→∃c l',v9=fV c l'∧Iz w D (H+1+1) (P22.rowE 1024 P22.stepE (Nd.mk k t ka kc ks da dc ds l).bare) c l' w'∧(L.getD 4 false=false→w'.heap[H+1]?=some (.cells #[.int .i64 0,.int .i64 0] 29))∧(L.getD 4 false=true→w'.heap[H+1]?=some (.cells #[.int .i64 c,.int .i64 l'] 29)))) (by kernel_rfl) ?_ ?_ ?_
 ·refine⟨undef,undef,undef,undef,rfl,by kernel_rfl,?_,?_,?_,?_,?_,fun _=>⟨(qV (H+1+1) W1).drew,?_⟩,?_⟩;all_goals (intro h;exact absurd h (by decide))
 ·rintro L a' w' i o ⟨v6,v7,v8,v9,rfl,S,j1,j3,j4,f0,f2,fa,fb⟩ ho hi I;have Y:=(A4 hi).2
  match i,ho with
  |0,ho=>
   cases ho;refine Ak rfl rfl ?_;have R:L.getD 3 false=false:=by cases hq:L.getD 3 false with|false=>rfl|true=>(have:=(j3 hq).1;rw[Y]at this;cases this)
   obtain⟨hB,f1⟩:=fa R;refine qS (K:=fun a2 w2=>a2=⟨#[.agg #[.int .u8 k,.string ⟨t.toArray⟩,.slice ka ks.length kc,.slice da ds.length dc,.int .i64 l],.pointer (some ⟨D,0,none⟩),.pointer (some ⟨p,0,none⟩),.pointer (some ⟨H,0,none⟩),.pointer (some ⟨H+1,0,none⟩),(.func (.func 53) #[] #[.pointer (some ⟨D,0,none⟩)]),v7,v8,v9],[]⟩∧w2=w') (fun a2 w2 he=>?_) (by simp[Oper.wp,go_sem,Aq ((hB.block p (by omega)).trans (Aa bB))]);obtain⟨rfl,rfl⟩:=he;refine⟨_,v7,v8,v9,rfl,by simp[S],fun _=>Bm hi,?_,?_,fun _=>rfl,fun h=>f2 (Ac (by omega) h),fun _=>⟨hB,fun h=>f1 (Ac (by omega) h)⟩,?_⟩
   ·intro h;rw[getD_set_ne false (by omega),R]at h;cases h
   ·intro h;have:=j4 (Ac (by omega) h);rw[R]at this;cases this
   ·intro h;rw[getD_set_ne false (by omega),R]at h;cases h
  |1,ho=>
   cases ho;refine Ak rfl rfl ?_;have R:L.getD 3 false=false:=by cases hq:L.getD 3 false with|false=>rfl|true=>(have:=(j3 hq).2.1;rw[Y]at this;cases this)
   obtain⟨hB,f1⟩:=fa R;obtain rfl:=f0 (I ⟨0,.data⟩ (by simp) rfl);have aC:=enters_of Tryz.func56 (by kernel_rfl) rfl;refine Bt (f:=56) (args:=#[.int .i64 1024,.func (.func 53) #[] #[.pointer (some ⟨D,0,none⟩)]]) (by simp[execOp,go_sem,aC]) (Kb 1024 53 #[.pointer (some ⟨D,0,none⟩)] w') ?_;rintro e2 w2 ⟨c2,rfl,bI,q1,q2,aY⟩;have hz:=hB.size;refine⟨_,rfl,_,_,v8,v9,rfl,by simp[S],fun _=>by rw[getD_set_ne false (by omega)];exact I ⟨0,.data⟩ (by simp) rfl,?_,?_,fun _=>rfl,fun h=>f2 (Ac (by omega) h),fun _=>⟨hB.trans (aY.mono (by omega)),fun _=>⟨c2,rfl,by omega,q1,q2⟩⟩,?_⟩
   ·intro h;rw[getD_set_ne false (by omega),R]at h;cases h
   ·intro h;have:=j4 (Ac (by omega) h);rw[R]at this;cases this
   ·intro h;rw[getD_set_ne false (by omega),R]at h;cases h
  |2,ho=>
   cases ho;refine Ak rfl rfl ?_;have R:L.getD 3 false=false:=by cases hq:L.getD 3 false with|false=>rfl|true=>(have:=(j3 hq).2.2;rw[Y]at this;cases this)
   obtain⟨hB,f1⟩:=fa R;have y0:=Ad ((hB.block H (by omega)).trans (Aa aX));refine qS (K:=fun a2 w2=>a2=⟨#[.agg #[.int .u8 k,.string ⟨t.toArray⟩,.slice ka ks.length kc,.slice da ds.length dc,.int .i64 l],.pointer (some ⟨D,0,none⟩),.pointer (some ⟨p,0,none⟩),.pointer (some ⟨H,0,none⟩),.pointer (some ⟨H+1,0,none⟩),v6,v7,(.agg #[.int .u8 k,.string ⟨t.toArray⟩,.slice ka ks.length kc,.slice da ds.length dc,.int .i64 l]),v9],[]⟩∧w2=w') (fun a2 w2 he=>?_) (by simp[Oper.wp,go_sem,y0]);obtain⟨rfl,rfl⟩:=he;refine⟨v6,v7,_,v9,rfl,by simp[S],fun h=>by rw[getD_set_ne false (by omega)];exact j1 (Ac (by omega) h),?_,?_,fun h=>f0 (Ac (by omega) h),fun _=>rfl,fun _=>⟨hB,fun h=>f1 (Ac (by omega) h)⟩,?_⟩
   ·intro h;rw[getD_set_ne false (by omega),R]at h;cases h
   ·intro h;have:=j4 (Ac (by omega) h);rw[R]at this;cases this
   ·intro h;rw[getD_set_ne false (by omega),R]at h;cases h
  |3,ho=>
   cases ho;refine Ak rfl rfl ?_;obtain⟨hB,f1⟩:=fa Y;have d1:=I ⟨1,.data⟩ (by simp) rfl;have d2:=I ⟨2,.data⟩ (by simp) rfl;obtain⟨c,rfl,hc,q1,q2⟩:=f1 d1;obtain rfl:=f2 d2;have aC:=enters_of Tryz.func90 (by kernel_rfl) rfl;refine Bt (f:=90) (args:=#[.agg #[.int .u8 k,.string ⟨t.toArray⟩,.slice ka ks.length kc,.slice da ds.length dc,.int .i64 l],.pointer (some ⟨c,0,none⟩),.pointer (some ⟨c+1,0,none⟩)]) (by simp[execOp,go_sem,aC]) (Aa aE c w' hB hc q1 q2) ?_;rintro e3 w3 aH;have N:=Aa aM;have bH:=(Aa aI);have hz:=hB.size;have aN:w.grownBy w' (some D):=⟨hB.os.trans N.os,hB.tape.trans N.tape,hB.output.trans N.output,qK N.size (by omega),fun i hi hne=>(hB.block i (by omega)).trans (N.block i hi hne)⟩;have aU:=(aH.1.same (H+1) (by omega) (by omega)).trans ((hB.block (H+1) (by omega)).trans (Aa aI));obtain⟨ec,el,rfl,aJ⟩:=Iz.of aN aH (by omega);have X:=aJ.base (B':=H+1+1) (by omega);have n4:L.getD 4 false=true→False:=fun h=>by have:=j4 h;rw[Y]at this;cases this
   refine⟨_,rfl,v6,_,_,_,rfl,by simp[S],fun h=>by rw[getD_set_ne false (by omega)];exact j1 (Ac (by omega) h),fun _=>⟨?_,?_,?_⟩,fun _=>Bm hi,fun h=>f0 (Ac (by omega) h),fun _=>rfl,?_,fun _=>⟨ec,el,rfl,X,fun _=>aU,fun h=>(n4 (Ac (by omega) h)).elim⟩⟩
   ·rw[getD_set_ne false (by omega)];exact j1 d1
   ·rw[getD_set_ne false (by omega)];exact d1
   ·rw[getD_set_ne false (by omega)];exact d2
   ·intro h;rw[Bm hi]at h;cases h
  |4,ho=>
   cases ho;refine Ak rfl rfl ?_;have d3:=I ⟨3,.data⟩ (by simp) rfl;obtain⟨ec,el,rfl,X,hn,_⟩:=fb d3;have hN:=hn Y;have z0:=Af hN;refine qS (K:=fun a2 w2=>a2=⟨#[.agg #[.int .u8 k,.string ⟨t.toArray⟩,.slice ka ks.length kc,.slice da ds.length dc,.int .i64 l],.pointer (some ⟨D,0,none⟩),.pointer (some ⟨p,0,none⟩),.pointer (some ⟨H,0,none⟩),.pointer (some ⟨H+1,0,none⟩),v6,v7,v8,(.agg #[.int .i64 ec,.int .i64 el])],[]⟩∧w2=(w'.setCell ⟨H+1,0,none⟩ (.int .i64 ec)).setCell ⟨H+1,1,none⟩ (.int .i64 el)) (fun a2 w2 he=>?_) (by simp[Oper.wp,go_sem,z0,fV]);obtain⟨rfl,rfl⟩:=he;refine⟨v6,v7,v8,_,rfl,by simp[S],fun h=>by rw[getD_set_ne false (by omega)];exact j1 (Ac (by omega) h),fun h=>?_,fun _=>by rw[getD_set_ne false (by omega)];exact d3,fun h=>f0 (Ac (by omega) h),fun h=>f2 (Ac (by omega) h),fun h=>?_,fun _=>⟨ec,el,rfl,X.two (by omega) (by omega) (by omega) _ _,?_,fun _=>A3 hN _ _⟩⟩
   ·have:=j3 (Ac (by omega) h);rw[getD_set_ne false (by omega),getD_set_ne false (by omega),getD_set_ne false (by omega)];exact this
   ·rw[getD_set_ne false (by omega),d3]at h;cases h
   ·intro h;rw[Bm hi]at h;cases h
  |n+5,ho=>exact absurd ho (by simp)
 ·rintro L a' V ⟨v6,v7,v8,v9,rfl,S,j1,j3,j4,f0,f2,fa,fb⟩ aB
  have Q:∀i,i<L.size→L.getD i false=true:=fun i hi=>by
   have:=aB i;simp only[Array.getD,hi,dif_pos]at this ⊢;exact this
  obtain⟨ec,el,rfl,X,_,hn⟩:=fb (Q 3 (by omega));have hN:=hn (Q 4 (by omega));clear f0 f2 fa fb j1 j3 j4 aB Q;have aQ:=Ab X;have bA:=Ab hN;clear X hN hn;go_wp2;exact qW (Av rfl _ _ _ (H+1) _ rfl (Ai (Aa bA))) rfl ⟨ec,el,rfl,(Aa aQ).base (by omega)⟩
end Go.Proofs.YtnjokdbblmlhhaaGreatDoor
namespace Go.Proofs.YtnjokdbblmlhhaaGreatDoor
set_option maxHeartbeats 32000000
set_option maxRecDepth 100000
open Go.RowKit
theorem Tl{σ:Type}(Inv:σ→(Nat→Prop)→World→Prop)(M:Nat→Prop)(B D c:Nat)(N:List P22.Step→σ→σ)(W:World)(hB:B≤c)(hc:W.heap[c]?=some (.cells #[.func (.func 53) #[] #[.pointer (some ⟨D,0,none⟩)]] 89))(Y:M D)
  (J:∀s A W',Inv s A W'→∃v0,W'.heap[D]?=some (.cells #[v0] 48))
  (I:∀s A W' W'' a sc G,Inv s A W'→W'.grownBy W'' (some D)→W''.heap[D]?=some (.cells #[.slice a G.length sc] 48)→Cx.Own W'' W'.heap.size (.slice a G.length sc) G→Inv (N (G.map Bc.bare) s) (fun g=>A g∧g<W'.heap.size) W'') :
  G1 Inv M B (.func (.func 55) #[] #[.pointer (some ⟨D,0,none⟩),.pointer (some ⟨c,0,none⟩)]) (fun d s=>(P22.rowE 1024 P22.stepE d).map fun n=>N n s) W:=by
 refine⟨_,_,fun g=>g=c,rfl,enters_of Tryz.func55 (by kernel_rfl) rfl,?_,fun W' hz Z nd s A Q S R hi=>?_⟩
 ·rintro g rfl;exact⟨hB,_,_,hc⟩
 obtain⟨k,t,ka,kc,ks,da,dc,ds,l⟩:=nd;rw[Nd.val_eq];obtain⟨v0,hb⟩:=J s A W' hi;refine(R5 D c k t ka kc ks da dc ds l v0 W' Q S (fun h=>R _ h Y) ((Z c rfl).trans hc) hb).mono ?_;rintro e w1 ⟨ec,el,rfl,U,a,sc,G,h1,h2,h3⟩;refine⟨Ey U Y,?_⟩;have X:=I s A W' w1 a sc G hi U h1 h2;rcases h3 with⟨hq,rfl,rfl⟩|⟨hq,hne⟩
 ·dsimp only;rw[hq];exact⟨rfl,X⟩
 ·dsimp only;rw[hq];exact⟨rfl,hne,_,X⟩
def K8(b:Nat)(xs:List P22.Step)(A:Nat→Prop)(W:World):Prop:=∃D a c,D.map Bc.bare=xs∧W.heap[b+1+1]?=some (.cells #[.slice a D.length c] 48)∧Cx.Own W (b+1+1+1) (.slice a D.length c) D∧∀g,Cx.ob (.slice a D.length c) D g→¬A g
theorem K8.stay{b:Nat}{xs:List P22.Step}{A A':Nat→Prop}{W W':World}(h:K8 b xs A W)(hz:W.heap.size≤W'.heap.size)(hb:W'.heap[b+1+1]?=W.heap[b+1+1]?)(hs:∀g,b+1+1+1≤g→g<W.heap.size→¬A g→W'.heap[g]?=W.heap[g]?)(I:∀g,A' g→A g∨W.heap.size≤g):K8 b xs A' W':=by
 obtain⟨G,a,c,h0,h1,h2,h3⟩:=h;refine⟨G,a,c,h0,hb.trans h1,h2.stay (fun g D=>hs g (h2.ob_le D).1 (h2.ob_le D).2 (h3 g D)),fun g D hq=>?_⟩;rcases I g hq with h|h
 ·exact h3 g D h
 ·have:=(h2.ob_le D).2;omega
structure To (b:Nat) (s:P22.Def) (A:Nat→Prop) (W:World):Prop where
 b0:W.heap[b]?=some (.cells (Fv s.name) 9)
 b1:W.heap[b+1]?=some (.cells (Fv s.text) 9)
 b2:K8 b s.steps A W
 n:∀g,b≤g→g<b+1+1+1→¬A g
 lt:b+1+1+1≤W.heap.size
def Ps(b:Nat)(g:Nat):Prop:=b≤g∧g<b+1+1+1
theorem Pk(b:Nat):Gf (To b) where
 stays:=by
  rintro s A W W' h hz hs;have hl:=h.lt;exact⟨(hs _ (by omega) (h.n _ (by omega) (by omega))).trans h.b0,(hs _ (by omega) (h.n _ (by omega) (by omega))).trans h.b1,h.b2.stay hz (hs _ (by omega) (h.n _ (by omega) (by omega))) (fun g _ h2 h3=>hs g h2 h3) (fun g D=>D),fun g h1 h2 h3=>h3.elim (h.n g h1 h2) (fun q=>by omega),qK hl hz⟩
 mono:=fun s A A' W h D=>⟨h.b0,h.b1,h.b2.stay (qJ _) rfl (fun _ _ _ _=>rfl) (fun g G=>.inl (D g G)),fun g h1 h2 h3=>h.n g h1 h2 (D g h3),h.lt⟩
theorem Nf(b:Nat):∀g,Ps b g→g<b+1+1+1:=fun g h=>h.2
theorem Ux{b c:Nat}{W:World}(hB:b+1+1+1≤c)(hc:W.heap[c]?=some (.cells #[.pointer (some ⟨b,0,none⟩)] 94))(G:W.heap[c+1]?=some (.cells #[.int .i64 64] 3)):G1 (To b) (Ps b) (b+1+1+1) (.func (.func 93) #[] #[.pointer (some ⟨c,0,none⟩),.pointer (some ⟨c+1,0,none⟩)]) (fun(d:P20.T) (s:P22.Def)=>(P22.textE 64 d).map fun x=>{ s with name:=x }) W:=by
 refine F5 (σ:=P22.Def) _ _ _ b c 64 (fun(x:List UInt8) (s:P22.Def)=>{ s with name:=x }) W hB hc G (by unfold Ps;omega) (fun s A W' h=>?_) ?_
 ·exact⟨_,h.b0⟩
 ·intro s A W' W'' x h D hn;have hl:=h.lt;exact⟨hn,(D.block _ (by omega) (by simp;try omega)).trans h.b1,h.b2.stay D.size (D.block _ (by omega) (by simp;try omega)) (fun g h1 h2 _=>D.block g h2 (by simp;omega)) (fun g I=>.inl I.1),fun g h1 h2 h3=>h.n g h1 h2 h3.1,qK hl D.size⟩
theorem Uj{b c:Nat}{W:World}(hB:b+1+1+1≤c)(hc:W.heap[c]?=some (.cells #[.pointer (some ⟨b+1,0,none⟩)] 94))(G:W.heap[c+1]?=some (.cells #[.int .i64 4096] 3)):G1 (To b) (Ps b) (b+1+1+1) (.func (.func 93) #[] #[.pointer (some ⟨c,0,none⟩),.pointer (some ⟨c+1,0,none⟩)]) (fun(d:P20.T) (s:P22.Def)=>(P22.textE 4096 d).map fun x=>{ s with text:=x }) W:=by
 refine F5 (σ:=P22.Def) _ _ _ (b+1) c 4096 (fun(x:List UInt8) (s:P22.Def)=>{ s with text:=x }) W hB hc G (by unfold Ps;omega) (fun s A W' h=>?_) ?_
 ·exact⟨_,h.b1⟩
 ·intro s A W' W'' x h D hn;have hl:=h.lt;exact⟨(D.block _ (by omega) (by simp;try omega)).trans h.b0,hn,h.b2.stay D.size (D.block _ (by omega) (by simp;try omega)) (fun g h1 h2 _=>D.block g h2 (by simp;omega)) (fun g I=>.inl I.1),fun g h1 h2 h3=>h.n g h1 h2 h3.1,qK hl D.size⟩
theorem Uk{b c:Nat}{W:World}(hB:b+1+1+1≤c)(hc:W.heap[c]?=some (.cells #[.func (.func 53) #[] #[.pointer (some ⟨b+1+1,0,none⟩)]] 89)):G1 (To b) (Ps b) (b+1+1+1) (.func (.func 55) #[] #[.pointer (some ⟨b+1+1,0,none⟩),.pointer (some ⟨c,0,none⟩)]) (fun(d:P20.T) (s:P22.Def)=>(P22.rowE 1024 P22.stepE d).map fun x=>{ s with steps:=x }) W:=by
 refine Tl (σ:=P22.Def) _ _ _ (b+1+1) c (fun(x:List P22.Step) (s:P22.Def)=>{ s with steps:=x }) W hB hc (by unfold Ps;omega) (fun s A W' h=>?_) ?_
 ·obtain⟨I,a,sc,_,h1,_⟩:=h.b2;exact⟨_,h1⟩
 ·intro s A W' W'' a sc I h G hn D;have hl:=h.lt;exact⟨(G.block _ (by omega) (by simp;try omega)).trans h.b0,(G.block _ (by omega) (by simp;try omega)).trans h.b1,⟨I,a,sc,rfl,hn,D.base (by omega),fun g h1 h2=>by have:=(D.ob_le h1).1;omega⟩,fun g h1 h2 h3=>h.n g h1 h2 h3.1,qK hl G.size⟩
def Ee:List (C8 P22.Def):=[([115,97,103,97],2,fun(d:P20.T) (s:P22.Def)=>(P22.textE 64 d).map fun x=>{ s with name:=x }),([116,101,120,116],4,fun(d:P20.T) (s:P22.Def)=>(P22.textE 4096 d).map fun x=>{ s with text:=x }),([115,116,101,112,115],6,fun(d:P20.T) (s:P22.Def)=>(P22.rowE 1024 P22.stepE d).map fun x=>{ s with steps:=x })]
theorem Uh:Du Ee=P22.defRd:=by
 funext k
 rfl
theorem Fb:Qz Ee:=by
 intro i q hq
 match i,hq with
 |0,hq=>cases hq;rfl
 |1,hq=>cases hq;rfl
 |2,hq=>cases hq;rfl
 |n+3,hq=>simp[Ee]at hq
theorem Le:Hh Ee:=by
 unfold Hh Ee;simp
end Go.Proofs.YtnjokdbblmlhhaaGreatDoor
namespace Go.Proofs.YtnjokdbblmlhhaaGreatDoor
set_option maxHeartbeats 32000000
set_option maxRecDepth 100000
open Go.RowKit
theorem Ej{g:Nat}{v:Value}{t:TypeId}{w w':World}(hb:Below w.heap.size w w')(h:w.heap[g]?=some (.cells #[v] t)):w'.heap[g]?=some (.cells #[v] t):=(hb.block g (qA.1 h).1).trans h
theorem Ku{bm g:Nat}{v:Value}{t:TypeId}{w w':World}(D:∃es G,w.heap[bm]?=some (.map es G))(hs:∀g,g≠bm→w'.heap[g]?=w.heap[g]?)(h:w.heap[g]?=some (.cells #[v] t)):w'.heap[g]?=some (.cells #[v] t):=by
 refine(hs g ?_).trans h;rintro rfl;obtain⟨es,G,D⟩:=D;rw[D]at h;cases h
theorem Ok{B g1 g2:Nat}{w W:World}{a0 R Q b0 b1:Value}(hb:Below B w W)(h1:W.heap[g1]?=some (.cells #[a0,R,Q] 50))(h2:W.heap[g2]?=some (.cells #[b0,b1] 29))(I:B≤g1)(J:B≤g2)(hne:g1≠g2)(v0 D G e l:Value) :
  Below B w (((((W.setCell ⟨g1,0,none⟩ v0).setCell ⟨g1,1,none⟩ D).setCell ⟨g1,2,none⟩ G).setCell ⟨g2,0,none⟩ e).setCell ⟨g2,1,none⟩ l)∧(((((W.setCell ⟨g1,0,none⟩ v0).setCell ⟨g1,1,none⟩ D).setCell ⟨g1,2,none⟩ G).setCell ⟨g2,0,none⟩ e).setCell ⟨g2,1,none⟩ l).heap[g1]?=some (.cells #[v0,D,G] 50)∧(((((W.setCell ⟨g1,0,none⟩ v0).setCell ⟨g1,1,none⟩ D).setCell ⟨g1,2,none⟩ G).setCell ⟨g2,0,none⟩ e).setCell ⟨g2,1,none⟩ l).heap[g2]?=some (.cells #[e,l] 29)∧∀g,g≠g1→g≠g2→(((((W.setCell ⟨g1,0,none⟩ v0).setCell ⟨g1,1,none⟩ D).setCell ⟨g1,2,none⟩ G).setCell ⟨g2,0,none⟩ e).setCell ⟨g2,1,none⟩ l).heap[g]?=W.heap[g]?:=by
 have U:Below B w (((W.setCell ⟨g1,0,none⟩ v0).setCell ⟨g1,1,none⟩ D).setCell ⟨g1,2,none⟩ G):=((hb.setCell (p:=⟨g1,0,none⟩) I _).setCell (p:=⟨g1,1,none⟩) I _).setCell (p:=⟨g1,2,none⟩) I _;have S:(((W.setCell ⟨g1,0,none⟩ v0).setCell ⟨g1,1,none⟩ D).setCell ⟨g1,2,none⟩ G).heap[g1]?=some (.cells #[v0,D,G] 50):=by simp[World.setCell,Array.getElem?_modify,h1]
 have N:∀g,g≠g1→(((W.setCell ⟨g1,0,none⟩ v0).setCell ⟨g1,1,none⟩ D).setCell ⟨g1,2,none⟩ G).heap[g]?=W.heap[g]?:=fun g h=>by rw[qC _ _ _ _ h,qC _ _ _ _ h,qC _ _ _ _ h]
 have X:=(N g2 (Ne.symm hne)).trans h2;refine⟨Ax U J e l,?_,?_,fun g h3 h4=>?_⟩
 ·exact(Ar hne e l).trans S
 ·exact A3 X e l
 ·exact(Ar h4 e l).trans (N g h3)
theorem On(W:World):W.drew.heap=W.heap:=rfl
theorem Pu{B g1 g2:Nat}{w W:World}{a0 Q N b0 b1:Value}(hb:Below B w W)(h1:W.heap[g1]?=some (.cells #[a0,Q,N] 50))(h2:W.heap[g2]?=some (.cells #[b0,b1] 29))(J:B≤g1)(I:B≤g2)(hne:g1≠g2)(v0 D G e l:Value) :
  Below B w (((((W.setCell ⟨g1,0,none⟩ v0).setCell ⟨g1,1,none⟩ D).setCell ⟨g1,2,none⟩ G).setCell ⟨g2,0,none⟩ e).setCell ⟨g2,1,none⟩ l).drew∧(((((W.setCell ⟨g1,0,none⟩ v0).setCell ⟨g1,1,none⟩ D).setCell ⟨g1,2,none⟩ G).setCell ⟨g2,0,none⟩ e).setCell ⟨g2,1,none⟩ l).drew.heap[g1]?=some (.cells #[v0,D,G] 50)∧(((((W.setCell ⟨g1,0,none⟩ v0).setCell ⟨g1,1,none⟩ D).setCell ⟨g1,2,none⟩ G).setCell ⟨g2,0,none⟩ e).setCell ⟨g2,1,none⟩ l).drew.heap[g2]?=some (.cells #[e,l] 29):=by
 have q:=Ok hb h1 h2 J I hne v0 D G e l;rw[On];exact⟨q.1.drew,q.2.1,q.2.2.1⟩
theorem Co(a:Option Addr)(g:Nat):¬Cx.blkL a [] g:=fun D=>by
 rcases D with⟨h,_⟩|⟨x,h,_⟩<;>simp at h
def Vo(w:World)(res:Except P22.F P22.Def)(e:Ending)(w':World):Prop:=
 Below w.heap.size w w'∧∃(d:Ch) (D G:Int),e=.returned (.tuple #[d.val,fV D G])∧d.In w'∧(∀g,d.blk g→w.heap.size≤g)∧((res=.ok d.bare∧D=0∧G=0)∨(res=.error (D,G)∧D≠0∧d=Ch.zero))
attribute [local go_sem] F4
theorem Jb(k:Nat)(t:List UInt8)(ka:Option Addr)(kc:Nat)(ks:List (List UInt8))(da:Option Addr)(dc:Nat)(ds:List Nd)(l:Int)(w:World)(bC:(Nd.mk k t ka kc ks da dc ds l).In w)(bY:E6 (Nd.mk k t ka kc ks da dc ds l).bare) :
  Calls Tryz.prog 27 #[.agg #[.int .u8 k,.string ⟨t.toArray⟩,.slice ka ks.length kc,.slice da ds.length dc,.int .i64 l]] w (Vo w (P22.ofE (Nd.mk k t ka kc ks da dc ds l).bare)):=by
 obtain⟨H,hH⟩:∃H,w.heap.size=H:=⟨_,rfl⟩;obtain⟨W0,aT⟩:∃W0,((w.alloc (.cells #[.int .u8 k,.string ⟨t.toArray⟩,.slice ka ks.length kc,.slice da ds.length dc,.int .i64 l] 26)).alloc (.cells #[.string ⟨#[]⟩,.string ⟨#[]⟩,.slice none 0 0] 50)).alloc (.cells #[.int .i64 0,.int .i64 0] 29)=W0:=⟨_,rfl⟩;obtain⟨W1,aY⟩:∃W1,((W0.alloc (.cells #[.string ⟨#[]⟩] 9)).alloc (.cells #[.string ⟨#[]⟩] 9)).alloc (.cells #[.slice none 0 0] 48)=W1:=⟨_,rfl⟩;obtain⟨W2,aK⟩:∃W2,W1.alloc (.cells #[.func (.func 53) #[] #[.pointer (some ⟨H+1+1+1+1+1,0,none⟩)]] 89)=W2:=⟨_,rfl⟩;obtain⟨aU,aL,aJ⟩:=Cf [.cells #[.int .u8 k,.string ⟨t.toArray⟩,.slice ka ks.length kc,.slice da ds.length dc,.int .i64 l] 26,.cells #[.string ⟨#[]⟩,.string ⟨#[]⟩,.slice none 0 0] 50,.cells #[.int .i64 0,.int .i64 0] 29] w;rw[show ([.cells #[.int .u8 k,.string ⟨t.toArray⟩,.slice ka ks.length kc,.slice da ds.length dc,.int .i64 l] 26,.cells #[.string ⟨#[]⟩,.string ⟨#[]⟩,.slice none 0 0] 50,.cells #[.int .i64 0,.int .i64 0] 29]:List Obj).foldl World.alloc w=W0 from aT,hH]at aU aL aJ;obtain⟨aD,aH,aG⟩:=Cf [.cells #[.string ⟨#[]⟩] 9,.cells #[.string ⟨#[]⟩] 9,.cells #[.slice none 0 0] 48] W0;rw[show ([.cells #[.string ⟨#[]⟩] 9,.cells #[.string ⟨#[]⟩] 9,.cells #[.slice none 0 0] 48]:List Obj).foldl World.alloc W0=W1 from aY]at aD aH aG;replace aL:W0.heap.size=H+1+1+1:=aL;rw[aL]at aD aH aG;replace aH:W1.heap.size=H+1+1+1+1+1+1:=aH;have n0:W1.heap[H]?=some (.cells #[.int .u8 k,.string ⟨t.toArray⟩,.slice ka ks.length kc,.slice da ds.length dc,.int .i64 l] 26):=(aD.block H (by omega)).trans (aJ 0 _ rfl);have n1:W1.heap[H+1]?=some (.cells #[.string ⟨#[]⟩,.string ⟨#[]⟩,.slice none 0 0] 50):=(aD.block (H+1) (by omega)).trans (aJ 1 _ rfl);have n2:W1.heap[H+1+1]?=some (.cells #[.int .i64 0,.int .i64 0] 29):=(aD.block (H+1+1) (by omega)).trans (aJ 2 _ rfl);have i0:W1.heap[H+1+1+1]?=some (.cells #[.string ⟨#[]⟩] 9):=aG 0 _ rfl;have i1:W1.heap[H+1+1+1+1]?=some (.cells #[.string ⟨#[]⟩] 9):=aG 1 _ rfl;have i2:W1.heap[H+1+1+1+1+1]?=some (.cells #[.slice none 0 0] 48):=aG 2 _ rfl;have aZ:Below H w W1:=aU.trans (aD.mono (by omega));have aO:Below (H+1+1+1+1+1+1) W1 W2:=by rw[←aK];exact(qV _ W1).alloc (by omega) _
 have aW:W2.heap.size=H+1+1+1+1+1+1+1:=by rw[←aK];simp;omega
 have i6:W2.heap[H+1+1+1+1+1+1]?=some (.cells #[.func (.func 53) #[] #[.pointer (some ⟨H+1+1+1+1+1,0,none⟩)]] 89):=by rw[←aK,←aH];exact qB _ _
 have aQ:(Nd.mk k t ka kc ks da dc ds l).In W1:=bC.below (by rw[hH];exact aZ);have bD:=fun g X=>Nd.In.lt bC (r:=g) X;rw[hH]at bD
 have aM:∀bm c sg W',Below (H+1+1+1+1+1+1) W1 W'→H+1+1+1+1+1+1≤W'.heap.size→H+1+1+1+1+1+1≤c→H+1+1+1+1+1+1≤bm→bm<W'.heap.size→H+1+1+1+1+1+1≤sg→W'.heap[sg]?=some (.cells #[.string ⟨#[115,97,103,97]⟩,.string ⟨#[115,116,101,112,115]⟩] 9)→W'.heap[c]?=some (.cells #[.map (some bm)] 95)→W'.heap[c+1]?=some (.cells #[.slice (some ⟨sg,0,none⟩) 2 2] 23)→N6 (To (H+1+1+1)) (Ps (H+1+1+1)) bm (Du Ee) W'→Calls Tryz.prog 92 #[.agg #[.int .u8 k,.string ⟨t.toArray⟩,.slice ka ks.length kc,.slice da ds.length dc,.int .i64 l],.pointer (some ⟨c,0,none⟩),.pointer (some ⟨c+1,0,none⟩)] W' (Gm (To (H+1+1+1)) (Ps (H+1+1+1)) (fun g=>¬(Ps (H+1+1+1)) g) W' (P22.ofE (Nd.mk k t ka kc ks da dc ds l).bare)):=fun bm c sg W' h hz hc cQ aS cP bW q1 q2 hm=>by
  rw[Uh]at hm;unfold P22.ofE;have aW:=Af bW;refine Hu (To (H+1+1+1)) (Pk _) (Ps (H+1+1+1)) P22.defRd [[115,97,103,97],[115,116,101,112,115]] c (c+1) bm (some ⟨sg,0,none⟩) 2 k t ka kc ks da dc ds l ⟨[],[],[]⟩ (fun g=>¬(Ps (H+1+1+1)) g) W' ?_ bY (fun g X hm=>?_) (fun g X=>?_) q1 q2 ?_ (by simp) ?_ ?_ ?_ aS (fun g _ h=>?_) hm ?_
  ·exact aQ.keep (fun g X=>h.block g (by have:=bD g X;omega))
  ·have:=bD g X;have:=hm.1;omega
  ·have:=X.2;omega
  ·intro i x hx
   match i,hx with
   |0,hx=>cases hx;exact⟨sg,0,rfl,aW.1.1⟩
   |1,hx=>cases hx;exact⟨sg,0,rfl,aW.2.1⟩
  ·intro hm;have:=hm.2;omega
  ·intro hm;have:=hm.2;omega
  ·intro hm;have:=hm.2;omega
  ·intro hm;obtain⟨o,h⟩:=h;have:g=sg:=by injection h with h;injection h with h;exact h.symm
   have:=hm.2;omega
  ·exact⟨(h.block _ (by omega)).trans i0,(h.block _ (by omega)).trans i1,⟨[],none,0,rfl,(h.block _ (by omega)).trans i2,El.OwnC.nil _ _ _,fun g X=>(G4 g X).elim⟩,fun g h1 h2 h3=>h3 ⟨h1,h2⟩,hz⟩
 have cI:=@run_makeMap Tryz.prog;have cS:=Ca;have cG:=Ab aT;have cN:=Ab aY;have cD:=Ab aK;have cM:=Ab n0;have bX:=Ab n1;have cK:=Ab n2;have aI:=Ab aZ;have bQ:=Ab aO;have cL:=Ab i6;have bF:=Ab aM;have bO:=Dl;clear aT aU aD aJ aG aY aK n0 n1 n2 i0 i1 i2 i6 aQ aM aZ aO bC;go_enter Tryz.func27,Tryz.ntmps27
 go_upto_region 1 with fail
 try rw[hH]
 try rw[Aa cG]
 go_upto_region 3 with fail
 try rw[aL]
 try rw[Aa cN]
 go_upto_region 5 with fail
 try rw[aH]
 try rw[Aa cD]
 refine Cw bO (fun L a U=>∃(vF vM vV vS vK vN vE:Value) (vR:Nat→Value),a=⟨#[.agg #[.int .u8 k,.string ⟨t.toArray⟩,.slice ka ks.length kc,.slice da ds.length dc,.int .i64 l],.pointer (some ⟨H,0,none⟩),.pointer (some ⟨H+1,0,none⟩),.pointer (some ⟨H+1+1,0,none⟩),.pointer (some ⟨H+1+1+1,0,none⟩),.pointer (some ⟨H+1+1+1+1,0,none⟩),.pointer (some ⟨H+1+1+1+1+1,0,none⟩),.pointer (some ⟨H+1+1+1+1+1+1,0,none⟩),.func (.func 55) #[] #[.pointer (some ⟨H+1+1+1+1+1,0,none⟩),.pointer (some ⟨H+1+1+1+1+1+1,0,none⟩)],vF,.func (.func 53) #[] #[.pointer (some ⟨H+1+1+1+1+1,0,none⟩)],.func (.func 55) #[] #[.pointer (some ⟨H+1+1+1+1+1,0,none⟩),.pointer (some ⟨H+1+1+1+1+1+1,0,none⟩)],vM,(vR 0),(vR 1),(vR 2),vV,vS,vK,vN,vE,undef,undef,undef,undef,undef,undef,undef,undef,undef,undef],[]⟩∧Cl 3 1 L∧(L.getD 9 false=true→L.getD 8 false=true)∧(L.getD 11 false=false→G2 (To (H+1+1+1)) (Ps (H+1+1+1)) (H+1+1+1+1+1+1) Ee 1 W1 vS (.agg #[.int .u8 k,.string ⟨t.toArray⟩,.slice ka ks.length kc,.slice da ds.length dc,.int .i64 l]) L vM vV vK vN vR U∧(L.getD 8 false=true→∃g,vS=.slice (some ⟨g,0,none⟩) 2 2∧H+1+1+1+1+1+1≤g∧U.heap[g]?=some (.cells #[.string ⟨#[115,97,103,97]⟩,.string ⟨#[115,116,101,112,115]⟩] 9))∧U.heap[H+1+1+1+1+1+1]?=some (.cells #[.func (.func 53) #[] #[.pointer (some ⟨H+1+1+1+1+1,0,none⟩)]] 89))∧(L.getD 11 false=true→Eg (To (H+1+1+1)) (Ps (H+1+1+1)) (H+1+1+1+1+1+1) 3 1 W1 (P22.ofE (Nd.mk k t ka kc ks da dc ds l).bare) L vF vE U)∧Mo 3 1 (H+1+1+1+1+1+1) L vF vE U) (by kernel_rfl) ?_ ?_ ?_
 ·exact⟨undef,undef,undef,undef,undef,undef,undef,fun _=>undef,rfl,Cl.start 3 1,fun h=>absurd h (by decide),fun _=>⟨⟨(Aa bQ).drew,by show _≤W2.heap.size;omega,fun h=>absurd h (by decide),fun i q hq h=>by
   match i,hq with
   |0,_=>exact absurd h (by decide)
   |1,_=>exact absurd h (by decide)
   |2,_=>exact absurd h (by decide)
   | n+3,hq=>simp[Ee]at hq,fun h=>absurd h (by decide),fun h=>absurd h (by decide),fun h=>absurd h (by decide)⟩,fun h=>absurd h (by decide),Aa cL⟩,fun h=>absurd h (by decide),fun h=>absurd h (by decide)⟩
 ·rintro L a' U i o ⟨vF,vM,vV,vS,vK,vN,vE,vR,rfl,Q,S,I,aA,hA⟩ ho hi G
  match i,ho with
  |0,ho=>
   cases ho;refine Ak rfl rfl ?_;have D:L.getD 11 false=false:=Q.not (n:=3) (d:=1) hi (.inl rfl);obtain⟨hp,J,N⟩:=I D;refine qS (K:=fun Y Z=>Y=⟨#[.agg #[.int .u8 k,.string ⟨t.toArray⟩,.slice ka ks.length kc,.slice da ds.length dc,.int .i64 l],.pointer (some ⟨H,0,none⟩),.pointer (some ⟨H+1,0,none⟩),.pointer (some ⟨H+1+1,0,none⟩),.pointer (some ⟨H+1+1+1,0,none⟩),.pointer (some ⟨H+1+1+1+1,0,none⟩),.pointer (some ⟨H+1+1+1+1+1,0,none⟩),.pointer (some ⟨H+1+1+1+1+1+1,0,none⟩),.func (.func 55) #[] #[.pointer (some ⟨H+1+1+1+1+1,0,none⟩),.pointer (some ⟨H+1+1+1+1+1+1,0,none⟩)],vF,.func (.func 53) #[] #[.pointer (some ⟨H+1+1+1+1+1,0,none⟩)],.func (.func 55) #[] #[.pointer (some ⟨H+1+1+1+1+1,0,none⟩),.pointer (some ⟨H+1+1+1+1+1+1,0,none⟩)],(.map (some U.heap.size)),(vR 0),(vR 1),(vR 2),vV,vS,vK,vN,vE,undef,undef,undef,undef,undef,undef,undef,undef,undef,undef],[]⟩∧Z=U.alloc (.map #[] 0)) (fun Y Z he=>?_) (by simp[Oper.wp,go_sem,cI]);obtain⟨rfl,rfl⟩:=he;exact⟨vF,_,vV,vS,vK,vN,vE,vR,rfl,Q.set hi (fun i hi h=>by omega) (by omega) (by omega) (by omega) (by omega),(fun h=>by rw[Ae (by omega)]at h ⊢;exact S h),fun _=>⟨hp.make Fb Q hi,(fun h=>Ba (J (by rwa [Ae (by omega)]at h)) (Aw ((qV _ U).alloc (qJ _) _))),(Ej ((qV _ U).alloc (qJ _) _) N)⟩,fun h=>(Cs D (by decide) h).elim,hA.keep (Ae (by omega)) (Ae (by omega)) (fun _=>rfl) (Aw ((qV _ U).alloc (qJ _) _))⟩
  |1,ho=>
   cases ho;refine Ak rfl rfl ?_;have D:L.getD 11 false=false:=Q.not (n:=3) (d:=1) hi (.inr (.inl ⟨0,by omega,.inl rfl⟩));obtain⟨hp,J,N⟩:=I D;have aC:=enters_of Tryz.func58 (by kernel_rfl) rfl;refine Bt (f:=58) (args:=#[.pointer (some ⟨H+1+1+1,0,none⟩),.int .i64 64]) (by simp[execOp,go_sem,aC]) (D2 (H+1+1+1) 64 U) ?_;rintro e2 Z ⟨c2,rfl,bN,q1,q2,R⟩;have bH:=hp.size;exact⟨_,rfl,vF,vM,vV,vS,vK,vN,vE,_,rfl,Q.set hi (fun i hi h=>by omega) (by omega) (by omega) (by omega) (by omega),(fun h=>by rw[Ae (by omega)]at h ⊢;exact S h),fun _=>⟨hp.call (i:=0) Fb rfl hi R (Ux (b:=H+1+1+1) (by omega) q1 q2),(fun h=>Ba (J (by rwa [Ae (by omega)]at h)) (Aw R)),(Ej R N)⟩,fun h=>(Cs D (by decide) h).elim,hA.keep (Ae (by omega)) (Ae (by omega)) (fun _=>rfl) (Aw R)⟩
  |2,ho=>
   cases ho;refine Ak rfl rfl ?_;have D:L.getD 11 false=false:=Q.not (n:=3) (d:=1) hi (.inr (.inl ⟨0,by omega,.inr rfl⟩));obtain⟨hp,J,N⟩:=I D;have d0:=G ⟨0,.data⟩ (by simp) rfl;have d1:=G ⟨1,.data⟩ (by simp) rfl;obtain⟨bm,Z,rfl,r1,aE,r2,r3,r4⟩:=hp.put (i:=0) Fb Le Q rfl hi d0 d1;dsimp only at r1;refine qS (K:=fun Y w3=>Y=⟨#[.agg #[.int .u8 k,.string ⟨t.toArray⟩,.slice ka ks.length kc,.slice da ds.length dc,.int .i64 l],.pointer (some ⟨H,0,none⟩),.pointer (some ⟨H+1,0,none⟩),.pointer (some ⟨H+1+1,0,none⟩),.pointer (some ⟨H+1+1+1,0,none⟩),.pointer (some ⟨H+1+1+1+1,0,none⟩),.pointer (some ⟨H+1+1+1+1+1,0,none⟩),.pointer (some ⟨H+1+1+1+1+1+1,0,none⟩),.func (.func 55) #[] #[.pointer (some ⟨H+1+1+1+1+1,0,none⟩),.pointer (some ⟨H+1+1+1+1+1+1,0,none⟩)],vF,.func (.func 53) #[] #[.pointer (some ⟨H+1+1+1+1+1,0,none⟩)],.func (.func 55) #[] #[.pointer (some ⟨H+1+1+1+1+1,0,none⟩),.pointer (some ⟨H+1+1+1+1+1+1,0,none⟩)],(.map (some bm)),(vR 0),(vR 1),(vR 2),vV,vS,vK,vN,vE,undef,undef,undef,undef,undef,undef,undef,undef,undef,undef],[]⟩∧w3=Z) (fun Y w3 he=>?_) (by simp[Oper.wp,go_sem,r1]);obtain⟨rfl,rfl⟩:=he;exact⟨vF,_,vV,vS,vK,vN,vE,vR,rfl,Q.set hi (fun i hi h=>by have e:i=0:=(by omega);subst e;exact⟨d0,d1⟩) (by omega) (by omega) (by omega) (by omega),(fun h=>by rw[Ae (by omega)]at h ⊢;exact S h),fun _=>⟨aE,(fun h=>Ba (J (by rwa [Ae (by omega)]at h)) (Bw r4 r2)),(Ku r4 r2 N)⟩,fun h=>(Cs D (by decide) h).elim,hA.keep (Ae (by omega)) (Ae (by omega)) (fun _=>rfl) (Bw r4 r2)⟩
  |3,ho=>
   cases ho;refine Ak rfl rfl ?_;have D:L.getD 11 false=false:=Q.not (n:=3) (d:=1) hi (.inr (.inl ⟨1,by omega,.inl rfl⟩));obtain⟨hp,J,N⟩:=I D;have aC:=enters_of Tryz.func58 (by kernel_rfl) rfl;refine Bt (f:=58) (args:=#[.pointer (some ⟨H+1+1+1+1,0,none⟩),.int .i64 4096]) (by simp[execOp,go_sem,aC]) (D2 (H+1+1+1+1) 4096 U) ?_;rintro e2 Z ⟨c2,rfl,bN,q1,q2,R⟩;have bH:=hp.size;exact⟨_,rfl,vF,vM,vV,vS,vK,vN,vE,_,rfl,Q.set hi (fun i hi h=>by omega) (by omega) (by omega) (by omega) (by omega),(fun h=>by rw[Ae (by omega)]at h ⊢;exact S h),fun _=>⟨hp.call (i:=1) Fb rfl hi R (Uj (b:=H+1+1+1) (by omega) q1 q2),(fun h=>Ba (J (by rwa [Ae (by omega)]at h)) (Aw R)),(Ej R N)⟩,fun h=>(Cs D (by decide) h).elim,hA.keep (Ae (by omega)) (Ae (by omega)) (fun _=>rfl) (Aw R)⟩
  |4,ho=>
   cases ho;refine Ak rfl rfl ?_;have D:L.getD 11 false=false:=Q.not (n:=3) (d:=1) hi (.inr (.inl ⟨1,by omega,.inr rfl⟩));obtain⟨hp,J,N⟩:=I D;have d0:=G ⟨0,.data⟩ (by simp) rfl;have d1:=G ⟨3,.data⟩ (by simp) rfl;obtain⟨bm,Z,rfl,r1,aE,r2,r3,r4⟩:=hp.put (i:=1) Fb Le Q rfl hi d0 d1;dsimp only at r1;refine qS (K:=fun Y w3=>Y=⟨#[.agg #[.int .u8 k,.string ⟨t.toArray⟩,.slice ka ks.length kc,.slice da ds.length dc,.int .i64 l],.pointer (some ⟨H,0,none⟩),.pointer (some ⟨H+1,0,none⟩),.pointer (some ⟨H+1+1,0,none⟩),.pointer (some ⟨H+1+1+1,0,none⟩),.pointer (some ⟨H+1+1+1+1,0,none⟩),.pointer (some ⟨H+1+1+1+1+1,0,none⟩),.pointer (some ⟨H+1+1+1+1+1+1,0,none⟩),.func (.func 55) #[] #[.pointer (some ⟨H+1+1+1+1+1,0,none⟩),.pointer (some ⟨H+1+1+1+1+1+1,0,none⟩)],vF,.func (.func 53) #[] #[.pointer (some ⟨H+1+1+1+1+1,0,none⟩)],.func (.func 55) #[] #[.pointer (some ⟨H+1+1+1+1+1,0,none⟩),.pointer (some ⟨H+1+1+1+1+1+1,0,none⟩)],(.map (some bm)),(vR 0),(vR 1),(vR 2),vV,vS,vK,vN,vE,undef,undef,undef,undef,undef,undef,undef,undef,undef,undef],[]⟩∧w3=Z) (fun Y w3 he=>?_) (by simp[Oper.wp,go_sem,r1]);obtain⟨rfl,rfl⟩:=he;exact⟨vF,_,vV,vS,vK,vN,vE,vR,rfl,Q.set hi (fun i hi h=>by have e:i=1:=(by omega);subst e;exact⟨d0,d1⟩) (by omega) (by omega) (by omega) (by omega),(fun h=>by rw[Ae (by omega)]at h ⊢;exact S h),fun _=>⟨aE,(fun h=>Ba (J (by rwa [Ae (by omega)]at h)) (Bw r4 r2)),(Ku r4 r2 N)⟩,fun h=>(Cs D (by decide) h).elim,hA.keep (Ae (by omega)) (Ae (by omega)) (fun _=>rfl) (Bw r4 r2)⟩
  |5,ho=>
   cases ho;refine Ak rfl rfl ?_;have D:L.getD 11 false=false:=Q.not (n:=3) (d:=1) hi (.inr (.inl ⟨2,by omega,.inl rfl⟩));obtain⟨hp,J,N⟩:=I D;refine qS (K:=fun Y Z=>Y=⟨#[.agg #[.int .u8 k,.string ⟨t.toArray⟩,.slice ka ks.length kc,.slice da ds.length dc,.int .i64 l],.pointer (some ⟨H,0,none⟩),.pointer (some ⟨H+1,0,none⟩),.pointer (some ⟨H+1+1,0,none⟩),.pointer (some ⟨H+1+1+1,0,none⟩),.pointer (some ⟨H+1+1+1+1,0,none⟩),.pointer (some ⟨H+1+1+1+1+1,0,none⟩),.pointer (some ⟨H+1+1+1+1+1+1,0,none⟩),.func (.func 55) #[] #[.pointer (some ⟨H+1+1+1+1+1,0,none⟩),.pointer (some ⟨H+1+1+1+1+1+1,0,none⟩)],vF,.func (.func 53) #[] #[.pointer (some ⟨H+1+1+1+1+1,0,none⟩)],.func (.func 55) #[] #[.pointer (some ⟨H+1+1+1+1+1,0,none⟩),.pointer (some ⟨H+1+1+1+1+1+1,0,none⟩)],vM,(vR 0),(vR 1),(.func (.func 55) #[] #[.pointer (some ⟨H+1+1+1+1+1,0,none⟩),.pointer (some ⟨H+1+1+1+1+1+1,0,none⟩)]),vV,vS,vK,vN,vE,undef,undef,undef,undef,undef,undef,undef,undef,undef,undef],[]⟩∧Z=U) (fun Y Z he=>?_) (by simp[Oper.wp,go_sem]);obtain⟨rfl,rfl⟩:=he;have bH:=hp.size;exact⟨vF,vM,vV,vS,vK,vN,vE,(fun j=>if j=2 then .func (.func 55) #[] #[.pointer (some ⟨H+1+1+1+1+1,0,none⟩),.pointer (some ⟨H+1+1+1+1+1+1,0,none⟩)] else vR j),rfl,Q.set hi (fun i hi h=>by omega) (by omega) (by omega) (by omega) (by omega),(fun h=>by rw[Ae (by omega)]at h ⊢;exact S h),fun _=>⟨hp.call (i:=2) Fb rfl hi (qV _ _) (Uk (b:=H+1+1+1) (by omega) N),(fun h=>Ba (J (by rwa [Ae (by omega)]at h)) (fun g x y t _ X=>X)),N⟩,fun h=>(Cs D (by decide) h).elim,hA.keep (Ae (by omega)) (Ae (by omega)) (fun _=>rfl) (fun g x y t _ X=>X)⟩
  |6,ho=>
   cases ho;refine Ak rfl rfl ?_;have D:L.getD 11 false=false:=Q.not (n:=3) (d:=1) hi (.inr (.inl ⟨2,by omega,.inr rfl⟩));obtain⟨hp,J,N⟩:=I D;have d0:=G ⟨0,.data⟩ (by simp) rfl;have d1:=G ⟨5,.data⟩ (by simp) rfl;obtain⟨bm,Z,rfl,r1,aE,r2,r3,r4⟩:=hp.put (i:=2) Fb Le Q rfl hi d0 d1;dsimp only at r1;refine qS (K:=fun Y w3=>Y=⟨#[.agg #[.int .u8 k,.string ⟨t.toArray⟩,.slice ka ks.length kc,.slice da ds.length dc,.int .i64 l],.pointer (some ⟨H,0,none⟩),.pointer (some ⟨H+1,0,none⟩),.pointer (some ⟨H+1+1,0,none⟩),.pointer (some ⟨H+1+1+1,0,none⟩),.pointer (some ⟨H+1+1+1+1,0,none⟩),.pointer (some ⟨H+1+1+1+1+1,0,none⟩),.pointer (some ⟨H+1+1+1+1+1+1,0,none⟩),.func (.func 55) #[] #[.pointer (some ⟨H+1+1+1+1+1,0,none⟩),.pointer (some ⟨H+1+1+1+1+1+1,0,none⟩)],vF,.func (.func 53) #[] #[.pointer (some ⟨H+1+1+1+1+1,0,none⟩)],.func (.func 55) #[] #[.pointer (some ⟨H+1+1+1+1+1,0,none⟩),.pointer (some ⟨H+1+1+1+1+1+1,0,none⟩)],(.map (some bm)),(vR 0),(vR 1),(vR 2),vV,vS,vK,vN,vE,undef,undef,undef,undef,undef,undef,undef,undef,undef,undef],[]⟩∧w3=Z) (fun Y w3 he=>?_) (by simp[Oper.wp,go_sem,r1]);obtain⟨rfl,rfl⟩:=he;exact⟨vF,_,vV,vS,vK,vN,vE,vR,rfl,Q.set hi (fun i hi h=>by have e:i=2:=(by omega);subst e;exact⟨d0,d1⟩) (by omega) (by omega) (by omega) (by omega),(fun h=>by rw[Ae (by omega)]at h ⊢;exact S h),fun _=>⟨aE,(fun h=>Ba (J (by rwa [Ae (by omega)]at h)) (Bw r4 r2)),(Ku r4 r2 N)⟩,fun h=>(Cs D (by decide) h).elim,hA.keep (Ae (by omega)) (Ae (by omega)) (fun _=>rfl) (Bw r4 r2)⟩
  |7,ho=>
   cases ho;refine Ak rfl rfl ?_;have D:L.getD 11 false=false:=Q.not (n:=3) (d:=1) hi (.inr (.inr (.inl rfl)));obtain⟨hp,J,N⟩:=I D;refine qS (K:=fun Y Z=>Y=⟨#[.agg #[.int .u8 k,.string ⟨t.toArray⟩,.slice ka ks.length kc,.slice da ds.length dc,.int .i64 l],.pointer (some ⟨H,0,none⟩),.pointer (some ⟨H+1,0,none⟩),.pointer (some ⟨H+1+1,0,none⟩),.pointer (some ⟨H+1+1+1,0,none⟩),.pointer (some ⟨H+1+1+1+1,0,none⟩),.pointer (some ⟨H+1+1+1+1+1,0,none⟩),.pointer (some ⟨H+1+1+1+1+1+1,0,none⟩),.func (.func 55) #[] #[.pointer (some ⟨H+1+1+1+1+1,0,none⟩),.pointer (some ⟨H+1+1+1+1+1+1,0,none⟩)],vF,.func (.func 53) #[] #[.pointer (some ⟨H+1+1+1+1+1,0,none⟩)],.func (.func 55) #[] #[.pointer (some ⟨H+1+1+1+1+1,0,none⟩),.pointer (some ⟨H+1+1+1+1+1+1,0,none⟩)],vM,(vR 0),(vR 1),(vR 2),vM,vS,vK,vN,vE,undef,undef,undef,undef,undef,undef,undef,undef,undef,undef],[]⟩∧Z=U) (fun Y Z he=>?_) (by simp[Oper.wp,go_sem]);obtain⟨rfl,rfl⟩:=he
   exact⟨vF,vM,_,vS,vK,vN,vE,vR,rfl,Q.set hi (fun i hi h=>by omega) (fun _=>⟨G ⟨0,.data⟩ (by simp) rfl,fun i hi=>by
    match i,hi with
    |0,_=>exact⟨G ⟨1,.data⟩ (by simp) rfl,G ⟨2,.data⟩ (by simp) rfl⟩
    |1,_=>exact⟨G ⟨3,.data⟩ (by simp) rfl,G ⟨4,.data⟩ (by simp) rfl⟩
    | 2,_=>exact⟨G ⟨5,.data⟩ (by simp) rfl,G ⟨6,.data⟩ (by simp) rfl⟩⟩) (by omega) (by omega) (by omega),(fun h=>by rw[Ae (by omega)]at h ⊢;exact S h),fun _=>⟨hp.move Fb Q hi,(fun h=>Ba (J (by rwa [Ae (by omega)]at h)) (fun g x y t _ X=>X)),N⟩,fun h=>(Cs D (by decide) h).elim,hA.keep (Ae (by omega)) (Ae (by omega)) (fun _=>rfl) (fun g x y t _ X=>X)⟩
  |8,ho=>
   cases ho;refine Ak rfl rfl ?_;have f16:=(A4 hi).2
   have bA:L.getD 9 false=false:=by
    cases hq:L.getD 9 false with
    |false=>rfl
    |true=>rw[S hq]at f16;cases f16
   have D:L.getD 11 false=false:=by
    cases hq:L.getD 11 false with
    |false=>rfl
    |true=>(have:=(Q.ca hq).1;rw[show L.getD 9 false=true from this]at bA;cases bA)
   obtain⟨hp,J,N⟩:=I D;have R:Below U.heap.size U (U.alloc (.cells #[.string ⟨#[115,97,103,97]⟩,.string ⟨#[115,116,101,112,115]⟩] 9)):=(qV _ U).alloc (qJ _) _;refine qS (K:=fun Y Z=>Y=⟨#[.agg #[.int .u8 k,.string ⟨t.toArray⟩,.slice ka ks.length kc,.slice da ds.length dc,.int .i64 l],.pointer (some ⟨H,0,none⟩),.pointer (some ⟨H+1,0,none⟩),.pointer (some ⟨H+1+1,0,none⟩),.pointer (some ⟨H+1+1+1,0,none⟩),.pointer (some ⟨H+1+1+1+1,0,none⟩),.pointer (some ⟨H+1+1+1+1+1,0,none⟩),.pointer (some ⟨H+1+1+1+1+1+1,0,none⟩),.func (.func 55) #[] #[.pointer (some ⟨H+1+1+1+1+1,0,none⟩),.pointer (some ⟨H+1+1+1+1+1+1,0,none⟩)],vF,.func (.func 53) #[] #[.pointer (some ⟨H+1+1+1+1+1,0,none⟩)],.func (.func 55) #[] #[.pointer (some ⟨H+1+1+1+1+1,0,none⟩),.pointer (some ⟨H+1+1+1+1+1+1,0,none⟩)],vM,(vR 0),(vR 1),(vR 2),vV,(.slice (some ⟨U.heap.size,0,none⟩) 2 2),vK,vN,vE,undef,undef,undef,undef,undef,undef,undef,undef,undef,undef],[]⟩∧Z=U.alloc (.cells #[.string ⟨#[115,97,103,97]⟩,.string ⟨#[115,116,101,112,115]⟩] 9)) (fun Y Z he=>?_) (by simp[Oper.wp,go_sem]);obtain⟨rfl,rfl⟩:=he;have aN:=hp.size;exact⟨vF,vM,vV,_,vK,vN,vE,vR,rfl,Q.set hi (fun i hi h=>by omega) (by omega) (by omega) (by omega) (by omega),fun _=>Bm hi,fun _=>⟨(hp.grow Fb R (Ae (by omega)) (fun i hi=>⟨Ae (by simp[Ee]at hi;omega),Ae (by simp[Ee]at hi;omega)⟩) (Ae (by decide)) (Ae (by decide)) (Ae (by decide))).sl _ ((Ae (by decide)).trans bA),fun _=>⟨U.heap.size,rfl,aN,qB _ _⟩,Ej R N⟩,fun h=>(Cs D (by decide) h).elim,hA.keep (Ae (by omega)) (Ae (by omega)) (fun _=>rfl) (Aw R)⟩
  |9,ho=>
   cases ho;refine Ak rfl rfl ?_;have D:L.getD 11 false=false:=Q.not (n:=3) (d:=1) hi (.inr (.inr (.inr (.inl rfl))));obtain⟨hp,J,N⟩:=I D;have d7:=G ⟨7,.data⟩ (by simp) rfl;have bM:=G ⟨8,.data⟩ (by simp) rfl;have cB:=hp.mv d7;obtain⟨bm,rfl,_,_⟩:=hp.map (Q.mv d7).1;subst cB;obtain⟨sg,rfl,sB,sC⟩:=J bM;have aC:=enters_of Tryz.func57 (by kernel_rfl) rfl;refine Bt (f:=57) (args:=#[.map (some bm),.slice (some ⟨sg,0,none⟩) 2 2]) (by simp[execOp,go_sem,aC]) (Gt bm (some ⟨sg,0,none⟩) 2 2 U) ?_;rintro e2 Z ⟨c2,rfl,bN,q1,q2,R⟩;exact⟨_,rfl,vF,_,_,_,_,vN,vE,vR,rfl,Q.set hi (fun i hi h=>by omega) (by omega) (fun _=>d7) (by omega) (by omega),fun _=>by rw[Ae (by omega)];exact bM,fun _=>⟨hp.keys Fb R (by omega) q1 q2,(fun h=>Ba (J (by rwa [Ae (by omega)]at h)) (Aw R)),(Ej R N)⟩,fun h=>(Cs D (by decide) h).elim,hA.keep (Ae (by omega)) (Ae (by omega)) (fun _=>rfl) (Aw R)⟩
  |10,ho=>
   cases ho;refine Ak rfl rfl ?_;have D:L.getD 11 false=false:=Q.not (n:=3) (d:=1) hi (.inr (.inr (.inr (.inr rfl))));obtain⟨hp,J,N⟩:=I D;have y0:=Ad ((hp.below.block H (by omega)).trans (Aa cM));refine qS (K:=fun Y Z=>Y=⟨#[.agg #[.int .u8 k,.string ⟨t.toArray⟩,.slice ka ks.length kc,.slice da ds.length dc,.int .i64 l],.pointer (some ⟨H,0,none⟩),.pointer (some ⟨H+1,0,none⟩),.pointer (some ⟨H+1+1,0,none⟩),.pointer (some ⟨H+1+1+1,0,none⟩),.pointer (some ⟨H+1+1+1+1,0,none⟩),.pointer (some ⟨H+1+1+1+1+1,0,none⟩),.pointer (some ⟨H+1+1+1+1+1+1,0,none⟩),.func (.func 55) #[] #[.pointer (some ⟨H+1+1+1+1+1,0,none⟩),.pointer (some ⟨H+1+1+1+1+1+1,0,none⟩)],vF,.func (.func 53) #[] #[.pointer (some ⟨H+1+1+1+1+1,0,none⟩)],.func (.func 55) #[] #[.pointer (some ⟨H+1+1+1+1+1,0,none⟩),.pointer (some ⟨H+1+1+1+1+1+1,0,none⟩)],vM,(vR 0),(vR 1),(vR 2),vV,vS,vK,(.agg #[.int .u8 k,.string ⟨t.toArray⟩,.slice ka ks.length kc,.slice da ds.length dc,.int .i64 l]),vE,undef,undef,undef,undef,undef,undef,undef,undef,undef,undef],[]⟩∧Z=U) (fun Y Z he=>?_) (by simp[Oper.wp,go_sem,y0]);obtain⟨rfl,rfl⟩:=he;exact⟨vF,vM,vV,vS,vK,_,vE,vR,rfl,Q.set hi (fun i hi h=>by omega) (by omega) (by omega) (by omega) (by omega),(fun h=>by rw[Ae (by omega)]at h ⊢;exact S h),fun _=>⟨hp.load Fb,(fun h=>Ba (J (by rwa [Ae (by omega)]at h)) (fun g x y t _ X=>X)),N⟩,fun h=>(Cs D (by decide) h).elim,hA.keep (Ae (by omega)) (Ae (by omega)) (fun _=>rfl) (fun g x y t _ X=>X)⟩
  |11,ho=>
   cases ho;refine Ak rfl rfl ?_;have D:L.getD 11 false=false:=(A4 hi).2;obtain⟨hp,J,N⟩:=I D;have d8:=G ⟨9,.data⟩ (by simp) rfl;have d9:=G ⟨10,.data⟩ (by simp) rfl;obtain⟨sg,rfl,sB,sC⟩:=J (S d8);obtain⟨bm,c,rfl,rfl,bS,cH,aS,q1,q2,bZ⟩:=hp.ready Fb Q (Nf (H+1+1+1)) d8 d9;have aC:=enters_of Tryz.func92 (by kernel_rfl) rfl;refine Bt (f:=92) (args:=#[.agg #[.int .u8 k,.string ⟨t.toArray⟩,.slice ka ks.length kc,.slice da ds.length dc,.int .i64 l],.pointer (some ⟨c,0,none⟩),.pointer (some ⟨c+1,0,none⟩)]) (by simp[execOp,go_sem,aC]) (Aa bF bm c sg U hp.below hp.size bS cH aS sB sC q1 q2 bZ) ?_;rintro e3 w3 bT;have aN:=hp.size;obtain⟨v,rfl,cJ,bV⟩:=Eg.read (n:=3) (d:=1) (Pk (H+1+1+1)) hp.below (by omega) hp.size (Nf (H+1+1+1)) (fun g X=>X) bT Q hA hi (fun g h1 h2=>by omega);exact⟨v,rfl,vF,vM,vV,_,_,_,v,vR,rfl,Q.set hi (fun i hi h=>by omega) (by omega) (by omega) (fun _=>⟨d8,d9⟩) (by omega),(fun h=>by rw[Ae (by omega)]at h ⊢;exact S h),fun h=>by(have h2:=(E3 hi).2 (.inl rfl) ;rw[h2]at h;cases h),fun _=>cJ,bV⟩
  |12,ho=>
   cases ho;refine Ak rfl rfl ?_;refine qS (K:=fun Y Z=>Y=⟨#[.agg #[.int .u8 k,.string ⟨t.toArray⟩,.slice ka ks.length kc,.slice da ds.length dc,.int .i64 l],.pointer (some ⟨H,0,none⟩),.pointer (some ⟨H+1,0,none⟩),.pointer (some ⟨H+1+1,0,none⟩),.pointer (some ⟨H+1+1+1,0,none⟩),.pointer (some ⟨H+1+1+1+1,0,none⟩),.pointer (some ⟨H+1+1+1+1+1,0,none⟩),.pointer (some ⟨H+1+1+1+1+1+1,0,none⟩),.func (.func 55) #[] #[.pointer (some ⟨H+1+1+1+1+1,0,none⟩),.pointer (some ⟨H+1+1+1+1+1+1,0,none⟩)],(.pointer (some ⟨U.heap.size,0,none⟩)),.func (.func 53) #[] #[.pointer (some ⟨H+1+1+1+1+1,0,none⟩)],.func (.func 55) #[] #[.pointer (some ⟨H+1+1+1+1+1,0,none⟩),.pointer (some ⟨H+1+1+1+1+1+1,0,none⟩)],vM,(vR 0),(vR 1),(vR 2),vV,vS,vK,vN,vE,undef,undef,undef,undef,undef,undef,undef,undef,undef,undef],[]⟩∧Z=U.alloc (.cells #[.int .i64 0,.int .i64 0] 29)) (fun Y Z he=>?_) (by simp[Oper.wp,go_sem]);obtain⟨rfl,rfl⟩:=he
   have aN:H+1+1+1+1+1+1≤U.heap.size:=by
    cases hq:L.getD 11 false with
    |false=>exact(I hq).1.size
    |true=>exact(aA hq).2.1
   exact⟨_,vM,vV,vS,vK,vN,vE,vR,rfl,Q.set hi (fun i hi h=>by omega) (by omega) (by omega) (by omega) (by omega),(fun h=>by rw[Ae (by omega)]at h ⊢;exact S h),fun h=>⟨(I (by rwa [Ae (by omega)]at h)).1.grow Fb ((qV _ U).alloc (qJ _) _) (Ae (by omega)) (fun i hi=>⟨Ae (by simp[Ee]at hi;omega),Ae (by simp[Ee]at hi;omega)⟩) (Ae (by decide)) (Ae (by decide)) (Ae (by decide)),fun h2=>Ba ((I (by rwa [Ae (by omega)]at h)).2.1 (by rwa [Ae (by omega)]at h2)) (Aw ((qV _ U).alloc (qJ _) _)),Ej ((qV _ U).alloc (qJ _) _) (I (by rwa [Ae (by omega)]at h)).2.2⟩,fun h=>(aA (by rwa [Ae (by omega)]at h)).alloc (Pk _) hi _,Mo.made Q aN hi vE _ _⟩
  |13,ho=>
   cases ho;refine Ak rfl rfl ?_;have bE:=G ⟨11,.data⟩ (by simp) rfl;have bI:=G ⟨12,.data⟩ (by simp) rfl;obtain⟨fb,x,y,ec,el,rfl,rfl,e3,aE,cE⟩:=(aA bE).store (Pk _) hA hi bI (Nf (H+1+1+1)) (by omega);have z0:=Af e3;refine qS (K:=fun Y Z=>Y=⟨#[.agg #[.int .u8 k,.string ⟨t.toArray⟩,.slice ka ks.length kc,.slice da ds.length dc,.int .i64 l],.pointer (some ⟨H,0,none⟩),.pointer (some ⟨H+1,0,none⟩),.pointer (some ⟨H+1+1,0,none⟩),.pointer (some ⟨H+1+1+1,0,none⟩),.pointer (some ⟨H+1+1+1+1,0,none⟩),.pointer (some ⟨H+1+1+1+1+1,0,none⟩),.pointer (some ⟨H+1+1+1+1+1+1,0,none⟩),.func (.func 55) #[] #[.pointer (some ⟨H+1+1+1+1+1,0,none⟩),.pointer (some ⟨H+1+1+1+1+1+1,0,none⟩)],(.pointer (some ⟨fb,0,none⟩)),.func (.func 53) #[] #[.pointer (some ⟨H+1+1+1+1+1,0,none⟩)],.func (.func 55) #[] #[.pointer (some ⟨H+1+1+1+1+1,0,none⟩),.pointer (some ⟨H+1+1+1+1+1+1,0,none⟩)],vM,(vR 0),(vR 1),(vR 2),vV,vS,vK,vN,(.agg #[.int .i64 ec,.int .i64 el]),undef,undef,undef,undef,undef,undef,undef,undef,undef,undef],[]⟩∧Z=(U.setCell ⟨fb,0,none⟩ (.int .i64 ec)).setCell ⟨fb,1,none⟩ (.int .i64 el)) (fun Y Z he=>?_) (by simp[Oper.wp,go_sem,z0]);obtain⟨rfl,rfl⟩:=he;exact⟨_,vM,vV,vS,vK,vN,_,vR,rfl,Q.set hi (fun i hi h=>by omega) (by omega) (by omega) (by omega) (fun _=>⟨bE,bI⟩),(fun h=>by rw[Ae (by omega)]at h ⊢;exact S h),fun h=>by(rw[Ae (by omega)]at h;rw[show L.getD 11 false=true from bE]at h;cases h),fun _=>aE,cE⟩
  |n+14,ho=>exact absurd ho (by simp)
 ·rintro L a' V ⟨vF,vM,vV,vS,vK,vN,vE,vR,rfl,Q,S,I,aA,hA⟩ aR
  have aB:∀i,i<14→L.getD i false=true:=fun i hi=>by
   have:=aR i;have hz:=Q.size;have cA:i<L.size:=by omega
   simp only[Array.getD,cA,dif_pos]at this ⊢;exact this
  obtain⟨fb,e,l',s,rfl,cO,e3,hk,hr,hI⟩:=(aA (aB 11 (by omega))).end hA (aB 12 (by omega)) (aB 13 (by omega));have m1:=(hk.same (H+1) (by omega) (fun q=>by have:=q.1;omega)).trans (Aa bX);have m2:=(hk.same (H+1+1) (by omega) (fun q=>by have:=q.1;omega)).trans (Aa cK);have bJ:Below H w V:=⟨hk.os.trans (Aa aI).os,hk.tape.trans (Aa aI).tape,hk.output.trans (Aa aI).output,qK (Aa aI).size hk.size,fun g X=>(hk.same g (by omega) (fun q=>by have:=q.1;omega)).trans ((Aa aI).block g X)⟩;have cR:=hk.size;obtain⟨ss,sa,sc,bL,c2,bR,bP⟩:=hI.b2;have c0:=hI.b0;have c1:=hI.b1;have z0:=Aq c0;have z1:=Aq c1;have z2:=Aq c2;have z3:=Af e3;have aX:=Ab m1;have bB:=Ab m2;have bK:=Ab bJ;have cC:=Ab bR;have cT:=Ab bP;have HR:=Ab hr;have cF:=Ab bL;clear I aA hA aR aB hI S Q hk c0 c1 c2 m1 m2 bJ bR bP hr bL e3;have y1:=D9 (Aa aX);have y2:=Af (Aa bB);have bO:=Dl;rcases Aa HR with⟨h1,rfl,rfl⟩|⟨h1,h2⟩
  ·have bG:=Ab h1;clear h1 HR;go_wp2;have HE:=Ok (B:=H) (g1:=H+1) (g2:=H+1+1) (w:=w) (Aa bK) (Aa aX) (Aa bB) (by omega) (by omega) (by omega) (.string ⟨s.name.toArray⟩) (.string ⟨s.text.toArray⟩) (.slice sa ss.length sc) (.int .i64 0) (.int .i64 0);obtain⟨a',c',e0,e1,e2,e3,e4⟩:=(Aa cC).slice;cases e0;refine qW (Al rfl _ _ _ (H+1) (H+1+1) _ _ rfl (Cq HE.2.1) rfl (Ai HE.2.2.1)) rfl ⟨by rw[hH];exact HE.1,⟨s.name,s.text,sa,sc,ss⟩,0,0,rfl,⟨e3.keep (fun g X=>HE.2.2.2 g (by have:=e4 g X;omega) (by have:=e4 g X;omega)),e1,e2⟩,fun g X=>by have:=e4 g X;omega,.inl ⟨?_,rfl,rfl⟩⟩;rw[Aa bG];unfold Ch.bare;dsimp only;rw[Aa cF]
  ·have bG:=Ab h1;have j1:(e != 0)=true:=by simpa using h2
   have bU:=Ab h2;clear h1 h2 HR;go_upto_region 7 with fail
   go_region_with_o (fail)
   all_goals go_wp2
   all_goals
    have HE:=Pu (B:=H) (g1:=H+1) (g2:=H+1+1) (w:=w) (Aa bK) (Aa aX) (Aa bB) (by omega) (by omega) (by omega) (.string ⟨#[]⟩) (.string ⟨#[]⟩) (.slice none 0 0) (.int .i64 e) (.int .i64 l');exact qW (Al rfl _ _ _ (H+1) (H+1+1) _ _ rfl (Cq HE.2.1) rfl (Ai HE.2.2)) rfl ⟨by rw[hH];exact HE.1,Ch.zero,e,l',rfl,Ch.zero_in _,fun g X=>(Co none g X).elim,.inr ⟨Aa bG,Aa bU,rfl⟩⟩
end Go.Proofs.YtnjokdbblmlhhaaGreatDoor
namespace Go.Proofs.YtnjokdbblmlhhaaGreatDoor
set_option maxHeartbeats 32000000
set_option maxRecDepth 100000
open Go.RowKit
def P22.defE:Except (Int × Int) P20.T→Except P22.F P22.Def
 | .ok d=>P22.ofE d
 | .error x=>.error x
theorem Kc(s:ByteArray)(o:Except (Int × Int) P20.T)(w:World)(hs:s.size≤1048576)(ho:P20.PaR s.data.toList o)(aD:∀d,o=.ok d→E6 d):Calls Tryz.prog 30 #[.string s] w (Vo w (P22.defE o)):=by
 obtain⟨H,hH⟩:∃H,w.heap.size=H:=⟨_,rfl⟩;obtain⟨W0,aA,aB,g0,g1,bE⟩:=A0 w (.cells #[.string ⟨#[]⟩,.string ⟨#[]⟩,.slice none 0 0] 50) (.cells #[.int .i64 0,.int .i64 0] 29) H hH;have R:=Mc s o W0 hs ho;have aK:=Ab aA;have aU:=Ab aB;have aQ:=Ab g0;have aJ:=Ab g1;cases o with
 |ok d=>
  have aW:=Ab (aD d rfl);have aI:=Ab R;clear R aD aA aB g0 g1 ho hs;go_enter Tryz.func30,Tryz.ntmps30
  go_upto_region 1 with fail
  try rw[hH]
  rw[Aa aK];go_upto_region 2 with(go_at_call 10;refine(Aa aI).mono ?_;rintro e2 w2 ⟨k,t,ka,kc,ks,da,dc,ds,l,rfl,HD,I⟩;have aC:=I.size;have G:=Ab I;clear I)
  obtain⟨K,X⟩:∃K,w2.heap.size=K:=⟨_,rfl⟩;obtain⟨W3,N,D,p0,p1,aL⟩:=A0 w2 (.cells #[.int .u8 k,.string ⟨t.toArray⟩,.slice ka ks.length kc,.slice da ds.length dc,.int .i64 l] 26) (.cells #[.int .i64 0,.int .i64 0] 29) K X;rw[N];rw[X];rw[X]at aC;have Q:Below H w W3:=(Aa aU).trans (((Aa G).mono (by omega)).trans (D.mono (by omega)));have q0:=(D.block H (by omega)).trans (((Aa G).block H (by omega)).trans (Aa aQ));have q1:=(D.block (H+1) (by omega)).trans (((Aa G).block (H+1) (by omega)).trans (Aa aJ));have Y:(Nd.mk k t ka kc ks da dc ds l).In W3:=(Aa HD).2.1.below (by rw[X];exact D);have Z:=Jb k t ka kc ks da dc ds l W3 Y (by rw[(Aa HD).1];exact Aa aW);rw[(Aa HD).1]at Z;have x0:=Ad p0;have x1:=Af p1;have aY:=Ab Z;have aG:=Ab Q;have aE:=Ab q0;have aH:=Ab q1;have bG:K+1+1≤W3.heap.size:=by omega
  clear Z Q q0 q1 Y D p0 p1 N aL;go_upto_region 4 with fail
  go_wp2_with (go_at_call 27;refine(Aa aY).mono ?_;rintro e5 w5 ⟨S,⟨dn,dt,aT,aN,aO⟩,ec,el,rfl,aS,J,aR⟩;have r0:=(S.block H (by omega)).trans (Aa aE);have r1:=(S.block (H+1) (by omega)).trans (Aa aH);have u0:=D9 r0;have u1:=Af r1;have bA:=Ab r0;have bB:=Ab r1;have aZ:=Ab S;have bD:=Ab aS;have aX:=Ab J;have bC:=Ab aR;unfold Ch.val;clear r0 r1 S aS J aR)
  have U:=Ok (B:=H) (g1:=H) (g2:=H+1) (w:=w) ((Aa aG).trans ((Aa aZ).mono (by omega))) (Aa bA) (Aa bB) (by omega) (by omega) (by omega) (.string ⟨dn.toArray⟩) (.string ⟨dt.toArray⟩) (.slice aT aO.length aN) (.int .i64 ec) (.int .i64 el);have J:=Aa aX;exact qW (Al rfl _ _ _ H (H+1) _ _ rfl (Cq U.2.1) rfl (Ai U.2.2.1)) rfl ⟨by rw[hH];exact U.1,⟨dn,dt,aT,aN,aO⟩,ec,el,rfl,(Aa bD).keep (fun g hg=>U.2.2.2 g (by have:=J g hg;omega) (by have:=J g hg;omega)),fun g hg=>(by have:=J g hg;omega),(Aa bC)⟩
 |error x=>
  obtain⟨x1,x2⟩:=x;have hbad:=P20.PaR.bad ho;have j1:(x1 != 0)=true:=by simpa using hbad
  have aM:=Ab hbad;have bF:=Dl;have aI:=Ab R;clear R aD aA aB g0 g1 ho hs hbad;go_enter Tryz.func30,Tryz.ntmps30
  go_upto_region 1 with fail
  try rw[hH]
  rw[Aa aK];go_upto_region 2 with(go_at_call 10;refine(Aa aI).mono ?_;rintro e2 w2 ⟨rfl,I⟩;have aC:=I.size;have G:=Ab I;clear I)
  obtain⟨K,X⟩:∃K,w2.heap.size=K:=⟨_,rfl⟩;obtain⟨W3,N,D,p0,p1,aL⟩:=A0 w2 (.cells #[.int .u8 0,.string ⟨#[]⟩,.slice none 0 0,.slice none 0 0,.int .i64 0] 26) (.cells #[.int .i64 x1,.int .i64 x2] 29) K X;rw[N];rw[X];rw[X]at aC;have Q:Below H w W3:=(Aa aU).trans (((Aa G).mono (by omega)).trans (D.mono (by omega)));have q0:=(D.block H (by omega)).trans (((Aa G).block H (by omega)).trans (Aa aQ));have q1:=(D.block (H+1) (by omega)).trans (((Aa G).block (H+1) (by omega)).trans (Aa aJ));have y0:=D9 q0;have y1:=Af q1;have y2:=Af p1;have aG:=Ab Q;have aE:=Ab q0;have aH:=Ab q1;clear Q q0 q1 D p0 p1 N;go_upto_region 3 with fail
  go_region_with_o (fail)
  all_goals go_wp2
  all_goals
   have U:=Pu (B:=H) (g1:=H) (g2:=H+1) (w:=w) (Aa aG) (Aa aE) (Aa aH) (by omega) (by omega) (by omega) (.string ⟨#[]⟩) (.string ⟨#[]⟩) (.slice none 0 0) (.int .i64 x1) (.int .i64 x2);exact qW (Al rfl _ _ _ H (H+1) _ _ rfl (Cq U.2.1) rfl (Ai U.2.2)) rfl ⟨by rw[hH];exact U.1,Ch.zero,x1,x2,rfl,Ch.zero_in _,fun g hg=>(Co none g hg).elim,.inr ⟨rfl,Aa aM,rfl⟩⟩
end Go.Proofs.YtnjokdbblmlhhaaGreatDoor
