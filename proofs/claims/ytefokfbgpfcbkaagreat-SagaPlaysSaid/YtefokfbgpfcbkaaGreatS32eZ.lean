import Derived.Test.YtefokfbgpfcbkaaGreatS32aZ
set_option maxRecDepth 100000
set_option maxHeartbeats 8000000
set_option linter.unusedVariables false
set_option linter.unusedSimpArgs false
namespace Go.Proofs.YtefokfbgpfcbkaaGreat
open Go.RowKit
theorem Qt(i:Nat)(u:Bool)(r:P31.Run)(x:P32.S × List P32.Order)(h:r.phase=3∧(x.1.run i u).phase≠3∧u=false):P32.put i u r x=(⟨P32.setR x.1.run i u r,x.1.done++[i],x.1.undone,x.1.status⟩,x.2):=by
 unfold P32.put;rw[if_pos h,if_neg (by omega)]
theorem Id(i:Nat)(u:Bool)(r:P31.Run)(x:P32.S × List P32.Order)(h:¬(r.phase=3∧(x.1.run i u).phase≠3∧u=false)):P32.put i u r x=(⟨P32.setR x.1.run i u r,x.1.done,x.1.undone,x.1.status⟩,if r.phase=1∧r.att≠(x.1.run i u).att then x.2++[⟨i,r.att,u,r.til⟩] else x.2):=by
 unfold P32.put;rw[if_neg h]
theorem SA.ask{w0 A w1:World}{M0:Nat→Prop}{b bm rb C h1 h2 ob n g' c':Nat}{vs:Nat→Value}{d:Af}{s:P32.S}{os Z:List P32.Order}{dn un v:Value}(h:SA w0 M0 b bm rb C h1 h2 ob vs d (s,os) A)(I:Sg A b bm rb C vs d dn un s)(k2:A.heap[ob]?=some (.cells #[v] 105))
  (J:∀g,v.ownBlock=some g→¬Mb b bm dn un g∧g≠h1∧g≠h2∧g≠ob∧(M0 g∨w0.heap.size≤g)) (k5:∀g,Mb b bm dn un g→g≠h1∧g≠h2∧g≠ob) (k6:∀g,Mb b bm dn un g→M0 g∨w0.heap.size≤g)
  (h5:Ba w1 C (.slice (some ⟨g',0,none⟩) n c') Z) (h6:A.grownBy w1 v.ownBlock) (h7:some g'=v.ownBlock∨some g'=some A.heap.size) :
  SA w0 M0 b bm rb C h1 h2 ob vs d (s,Z) (w1.setCell ⟨ob,0,none⟩ (.slice (some ⟨g',0,none⟩) n c')):=by
 obtain⟨l1,l2,l3,l4,l5,l6,l7⟩:=h.low
 have aA:∀g,v.ownBlock=some g→C≤g:=by
  obtain⟨_,_,v',_,q2,q3,_⟩:=h.ex;rw[k2]at q2;cases q2;exact fun g hg=>(q3.lt hg).1
 obtain⟨n1,n2,n3⟩:=h.ne;have z1:=(qA.1 h.c1).1;have z2:=(qA.1 h.c2).1;have z3:=(qA.1 k2).1;have zk:=h.kw.size;have zg:=h6.size;have keep:∀g,g<A.heap.size→v.ownBlock≠some g→g≠ob→(w1.setCell ⟨ob,0,none⟩ (.slice (some ⟨g',0,none⟩) n c')).heap[g]?=A.heap[g]?:=fun g hl hv ho=>(qC _ _ _ _ ho).trans (h6.block g hl (fun e=>hv e.symm))
 have aB:¬Mb b bm dn un g'∧g'≠h1∧g'≠h2∧g'≠ob∧(M0 g'∨w0.heap.size≤g'):=by
  rcases h7 with e|e
  ·exact J g' e.symm
  ·cases e;exact⟨fun q=>by have:=I.lt (.inl q);omega,by omega,by omega,by omega,.inr (by omega)⟩
 have aC:Sg (w1.setCell ⟨ob,0,none⟩ (.slice (some ⟨g',0,none⟩) n c')) b bm rb C vs d dn un s:=I.keep (by simpa using zg) (fun g hg=>by
  refine keep g (I.lt hg) (fun e=>?_) (fun e=>?_)
  ·rcases hg with hg|hg|hg
   ·exact(J g e).1 hg
   ·have:=(I.glt g hg).2.2;have:=aA g e;omega
   ·have:=(I.dlt g hg).2.2;have:=aA g e;omega
  ·rcases hg with hg|hg|hg
   ·exact(k5 g hg).2.2 e
   ·have:=(I.glt g hg).2.2;omega
   ·have:=(I.dlt g hg).2.2;omega)
 refine⟨⟨dn,un,_,aC,?_,h5.keep (fun g hg=>qC _ _ _ _ ?_),fun g hg=>?_,k5,k6⟩,(keep h1 z1 (fun e=>(J h1 e).2.1 rfl) n2).trans h.c1,(keep h2 z2 (fun e=>(J h2 e).2.2.1 rfl) n3).trans h.c2,?_,h.low,h.ne⟩
 ·exact Wb ((h6.block ob z3 (fun e=>(J ob e.symm).2.2.2.1 rfl)).trans k2) _
 ·have e:some g'=some g:=hg;cases e;exact aB.2.2.2.1
 ·have e:some g'=some g:=hg;cases e;exact aB
 ·exact(h.kw.grown h6 (fun g e=>(J g e).2.2.2.2)).setCell l4 _
def Qa4(U:World)(oo:Obj)(h2 ob C n:Nat)(v:Value)(os:List P32.Order)(k:Nat)(X Y:Value)(W:World):Prop:=W.cell? ⟨h2,0,none⟩=some (qP0 ob)∧(match k with
 |0=>W=U
 |1=>W=U.alloc oo∧X=.slice (some ⟨U.heap.size,0,none⟩) 1 1
 |2=>∃g c,Y=.slice (some ⟨g,0,none⟩) (n+1) c∧Ba W C Y os∧(U.alloc oo).grownBy W v.ownBlock∧(some g=v.ownBlock∨some g=some (U.alloc oo).heap.size)
 | _=>∃g c I,Y=.slice (some ⟨g,0,none⟩) (n+1) c∧Ba I C Y os∧(U.alloc oo).grownBy I v.ownBlock∧(some g=v.ownBlock∨some g=some (U.alloc oo).heap.size)∧W=I.setCell ⟨ob,0,none⟩ Y)
theorem Ke{w0:World}{M0:Nat→Prop}{b bm rb C h1 h2 ob:Nat}{vs:Nat→Value}{d:Af}{x:P32.S × List P32.Order}(i:Nat)(u:Bool)(r:P31.Run)(w:World)(h:SA w0 M0 b bm rb C h1 h2 ob vs d x w)(hi:i<d.steps.length)(hr:r.ok)(aE:P32.Inv d.bare (P32.put i u r x).1)(eC:x.2.length≤1000000) :
  Calls Tryz.prog 146 #[.agg #[.int .i64 (i:Int),.bool u],Au r,qP0 h1,qP0 h2] w fun e w'=>(∃v,e=.returned v)∧SA w0 M0 b bm rb C h1 h2 ob vs d (P32.put i u r x) w':=by
 obtain⟨K,hK⟩:=qeX w.heap.size;obtain⟨W1,dB,cF,g0,g1,bW⟩:=Dt w (.cells #[.int .i64 (i:Int),.bool u] 157) (.cells #[.int .u8 (r.phase:Int),.int .i64 r.att,.int .i64 r.til,.bool r.last] 159) K hK;have bD:=h.below (by rw[hK];exact cF)
 have eG:b<K∧bm<K∧h1<K∧h2<K:=by
  obtain⟨dn,un,I⟩:=h.sg;rw[←hK];exact⟨I.lt (.inl (.inl rfl)),I.lt (.inl (.inr (.inl rfl))),(qA.1 h.c1).1,(qA.1 h.c2).1⟩
 obtain⟨dn,un,v,I,k2,k3,k4,k5,k6⟩:=bD.ex;obtain⟨c1,_⟩:=A1 bD.c1;have c4:=I.cells.2.2.1.1;obtain⟨⟨q0,_⟩,⟨q1,_⟩⟩:=A2 g0;obtain⟨⟨x0,_⟩,⟨x1,_⟩,⟨x2,_⟩,⟨x3,_⟩⟩:=Bd.cells (c:=r) g1;have cY:bm<W1.heap.size:=I.mp.lt;obtain⟨⟨wp,wa,wt,wl⟩,cA⟩:∃y,x.1.run i u=y:=⟨_,rfl⟩
 have hlk:∀V,V.heap[bm]?=W1.heap[bm]?→(Instr.lookup 151 (.map (some bm)) (.agg #[.int .i64 (i:Int),.bool u]) false).run Tryz.prog V=.ok (.agg #[.int .u8 (wp:Int),.int .i64 wa,.int .i64 wt,.bool wl]) V:=fun V hV=>by
  have:=(I.mp.keep hV).look i u;rw[cA]at this;exact this
 have dP:=hlk W1.drew rfl;have dI:∀(o:Obj),(Instr.lookup 151 (.map (some bm)) (.agg #[.int .i64 (i:Int),.bool u]) false).run Tryz.prog (W1.alloc o).drew=.ok (.agg #[.int .u8 (wp:Int),.int .i64 wa,.int .i64 wt,.bool wl]) (W1.alloc o).drew:=fun o=>hlk _ (qD _ _ _ cY);have aA:∀r o,r<W1.heap.size→(W1.alloc (.cells #[.int .u8 0,.int .i64 0,.int .i64 0,.bool false] 159)).cell? ⟨r,o,none⟩=W1.cell? ⟨r,o,none⟩:=fun r o h=>Ae (qD _ _ _ h) o;have bQ:=(aA h1 0 (by have:=Ad c1;exact this)).trans c1;have dN:=(aA b 4 (by have:=Ad c4;exact this)).trans c4;have dC:=(aA K 0 (by omega)).trans q0;have dT:=(aA K 1 (by omega)).trans q1;have dD:=Ab bD;have eA:=Ab dB;have aS:=Ab g0;have aW:=Ab g1;have dK:=Ab cA;have eQ:=Bj;clear bD dB cF g0 g1 h hlk aA I k2 k3 k4 k5 k6 cA;obtain⟨PX,bT⟩:∃y,P32.put i u r x=y:=⟨_,rfl⟩;rw[bT]at aE ⊢;have aL:=Ab bT;clear bT;unfold Au;go_enter Tryz.func146,Tryz.ntmps146
 go_upto_region 1 with fail
 try rw[hK]
 rw[Aa eA];go_region
 obtain⟨W2,aU⟩:=qeX ((W1.alloc (.cells #[.int .u8 (wp:Int),.int .i64 wa,.int .i64 wt,.bool wl] 159)).drew);rw[aU];have b2:Below (K+1+1) W1 W2:=by rw[←aU];exact((qU _ W1).alloc (by omega) _).drew
 have gK:W2.heap[K+1+1]?=some (.cells #[.int .u8 (wp:Int),.int .i64 wa,.int .i64 wt,.bool wl] 159):=by rw[←aU,←bW];exact qB _ _
 have sK:W2.heap.size=K+1+1+1:=by rw[←aU,←bW];simp
 have bC:SA w0 M0 b bm rb C h1 h2 ob vs d x W2:=(Aa dD).below (by rw[bW];exact b2);have bO:=(b2.block K (by omega)).trans (Aa aS);have g12:=(b2.block (K+1) (by omega)).trans (Aa aW);clear aU dP dI bQ dN dC dT q0 q1 x0 x1 x2 x3 c1 c4 b2 dD aS aW cY;obtain⟨dn,un,v,I,k2,k3,k4,k5,k6⟩:=bC.ex;obtain⟨c1,_⟩:=A1 bC.c1;have c4:=I.cells.2.2.1.1;obtain⟨⟨q0,_⟩,⟨q1,_⟩⟩:=A2 bO;obtain⟨⟨x0,_⟩,⟨x1,_⟩,⟨x2,_⟩,⟨x3,_⟩⟩:=Bd.cells (c:=r) g12;obtain⟨L,cQ,hL⟩:=I.mp;have cJ:=Ab cQ;have cS:=Ab hL;have cG:=Ab bC;have aK:=Ab (And.intro I (And.intro k2 (And.intro k3 (And.intro k4 (And.intro k5 k6)))));have aS:=Ab bO;have aW:=Ab g12;have cO:=Ab gK;clear cQ hL bC I k2 k3 k4 k5 k6 bO g12 gK;go_upto_region 2 with fail
 refine Ak 6 (by kernel_rfl) (by kernel_rfl) (by kernel_rfl) (by kernel_rfl) (by kernel_rfl) ?_;simp only[List.take_succ_cons,List.take_zero,List.drop_succ_cons,List.drop_zero]
 repeat (go_big_quiet_step (fail))
 refine wpQuiet_nil ?_;rintro _ ⟨nq,rfl⟩;go_upto_region 3 with(at_mapUpdate;refine J3 rfl _ _ _ rfl ((Aa cJ).keep (W':=W2.drewN nq) rfl) E0 Tryz.underlying151 rfl ((i:Int),u) rfl (Au r) rfl ?_;intro W3 cU bX cI aY)
 obtain⟨I,k2,k3,k4,k5,k6⟩:=Aa aK;have dA:=I.below (W':=W2.drewN nq) (Ac (qU _ _))
 have dG:∀j c,(P32.setR x.1.run i u r j c).ok:=fun j c=>by
  unfold P32.setR;split
  ·exact hr
  ·exact I.ok j c
 have s3:Sg W3 b bm rb C vs d dn un ⟨P32.setR x.1.run i u r,x.1.done,x.1.undone,x.1.status⟩:=dA.setWay (Ec.set (Aa cS) i u r cU) bX dG;have cR:KW (Mb b bm dn un) W2 W3:=((KW.refl _ W2).drewN nq).grown bX (fun k e=>by cases e;exact .inl (.inr (.inl rfl)));have bF:=(Aa cG).write I k2 k3 k4 k5 k6 s3 cR (fun g hg=>.inl hg);have cX:W3.heap[K]?=_:=(aY K (by omega)).trans (Aa aS);have g13:W3.heap[K+1]?=_:=(aY (K+1) (by omega)).trans (Aa aW);have cV:W3.heap[K+1+1]?=_:=(aY (K+1+1) (by omega)).trans (Aa cO);have bI:W3.heap.size=K+1+1+1:=cI.trans sK;clear c1 c4 q0 q1 x0 x1 x2 x3 I k2 k3 k4 k5 k6 dA s3 cR cU bX cI aY cJ cS aK cG aS aW cO;obtain⟨⟨q0,_⟩,⟨q1,_⟩⟩:=A2 cX;obtain⟨⟨x0,_⟩,⟨x1,_⟩,⟨x2,_⟩,⟨x3,_⟩⟩:=Bd.cells (c:=r) g13;obtain⟨⟨y0,_⟩,⟨y1,_⟩,⟨y2,_⟩,⟨y3,_⟩⟩:=Bd.cells (c:=⟨wp,wa,wt,wl⟩) cV;simp only at y0 y1;obtain⟨c1,_⟩:=A1 bF.c1;obtain⟨c2,_⟩:=A1 bF.c2;have aG:=Ab bF;have aJ:=Aa dK;clear bF cX g13 cV dn un v;by_cases hA:r.phase=3∧wp≠3∧u=false
 ·obtain⟨e3,f3,rfl⟩:=hA;have aB:=Qt i false r x ⟨e3,by rw[aJ];exact f3,rfl⟩;have aZ:((r.phase:Int)==3)=true:=by rw[e3];rfl
  have cT:((wp:Int) != 3)=true:=by simp;omega
  have aT:=(Aa aL).symm.trans aB;subst aT;have dX:(x.1.done++[i]).Nodup:=aE.nodup;clear aB aE aJ e3 f3 aL;obtain⟨dn,un,v,I,k2,k3,k4,k5,k6⟩:=(Aa aG).ex;have dH:=I.dlen;have eL:=I.nle;simp only at dH;obtain⟨da,dc,dE,_,_,_⟩:=I.odn.slice;simp only at dE;subst dE;have c5:=I.cells.2.2.2.1.1;have aA:∀r o,r<W3.heap.size→(W3.alloc (.cells #[.int .i64 (i:Int)] 3)).cell? ⟨r,o,none⟩=W3.cell? ⟨r,o,none⟩:=fun r o h=>Ae (qD _ _ _ h) o;have bQ:=(aA h1 0 (by have:=Ad c1;exact this)).trans c1;have eH:=(aA b 5 (by have:=Ad c5;exact this)).trans c5;have dC:=(aA K 0 (by omega)).trans q0;have aI:=(Aa aG).below (((qU _ W3).alloc (qJ _) (.cells #[.int .i64 (i:Int)] 3)).drew);have s8:=I.below (((qU _ W3).alloc (qJ _) (.cells #[.int .i64 (i:Int)] 3)).drew);have aN:(W3.alloc (.cells #[.int .i64 (i:Int)] 3)).drew.heap[K+1+1+1]?=some (.cells #[.int .i64 (i:Int)] 3):=by rw[←bI];exact qB _ _
  have bV:=Ab (A1 aN).1;have eN:(W3.alloc (.cells #[.int .i64 (i:Int)] 3)).drew.heap.size=K+1+1+1+1:=by show (W3.alloc _).heap.size=_;simp[bI]
  have bM:=s8.cw;have kb:=(qU W3.heap.size W3).alloc (qJ _) (.cells #[.int .i64 (i:Int)] 3);have aM:(W3.alloc (.cells #[.int .i64 (i:Int)] 3)).drew.heap[ob]?=some (.cells #[v] 105):=(kb.block _ (qA.1 k2).1).trans k2;have aQ:Ba (W3.alloc (.cells #[.int .i64 (i:Int)] 3)).drew C v x.2:=Ba.keep (W:=W3) k3 (fun g hg=>kb.block g (k3.lt hg).2);have cP:(Value.slice da x.1.done.length dc).ownBlock≠some h1∧h1<(W3.alloc (.cells #[.int .i64 (i:Int)] 3)).drew.heap.size:=⟨fun e=>(k5 h1 (.inr (.inr (.inl e)))).1 rfl,by omega⟩;have dU:(W3.alloc (.cells #[.int .i64 (i:Int)] 3)).drew.cell? ⟨h1,0,none⟩=some (qP0 b):=bQ;have H8:=Ab s8;have cD:=Ab aI;have aK:=Ab (And.intro aM (And.intro aQ (And.intro k4 (And.intro k5 k6))));clear I k2 k3 k4 k5 k6 aM aQ kb aA aI s8 aN aG;go_upto_region 4 with fail
  go_region_law (refine Wn (by rfl) _ _ (by rfl) (by rfl) (Aa H8).odn (K+1+1+1) 1 (by rfl) (Aa bV) x.1.done.length rfl (by omega) bM ?_;intro g1 eB w1 bJ aD cK;have aR:=aD.block b (by omega) (fun e=>by have:=((Aa H8).odn.lt e.symm).1;have:=(Aa H8).bc;omega);have hf:=(World.frozen?_of_block (a:=⟨b,5,none⟩) aR).trans ((Aa H8).cells.2.2.2.1.2);have hc:=(zC (a:=⟨b,5,none⟩) aR).trans ((Aa H8).cells.2.2.2.1.1);have eE:=(zC (a:=⟨h1,0,none⟩) (aD.block h1 cP.2 (fun e=>cP.1 e.symm))).trans dU)
  all_goals
   (try simp only[Exit.inBlock,Exit.then])
   go_end0;refine⟨⟨_,rfl⟩,?_⟩;obtain⟨k2,k3,k4,k5,k6⟩:=Aa aK
   exact(Aa cD).write (Aa H8) k2 k3 k4 k5 k6 ((Aa H8).appDn bJ aD cK dX hi) (((KW.refl _ _).grown aD (fun k e=>.inl (.inr (.inr (.inl e))))).setCell (b:=b) (o:=5) (.inl (.inl rfl)) _)
    (fun g hg=>hg.elim (fun e=>.inl (.inl e)) (fun hg=>hg.elim (fun e=>.inl (.inr (.inl e))) (fun hg=>hg.elim (fun e=>cK.elim (fun q=>.inl (.inr (.inr (.inl (q.symm.trans e))))) (fun q=>.inr (by have e:some g1=some g:=e;rw[q]at e;cases e;omega))) (fun e=>.inl (.inr (.inr (.inr e)))))))
 ·have aB:=Id i u r x (by rw[aJ];exact hA);rw[aJ]at aB;by_cases hB:r.phase=1∧r.att≠wa
  ·rw[if_pos hB]at aB;have aT:=(Aa aL).symm.trans aB;subst aT;have aZ:((r.phase:Int)==3)=false:=by simp;omega
   have bG:((r.phase:Int)==1)=true:=by rw[hB.1];rfl
   have dY:(r.att != wa)=true:=by simpa using hB.2
   clear aB aJ hB hA aL aE;obtain⟨dn,un,v,I,k2,k3,k4,k5,k6⟩:=(Aa aG).ex;obtain⟨va,vc,cN⟩:=k3.form;simp only at cN;subst cN;obtain⟨c9,_⟩:=A1 k2;obtain⟨oo,cW⟩:∃o:Obj,Obj.cells #[.int .i64 (i:Int),.int .i64 r.att,.bool u,.int .i64 r.til] 35=o:=⟨_,rfl⟩;have dL:∃U,W3.drew=U:=⟨_,rfl⟩;obtain⟨U,hU⟩:=dL;have bY:Below W3.heap.size W3 U:=by rw[←hU];exact(qU _ W3).drew
   have eJ:U.heap.size=K+1+1+1:=by rw[←hU];exact bI
   have cH:=(Aa aG).below bY;have su:=I.below bY;have bZ:U.cell? ⟨h2,0,none⟩=some (qP0 ob):=by rw[←hU];exact c2
   have bK:U.cell? ⟨ob,0,none⟩=some (.slice va x.2.length vc):=by rw[←hU];exact c9
   have eM:U.cell? ⟨K,0,none⟩=some (.int .i64 (i:Int)):=by rw[←hU];exact q0
   have eP:U.cell? ⟨K,1,none⟩=some (.bool u):=by rw[←hU];exact q1
   have eO:U.cell? ⟨K+1,1,none⟩=some (.int .i64 r.att):=by rw[←hU];exact x1
   have eF:U.cell? ⟨K+1,2,none⟩=some (.int .i64 r.til):=by rw[←hU];exact x2
   have bL:U.heap[ob]?=some (.cells #[.slice va x.2.length vc] 105):=by rw[←hU];exact k2
   have cC:Ba U C (.slice va x.2.length vc) x.2:=k3.keep (fun g hg=>by rw[←hU];rfl);have kb:=((qU U.heap.size U).alloc (qJ _) oo);have aI:=cH.below kb;have s8:=su.below kb;have cL:(U.alloc oo).cell? ⟨h2,0,none⟩=some (qP0 ob):=(Ae (qD _ _ _ (Ad bZ)) _).trans bZ;have dF:(U.alloc oo).cell? ⟨ob,0,none⟩=some (.slice va x.2.length vc):=(Ae (qD _ _ _ (Ad bK)) _).trans bK;have aN:(U.alloc oo).heap[U.heap.size]?=some (.cells #[.int .i64 (i:Int),.int .i64 r.att,.bool u,.int .i64 r.til] 35):=(qB _ _).trans (congrArg some cW.symm);have bM:C≤(U.alloc oo).heap.size:=s8.cw;have aM:(U.alloc oo).heap[ob]?=some (.cells #[.slice va x.2.length vc] 105):=(kb.block _ (qA.1 bL).1).trans bL;have aQ:Ba (U.alloc oo) C (.slice va x.2.length vc) x.2:=cC.keep (fun g hg=>kb.block g (cC.lt hg).2);have cZ:(Value.slice va x.2.length vc).ownBlock≠some h2∧(Value.slice va x.2.length vc).ownBlock≠some ob:=⟨fun e=>(k4 h2 e).2.2.1 rfl,fun e=>(k4 ob e).2.2.2.1 rfl⟩;have cM:h2<(U.alloc oo).heap.size∧ob<(U.alloc oo).heap.size:=⟨Ad cL,Ad dF⟩;have dR:ob≠h2:=fun e=>aI.ne.2.2 e.symm;obtain⟨dZ,dQ⟩:=A1 aM;have bV:=Ab aN;have dS:=Ab aQ;have dW:=Ab s8;have cD:=Ab aI;have aK:=Ab (And.intro k4 (And.intro k5 k6));have dM:=Ab aM;clear I k2 k3 k4 k5 k6 aM aQ kb aI s8 aN aG bL cC cH su bY;go_upto_region 6 with fail
   refine A7 Bj [13,14,16] (fun k aF W=>∃X Y,aF={ tmps:=#[.agg #[nI i,.bool u],.agg #[.int .u8 (r.phase:Int),.int .i64 r.att,.int .i64 r.til,.bool r.last],qP0 h1,qP0 h2,qP0 K,qP0 (K+1),qP0 (K+1+1),qP0 b,qP0 b,pT b 4,.map (some bm),.agg #[nI i,.bool u],.agg #[.int .u8 (wp:Int),.int .i64 wa,.int .i64 wt,.bool wl],qP0 b,qP0 b,pT b 4,.map (some bm),.agg #[nI i,.bool u],.agg #[.int .u8 (r.phase:Int),.int .i64 r.att,.int .i64 r.til,.bool r.last],.bool false,qP0 (K+1),.int .u8 (r.phase:Int),.bool false,.bool false,uZ,uZ,uZ,.bool false,.bool false,uZ,uZ,uZ,.bool false,uZ,uZ,uZ,uZ,uZ,uZ,uZ,uZ,uZ,uZ,uZ,.bool true,qP0 (K+1),.int .u8 (r.phase:Int),.bool true,.bool true,pT (K+1) 1,.int .i64 r.att,pT (K+1+1) 1,.int .i64 wa,.bool true,.bool true,qP0 ob,qP0 ob,qP0 ob,.slice va x.2.length vc,qP0 K,nI i,pT (K+1) 1,.int .i64 r.att,pT K 1,.bool u,pT (K+1) 2,.int .i64 r.til,.agg #[nI i,.int .i64 r.att,.bool u,.int .i64 r.til],X,Y,qP0 ob],defers:=[] }∧Qa4 U oo h2 ob C x.2.length (.slice va x.2.length vc) (x.2++[⟨i,r.att,u,r.til⟩]) k X Y W) (by kernel_rfl) (by kernel_rfl) (by decide) ⟨undef,undef,rfl,by rw[hU];exact bZ,hU⟩ rfl rfl (Dw 55 16 (by kernel_rfl) rfl rfl) ?pure ?write ?fin
   case pure=>
    rintro k aF W ix o ⟨X,Y,rfl,J⟩ ho cB aH;rcases ix with _|_|_|_|_|_|_|_|_|_|_|_|_|_|_|_|_|ix
    iterate 2
     ·have eI:=J.1;refine wq ho rfl rfl rfl rfl ?_
      go_simp
    ·refine wq ho rfl rfl rfl rfl ?_
     go_simp
    ·have eK:k≤1:=aH 1 14 rfl (by kernel_rfl)
     have eD:W.cell? ⟨ob,0,none⟩=some (.slice va x.2.length vc):=by
      rcases k with _|_|k
      ·have Z:W=U:=J.2;rw[Z];exact bK
      ·have Z:=J.2.1;rw[Z];exact dF
      ·omega
     refine wq ho rfl rfl rfl rfl ?_
     go_simp
    ·refine wq ho rfl rfl rfl rfl ?_
     go_simp
    ·have bU:k≤0:=aH 0 13 rfl (by kernel_rfl);obtain rfl:k=0:=by omega
     have Z:W=U:=J.2;subst Z;refine wq ho rfl rfl rfl rfl ?_
     go_simp
    ·refine wq ho rfl rfl rfl rfl ?_
     go_simp
    ·have bU:k≤0:=aH 0 13 rfl (by kernel_rfl);obtain rfl:k=0:=by omega
     have Z:W=U:=J.2;subst Z;refine wq ho rfl rfl rfl rfl ?_
     go_simp
    ·refine wq ho rfl rfl rfl rfl ?_
     go_simp
    ·have bU:k≤0:=aH 0 13 rfl (by kernel_rfl);obtain rfl:k=0:=by omega
     have Z:W=U:=J.2;subst Z;refine wq ho rfl rfl rfl rfl ?_
     go_simp
    ·refine wq ho rfl rfl rfl rfl ?_
     go_simp
    ·have bU:k≤0:=aH 0 13 rfl (by kernel_rfl);obtain rfl:k=0:=by omega
     have Z:W=U:=J.2;subst Z;refine wq ho rfl rfl rfl rfl ?_
     go_simp
    ·refine wq ho rfl rfl rfl rfl ?_
     go_simp
    ·exact absurd (by simp) cB
    ·exact absurd (by simp) cB
    ·refine wq ho rfl rfl rfl rfl ?_
     go_simp
    ·exact absurd (by simp) cB
    ·exfalso;simp at ho
   case write=>
    rintro k aF W ix o ⟨X,Y,rfl,J⟩ hi ho;rcases k with _|_|_|k
    ·cases (show some 13=some ix from hi);have aP:some _=some o:=ho;cases aP;have Z:W=U:=J.2;subst Z;refine⟨rfl,.inl ⟨.slice (some ⟨W.heap.size,0,none⟩) 1 1,W.alloc oo,?_,⟨_,Y,rfl,cL,rfl,rfl⟩⟩⟩;rw[←cW]
     go_simp
    ·cases (show some 14=some ix from hi);have aP:some _=some o:=ho;cases aP;obtain⟨aO,rfl,rfl⟩:=J;obtain⟨g',aC,w',hr,h5,h6,h7⟩:=F9 (j:=⟨i,r.att,u,r.til⟩) 105 (Aa dS) U.heap.size 1 (Aa bV) x.2.length rfl (by omega) bM;refine⟨rfl,.inl ⟨.slice (some ⟨g',0,none⟩) (x.2.length+1) aC,w',?_,⟨_,_,rfl,(zC (a:=⟨h2,0,none⟩) (h6.block h2 cM.1 (fun e=>cZ.1 e.symm))).trans aO,g',aC,rfl,h5,h6,h7⟩⟩⟩;simp[execOp,resolve,invoke,builtin,Act.eval,hr,Result.andThen,Deferred.ofValue]
    ·cases (show some 16=some ix from hi);have aP:some _=some o:=ho;cases aP;obtain⟨aO,g',aC,rfl,h5,h6,h7⟩:=J;have aR:=h6.block ob cM.2 (fun e=>cZ.2 e.symm);have hf:=(World.frozen?_of_block (a:=⟨ob,0,none⟩) aR).trans dQ;have hc:=(zC (a:=⟨ob,0,none⟩) aR).trans dZ;refine⟨rfl,.inr (.inl ⟨W.setCell ⟨ob,0,none⟩ (.slice (some ⟨g',0,none⟩) (x.2.length+1) aC),?_,⟨_,_,rfl,(Ae (qC _ _ _ _ (by show h2≠ob;exact Ne.symm dR)) _).trans aO,g',aC,W,rfl,h5,h6,h7,rfl⟩⟩)⟩
     go_simp
    ·simp at hi
   case fin=>
    rintro k aF W6 hk ⟨X,Y,rfl,J⟩;obtain⟨k,rfl⟩:∃k',k=k'+3:=⟨k-3,by simp at hk;omega⟩;obtain⟨aO,g',aC,w1,rfl,h5,h6,h7,rfl⟩:=J;have HF:=Ab (And.intro h5 (And.intro h6 h7));clear aO h5 h6 h7;go_wp2
    (try simp only[Exit.inBlock,Exit.then])
    go_end0;refine⟨⟨_,rfl⟩,?_⟩;obtain⟨h5,h6,h7⟩:=Aa HF;obtain⟨k4,k5,k6⟩:=Aa aK;have s8:=Aa dW;have aI:=Aa cD;exact aI.ask s8 (Aa dM) k4 k5 k6 h5 h6 h7
  ·rw[if_neg hB]at aB;have aT:=(Aa aL).symm.trans aB;subst aT
   have dJ:r.phase≠3∨(r.phase=3∧wp=3)∨(r.phase=3∧wp≠3∧u=true):=by
    by_cases h3:r.phase=3
    ·by_cases hw:wp=3
     ·exact .inr (.inl ⟨h3,hw⟩)
     ·cases u
      ·exact absurd ⟨h3,hw,rfl⟩ hA
      ·exact .inr (.inr ⟨h3,hw,rfl⟩)
    ·exact .inl h3
   have bE:Hid (SA w0 M0 b bm rb C h1 h2 ob vs d (⟨P32.setR x.1.run i u r,x.1.done,x.1.undone,x.1.status⟩,x.2) W3):=aG;clear aB aJ hA aL aE aG;rcases dJ with h3|⟨h3,hw⟩|⟨h3,hw,rfl⟩
   ·have aZ:((r.phase:Int)==3)=false:=by simp;omega
    by_cases aX:r.phase=1
    ·have bG:((r.phase:Int)==1)=true:=by rw[aX];rfl
     have dY:(r.att != wa)=false:=by
      by_cases e:r.att=wa
      ·simp[e]
      ·exact absurd ⟨aX,e⟩ hB
     clear hB h3 aX;go_wp2
     (try simp only[Exit.inBlock,Exit.then])
     go_end0;exact⟨⟨_,rfl⟩,Aa bE⟩
    ·have bG:((r.phase:Int)==1)=false:=by simp;omega
     clear hB h3 aX;go_wp2
     (try simp only[Exit.inBlock,Exit.then])
     go_end0;exact⟨⟨_,rfl⟩,Aa bE⟩
   ·have aZ:((r.phase:Int)==3)=true:=by rw[h3];rfl
    have cT:((wp:Int) != 3)=false:=by rw[hw];rfl
    have bG:((r.phase:Int)==1)=false:=by rw[h3];rfl
    clear hB h3 hw;go_wp2
    (try simp only[Exit.inBlock,Exit.then])
    go_end0;exact⟨⟨_,rfl⟩,Aa bE⟩
   ·have aZ:((r.phase:Int)==3)=true:=by rw[h3];rfl
    have cT:((wp:Int) != 3)=true:=by simp;omega
    have bG:((r.phase:Int)==1)=false:=by rw[h3];rfl
    clear hB h3 hw;go_wp2
    (try simp only[Exit.inBlock,Exit.then])
    go_end0;exact⟨⟨_,rfl⟩,Aa bE⟩
open Go.RowKit
def Dh(k:Nat)(s:P32.S):P32.S:=⟨fun i u=>if u=false∧i<k then P31.stop (s.run i u) else s.run i u,s.done,s.undone,2⟩
theorem Sp(s:P32.S):Dh 0 s=⟨s.run,s.done,s.undone,2⟩:=by simp[Dh]
theorem So(k:Nat)(s:P32.S):Dh (k+1) s=⟨P32.setR (Dh k s).run k false (P31.stop (s.run k false)),s.done,s.undone,2⟩:=by
 unfold Dh
 congr 1
 funext j u
 simp only[P32.setR];by_cases h:j=k∧u=false
 ·obtain⟨rfl,rfl⟩:=h;simp
 ·rw[if_neg h];by_cases hu:u=false
  ·by_cases hj:j<k
   ·rw[if_pos ⟨hu,by omega⟩,if_pos ⟨hu,hj⟩]
   ·rw[if_neg (by rintro⟨_,h2⟩;exact h ⟨by omega,hu⟩),if_neg (by rintro⟨_,h2⟩;exact hj h2)]
  ·rw[if_neg (fun h2=>hu h2.1),if_neg (fun h2=>hu h2.1)]
theorem Vo(k:Nat)(s:P32.S):(Dh k s).run k false=s.run k false:=by simp[Dh]
theorem SA.status{w0 W:World}{M0:Nat→Prop}{b bm rb C h1 h2 ob:Nat}{vs:Nat→Value}{d:Af}{x:P32.S × List P32.Order}(h:SA w0 M0 b bm rb C h1 h2 ob vs d x W)(st:Nat):SA w0 M0 b bm rb C h1 h2 ob vs d (⟨x.1.run,x.1.done,x.1.undone,st⟩,x.2) (W.setCell ⟨b,7,none⟩ (.int .u8 (st:Int))):=by
 obtain⟨dn,un,v,I,k2,k3,J,k5,Z⟩:=h.ex;exact h.write I k2 k3 J k5 Z (I.setStatus st) ((KW.refl _ _).setCell (b:=b) (o:=7) (.inl (.inl rfl)) _) (fun g hg=>.inl hg)
def Qa8(U:World)(bm:Nat)(L:List ((Int × Bool) × Value))(k:Int)(I:P31.Run)(J:Nat)(X:Value)(W:World):Prop:=match J with
 |0=>W=U
 |1=>Below U.heap.size U W∧X=Au I
 |_=>∃V,Below U.heap.size U V∧X=Au I∧Bi Bk W bm (De L (k,false) (Au I))∧V.grownBy W (some bm)
theorem P4{w0:World}{M0:Nat→Prop}{b bm rb C h1 h2 ob:Nat}{vs:Nat→Value}{d:Af}{x:P32.S × List P32.Order}(w:World)(h:SA w0 M0 b bm rb C h1 h2 ob vs d x w) :
  Calls Tryz.prog 106 #[qP0 b] w fun e w'=>(∃v,e=.returned v)∧SA w0 M0 b bm rb C h1 h2 ob vs d (P32.halt d.bare x.1,x.2) w':=by
 have aA:P32.halt d.bare x.1=Dh d.steps.length x.1:=by unfold P32.halt Dh;rw[Md.blen]
 rw[aA];have hS:=h.status 2;rw[←Sp]at hS;obtain⟨dn,un,k1⟩:=h.sg;have c7:=k1.cells.2.2.2.2.2;have bV:=k1.nle;obtain⟨cR,cP,k2⟩:=hS.sg;have c2:=k2.cells.1.1;obtain⟨W1,aG⟩:∃V,w.setCell ⟨b,7,none⟩ (.int .u8 2)=V:=⟨_,rfl⟩;have aT:SA w0 M0 b bm rb C h1 h2 ob vs d (Dh 0 x.1,x.2) W1:=by rw[←aG];exact hS
 have bL:W1.cell? ⟨b,2,none⟩=some (.slice d.sa d.steps.length d.sc):=by rw[←aG];exact c2
 obtain⟨N,hN⟩:=qeX d.steps.length;rw[hN]at bL bV ⊢;obtain⟨cS,cU⟩:=c7;have cG:=Ab aG;have H2:=Ab aT;clear aA hS k1 k2 hN h aT aG c2;go_enter Tryz.func106,Tryz.ntmps106
 go_upto_region 1 with fail
 rw[Aa cG];go_wp2
 go_loopg [13] N (fun g cD wx=>∃k:Nat,k+g=N∧cD=.int .i64 k∧Hid (SA w0 M0 b bm rb C h1 h2 ob vs d (Dh k x.1,x.2) wx))
 case atStart=>exact⟨0,by omega,by go_num,H2⟩
 case round=>
  obtain⟨k,cI,rfl,HX⟩:=hrel;cases gk with
  |zero=>
   have e1:(N:Int)≤(k:Int):=by omega
   have j1:decide ((k:Int)<(N:Int))=false:=by simp;omega
   obtain rfl:k=N:=by omega
   go_wp2;go_end0;exact⟨⟨_,rfl⟩,Aa HX⟩
  |succ g'=>
   have cO:(k:Int)<(N:Int):=by omega
   have cW:IntKind.i64.wrap ((k:Int)+1)=(k:Int)+1:=qG _ (by omega);obtain⟨K,hK⟩:=qeX wr.heap.size;obtain⟨W2,bJ,bF,g0,cK⟩:=As wr (.cells #[.int .i64 (k:Int),.bool false] 157) K hK;have aO:=(Aa HX).below (by rw[hK];exact bF);obtain⟨dn,un,v,k1,k2,k3,k4,k5,k6⟩:=aO.ex;have c4:=k1.cells.2.2.1.1;obtain⟨⟨q0,_⟩,⟨q1,_⟩⟩:=A2 g0;obtain⟨RK,aK⟩:∃r,x.1.run k false=r:=⟨_,rfl⟩;have aM:(Dh k x.1).run k false=RK:=(Vo k x.1).trans aK
   have hlk:∀q,(Instr.lookup 151 (.map (some bm)) (.agg #[.int .i64 (k:Int),.bool false]) false).run Tryz.prog (W2.drewN q)=.ok (Au RK) (W2.drewN q):=fun q=>by
    have:=(k1.mp.keep (W':=W2.drewN q) rfl).look k false;rw[show (Dh k x.1,x.2).1.run k false=RK from aM]at this;exact this
   have aD:=fun q=>Xm RK (W2.drewN q);have bD:RK.ok:=by rw[←aM];exact k1.ok k false
   obtain⟨rp,ra,rt,rl⟩:=RK;unfold Au at hlk aD;obtain⟨SP,aC⟩:∃y,P31.stop ⟨rp,ra,rt,rl⟩=y:=⟨_,rfl⟩;rw[aC]at aD;have aJ:SP.ok:=by rw[←aC];exact P31.stop_ok bD
   have aS:Dh (k+1) x.1=⟨P32.setR (Dh k x.1).run k false SP,x.1.done,x.1.undone,2⟩:=by rw[So,aK,aC]
   obtain⟨L,bC,hL⟩:=k1.mp;have bZ:=k1.mp.lt;have aU:=Ab bC;have bX:=Ab hL;have bQ:=Ab (And.intro k1 (And.intro k2 (And.intro k3 (And.intro k4 (And.intro k5 k6)))));have bO:=Ab bJ;have bM:=Ab aO;have aW:=Ab aD;have cB:=Ab aS;have bG:=Ab aJ;clear bJ aO aD aS aJ bD aM aK aC bF g0 k1 k2 k3 k4 k5 k6 bC hL;go_upto_region 5 with fail
   try rw[hK]
   rw[Aa bO];obtain⟨U,hU⟩:=qeX W2.drew;have I:∀V,Below U.heap.size U V→Below W2.heap.size W2 V:=fun V hV=>(show Below W2.heap.size W2 U by rw[←hU];exact(qU _ W2).drew).trans (hV.mono (by rw[←hU];exact qJ _));have aE:Below U.heap.size U U:=qU _ _;have aN:∀V,Below U.heap.size U V→V.cell? ⟨b,4,none⟩=some (.map (some bm)):=fun V hV=>(Ae ((I V hV).block b (Ad c4)) _).trans c4;have aQ:∀V,Below U.heap.size U V→V.cell? ⟨K,0,none⟩=some (.int .i64 (k:Int)):=fun V hV=>(Ae ((I V hV).block K (Ad q0)) _).trans q0;have aR:∀V,Below U.heap.size U V→V.cell? ⟨K,1,none⟩=some (.bool false):=fun V hV=>(Ae ((I V hV).block K (Ad q1)) _).trans q1;have cN:(Instr.lookup 151 (.map (some bm)) (.agg #[.int .i64 (k:Int),.bool false]) false).run Tryz.prog U=.ok (.agg #[.int .u8 (rp:Int),.int .i64 ra,.int .i64 rt,.bool rl]) U:=by rw[←hU];exact hlk 1
   have aY:Calls Tryz.prog 149 #[.agg #[.int .u8 (rp:Int),.int .i64 ra,.int .i64 rt,.bool rl]] U fun e w'=>e=.returned (.agg #[.int .u8 (SP.phase:Int),.int .i64 SP.att,.int .i64 SP.til,.bool SP.last])∧Below U.heap.size U w':=by rw[←hU];exact Aa aW 1
   have bE:∀(Z:Nat) (X:Value) (W:World),Z≤1→Qa8 U bm L (k:Int) SP Z X W→W.cell? ⟨b,4,none⟩=some (.map (some bm))∧W.cell? ⟨K,0,none⟩=some (.int .i64 (k:Int))∧W.cell? ⟨K,1,none⟩=some (.bool false):=by
    intro Z X W cV J
    have hb:Below U.heap.size U W:=by
     rcases Z with _|_|Z
     ·rw[show W=U from J];exact aE
     ·exact J.1
     ·omega
    exact⟨aN W hb,aQ W hb,aR W hb⟩
   have cM:=aN U aE;have cH:=aQ U aE;have cQ:=aR U aE;have aX:∀V,Below U.heap.size U V→Bi Bk V bm L:=fun V hV=>(Aa aU).keep ((I V hV).block bm bZ);have bY:=Ab bE;have cC:=Ab aX;have bT:=Ab aY;have bU:=Ab I;have aZ:=enters_of Tryz.func149 (by kernel_rfl) rfl;clear I aN aQ aR bE aX aY hlk c4 q0 q1 aW aU;refine A7 Bj [11,12] (fun Z aF W=>∃X,aF={ tmps:=#[qP0 b,uZ,nI k,qP0 K,qP0 b,qP0 b,pT b 7,qP0 b,qP0 b,qP0 b,pT b 2,.slice d.sa N d.sc,nI N,nI k,.bool true,nI k,nI k,.agg #[nI k,.bool false],qP0 b,qP0 b,pT b 4,.map (some bm),.agg #[nI k,.bool false],qP0 b,qP0 b,pT b 4,.map (some bm),.agg #[nI k,.bool false],.agg #[.int .u8 (rp:Int),.int .i64 ra,.int .i64 rt,.bool rl],X,u30],defers:=[] }∧Qa8 U bm L (k:Int) SP Z X W) (by kernel_rfl) (by kernel_rfl) (by decide) ⟨undef,rfl,hU⟩ rfl rfl (Dw 18 12 (by kernel_rfl) rfl rfl) ?pure ?write ?fin
   case pure=>
    rintro Z aF W ix o ⟨X,rfl,J⟩ ho bI aI;rcases ix with _|_|_|_|_|_|_|_|_|_|_|_|_|ix
    iterate 3
     ·refine wq ho rfl rfl rfl rfl ?_
      go_simp
    iterate 2
     ·have cA:Z≤1:=aI 1 12 rfl (by kernel_rfl);obtain⟨cX,cT,cJ⟩:=Aa bY Z X W cA J;refine wq ho rfl rfl rfl rfl ?_
      go_simp
    iterate 3
     ·refine wq ho rfl rfl rfl rfl ?_
      go_simp
    iterate 3
     ·have cL:Z≤0:=aI 0 11 rfl (by kernel_rfl);obtain rfl:Z=0:=by omega
      have aP:W=U:=J;subst aP;refine wq ho rfl rfl rfl rfl ?_
      go_simp
    ·exact absurd (by simp) bI
    ·exact absurd (by simp) bI
    ·exfalso;simp at ho
   case write=>
    rintro Z aF W ix o ⟨X,rfl,J⟩ hi ho;rcases Z with _|_|Z
    ·cases (show some 11=some ix from hi);have aL:some _=some o:=ho;cases aL;have aP:W=U:=J;subst aP;refine⟨rfl,.inr (.inr ⟨149,#[.agg #[.int .u8 (rp:Int),.int .i64 ra,.int .i64 rt,.bool rl]],W,?_,?_⟩)⟩
     ·simp[execOp,resolve,invoke,Act.eval,aZ,Result.andThen,Deferred.ofValue]
     ·refine(Aa bT).mono ?_;rintro e w4 ⟨rfl,b4⟩;exact⟨_,rfl,⟨_,rfl,b4,rfl⟩⟩
    ·cases (show some 12=some ix from hi);have aL:some _=some o:=ho;cases aL;obtain⟨b4,rfl⟩:=J;obtain⟨W',hr,r1,r2,_,_⟩:=(Aa cC W b4).put E0 Tryz.underlying151 ((k:Int),false) (Au SP);refine⟨rfl,.inr (.inl ⟨W',?_,⟨_,rfl,W,b4,rfl,r1,r2⟩⟩)⟩;have bW:(Instr.mapUpdate 151 (.map (some bm)) (.agg #[.int .i64 (k:Int),.bool false]) (Au SP)).run Tryz.prog W=.ok () W':=hr;simp[execOp,Act.eval,bW,Result.andThen]
    ·simp at hi
   case fin=>
    rintro Z aF W6 hk ⟨X,rfl,J⟩;obtain⟨Z,rfl⟩:∃k',Z=k'+2:=⟨Z-2,by simp at hk;omega⟩;obtain⟨V,b4,rfl,aH,aB⟩:=J;have HE:=Ab (And.intro (Aa bU V b4) (And.intro aH aB));clear b4 aH aB;go_wp2;go_roundg g'
    case measure=>omega
    case rel=>
     refine⟨k+1,by omega,by go_num,Ab ?_⟩;obtain⟨I,aH,aB⟩:=Aa HE;obtain⟨k1,k2,k3,k4,k5,k6⟩:=Aa bQ;have cF:=(Aa bM).below I;have s4:=k1.below I
     have bK:∀j c,(P32.setR (Dh k x.1).run k false SP j c).ok:=fun j c=>by
      unfold P32.setR;split
      ·exact Aa bG
      ·exact k1.ok j c
     have s6:=s4.setWay (Ec.set (Aa bX) k false SP aH) aB bK;rw[Aa cB];exact cF.write s4 ((I.block _ (qA.1 k2).1).trans k2) (k3.keep (fun g hg=>I.block g (k3.lt hg).2)) k4 k5 k6 s6 ((KW.refl _ _).grown aB (fun k e=>by cases e;exact .inl (.inr (.inl rfl)))) (fun g hg=>.inl hg)
open Go.RowKit
theorem Bt(d:Af){k:Nat}{s:Ai}(h:d.steps[k]?=some s):P32.stepAt d.bare k=s.bare:=by
 unfold P32.stepAt;rw[List.getD_eq_getElem?_getD];simp[Af.bare,h]
def Sj(d:P22.Def)(n:Int)(k:Nat)(x:P32.S × List P32.Order):P32.S × List P32.Order:=(List.range k).foldl (P32.go1 d n) x
theorem K3(d:P22.Def)(n:Int)(k:Nat)(x:P32.S × List P32.Order):Sj d n (k+1) x=P32.go1 d n (Sj d n k x) k:=by simp[Sj,List.range_succ]
theorem put_len(i:Nat)(u:Bool)(r:P31.Run)(x:P32.S × List P32.Order):(P32.put i u r x).2.length≤x.2.length+1:=by
 show (if r.phase=1∧r.att≠(x.1.run i u).att then x.2++[⟨i,r.att,u,r.til⟩] else x.2).length≤x.2.length+1;split
 ·simp
 ·omega
theorem Zm(d:P22.Def)(n:Int)(x:P32.S × List P32.Order)(i:Nat):(P32.go1 d n x i).2.length≤x.2.length+1:=by
 unfold P32.go1;split
 ·exact put_len _ _ _ _
 ·omega
theorem Ol(d:P22.Def)(n:Int)(x:P32.S × List P32.Order):∀k,(Sj d n k x).2.length≤x.2.length+k
 |0=>by simp[Sj]
 |k+1=>by
  rw[K3];have:=Ol d n x k;have:=Zm d n (Sj d n k x) k;omega
theorem K1{d:P22.Def}{n:Int}{x:P32.S × List P32.Order}(h:P32.Good d x)(hs:x.1.status=1):∀k,k≤d.steps.length→P32.Good d (Sj d n k x)∧(Sj d n k x).1.status=1
 |0,_=>⟨h,hs⟩
 |k+1,hk=>by
  rw[K3];obtain⟨h1,h2⟩:=K1 h hs k (by omega);have h3:=P32.good_go1 (n:=n) h1 h2 (show k<d.steps.length by omega);exact⟨h3.1,h3.2.1⟩
theorem F3(args:Array Value)(W:World):(callFunc 146 args).run Tryz.prog W=.ok (.enter 146 args) W:=enters_of Tryz.func146 (by kernel_rfl) rfl args W
theorem Vk{w0:World}{M0:Nat→Prop}{b bm rb C h1 h2 ob:Nat}{vs:Nat→Value}{d:Af}{x:P32.S × List P32.Order}(n:Int)(w:World)(h:SA w0 M0 b bm rb C h1 h2 ob vs d x w)(hg:P32.Good d.bare x)(hs:x.1.status=1)(cO:x.2.length≤800000) :
  Calls Tryz.prog 147 #[qP0 b,.func (.func 146) #[] #[qP0 h1,qP0 h2],.int .i64 n] w fun e w'=>(∃v,e=.returned v)∧SA w0 M0 b bm rb C h1 h2 ob vs d (P32.forth d.bare n x) w':=by
 obtain⟨dn,un,J⟩:=h.sg;have aB:=Ua 4 w J;have aC:=P4 w h;obtain⟨AN,bJ⟩:∃y,P32.anyP d.bare x.1 4=y:=⟨_,rfl⟩;have hf:P32.forth d.bare n x=if AN=true then (P32.halt d.bare x.1,x.2) else if x.1.done.length=d.bare.steps.length then (⟨x.1.run,x.1.done,x.1.undone,3⟩,x.2) else Sj d.bare n d.bare.steps.length x:=by unfold P32.forth;rw[bJ];rfl
 rw[hf,Md.blen];rw[bJ]at aB;have c2:=J.cells.1.1;have c5:=J.cells.2.2.2.1.1;have c7:=J.cells.2.2.2.2.2;have aM:=J.nle;obtain⟨da,dc,aT,_,_,_⟩:=J.odn.slice;rw[aT]at c5;have aG:=h.status 3;have aN:=Ab aB;have bG:=Ab aC;have cA:=Ab aG;have H:=Ab h;have HG:=Ab hg;cases AN with
 |true=>
  rw[if_pos rfl];clear aB aC aG h hg hf c7 aM;go_enter Tryz.func147,Tryz.ntmps147
  go_wp2_with (first|(go_at_call 187;refine(Aa aN).mono ?_;rintro e w' ⟨rfl,hw⟩;obtain rfl:=hw.symm)|(go_at_call 106;refine(Aa bG).mono ?_;rintro e w3 ⟨⟨v,rfl⟩,aA⟩))
  exact qV (results_none rfl _ _ _) rfl ⟨⟨_,rfl⟩,aA⟩
 |false=>
  rw[if_neg (by simp)];by_cases hl:x.1.done.length=d.steps.length
  ·rw[if_pos hl];obtain⟨cV,cW⟩:=c7;rw[←hl]at c2;obtain⟨DL,Z⟩:∃y,x.1.done.length=y:=⟨_,rfl⟩;rw[Z]at c2 c5;clear aB aC aG h hg hf aM hl Z aT J;go_enter Tryz.func147,Tryz.ntmps147
   go_upto_region 2 with(go_at_call 187;refine(Aa aN).mono ?_;rintro e w' ⟨rfl,hw⟩;obtain rfl:=hw.symm)
   go_quiet (fail)
   go_wp2;refine qV (results_none rfl _ _ _) rfl ⟨⟨_,rfl⟩,?_⟩;have h8:=((Aa H).below (W':=w.drewN nq) (Ac (qU _ _))).status 3;exact h8
  ·rw[if_neg hl];have bC:=J.steps;obtain⟨sg,so,aA,_⟩:=J.steps;obtain⟨N,hN⟩:=qeX d.steps.length;obtain⟨DL,Z⟩:∃y,x.1.done.length=y:=⟨_,rfl⟩;have cT:((DL:Int)==(N:Int))=false:=by simp;omega
   rw[Z]at c5;rw[aA,hN]at c2;rw[hN]at aM ⊢;have cM:=Ab hN;have bX:Hid (SA w0 M0 b bm rb C h1 h2 ob vs d (Sj d.bare n 0 x) w):=Ab h;have bL:=Ab aA;have he:=F3;clear aB aC aG h hg hf hl Z aT J bC bG cA c7 hN aA;go_enter Tryz.func147,Tryz.ntmps147
   go_upto_region 2 with(go_at_call 187;refine(Aa aN).mono ?_;rintro e w' ⟨rfl,hw⟩;obtain rfl:=hw.symm)
   go_quiet (fail)
   go_wp2
   go_loopg [33] N (fun g bW wx=>∃k:Nat,k+g=N∧bW=.int .i64 k∧Hid (SA w0 M0 b bm rb C h1 h2 ob vs d (Sj d.bare n k x) wx))
   case atStart=>exact⟨0,by omega,by go_num,Ab ((Aa bX).below (Ac (qU _ _)))⟩
   case round=>
    obtain⟨k,cQ,rfl,HX⟩:=hrel;clear c2 c5;cases gk with
    |zero=>
     have e1:(N:Int)≤(k:Int):=by omega
     have j1:decide ((k:Int)<(N:Int))=false:=by simp;omega
     obtain rfl:k=N:=by omega
     go_wp2;go_end0;exact⟨⟨_,rfl⟩,Aa HX⟩
    |succ g'=>
     have cR:(k:Int)<(N:Int):=by omega
     have cX:IntKind.i64.wrap ((k:Int)+1)=(k:Int)+1:=qG _ (by omega);have aR:k<d.steps.length:=by rw[Aa cM];omega
     obtain⟨s1,aD⟩:∃s,d.steps[k]?=some s:=⟨_,qO aR⟩;obtain⟨K,hK⟩:=qeX wr.heap.size;obtain⟨dn,un,J⟩:=(Aa HX).sg;obtain⟨cC,cI,aK,aY⟩:=J.steps
     obtain⟨e3,e4⟩:cC=sg∧cI=so:=by
      have:=(Aa bL).symm.trans aK;cases this;exact⟨rfl,rfl⟩
     subst e3;subst e4;obtain⟨⟨t0,t1,t2,t3⟩,⟨t4,t5,t6,t7⟩,⟨t8,t9,bM,bE,cH⟩⟩:=Ar (aY k s1 aD);obtain⟨W2,aS,bF,g0,cD⟩:=As wr (.cells #[.string ⟨s1.name.toArray⟩,.string ⟨s1.action.toArray⟩,.string ⟨s1.undo.toArray⟩,s1.aV,.int .i64 s1.most,.int .i64 s1.first,.int .i64 s1.factor,.int .i64 s1.limit,.int .u8 s1.note.kind,.string ⟨s1.note.text.toArray⟩,s1.note.kV,s1.note.dV,.int .i64 s1.note.line] 63) K hK;have aQ:=(Aa HX).below (by rw[hK];exact bF);obtain⟨cU,cS,k2⟩:=aQ.sg;have hrd:=Wd k W2 k2 aR;have aE:=Mi s1 n W2;have bI:P32.stepAt d.bare k=s1.bare:=Bt d aD;obtain⟨RD,aO⟩:∃y,P32.ready d.bare (Sj d.bare n k x).1 k=y:=⟨_,rfl⟩;rw[aO]at hrd;obtain⟨cF,cK⟩:=K1 (n:=n) (Aa HG) hs k (by rw[Md.blen];omega);have aU:=Ol d.bare n x k
     have aL:Sj d.bare n (k+1) x=if RD=true then P32.put k false (P31.begin_ s1.bare n) (Sj d.bare n k x) else Sj d.bare n k x:=by
      rw[K3];unfold P32.go1;rw[aO,bI]
     have aI:=(K1 (n:=n) (Aa HG) hs (k+1) (by rw[Md.blen];omega)).1;obtain⟨⟨a0,b0⟩,⟨a1,b1⟩,⟨a2,b2⟩,⟨a3,b3⟩,⟨a4,b4⟩,⟨a5,b5⟩,⟨a6,b6⟩,⟨a7,b7⟩,⟨a8,b8⟩,⟨a9,b9⟩,⟨aX,cB⟩,⟨aZ,cG⟩,⟨bV,cJ⟩⟩:=Am g0;simp only[Ai.aV,Nd.kV,Nd.dV]at t3 bM bE a3 aX aZ aS;have cN:Below (K+1) W2 (W2.drewN 0):=Ac (qU _ _);obtain⟨BG,aP⟩:∃y,P31.begin_ s1.bare n=y:=⟨_,rfl⟩;have aJ:BG.ok:=by rw[←aP];exact P31.begin_ok _ _
     rw[aP]at aE aL;unfold Au at aE;have bD:=Ab aJ;have bZ:=Ab aS;have aW:=Ab aQ;have bQ:=Ab hrd;have bY:=Ab aE;have bO:=Ab aL;have bU:=Ab aU;have bT:=Ab aI;have cP:=Ab aD;clear aP aJ aS bF g0 aQ hrd aE aL aU aI cF cK aD J k2 aY aK aO bI cN b0 b1 b2 b3 b4 b5 b6 b7 b8 b9 cB cG cJ;go_upto_region 7 with fail
     try rw[hK]
     rw[Aa bZ];clear t0 t1 t2 t3 t4 t5 t6 t7 t8 t9 bM bE cH;cases RD with
     |false=>
      go_wp2_with (go_at_call 188;refine(Aa bQ).mono ?_;rintro e w4 ⟨rfl,I⟩;have I:=I.symm;subst I)
      go_roundg g'
      case measure=>omega
      case rel=>
       refine⟨k+1,by omega,by go_num,Ab ?_⟩;have e:=Aa bO;rw[if_neg (by simp)]at e;rw[e];exact Aa aW
     |true=>
      go_upto_region 8 with(go_at_call 188;refine(Aa bQ).mono ?_;rintro e w4 ⟨rfl,I⟩;have I:=I.symm;subst I)
      go_wp2_with (go_at_call 189;refine(Aa bY).mono ?_;rintro e w5 ⟨rfl,aH⟩;have he:=F3;revert aH)
      intro aH;have e:=Aa bO;rw[if_pos (by trivial)]at e;have hp:=Ke k false BG w5 ((Aa aW).below (by rw[cD];exact aH)) aR (Aa bD) (by rw[←e];exact(Aa bT).inv) (by have:=Aa bU;omega);unfold Au at hp;rw[←e]at hp;have HP:=Ab hp;clear hp aH a0 a1 a2 a3 a4 a5 a6 a7 a8 a9 aX aZ bV;go_wp2_with (go_at_call 146;refine(Aa HP).mono ?_;rintro e w6 ⟨⟨v6,rfl⟩,bK⟩;clear he;have cL:=Ab bK;clear bK)
      go_roundg g'
      case measure=>omega
      case rel=>exact⟨k+1,by omega,by go_num,cL⟩
open Go.RowKit
attribute [local go_sem] Fo
theorem Pn{d:P22.Def}{n:Int}{f:Nat}{x:P32.S × List P32.Order}(h:P32.turn x.1=none):P32.backGo d n (f+1) x=(⟨x.1.run,x.1.done,x.1.undone,4⟩,x.2):=by
 rw[P32.backGo,h]
theorem Jm{d:P22.Def}{n:Int}{f i:Nat}{x:P32.S × List P32.Order}(h:P32.turn x.1=some i)(hc:(P33.undoOf d i).isEmpty=true∨(x.1.run i true).phase=3):P32.backGo d n (f+1) x=P32.backGo d n f (⟨x.1.run,x.1.done,x.1.undone++[i],x.1.status⟩,x.2):=by
 rw[P32.backGo,h];exact if_pos hc
theorem N9{d:P22.Def}{n:Int}{f i:Nat}{x:P32.S × List P32.Order}(h:P32.turn x.1=some i)(hc:¬((P33.undoOf d i).isEmpty=true∨(x.1.run i true).phase=3))(h4:(x.1.run i true).phase=4):P32.backGo d n (f+1) x=(⟨x.1.run,x.1.done,x.1.undone,5⟩,x.2):=by
 rw[P32.backGo,h];show (if _ then _ else _)=_;rw[if_neg hc,if_pos h4]
theorem R0{d:P22.Def}{n:Int}{f i:Nat}{x:P32.S × List P32.Order}(h:P32.turn x.1=some i)(hc:¬((P33.undoOf d i).isEmpty=true∨(x.1.run i true).phase=3))(h4:(x.1.run i true).phase≠4):P32.backGo d n (f+1) x=if (x.1.run i true).phase=0 then P32.put i true (P31.begin_ (P32.stepAt d i) n) x else x:=by
 rw[P32.backGo,h];show (if _ then _ else _)=_;rw[if_neg hc,if_neg h4]
theorem Mv{d:P22.Def}{i:Nat}{x:P32.S × List P32.Order}(h:P32.Good d x)(hs:x.1.status=2)(hj:∀j,(x.1.run j false).phase≠1)(ht:P32.turn x.1=some i)(hc:(P33.undoOf d i).isEmpty=true∨(x.1.run i true).phase=3):P32.Good d (⟨x.1.run,x.1.done,x.1.undone++[i],x.1.status⟩,x.2):=by
 have hi:=h.inv;have aA:=P32.turn_more ht
 have J:∀k,¬((x.1.run k true).phase=1∨(x.1.run k true).phase=2∨(x.1.run k true).phase=4):=fun k hk=>by
  obtain⟨q1,Z⟩:=hi.trn k hk;rw[ht]at q1;cases q1;rcases hc with hc|hc
  ·rw[hc]at Z;cases Z
  ·omega
 refine⟨⟨hi.ok,hi.rng,hi.nodup,hi.dn,P32.und_more hi.und ht,by simp only[qH,qS];omega,hi.refs,hi.st,fun I=>(by have I:x.1.status=0:=I;omega),fun hf=>(by have hf:x.1.status≤1∨x.1.status=3:=hf;omega),hi.halted,fun _=>hj,hi.tru,fun k hk=>absurd hk (J k),fun I=>(by have I:x.1.status=3:=I;omega),fun I=>(by have I:x.1.status=4:=I;omega),fun I=>(by have I:x.1.status=5:=I;omega)⟩,fun o ho=>?_⟩;obtain⟨q1,Z,q3,q4⟩:=h.out o ho;exact⟨q1,Z,q3,fun hu=>absurd (.inl (q4 hu).2.2) (J o.step)⟩
theorem Rc(d:Af){i:Nat}{s:Ai}(h:d.steps[i]?=some s):P33.undoOf d.bare i=s.undo:=by
 unfold P33.undoOf P28.undos;simp[Af.bare,Ai.bare,List.getD_eq_getElem?_getD,h]
theorem Z0{s:P32.S}{i j:Nat}(h:s.done[j]?=some i)(hj:j+1+s.undone.length=s.done.length):P32.turn s=some i:=by
 unfold P32.turn;rw[List.getElem?_reverse (by omega)];rw[show s.done.length-1-s.undone.length=j by omega];exact h
theorem Y1{s:P32.S}(h:s.undone.length=s.done.length):P32.turn s=none:=by
 unfold P32.turn;rw[List.getElem?_eq_none_iff];simp;omega
theorem SA.undo{w0 A Z:World}{M0:Nat→Prop}{b bm rb C h1 h2 ob i g' c':Nat}{vs:Nat→Value}{d:Af}{x:P32.S × List P32.Order}{dn un v:Value}(h:SA w0 M0 b bm rb C h1 h2 ob vs d x A)(k1:Sg A b bm rb C vs d dn un x.1)(k2:A.heap[ob]?=some (.cells #[v] 105))(k3:Ba A C v x.2)
  (k4:∀g,v.ownBlock=some g→¬Mb b bm dn un g∧g≠h1∧g≠h2∧g≠ob∧(M0 g∨w0.heap.size≤g)) (k5:∀g,Mb b bm dn un g→g≠h1∧g≠h2∧g≠ob) (k6:∀g,Mb b bm dn un g→M0 g∨w0.heap.size≤g)
  (ho:A5 Z C (.slice (some ⟨g',0,none⟩) (x.1.undone.length+1) c') (x.1.undone++[i])) (hg:A.grownBy Z un.ownBlock) (I:un.ownBlock=some g'∨g'=A.heap.size) (J:x.1.undone.length+1≤x.1.done.length) :
  SA w0 M0 b bm rb C h1 h2 ob vs d (⟨x.1.run,x.1.done,x.1.undone++[i],x.1.status⟩,x.2) (Z.setCell ⟨b,6,none⟩ (.slice (some ⟨g',0,none⟩) (x.1.undone.length+1) c')):=
 h.write k1 k2 k3 k4 k5 k6 (k1.appUn ho hg (I.elim (fun e=>.inl e.symm) (fun e=>.inr (congrArg some e))) J) (((KW.refl _ _).grown hg (fun k e=>.inl (.inr (.inr (.inr e))))).setCell (b:=b) (o:=6) (.inl (.inl rfl)) _)
  (fun g hg=>hg.elim (fun e=>.inl (.inl e)) (fun hg=>hg.elim (fun e=>.inl (.inr (.inl e))) (fun hg=>hg.elim (fun e=>.inl (.inr (.inr (.inl e)))) (fun e=>I.elim (fun q=>.inl (.inr (.inr (.inr (by have e:some g'=some g:=e;cases e;exact q))))) (fun q=>.inr (by have e:some g'=some g:=e;cases e;omega))))))
def Qbr(U:World)(BG:P31.Run)(S:World→Prop)(I:Nat)(X:Value)(W:World):Prop:=match I with
 |0=>W=U
 |1=>Below U.heap.size U W∧X=Au BG
 |_=>S W
theorem Po{w0:World}{M0:Nat→Prop}{b bm rb C h1 h2 ob:Nat}{vs:Nat→Value}{d:Af}{x:P32.S × List P32.Order}(n:Int)(w:World)(h:SA w0 M0 b bm rb C h1 h2 ob vs d x w)(hg:P32.Good d.bare x)(hs:x.1.status=2)(bU:x.2.length≤1000000) :
  Calls Tryz.prog 148 #[qP0 b,.func (.func 146) #[] #[qP0 h1,qP0 h2],.int .i64 n] w fun e w'=>(∃v,e=.returned v)∧SA w0 M0 b bm rb C h1 h2 ob vs d (P32.back d.bare n x) w':=by
 obtain⟨dn,un,k1⟩:=h.sg;have cD:=Ua 1 w k1;have aQ:=k1.ul;obtain⟨AN,dB⟩:∃y,P32.anyP d.bare x.1 1=y:=⟨_,rfl⟩;have hf:P32.back d.bare n x=if AN=true then x else P32.backGo d.bare n (x.1.done.length-x.1.undone.length+1) x:=by unfold P32.back;rw[dB]
 rw[hf];have dW:AN=false→∀j,(x.1.run j false).phase≠1:=fun e=>P32.anyP_false hg.inv (by decide) (dB.trans e);rw[dB]at cD;have dU:=Ab cD;have dH:=Ab h;have eL:=Ab dW;have HG:=Ab hg;clear cD h dW hg k1 hf;cases AN with
 |true=>
  rw[if_pos rfl];go_enter Tryz.func148,Tryz.ntmps148
  go_wp2;go_step3;go_wp2_with (go_at_call 187;refine(Aa dU).mono ?_;rintro e w' ⟨rfl,hw⟩;obtain rfl:=hw.symm)
  rw[Exit.noGoto_ret];exact qV (results_none rfl _ _ _) rfl ⟨⟨_,rfl⟩,Aa dH⟩
 |false=>
  rw[if_neg (by simp)];obtain⟨M,hM⟩:=qeX (x.1.done.length-x.1.undone.length);obtain⟨BK,bK⟩:∃y,P32.backGo d.bare n (x.1.done.length-x.1.undone.length+1) x=y:=⟨_,rfl⟩;rw[bK];rw[hM]at bK;obtain⟨OS,cB⟩:∃z,x.2=z:=⟨_,rfl⟩;rw[cB]at bU;have fW:Hid (P32.Good d.bare x∧x.1.status=2∧(∀j,(x.1.run j false).phase≠1)∧x.2=OS∧x.1.undone.length+M=x.1.done.length∧P32.backGo d.bare n (M+1) x=BK):=Ab ⟨Aa HG,hs,Aa eL rfl,cB,by omega,bK⟩;have he:=F3;clear hM bK aQ hs HG eL cB;go_enter Tryz.func148,Tryz.ntmps148
  go_wp2;go_step3;go_wp2_with (go_at_call 187;refine(Aa dU).mono ?_;rintro e w' ⟨rfl,hw⟩;obtain rfl:=hw.symm)
  go_step3;go_wp2
  go_loopg [] M (fun g wx=>∃y:P32.S × List P32.Order,Hid (SA w0 M0 b bm rb C h1 h2 ob vs d y wx)∧Hid (P32.Good d.bare y∧y.1.status=2∧(∀j,(y.1.run j false).phase≠1)∧y.2=OS∧y.1.undone.length+g=y.1.done.length∧P32.backGo d.bare n (g+1) y=BK))
  case atStart=>exact⟨x,dH,fW⟩
  case round=>
   obtain⟨y,HX,HI⟩:=hrel;obtain⟨dn,un,k1⟩:=(Aa HX).sg;obtain⟨da,dc,fA,_,_,fL⟩:=k1.odn.slice;obtain⟨ua,uc,fM,_,_,_⟩:=k1.oun.slice;subst fA;subst fM;have c5:=k1.cells.2.2.2.1.1;have c6:=k1.cells.2.2.2.2.1.1;obtain⟨aO,aP⟩:=k1.cells.2.2.2.2.2;have eT:=k1.nle;have fD:=k1.dlen;have eI:=k1.dl;obtain⟨DL,bD⟩:∃z,y.1.done.length=z:=⟨_,rfl⟩;obtain⟨UL,bY⟩:∃z,y.1.undone.length=z:=⟨_,rfl⟩;obtain⟨N,hN⟩:∃z,d.steps.length=z:=⟨_,rfl⟩;have gF:UL+gk=DL:=by have:=(Aa HI).2.2.2.2.1;omega
   rw[bD]at c5;rw[bY]at c6;rw[bD,hN]at fD;rw[hN]at eT eI;have bM:=Ab bD;have aG:=Ab bY;have HN:=Ab hN;clear bD bY hN k1;cases gk with
   |zero=>
    have e1:(DL:Int)≤(UL:Int):=by omega
    have j1:decide ((UL:Int)<(DL:Int))=false:=by simp;omega
    go_upto_region 1 with fail
    go_quiet (fail)
    go_wp2;simp only[Exit.noGoto_normal];go_end0;refine⟨⟨_,rfl⟩,?_⟩;have hi:=Aa HI;have hb:=hi.2.2.2.2.2;rw[Pn (Y1 (by have:=Aa bM;have:=Aa aG;omega))]at hb;rw[←hb];exact((Aa HX).below (W':=wr.drewN nq) (Ac (qU _ _))).status 4
   |succ g'=>
    have e1:(UL:Int)<(DL:Int):=by omega
    obtain⟨IX,gE⟩:∃z,z+1+UL=DL:=⟨DL-1-UL,by omega⟩;obtain⟨i,hi⟩:∃i,y.1.done[IX]?=some i:=⟨_,qO (by have:=Aa bM;omega)⟩;have aC:P32.turn y.1=some i:=Z0 hi (by have:=Aa bM;have:=Aa aG;omega);have gM:i<N:=eI i (qN hi);obtain⟨db,dO,rfl,bF⟩:=fL IX i hi;have q1:IntKind.i64.wrap ((DL:Int)-1)=(DL:Int)-1:=qG _ (by omega);have q2:IntKind.i64.wrap ((DL:Int)-1-(UL:Int))=(IX:Int):=by rw[qG _ (by omega)];omega
    have q3:(IX:Int)<(DL:Int):=by omega
    have j1:decide ((UL:Int)<(DL:Int))=true:=by simp;omega
    unfold iv at bF;go_upto_region 1 with fail
    go_quiet (fail)
    go_wp2;obtain⟨V,hV⟩:=qeX (wr.drewN nq);have aW:Below wr.heap.size wr V:=by rw[←hV];exact Ac (qU _ _)
    have eF:=Ab ((Aa HX).below aW);have fI:=(Ae (aW.block b (Ad c5)) _).trans c5;have fS:=(Ae (aW.block b (Ad c6)) _).trans c6;have fX:=(Ae (aW.block db (Ad bF)) _).trans bF;rw[hV];clear hV aW HX c5 c6 bF aO aP;go_quiet (fail)
    obtain⟨V2,cZ⟩:∃Z,V.drewN nq=Z:=⟨_,rfl⟩;have cK:=Ab ((Aa eF).below (show Below V.heap.size V V2 by rw[←cZ];exact Ac (qU _ _)));rw[cZ];clear cZ fI fS fX eF q1 q2 q3 e1 j1;obtain⟨K,hK⟩:=qeX V2.heap.size;obtain⟨eY,eX,k2⟩:=(Aa cK).sg;have dK:Hid (True∧b<K):=Ab ⟨trivial,by rw[←hK];exact k2.lt (.inl (.inl rfl))⟩;obtain⟨sg,so,dJ,eD⟩:=k2.steps;have c2:=k2.cells.1.1;rw[dJ,Aa HN]at c2;have gG:(i:Int)<(N:Int):=by omega
    have dY:i<d.steps.length:=by rw[Aa HN];omega
    obtain⟨s1,cF⟩:∃s,d.steps[i]?=some s:=⟨_,qO dY⟩;obtain⟨⟨t0,t1,t2,t3⟩,⟨t4,t5,t6,t7⟩,⟨t8,t9,eA,dR,fR⟩⟩:=Ar (eD i s1 cF);obtain⟨W1,cI,eC,g0,cC⟩:=As V2 (.cells #[.string ⟨s1.name.toArray⟩,.string ⟨s1.action.toArray⟩,.string ⟨s1.undo.toArray⟩,s1.aV,.int .i64 s1.most,.int .i64 s1.first,.int .i64 s1.factor,.int .i64 s1.limit,.int .u8 s1.note.kind,.string ⟨s1.note.text.toArray⟩,s1.note.kV,s1.note.dV,.int .i64 s1.note.line] 63) K hK;obtain⟨W2,dZ,cH,g1,eG⟩:=As W1 (.cells #[.int .i64 (i:Int),.bool true] 157) (K+1) cC;have cU:=(cH.block K (by omega)).trans g0;have eK:=((Aa cK).below (by rw[hK];exact eC)).below (by rw[cC];exact cH);obtain⟨⟨a0,b0⟩,⟨a1,b1⟩,⟨a2,b2⟩,⟨a3,b3⟩,⟨a4,b4⟩,⟨a5,b5⟩,⟨a6,b6⟩,⟨a7,b7⟩,⟨a8,b8⟩,⟨a9,b9⟩,⟨bJ,eR⟩,⟨bE,eW⟩,⟨cO,fY⟩⟩:=Am cU;obtain⟨⟨bL,_⟩,⟨bO,_⟩⟩:=A2 g1;simp only[Ai.aV,Nd.kV,Nd.dV]at t3 eA dR a3 bJ bE cI;have fB:=Ab cI;have eQ:=Ab dZ;have aK:=Ab eK;have eH:=Ab cF;have dN:=Ab cU;have fC:=Ab g1;clear cI dZ eK cF eC cH g0 g1 cU eD k2 cK dJ b0 b1 b2 b3 b4 b5 b6 b7 b8 b9 eR eW fY;go_upto_region 4 with fail
    try rw[hK]
    rw[Aa fB];clear t0 t1 t2 t3 t4 t5 t6 t7 t8 t9 eA dR fR c2;go_upto_region 5 with fail
    try rw[cC]
    rw[Aa eQ];obtain⟨eY,eX,k2⟩:=(Aa aK).sg;obtain⟨gI,gB,eM,_,_,_⟩:=k2.odn.slice;obtain⟨gN,gL,dF,_,_,_⟩:=k2.oun.slice;subst eM;subst dF;rw[Aa bM]at k2;rw[Aa aG]at k2;have c4:=k2.cells.2.2.1.1;have c6:=k2.cells.2.2.2.2.1.1;obtain⟨aO,aP⟩:=k2.cells.2.2.2.2.2;obtain⟨RK,cQ⟩:∃r,y.1.run i true=r:=⟨_,rfl⟩
    have hlk:∀V,V.heap[bm]?=W2.heap[bm]?→(Instr.lookup 151 (.map (some bm)) (.agg #[.int .i64 (i:Int),.bool true]) false).run Tryz.prog V=.ok (Au RK) V:=fun V hV=>by
     have:=(k2.mp.keep hV).look i true;rw[cQ]at this;exact this
    have eJ:=k2.mp.lt;have bX:=k2.bne;obtain⟨rp,ra,rt,rl⟩:=RK;unfold Au at hlk;have cN:∀q,(Instr.lookup 151 (.map (some bm)) (.agg #[.int .i64 (i:Int),.bool true]) false).run Tryz.prog (W2.drewN q)=.ok (.agg #[.int .u8 (rp:Int),.int .i64 ra,.int .i64 rt,.bool rl]) (W2.drewN q):=fun q=>hlk _ rfl;have cG:=Ab hlk;have cV:=Ab k2;have aL:=Ab cQ;have cL:=Ab (Rc d (Aa eH));clear hlk k2 cQ;by_cases hu:s1.undo=[]
    ·have bI:=a2;rw[hu]at bI;clear a2;go_upto_region 7 with fail
     obtain⟨W3,aA⟩:∃Z,W2=Z:=⟨_,rfl⟩;have aD:Hid (SA w0 M0 b bm rb C h1 h2 ob vs d y W3):=by rw[←aA];exact aK
     rw[aA];clear aA c4 c6 aO aP cN eJ bX aK cV cG a0 a1 a3 a4 a5 a6 a7 a8 a9 bJ bE cO bL bO eG;obtain⟨fF,eU,v3,k1,k2,k3,k4,k5,k6⟩:=(Aa aD).ex;obtain⟨fU,fG,aR,_,_,_⟩:=k1.oun.slice;subst aR;obtain⟨H,hH⟩:=qeX W3.heap.size;obtain⟨W4,aS,aE,g4,fZ⟩:=As W3 (.cells #[.int .i64 (i:Int)] 3) H hH;have aU:=(Aa aD).below (by rw[hH];exact aE);have s4:=k1.below (by rw[hH];exact aE);have bC:=(aE.block ob (by rw[←hH];exact(qA.1 k2).1)).trans k2;have aY:Ba W4 C v3 y.2:=Ba.keep k3 (fun g hg=>aE.block g (by rw[←hH];exact(k3.lt hg).2));have c6:=s4.cells.2.2.2.2.1.1;have aZ:=k1.cells.2.2.2.2.1.1;rw[Aa aG]at c6 aZ;have aJ:=s4.oun;rw[Aa aG]at aJ;have aX:=Ab aJ;have f6:=s4.cells.2.2.2.2.1.2;have aT:=s4.cw;have fE:=s4.bc;have cM:=Ab aS;have cJ:=Ab aU;have cS:=Ab s4;have cX:=Ab g4;have cA:=Ab (And.intro bC (And.intro aY (And.intro k4 (And.intro k5 k6))));clear aS aU s4 k1 k2 k3 k4 k5 k6 bC aY aE aD g4 aJ;go_wp2_with (at_builtin;revert hH)
     intro hH;try rw[hH]
     rw[Aa cM];refine Bf (j:=i) (by rfl) _ _ (by rfl) (by rfl) (Aa aX) H 1 (by rfl) (Aa cX) UL (Aa aG) (by omega) aT ?_;intro g5 dQ w5 J I aB dS;have aM:=I.block b (by omega) (fun e=>by have:=((Aa aX).lt e.symm).1;omega);have f5:=(World.frozen?_of_block (a:=⟨b,6,none⟩) aM).trans f6;have c5:=(zC (a:=⟨b,6,none⟩) aM).trans c6;have HE:=Ab (And.intro J (And.intro I aB));clear J I aB aM c6 f6 aZ aT;go_wp2;go_roundg g'
     case measure=>omega
     case rel=>
      obtain⟨J,I,aB⟩:=Aa HE;obtain⟨k2,k3,k4,k5,k6⟩:=Aa cA;obtain⟨i1,i2,i3,i4,i5,i6⟩:=Aa HI;have hc:(P33.undoOf d.bare i).isEmpty=true∨(y.1.run i true).phase=3:=by rw[Aa cL,hu];exact .inl rfl
      have aQ:y.1.undone.length+1≤y.1.done.length:=by omega
      rw[←Aa aG]at J I aB ⊢;refine⟨_,Ab ((Aa cJ).undo (Aa cS) k2 k3 k4 k5 k6 J I aB aQ),Ab ⟨Mv i1 i2 i3 aC hc,i2,i3,i4,by simp only[qH,qS];omega,?_⟩⟩;rw[←i6];exact(Jm aC hc).symm
    ·obtain⟨eV,fH,cP⟩:∃a l,s1.undo=a::l:=by
      cases hu':s1.undo with
      |nil=>exact absurd hu' hu
      |cons a l=>exact⟨_,_,rfl⟩
     have bI:=a2;rw[cP]at bI;clear a2;go_upto_region 6 with fail
     by_cases h3:rp=3
     ·have p3:((rp:Int)==3)=true:=by rw[h3];rfl
      go_quiet (fail)
      go_upto_region 7 with fail
      obtain⟨W3,aA⟩:∃Z,W2.drewN nq=Z:=⟨_,rfl⟩;have aD:Hid (SA w0 M0 b bm rb C h1 h2 ob vs d y W3):=by rw[←aA];exact Ab ((Aa aK).below (Ac (qU _ _)))
      rw[aA];clear aA c4 c6 aO aP cN eJ bX aK cV cG a0 a1 a3 a4 a5 a6 a7 a8 a9 bJ bE cO bL bO eG;obtain⟨fF,eU,v3,k1,k2,k3,k4,k5,k6⟩:=(Aa aD).ex;obtain⟨fU,fG,aR,_,_,_⟩:=k1.oun.slice;subst aR;obtain⟨H,hH⟩:=qeX W3.heap.size;obtain⟨W4,aS,aE,g4,fZ⟩:=As W3 (.cells #[.int .i64 (i:Int)] 3) H hH;have aU:=(Aa aD).below (by rw[hH];exact aE);have s4:=k1.below (by rw[hH];exact aE);have bC:=(aE.block ob (by rw[←hH];exact(qA.1 k2).1)).trans k2;have aY:Ba W4 C v3 y.2:=Ba.keep k3 (fun g hg=>aE.block g (by rw[←hH];exact(k3.lt hg).2));have c6:=s4.cells.2.2.2.2.1.1;have aZ:=k1.cells.2.2.2.2.1.1;rw[Aa aG]at c6 aZ;have aJ:=s4.oun;rw[Aa aG]at aJ;have aX:=Ab aJ;have f6:=s4.cells.2.2.2.2.1.2;have aT:=s4.cw;have fE:=s4.bc;have cM:=Ab aS;have cJ:=Ab aU;have cS:=Ab s4;have cX:=Ab g4;have cA:=Ab (And.intro bC (And.intro aY (And.intro k4 (And.intro k5 k6))));clear aS aU s4 k1 k2 k3 k4 k5 k6 bC aY aE aD g4 aJ;go_wp2_with (at_builtin;revert hH)
      intro hH;try rw[hH]
      rw[Aa cM];refine Bf (j:=i) (by rfl) _ _ (by rfl) (by rfl) (Aa aX) H 1 (by rfl) (Aa cX) UL (Aa aG) (by omega) aT ?_;intro g5 dQ w5 J I aB dS;have aM:=I.block b (by omega) (fun e=>by have:=((Aa aX).lt e.symm).1;omega);have f5:=(World.frozen?_of_block (a:=⟨b,6,none⟩) aM).trans f6;have c5:=(zC (a:=⟨b,6,none⟩) aM).trans c6;have HE:=Ab (And.intro J (And.intro I aB));clear J I aB aM c6 f6 aZ aT;go_wp2;go_roundg g'
      case measure=>omega
      case rel=>
       obtain⟨J,I,aB⟩:=Aa HE;obtain⟨k2,k3,k4,k5,k6⟩:=Aa cA;obtain⟨i1,i2,i3,i4,i5,i6⟩:=Aa HI;have hc:(P33.undoOf d.bare i).isEmpty=true∨(y.1.run i true).phase=3:=by right;rw[Aa aL];exact h3
       have aQ:y.1.undone.length+1≤y.1.done.length:=by omega
       rw[←Aa aG]at J I aB ⊢;refine⟨_,Ab ((Aa cJ).undo (Aa cS) k2 k3 k4 k5 k6 J I aB aQ),Ab ⟨Mv i1 i2 i3 aC hc,i2,i3,i4,by simp only[qH,qS];omega,?_⟩⟩;rw[←i6];exact(Jm aC hc).symm
     ·have p3:((rp:Int)==3)=false:=by simp;omega
      go_quiet (fail)
      go_upto_region 8 with fail
      obtain⟨W3,aA⟩:∃Z,W2.drewN nq=Z:=⟨_,rfl⟩;have eN:SA w0 M0 b bm rb C h1 h2 ob vs d y W3:=by rw[←aA];exact(Aa aK).below (Ac (qU _ _))
      have d4:W3.cell? ⟨b,4,none⟩=some (.map (some bm)):=by rw[←aA];exact c4
      have x0:W3.cell? ⟨K+1,0,none⟩=some (.int .i64 (i:Int)):=by rw[←aA];exact bL
      have x1:W3.cell? ⟨K+1,1,none⟩=some (.bool true):=by rw[←aA];exact bO
      have fJ:W3.cell? ⟨b,7,none⟩=some (.int .u8 (y.1.status:Int)):=by rw[←aA];exact aO
      have fQ:W3.frozen? ⟨b,7,none⟩=false:=by rw[←aA];exact aP
      have cW:∀V,V.heap[bm]?=W3.heap[bm]?→(Instr.lookup 151 (.map (some bm)) (.agg #[.int .i64 (i:Int),.bool true]) false).run Tryz.prog V=.ok (.agg #[.int .u8 (rp:Int),.int .i64 ra,.int .i64 rt,.bool rl]) V:=fun V hV=>(Aa cG) V (hV.trans (by rw[←aA];rfl));have fV:∀q,(Instr.lookup 151 (.map (some bm)) (.agg #[.int .i64 (i:Int),.bool true]) false).run Tryz.prog (W3.drewN q)=.ok (.agg #[.int .u8 (rp:Int),.int .i64 ra,.int .i64 rt,.bool rl]) (W3.drewN q):=fun q=>cW _ rfl
      have gJ:b≠K+1:=by
       have:=(Aa dK).2;omega
      have dE:Hid (W3.heap=W2.heap):=Ab (by rw[←aA];rfl);rw[aA];have dL:=Ab cW;have aD:=Ab eN;clear cW eN aA c4 c6 aO aP bL bO cN aK cV;by_cases h4:rp=4
      ·have p4:((rp:Int)==4)=true:=by rw[h4];rfl
       go_quiet (fail)
       go_upto_region 10 with fail
       refine qV (results_none rfl _ _ _) rfl ⟨⟨_,rfl⟩,?_⟩;obtain⟨i1,i2,i3,i4,i5,i6⟩:=Aa HI;rw[←i6,N9 aC (by rw[Aa cL,cP,Aa aL];exact fun q=>q.elim (fun q=>by simp at q) h3) (by rw[Aa aL];exact h4)];exact((Aa aD).below (W':=W3.drewN nq) (Ac (qU _ _))).status 5
      ·have p4:((rp:Int)==4)=false:=by simp;omega
       have dD:∀f,P32.backGo d.bare n (f+1) y=if (y.1.run i true).phase=0 then P32.put i true (P31.begin_ (P32.stepAt d.bare i) n) y else y:=fun f=>R0 aC (by rw[Aa cL,cP,Aa aL];exact fun q=>q.elim (fun q=>by simp at q) h3) (by rw[Aa aL];exact h4);have cT:=Ab dD;clear dD;go_quiet (fail)
       go_upto_region 10 with fail
       obtain⟨W5,aI⟩:∃Z,W3.drewN nq=Z:=⟨_,rfl⟩;have eB:SA w0 M0 b bm rb C h1 h2 ob vs d y W5:=by rw[←aI];exact(Aa aD).below (Ac (qU _ _))
       have e4:W5.cell? ⟨b,4,none⟩=some (.map (some bm)):=by rw[←aI];exact d4
       have y0:W5.cell? ⟨K+1,0,none⟩=some (.int .i64 (i:Int)):=by rw[←aI];exact x0
       have y1:W5.cell? ⟨K+1,1,none⟩=some (.bool true):=by rw[←aI];exact x1
       have fT:∀q,(Instr.lookup 151 (.map (some bm)) (.agg #[.int .i64 (i:Int),.bool true]) false).run Tryz.prog (W5.drewN q)=.ok (.agg #[.int .u8 (rp:Int),.int .i64 ra,.int .i64 rt,.bool rl]) (W5.drewN q):=fun q=>Aa dL _ (by rw[←aI];rfl);have dM:Hid (W5.heap=W3.heap):=Ab (by rw[←aI];rfl);rw[aI];have dA:=Ab eB;clear eB aI d4 fJ fQ x0 x1 fV aD dL;by_cases h0:rp=0
       ·have p0:((rp:Int)==0)=true:=by rw[h0];rfl
        go_quiet (fail)
        go_upto_region 11 with fail
        obtain⟨U,hU⟩:∃Z,(W5.drewN nq).drew=Z:=⟨_,rfl⟩;have bG:U.heap=W2.heap:=by rw[←hU];exact(Aa dM).trans (Aa dE)
        have dT:∀V,Below U.heap.size U V→SA w0 M0 b bm rb C h1 h2 ob vs d y V:=fun V hV=>(show SA w0 M0 b bm rb C h1 h2 ob vs d y U by rw[←hU];exact(Aa dA).below (Ac (qU _ _)).drew).below hV;have dG:∀V,Below U.heap.size U V→V.heap[K+1]?=some (.cells #[.int .i64 (i:Int),.bool true] 157):=fun V hV=>(hV.block _ (by rw[bG];omega)).trans (by rw[bG];exact Aa fC);have bZ:=Aa dN;rw[←bG]at bZ;obtain⟨⟨s0,_⟩,⟨gD,_⟩,⟨s2,_⟩,⟨s3,_⟩,⟨s4,_⟩,⟨s5,_⟩,⟨s6,_⟩,⟨s7,_⟩,⟨s8,_⟩,⟨s9,_⟩,⟨fK,_⟩,⟨fP,_⟩,⟨gC,_⟩⟩:=Am bZ;simp only[Ai.aV,Nd.kV,Nd.dV]at s3 fK fP;have aN:=(Aa HI).2.2.2.2.2;obtain⟨BG,bQ⟩:∃z,P31.begin_ s1.bare n=z:=⟨_,rfl⟩;have bT:BG.ok:=by rw[←bQ];exact P31.begin_ok _ _
        rw[Aa cT,if_pos (by rw[Aa aL];exact h0),Bt d (Aa eH),bQ]at aN
        have bV:P32.Inv d.bare (P32.put i true BG y).1:=by
         obtain⟨i1,i2,i3,i4,i5,i6⟩:=Aa HI;have:=(P32.good_backGo (d:=d.bare) (n:=n) (g'+1+1) y i1 i2 i3).1.inv;rw[i6,←aN]at this;exact this
        have cY:=Mi s1 n U;rw[bQ]at cY;have eE:Calls Tryz.prog 189 #[.agg #[.string { data:=s1.name.toArray },.string { data:=s1.action.toArray },.string { data:=s1.undo.toArray },.slice s1.aa s1.after.length s1.ac,.int .i64 s1.most,.int .i64 s1.first,.int .i64 s1.factor,.int .i64 s1.limit,.int .u8 (s1.note.kind:Int),.string { data:=s1.note.text.toArray },.slice s1.note.ka s1.note.keys.length s1.note.kc,.slice s1.note.da s1.note.kids.length s1.note.dc,.int .i64 s1.note.line],.int .i64 n] U fun e w'=>e=.returned (.agg #[.int .u8 (BG.phase:Int),.int .i64 BG.att,.int .i64 BG.til,.bool BG.last])∧Below U.heap.size U w':=cY
        have eP:∀V,Below U.heap.size U V→Calls Tryz.prog 146 #[.agg #[.int .i64 (i:Int),.bool true],.agg #[.int .u8 (BG.phase:Int),.int .i64 BG.att,.int .i64 BG.til,.bool BG.last],qP0 h1,qP0 h2] V fun e w'=>(∃v,e=.returned v)∧SA w0 M0 b bm rb C h1 h2 ob vs d BK w':=fun V hV=>by
         have:=Ke i true BG V (dT V hV) dY bT bV (by rw[(Aa HI).2.2.2.1];exact bU);rw[aN]at this;exact this
        have fN:=Ab dG;have eS:=Ab eE;have eZ:=Ab eP;have dP:=enters_of Tryz.func189 (by kernel_rfl) rfl;clear bG dT dG bZ aN bQ bT bV cY eE eP e4 y0 y1 fT a0 a1 bI a3 a4 a5 a6 a7 a8 a9 bJ bE cO dA cT dM dE;refine A7 Bj [4,5] (fun kk aF W=>∃X Y,aF={ tmps:=#[qP0 b,.func (.func 146) #[] #[qP0 h1,qP0 h2],.int .i64 n,uZ,uZ,uZ,nI i,qP0 K,qP0 (K+1),qP0 b,.bool false,qP0 b,qP0 b,pT b 6,.slice ua UL uc,nI UL,qP0 b,qP0 b,pT b 5,.slice (oA db dO) DL dc,nI DL,.bool true,qP0 b,qP0 b,pT b 5,.slice (oA db dO) DL dc,qP0 b,qP0 b,pT b 5,.slice (oA db dO) DL dc,nI DL,.int .i64 ((DL:Int)-1),qP0 b,qP0 b,pT b 6,.slice ua UL uc,nI UL,nI IX,pT db (dO+IX),nI i,qP0 b,qP0 b,qP0 b,pT b 2,.slice (oA sg so) N d.sc,nI i,pT sg (so+i*13),.agg #[.string { data:=s1.name.toArray },.string { data:=s1.action.toArray },.string { data:=s1.undo.toArray },.slice s1.aa s1.after.length s1.ac,.int .i64 s1.most,.int .i64 s1.first,.int .i64 s1.factor,.int .i64 s1.limit,.int .u8 (s1.note.kind:Int),.string { data:=s1.note.text.toArray },.slice s1.note.ka s1.note.keys.length s1.note.kc,.slice s1.note.da s1.note.kids.length s1.note.dc,.int .i64 s1.note.line],nI i,.agg #[nI i,.bool true],.bool false,pT K 2,.string { data:=(eV::fH).toArray },.bool false,qP0 b,qP0 b,pT b 4,.map (some bm),.agg #[nI i,.bool true],.agg #[.int .u8 (rp:Int),.int .i64 ra,.int .i64 rt,.bool rl],.int .u8 (rp:Int),.bool false,u62,u63,u64,u65,u66,u67,u68,u69,u70,u71,.bool false,qP0 b,qP0 b,pT b 4,.map (some bm),.agg #[nI i,.bool true],.agg #[.int .u8 (rp:Int),.int .i64 ra,.int .i64 rt,.bool rl],.int .u8 (rp:Int),.bool false,u81,u82,u83,.bool true,qP0 b,qP0 b,pT b 4,.map (some bm),.agg #[nI i,.bool true],.agg #[.int .u8 0,.int .i64 ra,.int .i64 rt,.bool rl],.int .u8 0,.bool true,.func (.func 146) #[] #[qP0 h1,qP0 h2],.agg #[nI i,.bool true],.agg #[.string { data:=s1.name.toArray },.string { data:=s1.action.toArray },.string { data:=s1.undo.toArray },.slice s1.aa s1.after.length s1.ac,.int .i64 s1.most,.int .i64 s1.first,.int .i64 s1.factor,.int .i64 s1.limit,.int .u8 (s1.note.kind:Int),.string { data:=s1.note.text.toArray },.slice s1.note.ka s1.note.keys.length s1.note.kc,.slice s1.note.da s1.note.kids.length s1.note.dc,.int .i64 s1.note.line],.int .i64 n,X,Y,uZ,uZ,uZ],defers:=[] }∧Qbr U BG (fun V=>SA w0 M0 b bm rb C h1 h2 ob vs d BK V) kk X W) (by kernel_rfl) (by kernel_rfl) (by decide) ⟨undef,undef,rfl,hU⟩ rfl rfl (Dw 93 6 (by kernel_rfl) rfl rfl) ?pure ?write ?fin
        case pure=>
         rintro kk aF W ix o ⟨X,Y,rfl,aH⟩ ho dX bW;rcases ix with _|_|_|_|_|_|ix
         ·refine wq ho rfl rfl rfl rfl ?_
          go_simp
         ·have gH:kk≤1:=bW 1 5 rfl (by kernel_rfl)
          have eO:Below U.heap.size U W:=by
           rcases kk with _|_|kk
           ·rw[show W=U from aH];exact qU _ _
           ·exact aH.1
           ·omega
          obtain⟨⟨r0,_⟩,⟨r1,_⟩⟩:=A2 (Aa fN W eO);clear eO;refine wq ho rfl rfl rfl rfl ?_
          go_simp
         ·have gA:kk≤0:=bW 0 4 rfl (by kernel_rfl);obtain rfl:kk=0:=by omega
          have dC:W=U:=aH;subst dC;refine wq ho rfl rfl rfl rfl ?_
          go_simp
         ·refine wq ho rfl rfl rfl rfl ?_
          go_simp
         ·exact absurd (by simp) dX
         ·exact absurd (by simp) dX
         ·exfalso;simp at ho
        case write=>
         rintro kk aF W ix o ⟨X,Y,rfl,aH⟩ hi ho;rcases kk with _|_|kk
         ·cases (show some 4=some ix from hi);have cR:some _=some o:=ho;cases cR;have dC:W=U:=aH;subst dC;refine⟨rfl,.inr (.inr ⟨189,#[.agg #[.string { data:=s1.name.toArray },.string { data:=s1.action.toArray },.string { data:=s1.undo.toArray },.slice s1.aa s1.after.length s1.ac,.int .i64 s1.most,.int .i64 s1.first,.int .i64 s1.factor,.int .i64 s1.limit,.int .u8 (s1.note.kind:Int),.string { data:=s1.note.text.toArray },.slice s1.note.ka s1.note.keys.length s1.note.kc,.slice s1.note.da s1.note.kids.length s1.note.dc,.int .i64 s1.note.line],.int .i64 n],W,?_,?_⟩)⟩
          ·simp[execOp,resolve,invoke,Act.eval,dP,Result.andThen,Deferred.ofValue]
          ·refine(Aa eS).mono ?_;rintro e w4 ⟨rfl,b4⟩;exact⟨_,rfl,⟨_,Y,rfl,b4,rfl⟩⟩
         ·cases (show some 5=some ix from hi);have cR:some _=some o:=ho;cases cR;obtain⟨b4,rfl⟩:=aH;refine⟨rfl,.inr (.inr ⟨146,#[.agg #[.int .i64 (i:Int),.bool true],Au BG,qP0 h1,qP0 h2],W,?_,?_⟩)⟩
          ·simp[execOp,resolve,invoke,Act.eval,he,Result.andThen,Deferred.ofValue]
          ·refine(Aa eZ W b4).mono ?_;rintro e w4 ⟨⟨v4,rfl⟩,fO⟩;exact⟨_,rfl,⟨_,v4,rfl,fO⟩⟩
         ·simp at hi
        case fin=>
         rintro kk aF W6 hk ⟨X,Y,rfl,aH⟩;obtain⟨kk,rfl⟩:∃k',kk=k'+2:=⟨kk-2,by simp at hk;omega⟩;have dI:SA w0 M0 b bm rb C h1 h2 ob vs d BK W6:=aH;go_wp2
         first
         |exact qV (results_none rfl _ _ _) rfl ⟨⟨_,rfl⟩,dI⟩
         |(rw[Exit.noGoto_ret];exact qV (results_none rfl _ _ _) rfl ⟨⟨_,rfl⟩,dI⟩)
       ·have p0:((rp:Int)==0)=false:=by simp;omega
        go_quiet (fail)
        go_upto_region 11 with fail
        refine qV (results_none rfl _ _ _) rfl ⟨⟨_,rfl⟩,?_⟩;obtain⟨i1,i2,i3,i4,i5,i6⟩:=Aa HI;rw[←i6,Aa cT,if_neg (by rw[Aa aL];exact h0)];exact(Aa dA).below (W':=W5.drewN nq) (Ac (qU _ _))
end Go.Proofs.YtefokfbgpfcbkaaGreat
namespace Go.Proofs.YtefokfbgpfcbkaaGreat
open Go.RowKit
theorem Mu(d:P22.Def)(n:Int)(x:P32.S × List P32.Order):(P32.forth d n x).2.length≤x.2.length+d.steps.length:=by
 unfold P32.forth;split
 ·simp
 ·split
  ·simp
  ·exact Ol d n x _
theorem SA.c7{w0 W:World}{M0:Nat→Prop}{b bm rb C h1 h2 ob:Nat}{vs:Nat→Value}{d:Af}{x:P32.S × List P32.Order}(h:SA w0 M0 b bm rb C h1 h2 ob vs d x W):W.cell? ⟨b,7,none⟩=some (.int .u8 (x.1.status:Int)):=by
 obtain⟨dn,un,I⟩:=h.sg;exact I.cells.2.2.2.2.2.1
theorem Ox{w0:World}{M0:Nat→Prop}{b bm rb C h1 h2 ob:Nat}{vs:Nat→Value}{d:Af}{x:P32.S × List P32.Order}(n:Int)(w:World)(h:SA w0 M0 b bm rb C h1 h2 ob vs d x w)(hg:P32.Good d.bare x)(aK:x.2.length≤700000) :
  Calls Tryz.prog 105 #[qP0 b,.func (.func 146) #[] #[qP0 h1,qP0 h2],.int .i64 n] w fun e w'=>(∃v,e=.returned v)∧SA w0 M0 b bm rb C h1 h2 ob vs d (P32.on d.bare n x) w':=by
 have hN:d.steps.length≤100000:=by
  obtain⟨dn,un,k1⟩:=h.sg;exact k1.nle
 have c7:=h.c7;have H:=Ab h;by_cases g1:x.1.status=1
 ·have hf:=Vk n w h hg g1 (by omega);have aD:=(P32.good_forth (n:=n) hg g1).1;have aC:=Mu d.bare n x;rw[Md.blen]at aC
  have aA:P32.on d.bare n x=if (P32.forth d.bare n x).1.status=2 then P32.back d.bare n (P32.forth d.bare n x) else P32.forth d.bare n x:=by
   unfold P32.on P32.on1 P32.on2;rw[if_pos g1]
  rw[aA];obtain⟨y,hy⟩:=qeX (P32.forth d.bare n x);rw[hy]at hf aD aC ⊢;have hk:=fun W (hW:SA w0 M0 b bm rb C h1 h2 ob vs d y W) (aG:y.1.status=2)=>Po n W hW aD aG (by omega);have h7:=fun W (hW:SA w0 M0 b bm rb C h1 h2 ob vs d y W)=>hW.c7;obtain⟨ST,J⟩:∃s,x.1.status=s:=⟨_,rfl⟩;rw[J]at c7 g1;have p1:((ST:Int)==1)=true:=by rw[g1];rfl
  have HF:=Ab hf;have HK:=Ab hk;by_cases g2:y.1.status=2
  ·rw[if_pos g2];obtain⟨aB,I⟩:∃s,y.1.status=s:=⟨_,rfl⟩;rw[I]at h7;have g2':aB=2:=I ▸ g2;have p2:((aB:Int)==2)=true:=by rw[g2'];rfl
   have H7:=Ab h7;have aI:=Ab g2;clear hf hk h7 h hg aD aC aA hy J I g1 g2 g2';go_enter Tryz.func105,Tryz.ntmps105
   go_wp2_with (first|(go_at_call 147;refine(Aa HF).mono ?_;rintro e w3 ⟨⟨v3,rfl⟩,Z⟩;have aJ:=Aa H7 w3 Z;have HB:=Ab (Aa HK w3 Z (Aa aI));clear Z)|(go_at_call 148;refine(Aa HB).mono ?_;rintro e w4 ⟨⟨v4,rfl⟩,aE⟩))
   go_end0;exact⟨⟨_,rfl⟩,aE⟩
  ·rw[if_neg g2];obtain⟨aB,I⟩:∃s,y.1.status=s:=⟨_,rfl⟩;rw[I]at h7;have g2':¬aB=2:=I ▸ g2;have p2:((aB:Int)==2)=false:=by simp;omega
   have H7:=Ab h7;clear hf hk h7 h hg aD aC aA hy J I g1 g2 g2';go_enter Tryz.func105,Tryz.ntmps105
   go_wp2_with (go_at_call 147;refine(Aa HF).mono ?_;rintro e w3 ⟨⟨v3,rfl⟩,Z⟩;have aJ:=Aa H7 w3 Z;have aH:=Ab Z;clear Z)
   go_end0;exact⟨⟨_,rfl⟩,Aa aH⟩
 ·have aA:P32.on d.bare n x=if x.1.status=2 then P32.back d.bare n x else x:=by
   unfold P32.on P32.on1 P32.on2;rw[if_neg g1]
  rw[aA];have hk:=fun(aG:x.1.status=2)=>Po n w h hg aG (by omega);by_cases g2:x.1.status=2
  ·have hb:=hk g2;rw[if_pos g2];obtain⟨ST,J⟩:∃s,x.1.status=s:=⟨_,rfl⟩;rw[J]at c7 g1 g2;have p1:((ST:Int)==1)=false:=by simp;omega
   have p2:((ST:Int)==2)=true:=by rw[g2];rfl
   have HB:=Ab hb;clear hk hb h hg aA J g1 g2;go_enter Tryz.func105,Tryz.ntmps105
   go_wp2_with (go_at_call 148;refine(Aa HB).mono ?_;rintro e w4 ⟨⟨v4,rfl⟩,aE⟩)
   go_end0;exact⟨⟨_,rfl⟩,aE⟩
  ·rw[if_neg g2];obtain⟨ST,J⟩:∃s,x.1.status=s:=⟨_,rfl⟩;rw[J]at c7 g1 g2;have p1:((ST:Int)==1)=false:=by simp;omega
   have p2:((ST:Int)==2)=false:=by simp;omega
   clear hk h hg aA J g1 g2;go_enter Tryz.func105,Tryz.ntmps105
   go_wp2;go_end0;exact⟨⟨_,rfl⟩,Aa H⟩
open Go.RowKit
def SE(w0:World)(M0:Nat→Prop)(b bm rb C:Nat)(vs:Nat→Value)(d:Af)(x:P32.S × List P32.Order)(V:Value)(W:World):Prop:=
 ∃dn un,Sg W b bm rb C vs d dn un x.1∧Ba W C V x.2∧(∀g,V.ownBlock=some g→¬Mb b bm dn un g∧(M0 g∨w0.heap.size≤g))∧(∀g,Mb b bm dn un g→M0 g∨w0.heap.size≤g)∧KW M0 w0 W
theorem SA.out{w0 W:World}{M0:Nat→Prop}{b bm rb C h1 h2 ob:Nat}{vs:Nat→Value}{d:Af}{x:P32.S × List P32.Order}(h:SA w0 M0 b bm rb C h1 h2 ob vs d x W):∃V,W.cell? ⟨ob,0,none⟩=some V∧SE w0 M0 b bm rb C vs d x V W:=by
 obtain⟨dn,un,v,J,k2,k3,I,k5,Z⟩:=h.ex;exact⟨v,(A1 k2).1,dn,un,J,k3,fun g hg=>⟨(I g hg).1,(I g hg).2.2.2.2⟩,Z,h.kw⟩
theorem SE.nil{W:World}{b bm rb C:Nat}{vs:Nat→Value}{d:Af}{dn un:Value}{s:P32.S}(h:Sg W b bm rb C vs d dn un s):SE W (Mb b bm dn un) b bm rb C vs d (s,[]) (.slice none 0 0) W:=by
 have h4:∀g,(Value.slice none 0 0).ownBlock=some g→¬Mb b bm dn un g∧(Mb b bm dn un g∨W.heap.size≤g):=fun g hg=>by
  have e:(none:Option Nat)=some g:=hg;cases e
 exact⟨dn,un,h,Ba.nil W C,h4,fun g hg=>Or.inl hg,KW.refl _ _⟩
theorem SE.nil'{w W:World}{b bm rb C:Nat}{vs:Nat→Value}{d:Af}{dn un:Value}{s:P32.S}(h:Sg w b bm rb C vs d dn un s)(hb:Below w.heap.size w W):SE w (Mb b bm dn un) b bm rb C vs d (s,[]) (.slice none 0 0) W:=by
 have h4:∀g,(Value.slice none 0 0).ownBlock=some g→¬Mb b bm dn un g∧(Mb b bm dn un g∨w.heap.size≤g):=fun g hg=>by
  have e:(none:Option Nat)=some g:=hg;cases e
 exact⟨dn,un,h.below hb,Ba.nil W C,h4,fun g hg=>Or.inl hg,(KW.refl _ _).next hb (qJ _)⟩
theorem Mn{b bm rb C:Nat}{vs:Nat→Value}{d:Af}{dn un:Value}{s:P32.S}(n:Int)(w:World)(h:Sg w b bm rb C vs d dn un s)(hi:P32.Inv d.bare s)(aC:s.status=0→P32.Inv d.bare ⟨s.run,s.done,s.undone,1⟩) :
  Calls Tryz.prog 64 #[qP0 b,.int .i64 n] w fun e w'=>∃V,e=.returned V∧SE w (Mb b bm dn un) b bm rb C vs d (P32.start d.bare n s) V w':=by
 have aB:=F6 b bm w h.cells.2.2.1.1;have c7:=h.cells.2.2.2.2.2.1;have aD:=Gl w h (KW.refl _ _) h.cw (fun g hg=>.inl hg);have I:=SE.nil h;obtain⟨ST,aA⟩:∃z,s.status=z:=⟨_,rfl⟩;rw[aA]at c7;have HM:=Ab aB;have aM:=Ab aD;by_cases g0:ST=0
 ·have J:P32.start d.bare n s=P32.on d.bare n (⟨s.run,s.done,s.undone,1⟩,[]):=by
   unfold P32.start;rw[if_neg (by omega)]
  rw[J];have aE:P32.Good d.bare ((⟨s.run,s.done,s.undone,1⟩:P32.S),[]):=P32.good_nil (aC (aA.trans g0));have p0:((ST:Int) != 0)=false:=by rw[g0];rfl
  have aI:=Ab aE;clear aB aD I J aE h hi aC aA g0;go_enter Tryz.func64,Tryz.ntmps64
  go_wp2_with (first|(go_at_call 96;refine(Aa HM).mono ?_;rintro e w' ⟨rfl,hw⟩;obtain rfl:=hw.symm)|(go_at_call 104;refine(Aa aM).mono ?_;rintro e w3 ⟨h1,h2,ob,rfl,Z,aK⟩;have aO:=Z.c7;have aN:w3.frozen? ⟨b,7,none⟩=false:=(by obtain⟨_,_,k⟩:=Z.sg;exact k.cells.2.2.2.2.2.2);have aJ:=Ab (Ox n _ (Z.status 1) (Aa aI) (by simp));clear Z aK)|(go_at_call 105;refine(Aa aJ).mono ?_;rintro e w4 ⟨⟨v4,rfl⟩,aG⟩;obtain⟨V4,c4,aH⟩:=aG.out;have aL:=Ab aH;clear aG aH))
  go_ret;exact⟨_,rfl,Aa aL⟩
 ·have J:P32.start d.bare n s=(s,[]):=by
   unfold P32.start;rw[if_pos (by omega)]
  rw[J];have p0:((ST:Int) != 0)=true:=by simp;omega
  have HN:=Ab I;clear aB aD I J h hi aC aA g0;go_enter Tryz.func64,Tryz.ntmps64
  go_wp2_with (go_at_call 96;refine(Aa HM).mono ?_;rintro e w' ⟨rfl,hw⟩;obtain rfl:=hw.symm)
  go_ret;exact⟨_,rfl,Aa HN⟩
open Go.RowKit
theorem Rj{b bm rb C:Nat}{vs:Nat→Value}{d:Af}{dn un:Value}{s:P32.S}(n:Int)(w:World)(h:Sg w b bm rb C vs d dn un s)(aB:s.status=1→P32.Inv d.bare (P32.halt d.bare s)) :
  Calls Tryz.prog 62 #[qP0 b,.int .i64 n] w fun e w'=>∃V,e=.returned (.tuple #[V,.bool (P32.cancel d.bare n s).2])∧SE w (Mb b bm dn un) b bm rb C vs d (P32.cancel d.bare n s).1 V w':=by
 have Z:=Dz b bm s.status w h.cells.2.2.1.1 h.cells.2.2.2.2.2.1;have aC:=Gl w h (KW.refl _ _) h.cw (fun g hg=>.inl hg);have I:=SE.nil h;obtain⟨ST,aA⟩:∃z,s.status=z:=⟨_,rfl⟩;rw[aA]at Z;have HM:=Ab Z;have aN:=Ab aC;by_cases g0:ST=1
 ·have J:P32.cancel d.bare n s=(P32.on d.bare n (P32.halt d.bare s,[]),true):=by
   unfold P32.cancel;rw[if_neg (by omega)]
  rw[J];have aE:P32.Good d.bare (P32.halt d.bare s,[]):=P32.good_nil (aB (aA.trans g0));have p0:((ST:Int) != 1)=false:=by rw[g0];rfl
  have aJ:=Ab aE;obtain⟨X,hX⟩:=qeX (P32.on d.bare n (P32.halt d.bare s,[]));rw[hX];have HX:=Ab hX;clear Z aC I J aE h aB aA g0 hX;go_enter Tryz.func62,Tryz.ntmps62
  go_wp2_with (first|(go_at_call 52;refine(Aa HM).mono ?_;rintro e w' ⟨rfl,hw⟩;obtain rfl:=hw.symm)|(go_at_call 104;refine(Aa aN).mono ?_;rintro e w3 ⟨h1,h2,ob,rfl,aD,aL⟩;have aO:=Ab (P4 w3 aD);clear aD aL)|(go_at_call 106;refine(Aa aO).mono ?_;rintro e w5 ⟨⟨v5,rfl⟩,aG⟩;have aK:=Ab (Ox n _ aG (Aa aJ) (by simp));clear aG)|(go_at_call 105;refine(Aa aK).mono ?_;rintro e w4 ⟨⟨v4,rfl⟩,aH⟩;obtain⟨V4,c4,aI⟩:=aH.out;have aM:=Ab aI;clear aH aI))
  refine qV (results_tmp2 rfl _ _ _) rfl ?_;refine⟨_,rfl,?_⟩;rw[←Aa HX];exact Aa aM
 ·have J:P32.cancel d.bare n s=((s,[]),false):=by
   unfold P32.cancel;rw[if_pos (by omega)]
  rw[J];have p0:((ST:Int) != 1)=true:=by simp;omega
  have HN:=Ab I;clear Z aC I J h aB aA g0;go_enter Tryz.func62,Tryz.ntmps62
  go_wp2_with (go_at_call 52;refine(Aa HM).mono ?_;rintro e w' ⟨rfl,hw⟩;obtain rfl:=hw.symm)
  refine qV (results_tmp2 rfl _ _ _) rfl ?_;exact⟨_,rfl,Aa HN⟩
end Go.Proofs.YtefokfbgpfcbkaaGreat
