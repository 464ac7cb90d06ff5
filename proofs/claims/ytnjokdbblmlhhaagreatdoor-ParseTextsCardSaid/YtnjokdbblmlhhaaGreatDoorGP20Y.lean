/- Lemmas of this claim. -/
import Derived.Test.YtnjokdbblmlhhaaGreatDoorGW20Y
import Derived.Test.YtnjokdbblmlhhaaGreatDoorG19bcY
set_option linter.unusedVariables false
set_option linter.unusedSimpArgs false
namespace Go.Proofs.YtnjokdbblmlhhaaGreatDoor
set_option maxHeartbeats 4000000
set_option maxRecDepth 100000
open Go.RowKit
theorem A3{W:World}{g:Nat}{t:TypeId}{a b:Value}(h:W.heap[g]?=some (.cells #[a,b] t))(v0 D:Value):((W.setCell ⟨g,0,none⟩ v0).setCell ⟨g,1,none⟩ D).heap[g]?=some (.cells #[v0,D] t):=by
 simp[World.setCell,Array.getElem?_modify,h]
theorem Ar{W:World}{g g':Nat}(h:g'≠g)(v0 D:Value):((W.setCell ⟨g,0,none⟩ v0).setCell ⟨g,1,none⟩ D).heap[g']?=W.heap[g']?:=by
 rw[qC _ _ _ _ h,qC _ _ _ _ h]
structure Sw (w w':World) (H:Nat) (a b:Obj):Prop where
 h0:w'.heap[H]?=some a
 h1:w'.heap[H+1]?=some b
 size:w.heap.size≤w'.heap.size
 same:∀g,g≠H→g≠H+1→g<w.heap.size→w'.heap[g]?=w.heap[g]?
 os:w'.os=w.os
 tape:w'.tape=w.tape
 output:w'.output=w.output
theorem T6(W:World)(a:Addr)(v:Value):(W.setCell a v).os=W.os∧(W.setCell a v).tape=W.tape∧(W.setCell a v).output=W.output:=⟨rfl,rfl,rfl⟩
theorem O2(W:World)(g:Nat)(v0 D G v3 v4:Value):∀V,((((W.setCell ⟨g,0,none⟩ v0).setCell ⟨g,1,none⟩ D).setCell ⟨g,2,none⟩ G).setCell ⟨g,3,none⟩ v3).setCell ⟨g,4,none⟩ v4=V→V.os=W.os∧V.tape=W.tape∧V.output=W.output∧V.heap.size=W.heap.size:=by
 rintro V rfl;refine⟨?_,?_,?_,by simp⟩<;>simp only[T6]
theorem Ua{w W1 D:World}(hb:Below w.heap.size w W1){H:Nat}{a:Obj}{S:TypeId}{J I:Value}(h0:D.heap[H]?=some a)(h1:W1.heap[H+1]?=some (.cells #[J,I] S))(hs:∀g,g≠H→D.heap[g]?=W1.heap[g]?)
  (ho:D.os=W1.os∧D.tape=W1.tape∧D.output=W1.output∧D.heap.size=W1.heap.size) (G N:Value):Sw w ((D.setCell ⟨H+1,0,none⟩ G).setCell ⟨H+1,1,none⟩ N).drew H a (.cells #[G,N] S):=by
 have hz:=hb.size;have h2:D.heap[H+1]?=some (.cells #[J,I] S):=(hs _ (by omega)).trans h1;refine⟨C4 ((Ar (by omega) _ _).trans h0),C4 (A3 h2 _ _),?_,fun g n0 n1 hl=>C4 ((Ar n1 _ _).trans ((hs g n0).trans (hb.block g hl))),?_,?_,?_⟩
 ·simp[World.drew];omega
 ·exact ho.1.trans hb.os
 ·exact ho.2.1.trans hb.tape
 ·exact ho.2.2.1.trans hb.output
theorem Jv{w W1:World}(hb:Below w.heap.size w W1){H:Nat}{T S:TypeId}{Z c1 c2 c3 c4 d0 d1:Value}(h0:W1.heap[H]?=some (.cells #[Z,c1,c2,c3,c4] T))(h1:W1.heap[H+1]?=some (.cells #[d0,d1] S))(v0 D G v3 v4 J N:Value) :
  Sw w (((((((W1.setCell ⟨H,0,none⟩ v0).setCell ⟨H,1,none⟩ D).setCell ⟨H,2,none⟩ G).setCell ⟨H,3,none⟩ v3).setCell ⟨H,4,none⟩ v4).setCell ⟨H+1,0,none⟩ J).setCell ⟨H+1,1,none⟩ N).drew H (.cells #[v0,D,G,v3,v4] T) (.cells #[J,N] S):=by
 have Q:=B9 h0 v0 D G v3 v4;have R:=fun g (Y:g≠H)=>Az (W:=W1) Y v0 D G v3 v4;have U:=O2 W1 H v0 D G v3 v4 _ rfl;obtain⟨X,I⟩:∃X,((((W1.setCell ⟨H,0,none⟩ v0).setCell ⟨H,1,none⟩ D).setCell ⟨H,2,none⟩ G).setCell ⟨H,3,none⟩ v3).setCell ⟨H,4,none⟩ v4=X:=⟨_,rfl⟩;rw[I]at Q U ⊢;simp only[I]at R;exact Ua hb Q h1 R U J N
theorem Sw.below{w w':World}{a b:Obj}(h:Sw w w' w.heap.size a b):Below w.heap.size w w':=⟨h.os,h.tape,h.output,h.size,fun i hi=>h.same i (by omega) (by omega) hi⟩
theorem Sw.far{w w':World}{H B:Nat}{a b:Obj}(h:Sw w w' H a b)(hB:B≤H)(hs:B≤w.heap.size:=by omega):Below B w w':=⟨h.os,h.tape,h.output,h.size,fun i hi=>h.same i (by omega) (by omega) (by omega)⟩
theorem K9.off{W W':World}{a:Option Addr}{ts:List Tk}(h:K9 W a ts){H:Nat}{T:TypeId}{v0 I v4:Value}{p q:Option Addr}{m n c d:Nat}(G:W.heap[H]?=some (.cells #[v0,I,.slice p m c,.slice q n d,v4] T))(h0:∀x:ByteArray,v4≠.string x)
  (ho:∀g,g≠H→W'.heap[g]?=W.heap[g]?):K9 W' a ts:=by
 refine h.keep (fun r hn hr=>ho r ?_);rintro rfl;cases ts with
 |nil=>exact hn rfl
 |cons t ts=>
  obtain⟨b,o,e,J,c1,c2,c3⟩:=h 0 t rfl;obtain⟨o2,D⟩:=hr;rw[e]at D;injection D with D;injection D with D _;subst D;simp only[World.cell?,G]at c1 c2;rw[Nat.zero_mul,Nat.add_zero]at c1 c2;rcases o with _|_|_|_|o
  ·simp at c2
  ·simp at c1
  ·simp at c1
  ·simp at c1;exact h0 _ c1
  ·simp at c1
theorem D6.off{W W':World}{B rb:Nat}{all ts:List Tk}(h:D6 W B rb all ts){H:Nat}{T:TypeId}{v0 J v4:Value}{p q:Option Addr}{m n c d:Nat}(I:W.heap[H]?=some (.cells #[v0,J,.slice p m c,.slice q n d,v4] T))(h0:∀x:ByteArray,v4≠.string x)
  (ho:∀g,g≠H→W'.heap[g]?=W.heap[g]?) (hr:rb≠H):D6 W' B rb all ts:=by
 obtain⟨⟨a,a',c,c',hb,hi,G,h1,h2,h3,h4,h5,h6,h7,h8⟩,D,hne,k8,k8'⟩:=h;exact⟨⟨a,a',c,c',(ho _ hr).trans hb,hi.off I h0 ho,G.off I h0 ho,h1,h2,h3,h4,h5,h6,h7,h8⟩,D,hne,k8,k8'⟩
theorem T5(e l:Int)(W:World):(Instr.typeAssert (.iface 29 (.agg #[.int .i64 e,.int .i64 l])) 20 29 true).run Tryz.prog W=.ok (.tuple #[.agg #[.int .i64 e,.int .i64 l],.bool true]) W:=by kernel_rfl
theorem Uw(W:World):(Instr.typeAssert .nilIface 20 29 true).run Tryz.prog W=.ok (.tuple #[.agg #[.int .i64 0,.int .i64 0],.bool false]) W:=by kernel_rfl
theorem Fp(H:Nat)(e l:Int)(w:World)(c0 c1 c2 c3 Z d0 Y:Value)(h0:w.heap[H]?=some (.cells #[c0,c1,c2,c3,Z] 26))(h1:w.heap[H+1]?=some (.cells #[d0,Y] 29)) :
  CallsD Tryz.prog 67 #[.pointer (some ⟨H,0,none⟩),.pointer (some ⟨H+1,0,none⟩)] (.panicking [{ v:=.iface 29 (.agg #[.int .i64 e,.int .i64 l]),recovered:=false }]) w fun x u' w'=>
   x=.returned (.tuple #[])∧u'=.panicking [{ v:=.iface 29 (.agg #[.int .i64 e,.int .i64 l]),recovered:=true }] ∧
   Sw w w' H (.cells #[.int .u8 0,.string ⟨#[]⟩,.slice none 0 0,.slice none 0 0,.int .i64 0] 26) (.cells #[.int .i64 e,.int .i64 l] 29):=by
 refine callsD_of_wpS Tryz.func67 rfl fun c₀ cs hu=>?_;apply wpS_seq;apply wpS_region;simp[wpOpsS,go_sem,recoverD,hu,Tryz.ntmps67,Exit.thenS,T5];simp only[Array.replicate_succ,Array.replicate_zero,List.push_toArray,List.append_toArray,zK,zJ,List.setIfInBounds_toArray,List.set_cons_succ,List.set_cons_zero];refine wpS_of_wp ?_;go_wp2;obtain⟨W1,G⟩:∃W1,w.alloc (.cells #[.int .i64 e,.int .i64 l] 29)=W1:=⟨_,rfl⟩;have J:H<w.heap.size:=(qA.1 h0).1;have I:H+1<w.heap.size:=(qA.1 h1).1;have U:W1.heap[H]?=some (.cells #[c0,c1,c2,c3,Z] 26):=by rw[←G];exact(qD _ _ _ J).trans h0
 have g1:W1.heap[H+1]?=some (.cells #[d0,Y] 29):=by rw[←G];exact(qD _ _ _ I).trans h1
 have g2:W1.heap[w.heap.size]?=some (.cells #[.int .i64 e,.int .i64 l] 29):=by rw[←G];exact qB w _
 have N:Below w.heap.size w W1:=by rw[←G];exact(qV _ w).alloc (qJ _) _
 rw[G];clear G h0 h1;obtain⟨D,X⟩:∃D,w.heap.size=D:=⟨_,rfl⟩;have HD:=Ab X;have R:=Ab N;rw[X]at g2 J I ⊢;clear X N;have HU:=Ab hu;clear hu;obtain⟨⟨y0,f0⟩,⟨y1,f1⟩,⟨y2,f2⟩,⟨y3,f3⟩,⟨y4,f4⟩⟩:=Ad U;obtain⟨⟨z0,q0⟩,⟨z1,q1⟩⟩:=Af g1;obtain⟨⟨x0,_⟩,⟨x1,_⟩⟩:=Af g2;have S:=Ab U;have Q:=Ab g1;have aA:=Dl;clear U g1 g2;go_region_with_o (fail)
 all_goals go_wp2
 all_goals exact⟨rfl,_,rfl,.tuple #[],by simp[results,Tryz.results67,go_sem],rfl,rfl,Jv (Aa R) (Aa S) (Aa Q) _ _ _ _ _ _ _⟩
theorem Og(H:Nat)(w:World):CallsD Tryz.prog 67 #[.pointer (some ⟨H,0,none⟩),.pointer (some ⟨H+1,0,none⟩)] .returning w fun x D w'=>x=.returned (.tuple #[])∧D=.returning∧Below w.heap.size w w':=by
 refine callsD_of_wpS Tryz.func67 rfl fun G cs hu=>?_;apply wpS_seq;apply wpS_region;simp[wpOpsS,go_sem,recoverD,hu,Tryz.ntmps67,Exit.thenS,Uw];simp only[Array.replicate_succ,Array.replicate_zero,List.push_toArray,List.append_toArray,zK,zJ,List.setIfInBounds_toArray,List.set_cons_succ,List.set_cons_zero];refine wpS_of_wp ?_;go_wp2;exact⟨rfl,_,rfl,.tuple #[],by simp[results,Tryz.results67,go_sem],rfl,hu,(qV _ w).alloc (qJ _) _⟩
theorem Al{J:Func}{p q:Tmp}{I N:TypeId}(h:J.results=#[.cell p I,.cell q N])(tmps:Array Value)(P:Program)(w:World)(g1 g2:Nat)(Q R:Value)
  (hp:tmps.getD p undef=.pointer (some ⟨g1,0,none⟩)) (hl:(loadVar I ⟨g1,0,none⟩).run P w=.ok Q w)
  (hq:tmps.getD q undef=.pointer (some ⟨g2,0,none⟩)) (S:(loadVar N ⟨g2,0,none⟩).run P w=.ok R w) :
  (results J tmps).run P w=.ok (.tuple #[Q,R]) w:=by
 have D:tmps[p]?.getD undef=.pointer (some ⟨g1,0,none⟩):=by simpa using hp
 have G:tmps[q]?.getD undef=.pointer (some ⟨g2,0,none⟩):=by simpa using hq
 simp[results,h,D,G,asAddr,Sem.run_bind,Result.andThen,hl,S]
def Mg(w:World):Except (Int × Int) P20.T→Ending→World→Prop
 | .ok d,e,w'=>∃(k:Nat) (t:List UInt8) (ka:Option Addr) (kc:Nat) (ks:List (List UInt8)) (da:Option Addr) (dc:Nat) (ds:List Nd) (l:Int),
   e=.returned (.tuple #[.agg #[.int .u8 k,.string ⟨t.toArray⟩,.slice ka ks.length kc,.slice da ds.length dc,.int .i64 l],.agg #[.int .i64 0,.int .i64 0]]) ∧
   Hid ((Nd.mk k t ka kc ks da dc ds l).bare=d∧(Nd.mk k t ka kc ks da dc ds l).In w'∧(∀g,(Nd.mk k t ka kc ks da dc ds l).blk g→w.heap.size≤g))∧Below w.heap.size w w'
 | .error x,e,w'=>e=.returned (.tuple #[.agg #[.int .u8 0,.string ⟨#[]⟩,.slice none 0 0,.slice none 0 0,.int .i64 0],.agg #[.int .i64 x.1,.int .i64 x.2]])∧Below w.heap.size w w'
theorem Sd(f:Nat)(a:Option Addr)(c:Nat)(ts:List Tk)(o:Except (Int × Int) P20.T)(w:World)(hi:K9 w a ts)(aN:ts.length≤c)(aK:c≤maxLen)(hne:ts≠[])(h8:∀t∈ts,t.1<256∧t.2.1.length≤maxLen)(hb:∀g,Bj a g→g<w.heap.size)
  (hn:ts.length≤100000000) (hd:P20.Rd (Fl ts) f ts o) :
  Calls Tryz.prog 33 #[.slice a ts.length c] w (Mg w o):=by
 have bF:∀(fn:Fn) (first cap:Array Value) (w:World),(Instr.makeFunc fn first cap).run Tryz.prog w=.ok (.func fn first cap) w:=fun _ _ _ _=>rfl;have HI:=Ab hi;clear hi;obtain⟨W1,Q⟩:∃W1,((w.alloc (.cells #[.int .u8 0,.string ⟨#[]⟩,.slice none 0 0,.slice none 0 0,.int .i64 0] 26)).alloc (.cells #[.int .i64 0,.int .i64 0] 29)).alloc (.cells #[.slice a ts.length c,.slice a ts.length c] 115)=W1:=⟨_,rfl⟩;have aT:W1.heap.size=w.heap.size+1+1+1:=by rw[←Q];simp
 have I:Below w.heap.size w W1:=by rw[←Q];exact(((qV _ w).alloc (qJ _) _).alloc (by simp) _).alloc (by simp;omega) _
 have g0:W1.heap[w.heap.size]?=some (.cells #[.int .u8 0,.string ⟨#[]⟩,.slice none 0 0,.slice none 0 0,.int .i64 0] 26):=by
  rw[←Q];exact(qD _ _ _ (by simp;omega)).trans ((qD _ _ _ (by simp)).trans (qB w _))
 have g1:W1.heap[w.heap.size+1]?=some (.cells #[.int .i64 0,.int .i64 0] 29):=by
  rw[←Q];exact(qD _ _ _ (by simp)).trans (Cy w _ _)
 have g2:W1.heap[w.heap.size+1+1]?=some (.cells #[.slice a ts.length c,.slice a ts.length c] 115):=by
  rw[←Q];have h:=qB ((w.alloc (.cells #[.int .u8 0,.string ⟨#[]⟩,.slice none 0 0,.slice none 0 0,.int .i64 0] 26)).alloc (.cells #[.int .i64 0,.int .i64 0] 29)) (.cells #[.slice a ts.length c,.slice a ts.length c] 115);rw[qF,qF]at h;exact h
 have aM:K9 W1 a ts:=(Aa HI).keep (fun r _ ho=>I.block r (hb r ho));have aI:∀g,Bj a g→g<W1.heap.size:=fun g h=>by have:=hb g h;omega
 have aS:D6 W1 W1.heap.size (w.heap.size+1+1) ts ts:=⟨⟨a,a,c,c,g2,aM,aM,aN,aN,aK,aK,fun h=>by have:=hb _ h;omega,fun h=>by have:=hb _ h;omega,aI,aI⟩,by omega,hne,h8,h8⟩;have bC:=Ab Q;have aO:=Ab g0;have aG:=Ab g1;have N:=Ab aT;have aD:=fun o' hv=>(Qe (Fl ts) f).1 1 ts W1.heap.size (w.heap.size+1+1) ts o' W1 aS (qJ _) rfl (by omega) hn hv;have U:=Ab aD;obtain⟨H,hH⟩:∃H,w.heap.size=H:=⟨_,rfl⟩;have HH:=Ab hH;clear Q g0 g1 g2 aM aI aS aD aT hH hb HI aN aK hn
 go_enter_defers Tryz.func33,Tryz.ntmps33
 go_upto_region 3 with fail
 rw[Aa bC];cases hd with
 | @ok d hv=>
  go_upto_region 4 with(go_at_call 68;refine(Aa U _ hv).mono ?_;rintro e w2 ⟨k,t,ka,kc,ks,da,dc,ds,l,rfl,HN⟩;have D:=(Aa HN).2.2.2.2;have k0:=(D.block w.heap.size (by have:=Aa N;omega) (fun e=>by injection e;omega)).trans (Aa aO);obtain⟨⟨y0,f0⟩,⟨y1,f1⟩,⟨y2,f2⟩,⟨y3,f3⟩,⟨y4,f4⟩⟩:=Ad k0)
  obtain⟨R,aB,J,X,_⟩:=Aa HN;have hs:=Aa N;have aU:=D.size;have k1:=(D.block (w.heap.size+1) (by omega) (fun e=>by injection e;omega)).trans (Aa aG);obtain⟨⟨p,p',q,q',kr,_⟩,_⟩:=X;simp only[qP]at kr;obtain⟨W3,G⟩:∃W3,((((w2.setCell ⟨w.heap.size,0,none⟩ (.int .u8 k)).setCell ⟨w.heap.size,1,none⟩ (.string ⟨t.toArray⟩)).setCell ⟨w.heap.size,2,none⟩ (.slice ka ks.length kc)).setCell ⟨w.heap.size,3,none⟩ (.slice da ds.length dc)).setCell ⟨w.heap.size,4,none⟩ (.int .i64 l)=W3:=⟨_,rfl⟩;have l0:W3.heap[w.heap.size]?=some (.cells #[.int .u8 k,.string ⟨t.toArray⟩,.slice ka ks.length kc,.slice da ds.length dc,.int .i64 l] 26):=by rw[←G];exact B9 k0 _ _ _ _ _
  have l1:W3.heap[w.heap.size+1]?=some (.cells #[.int .i64 0,.int .i64 0] 29):=by rw[←G];exact(Az (by omega) _ _ _ _ _).trans k1
  have lr:=(show W3.heap[w.heap.size+1+1]?=w2.heap[w.heap.size+1+1]? by rw[←G];exact Az (by omega) _ _ _ _ _).trans kr;have aR:(Nd.mk k t ka kc ks da dc ds l).In W3:=by rw[←G];exact aB.keep (fun g hg=>Az (by have:=J g hg;omega) _ _ _ _ _)
  have aQ:Below w.heap.size w W3:=by
   rw[←G];refine⟨D.os.trans I.os,D.tape.trans I.tape,D.output.trans I.output,by simp;omega,fun i hi=>?_⟩;rw[Az (by omega)];exact(D.block i (by omega) (fun e=>by injection e;omega)).trans (I.block i hi)
  rw[G];clear G k0 k1 kr y0 f0 y1 f1 y2 f2 y3 f3 y4 f4 aB R;obtain⟨⟨y0,f0⟩,⟨y1,f1⟩,⟨y2,f2⟩,⟨y3,f3⟩,⟨y4,f4⟩⟩:=Ad l0;obtain⟨⟨z0,q0⟩,⟨z1,q1⟩⟩:=Af l1;obtain⟨⟨x0,_⟩,⟨x1,_⟩⟩:=Af lr;have aH:=Ab l0;have aJ:=Ab l1;have bG:=Dl;clear l0 l1 lr hs;go_upto_region 6 with fail
  go_region_with_o (fail)
  all_goals go_wp2
  all_goals
   have S:=Jv aQ (Aa aH) (Aa aJ) (.int .u8 k) (.string ⟨t.toArray⟩) (.slice ka ks.length kc) (.slice da ds.length dc) (.int .i64 l) (.int .i64 0) (.int .i64 0)
   have aE:(Nd.mk k t ka kc ks da dc ds l).In (((((((W3.setCell ⟨w.heap.size,0,none⟩ (.int .u8 k)).setCell ⟨w.heap.size,1,none⟩ (.string ⟨t.toArray⟩)).setCell ⟨w.heap.size,2,none⟩ (.slice ka ks.length kc)).setCell ⟨w.heap.size,3,none⟩ (.slice da ds.length dc)).setCell ⟨w.heap.size,4,none⟩ (.int .i64 l)).setCell ⟨w.heap.size+1,0,none⟩ (.int .i64 0)).setCell ⟨w.heap.size+1,1,none⟩ (.int .i64 0)).drew:=
    (aR.keep (fun g hg=>(Ar (by have:=J g hg;have:=Aa N;omega) _ _).trans (Az (by have:=J g hg;have:=Aa N;omega) _ _ _ _ _))).drew
   obtain⟨W5,aY⟩:∃W5,(((((((W3.setCell ⟨w.heap.size,0,none⟩ (.int .u8 k)).setCell ⟨w.heap.size,1,none⟩ (.string ⟨t.toArray⟩)).setCell ⟨w.heap.size,2,none⟩ (.slice ka ks.length kc)).setCell ⟨w.heap.size,3,none⟩ (.slice da ds.length dc)).setCell ⟨w.heap.size,4,none⟩ (.int .i64 l)).setCell ⟨w.heap.size+1,0,none⟩ (.int .i64 0)).setCell ⟨w.heap.size+1,1,none⟩ (.int .i64 0)).drew=W5:=⟨_,rfl⟩;rw[aY]at S aE ⊢;refine leaves_cons (f:=67) (args:=#[.pointer (some ⟨w.heap.size,0,none⟩),.pointer (some ⟨w.heap.size+1,0,none⟩)]) (by simp) (by simp[go_sem]) ?_;refine(Og _ _).mono ?_;rintro e u' aW ⟨rfl,rfl,Z⟩;have bA:=S.size;have m0:=(Z.block w.heap.size (qA.1 S.h0).1).trans S.h0;have m1:=(Z.block (w.heap.size+1) (qA.1 S.h1).1).trans S.h1;exact⟨_,Al rfl _ _ _ _ _ _ _ rfl (qX _ _ _ _ _ _ _ m0 Tryz.underlying26 rfl (by kernel_rfl)) rfl (qX _ _ _ _ _ _ _ m1 Tryz.underlying29 rfl (by kernel_rfl)),k,t,ka,kc,ks,da,dc,ds,l,rfl,Ab ⟨(Aa HN).1,aE.below Z,fun g hg=>by have:=J g hg;have:=Aa N;omega⟩,S.below.trans (Z.mono bA)⟩
 | @left d tk r hv=>
  go_upto_region 4 with(go_at_call 68;refine(Aa U _ hv).mono ?_;rintro e w2 ⟨k,t,ka,kc,ks,da,dc,ds,l,rfl,HN⟩;have D:=(Aa HN).2.2.2.2;have k0:=(D.block w.heap.size (by have:=Aa N;omega) (fun e=>by injection e;omega)).trans (Aa aO);obtain⟨⟨y0,f0⟩,⟨y1,f1⟩,⟨y2,f2⟩,⟨y3,f3⟩,⟨y4,f4⟩⟩:=Ad k0)
  obtain⟨R,aB,J,X,_⟩:=Aa HN;have hs:=Aa N;have aU:=D.size;have k1:=(D.block (w.heap.size+1) (by omega) (fun e=>by injection e;omega)).trans (Aa aG);obtain⟨W3,G⟩:∃W3,((((w2.setCell ⟨w.heap.size,0,none⟩ (.int .u8 k)).setCell ⟨w.heap.size,1,none⟩ (.string ⟨t.toArray⟩)).setCell ⟨w.heap.size,2,none⟩ (.slice ka ks.length kc)).setCell ⟨w.heap.size,3,none⟩ (.slice da ds.length dc)).setCell ⟨w.heap.size,4,none⟩ (.int .i64 l)=W3:=⟨_,rfl⟩;have l0:W3.heap[w.heap.size]?=some (.cells #[.int .u8 k,.string ⟨t.toArray⟩,.slice ka ks.length kc,.slice da ds.length dc,.int .i64 l] 26):=by rw[←G];exact B9 k0 _ _ _ _ _
  have l1:W3.heap[w.heap.size+1]?=some (.cells #[.int .i64 0,.int .i64 0] 29):=by rw[←G];exact(Az (by omega) _ _ _ _ _).trans k1
  have Y:∀g,g≠w.heap.size→W3.heap[g]?=w2.heap[g]?:=fun g hg=>by rw[←G];exact Az hg _ _ _ _ _
  have aA:D6 W3 W1.heap.size (w.heap.size+1+1) ts (tk::r):=X.off k0 (fun x h=>by cases h) Y (by omega);have bE:W3.heap.size=w2.heap.size:=by rw[←G];simp
  have aQ:Below w.heap.size w W3:=by
   rw[←G];refine⟨D.os.trans I.os,D.tape.trans I.tape,D.output.trans I.output,by simp;omega,fun i hi=>?_⟩;rw[Az (by omega)];exact(D.block i (by omega) (fun e=>by injection e;omega)).trans (I.block i hi)
  have bB:w.heap.size≤W3.heap.size:=by omega
  have aL:=F6 ts (tk::r);obtain⟨⟨p,p',q,q',kr,_⟩,_⟩:=aA;simp only[qE]at kr;obtain⟨⟨x0,_⟩,⟨x1,_⟩⟩:=Af kr;have aA:D6 W3 W1.heap.size (w.heap.size+1+1) ts (tk::r):=X.off k0 (fun x h=>by cases h) Y (by omega);have bD:(0:Int)<((r.length+1:Nat):Int):=by omega
  rw[G];have aH:=Ab l0;have aJ:=Ab l1;have aX:=Ab aA;clear G k0 k1 y0 f0 y1 f1 y2 f2 y3 f3 y4 f4 aB R l0 l1 aA X Y kr aL J;go_wp2_with (go_at_call 69;refine(D0 _ _ _ _ _ _ (Aa aX)).mono ?_;rintro e w4 ⟨rfl,aC⟩)
  have m0:=(aC.block w.heap.size (by omega)).trans (Aa aH);have m1:=(aC.block (w.heap.size+1) (by omega)).trans (Aa aJ);refine leaves_cons (f:=67) (args:=#[.pointer (some ⟨w.heap.size,0,none⟩),.pointer (some ⟨w.heap.size+1,0,none⟩)]) (by simp) (by simp[go_sem]) ?_;refine(Fp w.heap.size _ _ w4 _ _ _ _ _ _ _ m0 m1).mono ?_;rintro x u' aW ⟨rfl,rfl,S⟩;exact⟨_,Al rfl _ _ _ _ _ _ _ rfl (qX _ _ _ _ _ _ _ S.h0 Tryz.underlying26 rfl (by kernel_rfl)) rfl (qX _ _ _ _ _ _ _ S.h1 Tryz.underlying29 rfl (by kernel_rfl)),rfl,(aQ.trans (aC.mono bB)).trans (S.far (qJ _) (by have:=aC.size;omega))⟩
 | @bad e l hv=>
  go_wp2_with (go_at_call 68;refine(Aa U _ hv).mono ?_;rintro e2 w2 ⟨rfl,HN⟩)
  have D:=Aa HN;have hs:=Aa N;have aU:=D.size;have m0:=(D.block w.heap.size (by omega) (fun e=>by injection e;omega)).trans (Aa aO);have m1:=(D.block (w.heap.size+1) (by omega) (fun e=>by injection e;omega)).trans (Aa aG);have aZ:Below w.heap.size w w2:=⟨D.os.trans I.os,D.tape.trans I.tape,D.output.trans I.output,by omega,fun i hi=>(D.block i (by omega) (fun e=>by injection e;omega)).trans (I.block i hi)⟩;refine leaves_cons (f:=67) (args:=#[.pointer (some ⟨w.heap.size,0,none⟩),.pointer (some ⟨w.heap.size+1,0,none⟩)]) (by simp) (by simp[go_sem]) ?_;refine(Fp w.heap.size _ _ w2 _ _ _ _ _ _ _ m0 m1).mono ?_;rintro x u' aW ⟨rfl,rfl,S⟩;exact⟨_,Al rfl _ _ _ _ _ _ _ rfl (qX _ _ _ _ _ _ _ S.h0 Tryz.underlying26 rfl (by kernel_rfl)) rfl (qX _ _ _ _ _ _ _ S.h1 Tryz.underlying29 rfl (by kernel_rfl)),rfl,aZ.trans (S.far (by omega))⟩
theorem Sw.undrew{w W:World}{H:Nat}{a b:Obj}(h:Sw w W.drew H a b):Sw w W H a b:=⟨h.h0,h.h1,h.size,h.same,h.os,h.tape,h.output⟩
theorem Tq{W:World}{B:Nat}{v:Value}{ts:List Tk}(h:Fc W B v ts):∃a c,v=.slice a ts.length c∧ts.length≤c∧c≤maxLen∧K9 W a ts∧(∀g,ts≠[]→Bj a g→g<W.heap.size):=by
 unfold Fc at h;rcases h.2 with⟨rfl,h0⟩|⟨g,cap,I,rfl,hb,hh,hc,N,J,G⟩
 ·have:ts=[]:=qU h0;subst this;exact⟨none,0,rfl,qJ _,Nat.zero_le _,fun i x hx=>by simp at hx,fun g hn=>absurd rfl hn⟩
 ·refine⟨_,cap,rfl,hc,N,fun i t ht=>⟨g,0,rfl,?_⟩,fun g' _ ho=>?_⟩
  ·have Q:=(qI.1 ht).1
   have D:∀j,j<4→W.cell? ⟨g,0+i*4+j,none⟩=(A5 ts)[i*4+j]?:=fun j hj=>by
    rw[Nat.zero_add,cell_of_row W g (i*4+j) I _ (0,0) hh,←G,List.getElem?_take_of_lt (by omega)];simp
   obtain⟨S,X,U,R⟩:=G7 ts i t ht;refine⟨(D 0 (by omega)).trans S,(D 1 (by omega)).trans X,(D 2 (by omega)).trans U,(D 3 (by omega)).trans R⟩
  ·obtain⟨o,e⟩:=ho;cases e;exact(qA.1 hh).1
theorem Mc(s:ByteArray)(o:Except (Int × Int) P20.T)(w:World)(hs:s.size≤1048576)(ho:P20.PaR s.data.toList o) :
  Calls Tryz.prog 10 #[.string s] w (Mg w o):=by
 have X:=N8 s;have aI:=P20.all_len20 s.data.toList;have S:=P20.all_ok s.data.toList;rw[←zP]at aI;unfold P20.PaR at ho;obtain⟨⟨ts,e,l⟩,hp⟩:∃p,P19.all s.data.toList=p:=⟨_,rfl⟩;rw[hp]at ho aI S;simp only[hp]at X;unfold D3 at X;simp only at ho aI S X;obtain⟨W0,N⟩:∃W0,(w.alloc (.cells #[.int .u8 0,.string ⟨#[]⟩,.slice none 0 0,.slice none 0 0,.int .i64 0] 26)).alloc (.cells #[.int .i64 0,.int .i64 0] 29)=W0:=⟨_,rfl⟩;have aY:W0.heap.size=w.heap.size+1+1:=by rw[←N];simp
 have aQ:Below w.heap.size w W0:=by rw[←N];exact((qV _ w).alloc (qJ _) _).alloc (by simp) _
 have g0:W0.heap[w.heap.size]?=some (.cells #[.int .u8 0,.string ⟨#[]⟩,.slice none 0 0,.slice none 0 0,.int .i64 0] 26):=by
  rw[←N];exact(qD _ _ _ (by simp)).trans (qB w _)
 have g1:W0.heap[w.heap.size+1]?=some (.cells #[.int .i64 0,.int .i64 0] 29):=by rw[←N];exact Cy w _ _
 have aD:=X W0 hs;have HT:=Ab aD;have aR:=Ab N;have aW:=Ab g0;have aO:=Ab g1;have aZ:=Dl;clear X aD N g0 g1 hp;go_enter Tryz.func10,Tryz.ntmps10
 go_upto_region 1 with fail
 rw[Aa aR];go_upto_region 2 with(go_at_call 32;refine(Aa HT).mono ?_;rintro e' w1 ⟨v,rfl,aC,Q⟩)
 obtain⟨a,c,rfl,aU,aX,aH,aK⟩:=Tq aC;obtain⟨Y,G⟩:∃Y,w1.alloc (.cells #[.int .i64 e,.int .i64 l] 29)=Y:=⟨_,rfl⟩;have aT:=Q.size;have aS:Y.heap.size=w1.heap.size+1:=by rw[←G];simp
 have aB:Below w.heap.size w Y:=by rw[←G];exact(aQ.trans (Q.mono (by omega))).alloc (by omega) _
 have k0:Y.heap[w.heap.size]?=some (.cells #[.int .u8 0,.string ⟨#[]⟩,.slice none 0 0,.slice none 0 0,.int .i64 0] 26):=by rw[←G];exact(qD _ _ _ (by omega)).trans ((Q.block _ (by omega)).trans (Aa aW))
 have k1:Y.heap[w.heap.size+1]?=some (.cells #[.int .i64 0,.int .i64 0] 29):=by rw[←G];exact(qD _ _ _ (by omega)).trans ((Q.block _ (by omega)).trans (Aa aO))
 have k2:Y.heap[w1.heap.size]?=some (.cells #[.int .i64 e,.int .i64 l] 29):=by rw[←G];exact qB w1 _
 have R:K9 Y a ts:=by rw[←G];exact aH.keep (fun r hn hr=>qD _ _ _ (aK r hn hr))
 rw[G];obtain⟨⟨y0,f0⟩,⟨y1,f1⟩,⟨y2,f2⟩,⟨y3,f3⟩,⟨y4,f4⟩⟩:=Ad k0;obtain⟨⟨z0,q0⟩,⟨z1,q1⟩⟩:=Af k1;obtain⟨⟨x0,_⟩,⟨x1,_⟩⟩:=Af k2;have Z:=Ab k0;have aA:=Ab k1;have aE:∀g,ts≠[]→Bj a g→g<Y.heap.size:=fun g hn hg=>by have:=aK g hn hg;omega
 obtain⟨D,hD⟩:∃D,w1.heap.size=D:=⟨_,rfl⟩;rw[hD]at x0 x1 aS ⊢;have bA:w.heap.size+1<D:=by omega
 clear G k0 k1 k2 aH aK aC hD Q aT;by_cases he:e=0
 rotate_left
 ·rw[if_pos he]at ho;subst ho;have jn:(e != 0)=true:=by simpa using he
  clear he;go_upto_region 3 with fail
  go_region_with_o (fail)
  all_goals go_wp2
  all_goals
   have I:=Jv aB (Aa Z) (Aa aA) (.int .u8 0) (.string ⟨#[]⟩) (.slice none 0 0) (.slice none 0 0) (.int .i64 0) (.int .i64 e) (.int .i64 l);exact qW (Al rfl _ _ _ _ _ _ _ rfl (qX _ _ _ _ _ _ _ I.h0 Tryz.underlying26 rfl (by kernel_rfl)) rfl (qX _ _ _ _ _ _ _ I.h1 Tryz.underlying29 rfl (by kernel_rfl))) rfl ⟨rfl,I.below⟩
 subst he;rw[if_neg (by simp)]at ho;by_cases hn:ts=[]
 ·rw[if_pos hn]at ho;subst ho;subst hn;go_wp2;have I:=(Jv aB (Aa Z) (Aa aA) (.int .u8 0) (.string ⟨#[]⟩) (.slice none 0 0) (.slice none 0 0) (.int .i64 0) (.int .i64 17) (.int .i64 0)).undrew;exact qW (Al rfl _ _ _ _ _ _ _ rfl (qX _ _ _ _ _ _ _ I.h0 Tryz.underlying26 rfl (by kernel_rfl)) rfl (qX _ _ _ _ _ _ _ I.h1 Tryz.underlying29 rfl (by kernel_rfl))) rfl ⟨rfl,I.below⟩
 ·rw[if_neg hn]at ho;obtain⟨f,aN⟩:=ho;have jn:((ts.length:Int)==0)=false:=by rw[beq_eq_false_iff_ne];have:=zM.2 hn;omega
  have aG:=Sd f a c ts o Y R aU aX hn (fun t ht=>⟨by have:=(S t ht).1;omega,by have:=(S t ht).len;unfold maxLen;omega⟩) (fun g hg=>aE g hn hg) (by omega) aN;have aM:=Ab aG;clear aG R aE S aN hn;cases o with
  |ok d=>
   go_upto_region 6 with fail
   go_wp2_with (go_at_call 33;refine(Aa aM).mono ?_;rintro e' w3 ⟨k,t,ka,kc,ks,da,dc,ds,ln,rfl,HN,J⟩;have m0:=(J.block _ (by omega)).trans (Aa Z);have m1:=(J.block _ (by omega)).trans (Aa aA);obtain⟨⟨r0,s0⟩,⟨r1,s1⟩,⟨r2,s2⟩,⟨r3,s3⟩,⟨r4,s4⟩⟩:=Ad m0;obtain⟨⟨t0,u0⟩,⟨t1,u1⟩⟩:=Af m1;have aL:=Ab m0;have aJ:=Ab m1;clear m0 m1)
   have U:Below w.heap.size w w3:=aB.trans (J.mono (by omega));have I:=(Jv U (Aa aL) (Aa aJ) (.int .u8 k) (.string ⟨t.toArray⟩) (.slice ka ks.length kc) (.slice da ds.length dc) (.int .i64 ln) (.int .i64 0) (.int .i64 0)).undrew;obtain⟨n1,n2,n3⟩:=Aa HN;refine qW (Al rfl _ _ _ _ _ _ _ rfl (qX _ _ _ _ _ _ _ I.h0 Tryz.underlying26 rfl (by kernel_rfl)) rfl (qX _ _ _ _ _ _ _ I.h1 Tryz.underlying29 rfl (by kernel_rfl))) rfl ⟨k,t,ka,kc,ks,da,dc,ds,ln,rfl,Ab ⟨n1,?_,fun g hg=>by have:=n3 g hg;omega⟩,I.below⟩;exact n2.keep (fun g hg=>(Ar (by have:=n3 g hg;omega) _ _).trans (Az (by have:=n3 g hg;omega) _ _ _ _ _))
  |error x=>
   obtain⟨x1,x2⟩:=x;go_upto_region 6 with fail
   go_wp2_with (go_at_call 33;refine(Aa aM).mono ?_;rintro e' w3 ⟨rfl,J⟩;have m0:=(J.block _ (by omega)).trans (Aa Z);have m1:=(J.block _ (by omega)).trans (Aa aA);obtain⟨⟨r0,s0⟩,⟨r1,s1⟩,⟨r2,s2⟩,⟨r3,s3⟩,⟨r4,s4⟩⟩:=Ad m0;obtain⟨⟨t0,u0⟩,⟨t1,u1⟩⟩:=Af m1;have aL:=Ab m0;have aJ:=Ab m1;clear m0 m1)
   have U:Below w.heap.size w w3:=aB.trans (J.mono (by omega));have I:=(Jv U (Aa aL) (Aa aJ) (.int .u8 0) (.string ⟨#[]⟩) (.slice none 0 0) (.slice none 0 0) (.int .i64 0) (.int .i64 x1) (.int .i64 x2)).undrew;exact qW (Al rfl _ _ _ _ _ _ _ rfl (qX _ _ _ _ _ _ _ I.h0 Tryz.underlying26 rfl (by kernel_rfl)) rfl (qX _ _ _ _ _ _ _ I.h1 Tryz.underlying29 rfl (by kernel_rfl))) rfl ⟨rfl,I.below⟩
end Go.Proofs.YtnjokdbblmlhhaaGreatDoor
