/- Lemmas of this claim. -/
import Derived.Test.YtnjokdbblmlhhaaGreatDoorInvY
set_option linter.unusedVariables false
set_option linter.unusedSimpArgs false
namespace Go.Proofs.YtnjokdbblmlhhaaGreatDoor
set_option maxHeartbeats 16000000
set_option maxRecDepth 100000
open Go.RowKit
theorem Jt{w:World}{B:Nat}{v:Value}{ls:List (List UInt8)}{J:Array Oper}{o:Oper}{a:Act}{K:Act→World→Prop}{Q:Exit→Act→World→Prop}{E:Prop}(G:o.guard=none)(s x:Operand)
  (ho:o.op=.call { callee:=.builtin .append,args:=#[s,x],argTypes:=#[23,23] })
  (hs:a.eval s=v) (hk:Strs w B v ls) (l:List UInt8) (g cap:Nat) (hx:a.eval x=.slice (some ⟨g,0,none⟩) 1 cap) (D:w.cell? ⟨g,0,none⟩=some (.string ⟨l.toArray⟩))
  (S:ls.length+1≤1000000000) (hB:B≤w.heap.size)
  (h:∀v' w',Strs w' B v' (ls++[l])→w.grownBy w' v.ownBlock→(v'.ownBlock=v.ownBlock∨∃g,v'.ownBlock=some g∧w.heap.size≤g)→K (a.put o.dst v') w') :
  if Region.wanted o (yielded J a.tmps)=true then Oper.wp Tryz.prog o a w K Q else E:=by
 obtain⟨i,hi,hz,I,R⟩:=info_parts Pq
 refine step_append_lies (P:=Tryz.prog) w G s x 23 ho B 9 i (.string ⟨#[]⟩) 1 16 Tryz.underlying23 hi hz I R rfl (by decide) v ls.length (ls.map C0) hs hk.own
  ⟨g,0,none⟩ 1 cap [.string ⟨l.toArray⟩] hx rfl (by intro j u hj;match j,hj with|0,hj=>simp at hj;subst hj;exact D) (by intro u hu;simp at hu;subst hu;rfl) (by decide) (by unfold maxLen;omega) (by omega) hB _ rfl ?_
 intro g' U w' h2 h3 N _;refine h _ w' ⟨?_⟩ h3 ?_
 ·rw[List.map_append,qH];exact h2
 ·rcases N with h5|h5
  ·exact .inl h5.symm
  ·exact .inr ⟨g',rfl,by omega⟩
theorem Bm{L:Array Bool}{i:Nat}(h:L.getD i true=false):(L.setIfInBounds i true).getD i false=true:=by
 obtain⟨hl,_⟩:=A4 h;simp[Array.getD,hl]
theorem Ac{L:Array Bool}{i j:Nat}(h:j≠i)(hj:(L.setIfInBounds i true).getD j false=true):L.getD j false=true:=by
 rwa [getD_set_ne false (Ne.symm h)]at hj
theorem Bt{f:FuncId}{args:Array Value}{w:World}{o:Oper}{a:Act}{K:Act→World→Prop}{Q:Exit→Act→World→Prop}{R:Ending→World→Prop}
  (hex:(execOp a.eval o).run Tryz.prog w=.ok (.enter f args) w) (h:Calls Tryz.prog f args w R) (hk:∀e w',R e w'→∃v,e=.returned v∧K (a.put o.dst v) w'):Oper.wp Tryz.prog o a w K Q:=by
 unfold Oper.wp;rw[hex,Oper.upon_enter];refine h.mono (fun e w' hr=>?_);obtain⟨v,rfl,D⟩:=hk e w' hr;exact D
theorem Nr(w:World)(v:Value)(t:TypeId):(w.alloc (.cells #[v] t)).cell? ⟨w.heap.size,0,none⟩=some v:=(Gs (qB w (.cells #[v] t))).1
def Jq(D B:Nat)(acc:List (List UInt8))(A:Nat→Prop)(W:World):Prop:=
 (∃a c,W.heap[D]?=some (.cells #[.slice a acc.length c] 23)∧Strs W B (.slice a acc.length c) acc∧∀g,(Value.slice a acc.length c).ownBlock=some g→¬A g)∧¬A D∧D<B∧B≤W.heap.size
theorem Vl(G B:Nat):Gf (Jq G B) where
 stays:=by
  rintro s A W W' ⟨⟨a,c,h1,h2,h3⟩,h4,h5,h6⟩ hz hs;have hl:=(qA.1 h1).1;refine⟨⟨a,c,(hs G hl h4).trans h1,⟨Ds h2.own (fun g D=>hs g (Ao h2.own g D).2 (h3 g D))⟩,fun g D=>?_⟩,?_,h5,by omega⟩
  ·have:=(Ao h2.own g D).2;rintro(h7|h7)
   ·exact h3 g D h7
   ·omega
  ·rintro(h7|h7)
   ·exact h4 h7
   ·omega
 mono:=by
  rintro s A A' W ⟨⟨a,c,h1,h2,h3⟩,h4,h5,h6⟩ I;exact⟨⟨a,c,h1,h2,fun g D h=>h3 g D (I g h)⟩,fun h=>h4 (I _ h),h5,h6⟩
theorem Sa:∀(args:Array Value) (W:World),(callFunc 125 args).run Tryz.prog W=.ok (.enter 125 args) W:=enters_of Tryz.func125 (by kernel_rfl) rfl
def U0(R:Except P22.F (List UInt8))(D:Nat)(v:Value)(w:World):Prop:=match R with
 | .ok x=>v=fV 0 0∧w.heap[D]?=some (.cells (Fv x) 9)
 | .error f=>v=fV f.1 f.2∧∃x,w.heap[D]?=some (.cells (Fv x) 9)
theorem U0.keep{R:Except P22.F (List UInt8)}{D:Nat}{v:Value}{w w':World}(h:U0 R D v w)(hb:w'.heap[D]?=w.heap[D]?):U0 R D v w':=by
 cases R with
 |ok x=>exact⟨h.1,hb.trans h.2⟩
 |error f=>exact⟨h.1,h.2.imp fun x hx=>hb.trans hx⟩
def Kq:P22.Rd (List (List UInt8)):=fun d acc=>(P22.textE 64 d).map fun a=>acc++[a]
theorem Qg{D B H fb:Nat}{acc:List (List UInt8)}{x:List UInt8}{A:Nat→Prop}{w V Q:World}{a a9:Option Addr}{c G:Nat}{e l':Int}{res:Except P22.F (List (List UInt8))}{ob:Obj}
  (hH:w.heap.size=H) (hV:H+1+1<V.heap.size) (hF:Cp A w V) (i4:¬A D) (i5:D<B) (aJ:D<H) (i6:B≤H) (aK:H+1+1<fb) (Z:V.heap[fb]?=some (.cells #[.int .i64 e,.int .i64 l'] 29))
  (X:∀g,(Value.slice a acc.length c).ownBlock=some g→¬A g) (N:∀g,(Value.slice a acc.length c).ownBlock=some g→B≤g∧g<H)
  (hT:V.heap[D]?=some (.cells #[.slice a acc.length c] 23)) (hN:V.heap[H+1]?=some (.cells #[.int .i64 0,.int .i64 0] 29))
  (I:(V.alloc ob).drew.grownBy Q (Value.slice a acc.length c).ownBlock) (aD:Strs Q B (.slice a9 (acc.length+1) G) (acc++[x]))
  (aC:(Value.slice a9 (acc.length+1) G).ownBlock=(Value.slice a acc.length c).ownBlock∨∃g,(Value.slice a9 (acc.length+1) G).ownBlock=some g∧(V.alloc ob).drew.heap.size≤g)
  (aB:(res=.ok (acc++[x])∧e=0∧l'=0)∨(res=.error (e,l')∧e≠0)) :
  (Q.setCell ⟨D,0,none⟩ (.slice a9 (acc.length+1) G)).heap[fb]?=some (.cells #[.int .i64 e,.int .i64 l'] 29)∧(Q.setCell ⟨D,0,none⟩ (.slice a9 (acc.length+1) G)).heap[H+1]?=some (.cells #[.int .i64 0,.int .i64 0] 29) ∧
  (∀W6,((Q.setCell ⟨D,0,none⟩ (.slice a9 (acc.length+1) G)).setCell ⟨H+1,0,none⟩ (.int .i64 e)).setCell ⟨H+1,1,none⟩ (.int .i64 l')=W6→D7 (Jq D B) A w res (.returned (fV e l')) W6∧(loadVar 29 ⟨H+1,0,none⟩).run Tryz.prog W6=.ok (fV e l') W6):=by
 have U:∀g,g<V.heap.size→g≠D→(Value.slice a acc.length c).ownBlock≠some g→(Q.setCell ⟨D,0,none⟩ (.slice a9 (acc.length+1) G)).heap[g]?=V.heap[g]?:=fun g J hne ho=>
  (qC _ _ _ _ hne).trans ((I.block g (by simp;omega) (fun q=>ho q.symm)).trans (qD _ _ _ J))
 have Y:=(qA.1 Z).1;have e5:=(U fb Y (by omega) (fun q=>by have:=(N _ q).2;omega)).trans Z;have f5:=(U (H+1) (by omega) (by omega) (fun q=>by have:=(N _ q).2;omega)).trans hN;refine⟨e5,f5,?_⟩;rintro W6 rfl;have aE:=I.size;have aA:(V.alloc ob).drew.heap.size=V.heap.size+1:=by simp
 rw[aA]at aE;have aG:=(I.block D (by simp;omega) (fun q=>by have:=(N _ q.symm).1;omega)).trans ((qD V ob D (by omega)).trans hT);have aI:(((Q.setCell ⟨D,0,none⟩ (.slice a9 (acc.length+1) G)).setCell ⟨H+1,0,none⟩ (.int .i64 e)).setCell ⟨H+1,1,none⟩ (.int .i64 l')).heap[D]?=some (.cells #[.slice a9 (acc.length+1) G] 23):=(Ar (by omega) _ _).trans (Gb aG _)
 have S:∀g,(Value.slice a9 (acc.length+1) G).ownBlock=some g→(B≤g∧g<H∧¬A g)∨H+1+1<g:=by
  intro g J;rcases aC with h|⟨g',h1,h2⟩
  ·rw[h]at J;exact .inl ⟨(N g J).1,(N g J).2,X g J⟩
  ·rw[J]at h1;cases h1;rw[aA]at h2;exact .inr (by omega)
 have R:Jq D B (acc++[x]) (fun g=>A g∧g<w.heap.size) (((Q.setCell ⟨D,0,none⟩ (.slice a9 (acc.length+1) G)).setCell ⟨H+1,0,none⟩ (.int .i64 e)).setCell ⟨H+1,1,none⟩ (.int .i64 l')):=by
  refine⟨⟨a9,G,by rw[qH];exact aI,?_,?_⟩,fun h=>i4 h.1,i5,by simp;omega⟩
  ·rw[qH];refine⟨Ds aD.own (fun g J=>?_)⟩;have:=S g J;refine(Ar (by omega) _ _).trans (qC _ _ _ _ ?_);show g≠D;omega
  ·rw[qH];intro g J h;rcases S g J with h1|h1
   ·exact h1.2.2 h.1
   ·rw[hH]at h;omega
 have aH:Cp A w (((Q.setCell ⟨D,0,none⟩ (.slice a9 (acc.length+1) G)).setCell ⟨H+1,0,none⟩ (.int .i64 e)).setCell ⟨H+1,1,none⟩ (.int .i64 l')):=by
  refine Cp.two ⟨?_,fun g J hA=>(U g (by omega) (fun q=>i4 (q ▸ hA)) (fun q=>X g q hA)).trans (hF.same g J hA),I.os.trans hF.os,I.tape.trans hF.tape,I.output.trans hF.output⟩ (by omega) _ _;have:=hF.size;simp;omega
 refine⟨⟨aH,?_⟩,Ai (A3 f5 _ _)⟩;rcases aB with⟨rfl,rfl,rfl⟩|⟨rfl,h⟩
 ·exact⟨rfl,R⟩
 ·exact⟨rfl,h,_,R⟩
theorem Q0(tb B p:Nat)(k:Nat)(t:List UInt8)(ka:Option Addr)(kc:Nat)(ks:List (List UInt8))(da:Option Addr)(dc:Nat)(ds:List Nd)(l:Int)(acc:List (List UInt8))(A:Nat→Prop)(w:World)(bP:t.length≤1000000)
  (hp:w.heap[p]?=some (.cells #[.pointer (some ⟨tb,0,none⟩)] 141)) (bT:A p) (hi:Jq tb B acc A w) (cE:acc.length+1≤1000000000) :
  Calls Tryz.prog 125 #[.agg #[.int .u8 k,.string ⟨t.toArray⟩,.slice ka ks.length kc,.slice da ds.length dc,.int .i64 l],.pointer (some ⟨p,0,none⟩)] w (D7 (Jq tb B) A w (Kq (Nd.mk k t ka kc ks da dc ds l).bare acc)):=by
 obtain⟨H,hH⟩:∃H,w.heap.size=H:=⟨_,rfl⟩;obtain⟨W0,aS,aT,g0,g1,bG⟩:=A0 w (.cells #[.int .u8 k,.string ⟨t.toArray⟩,.slice ka ks.length kc,.slice da ds.length dc,.int .i64 l] 26) (.cells #[.int .i64 0,.int .i64 0] 29) H hH;have x0:=Ad g0;have y0:=Af g1;obtain⟨⟨a,c,i1,i2,i3⟩,i4,i5,i6⟩:=hi;have bA:=(qA.1 hp).1;have aR:=(qA.1 i1).1;have aQ:=fun g S=>(Ao i2.own g S);rw[hH]at bA aR aQ i6
 -- the string's box
 obtain⟨W1,U⟩:∃W1,W0.alloc (.cells #[.string ⟨#[]⟩] 9)=W1:=⟨_,rfl⟩;have bF:Below H w W1:=by rw[←U];exact aT.alloc (by omega) _
 have s1:W1.heap[H+1+1]?=some (.cells (Fv []) 9):=by rw[←U,←bG];exact qB _ _
 have cG:W1.heap.size=H+1+1+1:=by rw[←U];simp;omega
 have n0:W1.heap[H]?=some (.cells #[.int .u8 k,.string ⟨t.toArray⟩,.slice ka ks.length kc,.slice da ds.length dc,.int .i64 l] 26):=by rw[←U];exact(qD _ _ _ (by omega)).trans g0
 have n1:W1.heap[H+1]?=some (.cells #[.int .i64 0,.int .i64 0] 29):=by rw[←U];exact(qD _ _ _ (by omega)).trans g1
 have bW:=Ab aS;have cC:=Ab U;have Q:=Ab bF;have bK:=Ab s1;have bJ:=Ab n0;have bN:=Ab n1;have bL:=Ab i1;have bM:=Ab i2;have aY:=Ab i3;have HP:=Ab hp;have aM:=Ab aQ;have cA:=Dl;clear aS aT g0 g1 U bF s1 n0 n1 i1 i2 i3 hp aQ x0 y0;have x0:=Ad (Aa bJ);go_enter Tryz.func125,Tryz.ntmps125
 go_upto_region 1 with fail
 try rw[hH]
 rw[Aa bW];go_upto_region 2 with fail
 try rw[bG]
 rw[Aa cC];have bI:=fun W=>D2 (H+1+1) 64 W;obtain⟨R,hR⟩:∃R,P22.textE 64 (Nd.mk k t ka kc ks da dc ds l).bare=R:=⟨_,rfl⟩;have aN:=fun c W q1 q2 q3=>J5 k t ka kc ks da dc ds l c (c+1) (H+1+1) 64 [] W bP q1 q2 q3;rw[hR]at aN
 refine Cw cA (fun L a w'=>∃v5 v6 v7 Z:Value,a=⟨#[.agg #[.int .u8 k,.string ⟨t.toArray⟩,.slice ka ks.length kc,.slice da ds.length dc,.int .i64 l],.pointer (some ⟨p,0,none⟩),.pointer (some ⟨H,0,none⟩),.pointer (some ⟨H+1,0,none⟩),.pointer (some ⟨H+1+1,0,none⟩),v5,v6,v7,Z,undef,undef,undef,undef,undef,undef,undef,undef,undef],[]⟩∧L.size=5∧Below (H+1+1) W1 w' ∧
  (L.getD 2 false=false→w'.heap[H+1+1]?=some (.cells (Fv []) 9)) ∧
  (L.getD 0 false=true→∃c,v6=.func (.func 93) #[] #[.pointer (some ⟨c,0,none⟩),.pointer (some ⟨c+1,0,none⟩)]∧H+1+1<c∧w'.heap[c]?=some (.cells #[.pointer (some ⟨H+1+1,0,none⟩)] 94)∧w'.heap[c+1]?=some (.cells #[.int .i64 64] 3)) ∧
  (L.getD 1 false=true→v7=.agg #[.int .u8 k,.string ⟨t.toArray⟩,.slice ka ks.length kc,.slice da ds.length dc,.int .i64 l]) ∧
  (L.getD 2 false=true→U0 R (H+1+1) Z w') ∧
  (L.getD 3 false=true→∃J x y,v5=.pointer (some ⟨J,0,none⟩)∧H+1+1<J∧w'.heap[J]?=some (.cells #[x,y] 29)∧(L.getD 4 false=true→Z=.agg #[x,y])) ∧
  (L.getD 4 false=true→L.getD 2 false=true∧L.getD 3 false=true)) (by kernel_rfl) ?_ ?_ ?_
 ·refine⟨undef,undef,undef,undef,rfl,by kernel_rfl,(qV (H+1+1) W1).drew,fun _=>Aa bK,?_,?_,?_,?_,?_⟩;all_goals (intro h;exact absurd h (by decide))
 ·rintro L a' w' i o ⟨v5,v6,v7,Z,rfl,X,hB,hS,f0,f1,f2,f3,f4⟩ ho hi G
  match i,ho with
  |0,ho=>
   cases ho;refine Ak rfl rfl ?_;have aK:=enters_of Tryz.func58 (by kernel_rfl) rfl;refine Bt (f:=58) (args:=#[.pointer (some ⟨H+1+1,0,none⟩),.int .i64 64]) (by simp[execOp,go_sem,aK]) (bI w') ?_;rintro Y w2 ⟨c2,rfl,cF,q1,q2,bB⟩;have hz:=hB.size;have D:∀g,g<w'.heap.size→w2.heap[g]?=w'.heap[g]?:=fun g S=>bB.block g S;refine⟨_,rfl,v5,_,v7,Z,rfl,by simp[X],hB.trans (bB.mono (by omega)),?_,fun _=>⟨c2,rfl,by omega,q1,q2⟩,fun h=>f1 (Ac (by omega) h),?_,?_,fun h=>⟨by rw[getD_set_ne false (by omega)];exact(f4 (Ac (by omega) h)).1,by rw[getD_set_ne false (by omega)];exact(f4 (Ac (by omega) h)).2⟩⟩
   ·intro h;exact(D _ (by omega)).trans (hS (by rwa [getD_set_ne false (by omega)]at h))
   ·intro h;exact(f2 (Ac (by omega) h)).keep (D _ (by omega))
   ·intro h;obtain⟨J,x,y,e1,Y,I,e4⟩:=f3 (Ac (by omega) h);exact⟨J,x,y,e1,Y,(D J (qA.1 I).1).trans I,fun h4=>e4 (Ac (by omega) h4)⟩
  |1,ho=>
   cases ho;refine Ak rfl rfl ?_;have y0:=Ad ((hB.block H (by omega)).trans (Aa bJ));refine qS (K:=fun a2 w2=>a2=⟨#[.agg #[.int .u8 k,.string ⟨t.toArray⟩,.slice ka ks.length kc,.slice da ds.length dc,.int .i64 l],.pointer (some ⟨p,0,none⟩),.pointer (some ⟨H,0,none⟩),.pointer (some ⟨H+1,0,none⟩),.pointer (some ⟨H+1+1,0,none⟩),v5,v6,(.agg #[.int .u8 k,.string ⟨t.toArray⟩,.slice ka ks.length kc,.slice da ds.length dc,.int .i64 l]),Z,undef,undef,undef,undef,undef,undef,undef,undef,undef],[]⟩∧w2=w') (fun a2 w2 he=>?_) (by simp[Oper.wp,go_sem,y0]);obtain⟨rfl,rfl⟩:=he;refine⟨v5,v6,_,Z,rfl,by simp[X],hB,fun h=>hS (by rwa [getD_set_ne false (by omega)]at h),fun h=>f0 (Ac (by omega) h),fun _=>rfl,fun h=>f2 (Ac (by omega) h),fun h=>?_,fun h=>⟨by rw[getD_set_ne false (by omega)];exact(f4 (Ac (by omega) h)).1,by rw[getD_set_ne false (by omega)];exact(f4 (Ac (by omega) h)).2⟩⟩;obtain⟨J,x,y,e1,Y,I,e4⟩:=f3 (Ac (by omega) h);exact⟨J,x,y,e1,Y,I,fun h4=>e4 (Ac (by omega) h4)⟩
  |2,ho=>
   cases ho;refine Ak rfl rfl ?_;have aK:=enters_of Tryz.func93 (by kernel_rfl) rfl;obtain⟨c,rfl,hc,q1,q2⟩:=f0 (G ⟨0,.data⟩ (by simp) rfl);obtain rfl:=f1 (G ⟨1,.data⟩ (by simp) rfl);have bC:=(A4 hi).2;refine Bt (f:=93) (args:=#[.agg #[.int .u8 k,.string ⟨t.toArray⟩,.slice ka ks.length kc,.slice da ds.length dc,.int .i64 l],.pointer (some ⟨c,0,none⟩),.pointer (some ⟨c+1,0,none⟩)]) (by simp[execOp,go_sem,aK]) (aN c w' q1 q2 (hS bC)) ?_;rintro I w3 ⟨aA,aJ⟩;have hz:=hB.size;have D:∀g,g<w'.heap.size→g≠H+1+1→w3.heap[g]?=w'.heap[g]?:=fun g S hne=>aA.block g S (fun e=>hne (by injection e));have bU:Below (H+1+1) W1 w3:=⟨aA.os.trans hB.os,aA.tape.trans hB.tape,aA.output.trans hB.output,qK hz aA.size,fun g S=>(D g (by omega) (by omega)).trans (hB.block g S)⟩
   have bH:∃v,I=.returned v∧U0 R (H+1+1) v w3:=by
    cases R with
    |ok x=>exact⟨_,aJ.1,rfl,aJ.2⟩
    |error f=>
     obtain⟨e1,cs,⟨x,rfl⟩,Y⟩:=aJ;exact⟨_,e1,rfl,x,Y⟩
   obtain⟨v,rfl,hv⟩:=bH;refine⟨v,rfl,v5,_,_,v,rfl,by simp[X],bU,?_,fun _=>⟨c,rfl,hc,(D c (qA.1 q1).1 (by omega)).trans q1,(D (c+1) (qA.1 q2).1 (by omega)).trans q2⟩,fun _=>rfl,fun _=>hv,fun h=>?_,fun h=>⟨Bm hi,by rw[getD_set_ne false (by omega)];exact(f4 (Ac (by omega) h)).2⟩⟩
   ·intro h;rw[Bm hi]at h;cases h
   ·obtain⟨J,x,y,e1,Y,I,e4⟩:=f3 (Ac (by omega) h);refine⟨J,x,y,e1,Y,(D J (qA.1 I).1 (by omega)).trans I,fun h4=>?_⟩;have:=(f4 (Ac (by omega) h4)).1;rw[bC]at this;cases this
  |3,ho=>
   cases ho;refine Ak rfl rfl ?_;refine qS (K:=fun a2 w2=>a2=⟨#[.agg #[.int .u8 k,.string ⟨t.toArray⟩,.slice ka ks.length kc,.slice da ds.length dc,.int .i64 l],.pointer (some ⟨p,0,none⟩),.pointer (some ⟨H,0,none⟩),.pointer (some ⟨H+1,0,none⟩),.pointer (some ⟨H+1+1,0,none⟩),(.pointer (some ⟨w'.heap.size,0,none⟩)),v6,v7,Z,undef,undef,undef,undef,undef,undef,undef,undef,undef],[]⟩∧w2=w'.alloc (.cells #[.int .i64 0,.int .i64 0] 29)) (fun a2 w2 he=>?_) (by simp[Oper.wp,go_sem]);obtain⟨rfl,rfl⟩:=he;have hz:=hB.size;have D:∀g,g<w'.heap.size→(w'.alloc (.cells #[.int .i64 0,.int .i64 0] 29)).heap[g]?=w'.heap[g]?:=fun g S=>qD _ _ _ S
   have bE:L.getD 4 false=true→False:=fun h=>by
    have:=(f4 h).2;rw[(A4 hi).2]at this;cases this
   refine⟨_,v6,v7,Z,rfl,by simp[X],hB.alloc (by omega) _,?_,fun h=>?_,fun h=>f1 (Ac (by omega) h),fun h=>?_,fun _=>⟨w'.heap.size,_,_,rfl,by omega,qB _ _,fun h=>(bE (Ac (by omega) h)).elim⟩,fun h=>(bE (Ac (by omega) h)).elim⟩
   ·intro h;exact(D _ (by omega)).trans (hS (by rwa [getD_set_ne false (by omega)]at h))
   ·obtain⟨c,e1,Y,I,e4⟩:=f0 (Ac (by omega) h);exact⟨c,e1,Y,(D c (qA.1 I).1).trans I,(D (c+1) (qA.1 e4).1).trans e4⟩
   ·exact(f2 (Ac (by omega) h)).keep (D _ (by omega))
  |4,ho=>
   cases ho;refine Ak rfl rfl ?_;obtain⟨J,x,y,rfl,aO,I,_⟩:=f3 (G ⟨3,.data⟩ (by simp) rfl);have h2:=f2 (G ⟨2,.data⟩ (by simp) rfl);have aZ:=G ⟨2,.data⟩ (by simp) rfl;have cB:=G ⟨3,.data⟩ (by simp) rfl
   obtain⟨m1,m2,bY⟩:∃m1 m2,Z=.agg #[.int .i64 m1,.int .i64 m2]:=by
    cases R with
    |ok x=>exact⟨_,_,h2.1⟩
    |error f=>exact⟨_,_,h2.1⟩
   subst bY;have z0:=Af I;refine qS (K:=fun a2 w2=>a2=⟨#[.agg #[.int .u8 k,.string ⟨t.toArray⟩,.slice ka ks.length kc,.slice da ds.length dc,.int .i64 l],.pointer (some ⟨p,0,none⟩),.pointer (some ⟨H,0,none⟩),.pointer (some ⟨H+1,0,none⟩),.pointer (some ⟨H+1+1,0,none⟩),(.pointer (some ⟨J,0,none⟩)),v6,v7,(.agg #[.int .i64 m1,.int .i64 m2]),undef,undef,undef,undef,undef,undef,undef,undef,undef],[]⟩∧w2=(w'.setCell ⟨J,0,none⟩ (.int .i64 m1)).setCell ⟨J,1,none⟩ (.int .i64 m2)) (fun a2 w2 he=>?_) (by simp[Oper.wp,go_sem,z0]);obtain⟨rfl,rfl⟩:=he;have D:∀g,g≠J→((w'.setCell ⟨J,0,none⟩ (.int .i64 m1)).setCell ⟨J,1,none⟩ (.int .i64 m2)).heap[g]?=w'.heap[g]?:=fun g S=>Ar S _ _;refine⟨_,v6,v7,_,rfl,by simp[X],Ax hB (by omega) _ _,?_,fun h=>?_,fun h=>f1 (Ac (by omega) h),fun h=>(f2 (Ac (by omega) h)).keep (D _ (by omega)),fun _=>⟨J,_,_,rfl,aO,A3 I _ _,fun _=>rfl⟩,fun _=>⟨by rw[getD_set_ne false (by omega)];exact aZ,by rw[getD_set_ne false (by omega)];exact cB⟩⟩
   ·intro h;rw[getD_set_ne false (by omega),aZ]at h;cases h
   ·obtain⟨c,e1,Y,e4,e5⟩:=f0 (Ac (by omega) h);refine⟨c,e1,Y,(D c (by rintro rfl;rw[I]at e4;simp at e4)).trans e4,(D (c+1) (by rintro rfl;rw[I]at e5;simp at e5)).trans e5⟩
  |n+5,ho=>exact absurd ho (by simp)
 ·rintro L a' V ⟨v5,v6,v7,Z,rfl,X,hB,hS,f0,f1,f2,f3,f4⟩ aG
  have N:∀i,i<L.size→L.getD i false=true:=fun i hi=>by
   have:=aG i;simp only[Array.getD,hi,dif_pos]at this ⊢;exact this
  obtain⟨J,x1,y1,rfl,aO,I,e8⟩:=f3 (N 3 (by omega));have h2:=f2 (N 2 (by omega));obtain rfl:=e8 (N 4 (by omega))
  obtain⟨x,e,l',q1,q2,hx⟩:∃x e l',Value.agg #[x1,y1]=fV e l'∧V.heap[H+1+1]?=some (.cells (Fv x) 9)∧((R=.ok x∧e=0∧l'=0)∨R=.error (e,l')):=by
   cases R with
   |ok x=>exact⟨x,0,0,h2.1,h2.2,.inl ⟨rfl,rfl,rfl⟩⟩
   |error f=>
    obtain⟨x,hx⟩:=h2.2;exact⟨x,f.1,f.2,h2.1,hx,.inr rfl⟩
  simp only[fV,Value.agg.injEq,Array.mk.injEq,List.cons.injEq,and_true]at q1;obtain⟨rfl,rfl⟩:=q1
  have HX:=Ab (show (Kq (Nd.mk k t ka kc ks da dc ds l).bare acc=.ok (acc++[x])∧e=0∧l'=0)∨(Kq (Nd.mk k t ka kc ks da dc ds l).bare acc=.error (e,l')∧e≠0) by
   unfold Kq;rw[hR];rcases hx with⟨rfl,rfl,rfl⟩|rfl
   ·exact .inl ⟨rfl,rfl,rfl⟩
   ·exact .inr ⟨rfl,P22.textE_bad hR⟩)
  have hz:=hB.size;have nT:=(hB.block tb (by omega)).trans (((Aa Q).block tb aR).trans (Aa bL));have nP:=(hB.block p (by omega)).trans (((Aa Q).block p bA).trans (Aa HP));have nF:=(hB.block (H+1) (by omega)).trans (Aa bN);have aH:Strs V B (.slice a acc.length c) acc:=⟨Ds (Aa bM).own (fun g S=>(hB.block g (by have:=(Aa aM g S).2;omega)).trans ((Aa Q).block g (Aa aM g S).2))⟩;have bX:H+1+1<V.heap.size:=by omega
  have bR:=Ab (show Cp A w V from ⟨by have:=(Aa Q).size;omega,fun g S _=>(hB.block g (by omega)).trans ((Aa Q).block g (by omega)),hB.os.trans (Aa Q).os,hB.tape.trans (Aa Q).tape,hB.output.trans (Aa Q).output⟩);have u1:=Aq nP;have u2:=Aq nT;have u3:=Aq q2;have u4:=Af I;have aC:=fun g (S:g<V.heap.size)=>qD V (.cells #[.string ⟨x.toArray⟩] 9) g S;have bS:=Aq ((aC p (by omega)).trans nP);have bO:=Aq ((aC tb (by omega)).trans nT);have bV:=Aq ((aC (H+1+1) (by omega)).trans q2);clear aC;have HT:=Ab nT;have cD:=Ab nP;have HF:=Ab nF;have bZ:=Ab I;have aE:=Ab aH;clear f0 f1 f2 f3 f4 hS aG N X h2 e8 hx nT nP nF q2 aH bI aN hR;go_upto_region 3 with fail
  go_region_law (refine Jt (v:=.slice a acc.length c) (B:=B) (by rfl) _ _ (by rfl) (by rfl) (Strs.mk ((Aa aE).alloc (.cells #[.string ⟨x.toArray⟩] 9)).own) x V.heap.size 1 (by rfl) (show (V.alloc (.cells #[.string ⟨x.toArray⟩] 9)).drew.cell? ⟨V.heap.size,0,none⟩=some (.string ⟨x.toArray⟩) from Nr _ _ _) (by omega) (by simp;omega) ?_;intro v9 w9 aL aB aI;obtain⟨a9,c9,aU,_⟩:=aL.slice;rw[qH,qT]at aU;subst aU;have aX:=(aB.block tb (by simp;omega) (fun e=>by have:=(Ao (Aa aE).own tb e.symm).1;omega)).trans ((qD V (.cells #[.string ⟨x.toArray⟩] 9) tb (by omega)).trans (Aa HT));have bD:=(aB.block p (by simp;omega) (fun e=>(Aa aY) p e.symm bT)).trans ((qD V (.cells #[.string ⟨x.toArray⟩] 9) p (by omega)).trans (Aa cD));have u9:=Aq aX;have bQ:=Aq bD)
  all_goals
   obtain⟨e5,f5,aD⟩:=Qg (res:=Kq (Nd.mk k t ka kc ks da dc ds l).bare acc) hH bX (Aa bR) i4 i5 aR i6 aO (Aa bZ) (Aa aY) (Aa aM) (Aa HT) (Aa HF) aB aL aI (Aa HX);have z5:=Af e5;have z6:=Af f5;have aW:=Ab aD;clear e5 f5 aD aL aB aI aX bD u9 bQ u1 u2 u3 u4 bS bO bV;go_wp2;obtain⟨h1,h2⟩:=Aa aW _ rfl;exact qW (Av rfl _ _ _ (H+1) _ rfl h2) rfl h1
end Go.Proofs.YtnjokdbblmlhhaaGreatDoor
namespace Go.Proofs.YtnjokdbblmlhhaaGreatDoor
set_option maxHeartbeats 16000000
set_option maxRecDepth 100000
open Go.RowKit
def Tt(w:World)(D:Nat)(res:Except P22.F (List (List UInt8)))(e l':Int)(w':World):Prop:=
 w.grownBy w' (some D)∧∃a c xs,w'.heap[D]?=some (.cells #[.slice a xs.length c] 23)∧Strs w' w.heap.size (.slice a xs.length c) xs∧((res=.ok xs∧e=0∧l'=0)∨(res=.error (e,l')∧e≠0))
theorem Sp(d:P20.T)(s s':List (List UInt8))(h:Kq d s=.ok s'):s'.length≤s.length+1:=by
 unfold Kq at h;cases hq:P22.textE 64 d with
 |error x=>rw[hq]at h;cases h
 |ok x=>rw[hq]at h;cases h;simp
theorem Q1(G B p:Nat)(R:p≠G)(w:World)(hp:w.heap[p]?=some (.cells #[.pointer (some ⟨G,0,none⟩)] 141)):R0 (Jq G B) (fun g=>g=p) List.length 64 125 #[.pointer (some ⟨p,0,none⟩)] Kq w:=by
 refine⟨Sa,fun W' hs Q nd s A N D U J hi S=>?_⟩;obtain⟨k,t,ka,kc,ks,da,dc,ds,l⟩:=nd;rw[Nd.val_eq];have I:=(Q p rfl).trans hp;refine Q0 G B p k t ka kc ks da dc ds l s A W' ?_ I (J p rfl) hi (by omega);simp only[Nd.bare,E6]at D;exact D.1
theorem Tt.of{J:Nat}{w W1 w':World}{res:Except P22.F (List (List UInt8))}{e:Ending}(D:w.grownBy W1 (some J))(h:D7 (Jq J w.heap.size) (fun g=>g≠J) W1 res e w')(R:J<w.heap.size):∃c l',e=.returned (fV c l')∧Tt w J res c l' w'∧(∀a n c,w'.heap[J]?=some (.cells #[.slice a n c] 23)→∀g,(Value.slice a n c).ownBlock=some g→W1.heap.size≤g):=by
 obtain⟨hf,N⟩:=h;have Q:w.grownBy w' (some J):=⟨hf.os.trans D.os,hf.tape.trans D.tape,hf.output.trans D.output,qK D.size hf.size,fun i hi hne=>(hf.same i (zB hi D.size) (fun e=>hne (by rw[e]))).trans (D.block i hi hne)⟩;cases res with
 |ok xs=>
  obtain⟨he,⟨⟨a,c,h1,h2,h3⟩,_⟩⟩:=N;refine⟨0,0,he,⟨Q,a,c,xs,h1,h2,.inl ⟨rfl,rfl,rfl⟩⟩,fun a' n' c' hq g G=>?_⟩;rw[h1]at hq;simp only[zG,Obj.cells.injEq,Array.mk.injEq,List.cons.injEq,Value.slice.injEq,and_true]at hq;obtain⟨rfl,rfl,rfl⟩:=hq;have hB:=(Ao h2.own g G).1;exact Nat.le_of_not_lt (fun I=>h3 g G ⟨by omega,I⟩)
 |error f=>
  obtain⟨he,hne,xs,⟨⟨a,c,h1,h2,h3⟩,_⟩⟩:=N;refine⟨f.1,f.2,he,⟨Q,a,c,xs,h1,h2,.inr ⟨rfl,hne⟩⟩,fun a' n' c' hq g G=>?_⟩;rw[h1]at hq;simp only[zG,Obj.cells.injEq,Array.mk.injEq,List.cons.injEq,Value.slice.injEq,and_true]at hq;obtain⟨rfl,rfl,rfl⟩:=hq;have hB:=(Ao h2.own g G).1;exact Nat.le_of_not_lt (fun I=>h3 g G ⟨by omega,I⟩)
theorem Tt.two{D:Nat}{w w':World}{res:Except P22.F (List (List UInt8))}{e l':Int}(h:Tt w D res e l' w'){g:Nat}(J:w.heap.size≤g)(ht:D<w.heap.size)(G:∀a n c,w'.heap[D]?=some (.cells #[.slice a n c] 23)→(Value.slice a n c).ownBlock≠some g)(v0 N:Value):Tt w D res e l' ((w'.setCell ⟨g,0,none⟩ v0).setCell ⟨g,1,none⟩ N):=by
 obtain⟨I,a,c,xs,h1,h2,h3⟩:=h;refine⟨B4 I J _ _,a,c,xs,(Ar (by omega) _ _).trans h1,⟨Ds h2.own (fun i hi=>Ar (fun q=>G a _ c h1 (by rw[←q];exact hi)) _ _)⟩,h3⟩
theorem Nb(D p:Nat)(k:Nat)(t:List UInt8)(ka:Option Addr)(kc:Nat)(ks:List (List UInt8))(da:Option Addr)(dc:Nat)(ds:List Nd)(l:Int)(v0:Value)(w:World)(aE:(Nd.mk k t ka kc ks da dc ds l).In w)(aX:E6 (Nd.mk k t ka kc ks da dc ds l).bare)(aO:¬(Nd.mk k t ka kc ks da dc ds l).blk D)
  (hp:w.heap[p]?=some (.cells #[.pointer (some ⟨D,0,none⟩)] 141)) (hb:w.heap[D]?=some (.cells #[v0] 23)) :
  Calls Tryz.prog 124 #[.agg #[.int .u8 k,.string ⟨t.toArray⟩,.slice ka ks.length kc,.slice da ds.length dc,.int .i64 l],.pointer (some ⟨p,0,none⟩)] w fun e w'=>∃c l',e=.returned (fV c l')∧Tt w D (P22.namesE (Nd.mk k t ka kc ks da dc ds l).bare) c l' w':=by
 obtain⟨H,hH⟩:∃H,w.heap.size=H:=⟨_,rfl⟩;obtain⟨W0,aJ,G,g0,g1,bG⟩:=A0 w (.cells #[.int .u8 k,.string ⟨t.toArray⟩,.slice ka ks.length kc,.slice da ds.length dc,.int .i64 l] 26) (.cells #[.int .i64 0,.int .i64 0] 29) H hH;have x0:=Ad g0;have y0:=Af g1;have bB:=(qA.1 hp).1;have aY:=(qA.1 hb).1;have aI:p≠D:=by rintro rfl;rw[hb]at hp;simp at hp
 rw[hH]at bB aY;have p0:=(G.block p (by omega)).trans hp;have t0:=(G.block D (by omega)).trans hb;obtain⟨W1,U⟩:∃W1,W0.setCell ⟨D,0,none⟩ (.slice none 0 0)=W1:=⟨_,rfl⟩;have J:∀g,g≠D→W1.heap[g]?=W0.heap[g]?:=fun g hg=>by rw[←U];exact qC _ _ _ _ hg
 have bH:W1.heap.size=H+1+1:=by rw[←U];simp;omega
 have N:w.grownBy W1 (some D):=by rw[←U];exact Gc ⟨G.os,G.tape,G.output,by omega,fun i hi _=>G.block i (by omega)⟩ _
 have t1:W1.heap[D]?=some (.cells #[.slice none 0 0] 23):=by rw[←U];exact Gb t0 _
 have p1:=(J p aI).trans p0;have n0:=(J H (by omega)).trans g0;have n1:=(J (H+1) (by omega)).trans g1
 have Z:(Nd.mk k t ka kc ks da dc ds l).In W1:=aE.keep (fun g hg=>by
  have bI:=aE.lt hg
  exact(J g (fun q=>aO (q ▸ hg))).trans (G.block g (by omega)))
 have aN:∀W',Below (H+1+1) W1 W'→Jq D w.heap.size [] (fun g=>g≠D) W':=fun W' h=>by
  have:=h.size;exact⟨⟨none,0,(h.block D (by omega)).trans t1,Strs.nil _ _,fun g hg=>by cases hg⟩,fun h=>h rfl,by omega,by omega⟩
 have aA:∀c W',Below (H+1+1) W1 W'→H+1<c→W'.heap[c]?=some (.cells #[.int .i64 64] 3)→W'.heap[c+1]?=some (.cells #[.func (.func 125) #[] #[.pointer (some ⟨p,0,none⟩)]] 89)→Calls Tryz.prog 90 #[.agg #[.int .u8 k,.string ⟨t.toArray⟩,.slice ka ks.length kc,.slice da ds.length dc,.int .i64 l],.pointer (some ⟨c,0,none⟩),.pointer (some ⟨c+1,0,none⟩)] W' (D7 (Jq D w.heap.size) (fun g=>g≠D) W' (P22.namesE (Nd.mk k t ka kc ks da dc ds l).bare)):=fun c W' h hc q1 q2=>by
  have hz:=h.size;have aQ:=(h.block p (by omega)).trans p1;unfold P22.namesE;rw[P22.rowE_S];refine Mf (Jq D w.heap.size) (Vl _ _) Kq (fun g=>g=p) List.length 64 Sp 64 125 #[.pointer (some ⟨p,0,none⟩)] c (c+1) k t ka kc ks da dc ds l [] (fun g=>g≠D) W' ?_ aX (fun g hg q=>aO (q ▸ hg)) q1 q2 (by omega) (by omega) ?_ (Q1 D _ p aI W' aQ) (aN W' h) (fun h=>by simp;omega)
  ·exact Z.keep (fun g hg=>h.block g (by have:=Z.lt hg;omega))
  ·rintro g rfl;exact⟨aI,by omega⟩
 have u0:=Aq p0;have u1:=Aq t0;have x1:=Ad n0;have aU:=Ca;have aT:=Ab aJ;have bE:=Ab U;have bC:=Ab n0;have aL:=Ab n1;have aG:=Ab aA;have aR:=Ab N;have aZ:=Dl;clear aJ G g0 g1 U x0 y0 hp hb p0 t0 t1 p1 n0 n1 Z aN aA N J aE;go_enter Tryz.func124,Tryz.ntmps124
 go_upto_region 1 with fail
 try rw[hH]
 rw[Aa aT];go_upto_region 2 with fail
 rw[Aa bE]
 refine Cw aZ (fun L a w'=>∃v6 v7 v8 v9:Value,a=⟨#[.agg #[.int .u8 k,.string ⟨t.toArray⟩,.slice ka ks.length kc,.slice da ds.length dc,.int .i64 l],.pointer (some ⟨p,0,none⟩),.pointer (some ⟨H,0,none⟩),.pointer (some ⟨H+1,0,none⟩),.pointer (some ⟨D,0,none⟩),.pointer (some ⟨D,0,none⟩),v6,v7,v8,v9],[]⟩∧L.size=5 ∧
  (L.getD 1 false=true→L.getD 0 false=true)∧(L.getD 3 false=true→L.getD 0 false=true∧L.getD 1 false=true∧L.getD 2 false=true)∧(L.getD 4 false=true→L.getD 3 false=true) ∧
  (L.getD 0 false=true→v6=.func (.func 125) #[] #[.pointer (some ⟨p,0,none⟩)])∧(L.getD 2 false=true→v8=.agg #[.int .u8 k,.string ⟨t.toArray⟩,.slice ka ks.length kc,.slice da ds.length dc,.int .i64 l]) ∧
  (L.getD 3 false=false→Below (H+1+1) W1 w'∧(L.getD 1 false=true→∃c,v7=.func (.func 90) #[] #[.pointer (some ⟨c,0,none⟩),.pointer (some ⟨c+1,0,none⟩)]∧H+1<c∧w'.heap[c]?=some (.cells #[.int .i64 64] 3)∧w'.heap[c+1]?=some (.cells #[.func (.func 125) #[] #[.pointer (some ⟨p,0,none⟩)]] 89))) ∧
  (L.getD 3 false=true→∃c l',v9=fV c l'∧Tt w D (P22.namesE (Nd.mk k t ka kc ks da dc ds l).bare) c l' w'∧(∀a n c,w'.heap[D]?=some (.cells #[.slice a n c] 23)→∀g,(Value.slice a n c).ownBlock=some g→H+1<g)∧(L.getD 4 false=false→w'.heap[H+1]?=some (.cells #[.int .i64 0,.int .i64 0] 29))∧(L.getD 4 false=true→w'.heap[H+1]?=some (.cells #[.int .i64 c,.int .i64 l'] 29)))) (by kernel_rfl) ?_ ?_ ?_
 ·refine⟨undef,undef,undef,undef,rfl,by kernel_rfl,?_,?_,?_,?_,?_,fun _=>⟨(qV (H+1+1) W1).drew,?_⟩,?_⟩;all_goals (intro h;exact absurd h (by decide))
 ·rintro L a' w' i o ⟨v6,v7,v8,v9,rfl,S,j1,j3,j4,f0,f2,fa,fb⟩ ho hi I;have Y:=(A4 hi).2
  match i,ho with
  |0,ho=>
   cases ho;refine Ak rfl rfl ?_;have R:L.getD 3 false=false:=by cases hq:L.getD 3 false with|false=>rfl|true=>(have:=(j3 hq).1;rw[Y]at this;cases this)
   obtain⟨hB,f1⟩:=fa R;refine qS (K:=fun a2 w2=>a2=⟨#[.agg #[.int .u8 k,.string ⟨t.toArray⟩,.slice ka ks.length kc,.slice da ds.length dc,.int .i64 l],.pointer (some ⟨p,0,none⟩),.pointer (some ⟨H,0,none⟩),.pointer (some ⟨H+1,0,none⟩),.pointer (some ⟨D,0,none⟩),.pointer (some ⟨D,0,none⟩),(.func (.func 125) #[] #[.pointer (some ⟨p,0,none⟩)]),v7,v8,v9],[]⟩∧w2=w') (fun a2 w2 he=>?_) (by simp[Oper.wp,go_sem,aU]);obtain⟨rfl,rfl⟩:=he;refine⟨_,v7,v8,v9,rfl,by simp[S],fun _=>Bm hi,?_,?_,fun _=>rfl,fun h=>f2 (Ac (by omega) h),fun _=>⟨hB,fun h=>f1 (Ac (by omega) h)⟩,?_⟩
   ·intro h;rw[getD_set_ne false (by omega),R]at h;cases h
   ·intro h;have:=j4 (Ac (by omega) h);rw[R]at this;cases this
   ·intro h;rw[getD_set_ne false (by omega),R]at h;cases h
  |1,ho=>
   cases ho;refine Ak rfl rfl ?_;have R:L.getD 3 false=false:=by cases hq:L.getD 3 false with|false=>rfl|true=>(have:=(j3 hq).2.1;rw[Y]at this;cases this)
   obtain⟨hB,f1⟩:=fa R;obtain rfl:=f0 (I ⟨0,.data⟩ (by simp) rfl);have aD:=enters_of Tryz.func56 (by kernel_rfl) rfl;refine Bt (f:=56) (args:=#[.int .i64 64,.func (.func 125) #[] #[.pointer (some ⟨p,0,none⟩)]]) (by simp[execOp,go_sem,aD]) (Kb 64 125 #[.pointer (some ⟨p,0,none⟩)] w') ?_;rintro e2 w2 ⟨c2,rfl,bK,q1,q2,bD⟩;have hz:=hB.size;refine⟨_,rfl,_,_,v8,v9,rfl,by simp[S],fun _=>by rw[getD_set_ne false (by omega)];exact I ⟨0,.data⟩ (by simp) rfl,?_,?_,fun _=>rfl,fun h=>f2 (Ac (by omega) h),fun _=>⟨hB.trans (bD.mono (by omega)),fun _=>⟨c2,rfl,by omega,q1,q2⟩⟩,?_⟩
   ·intro h;rw[getD_set_ne false (by omega),R]at h;cases h
   ·intro h;have:=j4 (Ac (by omega) h);rw[R]at this;cases this
   ·intro h;rw[getD_set_ne false (by omega),R]at h;cases h
  |2,ho=>
   cases ho;refine Ak rfl rfl ?_;have R:L.getD 3 false=false:=by cases hq:L.getD 3 false with|false=>rfl|true=>(have:=(j3 hq).2.2;rw[Y]at this;cases this)
   obtain⟨hB,f1⟩:=fa R;have y0:=Ad ((hB.block H (by omega)).trans (Aa bC));refine qS (K:=fun a2 w2=>a2=⟨#[.agg #[.int .u8 k,.string ⟨t.toArray⟩,.slice ka ks.length kc,.slice da ds.length dc,.int .i64 l],.pointer (some ⟨p,0,none⟩),.pointer (some ⟨H,0,none⟩),.pointer (some ⟨H+1,0,none⟩),.pointer (some ⟨D,0,none⟩),.pointer (some ⟨D,0,none⟩),v6,v7,(.agg #[.int .u8 k,.string ⟨t.toArray⟩,.slice ka ks.length kc,.slice da ds.length dc,.int .i64 l]),v9],[]⟩∧w2=w') (fun a2 w2 he=>?_) (by simp[Oper.wp,go_sem,y0]);obtain⟨rfl,rfl⟩:=he;refine⟨v6,v7,_,v9,rfl,by simp[S],fun h=>by rw[getD_set_ne false (by omega)];exact j1 (Ac (by omega) h),?_,?_,fun h=>f0 (Ac (by omega) h),fun _=>rfl,fun _=>⟨hB,fun h=>f1 (Ac (by omega) h)⟩,?_⟩
   ·intro h;rw[getD_set_ne false (by omega),R]at h;cases h
   ·intro h;have:=j4 (Ac (by omega) h);rw[R]at this;cases this
   ·intro h;rw[getD_set_ne false (by omega),R]at h;cases h
  |3,ho=>
   cases ho;refine Ak rfl rfl ?_;obtain⟨hB,f1⟩:=fa Y;have d1:=I ⟨1,.data⟩ (by simp) rfl;have d2:=I ⟨2,.data⟩ (by simp) rfl;obtain⟨c,rfl,hc,q1,q2⟩:=f1 d1;obtain rfl:=f2 d2;have aD:=enters_of Tryz.func90 (by kernel_rfl) rfl;refine Bt (f:=90) (args:=#[.agg #[.int .u8 k,.string ⟨t.toArray⟩,.slice ka ks.length kc,.slice da ds.length dc,.int .i64 l],.pointer (some ⟨c,0,none⟩),.pointer (some ⟨c+1,0,none⟩)]) (by simp[execOp,go_sem,aD]) (Aa aG c w' hB hc q1 q2) ?_;rintro e3 w3 aK;have N:=Aa aR;have bJ:=(Aa aL);have hz:=hB.size;have aS:w.grownBy w' (some D):=⟨hB.os.trans N.os,hB.tape.trans N.tape,hB.output.trans N.output,qK N.size (by omega),fun i hi hne=>(hB.block i (by omega)).trans (N.block i hi hne)⟩;have bA:=(aK.1.same (H+1) (by omega) (by omega)).trans ((hB.block (H+1) (by omega)).trans (Aa aL));obtain⟨ec,el,rfl,X,aM⟩:=Tt.of aS aK (by omega);have n4:L.getD 4 false=true→False:=fun h=>by have:=j4 h;rw[Y]at this;cases this
   refine⟨_,rfl,v6,_,_,_,rfl,by simp[S],fun h=>by rw[getD_set_ne false (by omega)];exact j1 (Ac (by omega) h),fun _=>⟨?_,?_,?_⟩,fun _=>Bm hi,fun h=>f0 (Ac (by omega) h),fun _=>rfl,?_,fun _=>⟨ec,el,rfl,X,fun a n c hq g aH=>by have:=aM a n c hq g aH;omega,fun _=>bA,fun h=>(n4 (Ac (by omega) h)).elim⟩⟩
   ·rw[getD_set_ne false (by omega)];exact j1 d1
   ·rw[getD_set_ne false (by omega)];exact d1
   ·rw[getD_set_ne false (by omega)];exact d2
   ·intro h;rw[Bm hi]at h;cases h
  |4,ho=>
   cases ho;refine Ak rfl rfl ?_;have d3:=I ⟨3,.data⟩ (by simp) rfl;obtain⟨ec,el,rfl,X,aC,hn,_⟩:=fb d3;have hN:=hn Y;have z0:=Af hN;refine qS (K:=fun a2 w2=>a2=⟨#[.agg #[.int .u8 k,.string ⟨t.toArray⟩,.slice ka ks.length kc,.slice da ds.length dc,.int .i64 l],.pointer (some ⟨p,0,none⟩),.pointer (some ⟨H,0,none⟩),.pointer (some ⟨H+1,0,none⟩),.pointer (some ⟨D,0,none⟩),.pointer (some ⟨D,0,none⟩),v6,v7,v8,(.agg #[.int .i64 ec,.int .i64 el])],[]⟩∧w2=(w'.setCell ⟨H+1,0,none⟩ (.int .i64 ec)).setCell ⟨H+1,1,none⟩ (.int .i64 el)) (fun a2 w2 he=>?_) (by simp[Oper.wp,go_sem,z0,fV]);obtain⟨rfl,rfl⟩:=he;refine⟨v6,v7,v8,_,rfl,by simp[S],fun h=>by rw[getD_set_ne false (by omega)];exact j1 (Ac (by omega) h),fun h=>?_,fun _=>by rw[getD_set_ne false (by omega)];exact d3,fun h=>f0 (Ac (by omega) h),fun h=>f2 (Ac (by omega) h),fun h=>?_,fun _=>⟨ec,el,rfl,X.two (by omega) (by omega) (fun a n c hq aH=>by have:=aC a n c hq _ aH;omega) _ _,fun a n c hq=>aC a n c ((Ar (by omega) _ _).symm.trans hq),?_,fun _=>A3 hN _ _⟩⟩
   ·have:=j3 (Ac (by omega) h);rw[getD_set_ne false (by omega),getD_set_ne false (by omega),getD_set_ne false (by omega)];exact this
   ·rw[getD_set_ne false (by omega),d3]at h;cases h
   ·intro h;rw[Bm hi]at h;cases h
  |n+5,ho=>exact absurd ho (by simp)
 ·rintro L a' V ⟨v6,v7,v8,v9,rfl,S,j1,j3,j4,f0,f2,fa,fb⟩ aB
  have Q:∀i,i<L.size→L.getD i false=true:=fun i hi=>by
   have:=aB i;simp only[Array.getD,hi,dif_pos]at this ⊢;exact this
  obtain⟨ec,el,rfl,X,_,_,hn⟩:=fb (Q 3 (by omega));have hN:=hn (Q 4 (by omega));clear f0 f2 fa fb j1 j3 j4 aB Q;have aW:=Ab X;have bF:=Ab hN;clear X hN hn;go_wp2;exact qW (Av rfl _ _ _ (H+1) _ rfl (Ai (Aa bF))) rfl ⟨ec,el,rfl,Aa aW⟩
end Go.Proofs.YtnjokdbblmlhhaaGreatDoor
namespace Go.Proofs.YtnjokdbblmlhhaaGreatDoor
set_option maxHeartbeats 16000000
set_option maxRecDepth 100000
open Go.RowKit
def Gz(W:World)(bm:Nat)(f:List UInt8→Option Value):Prop:=
 ∃es D,W.heap[bm]?=some (.map es D)∧∀k:List UInt8,(f k=none→∀i,Instr.findNow .string (.string ⟨k.toArray⟩) es.toList i=some none)∧∀v,f k=some v→∀i,∃j,Instr.findNow .string (.string ⟨k.toArray⟩) es.toList i=some (some (j,v))
theorem Dn(D:TypeDesc)(k:Value)(e:MapEntry):∀(es:List MapEntry) (i:Nat),(∀j x,Instr.findNow D k es i=some (some (j,x))→Instr.findNow D k (es++[e]) i=some (some (j,x)))∧(Instr.findNow D k es i=some none→Instr.findNow D k (es++[e]) i=Instr.findNow D k [e] (i+es.length))
 | [],i=>by
  refine⟨fun j x h=>?_,fun _=>by simp⟩;simp[Instr.findNow]at h
 |y::ys,i=>by
  obtain⟨h1,h2⟩:=Dn D k e ys (i+1);refine⟨fun j x h=>?_,fun h=>?_⟩
  ·rw[zJ];unfold Instr.findNow at h ⊢;cases hs:Instr.sameNow D k y.key with
   |none=>rw[hs]at h;cases h
   |some b=>cases b with
    |true=>rw[hs]at h;exact h
    |false=>rw[hs]at h;exact h1 j x h
  ·rw[zJ];unfold Instr.findNow at h;rw[Instr.findNow];cases hs:Instr.sameNow D k y.key with
   |none=>rw[hs]at h;cases h
   |some b=>cases b with
    |true=>rw[hs]at h;simp at h
    |false=>
     rw[hs]at h;simp only[h2 h,qE]
     congr 1
     omega
theorem Gz.made(W:World):Gz (W.alloc (.map #[] 0)) W.heap.size fun _=>none:=
 ⟨#[],0,qB _ _,fun k=>⟨fun _ i=>rfl,fun v h=>by cases h⟩⟩
theorem Gz.keep{W W':World}{bm:Nat}{f:List UInt8→Option Value}(h:Gz W bm f)(hb:W'.heap[bm]?=W.heap[bm]?):Gz W' bm f:=by
 obtain⟨es,D,h1,h2⟩:=h;exact⟨es,D,hb.trans h1,h2⟩
theorem Sv{x y:List UInt8}(h:x≠y):((⟨x.toArray⟩:ByteArray)==⟨y.toArray⟩)=false:=by
 show (x.toArray==y.toArray)=false;rw[beq_eq_false_iff_ne];intro e;exact h (by simpa using congrArg Array.toList e)
theorem Ow(x:List UInt8):((⟨x.toArray⟩:ByteArray)==⟨x.toArray⟩)=true:=by
 show (x.toArray==x.toArray)=true;simp
theorem Et(k:List UInt8)(e:Bool)(W:World):(Instr.checkKey e 10000 9 (.string ⟨k.toArray⟩)).run Tryz.prog W=.ok () W:=Go.MapKept.run_checkKey Tryz.underlying9 (by simp[Go.MapKept.IsKey]) e 9999
theorem Wq{a:Option (Nat × Value)}(k:List UInt8)(l:List MapEntry)(W:World)(h:Instr.findNow .string (.string ⟨k.toArray⟩) l 0=some a):(Instr.findKey 9 (.string ⟨k.toArray⟩) l).run Tryz.prog W=.ok a W:=Go.MapKept.run_findKey Tryz.underlying9 h
theorem S5:((Tryz.prog.info? 90).bind (·.zero)).isSome=true:=by kernel_rfl
theorem Uc(W:World):∃z,(zeroValue 90).run Tryz.prog W=.ok z W:=by
 have h:=S5;cases hi:Tryz.prog.info? 90 with
 |none=>rw[hi]at h;cases h
 |some i=>
  rw[hi]at h;simp only[Option.bind_some]at h;cases hz:i.zero with
  |none=>rw[hz]at h;cases h
  |some z=>exact⟨z,by simp[zeroValue,typeInfo,hi,hz]⟩
theorem Gz.put{W:World}{bm:Nat}{f:List UInt8→Option Value}(h:Gz W bm f)(k:List UInt8)(v:Value)(hk:f k=none) :
  ∃W',(Instr.mapUpdate 95 (.map (some bm)) (.string ⟨k.toArray⟩) v).run Tryz.prog W=.ok () W'∧Gz W' bm (fun x=>if x=k then some v else f x)∧W'.heap.size=W.heap.size∧(∀g,g≠bm→W'.heap[g]?=W.heap[g]?)∧W'.os=W.os∧W'.tape=W.tape∧W'.output=W.output:=by
 obtain⟨es,D,h1,h2⟩:=h;have I:=(qA.1 h1).1;have hf:=(h2 k).1 hk 0;have hu:=Tryz.underlying95;have N:=Tryz.underlying9;refine⟨{ W with heap:=W.heap.set bm (.map (es.push { key:=.string ⟨k.toArray⟩,val:=v,born:=D }) (D+1)) I },?_,⟨es.push { key:=.string ⟨k.toArray⟩,val:=v,born:=D },D+1,by simp,?_⟩,by simp,fun g J=>by simp[Array.getElem?_set,Ne.symm J],rfl,rfl,rfl⟩
 ·have Q:=Et k false W;have R:=Wq (a:=none) k es.toList W hf;simp[Instr.mapUpdate,run_underlying Tryz.underlying95,Go.MapKept.run_getObj_map h1,Q,R,Go.MapKept.run_setObj_map _ h1,Result.andThen,Array.setIfInBounds,I]
 ·intro x;by_cases hx:x=k
  ·subst hx;refine⟨fun h=>by simp at h,fun v' G i=>?_⟩;simp only[if_true,zG]at G;subst G;rw[Array.toList_push];rw[(Dn _ _ _ _ i).2 ((h2 x).1 hk i)];exact⟨i+es.toList.length,by simp[Instr.findNow,Instr.sameNow,Ow]⟩
  ·simp only[if_neg hx];rw[Array.toList_push];refine⟨fun h i=>?_,fun v' G i=>?_⟩
   ·rw[(Dn _ _ _ _ i).2 ((h2 x).1 h i)];simp[Instr.findNow,Instr.sameNow,Sv hx]
   ·obtain⟨j,hj⟩:=(h2 x).2 v' G i;exact⟨j,(Dn _ _ _ _ i).1 j v' hj⟩
theorem Gz.look{W:World}{bm:Nat}{f:List UInt8→Option Value}(h:Gz W bm f)(k:List UInt8) :
  ∃v,(Instr.lookup 95 (.map (some bm)) (.string ⟨k.toArray⟩) true).run Tryz.prog W=.ok (.tuple #[v,.bool (f k).isSome]) W∧∀v',f k=some v'→v=v':=by
 obtain⟨es,D,h1,h2⟩:=h;have hu:=Tryz.underlying95;have J:=Tryz.underlying9;cases hf:f k with
 |none=>
  have hn:=(h2 k).1 hf 0;obtain⟨z,hz⟩:=Uc W;refine⟨z,?_,fun v' e=>by cases e⟩;have G:=Et k es.isEmpty W;have I:=Wq (a:=none) k es.toList W hn;simp[Instr.lookup,run_underlying Tryz.underlying95,Go.MapKept.run_getObj_map h1,G,I,hz,Result.andThen]
 |some v=>
  obtain⟨j,hn⟩:=(h2 k).2 v hf 0;refine⟨v,?_,fun v' e=>by cases e;rfl⟩;have G:=Et k es.isEmpty W;have I:=Wq k es.toList W hn;simp[Instr.lookup,run_underlying Tryz.underlying95,Go.MapKept.run_getObj_map h1,G,I,Result.andThen]
structure Zt (B:Nat) (W W':World):Prop where
 size:W.heap.size≤W'.heap.size
 same:∀g x t,B≤g→W.heap[g]?=some (.cells #[x] t)→W'.heap[g]?=some (.cells #[x] t)
theorem Zt.of_below{B:Nat}{W W':World}(h:Below W.heap.size W W'):Zt B W W':=⟨h.size,fun g x t _ D=>(h.block g (qA.1 D).1).trans D⟩
def G1{σ:Type}(Inv:σ→(Nat→Prop)→World→Prop)(M:Nat→Prop)(B:Nat)(v:Value)(r:P22.Rd σ)(W:World):Prop:=
 ∃(f:Nat) (D:Array Value) (C:Nat→Prop),v=.func (.func f) #[] D∧(∀args W,(callFunc f args).run Tryz.prog W=.ok (.enter f args) W)∧(∀g,C g→B≤g∧∃x t,W.heap[g]?=some (.cells #[x] t)) ∧
  ∀W',W.heap.size≤W'.heap.size→(∀g,C g→W'.heap[g]?=W.heap[g]?)→∀(nd:Nd) (s:σ) (A:Nat→Prop),nd.In W'→E6 nd.bare→(∀g,nd.blk g→¬M g)→Inv s A W' →
   Calls Tryz.prog f (#[nd.val]++D) W' (Gm Inv M A W' (r nd.bare s))
theorem G1.stay{σ:Type}{Inv:σ→(Nat→Prop)→World→Prop}{M:Nat→Prop}{B:Nat}{v:Value}{r:P22.Rd σ}{W W':World}(h:G1 Inv M B v r W)(hs:Zt B W W'):G1 Inv M B v r W':=by
 obtain⟨f,G,C,h1,h2,h3,h4⟩:=h
 have J:∀g,C g→W'.heap[g]?=W.heap[g]?:=fun g D=>by
  obtain⟨hB,x,t,hx⟩:=h3 g D;rw[hs.same g x t hB hx,hx]
 exact⟨f,G,C,h1,h2,fun g D=>⟨(h3 g D).1,by rw[J g D];exact(h3 g D).2⟩,fun N hz I=>h4 N (qK hs.size hz) (fun g D=>(I g D).trans (J g D))⟩
theorem G1.at{σ:Type}{Inv:σ→(Nat→Prop)→World→Prop}{M:Nat→Prop}{B:Nat}{v:Value}{r:P22.Rd σ}{W:World}(h:G1 Inv M B v r W)(J:∀g,M g→g<B):Uq Inv M v r W:=by
 obtain⟨f,D,C,h1,h2,h3,h4⟩:=h;refine⟨f,D,h1,h2,fun W' hk=>h4 W' hk.size (fun g G=>?_)⟩;obtain⟨hB,x,t,hx⟩:=h3 g G;exact hk.same g (qA.1 hx).1 (fun I=>by have:=J g I;omega)
theorem Gz.mapC{σ:Type}{Inv:σ→(Nat→Prop)→World→Prop}{M:Nat→Prop}{B bm:Nat}{f:List UInt8→Option Value}{rd:List UInt8→Option (P22.Rd σ)}{W:World}(h:Gz W bm f)(D:∀g,M g→g<B)
  (hr:∀k,match rd k with|none=>f k=none|some r=>∃v,f k=some v∧G1 Inv M B v r W):N6 Inv M bm rd W:=by
 intro W' hb k;obtain⟨v,h1,h2⟩:=(h.keep hb).look k;refine⟨v,_,h1,?_⟩;have:=hr k;cases hq:rd k with
 |none=>rw[hq]at this;simp only at this;simp[this]
 |some r=>
  rw[hq]at this;obtain⟨v',h3,h4⟩:=this;rw[h2 v' h3];exact⟨by simp[h3],h4.at D⟩
end Go.Proofs.YtnjokdbblmlhhaaGreatDoor
namespace Go.Proofs.YtnjokdbblmlhhaaGreatDoor
set_option maxHeartbeats 16000000
set_option maxRecDepth 100000
open Go.RowKit
abbrev C8(σ:Type):=List UInt8 × Nat × P22.Rd σ
def Ic{σ:Type}(Inv:σ→(Nat→Prop)→World→Prop)(M:Nat→Prop)(B:Nat)(rows:List (C8 σ))(L:Array Bool)(bm:Nat)(W:World):Prop:=
 ∃f,Gz W bm f∧(∀k,(∀q∈rows,q.1≠k)→f k=none)∧∀q∈rows,(L.getD q.2.1 false=true→∃v,f q.1=some v∧G1 Inv M B v q.2.2 W)∧(L.getD q.2.1 false=false→f q.1=none)
def Hh{σ:Type}(rows:List (C8 σ)):Prop:=rows.Pairwise (fun p q=>p.1≠q.1∧p.2.1≠q.2.1)
theorem Ic.made{σ:Type}{Inv:σ→(Nat→Prop)→World→Prop}{M:Nat→Prop}{B:Nat}{rows:List (C8 σ)}{L:Array Bool}(W:World)(hn:∀q∈rows,L.getD q.2.1 false=false):Ic Inv M B rows L W.heap.size (W.alloc (.map #[] 0)):=by
 refine⟨_,Gz.made W,fun _ _=>rfl,fun q hq=>⟨fun h=>?_,fun _=>rfl⟩⟩;rw[hn q hq]at h;cases h
theorem Ic.stay{σ:Type}{Inv:σ→(Nat→Prop)→World→Prop}{M:Nat→Prop}{B bm:Nat}{rows:List (C8 σ)}{L D:Array Bool}{W W':World}(h:Ic Inv M B rows L bm W)(hs:Zt B W W')(hb:W'.heap[bm]?=W.heap[bm]?)(G:∀q∈rows,D.getD q.2.1 false=L.getD q.2.1 false):Ic Inv M B rows D bm W':=by
 obtain⟨f,h1,h2,h3⟩:=h;refine⟨f,h1.keep hb,h2,fun q hq=>?_⟩;rw[G q hq];exact⟨fun ht=>((h3 q hq).1 ht).imp fun v hv=>⟨hv.1,hv.2.stay hs⟩,(h3 q hq).2⟩
theorem Hp{σ:Type}:∀{rows:List (C8 σ)},Hh rows→∀p∈rows,∀q∈rows,p.1=q.1∨p.2.1=q.2.1→p=q
 | [],_,p,hp,_,_,_=>by cases hp
 |x::xs,h,p,hp,q,hq,e=>by
  obtain⟨h1,h2⟩:=List.pairwise_cons.1 h;rcases zN.1 hp with rfl|D<;>rcases zN.1 hq with rfl|G
  ·rfl
  ·rcases e with e|e
   ·exact absurd e (h1 q G).1
   ·exact absurd e (h1 q G).2
  ·rcases e with e|e
   ·exact absurd e.symm (h1 p D).1
   ·exact absurd e.symm (h1 p D).2
  ·exact Hp h2 p D q G e
theorem Ic.put{σ:Type}{Inv:σ→(Nat→Prop)→World→Prop}{M:Nat→Prop}{B bm:Nat}{rows:List (C8 σ)}{L:Array Bool}{W:World}(h:Ic Inv M B rows L bm W)(ha:Hh rows){q:C8 σ}(hq:q∈rows)(R:L.getD q.2.1 true=false){v:Value}(hv:G1 Inv M B v q.2.2 W) :
  ∃W',(Instr.mapUpdate 95 (.map (some bm)) (.string ⟨q.1.toArray⟩) v).run Tryz.prog W=.ok () W'∧Ic Inv M B rows (L.setIfInBounds q.2.1 true) bm W'∧Zt B W W'∧W'.heap.size=W.heap.size∧(∀g,g≠bm→W'.heap[g]?=W.heap[g]?)∧W'.os=W.os∧W'.tape=W.tape∧W'.output=W.output:=by
 obtain⟨f,h1,h2,h3⟩:=h;obtain⟨W',Y,Z,X,Q,S⟩:=h1.put q.1 v ((h3 q hq).2 (A4 R).2)
 have G:Zt B W W':=⟨by omega,fun g x t hB N=>by
  by_cases I:g=bm
  ·obtain⟨es,J,U,_⟩:=h1;rw[I,U]at N;cases N
  ·exact(Q g I).trans N⟩
 refine⟨W',Y,⟨_,Z,fun k hk=>?_,fun p hp=>?_⟩,G,X,Q,S⟩
 ·have hne:k≠q.1:=fun e=>hk q hq e.symm;simp only[if_neg hne];exact h2 k hk
 ·by_cases D:p=q
  ·subst D;refine⟨fun _=>⟨v,by simp,hv.stay G⟩,fun hf=>?_⟩;rw[Bm R]at hf;cases hf
  ·have hk:p.1≠q.1:=fun e=>D (Hp ha p hp q hq (.inl e));have hi:p.2.1≠q.2.1:=fun e=>D (Hp ha p hp q hq (.inr e));simp only[if_neg hk];rw[getD_set_ne false (Ne.symm hi)];exact⟨fun ht=>((h3 p hp).1 ht).imp fun v hv=>⟨hv.1,hv.2.stay G⟩,(h3 p hp).2⟩
def Du{σ:Type}:List (C8 σ)→List UInt8→Option (P22.Rd σ)
 | [],_=>none
 |q::r,k=>if k=q.1 then some q.2.2 else Du r k
theorem Hy{σ:Type}:∀{rows:List (C8 σ)} {k:List UInt8},Du rows k=none→∀q∈rows,q.1≠k
 | [],k,_,q,hq=>by cases hq
 |x::xs,k,h,q,hq=>by
  unfold Du at h;split at h
  ·cases h
  ·rename_i hne
   rcases zN.1 hq with rfl|hq
   ·exact fun e=>hne e.symm
   ·exact Hy h q hq
theorem H6{σ:Type}:∀{rows:List (C8 σ)} {k:List UInt8} {r:P22.Rd σ},Du rows k=some r→∃q∈rows,q.1=k∧q.2.2=r
 | [],k,r,h=>by cases h
 |x::xs,k,r,h=>by
  unfold Du at h;split at h
  ·rename_i he
   cases h;exact⟨x,List.mem_cons_self,he.symm,rfl⟩
  ·obtain⟨q,hq,h1⟩:=H6 h;exact⟨q,List.mem_cons_of_mem _ hq,h1⟩
theorem Ic.full{σ:Type}{Inv:σ→(Nat→Prop)→World→Prop}{M:Nat→Prop}{B bm:Nat}{rows:List (C8 σ)}{L:Array Bool}{W:World}(h:Ic Inv M B rows L bm W)(I:∀g,M g→g<B)(G:∀q∈rows,L.getD q.2.1 false=true):N6 Inv M bm (Du rows) W:=by
 obtain⟨f,h1,h2,h3⟩:=h;refine h1.mapC I (fun k=>?_);cases hq:Du rows k with
 |none=>exact h2 k (Hy hq)
 |some r=>
  obtain⟨q,D,rfl,rfl⟩:=H6 hq;exact(h3 q D).1 (G q D)
theorem Ik{σ:Type}(Inv:σ→(Nat→Prop)→World→Prop)(M:Nat→Prop)(B I c:Nat)(R:Int→σ→σ)(W:World)(hB:B≤c)(hc:W.heap[c]?=some (.cells #[.pointer (some ⟨I,0,none⟩)] 65))(hM:M I)
  (J:∀s A W',Inv s A W'→∃n0,W'.heap[I]?=some (.cells (Gy n0) 3))
  (D:∀s A W' W'' n,Inv s A W'→W'.grownBy W'' (some I)→W''.heap[I]?=some (.cells (Gy n) 3)→Inv (R n s) (fun g=>A g∧g<W'.heap.size) W'') :
  G1 Inv M B (.func (.func 127) #[] #[.pointer (some ⟨c,0,none⟩)]) (fun d s=>(P22.numE d).map fun n=>R n s) W:=by
 refine⟨_,_,fun g=>g=c,rfl,enters_of Tryz.func127 (by kernel_rfl) rfl,?_,fun W' hz Y nd s A X S Z hi=>?_⟩
 ·rintro g rfl;exact⟨hB,_,_,hc⟩
 obtain⟨k,t,ka,kc,ks,da,dc,ds,l⟩:=nd;rw[Nd.val_eq];obtain⟨n0,hb⟩:=J s A W' hi;have Q:t.length≤1000000:=by simp only[Nd.bare,E6]at S;exact S.1
 refine(Lw k t ka kc ks da dc ds l c I n0 W' Q ((Y c rfl).trans hc) hb).mono ?_;rintro e U ⟨G,N⟩;refine⟨⟨G.size,fun g hl hn=>G.block g hl (fun e=>hn (by injection e with e;rw[e];exact hM)),G.os,G.tape,G.output⟩,?_⟩;cases hq:P22.numE (Nd.mk k t ka kc ks da dc ds l).bare with
 |ok n=>
  rw[hq]at N;dsimp only;rw[hq];exact⟨N.1,D s A W' U n hi G N.2⟩
 |error x=>
  rw[hq]at N;obtain⟨h1,cs,⟨n,rfl⟩,h2⟩:=N;dsimp only;rw[hq];exact⟨h1,P22.numE_bad hq,_,D s A W' U n hi G h2⟩
theorem F5{σ:Type}(Inv:σ→(Nat→Prop)→World→Prop)(M:Nat→Prop)(B I c:Nat)(most:Int)(S:List UInt8→σ→σ)(W:World)(hB:B≤c)(hc:W.heap[c]?=some (.cells #[.pointer (some ⟨I,0,none⟩)] 94))(J:W.heap[c+1]?=some (.cells #[.int .i64 most] 3))(hM:M I)
  (N:∀s A W',Inv s A W'→∃n0,W'.heap[I]?=some (.cells (Fv n0) 9))
  (D:∀s A W' W'' n,Inv s A W'→W'.grownBy W'' (some I)→W''.heap[I]?=some (.cells (Fv n) 9)→Inv (S n s) (fun g=>A g∧g<W'.heap.size) W'') :
  G1 Inv M B (.func (.func 93) #[] #[.pointer (some ⟨c,0,none⟩),.pointer (some ⟨c+1,0,none⟩)]) (fun d s=>(P22.textE most d).map fun n=>S n s) W:=by
 refine⟨_,_,fun g=>g=c∨g=c+1,rfl,enters_of Tryz.func93 (by kernel_rfl) rfl,?_,fun W' hz X nd s A Z U aA hi=>?_⟩
 ·rintro g (rfl|rfl)
  ·exact⟨hB,_,_,hc⟩
  ·exact⟨by omega,_,_,J⟩
 obtain⟨k,t,ka,kc,ks,da,dc,ds,l⟩:=nd;rw[Nd.val_eq];obtain⟨n0,hb⟩:=N s A W' hi;have R:t.length≤1000000:=by simp only[Nd.bare,E6]at U;exact U.1
 refine(J5 k t ka kc ks da dc ds l c (c+1) I most n0 W' R ((X c (.inl rfl)).trans hc) ((X (c+1) (.inr rfl)).trans J) hb).mono ?_;rintro e Y ⟨G,Q⟩;refine⟨⟨G.size,fun g hl hn=>G.block g hl (fun e=>hn (by injection e with e;rw[e];exact hM)),G.os,G.tape,G.output⟩,?_⟩;cases hq:P22.textE most (Nd.mk k t ka kc ks da dc ds l).bare with
 |ok n=>
  rw[hq]at Q;dsimp only;rw[hq];exact⟨Q.1,D s A W' Y n hi G Q.2⟩
 |error x=>
  rw[hq]at Q;obtain⟨h1,cs,⟨n,rfl⟩,h2⟩:=Q;dsimp only;rw[hq];exact⟨h1,P22.textE_bad hq,_,D s A W' Y n hi G h2⟩
end Go.Proofs.YtnjokdbblmlhhaaGreatDoor
namespace Go.Proofs.YtnjokdbblmlhhaaGreatDoor
set_option maxHeartbeats 16000000
set_option maxRecDepth 100000
open Go.RowKit
structure Cl (n d:Nat) (L:Array Bool):Prop where
 size:L.size=2*n+7+d
 ins:∀i,i<n→L.getD (2*i+2) false=true→L.getD 0 false=true∧L.getD (2*i+1) false=true
 mv:L.getD (2*n+1) false=true→L.getD 0 false=true∧∀i,i<n→L.getD (2*i+1) false=true∧L.getD (2*i+2) false=true
 ky:L.getD (2*n+2+d) false=true→L.getD (2*n+1) false=true
 ca:L.getD (2*n+4+d) false=true→L.getD (2*n+2+d) false=true∧L.getD (2*n+3+d) false=true
 st:L.getD (2*n+6+d) false=true→L.getD (2*n+4+d) false=true∧L.getD (2*n+5+d) false=true
theorem E3{L:Array Bool}{i j:Nat}(h:L.getD i true=false):(L.setIfInBounds i true).getD j false=true↔j=i∨L.getD j false=true:=by
 by_cases e:j=i
 ·subst e;simp[Bm h]
 ·rw[getD_set_ne false (Ne.symm e)];simp[e]
theorem Cl.start(n d:Nat):Cl n d (Array.replicate (2*n+7+d) false):=by
 have h0:∀i,(Array.replicate (2*n+7+d) false).getD i false=false:=fun i=>by
  simp only[Array.getD];split<;>simp
 refine⟨by simp,?_,?_,?_,?_,?_⟩;all_goals (intros;rename_i h;rw[h0]at h;cases h)
theorem Cl.set{n d:Nat}{L:Array Bool}(h:Cl n d L){j:Nat}(hj:L.getD j true=false)
  (h1:∀i,i<n→j=2*i+2→L.getD 0 false=true∧L.getD (2*i+1) false=true)
  (h2:j=2*n+1→L.getD 0 false=true∧∀i,i<n→L.getD (2*i+1) false=true∧L.getD (2*i+2) false=true)
  (h3:j=2*n+2+d→L.getD (2*n+1) false=true)
  (h4:j=2*n+4+d→L.getD (2*n+2+d) false=true∧L.getD (2*n+3+d) false=true)
  (h5:j=2*n+6+d→L.getD (2*n+4+d) false=true∧L.getD (2*n+5+d) false=true):Cl n d (L.setIfInBounds j true):=by
 have D:∀i,L.getD i false=true→(L.setIfInBounds j true).getD i false=true:=fun i hi=>(E3 hj).2 (.inr hi);refine⟨by simpa using h.size,fun i hi ht=>?_,fun ht=>?_,fun ht=>?_,fun ht=>?_,fun ht=>?_⟩
 ·rcases(E3 hj).1 ht with e|e
  ·exact⟨D _ (h1 i hi e.symm).1,D _ (h1 i hi e.symm).2⟩
  ·exact⟨D _ (h.ins i hi e).1,D _ (h.ins i hi e).2⟩
 ·rcases(E3 hj).1 ht with e|e
  ·exact⟨D _ (h2 e.symm).1,fun i hi=>⟨D _ ((h2 e.symm).2 i hi).1,D _ ((h2 e.symm).2 i hi).2⟩⟩
  ·exact⟨D _ (h.mv e).1,fun i hi=>⟨D _ ((h.mv e).2 i hi).1,D _ ((h.mv e).2 i hi).2⟩⟩
 ·rcases(E3 hj).1 ht with e|e
  ·exact D _ (h3 e.symm)
  ·exact D _ (h.ky e)
 ·rcases(E3 hj).1 ht with e|e
  ·exact⟨D _ (h4 e.symm).1,D _ (h4 e.symm).2⟩
  ·exact⟨D _ (h.ca e).1,D _ (h.ca e).2⟩
 ·rcases(E3 hj).1 ht with e|e
  ·exact⟨D _ (h5 e.symm).1,D _ (h5 e.symm).2⟩
  ·exact⟨D _ (h.st e).1,D _ (h.st e).2⟩
structure G2 {σ:Type} (Inv:σ→(Nat→Prop)→World→Prop) (M:Nat→Prop) (B:Nat) (rows:List (C8 σ)) (d:Nat) (W1:World) (sl nd:Value) (L:Array Bool) (vM vV vK vN:Value) (vR:Nat→Value) (w:World):Prop where
 below:Below B W1 w
 size:B≤w.heap.size
 map:L.getD 0 false=true→∃bm,vM=.map (some bm)∧B≤bm∧Ic Inv M B rows L bm w
 rd:∀i q,rows[i]?=some q→L.getD (2*i+1) false=true→G1 Inv M B (vR i) q.2.2 w
 mv:L.getD (2*rows.length+1) false=true→vV=vM
 ky:L.getD (2*rows.length+2+d) false=true→∃c,vK=.func (.func 92) #[] #[.pointer (some ⟨c,0,none⟩),.pointer (some ⟨c+1,0,none⟩)]∧B≤c∧w.heap[c]?=some (.cells #[vV] 95)∧w.heap[c+1]?=some (.cells #[sl] 23)
 ld:L.getD (2*rows.length+3+d) false=true→vN=nd
variable {σ:Type} {Inv:σ→(Nat→Prop)→World→Prop} {M:Nat→Prop} {B:Nat} {rows:List (C8 σ)} {d:Nat} {W1:World} {sl nd:Value} {L:Array Bool} {vM vV vK vN:Value} {vR:Nat→Value} {w:World}
def Qz(rows:List (C8 σ)):Prop:=∀i q,rows[i]?=some q→q.2.1=2*i+2
theorem Qz.mem(h:Qz rows){q:C8 σ}(hq:q∈rows):∃i,i<rows.length∧rows[i]?=some q∧q.2.1=2*i+2:=by
 obtain⟨i,hi,rfl⟩:=List.getElem_of_mem hq;exact⟨i,hi,qO hi,h i _ (qO hi)⟩
theorem G2.grow(h:G2 Inv M B rows d W1 sl nd L vM vV vK vN vR w)(S:Qz rows){D:Array Bool}{w':World}(hb:Below w.heap.size w w')(h0:D.getD 0 false=L.getD 0 false)(h1:∀i,i<rows.length→D.getD (2*i+1) false=L.getD (2*i+1) false∧D.getD (2*i+2) false=L.getD (2*i+2) false)
  (h2:D.getD (2*rows.length+1) false=L.getD (2*rows.length+1) false) (h3:D.getD (2*rows.length+2+d) false=L.getD (2*rows.length+2+d) false) (h4:D.getD (2*rows.length+3+d) false=L.getD (2*rows.length+3+d) false):G2 Inv M B rows d W1 sl nd D vM vV vK vN vR w':=by
 have G:Zt B w w':=.of_below hb;refine⟨h.below.trans (hb.mono h.size),qK h.size hb.size,fun ht=>?_,fun i q hq ht=>?_,fun ht=>h.mv (h2 ▸ ht),fun ht=>?_,fun ht=>h.ld (h4 ▸ ht)⟩
 ·rw[h0]at ht;obtain⟨bm,J,Q,I⟩:=h.map ht;refine⟨bm,J,Q,I.stay G ?_ (fun q hq=>?_)⟩
  ·obtain⟨f,⟨es,X,U,_⟩,_⟩:=I;exact hb.block bm (qA.1 U).1
  ·obtain⟨i,hi,_,N⟩:=S.mem hq;rw[N];exact(h1 i hi).2
 ·have hi:i<rows.length:=(qI.1 hq).1;rw[(h1 i hi).1]at ht;exact(h.rd i q hq ht).stay G
 ·rw[h3]at ht;obtain⟨c,J,Q,I,R⟩:=h.ky ht;exact⟨c,J,Q,(hb.block c (qA.1 I).1).trans I,(hb.block (c+1) (qA.1 R).1).trans R⟩
theorem Ae{L:Array Bool}{i j:Nat}(h:i≠j):(L.setIfInBounds i true).getD j false=L.getD j false:=getD_set_ne false h
theorem G2.make(h:G2 Inv M B rows d W1 sl nd L vM vV vK vN vR w)(J:Qz rows)(D:Cl rows.length d L)(h0:L.getD 0 true=false):G2 Inv M B rows d W1 sl nd (L.setIfInBounds 0 true) (.map (some w.heap.size)) vV vK vN vR (w.alloc (.map #[] 0)):=by
 have N:=(A4 h0).2;have hb:Below w.heap.size w (w.alloc (.map #[] 0)):=(qV _ w).alloc (qJ _) _
 have G:∀{j:Nat},(L.getD j false=true→L.getD 0 false=true)→(L.setIfInBounds 0 true).getD j false=true→j=0:=fun hj ht=>by
  rcases(E3 h0).1 ht with e|e
  ·exact e
  ·have:=hj e;rw[N]at this;cases this
 refine⟨h.below.trans (hb.mono h.size),qK h.size hb.size,fun _=>⟨w.heap.size,rfl,h.size,Ic.made w (fun q hq=>?_)⟩,fun i q hq ht=>?_,fun ht=>?_,fun ht=>?_,fun ht=>?_⟩
 ·obtain⟨i,hi,_,I⟩:=J.mem hq;rw[I];cases hh:(L.setIfInBounds 0 true).getD (2*i+2) false with
  |false=>rfl
  |true=>have:=G (fun e=>(D.ins i hi e).1) hh;omega
 ·rw[Ae (by omega)]at ht;exact(h.rd i q hq ht).stay (.of_below hb)
 ·have:=G (fun e=>(D.mv e).1) ht;omega
 ·have:=G (fun e=>(D.mv (D.ky e)).1) ht;omega
 ·rw[Ae (by omega)]at ht;exact h.ld ht
theorem G2.call(h:G2 Inv M B rows d W1 sl nd L vM vV vK vN vR w)(S:Qz rows){i:Nat}{q:C8 σ}(hq:rows[i]?=some q)(hi:L.getD (2*i+1) true=false){w':World}(hb:Below w.heap.size w w'){v:Value}(hv:G1 Inv M B v q.2.2 w'):G2 Inv M B rows d W1 sl nd (L.setIfInBounds (2*i+1) true) vM vV vK vN (fun j=>if j=i then v else vR j) w':=by
 have X:i<rows.length:=(qI.1 hq).1;refine⟨h.below.trans (hb.mono h.size),qK h.size hb.size,fun ht=>?_,fun j Q D ht=>?_,fun ht=>h.mv (by rwa [Ae (by omega)]at ht),fun ht=>?_,fun ht=>h.ld (by rwa [Ae (by omega)]at ht)⟩
 ·rw[Ae (by omega)]at ht;obtain⟨bm,I,N,G⟩:=h.map ht;refine⟨bm,I,N,G.stay (.of_below hb) ?_ (fun Q D=>?_)⟩
  ·obtain⟨f,⟨es,Y,U,_⟩,_⟩:=G;exact hb.block bm (qA.1 U).1
  ·obtain⟨j,hj,_,J⟩:=S.mem D;rw[J];exact Ae (by omega)
 ·by_cases e:j=i
  ·subst e;rw[hq]at D;cases D;simpa using hv
  ·rw[if_neg e];rw[Ae (by omega)]at ht;exact(h.rd j Q D ht).stay (.of_below hb)
 ·rw[Ae (by omega)]at ht;obtain⟨c,I,N,G,R⟩:=h.ky ht;exact⟨c,I,N,(hb.block c (qA.1 G).1).trans G,(hb.block (c+1) (qA.1 R).1).trans R⟩
theorem G2.put(h:G2 Inv M B rows d W1 sl nd L vM vV vK vN vR w)(hI:Qz rows)(hA:Hh rows)(X:Cl rows.length d L){i:Nat}{q:C8 σ}(hq:rows[i]?=some q)(hi:L.getD (2*i+2) true=false)(R:L.getD 0 false=true)(Q:L.getD (2*i+1) false=true) :
  ∃bm w',vM=.map (some bm)∧(Instr.mapUpdate 95 (.map (some bm)) (.string ⟨q.1.toArray⟩) (vR i)).run Tryz.prog w=.ok () w'∧G2 Inv M B rows d W1 sl nd (L.setIfInBounds (2*i+2) true) vM vV vK vN vR w'∧(∀g,g≠bm→w'.heap[g]?=w.heap[g]?)∧B≤bm∧(∃es D,w.heap[bm]?=some (.map es D)):=by
 have N:i<rows.length:=(qI.1 hq).1;have G:=hI i q hq;have f0:=(A4 hi).2;obtain⟨bm,e1,e2,Z⟩:=h.map R
 obtain⟨es,D,J⟩:∃es D,w.heap[bm]?=some (.map es D):=by
  obtain⟨f,⟨es,D,J,_⟩,_⟩:=Z;exact⟨es,D,J⟩
 obtain⟨w',r1,r2,r3,Y,U,r6,r7,r8⟩:=Z.put hA (qN hq) (by rw[G];exact hi) (h.rd i q hq Q);rw[G]at r2;have I:Below B W1 w':=⟨r6.trans h.below.os,r7.trans h.below.tape,r8.trans h.below.output,by rw[Y];exact h.below.size,fun g hg=>(U g (by omega)).trans (h.below.block g hg)⟩;refine⟨bm,w',e1,r1,⟨I,by rw[Y];exact h.size,fun _=>⟨bm,e1,e2,r2⟩,fun j q' S ht=>?_,fun ht=>?_,fun ht=>?_,fun ht=>h.ld (by rwa [Ae (by omega)]at ht)⟩,U,e2,es,D,J⟩
 ·rw[Ae (by omega)]at ht;exact(h.rd j q' S ht).stay r3
 ·rw[Ae (by omega)]at ht;exact h.mv ht
 ·rw[Ae (by omega)]at ht;have:=((X.mv (X.ky ht)).2 i N).2;rw[f0]at this;cases this
theorem G2.move(h:G2 Inv M B rows d W1 sl nd L vM vV vK vN vR w)(R:Qz rows)(N:Cl rows.length d L)(hi:L.getD (2*rows.length+1) true=false):G2 Inv M B rows d W1 sl nd (L.setIfInBounds (2*rows.length+1) true) vM vM vK vN vR w:=by
 have S:=(A4 hi).2;refine⟨h.below,h.size,fun ht=>?_,fun j I D ht=>?_,fun _=>rfl,fun ht=>?_,fun ht=>h.ld (by rwa [Ae (by omega)]at ht)⟩
 ·rw[Ae (by omega)]at ht;obtain⟨bm,Q,U,X⟩:=h.map ht;refine⟨bm,Q,U,X.stay ⟨qJ _,fun _ _ _ _ J=>J⟩ rfl (fun q hq=>?_)⟩;obtain⟨j,hj,_,G⟩:=R.mem hq;rw[G];exact Ae (by omega)
 ·have:=(qI.1 D).1;rw[Ae (by omega)]at ht;exact h.rd j I D ht
 ·rw[Ae (by omega)]at ht;have:=N.ky ht;rw[S]at this;cases this
theorem G2.keys(h:G2 Inv M B rows d W1 sl nd L vM vV vK vN vR w)(Q:Qz rows){w':World}(hb:Below w.heap.size w w'){c:Nat}(hc:w.heap.size≤c)(h1:w'.heap[c]?=some (.cells #[vV] 95))(h2:w'.heap[c+1]?=some (.cells #[sl] 23)) :
  G2 Inv M B rows d W1 sl nd (L.setIfInBounds (2*rows.length+2+d) true) vM vV (.func (.func 92) #[] #[.pointer (some ⟨c,0,none⟩),.pointer (some ⟨c+1,0,none⟩)]) vN vR w':=by
 have hs:=h.size;refine⟨h.below.trans (hb.mono h.size),qK h.size hb.size,fun ht=>?_,fun j J D ht=>?_,fun ht=>h.mv (by rwa [Ae (by omega)]at ht),fun ht=>⟨c,rfl,by omega,h1,h2⟩,fun ht=>h.ld (by rwa [Ae (by omega)]at ht)⟩
 ·rw[Ae (by omega)]at ht;obtain⟨bm,N,S,I⟩:=h.map ht;refine⟨bm,N,S,I.stay (.of_below hb) ?_ (fun q hq=>?_)⟩
  ·obtain⟨f,⟨es,U,R,_⟩,_⟩:=I;exact hb.block bm (qA.1 R).1
  ·obtain⟨j,hj,_,G⟩:=Q.mem hq;rw[G];exact Ae (by omega)
 ·have:=(qI.1 D).1;rw[Ae (by omega)]at ht;exact(h.rd j J D ht).stay (.of_below hb)
theorem G2.load(h:G2 Inv M B rows d W1 sl nd L vM vV vK vN vR w)(I:Qz rows):G2 Inv M B rows d W1 sl nd (L.setIfInBounds (2*rows.length+3+d) true) vM vV vK nd vR w:=by
 refine⟨h.below,h.size,fun ht=>?_,fun j J D ht=>?_,fun ht=>h.mv (by rwa [Ae (by omega)]at ht),fun ht=>h.ky (by rwa [Ae (by omega)]at ht),fun _=>rfl⟩
 ·rw[Ae (by omega)]at ht;obtain⟨bm,S,N,R⟩:=h.map ht;refine⟨bm,S,N,R.stay ⟨qJ _,fun _ _ _ _ Q=>Q⟩ rfl (fun q hq=>?_)⟩;obtain⟨j,hj,_,G⟩:=I.mem hq;rw[G];exact Ae (by omega)
 ·have:=(qI.1 D).1;rw[Ae (by omega)]at ht;exact h.rd j J D ht
theorem G2.ready(h:G2 Inv M B rows d W1 sl nd L vM vV vK vN vR w)(S:Qz rows)(G:Cl rows.length d L)(X:∀g,M g→g<B)(h1:L.getD (2*rows.length+2+d) false=true)(h2:L.getD (2*rows.length+3+d) false=true) :
  ∃bm c,vK=.func (.func 92) #[] #[.pointer (some ⟨c,0,none⟩),.pointer (some ⟨c+1,0,none⟩)]∧vN=nd∧B≤c∧B≤bm∧bm<w.heap.size∧w.heap[c]?=some (.cells #[.map (some bm)] 95)∧w.heap[c+1]?=some (.cells #[sl] 23)∧N6 Inv M bm (Du rows) w:=by
 have D:=G.ky h1;obtain⟨bm,R,U,N⟩:=h.map (G.mv D).1;obtain⟨c,Q,Y,J,Z⟩:=h.ky h1;rw[h.mv D,R]at J;refine⟨bm,c,Q,h.ld h2,Y,U,?_,J,Z,N.full X (fun q hq=>?_)⟩
 ·obtain⟨f,⟨es,cl,D,_⟩,_⟩:=N;exact(qA.1 D).1
 ·obtain⟨i,hi,_,I⟩:=S.mem hq;rw[I];exact((G.mv D).2 i hi).2
end Go.Proofs.YtnjokdbblmlhhaaGreatDoor
namespace Go.Proofs.YtnjokdbblmlhhaaGreatDoor
set_option maxHeartbeats 16000000
set_option maxRecDepth 100000
open Go.RowKit
theorem Cl.early{n d:Nat}{L:Array Bool}(h:Cl n d L)(hc:L.getD (2*n+4+d) false=true):L.getD 0 false=true∧(∀i,i<n→L.getD (2*i+1) false=true∧L.getD (2*i+2) false=true)∧L.getD (2*n+1) false=true∧L.getD (2*n+2+d) false=true∧L.getD (2*n+3+d) false=true:=by
 obtain⟨h1,h2⟩:=h.ca hc;have h3:=h.ky h1;exact⟨(h.mv h3).1,(h.mv h3).2,h3,h1,h2⟩
theorem Cl.not{n d:Nat}{L:Array Bool}(h:Cl n d L){j:Nat}(hj:L.getD j true=false)(hh:j=0∨(∃i,i<n∧(j=2*i+1∨j=2*i+2))∨j=2*n+1∨j=2*n+2+d∨j=2*n+3+d):L.getD (2*n+4+d) false=false:=by
 have f:=(A4 hj).2;cases hc:L.getD (2*n+4+d) false with
 |false=>rfl
 |true=>
  obtain⟨h0,h1,h2,h3,h4⟩:=h.early hc;rcases hh with rfl|⟨i,hi,rfl|rfl⟩|rfl|rfl|rfl
  ·rw[h0]at f;cases f
  ·rw[(h1 i hi).1]at f;cases f
  ·rw[(h1 i hi).2]at f;cases f
  ·rw[h2]at f;cases f
  ·rw[h3]at f;cases f
  ·rw[h4]at f;cases f
def Mo(n d B:Nat)(L:Array Bool)(vF vE:Value)(w:World):Prop:=
 L.getD (2*n+5+d) false=true→∃D x y,vF=.pointer (some ⟨D,0,none⟩)∧B≤D∧w.heap[D]?=some (.cells #[x,y] 29)∧(L.getD (2*n+6+d) false=true→vE=.agg #[x,y])
theorem Mo.keep{n d B:Nat}{L G:Array Bool}{vF vE D:Value}{w w':World}(h:Mo n d B L vF vE w)(h5:G.getD (2*n+5+d) false=L.getD (2*n+5+d) false)(h6:G.getD (2*n+6+d) false=L.getD (2*n+6+d) false)
  (Q:L.getD (2*n+6+d) false=true→D=vE) (hb:∀g x y t,B≤g→w.heap[g]?=some (.cells #[x,y] t)→w'.heap[g]?=some (.cells #[x,y] t)):Mo n d B G vF D w':=by
 intro ht;rw[h5]at ht;obtain⟨I,x,y,N,J,R,S⟩:=h ht;refine⟨I,x,y,N,J,hb I x y _ J R,fun hs=>?_⟩;rw[h6]at hs;rw[Q hs];exact S hs
theorem Aw{B:Nat}{w w':World}(hb:Below w.heap.size w w'):∀g x y t,B≤g→w.heap[g]?=some (.cells #[x,y] t)→w'.heap[g]?=some (.cells #[x,y] t):=fun g x y t _ D=>(hb.block g (qA.1 D).1).trans D
theorem Bw{B bm:Nat}{w w':World}(D:∃es I,w.heap[bm]?=some (.map es I))(h:∀g,g≠bm→w'.heap[g]?=w.heap[g]?):∀g x y t,B≤g→w.heap[g]?=some (.cells #[x,y] t)→w'.heap[g]?=some (.cells #[x,y] t):=fun g x y t _ G=>by
 by_cases e:g=bm
 ·obtain⟨es,I,D⟩:=D;rw[e,D]at G;cases G
 ·exact(h g e).trans G
def Eg{σ:Type}(Inv:σ→(Nat→Prop)→World→Prop)(M:Nat→Prop)(B n d:Nat)(W1:World)(res:Except P22.F σ)(L:Array Bool)(vF vE:Value)(w:World):Prop:=
 Dw M W1 w∧B≤w.heap.size∧∃e l',vE=fV e l'∧∃s,((res=.ok s∧e=0∧l'=0)∨(res=.error (e,l')∧e≠0))∧Inv s (fun g=>L.getD (2*n+5+d) false=true∧vF=.pointer (some ⟨g,0,none⟩)) w
variable {σ:Type} {Inv:σ→(Nat→Prop)→World→Prop} {M:Nat→Prop} {B n d:Nat} {W1:World} {res:Except P22.F σ} {L:Array Bool} {vF vE:Value} {w:World}
theorem Eg.read{w':World}{A:Nat→Prop}{e:Ending}(Z:Gf Inv)(hb:Below B W1 w)(hW:B≤W1.heap.size)(hz:B≤w.heap.size)(Q:∀g,M g→g<B)(hM:∀g,¬M g→A g)(h:Gm Inv M A w res e w')(hC:Cl n d L)(Y:Mo n d B L vF vE w)(hi:L.getD (2*n+4+d) true=false)
  (D:∀g,g<W1.heap.size→B≤g→w.heap[g]?=W1.heap[g]?) :
  ∃v,e=.returned v∧Eg Inv M B n d W1 res (L.setIfInBounds (2*n+4+d) true) vF v w'∧Mo n d B (L.setIfInBounds (2*n+4+d) true) vF v w':=by
 obtain⟨hk,G⟩:=h
 have J:Dw M W1 w':=⟨qK hb.size hk.size,fun g R hn=>by
  have N:g<w.heap.size:=zB R hb.size;by_cases U:g<B
  ·exact(hk.same g N hn).trans (hb.block g U)
  ·exact(hk.same g N hn).trans (D g R (by omega)),hk.os.trans hb.os,hk.tape.trans hb.tape,hk.output.trans hb.output⟩
 have I:∀g,((L.setIfInBounds (2*n+4+d) true).getD (2*n+5+d) false=true∧vF=.pointer (some ⟨g,0,none⟩))→A g∧g<w.heap.size:=by
  rintro g ⟨h1,h2⟩;rw[Ae (by omega)]at h1;obtain⟨fb,x,y,e1,e2,e3,_⟩:=Y h1;rw[e1]at h2;injection h2 with h2;injection h2 with h2;injection h2 with h2;subst h2;exact⟨hM _ (fun G=>by have:=Q _ G;omega),(qA.1 e3).1⟩
 have S:∀v,Mo n d B (L.setIfInBounds (2*n+4+d) true) vF v w':=fun v=>by
  refine Y.keep (Ae (by omega)) (Ae (by omega)) (fun hs=>?_) (fun g x y t hB R=>(hk.same g (qA.1 R).1 (fun G=>by have:=Q _ G;omega)).trans R);have:=(hC.st hs).1;rw[(A4 hi).2]at this;cases this
 cases res with
 |ok s=>
  obtain⟨rfl,X⟩:=G;exact⟨_,rfl,⟨J,qK hz hk.size,0,0,rfl,s,.inl ⟨rfl,rfl,rfl⟩,Z.mono _ _ _ _ X I⟩,S _⟩
 |error x=>
  obtain⟨rfl,hne,s,X⟩:=G;exact⟨_,rfl,⟨J,qK hz hk.size,x.1,x.2,rfl,s,.inr ⟨rfl,hne⟩,Z.mono _ _ _ _ X I⟩,S _⟩
theorem Eg.alloc(G:Gf Inv)(h:Eg Inv M B n d W1 res L vF vE w)(hi:L.getD (2*n+5+d) true=false)(o:Obj):Eg Inv M B n d W1 res (L.setIfInBounds (2*n+5+d) true) (.pointer (some ⟨w.heap.size,0,none⟩)) vE (w.alloc o):=by
 obtain⟨hk,hz,e,l',rfl,s,hr,I⟩:=h;have hb:Below w.heap.size w (w.alloc o):=(qV _ w).alloc (qJ _) _;refine⟨hk.trans (.of_below hb),qK hz hb.size,e,l',rfl,s,hr,?_⟩;refine G.mono _ _ _ _ (G.stays _ _ _ _ I hb.size (fun g D _=>hb.block g D)) (fun g D=>.inr ?_);have h2:=D.2;injection h2 with h2;injection h2 with h2;injection h2 with h2;omega
theorem Mo.made(D:Cl n d L)(hz:B≤w.heap.size)(hi:L.getD (2*n+5+d) true=false)(vE:Value)(x y:Value):Mo n d B (L.setIfInBounds (2*n+5+d) true) (.pointer (some ⟨w.heap.size,0,none⟩)) vE (w.alloc (.cells #[x,y] 29)):=by
 intro _;refine⟨w.heap.size,x,y,rfl,hz,qB _ _,fun hs=>?_⟩;rw[Ae (by omega)]at hs;have:=(D.st hs).2;rw[(A4 hi).2]at this;cases this
theorem Eg.store(J:Gf Inv)(h:Eg Inv M B n d W1 res L vF vE w)(R:Mo n d B L vF vE w)(hi:L.getD (2*n+6+d) true=false)(hd:L.getD (2*n+5+d) false=true)(N:∀g,M g→g<B)(U:W1.heap.size≤B) :
  ∃D x y e l',vF=.pointer (some ⟨D,0,none⟩)∧vE=.agg #[.int .i64 e,.int .i64 l']∧w.heap[D]?=some (.cells #[x,y] 29) ∧
   Eg Inv M B n d W1 res (L.setIfInBounds (2*n+6+d) true) vF vE ((w.setCell ⟨D,0,none⟩ (.int .i64 e)).setCell ⟨D,1,none⟩ (.int .i64 l'))∧Mo n d B (L.setIfInBounds (2*n+6+d) true) vF vE ((w.setCell ⟨D,0,none⟩ (.int .i64 e)).setCell ⟨D,1,none⟩ (.int .i64 l')):=by
 obtain⟨hk,hz,e,l',rfl,s,hr,Q⟩:=h;obtain⟨D,x,y,rfl,S,I,_⟩:=R hd;refine⟨D,x,y,e,l',rfl,rfl,I,⟨hk.two (by omega) _ _,by simpa using hz,e,l',rfl,s,hr,?_⟩,fun _=>⟨D,_,_,rfl,S,A3 I _ _,fun _=>rfl⟩⟩;refine J.mono _ _ _ _ (J.stays _ _ _ _ Q (by simp) (fun g G hn=>Ar (fun q=>hn ⟨hd,by rw[q]⟩) _ _)) (fun g G=>.inl ?_);rw[Ae (by omega)]at G;exact G
theorem Eg.end(h:Eg Inv M B n d W1 res L vF vE w)(I:Mo n d B L vF vE w)(h5:L.getD (2*n+5+d) false=true)(h6:L.getD (2*n+6+d) false=true) :
  ∃D e l' s,vF=.pointer (some ⟨D,0,none⟩)∧B≤D∧w.heap[D]?=some (.cells #[.int .i64 e,.int .i64 l'] 29)∧Dw M W1 w∧((res=.ok s∧e=0∧l'=0)∨(res=.error (e,l')∧e≠0))∧Inv s (fun g=>g=D) w:=by
 obtain⟨hk,hz,e,l',rfl,s,hr,G⟩:=h;obtain⟨D,x,y,rfl,J,N,Q⟩:=I h5;have:=Q h6;simp only[fV,Value.agg.injEq,Array.mk.injEq,List.cons.injEq,and_true]at this;obtain⟨rfl,rfl⟩:=this;refine⟨D,e,l',s,rfl,J,N,hk,hr,?_⟩
 have:(fun g=>L.getD (2*n+5+d) false=true∧Value.pointer (some ⟨D,0,none⟩)=.pointer (some ⟨g,0,none⟩))=fun g=>g=D:=by
  funext g
  simp only[h5,true_and,Value.pointer.injEq,zG,Addr.mk.injEq,and_true];exact propext ⟨Eq.symm,Eq.symm⟩
 rw[this]at G;exact G
end Go.Proofs.YtnjokdbblmlhhaaGreatDoor
namespace Go.Proofs.YtnjokdbblmlhhaaGreatDoor
set_option maxHeartbeats 16000000
set_option maxRecDepth 100000
open Go.RowKit
structure S4 (b:Nat) (s:P22.Try) (A:Nat→Prop) (W:World):Prop where
 b0:W.heap[b]?=some (.cells (Gy s.most) 3)
 b1:W.heap[b+1]?=some (.cells (Gy s.first) 3)
 b2:W.heap[b+1+1]?=some (.cells (Gy s.factor) 3)
 n0:¬A b
 n1:¬A (b+1)
 n2:¬A (b+1+1)
theorem Pe(b:Nat):Gf (S4 b) where
 stays:=by
  rintro s A W W' h hz hs;have l0:=(qA.1 h.b0).1;have l1:=(qA.1 h.b1).1;have G:=(qA.1 h.b2).1;exact⟨(hs _ l0 h.n0).trans h.b0,(hs _ l1 h.n1).trans h.b1,(hs _ G h.n2).trans h.b2,fun q=>q.elim h.n0 (by omega),fun q=>q.elim h.n1 (by omega),fun q=>q.elim h.n2 (by omega)⟩
 mono:=fun s A A' W h D=>⟨h.b0,h.b1,h.b2,fun q=>h.n0 (D _ q),fun q=>h.n1 (D _ q),fun q=>h.n2 (D _ q)⟩
def Rc(b:Nat)(g:Nat):Prop:=g=b∨g=b+1∨g=b+1+1
theorem Gr(H:Nat):∀g,Rc (H+1+1) g→g<H+1+1+1+1+1:=by
 rintro g (rfl|rfl|rfl)<;>omega
def E0:List (C8 P22.Try):=[([109,111,115,116],2,fun(d:P20.T) (s:P22.Try)=>(P22.numE d).map fun n=>{ s with most:=n }),([102,105,114,115,116],4,fun(d:P20.T) (s:P22.Try)=>(P22.numE d).map fun n=>{ s with first:=n }),([102,97,99,116,111,114],6,fun(d:P20.T) (s:P22.Try)=>(P22.numE d).map fun n=>{ s with factor:=n })]
theorem U5:Du E0=P22.triesRd:=by
 funext k
 rfl
theorem Fr:Qz E0:=by
 intro i q hq
 match i,hq with
 |0,hq=>cases hq;rfl
 |1,hq=>cases hq;rfl
 |2,hq=>cases hq;rfl
 |n+3,hq=>simp[E0]at hq
theorem Lc:Hh E0:=by
 unfold Hh E0;simp
theorem U7{H c:Nat}{W:World}(hB:H+1+1+1+1+1≤c)(hc:W.heap[c]?=some (.cells #[.pointer (some ⟨H+1+1,0,none⟩)] 65)):G1 (S4 (H+1+1)) (Rc (H+1+1)) (H+1+1+1+1+1) (.func (.func 127) #[] #[.pointer (some ⟨c,0,none⟩)]) (fun(d:P20.T) (s:P22.Try)=>(P22.numE d).map fun n=>{ s with most:=n }) W:=by
 refine Ik (σ:=P22.Try) _ _ _ (H+1+1) c (fun(n:Int) (s:P22.Try)=>{ s with most:=n }) W hB hc (.inl rfl) (fun s A W' h=>⟨_,h.b0⟩) (fun s A W' W'' n h D hn=>?_);have l0:=(qA.1 h.b0).1;have l1:=(qA.1 h.b1).1;have G:=(qA.1 h.b2).1;refine⟨hn,(D.block _ l1 (by simp;try omega)).trans h.b1,(D.block _ G (by simp;try omega)).trans h.b2,fun q=>h.n0 q.1,fun q=>h.n1 q.1,fun q=>h.n2 q.1⟩
theorem Uu{H c:Nat}{W:World}(hB:H+1+1+1+1+1≤c)(hc:W.heap[c]?=some (.cells #[.pointer (some ⟨H+1+1+1,0,none⟩)] 65)):G1 (S4 (H+1+1)) (Rc (H+1+1)) (H+1+1+1+1+1) (.func (.func 127) #[] #[.pointer (some ⟨c,0,none⟩)]) (fun(d:P20.T) (s:P22.Try)=>(P22.numE d).map fun n=>{ s with first:=n }) W:=by
 refine Ik (σ:=P22.Try) _ _ _ (H+1+1+1) c (fun(n:Int) (s:P22.Try)=>{ s with first:=n }) W hB hc (.inr (.inl rfl)) (fun s A W' h=>⟨_,h.b1⟩) (fun s A W' W'' n h D hn=>?_);have l0:=(qA.1 h.b0).1;have l1:=(qA.1 h.b1).1;have G:=(qA.1 h.b2).1;refine⟨(D.block _ l0 (by simp;try omega)).trans h.b0,hn,(D.block _ G (by simp;try omega)).trans h.b2,fun q=>h.n0 q.1,fun q=>h.n1 q.1,fun q=>h.n2 q.1⟩
theorem Uo{H c:Nat}{W:World}(hB:H+1+1+1+1+1≤c)(hc:W.heap[c]?=some (.cells #[.pointer (some ⟨H+1+1+1+1,0,none⟩)] 65)):G1 (S4 (H+1+1)) (Rc (H+1+1)) (H+1+1+1+1+1) (.func (.func 127) #[] #[.pointer (some ⟨c,0,none⟩)]) (fun(d:P20.T) (s:P22.Try)=>(P22.numE d).map fun n=>{ s with factor:=n }) W:=by
 refine Ik (σ:=P22.Try) _ _ _ (H+1+1+1+1) c (fun(n:Int) (s:P22.Try)=>{ s with factor:=n }) W hB hc (.inr (.inr rfl)) (fun s A W' h=>⟨_,h.b2⟩) (fun s A W' W'' n h D hn=>?_);have l0:=(qA.1 h.b0).1;have l1:=(qA.1 h.b1).1;have G:=(qA.1 h.b2).1;refine⟨(D.block _ l0 (by simp;try omega)).trans h.b0,(D.block _ l1 (by simp;try omega)).trans h.b1,hn,fun q=>h.n0 q.1,fun q=>h.n1 q.1,fun q=>h.n2 q.1⟩
theorem D9{W:World}{g:Nat}{T:TypeId}{a b c:Value}(h:W.heap[g]?=some (.cells #[a,b,c] T)):(W.cell? ⟨g,0,none⟩=some a∧W.frozen? ⟨g,0,none⟩=false)∧(W.cell? ⟨g,1,none⟩=some b∧W.frozen? ⟨g,1,none⟩=false)∧(W.cell? ⟨g,2,none⟩=some c∧W.frozen? ⟨g,2,none⟩=false):=by
 simp[World.cell?,World.frozen?,h]
theorem P4{W:World}{g:Nat}{T:TypeId}{a b c:Value}(h:W.heap[g]?=some (.cells #[a,b,c] T))(v0 D G:Value):(((W.setCell ⟨g,0,none⟩ v0).setCell ⟨g,1,none⟩ D).setCell ⟨g,2,none⟩ G).heap[g]?=some (.cells #[v0,D,G] T):=by
 simp[World.setCell,Array.getElem?_modify,h]
theorem Ms{w W:World}{D:Nat}(h:w.grownBy W (some D))(v0 G I:Value):w.grownBy (((W.setCell ⟨D,0,none⟩ v0).setCell ⟨D,1,none⟩ G).setCell ⟨D,2,none⟩ I) (some D):=
 ⟨h.os,h.tape,h.output,by simpa using h.size,fun i hi hne=>(A6 (fun e=>hne (by rw[e])) _ _ _).trans (h.block i hi hne)⟩
theorem Cs{L:Array Bool}{i j:Nat}(h:L.getD j false=false)(D:i≠j)(ht:(L.setIfInBounds i true).getD j false=true):False:=by
 rw[Ae D,h]at ht;cases ht
def Vt(w:World)(D:Nat)(res:Except P22.F P22.Try)(e l':Int)(w':World):Prop:=
 w.grownBy w' (some D)∧∃s:P22.Try,w'.heap[D]?=some (.cells #[.int .i64 s.most,.int .i64 s.first,.int .i64 s.factor] 84)∧((res=.ok s∧e=0∧l'=0)∨(res=.error (e,l')∧e≠0))
theorem Oz(tb p:Nat)(k:Nat)(t:List UInt8)(ka:Option Addr)(kc:Nat)(ks:List (List UInt8))(da:Option Addr)(dc:Nat)(ds:List Nd)(l:Int)(z0 z1 z2:Value)(w:World)(aN:(Nd.mk k t ka kc ks da dc ds l).In w)(bD:E6 (Nd.mk k t ka kc ks da dc ds l).bare)(bW:¬(Nd.mk k t ka kc ks da dc ds l).blk tb)
  (hp:w.heap[p]?=some (.cells #[.pointer (some ⟨tb,0,none⟩)] 143)) (hb:w.heap[tb]?=some (.cells #[z0,z1,z2] 84)) :
  Calls Tryz.prog 126 #[.agg #[.int .u8 k,.string ⟨t.toArray⟩,.slice ka ks.length kc,.slice da ds.length dc,.int .i64 l],.pointer (some ⟨p,0,none⟩)] w fun e w'=>∃c l',e=.returned (fV c l')∧Vt w tb (P22.triesE (Nd.mk k t ka kc ks da dc ds l).bare) c l' w':=by
 obtain⟨H,hH⟩:∃H,w.heap.size=H:=⟨_,rfl⟩;obtain⟨W0,aU,aG,g0,g1,aH⟩:=A0 w (.cells #[.int .u8 k,.string ⟨t.toArray⟩,.slice ka ks.length kc,.slice da ds.length dc,.int .i64 l] 26) (.cells #[.int .i64 0,.int .i64 0] 29) H hH;have x0:=Ad g0;have y0:=Af g1;have bG:=(qA.1 hp).1;have bO:=(qA.1 hb).1;rw[hH]at bG bO;obtain⟨W1,aA⟩:∃W1,((W0.alloc (.cells #[.int .i64 0] 3)).alloc (.cells #[.int .i64 0] 3)).alloc (.cells #[.int .i64 0] 3)=W1:=⟨_,rfl⟩;have bY:W1.heap.size=H+1+1+1+1+1:=by rw[←aA];simp;omega
 have aC:Below (H+1+1) W0 W1:=by rw[←aA];exact(((qV _ W0).alloc (by omega) _).alloc (by simp;omega) _).alloc (by simp;omega) _
 have i0:W1.heap[H+1+1]?=some (.cells (Gy 0) 3):=by
  rw[←aA,qD _ _ _ (by simp;omega),qD _ _ _ (by simp;omega),←aH];exact qB _ _
 have i1:W1.heap[H+1+1+1]?=some (.cells (Gy 0) 3):=by
  rw[←aA,qD _ _ _ (by simp;omega)];have h:=qB (W0.alloc (.cells #[.int .i64 0] 3)) (.cells #[.int .i64 0] 3);rw[qF,aH]at h;exact h
 have i2:W1.heap[H+1+1+1+1]?=some (.cells (Gy 0) 3):=by
  rw[←aA];have h:=qB ((W0.alloc (.cells #[.int .i64 0] 3)).alloc (.cells #[.int .i64 0] 3)) (.cells #[.int .i64 0] 3);rw[qF,qF,aH]at h;exact h
 have p1:=(aC.block p (by omega)).trans ((aG.block p (by omega)).trans hp);have t1:=(aC.block tb (by omega)).trans ((aG.block tb (by omega)).trans hb);have n0:=(aC.block H (by omega)).trans g0;have n1:=(aC.block (H+1) (by omega)).trans g1;have aL:Below H w W1:=aG.trans (aC.mono (by omega));have aI:(Nd.mk k t ka kc ks da dc ds l).In W1:=aN.below (by rw[hH];exact aL);have aO:=fun g hg=>Nd.In.lt aN (r:=g) hg;rw[hH]at aO
 have aE:∀bm c W',Below (H+1+1+1+1+1) W1 W'→H+1+1+1+1+1≤W'.heap.size→H+1+1+1+1+1≤c→H+1+1+1+1+1≤bm→bm<W'.heap.size→W'.heap[c]?=some (.cells #[.map (some bm)] 95)→W'.heap[c+1]?=some (.cells #[.slice none 0 0] 23)→N6 (S4 (H+1+1)) (Rc (H+1+1)) bm (Du E0) W'→Calls Tryz.prog 92 #[.agg #[.int .u8 k,.string ⟨t.toArray⟩,.slice ka ks.length kc,.slice da ds.length dc,.int .i64 l],.pointer (some ⟨c,0,none⟩),.pointer (some ⟨c+1,0,none⟩)] W' (Gm (S4 (H+1+1)) (Rc (H+1+1)) (fun g=>¬(Rc (H+1+1)) g) W' (P22.triesE (Nd.mk k t ka kc ks da dc ds l).bare)):=fun bm c W' h hz hc bX aK q1 q2 hm=>by
  rw[U5]at hm;unfold P22.triesE;refine Hu (S4 (H+1+1)) (Pe _) (Rc (H+1+1)) P22.triesRd [] c (c+1) bm none 0 k t ka kc ks da dc ds l ⟨0,0,0⟩ (fun g=>¬(Rc (H+1+1)) g) W' ?_ bD (fun g hg hm=>?_) (fun g hg=>?_) q1 q2 ?_ (by simp) ?_ ?_ ?_ aK (fun g h=>absurd rfl h) hm ?_
  ·exact aI.keep (fun g hg=>h.block g (by have:=aO g hg;omega))
  ·have:=aO g hg;rcases hm with rfl|rfl|rfl<;>omega
  ·have:=Gr H g hg;omega
  ·simp[Eu]
  ·intro hm;have:=Gr H _ hm;omega
  ·intro hm;have:=Gr H _ hm;omega
  ·intro hm;have:=Gr H _ hm;omega
  ·exact⟨(h.block _ (by omega)).trans i0,(h.block _ (by omega)).trans i1,(h.block _ (by omega)).trans i2,fun q=>q (.inl rfl),fun q=>q (.inr (.inl rfl)),fun q=>q (.inr (.inr rfl))⟩
 have bM:=@run_makeMap Tryz.prog;have bK:=Ab aU;have bT:=Ab aA;have bS:=Ab n0;have bC:=Ab n1;have bU:=Ab p1;have bP:=Ab t1;have aD:=Ab aL;have aR:=Ab aE;have bQ:=Dl;clear aU aG g0 g1 aA x0 y0 hp hb p1 t1 n0 n1 i0 i1 i2 aI aE aC aL aN;go_enter Tryz.func126,Tryz.ntmps126
 go_upto_region 1 with fail
 try rw[hH]
 rw[Aa bK];go_upto_region 2 with fail
 try rw[aH]
 rw[Aa bT];refine Cw bQ (fun L a X=>∃(vF vM vV vK vN vE:Value) (vR:Nat→Value),a=⟨#[.agg #[.int .u8 k,.string ⟨t.toArray⟩,.slice ka ks.length kc,.slice da ds.length dc,.int .i64 l],.pointer (some ⟨p,0,none⟩),.pointer (some ⟨H,0,none⟩),.pointer (some ⟨H+1,0,none⟩),.pointer (some ⟨H+1+1,0,none⟩),.pointer (some ⟨H+1+1+1,0,none⟩),.pointer (some ⟨H+1+1+1+1,0,none⟩),vF,vM,(vR 0),(vR 1),(vR 2),vV,vK,vN,vE,undef,undef,undef,undef,undef,undef,undef],[]⟩∧Cl 3 0 L∧(L.getD 10 false=false→G2 (S4 (H+1+1)) (Rc (H+1+1)) (H+1+1+1+1+1) E0 0 W1 (.slice none 0 0) (.agg #[.int .u8 k,.string ⟨t.toArray⟩,.slice ka ks.length kc,.slice da ds.length dc,.int .i64 l]) L vM vV vK vN vR X)∧(L.getD 10 false=true→Eg (S4 (H+1+1)) (Rc (H+1+1)) (H+1+1+1+1+1) 3 0 W1 (P22.triesE (Nd.mk k t ka kc ks da dc ds l).bare) L vF vE X)∧Mo 3 0 (H+1+1+1+1+1) L vF vE X) (by kernel_rfl) ?_ ?_ ?_
 ·exact⟨undef,undef,undef,undef,undef,undef,fun _=>undef,rfl,Cl.start 3 0,fun _=>⟨(qV _ W1).drew,by show _≤W1.heap.size;omega,fun h=>absurd h (by decide),fun i q hq h=>by
   match i,hq with
   |0,_=>exact absurd h (by decide)
   |1,_=>exact absurd h (by decide)
   |2,_=>exact absurd h (by decide)
   | n+3,hq=>simp[E0]at hq,fun h=>absurd h (by decide),fun h=>absurd h (by decide),fun h=>absurd h (by decide)⟩,fun h=>absurd h (by decide),fun h=>absurd h (by decide)⟩
 ·rintro L a' X i o ⟨vF,vM,vV,vK,vN,vE,vR,rfl,J,I,N,hA⟩ ho hi G
  match i,ho with
  |0,ho=>
   cases ho;refine Ak rfl rfl ?_;have D:L.getD 10 false=false:=J.not (n:=3) (d:=0) hi (.inl rfl);have hp:=I D;refine qS (K:=fun R Q=>R=⟨#[.agg #[.int .u8 k,.string ⟨t.toArray⟩,.slice ka ks.length kc,.slice da ds.length dc,.int .i64 l],.pointer (some ⟨p,0,none⟩),.pointer (some ⟨H,0,none⟩),.pointer (some ⟨H+1,0,none⟩),.pointer (some ⟨H+1+1,0,none⟩),.pointer (some ⟨H+1+1+1,0,none⟩),.pointer (some ⟨H+1+1+1+1,0,none⟩),vF,(.map (some X.heap.size)),(vR 0),(vR 1),(vR 2),vV,vK,vN,vE,undef,undef,undef,undef,undef,undef,undef],[]⟩∧Q=X.alloc (.map #[] 0)) (fun R Q he=>?_) (by simp[Oper.wp,go_sem,bM]);obtain⟨rfl,rfl⟩:=he;exact⟨vF,_,vV,vK,vN,vE,vR,rfl,J.set hi (fun i hi h=>by omega) (by omega) (by omega) (by omega) (by omega),fun _=>hp.make Fr J hi,fun h=>(Cs D (by decide) h).elim,hA.keep (Ae (by omega)) (Ae (by omega)) (fun _=>rfl) (Aw ((qV _ X).alloc (qJ _) _))⟩
  |1,ho=>
   cases ho;refine Ak rfl rfl ?_;have D:L.getD 10 false=false:=J.not (n:=3) (d:=0) hi (.inr (.inl ⟨0,by omega,.inl rfl⟩));have hp:=I D;have U:=enters_of Tryz.func88 (by kernel_rfl) rfl;refine Bt (f:=88) (args:=#[.pointer (some ⟨H+1+1,0,none⟩)]) (by simp[execOp,go_sem,U]) (F7 (H+1+1) X) ?_;rintro e2 Q ⟨c2,rfl,aM,q1,S⟩;have aT:=hp.size;exact⟨_,rfl,vF,vM,vV,vK,vN,vE,_,rfl,J.set hi (fun i hi h=>by omega) (by omega) (by omega) (by omega) (by omega),fun _=>hp.call (i:=0) Fr rfl hi S (U7 (H:=H) (by omega) q1),fun h=>(Cs D (by decide) h).elim,hA.keep (Ae (by omega)) (Ae (by omega)) (fun _=>rfl) (Aw S)⟩
  |2,ho=>
   cases ho;refine Ak rfl rfl ?_;have D:L.getD 10 false=false:=J.not (n:=3) (d:=0) hi (.inr (.inl ⟨0,by omega,.inr rfl⟩));have hp:=I D;have d0:=G ⟨0,.data⟩ (by simp) rfl;have d1:=G ⟨1,.data⟩ (by simp) rfl;obtain⟨bm,Q,rfl,r1,aB,r2,r3,r4⟩:=hp.put (i:=0) Fr Lc J rfl hi d0 d1;dsimp only at r1;refine qS (K:=fun R w3=>R=⟨#[.agg #[.int .u8 k,.string ⟨t.toArray⟩,.slice ka ks.length kc,.slice da ds.length dc,.int .i64 l],.pointer (some ⟨p,0,none⟩),.pointer (some ⟨H,0,none⟩),.pointer (some ⟨H+1,0,none⟩),.pointer (some ⟨H+1+1,0,none⟩),.pointer (some ⟨H+1+1+1,0,none⟩),.pointer (some ⟨H+1+1+1+1,0,none⟩),vF,(.map (some bm)),(vR 0),(vR 1),(vR 2),vV,vK,vN,vE,undef,undef,undef,undef,undef,undef,undef],[]⟩∧w3=Q) (fun R w3 he=>?_) (by simp[Oper.wp,go_sem,r1]);obtain⟨rfl,rfl⟩:=he;exact⟨vF,_,vV,vK,vN,vE,vR,rfl,J.set hi (fun i hi h=>by have e:i=0:=(by omega);subst e;exact⟨d0,d1⟩) (by omega) (by omega) (by omega) (by omega),fun _=>aB,fun h=>(Cs D (by decide) h).elim,hA.keep (Ae (by omega)) (Ae (by omega)) (fun _=>rfl) (Bw r4 r2)⟩
  |3,ho=>
   cases ho;refine Ak rfl rfl ?_;have D:L.getD 10 false=false:=J.not (n:=3) (d:=0) hi (.inr (.inl ⟨1,by omega,.inl rfl⟩));have hp:=I D;have U:=enters_of Tryz.func88 (by kernel_rfl) rfl;refine Bt (f:=88) (args:=#[.pointer (some ⟨H+1+1+1,0,none⟩)]) (by simp[execOp,go_sem,U]) (F7 (H+1+1+1) X) ?_;rintro e2 Q ⟨c2,rfl,aM,q1,S⟩;have aT:=hp.size;exact⟨_,rfl,vF,vM,vV,vK,vN,vE,_,rfl,J.set hi (fun i hi h=>by omega) (by omega) (by omega) (by omega) (by omega),fun _=>hp.call (i:=1) Fr rfl hi S (Uu (H:=H) (by omega) q1),fun h=>(Cs D (by decide) h).elim,hA.keep (Ae (by omega)) (Ae (by omega)) (fun _=>rfl) (Aw S)⟩
  |4,ho=>
   cases ho;refine Ak rfl rfl ?_;have D:L.getD 10 false=false:=J.not (n:=3) (d:=0) hi (.inr (.inl ⟨1,by omega,.inr rfl⟩));have hp:=I D;have d0:=G ⟨0,.data⟩ (by simp) rfl;have d1:=G ⟨3,.data⟩ (by simp) rfl;obtain⟨bm,Q,rfl,r1,aB,r2,r3,r4⟩:=hp.put (i:=1) Fr Lc J rfl hi d0 d1;dsimp only at r1;refine qS (K:=fun R w3=>R=⟨#[.agg #[.int .u8 k,.string ⟨t.toArray⟩,.slice ka ks.length kc,.slice da ds.length dc,.int .i64 l],.pointer (some ⟨p,0,none⟩),.pointer (some ⟨H,0,none⟩),.pointer (some ⟨H+1,0,none⟩),.pointer (some ⟨H+1+1,0,none⟩),.pointer (some ⟨H+1+1+1,0,none⟩),.pointer (some ⟨H+1+1+1+1,0,none⟩),vF,(.map (some bm)),(vR 0),(vR 1),(vR 2),vV,vK,vN,vE,undef,undef,undef,undef,undef,undef,undef],[]⟩∧w3=Q) (fun R w3 he=>?_) (by simp[Oper.wp,go_sem,r1]);obtain⟨rfl,rfl⟩:=he;exact⟨vF,_,vV,vK,vN,vE,vR,rfl,J.set hi (fun i hi h=>by have e:i=1:=(by omega);subst e;exact⟨d0,d1⟩) (by omega) (by omega) (by omega) (by omega),fun _=>aB,fun h=>(Cs D (by decide) h).elim,hA.keep (Ae (by omega)) (Ae (by omega)) (fun _=>rfl) (Bw r4 r2)⟩
  |5,ho=>
   cases ho;refine Ak rfl rfl ?_;have D:L.getD 10 false=false:=J.not (n:=3) (d:=0) hi (.inr (.inl ⟨2,by omega,.inl rfl⟩));have hp:=I D;have U:=enters_of Tryz.func88 (by kernel_rfl) rfl;refine Bt (f:=88) (args:=#[.pointer (some ⟨H+1+1+1+1,0,none⟩)]) (by simp[execOp,go_sem,U]) (F7 (H+1+1+1+1) X) ?_;rintro e2 Q ⟨c2,rfl,aM,q1,S⟩;have aT:=hp.size;exact⟨_,rfl,vF,vM,vV,vK,vN,vE,_,rfl,J.set hi (fun i hi h=>by omega) (by omega) (by omega) (by omega) (by omega),fun _=>hp.call (i:=2) Fr rfl hi S (Uo (H:=H) (by omega) q1),fun h=>(Cs D (by decide) h).elim,hA.keep (Ae (by omega)) (Ae (by omega)) (fun _=>rfl) (Aw S)⟩
  |6,ho=>
   cases ho;refine Ak rfl rfl ?_;have D:L.getD 10 false=false:=J.not (n:=3) (d:=0) hi (.inr (.inl ⟨2,by omega,.inr rfl⟩));have hp:=I D;have d0:=G ⟨0,.data⟩ (by simp) rfl;have d1:=G ⟨5,.data⟩ (by simp) rfl;obtain⟨bm,Q,rfl,r1,aB,r2,r3,r4⟩:=hp.put (i:=2) Fr Lc J rfl hi d0 d1;dsimp only at r1;refine qS (K:=fun R w3=>R=⟨#[.agg #[.int .u8 k,.string ⟨t.toArray⟩,.slice ka ks.length kc,.slice da ds.length dc,.int .i64 l],.pointer (some ⟨p,0,none⟩),.pointer (some ⟨H,0,none⟩),.pointer (some ⟨H+1,0,none⟩),.pointer (some ⟨H+1+1,0,none⟩),.pointer (some ⟨H+1+1+1,0,none⟩),.pointer (some ⟨H+1+1+1+1,0,none⟩),vF,(.map (some bm)),(vR 0),(vR 1),(vR 2),vV,vK,vN,vE,undef,undef,undef,undef,undef,undef,undef],[]⟩∧w3=Q) (fun R w3 he=>?_) (by simp[Oper.wp,go_sem,r1]);obtain⟨rfl,rfl⟩:=he;exact⟨vF,_,vV,vK,vN,vE,vR,rfl,J.set hi (fun i hi h=>by have e:i=2:=(by omega);subst e;exact⟨d0,d1⟩) (by omega) (by omega) (by omega) (by omega),fun _=>aB,fun h=>(Cs D (by decide) h).elim,hA.keep (Ae (by omega)) (Ae (by omega)) (fun _=>rfl) (Bw r4 r2)⟩
  |7,ho=>
   cases ho;refine Ak rfl rfl ?_;have D:L.getD 10 false=false:=J.not (n:=3) (d:=0) hi (.inr (.inr (.inl rfl)));have hp:=I D;refine qS (K:=fun R Q=>R=⟨#[.agg #[.int .u8 k,.string ⟨t.toArray⟩,.slice ka ks.length kc,.slice da ds.length dc,.int .i64 l],.pointer (some ⟨p,0,none⟩),.pointer (some ⟨H,0,none⟩),.pointer (some ⟨H+1,0,none⟩),.pointer (some ⟨H+1+1,0,none⟩),.pointer (some ⟨H+1+1+1,0,none⟩),.pointer (some ⟨H+1+1+1+1,0,none⟩),vF,vM,(vR 0),(vR 1),(vR 2),vM,vK,vN,vE,undef,undef,undef,undef,undef,undef,undef],[]⟩∧Q=X) (fun R Q he=>?_) (by simp[Oper.wp,go_sem]);obtain⟨rfl,rfl⟩:=he
   exact⟨vF,vM,_,vK,vN,vE,vR,rfl,J.set hi (fun i hi h=>by omega) (fun _=>⟨G ⟨0,.data⟩ (by simp) rfl,fun i hi=>by
    match i,hi with
    |0,_=>exact⟨G ⟨1,.data⟩ (by simp) rfl,G ⟨2,.data⟩ (by simp) rfl⟩
    |1,_=>exact⟨G ⟨3,.data⟩ (by simp) rfl,G ⟨4,.data⟩ (by simp) rfl⟩
    | 2,_=>exact⟨G ⟨5,.data⟩ (by simp) rfl,G ⟨6,.data⟩ (by simp) rfl⟩⟩) (by omega) (by omega) (by omega),fun _=>hp.move Fr J hi,fun h=>(Cs D (by decide) h).elim,hA.keep (Ae (by omega)) (Ae (by omega)) (fun _=>rfl) (fun g x y t _ hg=>hg)⟩
  |8,ho=>
   cases ho;refine Ak rfl rfl ?_;have D:L.getD 10 false=false:=J.not (n:=3) (d:=0) hi (.inr (.inr (.inr (.inl rfl))));have hp:=I D;have d7:=G ⟨7,.data⟩ (by simp) rfl;have bH:=hp.mv d7;obtain⟨bm,rfl,_,_⟩:=hp.map (J.mv d7).1;subst bH;have U:=enters_of Tryz.func57 (by kernel_rfl) rfl;refine Bt (f:=57) (args:=#[.map (some bm),.slice none 0 0]) (by simp[execOp,go_sem,U]) (Gt bm none 0 0 X) ?_;rintro e2 Q ⟨c2,rfl,aM,q1,q2,S⟩;exact⟨_,rfl,vF,_,_,_,vN,vE,vR,rfl,J.set hi (fun i hi h=>by omega) (by omega) (fun _=>d7) (by omega) (by omega),fun _=>hp.keys Fr S (by omega) q1 q2,fun h=>(Cs D (by decide) h).elim,hA.keep (Ae (by omega)) (Ae (by omega)) (fun _=>rfl) (Aw S)⟩
  |9,ho=>
   cases ho;refine Ak rfl rfl ?_;have D:L.getD 10 false=false:=J.not (n:=3) (d:=0) hi (.inr (.inr (.inr (.inr rfl))));have hp:=I D;have y0:=Ad ((hp.below.block H (by omega)).trans (Aa bS));refine qS (K:=fun R Q=>R=⟨#[.agg #[.int .u8 k,.string ⟨t.toArray⟩,.slice ka ks.length kc,.slice da ds.length dc,.int .i64 l],.pointer (some ⟨p,0,none⟩),.pointer (some ⟨H,0,none⟩),.pointer (some ⟨H+1,0,none⟩),.pointer (some ⟨H+1+1,0,none⟩),.pointer (some ⟨H+1+1+1,0,none⟩),.pointer (some ⟨H+1+1+1+1,0,none⟩),vF,vM,(vR 0),(vR 1),(vR 2),vV,vK,(.agg #[.int .u8 k,.string ⟨t.toArray⟩,.slice ka ks.length kc,.slice da ds.length dc,.int .i64 l]),vE,undef,undef,undef,undef,undef,undef,undef],[]⟩∧Q=X) (fun R Q he=>?_) (by simp[Oper.wp,go_sem,y0]);obtain⟨rfl,rfl⟩:=he;exact⟨vF,vM,vV,vK,_,vE,vR,rfl,J.set hi (fun i hi h=>by omega) (by omega) (by omega) (by omega) (by omega),fun _=>hp.load Fr,fun h=>(Cs D (by decide) h).elim,hA.keep (Ae (by omega)) (Ae (by omega)) (fun _=>rfl) (fun g x y t _ hg=>hg)⟩
  |10,ho=>
   cases ho;refine Ak rfl rfl ?_;have D:L.getD 10 false=false:=(A4 hi).2;have hp:=I D;have d8:=G ⟨8,.data⟩ (by simp) rfl;have d9:=G ⟨9,.data⟩ (by simp) rfl;obtain⟨bm,c,rfl,rfl,aY,bL,aK,q1,q2,bE⟩:=hp.ready Fr J (Gr H) d8 d9;have U:=enters_of Tryz.func92 (by kernel_rfl) rfl;refine Bt (f:=92) (args:=#[.agg #[.int .u8 k,.string ⟨t.toArray⟩,.slice ka ks.length kc,.slice da ds.length dc,.int .i64 l],.pointer (some ⟨c,0,none⟩),.pointer (some ⟨c+1,0,none⟩)]) (by simp[execOp,go_sem,U]) (Aa aR bm c X hp.below hp.size aY bL aK q1 q2 bE) ?_;rintro e3 w3 aZ;have aX:=hp.size;obtain⟨v,rfl,bN,bB⟩:=Eg.read (n:=3) (d:=0) (Pe (H+1+1)) hp.below (by omega) hp.size (Gr H) (fun g hg=>hg) aZ J hA hi (fun g h1 h2=>by omega);exact⟨v,rfl,vF,vM,vV,_,_,v,vR,rfl,J.set hi (fun i hi h=>by omega) (by omega) (by omega) (fun _=>⟨d8,d9⟩) (by omega),fun h=>by(have h2:=(E3 hi).2 (.inl rfl) ;rw[h2]at h;cases h),fun _=>bN,bB⟩
  |11,ho=>
   cases ho;refine Ak rfl rfl ?_;refine qS (K:=fun R Q=>R=⟨#[.agg #[.int .u8 k,.string ⟨t.toArray⟩,.slice ka ks.length kc,.slice da ds.length dc,.int .i64 l],.pointer (some ⟨p,0,none⟩),.pointer (some ⟨H,0,none⟩),.pointer (some ⟨H+1,0,none⟩),.pointer (some ⟨H+1+1,0,none⟩),.pointer (some ⟨H+1+1+1,0,none⟩),.pointer (some ⟨H+1+1+1+1,0,none⟩),(.pointer (some ⟨X.heap.size,0,none⟩)),vM,(vR 0),(vR 1),(vR 2),vV,vK,vN,vE,undef,undef,undef,undef,undef,undef,undef],[]⟩∧Q=X.alloc (.cells #[.int .i64 0,.int .i64 0] 29)) (fun R Q he=>?_) (by simp[Oper.wp,go_sem]);obtain⟨rfl,rfl⟩:=he
   have aX:H+1+1+1+1+1≤X.heap.size:=by
    cases hq:L.getD 10 false with
    |false=>exact(I hq).size
    |true=>exact(N hq).2.1
   exact⟨_,vM,vV,vK,vN,vE,vR,rfl,J.set hi (fun i hi h=>by omega) (by omega) (by omega) (by omega) (by omega),fun h=>(I (by rwa [Ae (by omega)]at h)).grow Fr ((qV _ X).alloc (qJ _) _) (Ae (by omega)) (fun i hi=>⟨Ae (by simp[E0]at hi;omega),Ae (by simp[E0]at hi;omega)⟩) (Ae (by decide)) (Ae (by decide)) (Ae (by decide)),fun h=>(N (by rwa [Ae (by omega)]at h)).alloc (Pe _) hi _,Mo.made J aX hi vE _ _⟩
  |12,ho=>
   cases ho;refine Ak rfl rfl ?_;have aQ:=G ⟨10,.data⟩ (by simp) rfl;have aW:=G ⟨11,.data⟩ (by simp) rfl;obtain⟨fb,x,y,ec,el,rfl,rfl,e3,aB,bJ⟩:=(N aQ).store (Pe _) hA hi aW (Gr H) (by omega);have z0:=Af e3;refine qS (K:=fun R Q=>R=⟨#[.agg #[.int .u8 k,.string ⟨t.toArray⟩,.slice ka ks.length kc,.slice da ds.length dc,.int .i64 l],.pointer (some ⟨p,0,none⟩),.pointer (some ⟨H,0,none⟩),.pointer (some ⟨H+1,0,none⟩),.pointer (some ⟨H+1+1,0,none⟩),.pointer (some ⟨H+1+1+1,0,none⟩),.pointer (some ⟨H+1+1+1+1,0,none⟩),(.pointer (some ⟨fb,0,none⟩)),vM,(vR 0),(vR 1),(vR 2),vV,vK,vN,(.agg #[.int .i64 ec,.int .i64 el]),undef,undef,undef,undef,undef,undef,undef],[]⟩∧Q=(X.setCell ⟨fb,0,none⟩ (.int .i64 ec)).setCell ⟨fb,1,none⟩ (.int .i64 el)) (fun R Q he=>?_) (by simp[Oper.wp,go_sem,z0]);obtain⟨rfl,rfl⟩:=he;exact⟨_,vM,vV,vK,vN,_,vR,rfl,J.set hi (fun i hi h=>by omega) (by omega) (by omega) (by omega) (fun _=>⟨aQ,aW⟩),fun h=>by(rw[Ae (by omega)]at h;rw[show L.getD 10 false=true from aQ]at h;cases h),fun _=>aB,bJ⟩
  |n+13,ho=>exact absurd ho (by simp)
 ·rintro L a' V ⟨vF,vM,vV,vK,vN,vE,vR,rfl,J,I,N,hA⟩ aJ
  have Y:∀i,i<13→L.getD i false=true:=fun i hi=>by
   have:=aJ i;have hz:=J.size;have bF:i<L.size:=by omega
   simp only[Array.getD,bF,dif_pos]at this ⊢;exact this
  obtain⟨fb,e,l',s,rfl,bV,e3,hk,hr,hI⟩:=(N (Y 10 (by omega))).end hA (Y 11 (by omega)) (Y 12 (by omega));have Z:∀g,(Rc (H+1+1)) g→H+1+1≤g:=by rintro g (rfl|rfl|rfl)<;>omega
  have nP:=(hk.same p (by omega) (fun q=>by have:=Z _ q;omega)).trans (Aa bU);have nT:=(hk.same tb (by omega) (fun q=>by have:=Z _ q;omega)).trans (Aa bP);have nF:=(hk.same (H+1) (by omega) (fun q=>by have:=Z _ q;omega)).trans (Aa bC);have aS:w.grownBy V (some tb):=⟨hk.os.trans (Aa aD).os,hk.tape.trans (Aa aD).tape,hk.output.trans (Aa aD).output,qK (Aa aD).size hk.size,fun g hg _=>(hk.same g (by omega) (fun q=>by have:=Z _ q;omega)).trans ((Aa aD).block g (by omega))⟩;have u0:=Aq nP;have u1:=Aq hI.b0;have u2:=Aq hI.b1;have u3:=Aq hI.b2;have u4:=D9 nT;have e5:=(A6 (W:=V) (g:=tb) (g':=fb) (by omega) (.int .i64 s.most) (.int .i64 s.first) (.int .i64 s.factor)).trans e3;have f5:=(A6 (W:=V) (g:=tb) (g':=H+1) (by omega) (.int .i64 s.most) (.int .i64 s.first) (.int .i64 s.factor)).trans nF;have bI:=Ab (P4 nT (.int .i64 s.most) (.int .i64 s.first) (.int .i64 s.factor));have bA:=Ab (Ms aS (.int .i64 s.most) (.int .i64 s.first) (.int .i64 s.factor));have z5:=Af e5;have z6:=Af f5;have bR:=Ab f5;have HR:=Ab hr;clear I N hA aJ Y hI hk Z nP nT nF aS e3 e5 f5 hr;go_upto_region 3 with fail
  go_wp2;refine qW (Av rfl _ _ _ (H+1) _ rfl (Ai (A3 (Aa bR) _ _))) rfl ⟨e,l',rfl,B4 (Aa bA) (by omega) _ _,s,(Ar (by omega) _ _).trans (Aa bI),Aa HR⟩
end Go.Proofs.YtnjokdbblmlhhaaGreatDoor
namespace Go.Proofs.YtnjokdbblmlhhaaGreatDoor
set_option maxHeartbeats 16000000
set_option maxRecDepth 100000
open Go.RowKit
theorem Ey{M:Nat→Prop}{D:Nat}{w w':World}(h:w.grownBy w' (some D))(G:M D):Dw M w w':=⟨h.size,fun g hl hn=>h.block g hl (fun e=>hn (by injection e with e;rw[e];exact G)),h.os,h.tape,h.output⟩
theorem P9{σ:Type}(Inv:σ→(Nat→Prop)→World→Prop)(M:Nat→Prop)(B D c:Nat)(J:List (List UInt8)→σ→σ)(W:World)(hB:B≤c)(hc:W.heap[c]?=some (.cells #[.pointer (some ⟨D,0,none⟩)] 141))(X:M D)
  (I:∀s A W',Inv s A W'→∃v0,W'.heap[D]?=some (.cells #[v0] 23))
  (G:∀s A W' W'' a sc xs,Inv s A W'→W'.grownBy W'' (some D)→W''.heap[D]?=some (.cells #[.slice a xs.length sc] 23)→Strs W'' W'.heap.size (.slice a xs.length sc) xs→Inv (J xs s) (fun g=>A g∧g<W'.heap.size) W'') :
  G1 Inv M B (.func (.func 124) #[] #[.pointer (some ⟨c,0,none⟩)]) (fun d s=>(P22.namesE d).map fun n=>J n s) W:=by
 refine⟨_,_,fun g=>g=c,rfl,enters_of Tryz.func124 (by kernel_rfl) rfl,?_,fun W' hz Y nd s A N R Q hi=>?_⟩
 ·rintro g rfl;exact⟨hB,_,_,hc⟩
 obtain⟨k,t,ka,kc,ks,da,dc,ds,l⟩:=nd;rw[Nd.val_eq];obtain⟨v0,hb⟩:=I s A W' hi;refine(Nb D c k t ka kc ks da dc ds l v0 W' N R (fun h=>Q _ h X) ((Y c rfl).trans hc) hb).mono ?_;rintro e Z ⟨ec,el,rfl,S,a,sc,xs,h1,h2,h3⟩;refine⟨Ey S X,?_⟩;have U:=G s A W' Z a sc xs hi S h1 h2;rcases h3 with⟨hq,rfl,rfl⟩|⟨hq,hne⟩
 ·dsimp only;rw[hq];exact⟨rfl,U⟩
 ·dsimp only;rw[hq];exact⟨rfl,hne,_,U⟩
theorem Q3{σ:Type}(Inv:σ→(Nat→Prop)→World→Prop)(M:Nat→Prop)(B D c:Nat)(J:P22.Try→σ→σ)(W:World)(hB:B≤c)(hc:W.heap[c]?=some (.cells #[.pointer (some ⟨D,0,none⟩)] 143))(Z:M D)
  (I:∀s A W',Inv s A W'→∃z0 Q S,W'.heap[D]?=some (.cells #[z0,Q,S] 84))
  (G:∀s A W' W'' (x:P22.Try),Inv s A W'→W'.grownBy W'' (some D)→W''.heap[D]?=some (.cells #[.int .i64 x.most,.int .i64 x.first,.int .i64 x.factor] 84)→Inv (J x s) (fun g=>A g∧g<W'.heap.size) W'') :
  G1 Inv M B (.func (.func 126) #[] #[.pointer (some ⟨c,0,none⟩)]) (fun d s=>(P22.triesE d).map fun n=>J n s) W:=by
 refine⟨_,_,fun g=>g=c,rfl,enters_of Tryz.func126 (by kernel_rfl) rfl,?_,fun W' hz hC nd s A N U R hi=>?_⟩
 ·rintro g rfl;exact⟨hB,_,_,hc⟩
 obtain⟨k,t,ka,kc,ks,da,dc,ds,l⟩:=nd;rw[Nd.val_eq];obtain⟨z0,Q,S,hb⟩:=I s A W' hi;refine(Oz D c k t ka kc ks da dc ds l z0 Q S W' N U (fun h=>R _ h Z) ((hC c rfl).trans hc) hb).mono ?_;rintro e w1 ⟨ec,el,rfl,X,x,h1,h3⟩;refine⟨Ey X Z,?_⟩;have Y:=G s A W' w1 x hi X h1;rcases h3 with⟨hq,rfl,rfl⟩|⟨hq,hne⟩
 ·dsimp only;rw[hq];exact⟨rfl,Y⟩
 ·dsimp only;rw[hq];exact⟨rfl,hne,_,Y⟩
theorem Sg{σ:Type}(Inv:σ→(Nat→Prop)→World→Prop)(M:Nat→Prop)(B G c:Nat)(Q:P20.T→σ→σ)(W:World)(hB:B≤c)(hc:W.heap[c]?=some (.cells #[.pointer (some ⟨G,0,none⟩)] 146))(hM:M G)
  (J:∀s A W',Inv s A W'→∃z0 z1 z2 z3 z4,W'.heap[G]?=some (.cells #[z0,z1,z2,z3,z4] 26))
  (I:∀s A W' W'' (k:Nat) (t:List UInt8) (ka:Option Addr) (kc:Nat) (ks:List (List UInt8)) (da:Option Addr) (dc:Nat) (ds:List Nd) (l:Int),Inv s A W'→W'.grownBy W'' (some G)→(Nd.mk k t ka kc ks da dc ds l).In W''→(∀g,(Nd.mk k t ka kc ks da dc ds l).blk g→W'.heap.size≤g)→W''.heap[G]?=some (.cells #[.int .u8 k,.string ⟨t.toArray⟩,.slice ka ks.length kc,.slice da ds.length dc,.int .i64 l] 26)→Inv (Q (Nd.mk k t ka kc ks da dc ds l).bare s) (fun g=>A g∧g<W'.heap.size) W'') :
  G1 Inv M B (.func (.func 128) #[] #[.pointer (some ⟨c,0,none⟩)]) (fun d s=>(P22.noteE d).map fun n=>Q n s) W:=by
 refine⟨_,_,fun g=>g=c,rfl,enters_of Tryz.func128 (by kernel_rfl) rfl,?_,fun W' hz hC nd s A X aD aC hi=>?_⟩
 ·rintro g rfl;exact⟨hB,_,_,hc⟩
 obtain⟨k,t,ka,kc,ks,da,dc,ds,l⟩:=nd;rw[Nd.val_eq];obtain⟨z0,z1,z2,z3,z4,hb⟩:=J s A W' hi;refine(Qr k t ka kc ks da dc ds l c G z0 z1 z2 z3 z4 W' X aD (fun h=>aC _ h hM) ((hC c rfl).trans hc) hb).mono ?_;rintro e w1 ⟨hg,⟨k',t',aE,Z,ks',aA,aB,ds',l',Y,N,R,D⟩,S⟩;refine⟨Ey hg hM,?_⟩;have U:=I s A W' w1 k' t' aE Z ks' aA aB ds' l' hi hg N R D;rw[Y]at U;cases hq:P22.noteE (Nd.mk k t ka kc ks da dc ds l).bare with
 |ok x=>
  rw[hq]at S
  have hx:(Nd.mk k t ka kc ks da dc ds l).bare.cut 18=x:=by
   unfold P22.noteE at hq;split at hq
   ·cases hq
   ·rename_i hch
    split at hq
    ·cases hq
    ·cases hq;exact P20.T.check_cut _ 1 18 (by simpa using hch) (by omega)
  rw[hx]at U;dsimp only;rw[hq];exact⟨S,U⟩
 |error x=>
  rw[hq]at S;dsimp only;rw[hq];exact⟨S,P22.noteE_bad hq,_,U⟩
end Go.Proofs.YtnjokdbblmlhhaaGreatDoor
namespace Go.Proofs.YtnjokdbblmlhhaaGreatDoor
set_option maxHeartbeats 16000000
set_option maxRecDepth 100000
open Go.RowKit
def Li(b:Nat)(xs:List (List UInt8))(A:Nat→Prop)(W:World):Prop:=∃a c,W.heap[b+1+1+1]?=some (.cells #[.slice a xs.length c] 23)∧Strs W (b+1+1+1+1+1+1+1) (.slice a xs.length c) xs∧∀g,(Value.slice a xs.length c).ownBlock=some g→¬A g
theorem Li.stay{b:Nat}{xs:List (List UInt8)}{A A':Nat→Prop}{W W':World}(h:Li b xs A W)(hz:W.heap.size≤W'.heap.size)(hb:W'.heap[b+1+1+1]?=W.heap[b+1+1+1]?)(hs:∀g,b+1+1+1+1+1+1+1≤g→g<W.heap.size→¬A g→W'.heap[g]?=W.heap[g]?)(G:∀g,A' g→A g∨W.heap.size≤g):Li b xs A' W':=by
 obtain⟨a,c,h1,h2,h3⟩:=h;refine⟨a,c,hb.trans h1,⟨Ds h2.own (fun g D=>hs g (Ao h2.own g D).1 (Ao h2.own g D).2 (h3 g D))⟩,fun g D hq=>?_⟩;rcases G g hq with h|h
 ·exact h3 g D h
 ·have:=(Ao h2.own g D).2;omega
def O3(b:Nat)(x:P20.T)(A:Nat→Prop)(W:World):Prop:=∃(k:Nat) (t:List UInt8) (ka:Option Addr) (kc:Nat) (ks:List (List UInt8)) (da:Option Addr) (dc:Nat) (ds:List Nd) (l:Int),(Nd.mk k t ka kc ks da dc ds l).bare=x∧(Nd.mk k t ka kc ks da dc ds l).In W∧(∀g,(Nd.mk k t ka kc ks da dc ds l).blk g→b+1+1+1+1+1+1+1≤g∧¬A g)∧W.heap[b+1+1+1+1+1+1]?=some (.cells #[.int .u8 k,.string ⟨t.toArray⟩,.slice ka ks.length kc,.slice da ds.length dc,.int .i64 l] 26)
theorem O3.stay{b:Nat}{x:P20.T}{A A':Nat→Prop}{W W':World}(h:O3 b x A W)(hz:W.heap.size≤W'.heap.size)(hb:W'.heap[b+1+1+1+1+1+1]?=W.heap[b+1+1+1+1+1+1]?)(hs:∀g,b+1+1+1+1+1+1+1≤g→g<W.heap.size→¬A g→W'.heap[g]?=W.heap[g]?)(G:∀g,A' g→A g∨W.heap.size≤g):O3 b x A' W':=by
 obtain⟨k,t,ka,kc,ks,da,dc,ds,l,h1,h2,h3,h4⟩:=h;refine⟨k,t,ka,kc,ks,da,dc,ds,l,h1,h2.keep (fun g D=>hs g (h3 g D).1 (h2.lt D) (h3 g D).2),fun g D=>⟨(h3 g D).1,fun hq=>?_⟩,hb.trans h4⟩;rcases G g hq with h|h
 ·exact(h3 g D).2 h
 ·have:=h2.lt D;omega
structure Qa (b:Nat) (s:P22.Step) (A:Nat→Prop) (W:World):Prop where
 b0:W.heap[b]?=some (.cells (Fv s.name) 9)
 b1:W.heap[b+1]?=some (.cells (Fv s.action) 9)
 b2:W.heap[b+1+1]?=some (.cells (Fv s.undo) 9)
 b3:Li b s.after A W
 b4:W.heap[b+1+1+1+1]?=some (.cells #[.int .i64 s.tries.most,.int .i64 s.tries.first,.int .i64 s.tries.factor] 84)
 b5:W.heap[b+1+1+1+1+1]?=some (.cells (Gy s.limit) 3)
 b6:O3 b s.note A W
 n:∀g,b≤g→g<b+1+1+1+1+1+1+1→¬A g
 lt:b+1+1+1+1+1+1+1≤W.heap.size
def Jo(b:Nat)(g:Nat):Prop:=b≤g∧g<b+1+1+1+1+1+1+1
theorem O7(b:Nat):Gf (Qa b) where
 stays:=by
  rintro s A W W' h hz hs;have hl:=h.lt;exact⟨(hs _ (by omega) (h.n _ (by omega) (by omega))).trans h.b0,(hs _ (by omega) (h.n _ (by omega) (by omega))).trans h.b1,(hs _ (by omega) (h.n _ (by omega) (by omega))).trans h.b2,h.b3.stay hz (hs _ (by omega) (h.n _ (by omega) (by omega))) (fun g _ h2 h3=>hs g h2 h3) (fun g D=>D),(hs _ (by omega) (h.n _ (by omega) (by omega))).trans h.b4,(hs _ (by omega) (h.n _ (by omega) (by omega))).trans h.b5,h.b6.stay hz (hs _ (by omega) (h.n _ (by omega) (by omega))) (fun g _ h2 h3=>hs g h2 h3) (fun g D=>D),fun g h1 h2 h3=>h3.elim (h.n g h1 h2) (fun q=>by omega),qK hl hz⟩
 mono:=fun s A A' W h D=>⟨h.b0,h.b1,h.b2,h.b3.stay (qJ _) rfl (fun _ _ _ _=>rfl) (fun g G=>.inl (D g G)),h.b4,h.b5,h.b6.stay (qJ _) rfl (fun _ _ _ _=>rfl) (fun g G=>.inl (D g G)),fun g h1 h2 h3=>h.n g h1 h2 (D g h3),h.lt⟩
theorem N7(b:Nat):∀g,Jo b g→g<b+1+1+1+1+1+1+1:=fun g h=>h.2
theorem Qb{W:World}{B B':Nat}{v:Value}{n:Nat}{xs:List Value}(h:W.ownsRow B 9 1 v n xs)(hB:B'≤B):W.ownsRow B' 9 1 v n xs:=by
 obtain⟨h1,h2|⟨g,cap,D,G,I,J⟩⟩:=h
 ·exact⟨h1,.inl h2⟩
 ·exact⟨h1,.inr ⟨g,cap,D,G,qK hB I,J⟩⟩
theorem U6{b c:Nat}{W:World}(hB:b+1+1+1+1+1+1+1≤c)(hc:W.heap[c]?=some (.cells #[.pointer (some ⟨b,0,none⟩)] 94))(G:W.heap[c+1]?=some (.cells #[.int .i64 64] 3)):G1 (Qa b) (Jo b) (b+1+1+1+1+1+1+1) (.func (.func 93) #[] #[.pointer (some ⟨c,0,none⟩),.pointer (some ⟨c+1,0,none⟩)]) (fun(d:P20.T) (s:P22.Step)=>(P22.textE 64 d).map fun x=>{ s with name:=x }) W:=by
 refine F5 (σ:=P22.Step) _ _ _ (b) c 64 (fun(x:List UInt8) (s:P22.Step)=>{ s with name:=x }) W hB hc G (by unfold Jo;omega) (fun s A W' h=>?_) ?_
 ·exact⟨_,h.b0⟩
 ·intro s A W' W'' x h D hn;have hl:=h.lt;exact⟨hn,((D.block _ (by omega) (by simp;try omega)).trans h.b1),((D.block _ (by omega) (by simp;try omega)).trans h.b2),(h.b3.stay D.size (D.block _ (by omega) (by simp;try omega)) (fun g h1 h2 _=>D.block g h2 (by simp;omega)) (fun g I=>.inl I.1)),((D.block _ (by omega) (by simp;try omega)).trans h.b4),((D.block _ (by omega) (by simp;try omega)).trans h.b5),(h.b6.stay D.size (D.block _ (by omega) (by simp;try omega)) (fun g h1 h2 _=>D.block g h2 (by simp;omega)) (fun g I=>.inl I.1)),fun g h1 h2 h3=>h.n g h1 h2 h3.1,qK hl D.size⟩
theorem Um{b c:Nat}{W:World}(hB:b+1+1+1+1+1+1+1≤c)(hc:W.heap[c]?=some (.cells #[.pointer (some ⟨b+1,0,none⟩)] 94))(G:W.heap[c+1]?=some (.cells #[.int .i64 64] 3)):G1 (Qa b) (Jo b) (b+1+1+1+1+1+1+1) (.func (.func 93) #[] #[.pointer (some ⟨c,0,none⟩),.pointer (some ⟨c+1,0,none⟩)]) (fun(d:P20.T) (s:P22.Step)=>(P22.textE 64 d).map fun x=>{ s with action:=x }) W:=by
 refine F5 (σ:=P22.Step) _ _ _ (b+1) c 64 (fun(x:List UInt8) (s:P22.Step)=>{ s with action:=x }) W hB hc G (by unfold Jo;omega) (fun s A W' h=>?_) ?_
 ·exact⟨_,h.b1⟩
 ·intro s A W' W'' x h D hn;have hl:=h.lt;exact⟨((D.block _ (by omega) (by simp;try omega)).trans h.b0),hn,((D.block _ (by omega) (by simp;try omega)).trans h.b2),(h.b3.stay D.size (D.block _ (by omega) (by simp;try omega)) (fun g h1 h2 _=>D.block g h2 (by simp;omega)) (fun g I=>.inl I.1)),((D.block _ (by omega) (by simp;try omega)).trans h.b4),((D.block _ (by omega) (by simp;try omega)).trans h.b5),(h.b6.stay D.size (D.block _ (by omega) (by simp;try omega)) (fun g h1 h2 _=>D.block g h2 (by simp;omega)) (fun g I=>.inl I.1)),fun g h1 h2 h3=>h.n g h1 h2 h3.1,qK hl D.size⟩
theorem U3{b c:Nat}{W:World}(hB:b+1+1+1+1+1+1+1≤c)(hc:W.heap[c]?=some (.cells #[.pointer (some ⟨b+1+1,0,none⟩)] 94))(G:W.heap[c+1]?=some (.cells #[.int .i64 64] 3)):G1 (Qa b) (Jo b) (b+1+1+1+1+1+1+1) (.func (.func 93) #[] #[.pointer (some ⟨c,0,none⟩),.pointer (some ⟨c+1,0,none⟩)]) (fun(d:P20.T) (s:P22.Step)=>(P22.textE 64 d).map fun x=>{ s with undo:=x }) W:=by
 refine F5 (σ:=P22.Step) _ _ _ (b+1+1) c 64 (fun(x:List UInt8) (s:P22.Step)=>{ s with undo:=x }) W hB hc G (by unfold Jo;omega) (fun s A W' h=>?_) ?_
 ·exact⟨_,h.b2⟩
 ·intro s A W' W'' x h D hn;have hl:=h.lt;exact⟨((D.block _ (by omega) (by simp;try omega)).trans h.b0),((D.block _ (by omega) (by simp;try omega)).trans h.b1),hn,(h.b3.stay D.size (D.block _ (by omega) (by simp;try omega)) (fun g h1 h2 _=>D.block g h2 (by simp;omega)) (fun g I=>.inl I.1)),((D.block _ (by omega) (by simp;try omega)).trans h.b4),((D.block _ (by omega) (by simp;try omega)).trans h.b5),(h.b6.stay D.size (D.block _ (by omega) (by simp;try omega)) (fun g h1 h2 _=>D.block g h2 (by simp;omega)) (fun g I=>.inl I.1)),fun g h1 h2 h3=>h.n g h1 h2 h3.1,qK hl D.size⟩
theorem U8{b c:Nat}{W:World}(hB:b+1+1+1+1+1+1+1≤c)(hc:W.heap[c]?=some (.cells #[.pointer (some ⟨b+1+1+1,0,none⟩)] 141)):G1 (Qa b) (Jo b) (b+1+1+1+1+1+1+1) (.func (.func 124) #[] #[.pointer (some ⟨c,0,none⟩)]) (fun(d:P20.T) (s:P22.Step)=>(P22.namesE d).map fun x=>{ s with after:=x }) W:=by
 refine P9 (σ:=P22.Step) _ _ _ (b+1+1+1) c (fun(x:List (List UInt8)) (s:P22.Step)=>{ s with after:=x }) W hB hc (by unfold Jo;omega) (fun s A W' h=>?_) ?_
 ·obtain⟨a,sc,h1,_⟩:=h.b3;exact⟨_,h1⟩
 ·intro s A W' W'' a sc xs h D hn G;have hl:=h.lt;exact⟨((D.block _ (by omega) (by simp;try omega)).trans h.b0),((D.block _ (by omega) (by simp;try omega)).trans h.b1),((D.block _ (by omega) (by simp;try omega)).trans h.b2),⟨a,sc,hn,⟨Qb G.own (by omega)⟩,fun g h1 h2=>by have:=(Ao G.own g h1).1;omega⟩,((D.block _ (by omega) (by simp;try omega)).trans h.b4),((D.block _ (by omega) (by simp;try omega)).trans h.b5),(h.b6.stay D.size (D.block _ (by omega) (by simp;try omega)) (fun g h1 h2 _=>D.block g h2 (by simp;omega)) (fun g I=>.inl I.1)),fun g h1 h2 h3=>h.n g h1 h2 h3.1,qK hl D.size⟩
theorem Uv{b c:Nat}{W:World}(hB:b+1+1+1+1+1+1+1≤c)(hc:W.heap[c]?=some (.cells #[.pointer (some ⟨b+1+1+1+1,0,none⟩)] 143)):G1 (Qa b) (Jo b) (b+1+1+1+1+1+1+1) (.func (.func 126) #[] #[.pointer (some ⟨c,0,none⟩)]) (fun(d:P20.T) (s:P22.Step)=>(P22.triesE d).map fun x=>{ s with tries:=x }) W:=by
 refine Q3 (σ:=P22.Step) _ _ _ (b+1+1+1+1) c (fun(x:P22.Try) (s:P22.Step)=>{ s with tries:=x }) W hB hc (by unfold Jo;omega) (fun s A W' h=>?_) ?_
 ·exact⟨_,_,_,h.b4⟩
 ·intro s A W' W'' x h D hn;have hl:=h.lt;exact⟨((D.block _ (by omega) (by simp;try omega)).trans h.b0),((D.block _ (by omega) (by simp;try omega)).trans h.b1),((D.block _ (by omega) (by simp;try omega)).trans h.b2),(h.b3.stay D.size (D.block _ (by omega) (by simp;try omega)) (fun g h1 h2 _=>D.block g h2 (by simp;omega)) (fun g G=>.inl G.1)),hn,((D.block _ (by omega) (by simp;try omega)).trans h.b5),(h.b6.stay D.size (D.block _ (by omega) (by simp;try omega)) (fun g h1 h2 _=>D.block g h2 (by simp;omega)) (fun g G=>.inl G.1)),fun g h1 h2 h3=>h.n g h1 h2 h3.1,qK hl D.size⟩
theorem Uy{b c:Nat}{W:World}(hB:b+1+1+1+1+1+1+1≤c)(hc:W.heap[c]?=some (.cells #[.pointer (some ⟨b+1+1+1+1+1,0,none⟩)] 65)):G1 (Qa b) (Jo b) (b+1+1+1+1+1+1+1) (.func (.func 127) #[] #[.pointer (some ⟨c,0,none⟩)]) (fun(d:P20.T) (s:P22.Step)=>(P22.numE d).map fun x=>{ s with limit:=x }) W:=by
 refine Ik (σ:=P22.Step) _ _ _ (b+1+1+1+1+1) c (fun(x:Int) (s:P22.Step)=>{ s with limit:=x }) W hB hc (by unfold Jo;omega) (fun s A W' h=>?_) ?_
 ·exact⟨_,h.b5⟩
 ·intro s A W' W'' x h D hn;have hl:=h.lt;exact⟨((D.block _ (by omega) (by simp;try omega)).trans h.b0),((D.block _ (by omega) (by simp;try omega)).trans h.b1),((D.block _ (by omega) (by simp;try omega)).trans h.b2),(h.b3.stay D.size (D.block _ (by omega) (by simp;try omega)) (fun g h1 h2 _=>D.block g h2 (by simp;omega)) (fun g G=>.inl G.1)),((D.block _ (by omega) (by simp;try omega)).trans h.b4),hn,(h.b6.stay D.size (D.block _ (by omega) (by simp;try omega)) (fun g h1 h2 _=>D.block g h2 (by simp;omega)) (fun g G=>.inl G.1)),fun g h1 h2 h3=>h.n g h1 h2 h3.1,qK hl D.size⟩
theorem Us{b c:Nat}{W:World}(hB:b+1+1+1+1+1+1+1≤c)(hc:W.heap[c]?=some (.cells #[.pointer (some ⟨b+1+1+1+1+1+1,0,none⟩)] 146)):G1 (Qa b) (Jo b) (b+1+1+1+1+1+1+1) (.func (.func 128) #[] #[.pointer (some ⟨c,0,none⟩)]) (fun(d:P20.T) (s:P22.Step)=>(P22.noteE d).map fun x=>{ s with note:=x }) W:=by
 refine Sg (σ:=P22.Step) _ _ _ (b+1+1+1+1+1+1) c (fun(x:P20.T) (s:P22.Step)=>{ s with note:=x }) W hB hc (by unfold Jo;omega) (fun s A W' h=>?_) ?_
 ·obtain⟨k,t,ka,kc,ks,da,dc,ds,l,h1,h2,h3,h4⟩:=h.b6;exact⟨_,_,_,_,_,h4⟩
 ·intro s A W' W'' k t ka kc ks da dc ds l h D I G hn;have hl:=h.lt;exact⟨((D.block _ (by omega) (by simp;try omega)).trans h.b0),((D.block _ (by omega) (by simp;try omega)).trans h.b1),((D.block _ (by omega) (by simp;try omega)).trans h.b2),(h.b3.stay D.size (D.block _ (by omega) (by simp;try omega)) (fun g h1 h2 _=>D.block g h2 (by simp;omega)) (fun g J=>.inl J.1)),((D.block _ (by omega) (by simp;try omega)).trans h.b4),((D.block _ (by omega) (by simp;try omega)).trans h.b5),⟨k,t,ka,kc,ks,da,dc,ds,l,rfl,I,fun g h1=>⟨by have:=G g h1;omega,fun h2=>by have:=G g h1;omega⟩,hn⟩,fun g h1 h2 h3=>h.n g h1 h2 h3.1,qK hl D.size⟩
def Ed:List (C8 P22.Step):=[([110,97,109,101],2,fun(d:P20.T) (s:P22.Step)=>(P22.textE 64 d).map fun x=>{ s with name:=x }),([97,99,116,105,111,110],4,fun(d:P20.T) (s:P22.Step)=>(P22.textE 64 d).map fun x=>{ s with action:=x }),([117,110,100,111],6,fun(d:P20.T) (s:P22.Step)=>(P22.textE 64 d).map fun x=>{ s with undo:=x }),([97,102,116,101,114],8,fun(d:P20.T) (s:P22.Step)=>(P22.namesE d).map fun x=>{ s with after:=x }),([114,101,116,114,121],10,fun(d:P20.T) (s:P22.Step)=>(P22.triesE d).map fun x=>{ s with tries:=x }),([108,105,109,105,116],12,fun(d:P20.T) (s:P22.Step)=>(P22.numE d).map fun x=>{ s with limit:=x }),([110,111,116,101],14,fun(d:P20.T) (s:P22.Step)=>(P22.noteE d).map fun x=>{ s with note:=x })]
theorem Un:Du Ed=P22.stepRd:=by
 funext k
 rfl
theorem C9:Qz Ed:=by
 intro i q hq
 match i,hq with
 |0,hq=>cases hq;rfl
 |1,hq=>cases hq;rfl
 |2,hq=>cases hq;rfl
 |3,hq=>cases hq;rfl
 |4,hq=>cases hq;rfl
 |5,hq=>cases hq;rfl
 |6,hq=>cases hq;rfl
 |n+7,hq=>simp[Ed]at hq
theorem Fk:Hh Ed:=by
 unfold Hh Ed;simp
end Go.Proofs.YtnjokdbblmlhhaaGreatDoor
