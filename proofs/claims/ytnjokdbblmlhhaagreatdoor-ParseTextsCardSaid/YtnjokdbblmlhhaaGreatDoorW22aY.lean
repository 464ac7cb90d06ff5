/- Lemmas of this claim. -/
import Derived.Test.YtnjokdbblmlhhaaGreatDoorGPr20Y
import Derived.Test.YtnjokdbblmlhhaaGreatDoorElY
set_option linter.unusedVariables false
set_option linter.unusedSimpArgs false
namespace Go.Proofs.YtnjokdbblmlhhaaGreatDoor
set_option maxHeartbeats 4000000
set_option maxRecDepth 100000
open Go.RowKit
abbrev fV(e l:Int):Value:=.agg #[.int .i64 e,.int .i64 l]
theorem Ai{W:World}{g:Nat}{a b:Value}(h:W.heap[g]?=some (.cells #[a,b] 29)):(loadVar 29 ⟨g,0,none⟩).run Tryz.prog W=.ok (.agg #[a,b]) W:=qX _ _ _ _ _ _ _ h Tryz.underlying29 rfl (by kernel_rfl)
theorem A0(w:World)(D o2:Obj)(H:Nat)(G:w.heap.size=H):∃W,(w.alloc D).alloc o2=W∧Below H w W∧W.heap[H]?=some D∧W.heap[H+1]?=some o2∧W.heap.size=H+1+1:=by
 subst G;exact Pc w D o2
theorem Ax{B g:Nat}{w W:World}(h:Below B w W)(D:B≤g)(v0 G:Value):Below B w ((W.setCell ⟨g,0,none⟩ v0).setCell ⟨g,1,none⟩ G):=
 (h.setCell (p:=⟨g,0,none⟩) D _).setCell (p:=⟨g,1,none⟩) D _
theorem Fu(k:Nat)(t:List UInt8)(ka:Option Addr)(kc:Nat)(ks:List (List UInt8))(da:Option Addr)(dc:Nat)(ds:List Nd)(l:Int)(e:Int)(w:World) :
  Calls Tryz.prog 91 #[.agg #[.int .u8 k,.string ⟨t.toArray⟩,.slice ka ks.length kc,.slice da ds.length dc,.int .i64 l],.int .i64 e] w fun x w'=>x=.returned (if e=0 then fV 0 0 else fV e l)∧Below w.heap.size w w':=by
 obtain⟨H,D⟩:∃H,w.heap.size=H:=⟨_,rfl⟩;obtain⟨Z,G,J,R,g1,S⟩:=A0 w (.cells #[.int .u8 k,.string ⟨t.toArray⟩,.slice ka ks.length kc,.slice da ds.length dc,.int .i64 l] 26) (.cells #[.int .i64 0,.int .i64 0] 29) H D;have Y:=Ad R;have X:=Af g1;have Q:=Ab G;have N:=Ab J;have I:=Ab g1;clear G J R g1;by_cases he:e=0
 ·subst he;rw[if_pos rfl];go_enter Tryz.func91,Tryz.ntmps91
  go_upto_region 1 with fail
  try rw[D]
  rw[Aa Q];go_wp2;exact qW (Av rfl _ _ _ (H+1) _ rfl (Ai (A3 (Aa I) _ _))) rfl ⟨rfl,by rw[D];exact Ax (Aa N) (by omega) _ _⟩
 ·rw[if_neg he];have U:(e==0)=false:=by rw[beq_eq_false_iff_ne];exact he
  clear he;go_enter Tryz.func91,Tryz.ntmps91
  go_upto_region 1 with fail
  try rw[D]
  rw[Aa Q];go_wp2;exact qW (Av rfl _ _ _ (H+1) _ rfl (Ai (A3 (Aa I) _ _))) rfl ⟨rfl,by rw[D];exact Ax (Aa N) (by omega) _ _⟩
theorem Ct(k:Nat)(t:List UInt8)(ka:Option Addr)(kc:Nat)(ks:List (List UInt8))(da:Option Addr)(dc:Nat)(ds:List Nd)(l:Int)(e:Int):∃D l',(∀w:World,Calls Tryz.prog 91 #[.agg #[.int .u8 k,.string ⟨t.toArray⟩,.slice ka ks.length kc,.slice da ds.length dc,.int .i64 l],.int .i64 e] w fun x w'=>x=.returned (fV D l')∧Below w.heap.size w w')∧((e=0∧D=0∧l'=0)∨(e≠0∧D=e∧l'=l)):=by
 have h:=Fu k t ka kc ks da dc ds l e;by_cases he:e=0
 ·rw[if_pos he]at h;exact⟨0,0,h,.inl ⟨he,rfl,rfl⟩⟩
 ·rw[if_neg he]at h;exact⟨e,l,h,.inr ⟨he,rfl,rfl⟩⟩
def Vq(w:World)(G:Nat)(T:TypeId)(D:Array Value→Prop)(x:Except P22.F (Array Value))(e:Ending)(w':World):Prop:=
 w.grownBy w' (some G)∧match x with
 | .ok cs=>e=.returned (fV 0 0)∧w'.heap[G]?=some (.cells cs T)
 | .error f=>e=.returned (fV f.1 f.2)∧∃cs,D cs∧w'.heap[G]?=some (.cells cs T)
def Fv(l:List UInt8):Array Value:=#[.string ⟨l.toArray⟩]
def Gy(n:Int):Array Value:=#[.int .i64 n]
theorem B4{w W:World}{r:Option Nat}(h:w.grownBy W r){g:Nat}(G:w.heap.size≤g)(v0 D:Value):w.grownBy ((W.setCell ⟨g,0,none⟩ v0).setCell ⟨g,1,none⟩ D) r:=
 ⟨h.os,h.tape,h.output,by simpa using h.size,fun i hi hne=>(Ar (by omega) _ _).trans (h.block i hi hne)⟩
theorem Gb{W:World}{g:Nat}{T:TypeId}{a:Value}(h:W.heap[g]?=some (.cells #[a] T))(v:Value):(W.setCell ⟨g,0,none⟩ v).heap[g]?=some (.cells #[v] T):=by
 simp[World.setCell,Array.getElem?_modify,h]
theorem Aq{W:World}{g:Nat}{T:TypeId}{a:Value}(h:W.heap[g]?=some (.cells #[a] T)):W.cell? ⟨g,0,none⟩=some a∧W.frozen? ⟨g,0,none⟩=false:=by
 simp[World.cell?,World.frozen?,h]
theorem Gc{w W:World}{D:Nat}(h:w.grownBy W (some D))(v:Value):w.grownBy (W.setCell ⟨D,0,none⟩ v) (some D):=
 ⟨h.os,h.tape,h.output,by simpa using h.size,fun i hi hne=>(qC _ _ _ _ (by show i≠D;rintro rfl;exact hne rfl)).trans (h.block i hi hne)⟩
theorem Vd{W:World}{g g':Nat}{a b c d e a':Value}(h:(W.cell? ⟨g,0,none⟩=some a∧W.frozen? ⟨g,0,none⟩=false)∧(W.cell? ⟨g,1,none⟩=some b∧W.frozen? ⟨g,1,none⟩=false)∧(W.cell? ⟨g,2,none⟩=some c∧W.frozen? ⟨g,2,none⟩=false)∧(W.cell? ⟨g,3,none⟩=some d∧W.frozen? ⟨g,3,none⟩=false)∧(W.cell? ⟨g,4,none⟩=some e∧W.frozen? ⟨g,4,none⟩=false))
  (D:W.cell? ⟨g',0,none⟩=some a'∧W.frozen? ⟨g',0,none⟩=false) :
  W.cell? ⟨g,0,none⟩=some a∧W.cell? ⟨g,1,none⟩=some b∧W.cell? ⟨g,2,none⟩=some c∧W.cell? ⟨g,3,none⟩=some d∧W.cell? ⟨g,4,none⟩=some e∧W.cell? ⟨g',0,none⟩=some a':=⟨h.1.1,h.2.1.1,h.2.2.1.1,h.2.2.2.1.1,h.2.2.2.2.1,D.1⟩
theorem Tp{W:World}{g g' g2:Nat}{a b c d e a':Value}(h:W.cell? ⟨g,0,none⟩=some a∧W.cell? ⟨g,1,none⟩=some b∧W.cell? ⟨g,2,none⟩=some c∧W.cell? ⟨g,3,none⟩=some d∧W.cell? ⟨g,4,none⟩=some e∧W.cell? ⟨g',0,none⟩=some a')(h1:g≠g2)(h2:g'≠g2)(v0 D:Value) :
  ((W.setCell ⟨g2,0,none⟩ v0).setCell ⟨g2,1,none⟩ D).cell? ⟨g,0,none⟩=some a∧((W.setCell ⟨g2,0,none⟩ v0).setCell ⟨g2,1,none⟩ D).cell? ⟨g,1,none⟩=some b∧((W.setCell ⟨g2,0,none⟩ v0).setCell ⟨g2,1,none⟩ D).cell? ⟨g,2,none⟩=some c∧((W.setCell ⟨g2,0,none⟩ v0).setCell ⟨g2,1,none⟩ D).cell? ⟨g,3,none⟩=some d∧((W.setCell ⟨g2,0,none⟩ v0).setCell ⟨g2,1,none⟩ D).cell? ⟨g,4,none⟩=some e∧((W.setCell ⟨g2,0,none⟩ v0).setCell ⟨g2,1,none⟩ D).cell? ⟨g',0,none⟩=some a':=by
 have G:=Ar (W:=W) h1 v0 D;have I:=Ar (W:=W) h2 v0 D;exact⟨(Ag G _).trans h.1,(Ag G _).trans h.2.1,(Ag G _).trans h.2.2.1,(Ag G _).trans h.2.2.2.1,(Ag G _).trans h.2.2.2.2.1,(Ag I _).trans h.2.2.2.2.2⟩
theorem J5(k:Nat)(t:List UInt8)(ka:Option Addr)(kc:Nat)(ks:List (List UInt8))(da:Option Addr)(dc:Nat)(ds:List Nd)(l:Int)(c1 c2 I:Nat)(most:Int)(s0:List UInt8)(w:World)(bK:t.length≤1000000)
  (h1:w.heap[c1]?=some (.cells #[.pointer (some ⟨I,0,none⟩)] 94)) (h2:w.heap[c2]?=some (.cells #[.int .i64 most] 3)) (hb:w.heap[I]?=some (.cells (Fv s0) 9)) :
  Calls Tryz.prog 93 #[.agg #[.int .u8 k,.string ⟨t.toArray⟩,.slice ka ks.length kc,.slice da ds.length dc,.int .i64 l],.pointer (some ⟨c1,0,none⟩),.pointer (some ⟨c2,0,none⟩)] w
   (Vq w I 9 (fun cs=>∃s,cs=Fv s) ((P22.textE most (Nd.mk k t ka kc ks da dc ds l).bare).map Fv)):=by
 unfold Fv at hb;obtain⟨H,hH⟩:∃H,w.heap.size=H:=⟨_,rfl⟩;obtain⟨W0,aE,Q,g0,g1,aU⟩:=A0 w (.cells #[.int .u8 k,.string ⟨t.toArray⟩,.slice ka ks.length kc,.slice da ds.length dc,.int .i64 l] 26) (.cells #[.int .i64 0,.int .i64 0] 29) H hH;have x0:=Ad g0;have y0:=Af g1;have aM:=Fu k t ka kc ks da dc ds l;have p1:=(Q.block c1 (by have:=(qA.1 h1).1;omega)).trans h1;have p2:=(Q.block c2 (by have:=(qA.1 h2).1;omega)).trans h2;have p3:=(Q.block I (by have:=(qA.1 hb).1;omega)).trans hb;have bP:c1≠I:=by rintro rfl;rw[h1]at hb;simp at hb
 have bJ:c2≠I:=by rintro rfl;rw[h2]at hb;simp at hb
 have bL:I<H:=by have:=(qA.1 hb).1;omega
 have bN:c1<H:=by have:=(qA.1 h1).1;omega
 have bO:c2<H:=by have:=(qA.1 h2).1;omega
 have u1:=Aq p1;have u2:=Aq p2;have u3:=Aq p3;have aG:=Ab aE;have aO:=Ab (show w.grownBy W0 (some I) from Aj (Q.mono (by omega)) _);have bF:=Ab g0;have aD:=Ab g1;have aQ:=Ab p2;have aB:=Ab p3;have aY:=Ab aM;have bM:=Dl;clear aE Q g0 g1 h1 h2 hb p1 p2 p3 aM
 have aL:P22.textE most (Nd.mk k t ka kc ks da dc ds l).bare=(if k≠1 then .error (7,l) else if P03.check t most≠0 then .error (P03.check t most,l) else .ok t):=by
  simp only[Nd.bare];rfl
 rw[aL];clear aL;by_cases hk:k=1
 ·rw[if_neg (by simpa using hk)];have jk:((k:Int) != 1)=false:=by simp;omega
  have aT:((k:Int)==1)=true:=by simp;omega
  clear hk;obtain⟨W1,J⟩:∃W1,W0.setCell ⟨I,0,none⟩ (.string ⟨t.toArray⟩)=W1:=⟨_,rfl⟩;have q0:=(show W1.heap[H]?=W0.heap[H]? by rw[←J];exact qC _ _ _ _ (by show H≠I;omega)).trans (Aa bF);have q1:=(show W1.heap[H+1]?=W0.heap[H+1]? by rw[←J];exact qC _ _ _ _ (by show H+1≠I;omega)).trans (Aa aD);have q2:=(show W1.heap[c2]?=W0.heap[c2]? by rw[←J];exact qC _ _ _ _ (by show c2≠I;omega)).trans (Aa aQ);have q3:W1.heap[I]?=some (.cells (Fv t) 9):=by rw[←J];exact Gb (Aa aB) _
  have aH:w.grownBy W1 (some I):=by rw[←J];exact Gc (Aa aO) _
  have bI:W1.heap.size=H+1+1:=by rw[←J];simpa using aU
  have v0:=Ad q0;have v1:=Af q1;have v2:=Aq q2;have U:=Fa ⟨t.toArray⟩ most W1.drew (by rw[zP];show t.length≤1100000;omega);simp only[Vv]at U;obtain⟨e,he⟩:∃e,P03.check t most=e:=⟨_,rfl⟩;rw[he]at U ⊢;obtain⟨R,X⟩:∃R:Except P22.F (List UInt8),(if e≠0 then .error (e,l) else .ok t)=R:=⟨_,rfl⟩;rw[X];have aC:=Ab X;clear X;obtain⟨e',l',aA,aJ⟩:=Ct k t ka kc ks da dc ds l e;have aW:=Ab aA;have bC:=Ab aJ;clear aA aJ;have aZ:=Ab U;have aK:=Ab q0;have aI:=Ab q2;have bH:=Ab q1;have bD:=Ab q3;have bG:=Ab aH;clear U q0 q1 q2 q3 aH;go_enter Tryz.func93,Tryz.ntmps93
  go_upto_region 1 with fail
  try rw[hH]
  rw[Aa aG];go_upto_region 4 with fail
  try rw[J]
  clear J;have S1:=Vd (W:=W1) v0 v2
  go_region_held3 (fun w'=>w'.cell? ⟨H,0,none⟩=some (.int .u8 k)∧w'.cell? ⟨H,1,none⟩=some (.string ⟨t.toArray⟩)∧w'.cell? ⟨H,2,none⟩=some (.slice ka ks.length kc)∧w'.cell? ⟨H,3,none⟩=some (.slice da ds.length dc)∧w'.cell? ⟨H,4,none⟩=some (.int .i64 l)∧w'.cell? ⟨c2,0,none⟩=some (.int .i64 most)) (first|exact S1|exact S2|exact S3|exact Tp S3 (by omega) (by omega) _ _) (first
   |(go_at_call 44;refine(Aa aZ).mono ?_;rintro x2 w2 ⟨rfl,D⟩;have D:Below W1.heap.size W1 w2:=⟨D.os,D.tape,D.output,D.size,D.block⟩;have r0:=(D.block (H+1) (by omega)).trans (Aa bH);have S2:=Vd (Ad ((D.block H (by omega)).trans (Aa aK))) (Aq ((D.block c2 (by omega)).trans (Aa aI)));have bE:=Ab r0;have bA:=D.size;have N:=Ab D;clear r0 D)
   | (go_at_call 91;refine(Aa aW w2).mono ?_;rintro x3 w3 ⟨rfl,G⟩;have Z:=(G.block (H+1) (by omega)).trans (Aa bE);have S3:=Vd (Ad ((G.block H (by omega)).trans (((Aa N).block H (by omega)).trans (Aa aK)))) (Aq ((G.block c2 (by omega)).trans (((Aa N).block c2 (by omega)).trans (Aa aI))));have aR:=Af Z;have Y:=Ab Z;have S:=Ab G;clear Z G))
  all_goals go_wp2
  all_goals
   have bB:=Ah (Aa bG) (Ah (Aj (Aa N) _) (Aj (Aa S) _));have bA:=(Aa N).size;have hq:=((Aa S).block I (by omega)).trans (((Aa N).block I (by omega)).trans (Aa bD));have aX:=B4 bB (show w.heap.size≤H+1 by omega) (.int .i64 e') (.int .i64 l');have aN:=(Ar (W:=w3) (g:=H+1) (g':=I) (by omega) (.int .i64 e') (.int .i64 l')).trans hq;refine qW (Av rfl _ _ _ (H+1) _ rfl (Ai (A3 (Aa Y) _ _))) rfl ⟨?_,?_⟩
   ·exact aX
   ·rcases Aa bC with⟨h0,rfl,rfl⟩|⟨h0,rfl,rfl⟩
    ·have hR:=Aa aC;rw[if_neg (by simpa using h0)]at hR;subst hR;exact⟨rfl,aN⟩
    ·have hR:=Aa aC;rw[if_pos h0]at hR;subst hR;exact⟨rfl,_,⟨t,rfl⟩,aN⟩
 ·rw[if_pos hk];have jk:((k:Int) != 1)=true:=by simp;omega
  have aT:((k:Int)==1)=false:=by rw[beq_eq_false_iff_ne];omega
  have aS:=Ab (Aa aY 7 W0);clear hk;go_enter Tryz.func93,Tryz.ntmps93
  go_upto_region 1 with fail
  try rw[hH]
  rw[Aa aG];go_wp2_with (go_at_call 91;refine(Aa aS).mono ?_;rintro x3 w3 ⟨rfl,G⟩;have Z:=(G.block (H+1) (by omega)).trans (Aa aD);have aR:=Af Z;have Y:=Ab Z;have S:=Ab G;clear Z G)
  refine qW (Av rfl _ _ _ (H+1) _ rfl (Ai (A3 (Aa Y) _ _))) rfl ⟨?_,rfl,_,⟨s0,rfl⟩,?_⟩
  ·exact B4 (Ah (Aa aO) (Aj (Aa S) _)) (by omega) _ _
  ·exact(Ar (by omega) _ _).trans (((Aa S).block I (by omega)).trans (Aa aB))
theorem Lw(k:Nat)(t:List UInt8)(ka:Option Addr)(kc:Nat)(ks:List (List UInt8))(da:Option Addr)(dc:Nat)(ds:List Nd)(l:Int)(c1 D:Nat)(n0:Int)(w:World)(bH:t.length≤1000000)
  (h1:w.heap[c1]?=some (.cells #[.pointer (some ⟨D,0,none⟩)] 65)) (hb:w.heap[D]?=some (.cells (Gy n0) 3)) :
  Calls Tryz.prog 127 #[.agg #[.int .u8 k,.string ⟨t.toArray⟩,.slice ka ks.length kc,.slice da ds.length dc,.int .i64 l],.pointer (some ⟨c1,0,none⟩)] w
   (Vq w D 3 (fun cs=>∃s,cs=Gy s) ((P22.numE (Nd.mk k t ka kc ks da dc ds l).bare).map Gy)):=by
 unfold Gy at hb;obtain⟨H,hH⟩:∃H,w.heap.size=H:=⟨_,rfl⟩;obtain⟨W0,aD,Q,g0,g1,bE⟩:=A0 w (.cells #[.int .u8 k,.string ⟨t.toArray⟩,.slice ka ks.length kc,.slice da ds.length dc,.int .i64 l] 26) (.cells #[.int .i64 0,.int .i64 0] 29) H hH;have x0:=Ad g0;have y0:=Af g1;have aK:=Fu k t ka kc ks da dc ds l;have p1:=(Q.block c1 (by have:=(qA.1 h1).1;omega)).trans h1;have p3:=(Q.block D (by have:=(qA.1 hb).1;omega)).trans hb;have bM:c1≠D:=by rintro rfl;rw[h1]at hb;simp at hb
 have bI:D<H:=by have:=(qA.1 hb).1;omega
 have bK:c1<H:=by have:=(qA.1 h1).1;omega
 have u1:=Aq p1;have u3:=Aq p3;have aE:=Ab aD;have aM:=Ab (show w.grownBy W0 (some D) from Aj (Q.mono (by omega)) _);have aZ:=Ab g0;have aC:=Ab g1;have bC:=Ab p1;have aA:=Ab p3;have aR:=Ab aK;have bJ:=Dl;clear aD Q g0 g1 h1 hb p1 p3 aK
 have aJ:P22.numE (Nd.mk k t ka kc ks da dc ds l).bare=(if k≠1 then .error (7,l) else if (P18.number t).2≠0 then .error ((P18.number t).2,l) else .ok (P18.number t).1):=by
  simp only[Nd.bare];rfl
 rw[aJ];clear aJ;by_cases hk:k=1
 ·rw[if_neg (by simpa using hk)];have jk:((k:Int) != 1)=false:=by simp;omega
  have aO:((k:Int)==1)=true:=by simp;omega
  clear hk;have S:=Np ⟨t.toArray⟩ W0 (by rw[zP];show t.length≤9223372036854775807;omega);simp only[Vv]at S;obtain⟨⟨nq,e⟩,hq⟩:∃q,P18.number t=q:=⟨_,rfl⟩;simp only[hq]at S ⊢;obtain⟨R,U⟩:∃R:Except P22.F Int,(if e≠0 then .error (e,l) else .ok nq)=R:=⟨_,rfl⟩;rw[U];have aB:=Ab U;clear U;obtain⟨e',l',Z,aH⟩:=Ct k t ka kc ks da dc ds l e;have aQ:=Ab Z;have aY:=Ab aH;have aT:=Ab S;clear Z aH S hq;go_enter Tryz.func127,Tryz.ntmps127
  go_upto_region 1 with fail
  try rw[hH]
  rw[Aa aE];go_upto_region 4 with(go_at_call 52;refine(Aa aT).mono ?_;rintro x2 w2 ⟨rfl,I⟩)
  have q0:=(I.block H (by omega)).trans (Aa aZ);have q1:=(I.block (H+1) (by omega)).trans (Aa aC);have q3:=(I.block c1 (by omega)).trans (Aa bC);have q4:=(I.block D (by omega)).trans (Aa aA);have bG:=I.size;have aI:=Ah (Aa aM) (Aj I _);clear x0 y0 u1 u3;have x0:=Ad q0;have u1:=Aq q3;have u3:=Aq q4;obtain⟨W1,G⟩:∃W1,w2.setCell ⟨D,0,none⟩ (.int .i64 nq)=W1:=⟨_,rfl⟩;have r0:=(show W1.heap[H]?=w2.heap[H]? by rw[←G];exact qC _ _ _ _ (by show H≠D;omega)).trans q0;have Y:=(show W1.heap[H+1]?=w2.heap[H+1]? by rw[←G];exact qC _ _ _ _ (by show H+1≠D;omega)).trans q1;have r3:W1.heap[D]?=some (.cells (Gy nq) 3):=by rw[←G];exact Gb q4 _
  have aG:w.grownBy W1 (some D):=by rw[←G];exact Gc aI _
  have bF:H+1+1≤W1.heap.size:=by rw[←G];simp;omega
  have v0:=Ad r0;have v1:=Af Y;have X:=Ab Y;have aU:=Ab r3;have bA:=Ab aG;have bB:=Ab G;clear q0 q1 q3 q4 aI r0 Y r3 aG G I;go_upto_region 5 with fail
  rw[Aa bB];go_wp2_with (go_at_call 91;refine(Aa aQ W1).mono ?_;rintro x3 w3 ⟨rfl,J⟩;have t1:=(J.block (H+1) (by omega)).trans (Aa X);have bL:=Af t1;have aX:=Ab t1;have N:=Ab J;clear t1 J)
  have aW:=Ah (Aa bA) (Aj (Aa N) _);have hq:=((Aa N).block D (by omega)).trans (Aa aU);have aS:=B4 aW (show w.heap.size≤H+1 by omega) (.int .i64 e') (.int .i64 l');have aL:=(Ar (W:=w3) (g:=H+1) (g':=D) (by omega) (.int .i64 e') (.int .i64 l')).trans hq;refine qW (Av rfl _ _ _ (H+1) _ rfl (Ai (A3 (Aa aX) _ _))) rfl ⟨?_,?_⟩
  ·exact aS
  ·rcases Aa aY with⟨h0,rfl,rfl⟩|⟨h0,rfl,rfl⟩
   ·have hR:=Aa aB;rw[if_neg (by simpa using h0)]at hR;subst hR;exact⟨rfl,aL⟩
   ·have hR:=Aa aB;rw[if_pos h0]at hR;subst hR;exact⟨rfl,_,⟨nq,rfl⟩,aL⟩
 ·rw[if_pos hk];have jk:((k:Int) != 1)=true:=by simp;omega
  have aO:((k:Int)==1)=false:=by rw[beq_eq_false_iff_ne];omega
  have aN:=Ab (Aa aR 7 W0);clear hk;go_enter Tryz.func127,Tryz.ntmps127
  go_upto_region 1 with fail
  try rw[hH]
  rw[Aa aE];go_wp2_with (go_at_call 91;refine(Aa aN).mono ?_;rintro x3 w3 ⟨rfl,J⟩;have Y:=(J.block (H+1) (by omega)).trans (Aa aC);have bD:=Af Y;have X:=Ab Y;have N:=Ab J;clear Y J)
  refine qW (Av rfl _ _ _ (H+1) _ rfl (Ai (A3 (Aa X) _ _))) rfl ⟨?_,rfl,_,⟨n0,rfl⟩,?_⟩
  ·exact B4 (Ah (Aa aM) (Aj (Aa N) _)) (by omega) _ _
  ·exact(Ar (by omega) _ _).trans (((Aa N).block D (by omega)).trans (Aa aA))
theorem Cf:∀(os:List Obj) (w:World),Below w.heap.size w (os.foldl World.alloc w)∧(os.foldl World.alloc w).heap.size=w.heap.size+os.length∧∀i o,os[i]?=some o→(os.foldl World.alloc w).heap[w.heap.size+i]?=some o
 | [],w=>⟨qV _ w,rfl,fun i o h=>by simp at h⟩
 |x::xs,w=>by
  obtain⟨h1,h2,h3⟩:=Cf xs (w.alloc x);have hz:(w.alloc x).heap.size=w.heap.size+1:=qF _ _;rw[hz]at h1 h2 h3;refine⟨((qV _ w).alloc (qJ _) x).trans (h1.mono (by omega)),by rw[List.foldl_cons,h2,qE];omega,fun i o h=>?_⟩;rw[List.foldl_cons]
  match i,h with
  |0,h=>
   simp at h;subst h;rw[h1.block _ (by omega)];exact qB _ _
  |i+1,h=>
   have:=h3 i o (by simpa using h);rw[show w.heap.size+(i+1)=w.heap.size+1+i by omega];exact this
structure Q8 (x y:Nat) (V w:World):Prop where
 size:V.heap.size≤w.heap.size
 same:∀g,g≠x→g≠y→w.heap[g]?=V.heap[g]?
 os:w.os=V.os
 tape:w.tape=V.tape
 output:w.output=V.output
theorem Q8.step{x y:Nat}{V w w':World}(h:Q8 x y V w)(hz:w.heap.size≤w'.heap.size)(hs:∀g,g≠x→g≠y→w'.heap[g]?=w.heap[g]?)(h1:w'.os=w.os)(h2:w'.tape=w.tape)(h3:w'.output=w.output):Q8 x y V w':=⟨qK h.size hz,fun g a b=>(hs g a b).trans (h.same g a b),h1.trans h.os,h2.trans h.tape,h3.trans h.output⟩
theorem A2{W:World}{g:Nat}{T:TypeId}{J R S Q u4 u5 u6 u7 N U G I D:Value}(h:W.heap[g]?=some (.cells #[J,R,S,Q,u4,u5,u6,u7,N,U,G,I,D] T)):(W.cell? ⟨g,0,none⟩=some J∧W.frozen? ⟨g,0,none⟩=false)∧(W.cell? ⟨g,1,none⟩=some R∧W.frozen? ⟨g,1,none⟩=false)∧(W.cell? ⟨g,2,none⟩=some S∧W.frozen? ⟨g,2,none⟩=false)∧(W.cell? ⟨g,3,none⟩=some Q∧W.frozen? ⟨g,3,none⟩=false)∧(W.cell? ⟨g,4,none⟩=some u4∧W.frozen? ⟨g,4,none⟩=false)∧(W.cell? ⟨g,5,none⟩=some u5∧W.frozen? ⟨g,5,none⟩=false)∧(W.cell? ⟨g,6,none⟩=some u6∧W.frozen? ⟨g,6,none⟩=false)∧(W.cell? ⟨g,7,none⟩=some u7∧W.frozen? ⟨g,7,none⟩=false)∧(W.cell? ⟨g,8,none⟩=some N∧W.frozen? ⟨g,8,none⟩=false)∧(W.cell? ⟨g,9,none⟩=some U∧W.frozen? ⟨g,9,none⟩=false)∧(W.cell? ⟨g,10,none⟩=some G∧W.frozen? ⟨g,10,none⟩=false)∧(W.cell? ⟨g,11,none⟩=some I∧W.frozen? ⟨g,11,none⟩=false)∧(W.cell? ⟨g,12,none⟩=some D∧W.frozen? ⟨g,12,none⟩=false):=by
 simp[World.cell?,World.frozen?,h]
theorem Br{W:World}{g g':Nat}{cs:Array Value}(h:g'≠g):(W.setRow g cs).heap[g']?=W.heap[g']?:=by
 unfold World.setRow;rw[Array.getElem?_modify,if_neg (Ne.symm h)]
theorem Cc{W:World}{g:Nat}{J N Q U u4 u5 u6 u7 S R G I D:Value}(h:W.heap[g]?=some (.cells #[J,N,Q,U,u4,u5,u6,u7,S,R,G,I,D] 86)):(loadVar 86 ⟨g,0,none⟩).run Tryz.prog W=.ok (.agg #[J,N,Q,U,u4,u5,u6,u7,S,R,G,I,D]) W:=qX _ _ _ _ _ _ _ h Tryz.underlying86 rfl (by kernel_rfl)
theorem Cq{W:World}{g:Nat}{a b c:Value}(h:W.heap[g]?=some (.cells #[a,b,c] 50)):(loadVar 50 ⟨g,0,none⟩).run Tryz.prog W=.ok (.agg #[a,b,c]) W:=qX _ _ _ _ _ _ _ h Tryz.underlying50 rfl (by kernel_rfl)
theorem Bc.val_eq(n a u:List UInt8)(aa:Option Addr)(ac:Nat)(G:List (List UInt8))(m I J D:Int)(k:Nat)(t:List UInt8)(ka:Option Addr)(kc:Nat)(ks:List (List UInt8))(da:Option Addr)(dc:Nat)(ds:List Nd)(l:Int) :
  (⟨n,a,u,aa,ac,G,m,I,J,D,.mk k t ka kc ks da dc ds l⟩:Bc).val=.agg #[.string ⟨n.toArray⟩,.string ⟨a.toArray⟩,.string ⟨u.toArray⟩,.slice aa G.length ac,.int .i64 m,.int .i64 I,.int .i64 J,.int .i64 D,.int .u8 k,.string ⟨t.toArray⟩,.slice ka ks.length kc,.slice da ds.length dc,.int .i64 l]:=rfl
theorem Hb{W:World}{B:Nat}{a:Option Addr}{n c:Nat}{ls:List (List UInt8)}(h:Strs W B (.slice a n c) ls):Eu W a ls∧ls.length≤c∧c≤maxLen∧∀g,ls≠[]→Bj a g→B≤g:=by
 obtain⟨a',c',e,h1,h2,h3,h4⟩:=h.slice;cases e;exact⟨h3,h1,h2,h4⟩
def Vs(w:World)(res:Except P22.F P22.Step)(e:Ending)(w':World):Prop:=
 Below w.heap.size w w'∧∃(x:Bc) (D G:Int),e=.returned (.tuple #[x.val,fV D G])∧x.In w'∧(∀g,x.blk g→w.heap.size≤g)∧((res=.ok x.bare∧D=0∧G=0)∨(res=.error (D,G)∧D≠0))
end Go.Proofs.YtnjokdbblmlhhaaGreatDoor
