/- Lemmas of this claim. -/
import Derived.Test.YtnjokdbblmlhhaaGreatDoorWR20wY
import Derived.Test.YtnjokdbblmlhhaaGreatDoorW22fY
set_option linter.unusedVariables false
set_option linter.unusedSimpArgs false
namespace Go.Proofs.YtnjokdbblmlhhaaGreatDoor
set_option maxHeartbeats 16000000
set_option maxRecDepth 100000
open Go.RowKit
def Rq{α:Type}(r:Except P22.F α)(v:α)(e l:Int):Prop:=(r=.ok v∧e=0∧l=0)∨(r=.error (e,l)∧e≠0)
theorem N0(k:Nat)(t:List UInt8)(ka:Option Addr)(kc:Nat)(ks:List (List UInt8))(da:Option Addr)(dc:Nat)(ds:List Nd)(l:Int)(w:World) :
  Calls Tryz.prog 59 #[.agg #[.int .u8 k,.string ⟨t.toArray⟩,.slice ka ks.length kc,.slice da ds.length dc,.int .i64 l],.int .u8 3,.int .i64 0] w fun x w'=>x=.returned (if k≠3 then fV 7 l else if ks.length≠ds.length then fV 3 l else fV 0 0)∧Below w.heap.size w w':=by
 obtain⟨H,I⟩:∃H,w.heap.size=H:=⟨_,rfl⟩;obtain⟨W0,J,R,S,g1,aA⟩:=A0 w (.cells #[.int .u8 k,.string ⟨t.toArray⟩,.slice ka ks.length kc,.slice da ds.length dc,.int .i64 l] 26) (.cells #[.int .i64 0,.int .i64 0] 29) H I;have Z:=Ad S;have y0:=Af g1;obtain⟨M,Y⟩:∃M,ks.length=M:=⟨_,rfl⟩;obtain⟨D,U⟩:∃D,ds.length=D:=⟨_,rfl⟩;rw[Y,U]at J S Z ⊢;clear Y U;have Q:=Ab J;have G:=Ab R;have aB:=Ab S;have N:=Ab g1;clear J R S g1;by_cases hk:k=3
 ·rw[if_neg (by simpa using hk)];have j0:((k:Int) != 3)=false:=by simp;omega
  clear hk;by_cases hn:M=D
  ·subst hn;rw[if_neg (by simp)];have X:((M:Int) != M)=false:=by simp
   go_enter Tryz.func59,Tryz.ntmps59
   go_upto_region 1 with fail
   try rw[I]
   rw[Aa Q];go_wp2;exact qW (Av rfl _ _ _ (H+1) _ rfl (Ai (A3 (Aa N) _ _))) rfl ⟨rfl,by rw[I];first|exact Ax (Aa G) (show H≤H+1 by omega) _ _|exact Ax (Aa G).drew (show H≤H+1 by omega) _ _⟩
  ·rw[if_pos hn];have X:((M:Int) != D)=true:=by simp;omega
   clear hn;go_enter Tryz.func59,Tryz.ntmps59
   go_upto_region 1 with fail
   try rw[I]
   rw[Aa Q];go_wp2;exact qW (Av rfl _ _ _ (H+1) _ rfl (Ai (A3 (Aa N) _ _))) rfl ⟨rfl,by rw[I];first|exact Ax (Aa G) (show H≤H+1 by omega) _ _|exact Ax (Aa G).drew (show H≤H+1 by omega) _ _⟩
 ·rw[if_pos hk];have X:((k:Int) != 3)=true:=by simp;omega
  clear hk;go_enter Tryz.func59,Tryz.ntmps59
  go_upto_region 1 with fail
  try rw[I]
  rw[Aa Q];go_wp2;exact qW (Av rfl _ _ _ (H+1) _ rfl (Ai (A3 (Aa N) _ _))) rfl ⟨rfl,by rw[I];first|exact Ax (Aa G) (show H≤H+1 by omega) _ _|exact Ax (Aa G).drew (show H≤H+1 by omega) _ _⟩
theorem Iy(k:Nat)(t:List UInt8)(ka:Option Addr)(kc:Nat)(ks:List (List UInt8))(da:Option Addr)(dc:Nat)(ds:List Nd)(l:Int)(m:Nat)(w:World) :
  Calls Tryz.prog 59 #[.agg #[.int .u8 k,.string ⟨t.toArray⟩,.slice ka ks.length kc,.slice da ds.length dc,.int .i64 l],.int .u8 2,.int .i64 m] w fun x w'=>x=.returned (if k≠2 then fV 7 l else if m<ds.length then fV 2 l else fV 0 0)∧Below w.heap.size w w':=by
 obtain⟨H,I⟩:∃H,w.heap.size=H:=⟨_,rfl⟩;obtain⟨W0,N,R,S,g1,aA⟩:=A0 w (.cells #[.int .u8 k,.string ⟨t.toArray⟩,.slice ka ks.length kc,.slice da ds.length dc,.int .i64 l] 26) (.cells #[.int .i64 0,.int .i64 0] 29) H I;have Z:=Ad S;have y0:=Af g1;obtain⟨M,Y⟩:∃M,ks.length=M:=⟨_,rfl⟩;obtain⟨D,U⟩:∃D,ds.length=D:=⟨_,rfl⟩;rw[Y,U]at N S Z ⊢;clear Y U;have Q:=Ab N;have G:=Ab R;have aB:=Ab S;have J:=Ab g1;clear N R S g1;by_cases hk:k=2
 ·rw[if_neg (by simpa using hk)];have j0:((k:Int) != 2)=false:=by simp;omega
  clear hk;by_cases hn:m<D
  ·rw[if_pos hn];have X:(m:Int)<(D:Int):=by omega
   have j2:decide ((m:Int)<(D:Int))=true:=by simp;omega
   clear hn;go_enter Tryz.func59,Tryz.ntmps59
   go_upto_region 1 with fail
   try rw[I]
   rw[Aa Q];go_wp2;exact qW (Av rfl _ _ _ (H+1) _ rfl (Ai (A3 (Aa J) _ _))) rfl ⟨rfl,by rw[I];first|exact Ax (Aa G) (show H≤H+1 by omega) _ _|exact Ax (Aa G).drew (show H≤H+1 by omega) _ _⟩
  ·rw[if_neg hn];have X:(D:Int)≤(m:Int):=by omega
   have j2:decide ((m:Int)<(D:Int))=false:=by simp;omega
   clear hn;go_enter Tryz.func59,Tryz.ntmps59
   go_upto_region 1 with fail
   try rw[I]
   rw[Aa Q];go_wp2;exact qW (Av rfl _ _ _ (H+1) _ rfl (Ai (A3 (Aa J) _ _))) rfl ⟨rfl,by rw[I];first|exact Ax (Aa G) (show H≤H+1 by omega) _ _|exact Ax (Aa G).drew (show H≤H+1 by omega) _ _⟩
 ·rw[if_pos hk];have X:((k:Int) != 2)=true:=by simp;omega
  clear hk;go_enter Tryz.func59,Tryz.ntmps59
  go_upto_region 1 with fail
  try rw[I]
  rw[Aa Q];go_wp2;exact qW (Av rfl _ _ _ (H+1) _ rfl (Ai (A3 (Aa J) _ _))) rfl ⟨rfl,by rw[I];first|exact Ax (Aa G) (show H≤H+1 by omega) _ _|exact Ax (Aa G).drew (show H≤H+1 by omega) _ _⟩
theorem Ei(k:Nat)(t:List UInt8)(ka:Option Addr)(kc:Nat)(ks:List (List UInt8))(da:Option Addr)(dc:Nat)(ds:List Nd)(l:Int)(most:Int)(aC:t.length≤1000000) :
  ∃v e l',(∀w:World,Calls Tryz.prog 60 #[.agg #[.int .u8 k,.string ⟨t.toArray⟩,.slice ka ks.length kc,.slice da ds.length dc,.int .i64 l],.int .i64 most] w fun x w'=>x=.returned (.tuple #[.string ⟨(v:List UInt8).toArray⟩,fV e l'])∧Below w.heap.size w w')∧Rq (P22.textE most (Nd.mk k t ka kc ks da dc ds l).bare) v e l':=by
 have aA:P22.textE most (Nd.mk k t ka kc ks da dc ds l).bare=(if k≠1 then .error (7,l) else if P03.check t most≠0 then .error (P03.check t most,l) else .ok t):=by
  simp only[Nd.bare];rfl
 rw[aA];clear aA;by_cases hk:k=1
 ·rw[if_neg (by simpa using hk)];have U:=fun w=>Dm ⟨t.toArray⟩ most w (by rw[zP];show t.length≤1100000;omega);simp only[Vv]at U;obtain⟨e,he⟩:∃e,P03.check t most=e:=⟨_,rfl⟩;rw[he];simp only[he]at U;clear he;have S:=Ab U;have jk:((k:Int) != 1)=false:=by simp;omega
  clear U hk;by_cases h0:e=0
  ·subst h0;refine⟨t,0,0,fun w=>?_,.inl ⟨by simp,rfl,rfl⟩⟩;obtain⟨H,J⟩:∃H,w.heap.size=H:=⟨_,rfl⟩;obtain⟨W0,D,G,R,g1,Y⟩:=A0 w (.cells #[.int .u8 k,.string ⟨t.toArray⟩,.slice ka ks.length kc,.slice da ds.length dc,.int .i64 l] 26) (.cells #[.int .i64 0,.int .i64 0] 29) H J;have x0:=Ad R;have y0:=Af g1;have Q:=Ab D;have I:=Ab G;have Z:=Ab R;have N:=Ab g1;clear D G R g1;have X:=Ab (Aa S W0);clear S;go_enter Tryz.func60,Tryz.ntmps60
   go_upto_region 1 with fail
   try rw[J]
   rw[Aa Q];go_wp2_with (go_at_call 84;refine(Aa X).mono ?_;rintro x3 w3 ⟨rfl,rfl⟩)
   refine qW (As rfl _ _ _ (H+1) _ rfl (Ai (A3 (Aa N) _ _))) rfl ⟨rfl,by rw[J];first|exact Ax (Aa I) (show H≤H+1 by omega) _ _|exact Ax (Aa I).drew (show H≤H+1 by omega) _ _⟩
  ·refine⟨[],e,l,fun w=>?_,.inr ⟨by rw[if_pos h0],h0⟩⟩;obtain⟨H,J⟩:∃H,w.heap.size=H:=⟨_,rfl⟩;obtain⟨W0,D,G,R,g1,Y⟩:=A0 w (.cells #[.int .u8 k,.string ⟨t.toArray⟩,.slice ka ks.length kc,.slice da ds.length dc,.int .i64 l] 26) (.cells #[.int .i64 0,.int .i64 0] 29) H J;have x0:=Ad R;have y0:=Af g1;have Q:=Ab D;have I:=Ab G;have Z:=Ab R;have N:=Ab g1;clear D G R g1;have X:=Ab (Aa S W0);have je:(e != 0)=true:=by simpa using h0
   have aB:=Dl;clear S h0;go_enter Tryz.func60,Tryz.ntmps60
   go_upto_region 1 with fail
   try rw[J]
   rw[Aa Q];go_upto_region 5 with(go_at_call 84;refine(Aa X).mono ?_;rintro x3 w3 ⟨rfl,rfl⟩)
   go_region
   all_goals go_wp2
   all_goals exact qW (As rfl _ _ _ (H+1) _ rfl (Ai (A3 (Aa N) _ _))) rfl ⟨rfl,by rw[J];first|exact Ax (Aa I) (show H≤H+1 by omega) _ _|exact Ax (Aa I).drew (show H≤H+1 by omega) _ _⟩
 ·refine⟨[],7,l,fun w=>?_,.inr ⟨by rw[if_pos hk],by decide⟩⟩;obtain⟨H,J⟩:∃H,w.heap.size=H:=⟨_,rfl⟩;obtain⟨W0,D,G,R,g1,Y⟩:=A0 w (.cells #[.int .u8 k,.string ⟨t.toArray⟩,.slice ka ks.length kc,.slice da ds.length dc,.int .i64 l] 26) (.cells #[.int .i64 0,.int .i64 0] 29) H J;have x0:=Ad R;have y0:=Af g1;have Q:=Ab D;have I:=Ab G;have Z:=Ab R;have N:=Ab g1;clear D G R g1;have j1:((k:Int) != 1)=true:=by simp;omega
  have aB:=Dl;clear hk;go_enter Tryz.func60,Tryz.ntmps60
  go_upto_region 1 with fail
  try rw[J]
  rw[Aa Q];go_upto_region 2 with fail
  go_region
  all_goals go_wp2
  all_goals exact qW (As rfl _ _ _ (H+1) _ rfl (Ai (A3 (Aa N) _ _))) rfl ⟨rfl,by rw[J];first|exact Ax (Aa I) (show H≤H+1 by omega) _ _|exact Ax (Aa I).drew (show H≤H+1 by omega) _ _⟩
theorem Ex(k:Nat)(t:List UInt8)(ka:Option Addr)(kc:Nat)(ks:List (List UInt8))(da:Option Addr)(dc:Nat)(ds:List Nd)(l:Int)(aC:t.length≤100000) :
  ∃v e l',(∀w:World,Calls Tryz.prog 96 #[.agg #[.int .u8 k,.string ⟨t.toArray⟩,.slice ka ks.length kc,.slice da ds.length dc,.int .i64 l]] w fun x w'=>x=.returned (.tuple #[.int .i64 v,fV e l'])∧Below w.heap.size w w')∧Rq (P22.numE (Nd.mk k t ka kc ks da dc ds l).bare) v e l':=by
 have aA:P22.numE (Nd.mk k t ka kc ks da dc ds l).bare=(if k≠1 then .error (7,l) else if (P18.number t).2≠0 then .error ((P18.number t).2,l) else .ok (P18.number t).1):=by
  simp only[Nd.bare];rfl
 rw[aA];clear aA;by_cases hk:k=1
 ·rw[if_neg (by simpa using hk)];have U:=fun w=>Jr ⟨t.toArray⟩ w (by rw[zP];show t.length≤100000;omega);simp only[Vv]at U;obtain⟨v,hv⟩:∃v,(P18.number t).1=v:=⟨_,rfl⟩;obtain⟨e,he⟩:∃e,(P18.number t).2=e:=⟨_,rfl⟩;rw[he,hv];simp only[he,hv]at U;clear he hv;have S:=Ab U;have jk:((k:Int) != 1)=false:=by simp;omega
  clear U hk;by_cases h0:e=0
  ·subst h0;refine⟨v,0,0,fun w=>?_,.inl ⟨by simp,rfl,rfl⟩⟩;obtain⟨H,J⟩:∃H,w.heap.size=H:=⟨_,rfl⟩;obtain⟨W0,D,G,R,g1,Y⟩:=A0 w (.cells #[.int .u8 k,.string ⟨t.toArray⟩,.slice ka ks.length kc,.slice da ds.length dc,.int .i64 l] 26) (.cells #[.int .i64 0,.int .i64 0] 29) H J;have x0:=Ad R;have y0:=Af g1;have Q:=Ab D;have I:=Ab G;have Z:=Ab R;have N:=Ab g1;clear D G R g1;have X:=Ab (Aa S W0);clear S;go_enter Tryz.func96,Tryz.ntmps96
   go_upto_region 1 with fail
   try rw[J]
   rw[Aa Q];go_wp2_with (go_at_call 25;refine(Aa X).mono ?_;rintro x3 w3 ⟨rfl,rfl⟩)
   refine qW (As rfl _ _ _ (H+1) _ rfl (Ai (A3 (Aa N) _ _))) rfl ⟨rfl,by rw[J];first|exact Ax (Aa I) (show H≤H+1 by omega) _ _|exact Ax (Aa I).drew (show H≤H+1 by omega) _ _⟩
  ·refine⟨0,e,l,fun w=>?_,.inr ⟨by rw[if_pos h0],h0⟩⟩;obtain⟨H,J⟩:∃H,w.heap.size=H:=⟨_,rfl⟩;obtain⟨W0,D,G,R,g1,Y⟩:=A0 w (.cells #[.int .u8 k,.string ⟨t.toArray⟩,.slice ka ks.length kc,.slice da ds.length dc,.int .i64 l] 26) (.cells #[.int .i64 0,.int .i64 0] 29) H J;have x0:=Ad R;have y0:=Af g1;have Q:=Ab D;have I:=Ab G;have Z:=Ab R;have N:=Ab g1;clear D G R g1;have X:=Ab (Aa S W0);have je:(e != 0)=true:=by simpa using h0
   have aB:=Dl;clear S h0;go_enter Tryz.func96,Tryz.ntmps96
   go_upto_region 1 with fail
   try rw[J]
   rw[Aa Q];go_upto_region 5 with(go_at_call 25;refine(Aa X).mono ?_;rintro x3 w3 ⟨rfl,rfl⟩)
   go_region
   all_goals go_wp2
   all_goals exact qW (As rfl _ _ _ (H+1) _ rfl (Ai (A3 (Aa N) _ _))) rfl ⟨rfl,by rw[J];first|exact Ax (Aa I) (show H≤H+1 by omega) _ _|exact Ax (Aa I).drew (show H≤H+1 by omega) _ _⟩
 ·refine⟨0,7,l,fun w=>?_,.inr ⟨by rw[if_pos hk],by decide⟩⟩;obtain⟨H,J⟩:∃H,w.heap.size=H:=⟨_,rfl⟩;obtain⟨W0,D,G,R,g1,Y⟩:=A0 w (.cells #[.int .u8 k,.string ⟨t.toArray⟩,.slice ka ks.length kc,.slice da ds.length dc,.int .i64 l] 26) (.cells #[.int .i64 0,.int .i64 0] 29) H J;have x0:=Ad R;have y0:=Af g1;have Q:=Ab D;have I:=Ab G;have Z:=Ab R;have N:=Ab g1;clear D G R g1;have j1:((k:Int) != 1)=true:=by simp;omega
  have aB:=Dl;clear hk;go_enter Tryz.func96,Tryz.ntmps96
  go_upto_region 1 with fail
  try rw[J]
  rw[Aa Q];go_upto_region 2 with fail
  go_region
  all_goals go_wp2
  all_goals exact qW (As rfl _ _ _ (H+1) _ rfl (Ai (A3 (Aa N) _ _))) rfl ⟨rfl,by rw[J];first|exact Ax (Aa I) (show H≤H+1 by omega) _ _|exact Ax (Aa I).drew (show H≤H+1 by omega) _ _⟩
theorem Ji(k:Nat)(t:List UInt8)(ka:Option Addr)(kc:Nat)(ks:List (List UInt8))(da:Option Addr)(dc:Nat)(ds:List Nd)(l:Int)(x:List UInt8)(w:World)(h:Eu w ka ks)(hl:ks.length≤100000000) :
  Calls Tryz.prog 62 #[.agg #[.int .u8 k,.string ⟨t.toArray⟩,.slice ka ks.length kc,.slice da ds.length dc,.int .i64 l],.string ⟨x.toArray⟩] w fun e w'=>e=.returned (.bool (decide (x∈ks)))∧Below w.heap.size w w':=by
 obtain⟨H,Y⟩:∃H,w.heap.size=H:=⟨_,rfl⟩;obtain⟨N,D⟩:∃N,w.alloc (.cells #[.int .u8 k,.string ⟨t.toArray⟩,.slice ka ks.length kc,.slice da ds.length dc,.int .i64 l] 26)=N:=⟨_,rfl⟩;have I:Below w.heap.size w N:=by rw[←D];exact(qV _ w).alloc (qJ _) _
 have S:N.heap[H]?=some (.cells #[.int .u8 k,.string ⟨t.toArray⟩,.slice ka ks.length kc,.slice da ds.length dc,.int .i64 l] 26):=by rw[←D,←Y];exact qB _ _
 obtain⟨n,hn⟩:∃n,ks.length=n:=⟨_,rfl⟩;rw[hn]at hl D S ⊢;have x0:=Ad S;have h0:=Eu.below h I;have HN:=Ab hn;have HI:=Ab h0;have R:=Ab D;have Q:=Ab I;clear hn h h0 D S I;go_enter Tryz.func62,Tryz.ntmps62
 go_upto_region 1 with fail
 try rw[Y]
 try rw[Aa R]
 go_wp2
 go_loopg [5] n (fun g s5 wx=>∃i:Nat,i+g=n∧s5=.int .i64 i∧Hid (decide (x∈ks)=decide (x∈ks.drop i))∧N=wx)
 case atStart=>exact⟨0,by omega,by go_num,Ab rfl,rfl⟩
 case round=>
  obtain⟨i,aA,rfl,U,rfl⟩:=hrel;cases gk with
  |zero=>
   have e1:(n:Int)=(i:Int):=by omega
   have HE:=Ab (show i=n by omega);go_wp2;go_ret;refine⟨Bn ?_,Aa Q⟩;rw[Aa U,qM (by rw[Aa HN];have:=Aa HE;omega)];rfl
  |succ g'=>
   have aB:(i:Int)<(n:Int):=by omega
   have aD:IntKind.i64.wrap ((i:Int)+1)=(i:Int)+1:=qG _ (by omega);have J:i<ks.length:=by rw[Aa HN];omega
   obtain⟨y,X⟩:∃y,ks[i]=y:=⟨_,rfl⟩;obtain⟨b,o,rfl,hc⟩:=Aa HI i y (by rw[qO J,X]);have hd:ks.drop i=y::ks.drop (i+1):=by rw[qL J,X]
   have Z:=Ab hd;clear hd X;by_cases G:y=x
   ·subst G;go_wp2;go_ret;refine⟨Bn ?_,Aa Q⟩;rw[Aa U,Aa Z];simp
   ·have HX:=Ab G;have aC:(y==x)=false:=by simpa using G
    clear G;go_wp2;go_roundg g'
    case measure=>omega
    case rel=>
     refine⟨i+1,by omega,by go_num,Ab ?_,rfl⟩;rw[Aa U,Aa Z];have:=Aa HX;simp[Ne.symm this]
theorem Hm{W:World}{g:Nat}{I J D G u4:Value}(h:W.heap[g]?=some (.cells #[I,J,D,G,u4] 26)):(loadVar 26 ⟨g,0,none⟩).run Tryz.prog W=.ok (.agg #[I,J,D,G,u4]) W:=qX _ _ _ _ _ _ _ h Tryz.underlying26 rfl (by kernel_rfl)
theorem Ns{B g:Nat}{w W:World}(h:Below B w W)(D:B≤g)(v0 G I v3 v4:Value):Below B w (((((W.setCell ⟨g,0,none⟩ v0).setCell ⟨g,1,none⟩ G).setCell ⟨g,2,none⟩ I).setCell ⟨g,3,none⟩ v3).setCell ⟨g,4,none⟩ v4):=
 ((((h.setCell (p:=⟨g,0,none⟩) D _).setCell (p:=⟨g,1,none⟩) D _).setCell (p:=⟨g,2,none⟩) D _).setCell (p:=⟨g,3,none⟩) D _).setCell (p:=⟨g,4,none⟩) D _
theorem Rh{B g1 g2:Nat}{w W:World}{a0 Q N a3 a4 b0 b1:Value}(hb:Below B w W)(h1:W.heap[g1]?=some (.cells #[a0,Q,N,a3,a4] 26))(h2:W.heap[g2]?=some (.cells #[b0,b1] 29))(J:B≤g1)(I:B≤g2)(hne:g1≠g2)(v0 D G v3 v4 e l:Value) :
  Below B w (((((((W.setCell ⟨g1,0,none⟩ v0).setCell ⟨g1,1,none⟩ D).setCell ⟨g1,2,none⟩ G).setCell ⟨g1,3,none⟩ v3).setCell ⟨g1,4,none⟩ v4).setCell ⟨g2,0,none⟩ e).setCell ⟨g2,1,none⟩ l)∧(((((((W.setCell ⟨g1,0,none⟩ v0).setCell ⟨g1,1,none⟩ D).setCell ⟨g1,2,none⟩ G).setCell ⟨g1,3,none⟩ v3).setCell ⟨g1,4,none⟩ v4).setCell ⟨g2,0,none⟩ e).setCell ⟨g2,1,none⟩ l).heap[g1]?=some (.cells #[v0,D,G,v3,v4] 26)∧(((((((W.setCell ⟨g1,0,none⟩ v0).setCell ⟨g1,1,none⟩ D).setCell ⟨g1,2,none⟩ G).setCell ⟨g1,3,none⟩ v3).setCell ⟨g1,4,none⟩ v4).setCell ⟨g2,0,none⟩ e).setCell ⟨g2,1,none⟩ l).heap[g2]?=some (.cells #[e,l] 29):=by
 have S:=Ns hb J v0 D G v3 v4;have R:=B9 h1 v0 D G v3 v4;have U:=(Az (W:=W) (g:=g1) (Ne.symm hne) v0 D G v3 v4).trans h2;refine⟨Ax S I e l,?_,?_⟩
 ·exact(Ar hne e l).trans R
 ·exact A3 U e l
theorem F2(W:World):W.drew.heap=W.heap:=rfl
theorem Pd{B g1 g2:Nat}{w W:World}{a0 Q N a3 a4 b0 b1:Value}(hb:Below B w W)(h1:W.heap[g1]?=some (.cells #[a0,Q,N,a3,a4] 26))(h2:W.heap[g2]?=some (.cells #[b0,b1] 29))(J:B≤g1)(I:B≤g2)(hne:g1≠g2)(v0 D G v3 v4 e l:Value) :
  Below B w (((((((W.setCell ⟨g1,0,none⟩ v0).setCell ⟨g1,1,none⟩ D).setCell ⟨g1,2,none⟩ G).setCell ⟨g1,3,none⟩ v3).setCell ⟨g1,4,none⟩ v4).setCell ⟨g2,0,none⟩ e).setCell ⟨g2,1,none⟩ l).drew∧(((((((W.setCell ⟨g1,0,none⟩ v0).setCell ⟨g1,1,none⟩ D).setCell ⟨g1,2,none⟩ G).setCell ⟨g1,3,none⟩ v3).setCell ⟨g1,4,none⟩ v4).setCell ⟨g2,0,none⟩ e).setCell ⟨g2,1,none⟩ l).drew.heap[g1]?=some (.cells #[v0,D,G,v3,v4] 26)∧(((((((W.setCell ⟨g1,0,none⟩ v0).setCell ⟨g1,1,none⟩ D).setCell ⟨g1,2,none⟩ G).setCell ⟨g1,3,none⟩ v3).setCell ⟨g1,4,none⟩ v4).setCell ⟨g2,0,none⟩ e).setCell ⟨g2,1,none⟩ l).drew.heap[g2]?=some (.cells #[e,l] 29):=by
 have q:=Rh hb h1 h2 J I hne v0 D G v3 v4 e l;rw[F2];exact⟨q.1.drew,q.2⟩
theorem Ra(k:Nat)(t:List UInt8)(ka:Option Addr)(kc:Nat)(ks:List (List UInt8))(da:Option Addr)(dc:Nat)(ds:List Nd)(l:Int)(hs:Sk (Nd.mk k t ka kc ks da dc ds l).bare)(hz:((Nd.mk k t ka kc ks da dc ds l).bare.size 18).2≤1000000000) :
  ∃e l',(∀w:World,(Nd.mk k t ka kc ks da dc ds l).In w→Calls Tryz.prog 97 #[.agg #[.int .u8 k,.string ⟨t.toArray⟩,.slice ka ks.length kc,.slice da ds.length dc,.int .i64 l]] w fun x w'=>x=.returned (.tuple #[.agg #[.int .u8 k,.string ⟨t.toArray⟩,.slice ka ks.length kc,.slice da ds.length dc,.int .i64 l],fV e l'])∧Below w.heap.size w w')∧Rq (P22.noteE (Nd.mk k t ka kc ks da dc ds l).bare) (Nd.mk k t ka kc ks da dc ds l).bare e l':=by
 have aL:=fun w N=>L7 (Nd.mk k t ka kc ks da dc ds l) w N hs;have aK:=fun w N=>Pz (Nd.mk k t ka kc ks da dc ds l) 18 w N (by omega) hz;rw[Nd.val_eq]at aL aK;obtain⟨c,hc⟩:∃c,(Nd.mk k t ka kc ks da dc ds l).bare.check 1=c:=⟨_,rfl⟩;obtain⟨dd,aQ⟩:∃dd,((Nd.mk k t ka kc ks da dc ds l).bare.size 18).1=dd:=⟨_,rfl⟩;obtain⟨nn,aW⟩:∃nn,((Nd.mk k t ka kc ks da dc ds l).bare.size 18).2=nn:=⟨_,rfl⟩;have aR:(Nd.mk k t ka kc ks da dc ds l).bare.line=l:=rfl;unfold P22.noteE;rw[hc,aQ,aR];rw[hc]at aL;rw[aQ,aW]at aK;have aN:=Ab aL;have aT:=Ab aK;clear aL aK hc aQ aW hs hz aR;by_cases h0:c=0
 ·subst h0;rw[if_neg (by simp)];by_cases h1:13<dd
  ·rw[if_pos h1];refine⟨11,l,fun w N=>?_,.inr ⟨rfl,by decide⟩⟩;obtain⟨H,Y⟩:∃H,w.heap.size=H:=⟨_,rfl⟩;obtain⟨J,Q⟩:∃J,((w.alloc (.cells #[.int .u8 k,.string ⟨t.toArray⟩,.slice ka ks.length kc,.slice da ds.length dc,.int .i64 l] 26)).alloc (.cells #[.int .u8 0,.string ⟨#[]⟩,.slice none 0 0,.slice none 0 0,.int .i64 0] 26)).alloc (.cells #[.int .i64 0,.int .i64 0] 29)=J:=⟨_,rfl⟩;obtain⟨R,S,G⟩:=Cf [.cells #[.int .u8 k,.string ⟨t.toArray⟩,.slice ka ks.length kc,.slice da ds.length dc,.int .i64 l] 26,.cells #[.int .u8 0,.string ⟨#[]⟩,.slice none 0 0,.slice none 0 0,.int .i64 0] 26,.cells #[.int .i64 0,.int .i64 0] 29] w;rw[show ([.cells #[.int .u8 k,.string ⟨t.toArray⟩,.slice ka ks.length kc,.slice da ds.length dc,.int .i64 l] 26,.cells #[.int .u8 0,.string ⟨#[]⟩,.slice none 0 0,.slice none 0 0,.int .i64 0] 26,.cells #[.int .i64 0,.int .i64 0] 29]:List Obj).foldl World.alloc w=J from Q,Y]at R S G;replace S:J.heap.size=H+1+1+1:=S;have g0:J.heap[H]?=some (.cells #[.int .u8 k,.string ⟨t.toArray⟩,.slice ka ks.length kc,.slice da ds.length dc,.int .i64 l] 26):=G 0 _ rfl;have g1:J.heap[H+1]?=some (.cells #[.int .u8 0,.string ⟨#[]⟩,.slice none 0 0,.slice none 0 0,.int .i64 0] 26):=G 1 _ rfl;have g2:J.heap[H+1+1]?=some (.cells #[.int .i64 0,.int .i64 0] 29):=G 2 _ rfl;have aE:=Ab Q;have U:=Ab R;have X:=Ab g0;have aD:=Ab g1;have aH:=Ab g2;have aU:=Dl;clear Q R g0 g1 g2 G;have aA:=Ab N;have j1:(13:Int)<(dd:Int):=by omega
   clear h1 N;go_enter Tryz.func97,Tryz.ntmps97
   go_upto_region 1 with fail
   try rw[Y]
   rw[Aa aE];have x0:=Ad (Aa X)
   go_upto_region 6 with(first
    |(go_at_call 17;refine(Aa aN J ((Aa aA).below (by rw[Y];exact Aa U))).mono ?_;rintro x2 w2 ⟨rfl,D⟩;have aS:=D.size;have r0:=(D.block H (by omega)).trans (Aa X);have r1:=(D.block (H+1) (by omega)).trans (Aa aD);have r2:=(D.block (H+1+1) (by omega)).trans (Aa aH);have z0:=Ad r0;have Z:=Ab D;have aJ:=Ab r0;have aC:=Ab r1;have aB:=Ab r2;clear D r0 r1 r2)
    | (go_at_call 18;refine(Aa aT w2 ((Aa aA).below (by rw[Y];exact(Aa U).trans ((Aa Z).mono (by omega))))).mono ?_;rintro x3 w3 ⟨rfl,I⟩;have aX:=I.size;have y1:=(I.block (H+1) (by omega)).trans (Aa aC);have y2:=(I.block (H+1+1) (by omega)).trans (Aa aB);have y0:=(I.block H (by omega)).trans (Aa aJ);have aO:=Ab I;have aG:=Ab y1;have aI:=Ab y2;have aM:=Ab y0;clear I y0 y1 y2))
   have v0:=Ad (Aa aM);have v1:=Ad (Aa aG);have v2:=Af (Aa aI);go_region_with_o (fail)
   all_goals go_wp2
   all_goals (have HE:=Ab (Pd (B:=H) (g1:=H+1) (g2:=H+1+1) (w:=w) ((Aa U).trans (((Aa Z).mono (by omega)).trans ((Aa aO).mono (by omega)))) (Aa aG) (Aa aI) (by omega) (by omega) (by omega) (.int .u8 k) (.string ⟨t.toArray⟩) (.slice ka ks.length kc) (.slice da ds.length dc) (.int .i64 l) (.int .i64 11) (.int .i64 l));exact qW (Al rfl _ _ _ (H+1) (H+1+1) _ _ rfl (Hm (Aa HE).2.1) rfl (Ai (Aa HE).2.2)) rfl ⟨rfl,by rw[Y];exact(Aa HE).1⟩)
  ·rw[if_neg h1];refine⟨0,0,fun w N=>?_,.inl ⟨rfl,rfl,rfl⟩⟩;obtain⟨H,Y⟩:∃H,w.heap.size=H:=⟨_,rfl⟩;obtain⟨J,Q⟩:∃J,((w.alloc (.cells #[.int .u8 k,.string ⟨t.toArray⟩,.slice ka ks.length kc,.slice da ds.length dc,.int .i64 l] 26)).alloc (.cells #[.int .u8 0,.string ⟨#[]⟩,.slice none 0 0,.slice none 0 0,.int .i64 0] 26)).alloc (.cells #[.int .i64 0,.int .i64 0] 29)=J:=⟨_,rfl⟩;obtain⟨R,S,G⟩:=Cf [.cells #[.int .u8 k,.string ⟨t.toArray⟩,.slice ka ks.length kc,.slice da ds.length dc,.int .i64 l] 26,.cells #[.int .u8 0,.string ⟨#[]⟩,.slice none 0 0,.slice none 0 0,.int .i64 0] 26,.cells #[.int .i64 0,.int .i64 0] 29] w;rw[show ([.cells #[.int .u8 k,.string ⟨t.toArray⟩,.slice ka ks.length kc,.slice da ds.length dc,.int .i64 l] 26,.cells #[.int .u8 0,.string ⟨#[]⟩,.slice none 0 0,.slice none 0 0,.int .i64 0] 26,.cells #[.int .i64 0,.int .i64 0] 29]:List Obj).foldl World.alloc w=J from Q,Y]at R S G;replace S:J.heap.size=H+1+1+1:=S;have g0:J.heap[H]?=some (.cells #[.int .u8 k,.string ⟨t.toArray⟩,.slice ka ks.length kc,.slice da ds.length dc,.int .i64 l] 26):=G 0 _ rfl;have g1:J.heap[H+1]?=some (.cells #[.int .u8 0,.string ⟨#[]⟩,.slice none 0 0,.slice none 0 0,.int .i64 0] 26):=G 1 _ rfl;have g2:J.heap[H+1+1]?=some (.cells #[.int .i64 0,.int .i64 0] 29):=G 2 _ rfl;have aE:=Ab Q;have U:=Ab R;have X:=Ab g0;have aD:=Ab g1;have aH:=Ab g2;have aU:=Dl;clear Q R g0 g1 g2 G;have aA:=Ab N;have j1:(dd:Int)≤(13:Int):=by omega
   clear h1 N;go_enter Tryz.func97,Tryz.ntmps97
   go_upto_region 1 with fail
   try rw[Y]
   rw[Aa aE];have x0:=Ad (Aa X)
   go_upto_region 7 with(first
    |(go_at_call 17;refine(Aa aN J ((Aa aA).below (by rw[Y];exact Aa U))).mono ?_;rintro x2 w2 ⟨rfl,D⟩;have aS:=D.size;have r0:=(D.block H (by omega)).trans (Aa X);have r1:=(D.block (H+1) (by omega)).trans (Aa aD);have r2:=(D.block (H+1+1) (by omega)).trans (Aa aH);have z0:=Ad r0;have Z:=Ab D;have aJ:=Ab r0;have aC:=Ab r1;have aB:=Ab r2;clear D r0 r1 r2)
    | (go_at_call 18;refine(Aa aT w2 ((Aa aA).below (by rw[Y];exact(Aa U).trans ((Aa Z).mono (by omega))))).mono ?_;rintro x3 w3 ⟨rfl,I⟩;have aX:=I.size;have y1:=(I.block (H+1) (by omega)).trans (Aa aC);have y2:=(I.block (H+1+1) (by omega)).trans (Aa aB);have y0:=(I.block H (by omega)).trans (Aa aJ);have aO:=Ab I;have aG:=Ab y1;have aI:=Ab y2;have aM:=Ab y0;clear I y0 y1 y2))
   have v0:=Ad (Aa aM);have v1:=Ad (Aa aG);have v2:=Af (Aa aI);go_wp2
   (have HE:=Ab (Rh (B:=H) (g1:=H+1) (g2:=H+1+1) (w:=w) ((Aa U).trans (((Aa Z).mono (by omega)).trans ((Aa aO).mono (by omega)))) (Aa aG) (Aa aI) (by omega) (by omega) (by omega) (.int .u8 k) (.string ⟨t.toArray⟩) (.slice ka ks.length kc) (.slice da ds.length dc) (.int .i64 l) (.int .i64 0) (.int .i64 0));exact qW (Al rfl _ _ _ (H+1) (H+1+1) _ _ rfl (Hm (Aa HE).2.1) rfl (Ai (Aa HE).2.2)) rfl ⟨rfl,by rw[Y];exact(Aa HE).1⟩)
 ·rw[if_pos h0];refine⟨c,l,fun w N=>?_,.inr ⟨rfl,h0⟩⟩;obtain⟨H,Y⟩:∃H,w.heap.size=H:=⟨_,rfl⟩;obtain⟨J,Q⟩:∃J,((w.alloc (.cells #[.int .u8 k,.string ⟨t.toArray⟩,.slice ka ks.length kc,.slice da ds.length dc,.int .i64 l] 26)).alloc (.cells #[.int .u8 0,.string ⟨#[]⟩,.slice none 0 0,.slice none 0 0,.int .i64 0] 26)).alloc (.cells #[.int .i64 0,.int .i64 0] 29)=J:=⟨_,rfl⟩;obtain⟨R,S,G⟩:=Cf [.cells #[.int .u8 k,.string ⟨t.toArray⟩,.slice ka ks.length kc,.slice da ds.length dc,.int .i64 l] 26,.cells #[.int .u8 0,.string ⟨#[]⟩,.slice none 0 0,.slice none 0 0,.int .i64 0] 26,.cells #[.int .i64 0,.int .i64 0] 29] w;rw[show ([.cells #[.int .u8 k,.string ⟨t.toArray⟩,.slice ka ks.length kc,.slice da ds.length dc,.int .i64 l] 26,.cells #[.int .u8 0,.string ⟨#[]⟩,.slice none 0 0,.slice none 0 0,.int .i64 0] 26,.cells #[.int .i64 0,.int .i64 0] 29]:List Obj).foldl World.alloc w=J from Q,Y]at R S G;replace S:J.heap.size=H+1+1+1:=S;have g0:J.heap[H]?=some (.cells #[.int .u8 k,.string ⟨t.toArray⟩,.slice ka ks.length kc,.slice da ds.length dc,.int .i64 l] 26):=G 0 _ rfl;have g1:J.heap[H+1]?=some (.cells #[.int .u8 0,.string ⟨#[]⟩,.slice none 0 0,.slice none 0 0,.int .i64 0] 26):=G 1 _ rfl;have g2:J.heap[H+1+1]?=some (.cells #[.int .i64 0,.int .i64 0] 29):=G 2 _ rfl;have aE:=Ab Q;have U:=Ab R;have X:=Ab g0;have aD:=Ab g1;have aH:=Ab g2;have aU:=Dl;clear Q R g0 g1 g2 G;have aA:=Ab N;have j1:(c != 0)=true:=by simpa using h0
  clear h0 N;go_enter Tryz.func97,Tryz.ntmps97
  go_upto_region 1 with fail
  try rw[Y]
  rw[Aa aE];have x0:=Ad (Aa X);go_upto_region 3 with(go_at_call 17;refine(Aa aN J ((Aa aA).below (by rw[Y];exact Aa U))).mono ?_;rintro x2 w2 ⟨rfl,D⟩;have aS:=D.size;have r0:=(D.block H (by omega)).trans (Aa X);have r1:=(D.block (H+1) (by omega)).trans (Aa aD);have r2:=(D.block (H+1+1) (by omega)).trans (Aa aH);have z0:=Ad r0;have Z:=Ab D;have aJ:=Ab r0;have aC:=Ab r1;have aB:=Ab r2;clear D r0 r1 r2)
  have v0:=Ad (Aa aJ);have v1:=Ad (Aa aC);have v2:=Af (Aa aB);go_region_with_o (fail)
  all_goals go_wp2
  all_goals (have HE:=Ab (Pd (B:=H) (g1:=H+1) (g2:=H+1+1) (w:=w) ((Aa U).trans ((Aa Z).mono (by omega))) (Aa aC) (Aa aB) (by omega) (by omega) (by omega) (.int .u8 k) (.string ⟨t.toArray⟩) (.slice ka ks.length kc) (.slice da ds.length dc) (.int .i64 l) (.int .i64 c) (.int .i64 l));exact qW (Al rfl _ _ _ (H+1) (H+1+1) _ _ rfl (Hm (Aa HE).2.1) rfl (Ai (Aa HE).2.2)) rfl ⟨rfl,by rw[Y];exact(Aa HE).1⟩)
open P20 (okF)
def Vj(w:World)(res:Except P22.F (List (List UInt8)))(e:Ending)(w':World):Prop:=
 Below w.heap.size w w'∧∃a c xs D G,e=.returned (.tuple #[.slice a (xs:List (List UInt8)).length c,fV D G])∧Strs w' w.heap.size (.slice a xs.length c) xs∧Rq res xs D G
theorem J2{W W':World}{B:Nat}{v:Value}{ls:List (List UInt8)}(h:Strs W B v ls)(hk:∀g,v.ownBlock=some g→W'.heap[g]?=W.heap[g]?):Strs W' B v ls:=⟨Ds h.own hk⟩
theorem Sf{W:World}{B B':Nat}{v:Value}{ls:List (List UInt8)}(h:Strs W B v ls)(hB:B'≤B):Strs W B' v ls:=by
 refine⟨⟨h.own.1,?_⟩⟩;rcases h.own.2 with h2|⟨g,cap,D,J,G,I⟩
 ·exact .inl h2
 ·exact .inr ⟨g,cap,D,J,qK hB G,I⟩
theorem Lz{B g:Nat}{w W:World}{a b:Value}(hb:Below B w W)(G:B≤g)(h:W.heap[g]?=some (.cells #[a,b] 29))(v0 D:Value):Below B w ((W.setCell ⟨g,0,none⟩ v0).setCell ⟨g,1,none⟩ D).drew∧((W.setCell ⟨g,0,none⟩ v0).setCell ⟨g,1,none⟩ D).drew.heap[g]?=some (.cells #[v0,D] 29):=by
 have q:=A3 h v0 D;rw[F2];exact⟨(Ax hb G v0 D).drew,q⟩
theorem Jw{B g:Nat}{w W:World}{a b:Value}(hb:Below B w W)(G:B≤g)(h:W.heap[g]?=some (.cells #[a,b] 29))(v0 D:Value):Below B w ((W.drew.setCell ⟨g,0,none⟩ v0).setCell ⟨g,1,none⟩ D)∧((W.drew.setCell ⟨g,0,none⟩ v0).setCell ⟨g,1,none⟩ D).heap[g]?=some (.cells #[v0,D] 29):=
 ⟨Ax hb.drew G v0 D,A3 (by rw[F2];exact h) v0 D⟩
theorem M7(k:Nat)(t:List UInt8)(ka:Option Addr)(kc:Nat)(ks:List (List UInt8))(da:Option Addr)(dc:Nat)(ds:List Nd)(l:Int)(w:World)(aX:(Nd.mk k t ka kc ks da dc ds l).In w)(bI:okF (Nd.mk k t ka kc ks da dc ds l).bare):Calls Tryz.prog 94 #[.agg #[.int .u8 k,.string ⟨t.toArray⟩,.slice ka ks.length kc,.slice da ds.length dc,.int .i64 l]] w (Vj w (P22.namesE (Nd.mk k t ka kc ks da dc ds l).bare)):=by
 obtain⟨q1,q2,q3,q4,q5⟩:=bI.kid;rw[Bs]at q4;have bB:=aX.kids;simp only[Nd.da,Nd.kids]at bB
 have bL:∀d∈ds,d.bare.text.length≤100000:=fun d hd=>by
  have h:=q5 _ (by rw[Ci];exact zC hd);obtain⟨k1,t1,bY,bM,bP,bJ,bO,bX,l1⟩:=d;exact h.kid.1
 obtain⟨H,hH⟩:∃H,w.heap.size=H:=⟨_,rfl⟩;obtain⟨W0,aQ,bF,g0,g1,cV⟩:=A0 w (.cells #[.int .u8 k,.string ⟨t.toArray⟩,.slice ka ks.length kc,.slice da ds.length dc,.int .i64 l] 26) (.cells #[.int .i64 0,.int .i64 0] 29) H hH;have x0:=Ad g0;have y0:=Af g1;obtain⟨D,hD⟩:∃D,ds.length=D:=⟨_,rfl⟩
 obtain⟨e,l',bZ,X⟩:∃e l',(∀w,Calls Tryz.prog 59 #[.agg #[.int .u8 k,.string ⟨t.toArray⟩,.slice ka ks.length kc,.slice da ds.length dc,.int .i64 l],.int .u8 2,.int .i64 64] w fun x w'=>x=.returned (fV e l')∧Below w.heap.size w w')∧((e≠0∧P22.namesE (Nd.mk k t ka kc ks da dc ds l).bare=.error (e,l'))∨(e=0∧l'=0∧P22.namesE (Nd.mk k t ka kc ks da dc ds l).bare=P22.rowGo (P22.textE 64) (Am ds) [])):=by
  have h:=fun w=>Iy k t ka kc ks da dc ds l 64 w
  have cF:P22.namesE (Nd.mk k t ka kc ks da dc ds l).bare=if k≠2 then .error (7,l) else if (64:Int)<((Am ds).length:Int) then .error (2,l) else P22.rowGo (P22.textE 64) (Am ds) []:=by
   simp only[Nd.bare];rfl
  rw[cF,Bs];by_cases hk:k=2
  ·rw[if_neg (by simpa using hk)];by_cases hn:64<ds.length
   ·rw[if_pos (by omega)];refine⟨2,l,fun w=>?_,.inl ⟨by decide,rfl⟩⟩;have:=h w;rw[if_neg (by simpa using hk),if_pos hn]at this;exact this
   ·rw[if_neg (by omega)];refine⟨0,0,fun w=>?_,.inr ⟨rfl,rfl,rfl⟩⟩;have:=h w;rw[if_neg (by simpa using hk),if_neg hn]at this;exact this
  ·rw[if_pos hk];refine⟨7,l,fun w=>?_,.inl ⟨by decide,rfl⟩⟩;have:=h w;rw[if_pos hk]at this;exact this
 obtain⟨aW,aI⟩:∃aW,P22.namesE (Nd.mk k t ka kc ks da dc ds l).bare=aW:=⟨_,rfl⟩;rw[aI]at X ⊢;have aR:=bZ W0;rw[hD]at aQ g0 x0 q4 aR ⊢;have bS:=Ab aQ;have cI:=Ab bF;have cN:=Ab g0;have cC:=Ab g1;have cO:=Ab aR;have HD:=Ab hD;have cD:=Ab bB;have cK:=Ab bL;have bC:=Ab X;have cS:=Ab aX;have cY:=Dl;clear aQ bF g0 g1 bZ aR X aI hD bB bL q5 q3 bI aX;go_enter Tryz.func94,Tryz.ntmps94
 go_upto_region 1 with fail
 try rw[hH]
 rw[Aa bS];go_upto_region 2 with(go_at_call 59;refine(Aa cO).mono ?_;rintro x2 w2 ⟨rfl,aS⟩;have cM:=aS.size;have aO:=Ab aS;clear aS)
 obtain⟨K,hK⟩:∃K,w2.heap.size=K:=⟨_,rfl⟩;obtain⟨W2,U⟩:∃W2,w2.alloc (.cells #[.int .i64 e,.int .i64 l'] 29)=W2:=⟨_,rfl⟩;have aD:Below K w2 W2:=by rw[←U];exact(qV _ w2).alloc (by omega) _
 have p0:W2.heap[K]?=some (.cells #[.int .i64 e,.int .i64 l'] 29):=by rw[←U,←hK];exact qB _ _
 have bT:W2.heap.size=K+1:=by rw[←U];simp;omega
 rw[U];rw[hK];rw[hK]at cM;have aZ:Below H w W2:=(Aa cI).trans (((Aa aO).mono (by omega)).trans (aD.mono (by omega)));have r0:=(aD.block H (by omega)).trans (((Aa aO).block H (by omega)).trans (Aa cN));have r1:=(aD.block (H+1) (by omega)).trans (((Aa aO).block (H+1) (by omega)).trans (Aa cC));have bH:=(Aa cD).below (by rw[hH];exact aZ);have z0:=Ad r0;have z1:=Af r1;have z2:=Af p0;have bA:=Ab aZ;have cE:=Ab r0;have aY:=Ab r1;have cB:=Ab bH;clear bS U aD p0 aZ r0 r1 x0 y0 bH;rcases Aa bC with⟨hne,hq⟩|⟨rfl,rfl,hq⟩
 ·have j1:(e != 0)=true:=by simpa using hne
  have Y:=Ab hne;have HQ:=Ab hq;clear hne hq bC;go_upto_region 3 with fail
  go_region
  all_goals go_wp2
  all_goals
   have HE:=Lz (B:=H) (g:=H+1) (w:=w) (Aa bA) (by omega) (Aa aY) (.int .i64 e) (.int .i64 l');have aB:=Jw (B:=H) (g:=H+1) (w:=w) (Aa bA) (by omega) (Aa aY) (.int .i64 e) (.int .i64 l')
   first
    |exact qW (As rfl _ _ _ (H+1) _ rfl (Ai HE.2)) rfl ⟨by rw[hH];exact HE.1,none,0,[],e,l',rfl,Strs.nil _ _,.inr ⟨Aa HQ,Aa Y⟩⟩
    |exact qW (As rfl _ _ _ (H+1) _ rfl (Ai aB.2)) rfl ⟨by rw[hH];exact aB.1,none,0,[],e,l',rfl,Strs.nil _ _,.inr ⟨Aa HQ,Aa Y⟩⟩
 ·have HQ:=Ab hq;have HZ:=Ab bT;obtain⟨Z,hZ⟩:∃Z,Z=K+1:=⟨_,rfl⟩;have cZ:H+1+1<Z:=by omega
  have cJ:=Ab hZ;clear hq bC bT hZ;go_wp2
  go_loopg [5,6] D (fun g s5 s6 wx=>∃(i:Nat) (acc:List (List UInt8)),i+g=D∧s6=.int .i64 i∧Hid (P22.rowGo (P22.textE 64) (Am (ds.drop i)) acc=aW)∧Hid (Strs wx Z s5 acc)∧Hid (Below Z W2 wx)∧Hid (acc.length=i))
  case atStart=>exact⟨0,[],by omega,by go_num,Ab (Aa HQ).symm,Ab (Strs.nil _ _),Ab (qV _ _),Ab rfl⟩
  case round=>
   obtain⟨i,acc,cR,rfl,HE,R,I,bR⟩:=hrel;have cQ:acc.length≤100000:=by have:=Aa bR;omega
   clear z0 z1 z2;have aU:Z=W2.heap.size:=by rw[Aa cJ,Aa HZ]
   have y0:=((Aa I).block H (by omega)).trans (Aa cE);have y1:=((Aa I).block (H+1) (by omega)).trans (Aa aY);have cW:Z≤wr.heap.size:=by rw[aU];exact(Aa I).size
   have bN:=Ab aU;have cA:Below H w wr:=(Aa bA).trans ((Aa I).mono (by omega));have z0:=Ad y0;have z1:=Af y1;obtain⟨ao,co,cH,_⟩:=(Aa R).slice;subst cH;have cL:=Ab y0;have bU:=Ab y1;have aN:=Ab cA;clear y0 y1 cA aU;cases gk with
   |zero=>
    have e1:(D:Int)≤(i:Int):=by omega
    have j1:decide ((i:Int)<(D:Int))=false:=by simp;omega
    have G:=Aa HE;rw[qM (l:=ds) (by rw[Aa HD];omega)]at G;simp only[Am,P22.rowGo]at G;have Q:=Ab G;clear G;go_wp2;refine qW (As rfl _ _ _ (H+1) _ rfl (Ai (A3 (Aa bU) _ _))) rfl ⟨by rw[hH];exact Ax (Aa aN) (show H≤H+1 by omega) _ _,ao,co,acc,0,0,rfl,?_,.inl ⟨(Aa Q).symm,rfl,rfl⟩⟩;rw[hH];refine Sf (J2 (Aa R) (fun g hg=>Ar ?_ _ _)) (by omega);have:=(Ao (Aa R).own g hg).1;omega
   |succ g'=>
    have cX:(i:Int)<(D:Int):=by omega
    have cU:IntKind.i64.wrap ((i:Int)+1)=(i:Int)+1:=qG _ (by omega);obtain⟨d,aE⟩:=V3 (Aa HD) (show i<D by omega);have bW:=Aa cK d (qN aE);have G:=Aa HE;rw[Cg aE]at G;unfold P22.rowGo at G;obtain⟨b2,o2,k1,t1,bY,bM,bP,bJ,bO,bX,l1,rfl,rfl,v0,v1,v2,v3,v4,bG⟩:=Ce ((Aa cB).below (by rw[←Aa bN];exact Aa I)) aE;obtain⟨x,ec,el,bK,hrx⟩:=Ei k1 t1 bY bM bP bJ bO bX l1 64 (by have:t1.length≤100000:=bW;omega);have bE:=Ab (bK wr);have bD:=Ab hrx;have Q:=Ab G;clear bK hrx G HE bW aE bG;go_upto_region 9 with(go_at_call 60;refine(Aa bE).mono ?_;rintro x5 w5 ⟨rfl,J⟩;have bV:=Ab J;clear J)
    obtain⟨F,hF⟩:∃F,w5.heap.size=F:=⟨_,rfl⟩;obtain⟨W6,aA⟩:∃W6,w5.alloc (.cells #[.int .i64 ec,.int .i64 el] 29)=W6:=⟨_,rfl⟩;have J:=Aa bV;have aT:=J.size;rw[hF]at aT;have N:Below wr.heap.size wr W6:=by rw[←aA];exact J.alloc (by rw[←hF]at aT;exact aT) _
    have p6:W6.heap[F]?=some (.cells #[.int .i64 ec,.int .i64 el] 29):=by rw[←aA,←hF];exact qB _ _
    have cT:F+1≤W6.heap.size:=by rw[←aA];simp;omega
    rw[aA];rw[hF];have y0:=(N.block H (by omega)).trans (Aa cL);have y1:=(N.block (H+1) (by omega)).trans (Aa bU);have aJ:Below H w W6:=(Aa aN).trans (N.mono (by omega));have aK:Below Z W2 W6:=(Aa I).trans (N.mono (by omega));have aM:Strs W6 Z (.slice ao acc.length co) acc:=J2 (Aa R) (fun g hg=>N.block g (Ao (Aa R).own g hg).2);clear z0 z1 v0 v1 v2 v3 v4;have z0:=Ad y0;have z1:=Af y1;have z6:=Af p6;have aH:=Ab aJ;have aG:=Ab aK;have aL:=Ab aM;have bQ:=Ab y1;clear aJ aK aM y0 y1 aA J N p6 aN I R bV bE;rcases Aa bD with⟨hr,rfl,rfl⟩|⟨hr,hne⟩
    ·have G:=Aa Q;rw[hr]at G;have aC:=Ab G;clear G hr Q bD;go_wp2_with (at_builtin;refine Fz (B:=Z) rfl (.tmp 35) (.tmp 37) rfl rfl (Aa aL) x rfl (by omega) (by omega) ?_;intro v7 w7 cG S cP)
     go_roundg g'
     case measure=>omega
     case rel=>
      refine⟨i+1,acc++[x],by omega,by go_num,aC,Ab cG,Ab ?_,Ab (by have:=Aa bR;simp;omega)⟩;exact(Aa aG).trans ⟨S.os,S.tape,S.output,by have:=(Aa aG).size;have:=S.size;omega,fun g hg=>S.block g (by omega) (fun e=>by have:=(Ao (Aa aL).own g e.symm).1;omega)⟩
    ·have j1:(ec != 0)=true:=by simpa using hne
     have G:=Aa Q;rw[hr]at G;have aC:=Ab G;have Y:=Ab hne;clear G hr Q bD hne;go_upto_region 10 with fail
     go_region
     all_goals go_wp2
     all_goals
      have HE:=Lz (B:=H) (g:=H+1) (w:=w) (Aa aH) (by omega) (Aa bQ) (.int .i64 ec) (.int .i64 el);have aB:=Jw (B:=H) (g:=H+1) (w:=w) (Aa aH) (by omega) (Aa bQ) (.int .i64 ec) (.int .i64 el)
      first
       |exact qW (As rfl _ _ _ (H+1) _ rfl (Ai HE.2)) rfl ⟨by rw[hH];exact HE.1,none,0,[],ec,el,rfl,Strs.nil _ _,.inr ⟨(Aa aC).symm,Aa Y⟩⟩
       |exact qW (As rfl _ _ _ (H+1) _ rfl (Ai aB.2)) rfl ⟨by rw[hH];exact aB.1,none,0,[],ec,el,rfl,Strs.nil _ _,.inr ⟨(Aa aC).symm,Aa Y⟩⟩
theorem Dx{W:World}{g:Nat}{a b c:Value}(h:W.heap[g]?=some (.cells #[a,b,c] 84)):(loadVar 84 ⟨g,0,none⟩).run Tryz.prog W=.ok (.agg #[a,b,c]) W:=qX _ _ _ _ _ _ _ h Tryz.underlying84 rfl (by kernel_rfl)
theorem An{W:World}{g:Nat}{T:TypeId}{a b c:Value}(h:W.heap[g]?=some (.cells #[a,b,c] T)):(W.cell? ⟨g,0,none⟩=some a∧W.frozen? ⟨g,0,none⟩=false)∧(W.cell? ⟨g,1,none⟩=some b∧W.frozen? ⟨g,1,none⟩=false)∧(W.cell? ⟨g,2,none⟩=some c∧W.frozen? ⟨g,2,none⟩=false):=by
 simp[World.cell?,World.frozen?,h]
theorem Cr{B:Nat}{W1 w:World}{cs:Array Value}{T:TypeId}(hb:Below B W1 w)(hc:w.heap[B]?=some (.cells cs T))(j:Nat)(v:Value):Below B W1 (w.setCell ⟨B,j,none⟩ v)∧(w.setCell ⟨B,j,none⟩ v).heap[B]?=some (.cells (cs.setIfInBounds j v) T)∧(∀g,g≠B→(w.setCell ⟨B,j,none⟩ v).heap[g]?=w.heap[g]?)∧(w.setCell ⟨B,j,none⟩ v).heap.size=w.heap.size:=
 ⟨hb.setCell (p:=⟨B,j,none⟩) (qJ _) _,heap_setCell_same _ _ _ _ _ _ hc,fun g D=>qC _ _ _ _ D,by simp⟩
theorem C6{B F:Nat}{W1 w:World}{cs:Array Value}{T:TypeId}{x y:Value}(hb:Below B W1 w)(hc:w.heap[B]?=some (.cells cs T))(hf:w.heap[F]?=some (.cells #[x,y] 29))(D:B<F)(e l:Value):Below B W1 ((w.setCell ⟨F,0,none⟩ e).setCell ⟨F,1,none⟩ l)∧((w.setCell ⟨F,0,none⟩ e).setCell ⟨F,1,none⟩ l).heap[B]?=some (.cells cs T)∧((w.setCell ⟨F,0,none⟩ e).setCell ⟨F,1,none⟩ l).heap[F]?=some (.cells #[e,l] 29)∧(∀g,g≠F→((w.setCell ⟨F,0,none⟩ e).setCell ⟨F,1,none⟩ l).heap[g]?=w.heap[g]?)∧((w.setCell ⟨F,0,none⟩ e).setCell ⟨F,1,none⟩ l).heap.size=w.heap.size:=
 ⟨Ax hb (Nat.le_of_lt D) e l,(Ar (by omega) e l).trans hc,A3 hf e l,fun g G=>Ar G e l,by simp⟩
theorem Gv{σ:Type}(rd:List UInt8→Option (P22.Rd σ))(D:List (List UInt8))(s:σ)(k:Nat)(t:List UInt8)(ka:Option Addr)(kc:Nat)(ks:List (List UInt8))(da:Option Addr)(dc:Nat)(ds:List Nd)(l:Int):∃e l',(∀w,Calls Tryz.prog 59 #[.agg #[.int .u8 k,.string ⟨t.toArray⟩,.slice ka ks.length kc,.slice da ds.length dc,.int .i64 l],.int .u8 3,.int .i64 0] w fun x w'=>x=.returned (fV e l')∧Below w.heap.size w w')∧((e≠0∧P22.keysE rd D (Nd.mk k t ka kc ks da dc ds l).bare s=.error (e,l'))∨(e=0∧l'=0∧ks.length=ds.length∧P22.keysE rd D (Nd.mk k t ka kc ks da dc ds l).bare s=match P22.keysGo rd ks (Am ds) s with
  | .error x=>.error x
  | .ok s'=>if ∀m∈D,m∈ks then .ok s' else .error (5,l))):=by
 have G:=fun w=>N0 k t ka kc ks da dc ds l w
 have I:P22.keysE rd D (Nd.mk k t ka kc ks da dc ds l).bare s=if k≠3 then .error (7,l) else if ks.length≠(Am ds).length then .error (3,l) else match P22.keysGo rd ks (Am ds) s with
   | .error x=>.error x
   | .ok s'=>if ∀m∈D,m∈ks then .ok s' else .error (5,l):=by
  simp only[Nd.bare];rfl
 rw[Bs]at I;rw[I];by_cases hk:k=3
 ·rw[if_neg (by simpa using hk)];by_cases hn:ks.length=ds.length
  ·rw[if_neg (by simpa using hn)];refine⟨0,0,fun w=>?_,.inr ⟨rfl,rfl,hn,rfl⟩⟩;have:=G w;rw[if_neg (by simpa using hk),if_neg (by simpa using hn)]at this;exact this
  ·rw[if_pos hn];refine⟨3,l,fun w=>?_,.inl ⟨by decide,rfl⟩⟩;have:=G w;rw[if_neg (by simpa using hk),if_pos hn]at this;exact this
 ·rw[if_pos hk];refine⟨7,l,fun w=>?_,.inl ⟨by decide,rfl⟩⟩;have:=G w;rw[if_pos hk]at this;exact this
theorem M8{B g1 g2:Nat}{w W:World}{T:TypeId}{a0 R Q b0 b1:Value}(hb:Below B w W)(h1:W.heap[g1]?=some (.cells #[a0,R,Q] T))(h2:W.heap[g2]?=some (.cells #[b0,b1] 29))(I:B≤g1)(J:B≤g2)(hne:g1≠g2)(v0 D G e l:Value) :
  Below B w (((((W.setCell ⟨g1,0,none⟩ v0).setCell ⟨g1,1,none⟩ D).setCell ⟨g1,2,none⟩ G).setCell ⟨g2,0,none⟩ e).setCell ⟨g2,1,none⟩ l)∧(((((W.setCell ⟨g1,0,none⟩ v0).setCell ⟨g1,1,none⟩ D).setCell ⟨g1,2,none⟩ G).setCell ⟨g2,0,none⟩ e).setCell ⟨g2,1,none⟩ l).heap[g1]?=some (.cells #[v0,D,G] T)∧(((((W.setCell ⟨g1,0,none⟩ v0).setCell ⟨g1,1,none⟩ D).setCell ⟨g1,2,none⟩ G).setCell ⟨g2,0,none⟩ e).setCell ⟨g2,1,none⟩ l).heap[g2]?=some (.cells #[e,l] 29)∧∀g,g≠g1→g≠g2→(((((W.setCell ⟨g1,0,none⟩ v0).setCell ⟨g1,1,none⟩ D).setCell ⟨g1,2,none⟩ G).setCell ⟨g2,0,none⟩ e).setCell ⟨g2,1,none⟩ l).heap[g]?=W.heap[g]?:=by
 have U:Below B w (((W.setCell ⟨g1,0,none⟩ v0).setCell ⟨g1,1,none⟩ D).setCell ⟨g1,2,none⟩ G):=(((hb.setCell (p:=⟨g1,0,none⟩) I _).setCell (p:=⟨g1,1,none⟩) I _).setCell (p:=⟨g1,2,none⟩) I _);have S:(((W.setCell ⟨g1,0,none⟩ v0).setCell ⟨g1,1,none⟩ D).setCell ⟨g1,2,none⟩ G).heap[g1]?=some (.cells #[v0,D,G] T):=by simp[World.setCell,Array.getElem?_modify,h1]
 have N:∀g,g≠g1→(((W.setCell ⟨g1,0,none⟩ v0).setCell ⟨g1,1,none⟩ D).setCell ⟨g1,2,none⟩ G).heap[g]?=W.heap[g]?:=fun g h=>by rw[qC _ _ _ _ h,qC _ _ _ _ h,qC _ _ _ _ h]
 have X:=(N g2 (Ne.symm hne)).trans h2;refine⟨Ax U J e l,?_,?_,fun g h3 h4=>?_⟩
 ·exact(Ar hne e l).trans S
 ·exact A3 X e l
 ·exact(Ar h4 e l).trans (N g h3)
theorem C3{B g1 g2:Nat}{w W:World}{T:TypeId}{a0 Q N b0 b1:Value}(hb:Below B w W)(h1:W.heap[g1]?=some (.cells #[a0,Q,N] T))(h2:W.heap[g2]?=some (.cells #[b0,b1] 29))(J:B≤g1)(I:B≤g2)(hne:g1≠g2)(v0 D G e l:Value) :
  Below B w (((((W.setCell ⟨g1,0,none⟩ v0).setCell ⟨g1,1,none⟩ D).setCell ⟨g1,2,none⟩ G).setCell ⟨g2,0,none⟩ e).setCell ⟨g2,1,none⟩ l).drew∧(((((W.setCell ⟨g1,0,none⟩ v0).setCell ⟨g1,1,none⟩ D).setCell ⟨g1,2,none⟩ G).setCell ⟨g2,0,none⟩ e).setCell ⟨g2,1,none⟩ l).drew.heap[g1]?=some (.cells #[v0,D,G] T)∧(((((W.setCell ⟨g1,0,none⟩ v0).setCell ⟨g1,1,none⟩ D).setCell ⟨g1,2,none⟩ G).setCell ⟨g2,0,none⟩ e).setCell ⟨g2,1,none⟩ l).drew.heap[g2]?=some (.cells #[e,l] 29)∧∀g,g≠g1→g≠g2→(((((W.setCell ⟨g1,0,none⟩ v0).setCell ⟨g1,1,none⟩ D).setCell ⟨g1,2,none⟩ G).setCell ⟨g2,0,none⟩ e).setCell ⟨g2,1,none⟩ l).drew.heap[g]?=W.heap[g]?:=by
 have q:=M8 hb h1 h2 J I hne v0 D G e l;rw[F2];exact⟨q.1.drew,q.2⟩
theorem Lg{B g1 g2:Nat}{w W:World}{T:TypeId}{a0 a1 a2 a3 a4 a5 a6 a7 a8 a9 Y aA X b0 b1:Value}(hb:Below B w W)(h1:W.heap[g1]?=some (.cells #[a0,a1,a2,a3,a4,a5,a6,a7,a8,a9,Y,aA,X] T))(h2:W.heap[g2]?=some (.cells #[b0,b1] 29))(D:B≤g1)(Z:B≤g2)(hne:g1≠g2)(v0 Q S v3 v4 v5 N R U v9 G I J e l:Value) :
  Below B w (((((((((((((((W.setCell ⟨g1,0,none⟩ v0).setCell ⟨g1,1,none⟩ Q).setCell ⟨g1,2,none⟩ S).setCell ⟨g1,3,none⟩ v3).setCell ⟨g1,4,none⟩ v4).setCell ⟨g1,5,none⟩ v5).setCell ⟨g1,6,none⟩ N).setCell ⟨g1,7,none⟩ R).setCell ⟨g1,8,none⟩ U).setCell ⟨g1,9,none⟩ v9).setCell ⟨g1,10,none⟩ G).setCell ⟨g1,11,none⟩ I).setCell ⟨g1,12,none⟩ J).setCell ⟨g2,0,none⟩ e).setCell ⟨g2,1,none⟩ l)∧(((((((((((((((W.setCell ⟨g1,0,none⟩ v0).setCell ⟨g1,1,none⟩ Q).setCell ⟨g1,2,none⟩ S).setCell ⟨g1,3,none⟩ v3).setCell ⟨g1,4,none⟩ v4).setCell ⟨g1,5,none⟩ v5).setCell ⟨g1,6,none⟩ N).setCell ⟨g1,7,none⟩ R).setCell ⟨g1,8,none⟩ U).setCell ⟨g1,9,none⟩ v9).setCell ⟨g1,10,none⟩ G).setCell ⟨g1,11,none⟩ I).setCell ⟨g1,12,none⟩ J).setCell ⟨g2,0,none⟩ e).setCell ⟨g2,1,none⟩ l).heap[g1]?=some (.cells #[v0,Q,S,v3,v4,v5,N,R,U,v9,G,I,J] T)∧(((((((((((((((W.setCell ⟨g1,0,none⟩ v0).setCell ⟨g1,1,none⟩ Q).setCell ⟨g1,2,none⟩ S).setCell ⟨g1,3,none⟩ v3).setCell ⟨g1,4,none⟩ v4).setCell ⟨g1,5,none⟩ v5).setCell ⟨g1,6,none⟩ N).setCell ⟨g1,7,none⟩ R).setCell ⟨g1,8,none⟩ U).setCell ⟨g1,9,none⟩ v9).setCell ⟨g1,10,none⟩ G).setCell ⟨g1,11,none⟩ I).setCell ⟨g1,12,none⟩ J).setCell ⟨g2,0,none⟩ e).setCell ⟨g2,1,none⟩ l).heap[g2]?=some (.cells #[e,l] 29)∧∀g,g≠g1→g≠g2→(((((((((((((((W.setCell ⟨g1,0,none⟩ v0).setCell ⟨g1,1,none⟩ Q).setCell ⟨g1,2,none⟩ S).setCell ⟨g1,3,none⟩ v3).setCell ⟨g1,4,none⟩ v4).setCell ⟨g1,5,none⟩ v5).setCell ⟨g1,6,none⟩ N).setCell ⟨g1,7,none⟩ R).setCell ⟨g1,8,none⟩ U).setCell ⟨g1,9,none⟩ v9).setCell ⟨g1,10,none⟩ G).setCell ⟨g1,11,none⟩ I).setCell ⟨g1,12,none⟩ J).setCell ⟨g2,0,none⟩ e).setCell ⟨g2,1,none⟩ l).heap[g]?=W.heap[g]?:=by
 have q1:Below B w (((((((((((((W.setCell ⟨g1,0,none⟩ v0).setCell ⟨g1,1,none⟩ Q).setCell ⟨g1,2,none⟩ S).setCell ⟨g1,3,none⟩ v3).setCell ⟨g1,4,none⟩ v4).setCell ⟨g1,5,none⟩ v5).setCell ⟨g1,6,none⟩ N).setCell ⟨g1,7,none⟩ R).setCell ⟨g1,8,none⟩ U).setCell ⟨g1,9,none⟩ v9).setCell ⟨g1,10,none⟩ G).setCell ⟨g1,11,none⟩ I).setCell ⟨g1,12,none⟩ J):=(((((((((((((hb.setCell (p:=⟨g1,0,none⟩) D _).setCell (p:=⟨g1,1,none⟩) D _).setCell (p:=⟨g1,2,none⟩) D _).setCell (p:=⟨g1,3,none⟩) D _).setCell (p:=⟨g1,4,none⟩) D _).setCell (p:=⟨g1,5,none⟩) D _).setCell (p:=⟨g1,6,none⟩) D _).setCell (p:=⟨g1,7,none⟩) D _).setCell (p:=⟨g1,8,none⟩) D _).setCell (p:=⟨g1,9,none⟩) D _).setCell (p:=⟨g1,10,none⟩) D _).setCell (p:=⟨g1,11,none⟩) D _).setCell (p:=⟨g1,12,none⟩) D _);have q2:(((((((((((((W.setCell ⟨g1,0,none⟩ v0).setCell ⟨g1,1,none⟩ Q).setCell ⟨g1,2,none⟩ S).setCell ⟨g1,3,none⟩ v3).setCell ⟨g1,4,none⟩ v4).setCell ⟨g1,5,none⟩ v5).setCell ⟨g1,6,none⟩ N).setCell ⟨g1,7,none⟩ R).setCell ⟨g1,8,none⟩ U).setCell ⟨g1,9,none⟩ v9).setCell ⟨g1,10,none⟩ G).setCell ⟨g1,11,none⟩ I).setCell ⟨g1,12,none⟩ J).heap[g1]?=some (.cells #[v0,Q,S,v3,v4,v5,N,R,U,v9,G,I,J] T):=by simp[World.setCell,Array.getElem?_modify,h1]
 have q4:∀g,g≠g1→(((((((((((((W.setCell ⟨g1,0,none⟩ v0).setCell ⟨g1,1,none⟩ Q).setCell ⟨g1,2,none⟩ S).setCell ⟨g1,3,none⟩ v3).setCell ⟨g1,4,none⟩ v4).setCell ⟨g1,5,none⟩ v5).setCell ⟨g1,6,none⟩ N).setCell ⟨g1,7,none⟩ R).setCell ⟨g1,8,none⟩ U).setCell ⟨g1,9,none⟩ v9).setCell ⟨g1,10,none⟩ G).setCell ⟨g1,11,none⟩ I).setCell ⟨g1,12,none⟩ J).heap[g]?=W.heap[g]?:=fun g h=>by rw[qC _ _ _ _ h,qC _ _ _ _ h,qC _ _ _ _ h,qC _ _ _ _ h,qC _ _ _ _ h,qC _ _ _ _ h,qC _ _ _ _ h,qC _ _ _ _ h,qC _ _ _ _ h,qC _ _ _ _ h,qC _ _ _ _ h,qC _ _ _ _ h,qC _ _ _ _ h]
 have q3:=(q4 g2 (Ne.symm hne)).trans h2;refine⟨Ax q1 Z e l,?_,?_,fun g h3 h4=>?_⟩
 ·exact(Ar hne e l).trans q2
 ·exact A3 q3 e l
 ·exact(Ar h4 e l).trans (q4 g h3)
theorem Dq{B g1 g2:Nat}{w W:World}{T:TypeId}{a0 a1 a2 a3 a4 a5 a6 a7 a8 a9 X Z U b0 b1:Value}(hb:Below B w W)(h1:W.heap[g1]?=some (.cells #[a0,a1,a2,a3,a4,a5,a6,a7,a8,a9,X,Z,U] T))(h2:W.heap[g2]?=some (.cells #[b0,b1] 29))(aA:B≤g1)(Y:B≤g2)(hne:g1≠g2)(v0 N R v3 v4 v5 J Q S v9 D G I e l:Value) :
  Below B w (((((((((((((((W.setCell ⟨g1,0,none⟩ v0).setCell ⟨g1,1,none⟩ N).setCell ⟨g1,2,none⟩ R).setCell ⟨g1,3,none⟩ v3).setCell ⟨g1,4,none⟩ v4).setCell ⟨g1,5,none⟩ v5).setCell ⟨g1,6,none⟩ J).setCell ⟨g1,7,none⟩ Q).setCell ⟨g1,8,none⟩ S).setCell ⟨g1,9,none⟩ v9).setCell ⟨g1,10,none⟩ D).setCell ⟨g1,11,none⟩ G).setCell ⟨g1,12,none⟩ I).setCell ⟨g2,0,none⟩ e).setCell ⟨g2,1,none⟩ l).drew∧(((((((((((((((W.setCell ⟨g1,0,none⟩ v0).setCell ⟨g1,1,none⟩ N).setCell ⟨g1,2,none⟩ R).setCell ⟨g1,3,none⟩ v3).setCell ⟨g1,4,none⟩ v4).setCell ⟨g1,5,none⟩ v5).setCell ⟨g1,6,none⟩ J).setCell ⟨g1,7,none⟩ Q).setCell ⟨g1,8,none⟩ S).setCell ⟨g1,9,none⟩ v9).setCell ⟨g1,10,none⟩ D).setCell ⟨g1,11,none⟩ G).setCell ⟨g1,12,none⟩ I).setCell ⟨g2,0,none⟩ e).setCell ⟨g2,1,none⟩ l).drew.heap[g1]?=some (.cells #[v0,N,R,v3,v4,v5,J,Q,S,v9,D,G,I] T)∧(((((((((((((((W.setCell ⟨g1,0,none⟩ v0).setCell ⟨g1,1,none⟩ N).setCell ⟨g1,2,none⟩ R).setCell ⟨g1,3,none⟩ v3).setCell ⟨g1,4,none⟩ v4).setCell ⟨g1,5,none⟩ v5).setCell ⟨g1,6,none⟩ J).setCell ⟨g1,7,none⟩ Q).setCell ⟨g1,8,none⟩ S).setCell ⟨g1,9,none⟩ v9).setCell ⟨g1,10,none⟩ D).setCell ⟨g1,11,none⟩ G).setCell ⟨g1,12,none⟩ I).setCell ⟨g2,0,none⟩ e).setCell ⟨g2,1,none⟩ l).drew.heap[g2]?=some (.cells #[e,l] 29)∧∀g,g≠g1→g≠g2→(((((((((((((((W.setCell ⟨g1,0,none⟩ v0).setCell ⟨g1,1,none⟩ N).setCell ⟨g1,2,none⟩ R).setCell ⟨g1,3,none⟩ v3).setCell ⟨g1,4,none⟩ v4).setCell ⟨g1,5,none⟩ v5).setCell ⟨g1,6,none⟩ J).setCell ⟨g1,7,none⟩ Q).setCell ⟨g1,8,none⟩ S).setCell ⟨g1,9,none⟩ v9).setCell ⟨g1,10,none⟩ D).setCell ⟨g1,11,none⟩ G).setCell ⟨g1,12,none⟩ I).setCell ⟨g2,0,none⟩ e).setCell ⟨g2,1,none⟩ l).drew.heap[g]?=W.heap[g]?:=by
 have q:=Lg hb h1 h2 aA Y hne v0 N R v3 v4 v5 J Q S v9 D G I e l;rw[F2];exact⟨q.1.drew,q.2⟩
def Vg(w:World)(res:Except P22.F P22.Try)(e:Ending)(w':World):Prop:=
 Below w.heap.size w w'∧∃(x:P22.Try) (D G:Int),e=.returned (.tuple #[.agg #[.int .i64 x.most,.int .i64 x.first,.int .i64 x.factor],fV D G])∧Rq res x D G
theorem N1(k:Nat)(t:List UInt8)(ka:Option Addr)(kc:Nat)(ks:List (List UInt8))(da:Option Addr)(dc:Nat)(ds:List Nd)(l:Int)(w:World)(cP:(Nd.mk k t ka kc ks da dc ds l).In w)(cW:okF (Nd.mk k t ka kc ks da dc ds l).bare):Calls Tryz.prog 95 #[.agg #[.int .u8 k,.string ⟨t.toArray⟩,.slice ka ks.length kc,.slice da ds.length dc,.int .i64 l]] w (Vg w (P22.triesE (Nd.mk k t ka kc ks da dc ds l).bare)):=by
 obtain⟨q1,q2,q3,q4,q5⟩:=cW.kid;rw[Bs]at q4;have cR:=cP.kids;have cL:=cP.fit.keys;simp only[Nd.da,Nd.kids,Nd.ka,Nd.keys]at cR cL
 have cY:∀d∈ds,d.bare.text.length≤100000:=fun d hd=>by
  have h:=q5 _ (by rw[Ci];exact zC hd);obtain⟨k1,t1,cB,bV,bX,bU,bW,cA,l1⟩:=d;exact h.kid.1
 obtain⟨H,hH⟩:∃H,w.heap.size=H:=⟨_,rfl⟩;obtain⟨M,hM⟩:∃M,ks.length=M:=⟨_,rfl⟩;obtain⟨D,hD⟩:∃D,ds.length=D:=⟨_,rfl⟩;obtain⟨Y,bO⟩:∃Y,P22.triesE (Nd.mk k t ka kc ks da dc ds l).bare=Y:=⟨_,rfl⟩;obtain⟨e,l',bP,cF⟩:=Gv P22.triesRd [] ⟨0,0,0⟩ k t ka kc ks da dc ds l
 have bF:(e≠0∧Y=.error (e,l'))∨(e=0∧l'=0∧M=D∧Y=P22.keysGo P22.triesRd ks (Am ds) ⟨0,0,0⟩):=by
  rw[←bO];unfold P22.triesE;rcases cF with h|⟨h1,h2,h3,h4⟩
  ·exact .inl h
  ·refine .inr ⟨h1,h2,by omega,h4.trans ?_⟩;cases P22.keysGo P22.triesRd ks (Am ds) ⟨0,0,0⟩with
   |error x=>rfl
   |ok s'=>simp
 rw[bO];clear cF bO;rw[hM,hD]at bP ⊢;rw[hM]at q2;rw[hD]at q4;have cT:∀(os:List Obj),os=[.cells #[.int .u8 k,.string ⟨t.toArray⟩,.slice ka M kc,.slice da D dc,.int .i64 l] 26,.cells #[.int .i64 0,.int .i64 0,.int .i64 0] 84,.cells #[.int .i64 0,.int .i64 0] 29,.cells #[.int .i64 0,.int .i64 0,.int .i64 0] 84]→Below w.heap.size w (os.foldl World.alloc w)∧(os.foldl World.alloc w).heap.size=w.heap.size+os.length∧∀i o,os[i]?=some o→(os.foldl World.alloc w).heap[w.heap.size+i]?=some o:=fun os _=>Cf os w;obtain⟨cJ,cO,aY⟩:=cT _ rfl;obtain⟨W0,cI⟩:∃W0,(((w.alloc (.cells #[.int .u8 k,.string ⟨t.toArray⟩,.slice ka M kc,.slice da D dc,.int .i64 l] 26)).alloc (.cells #[.int .i64 0,.int .i64 0,.int .i64 0] 84)).alloc (.cells #[.int .i64 0,.int .i64 0] 29)).alloc (.cells #[.int .i64 0,.int .i64 0,.int .i64 0] 84)=W0:=⟨_,rfl⟩;rw[show ([.cells #[.int .u8 k,.string ⟨t.toArray⟩,.slice ka M kc,.slice da D dc,.int .i64 l] 26,.cells #[.int .i64 0,.int .i64 0,.int .i64 0] 84,.cells #[.int .i64 0,.int .i64 0] 29,.cells #[.int .i64 0,.int .i64 0,.int .i64 0] 84]:List Obj).foldl World.alloc w=W0 from cI,hH]at cJ cO aY;replace cO:W0.heap.size=H+1+1+1+1:=cO;have g0:W0.heap[H]?=some (.cells #[.int .u8 k,.string ⟨t.toArray⟩,.slice ka M kc,.slice da D dc,.int .i64 l] 26):=aY 0 _ rfl;have g1:W0.heap[H+1]?=some (.cells #[.int .i64 0,.int .i64 0,.int .i64 0] 84):=aY 1 _ rfl;have g2:W0.heap[H+1+1]?=some (.cells #[.int .i64 0,.int .i64 0] 29):=aY 2 _ rfl;have g3:W0.heap[H+1+1+1]?=some (.cells #[.int .i64 0,.int .i64 0,.int .i64 0] 84):=aY 3 _ rfl;have x0:=Ad g0;have cX:=bP W0;have dB:=Ab cI;have dI:=Ab cJ;have dO:=Ab g0;have dG:=Ab g1;have dN:=Ab g2;have dJ:=Ab g3;have dP:=Ab cX;have HM:=Ab hM;have HD:=Ab hD;have cU:=Ab cR;have dE:=Ab cL;have dK:=Ab cY;have cS:=Ab bF;have eB:=Dl;clear cT cI cJ aY g0 g1 g2 g3 bP cX bF hM hD cR cL cY q5 q3 cW cP;go_enter Tryz.func95,Tryz.ntmps95
 go_upto_region 2 with fail
 try rw[hH]
 rw[Aa dB];go_upto_region 3 with(go_at_call 59;refine(Aa dP).mono ?_;rintro x2 w2 ⟨rfl,cM⟩;have dL:=cM.size;have bG:=Ab cM;clear cM)
 obtain⟨K,hK⟩:∃K,w2.heap.size=K:=⟨_,rfl⟩;obtain⟨W2,bN⟩:∃W2,w2.alloc (.cells #[.int .i64 e,.int .i64 l'] 29)=W2:=⟨_,rfl⟩;have bD:Below K w2 W2:=by rw[←bN];exact(qV _ w2).alloc (by omega) _
 have p0:W2.heap[K]?=some (.cells #[.int .i64 e,.int .i64 l'] 29):=by rw[←bN,←hK];exact qB _ _
 have dY:K+1≤W2.heap.size:=by rw[←bN];simp;omega
 rw[bN];rw[hK];rw[hK]at dL;have cC:Below H w W2:=(Aa dI).trans (((Aa bG).mono (by omega)).trans (bD.mono (by omega)));have r0:=(bD.block H (by omega)).trans (((Aa bG).block H (by omega)).trans (Aa dO));have r1:=(bD.block (H+1) (by omega)).trans (((Aa bG).block (H+1) (by omega)).trans (Aa dG));have r2:=(bD.block (H+1+1) (by omega)).trans (((Aa bG).block (H+1+1) (by omega)).trans (Aa dN));have r3:=(bD.block (H+1+1+1) (by omega)).trans (((Aa bG).block (H+1+1+1) (by omega)).trans (Aa dJ));have cV:=(Aa cU).below (by rw[hH];exact cC);have aT:=Eu.below (Aa dE) (by rw[hH];exact cC);have z0:=Ad r0;have z1:=An r1;have z2:=Af r2;have z3:=An r3;have z4:=Af p0;have bC:=Ab cC;have bK:=Ab r0;have bB:=Ab r1;have aZ:=Ab r2;have dH:=Ab r3;have dU:=Ab cV;have dW:=Ab aT;clear dB bN bD p0 cC r0 r1 r2 r3 x0 cV aT;rcases Aa cS with⟨hne,hq⟩|⟨rfl,rfl,cZ,hq⟩
 ·have j1:(e != 0)=true:=by simpa using hne
  have aU:=Ab hne;have HQ:=Ab hq;clear hne hq cS;go_upto_region 4 with fail
  go_region_with_o (fail)
  all_goals go_wp2
  all_goals
   have HE:=C3 (B:=H) (g1:=H+1) (g2:=H+1+1) (w:=w) (Aa bC) (Aa bB) (Aa aZ) (by omega) (by omega) (by omega) (.int .i64 0) (.int .i64 0) (.int .i64 0) (.int .i64 e) (.int .i64 l');exact qW (Al rfl _ _ _ (H+1) (H+1+1) _ _ rfl (Dx HE.2.1) rfl (Ai HE.2.2.1)) rfl ⟨by rw[hH];exact HE.1,⟨0,0,0⟩,e,l',rfl,.inr ⟨Aa HQ,Aa aU⟩⟩
 ·have HQ:=Ab hq;have cQ:=Ab cZ;clear hq cS cZ;go_wp2
  go_loopg [6] M (fun g s6 wx=>∃(i:Nat) (st:P22.Try),i+g=M∧s6=.int .i64 i∧Hid (P22.keysGo P22.triesRd (ks.drop i) (Am (ds.drop i)) st=Y)∧Hid (Below (H+1+1+1) W2 wx)∧Hid (wx.heap[H+1+1+1]?=some (.cells #[.int .i64 st.most,.int .i64 st.first,.int .i64 st.factor] 84))∧H+1+1+1+1≤wx.heap.size)
  case atStart=>exact⟨0,⟨0,0,0⟩,by omega,by go_num,Ab (Aa HQ).symm,Ab (qV _ _),Ab (Aa dH),by omega⟩
  case round=>
   obtain⟨i,st,dS,rfl,HE,bA,cN,dM⟩:=hrel;clear z0 z1 z2 z3 z4;have y0:=((Aa bA).block H (by omega)).trans (Aa bK);have y1:=((Aa bA).block (H+1) (by omega)).trans (Aa bB);have y2:=((Aa bA).block (H+1+1) (by omega)).trans (Aa aZ);have dF:Below H w wr:=(Aa bC).trans ((Aa bA).mono (by omega));have z0:=Ad y0;have z1:=An y1;have z2:=Af y2;have z3:=An (Aa cN);have dC:=Ab y0;have aD:=Ab y1;have aA:=Ab y2;have cH:=Ab dF;clear y0 y1 y2 dF;cases gk with
   |zero=>
    have e1:(M:Int)≤(i:Int):=by omega
    have j1:decide ((i:Int)<(M:Int))=false:=by simp;omega
    have G:=Aa HE;rw[qM (l:=ds) (by rw[Aa HD,←Aa cQ];omega),qM (l:=ks) (by rw[Aa HM];omega)]at G;simp only[Am,P22.keysGo]at G;have aH:=Ab G;clear G;go_wp2;have J:=M8 (B:=H) (g1:=H+1) (g2:=H+1+1) (w:=w) (Aa cH) (Aa aD) (Aa aA) (by omega) (by omega) (by omega) (.int .i64 st.most) (.int .i64 st.first) (.int .i64 st.factor) (.int .i64 0) (.int .i64 0);exact qW (Al rfl _ _ _ (H+1) (H+1+1) _ _ rfl (Dx J.2.1) rfl (Ai J.2.2.1)) rfl ⟨by rw[hH];exact J.1,st,0,0,rfl,.inl ⟨(Aa aH).symm,rfl,rfl⟩⟩
   |succ g'=>
    have eA:(i:Int)<(M:Int):=by omega
    have dR:(i:Int)<(D:Int):=by have:=Aa cQ;omega
    have dX:IntKind.i64.wrap ((i:Int)+1)=(i:Int)+1:=qG _ (by omega);obtain⟨d,cD⟩:=V3 (Aa HD) (show i<D by have:=Aa cQ;omega);obtain⟨y,bS⟩:=V3 (Aa HM) (show i<M by omega);have dD:=Aa dK d (qN cD);have G:=Aa HE
    rw[Cg cD,show ks.drop i=y::ks.drop (i+1) by
     obtain⟨h8,h9⟩:=qI.1 bS
     rw[qL h8,h9]]at G
    unfold P22.keysGo at G;have aH:=Ab G;clear G HE;go_upto_region 9 with fail
    obtain⟨F,hF⟩:∃F,wr.heap.size=F:=⟨_,rfl⟩;obtain⟨W5,bJ⟩:∃W5,wr.alloc (.cells #[.int .i64 0,.int .i64 0] 29)=W5:=⟨_,rfl⟩;rw[bJ];rw[hF];rw[hF]at dM;have aM:Below F wr W5:=by rw[←bJ];exact(qV _ wr).alloc (by omega) _
    have p5:W5.heap[F]?=some (.cells #[.int .i64 0,.int .i64 0] 29):=by rw[←bJ,←hF];exact qB _ _
    have dZ:F+1≤W5.heap.size:=by rw[←bJ];simp;omega
    have aX:Below H w W5:=(Aa cH).trans (aM.mono (by omega));have cG:Below (H+1+1+1) W2 W5:=(Aa bA).trans (aM.mono (by omega));have bR:=(aM.block (H+1+1+1) (by omega)).trans (Aa cN);have y0:=(aM.block H (by omega)).trans (Aa dC);have y1:=(aM.block (H+1) (by omega)).trans (Aa aD);have y2:=(aM.block (H+1+1) (by omega)).trans (Aa aA);obtain⟨b3,o3,rfl,aT⟩:=Eu.below (Aa dE) (by rw[hH];exact aX) i y bS;obtain⟨b2,o2,k1,t1,cB,bV,bX,bU,bW,cA,l1,rfl,rfl,v0,v1,v2,v3,v4,cE⟩:=Ce ((Aa cU).below (by rw[hH];exact aX)) cD;clear z0 z1 z2 z3;have z0:=Ad y0;have z3:=An bR;have z5:=Af p5;have aQ:=Ab p5;have bZ:=Ab aM;have aW:=Ab aX;have X:=Ab cG;have U:=Ab bR;have bT:=Ab y1;have bY:=Ab y2;have cK:=Ab dD;have eC:=Ab bS;have dQ:=Ab cE;clear bJ p5 aM aX cG bR y0 y1 y2 dC aD aA cH bA cN dD bS cD cE;by_cases n0:y=[109,111,115,116]
    ·subst n0;have aG:P22.triesRd [109,111,115,116]=some (fun d s=>(P22.numE d).map fun n=>{ s with most:=n }):=rfl;have G:=Aa aH;rw[aG]at G;have c0:([109,111,115,116]==[109,111,115,116])=true:=by decide
     obtain⟨v,ec,el,aN,aK⟩:=Ex k1 t1 cB bV bX bU bW cA l1 (Aa cK);have aO:=Ab (aN W5);have Z:=Ab aK;have J:=Ab G;clear aN aK G aH aG;go_upto_region 17 with(go_at_call 96;refine(Aa aO).mono ?_;rintro x6 w6 ⟨rfl,Q⟩;have bL:=Q.size;have a3:=(Q.block (H+1+1+1) (by omega)).trans (Aa U);have aF:=(Q.block F (by omega)).trans (Aa aQ);have bE:=An a3;have bH:=Af aF;have aR:=Ab Q;have aJ:=Ab a3;have aL:=Ab aF;clear Q a3 aF)
     have aI:Below (H+1+1+1) W2 w6:=(Aa X).trans ((Aa aR).mono (by omega));obtain⟨e1,e2,e3,e4⟩:=Cr aI (Aa aJ) 0 (.int .i64 v);obtain⟨R,f2,f3,f4,f5⟩:=C6 (F:=F) e1 e2 ((e3 F (by omega)).trans (Aa aL)) (by omega) (.int .i64 ec) (.int .i64 el);obtain⟨W8,aE⟩:∃W8,((w6.setCell ⟨H+1+1+1,0,none⟩ (.int .i64 v)).setCell ⟨F,0,none⟩ (.int .i64 ec)).setCell ⟨F,1,none⟩ (.int .i64 el)=W8:=⟨_,rfl⟩;rw[aE]at R f2 f3 f4 f5 ⊢;obtain⟨st',I⟩:∃st':P22.Try,{ st with most:=v }=st':=⟨_,rfl⟩;have aC:W8.heap[H+1+1+1]?=some (.cells #[.int .i64 st'.most,.int .i64 st'.first,.int .i64 st'.factor] 84):=by rw[←I];exact f2
     have y0:=(R.block H (by omega)).trans (Aa bK);have y1:=(R.block (H+1) (by omega)).trans (Aa bB);have y2:=(R.block (H+1+1) (by omega)).trans (Aa aZ);have N:Below H w W8:=(Aa bC).trans (R.mono (by omega));clear z0 z3 z5 v0 v1 v2 v3 v4 aT bE bH;have z0:=Ad y0;have z1:=An y1;have z2:=Af y2;have z3:=An aC;have z5:=Af f3;have dA:=bL;have aB:=Ab N;have bQ:=Ab R;have bM:=Ab aC;have aD:=Ab y1;have aA:=Ab y2;have bI:=Ab (show H+1+1+1+1≤W8.heap.size by rw[f5,e4];omega);clear N R f2 aC f3 f4 f5 e1 e2 e3 e4 y0 y1 y2 aE aI aJ aL aR bZ aQ U X aW bT bY aO;rcases Aa Z with⟨hr,rfl,rfl⟩|⟨hr,hne⟩
     ·have G:=Aa J;rw[hr]at G;have aS:P22.keysGo P22.triesRd (ks.drop (i+1)) (Am (ds.drop (i+1))) st'=Y:=by rw[←I];exact G
      have S:=Ab aS;clear G aS hr J Z I;go_wp2;go_roundg g'
      case measure=>omega
      case rel=>exact⟨i+1,st',by omega,by go_num,S,bQ,bM,Aa bI⟩
     ·have j1:(ec != 0)=true:=by simpa using hne
      have G:=Aa J;rw[hr]at G;have S:=Ab (show Y=.error (ec,el) from G.symm);have aU:=Ab hne;clear G hr J Z I hne;go_upto_region 18 with fail
      go_region_with_o (fail)
      all_goals go_wp2
      all_goals
       have HE:=C3 (B:=H) (g1:=H+1) (g2:=H+1+1) (w:=w) (Aa aB) (Aa aD) (Aa aA) (by omega) (by omega) (by omega) (.int .i64 st'.most) (.int .i64 st'.first) (.int .i64 st'.factor) (.int .i64 ec) (.int .i64 el);exact qW (Al rfl _ _ _ (H+1) (H+1+1) _ _ rfl (Dx HE.2.1) rfl (Ai HE.2.2.1)) rfl ⟨by rw[hH];exact HE.1,st',ec,el,rfl,.inr ⟨Aa S,Aa aU⟩⟩
    by_cases n1:y=[102,105,114,115,116]
    ·subst n1;have aG:P22.triesRd [102,105,114,115,116]=some (fun d s=>(P22.numE d).map fun n=>{ s with first:=n }):=rfl;have G:=Aa aH;rw[aG]at G;have c1:([102,105,114,115,116]==[102,105,114,115,116])=true:=by decide
     have c0:([102,105,114,115,116]==[109,111,115,116])=false:=by decide
     obtain⟨v,ec,el,aN,aK⟩:=Ex k1 t1 cB bV bX bU bW cA l1 (Aa cK);have aO:=Ab (aN W5);have Z:=Ab aK;have J:=Ab G;clear aN aK G aH aG;go_upto_region 17 with(go_at_call 96;refine(Aa aO).mono ?_;rintro x6 w6 ⟨rfl,Q⟩;have bL:=Q.size;have a3:=(Q.block (H+1+1+1) (by omega)).trans (Aa U);have aF:=(Q.block F (by omega)).trans (Aa aQ);have bE:=An a3;have bH:=Af aF;have aR:=Ab Q;have aJ:=Ab a3;have aL:=Ab aF;clear Q a3 aF)
     have aI:Below (H+1+1+1) W2 w6:=(Aa X).trans ((Aa aR).mono (by omega));obtain⟨e1,e2,e3,e4⟩:=Cr aI (Aa aJ) 1 (.int .i64 v);obtain⟨R,f2,f3,f4,f5⟩:=C6 (F:=F) e1 e2 ((e3 F (by omega)).trans (Aa aL)) (by omega) (.int .i64 ec) (.int .i64 el);obtain⟨W8,aE⟩:∃W8,((w6.setCell ⟨H+1+1+1,1,none⟩ (.int .i64 v)).setCell ⟨F,0,none⟩ (.int .i64 ec)).setCell ⟨F,1,none⟩ (.int .i64 el)=W8:=⟨_,rfl⟩;rw[aE]at R f2 f3 f4 f5 ⊢;obtain⟨st',I⟩:∃st':P22.Try,{ st with first:=v }=st':=⟨_,rfl⟩;have aC:W8.heap[H+1+1+1]?=some (.cells #[.int .i64 st'.most,.int .i64 st'.first,.int .i64 st'.factor] 84):=by rw[←I];exact f2
     have y0:=(R.block H (by omega)).trans (Aa bK);have y1:=(R.block (H+1) (by omega)).trans (Aa bB);have y2:=(R.block (H+1+1) (by omega)).trans (Aa aZ);have N:Below H w W8:=(Aa bC).trans (R.mono (by omega));clear z0 z3 z5 v0 v1 v2 v3 v4 aT bE bH;have z0:=Ad y0;have z1:=An y1;have z2:=Af y2;have z3:=An aC;have z5:=Af f3;have dA:=bL;have aB:=Ab N;have bQ:=Ab R;have bM:=Ab aC;have aD:=Ab y1;have aA:=Ab y2;have bI:=Ab (show H+1+1+1+1≤W8.heap.size by rw[f5,e4];omega);clear N R f2 aC f3 f4 f5 e1 e2 e3 e4 y0 y1 y2 aE aI aJ aL aR bZ aQ U X aW bT bY aO;rcases Aa Z with⟨hr,rfl,rfl⟩|⟨hr,hne⟩
     ·have G:=Aa J;rw[hr]at G;have aS:P22.keysGo P22.triesRd (ks.drop (i+1)) (Am (ds.drop (i+1))) st'=Y:=by rw[←I];exact G
      have S:=Ab aS;clear G aS hr J Z I;go_wp2;go_roundg g'
      case measure=>omega
      case rel=>exact⟨i+1,st',by omega,by go_num,S,bQ,bM,Aa bI⟩
     ·have j1:(ec != 0)=true:=by simpa using hne
      have G:=Aa J;rw[hr]at G;have S:=Ab (show Y=.error (ec,el) from G.symm);have aU:=Ab hne;clear G hr J Z I hne;go_upto_region 18 with fail
      go_region_with_o (fail)
      all_goals go_wp2
      all_goals
       have HE:=C3 (B:=H) (g1:=H+1) (g2:=H+1+1) (w:=w) (Aa aB) (Aa aD) (Aa aA) (by omega) (by omega) (by omega) (.int .i64 st'.most) (.int .i64 st'.first) (.int .i64 st'.factor) (.int .i64 ec) (.int .i64 el);exact qW (Al rfl _ _ _ (H+1) (H+1+1) _ _ rfl (Dx HE.2.1) rfl (Ai HE.2.2.1)) rfl ⟨by rw[hH];exact HE.1,st',ec,el,rfl,.inr ⟨Aa S,Aa aU⟩⟩
    by_cases n2:y=[102,97,99,116,111,114]
    ·subst n2;have aG:P22.triesRd [102,97,99,116,111,114]=some (fun d s=>(P22.numE d).map fun n=>{ s with factor:=n }):=rfl;have G:=Aa aH;rw[aG]at G;have c2:([102,97,99,116,111,114]==[102,97,99,116,111,114])=true:=by decide
     have c0:([102,97,99,116,111,114]==[109,111,115,116])=false:=by decide
     have c1:([102,97,99,116,111,114]==[102,105,114,115,116])=false:=by decide
     obtain⟨v,ec,el,aN,aK⟩:=Ex k1 t1 cB bV bX bU bW cA l1 (Aa cK);have aO:=Ab (aN W5);have Z:=Ab aK;have J:=Ab G;clear aN aK G aH aG;go_upto_region 17 with(go_at_call 96;refine(Aa aO).mono ?_;rintro x6 w6 ⟨rfl,Q⟩;have bL:=Q.size;have a3:=(Q.block (H+1+1+1) (by omega)).trans (Aa U);have aF:=(Q.block F (by omega)).trans (Aa aQ);have bE:=An a3;have bH:=Af aF;have aR:=Ab Q;have aJ:=Ab a3;have aL:=Ab aF;clear Q a3 aF)
     have aI:Below (H+1+1+1) W2 w6:=(Aa X).trans ((Aa aR).mono (by omega));obtain⟨e1,e2,e3,e4⟩:=Cr aI (Aa aJ) 2 (.int .i64 v);obtain⟨R,f2,f3,f4,f5⟩:=C6 (F:=F) e1 e2 ((e3 F (by omega)).trans (Aa aL)) (by omega) (.int .i64 ec) (.int .i64 el);obtain⟨W8,aE⟩:∃W8,((w6.setCell ⟨H+1+1+1,2,none⟩ (.int .i64 v)).setCell ⟨F,0,none⟩ (.int .i64 ec)).setCell ⟨F,1,none⟩ (.int .i64 el)=W8:=⟨_,rfl⟩;rw[aE]at R f2 f3 f4 f5 ⊢;obtain⟨st',I⟩:∃st':P22.Try,{ st with factor:=v }=st':=⟨_,rfl⟩;have aC:W8.heap[H+1+1+1]?=some (.cells #[.int .i64 st'.most,.int .i64 st'.first,.int .i64 st'.factor] 84):=by rw[←I];exact f2
     have y0:=(R.block H (by omega)).trans (Aa bK);have y1:=(R.block (H+1) (by omega)).trans (Aa bB);have y2:=(R.block (H+1+1) (by omega)).trans (Aa aZ);have N:Below H w W8:=(Aa bC).trans (R.mono (by omega));clear z0 z3 z5 v0 v1 v2 v3 v4 aT bE bH;have z0:=Ad y0;have z1:=An y1;have z2:=Af y2;have z3:=An aC;have z5:=Af f3;have dA:=bL;have aB:=Ab N;have bQ:=Ab R;have bM:=Ab aC;have aD:=Ab y1;have aA:=Ab y2;have bI:=Ab (show H+1+1+1+1≤W8.heap.size by rw[f5,e4];omega);clear N R f2 aC f3 f4 f5 e1 e2 e3 e4 y0 y1 y2 aE aI aJ aL aR bZ aQ U X aW bT bY aO;rcases Aa Z with⟨hr,rfl,rfl⟩|⟨hr,hne⟩
     ·have G:=Aa J;rw[hr]at G;have aS:P22.keysGo P22.triesRd (ks.drop (i+1)) (Am (ds.drop (i+1))) st'=Y:=by rw[←I];exact G
      have S:=Ab aS;clear G aS hr J Z I;go_wp2;go_roundg g'
      case measure=>omega
      case rel=>exact⟨i+1,st',by omega,by go_num,S,bQ,bM,Aa bI⟩
     ·have j1:(ec != 0)=true:=by simpa using hne
      have G:=Aa J;rw[hr]at G;have S:=Ab (show Y=.error (ec,el) from G.symm);have aU:=Ab hne;clear G hr J Z I hne;go_upto_region 18 with fail
      go_region_with_o (fail)
      all_goals go_wp2
      all_goals
       have HE:=C3 (B:=H) (g1:=H+1) (g2:=H+1+1) (w:=w) (Aa aB) (Aa aD) (Aa aA) (by omega) (by omega) (by omega) (.int .i64 st'.most) (.int .i64 st'.first) (.int .i64 st'.factor) (.int .i64 ec) (.int .i64 el);exact qW (Al rfl _ _ _ (H+1) (H+1+1) _ _ rfl (Dx HE.2.1) rfl (Ai HE.2.2.1)) rfl ⟨by rw[hH];exact HE.1,st',ec,el,rfl,.inr ⟨Aa S,Aa aU⟩⟩
    have aG:P22.triesRd y=none:=by unfold P22.triesRd;rw[if_neg n0,if_neg n1,if_neg n2]
    have G:=Aa aH;rw[aG]at G;have S:=Ab (show Y=.error (18,l1) from G.symm);have c0:(y==[109,111,115,116])=false:=by simpa using n0
    have c1:(y==[102,105,114,115,116])=false:=by simpa using n1
    have c2:(y==[102,97,99,116,111,114])=false:=by simpa using n2
    clear G aH aG;go_upto_region 17 with fail
    obtain⟨R,f2,f3,f4,f5⟩:=C6 (F:=F) (Aa X) (Aa U) (Aa aQ) (by omega) (.int .i64 18) (.int .i64 l1);obtain⟨W8,aE⟩:∃W8,(W5.setCell ⟨F,0,none⟩ (.int .i64 18)).setCell ⟨F,1,none⟩ (.int .i64 l1)=W8:=⟨_,rfl⟩;rw[aE]at R f2 f3 f4 f5 ⊢;have y0:=(R.block H (by omega)).trans (Aa bK);have y1:=(R.block (H+1) (by omega)).trans (Aa bB);have y2:=(R.block (H+1+1) (by omega)).trans (Aa aZ);have N:Below H w W8:=(Aa bC).trans (R.mono (by omega));clear z0 z3 z5 v0 v1 v2 v3 v4 aT;have z0:=Ad y0;have z1:=An y1;have z2:=Af y2;have z3:=An f2;have z5:=Af f3;have aB:=Ab N;have aD:=Ab y1;have aA:=Ab y2;clear N R f2 f3 f4 f5 y0 y1 y2 aE bZ aQ U X aW bT bY;go_upto_region 18 with fail
    go_region_with_o (fail)
    all_goals go_wp2
    all_goals
     have HE:=C3 (B:=H) (g1:=H+1) (g2:=H+1+1) (w:=w) (Aa aB) (Aa aD) (Aa aA) (by omega) (by omega) (by omega) (.int .i64 st.most) (.int .i64 st.first) (.int .i64 st.factor) (.int .i64 18) (.int .i64 l1);exact qW (Al rfl _ _ _ (H+1) (H+1+1) _ _ rfl (Dx HE.2.1) rfl (Ai HE.2.2.1)) rfl ⟨by rw[hH];exact HE.1,st,18,l1,rfl,.inr ⟨Aa S,by decide⟩⟩
theorem Qh(n i:Nat):(Array.replicate n false).getD i false=false:=by
 simp only[Array.getD];split<;>simp
theorem G5{a:Act}{t:Tmp}{v:Value}(h:t<a.tmps.size):(a.put (some t) v).tmps.getD t undef=v:=by
 simp[Act.put,Array.getD,h]
theorem Bz{a:Act}{t u:Tmp}{v:Value}(h:t≠u):(a.put (some t) v).tmps.getD u undef=a.tmps.getD u undef:=by
 simp only[Act.put,Array.getD_eq_getD_getElem?];rw[Array.getElem?_setIfInBounds_ne h]
theorem G8{a:Act}{t:Tmp}{v:Value}:(a.put (some t) v).tmps.size=a.tmps.size:=by simp[Act.put]
theorem Fh{a:Act}{t:Option Tmp}{v:Value}:(a.put t v).defers=a.defers:=by
 cases t<;>rfl
theorem Pj{id:Nat}{T y0 y1 y2 y3 y4 y5:TypeId}{s0 s1 s2 s3 s4 s5:String}{x y t0 G t2 t3 p q:Nat}{c l:Int}{bx by' g1 g2 n:Nat}{cs aA:Array Value}{u0 u1 u2 u3 e0 e1:Value}{NT:TypeId}{a0:Act}{w0:World}{Q:Exit→Act→World→Prop}
  (hz:a0.tmps.size=n) (cG:t0<G) (cD:G<t2) (cB:t2<t3) (cE:t3<n) (cF:x<t0) (bZ:y<t0) (cC:p<t0) (cA:q<t0)
  (hx:a0.tmps.getD x undef=.pointer (some ⟨bx,0,none⟩)) (hy:a0.tmps.getD y undef=.pointer (some ⟨by',0,none⟩)) (hp:a0.tmps.getD p undef=.pointer (some ⟨g1,0,none⟩)) (hq:a0.tmps.getD q undef=.pointer (some ⟨g2,0,none⟩))
  (hne:g1≠g2) (bD:bx≠g1) (bJ:bx≠g2) (aR:by'≠g1) (aT:by'≠g2)
  (bU:w0.heap[bx]?=some (.cells cs T)) (bO:w0.heap[by']?=some (.cells #[u0,u1,u2,u3,.int .i64 l] NT)) (bT:w0.heap[g1]?=some (.cells aA T)) (bS:w0.heap[g2]?=some (.cells #[e0,e1] 29))
  (bN:∀(o:Oper) (a:Act) (w:World) (K:Act→World→Prop),o.op=.load T (.tmp x)→a.eval (.tmp x)=.pointer (some ⟨bx,0,none⟩)→w.heap[bx]?=some (.cells cs T)→K (a.put o.dst (.agg cs)) w→o.wp Tryz.prog a w K Q) (hi:(Tryz.prog.info? T).map (·.size)=some cs.size) (bC:aA.size=cs.size) (bG:cs.all (·.oneCell')=true)
  (hQ:∀a w,a.defers=a0.defers→a.tmps.getD p undef=.pointer (some ⟨g1,0,none⟩)→a.tmps.getD q undef=.pointer (some ⟨g2,0,none⟩)→Q8 g1 g2 w0 w→w.heap[g1]?=some (.cells cs T)→w.heap[g2]?=some (.cells #[.int .i64 c,.int .i64 l] 29)→Q .normal a w) :
  (Code.region id #[{ dst:=some t0,op:=.load T (.tmp x),type:=y0,pos:=s0,after:=#[],guard:=none },
   { dst:=some G,op:=.fieldAddr 26 (.tmp y) 4,type:=y1,pos:=s1,after:=#[{ on:=4,ground:=.gcOnly .lateStores }],guard:=none },
   { dst:=some t2,op:=.load 3 (.tmp G),type:=y2,pos:=s2,after:=#[{ on:=1,ground:=.data },{ on:=4,ground:=.gcOnly .lateStores }],guard:=none },
   { dst:=some t3,op:=.build 29 #[(0,.const (.int .i64 c)),(1,.tmp t2)],type:=y3,pos:=s3,after:=#[{ on:=2,ground:=.data },{ on:=4,ground:=.gcOnly .lateStores }],guard:=none },
   { dst:=none,op:=.store T (.tmp p) (.tmp t0),type:=y4,pos:=s4,after:=#[{ on:=0,ground:=.data },{ on:=0,ground:=.phase },{ on:=1,ground:=.textOnly .lateStores },{ on:=2,ground:=.textOnly .lateStores },{ on:=3,ground:=.textOnly .lateStores }],guard:=none },
   { dst:=none,op:=.store 29 (.tmp q) (.tmp t3),type:=y5,pos:=s5,after:=#[{ on:=3,ground:=.data },{ on:=4,ground:=.chain },{ on:=0,ground:=.phase },{ on:=1,ground:=.phase },{ on:=2,ground:=.phase },{ on:=3,ground:=.phase },{ on:=4,ground:=.phase }],guard:=none }] true).wp Tryz.prog Q a0 w0:=by
 have aO:t0≠x:=by omega
 have aY:t0≠y:=by omega
 have bI:t0≠p:=by omega
 have bM:t0≠q:=by omega
 have aH:t0≠G:=by omega
 have aL:t0≠t2:=by omega
 have aC:t0≠t3:=by omega
 have aS:G≠x:=by omega
 have bH:G≠y:=by omega
 have bK:G≠p:=by omega
 have bE:G≠q:=by omega
 have aI:G≠t0:=by omega
 have aB:G≠t2:=by omega
 have aJ:G≠t3:=by omega
 have bA:t2≠x:=by omega
 have aZ:t2≠y:=by omega
 have aX:t2≠p:=by omega
 have bF:t2≠q:=by omega
 have aK:t2≠t0:=by omega
 have aN:t2≠G:=by omega
 have aG:t2≠t3:=by omega
 have aU:t3≠x:=by omega
 have aW:t3≠y:=by omega
 have bL:t3≠p:=by omega
 have aQ:t3≠q:=by omega
 have aM:t3≠t0:=by omega
 have aD:t3≠G:=by omega
 have aE:t3≠t2:=by omega
 have bW:t0<n:=by omega
 have bX:G<n:=by omega
 have bR:t2<n:=by omega
 have bV:t3<n:=by omega
 refine Em Dl (fun L a w=>L.size=6∧a.defers=a0.defers∧a.tmps.size=n∧a.tmps.getD x undef=.pointer (some ⟨bx,0,none⟩)∧a.tmps.getD y undef=.pointer (some ⟨by',0,none⟩)∧a.tmps.getD p undef=.pointer (some ⟨g1,0,none⟩)∧a.tmps.getD q undef=.pointer (some ⟨g2,0,none⟩) ∧
  (L.getD 0 false=true→a.tmps.getD t0 undef=.agg cs)∧(L.getD 1 false=true→a.tmps.getD G undef=.pointer (some ⟨by',4,none⟩))∧(L.getD 2 false=true→a.tmps.getD t2 undef=.int .i64 l)∧(L.getD 3 false=true→a.tmps.getD t3 undef=.agg #[.int .i64 c,.int .i64 l]) ∧
  Q8 g1 g2 w0 w∧(L.getD 4 false=false→w.heap[g1]?=some (.cells aA T))∧(L.getD 4 false=true→w.heap[g1]?=some (.cells cs T))∧(L.getD 5 false=false→w.heap[g2]?=some (.cells #[e0,e1] 29))∧(L.getD 5 false=true→w.heap[g2]?=some (.cells #[.int .i64 c,.int .i64 l] 29))) (by kernel_rfl) ?_ ?_ ?_
 ·refine⟨by simp,rfl,hz,hx,hy,hp,hq,?_,?_,?_,?_,⟨qJ _,fun _ _ _=>rfl,rfl,rfl,rfl⟩,fun _=>bT,?_,fun _=>bS,?_⟩;all_goals (intro h;rw[Qh]at h;cases h)
 ·rintro L a w i o ⟨hL,I,D,kx,ky,kp,Z,f0,f1,f2,f3,hB,n4,U,n5,S⟩ ho J X
  match i,ho with
  |0,ho=>
   cases ho;refine Ak rfl rfl ?_;refine qS (K:=fun N R=>N=a.put (some t0) (.agg cs)∧R=w) (fun N R he=>?_) (bN _ _ _ _ rfl kx ((hB.same bx bD bJ).trans bU) ⟨rfl,rfl⟩);obtain⟨rfl,rfl⟩:=he;exact⟨by simp[hL],Fh.trans I,G8.trans D,(Bz aO).trans kx,(Bz aY).trans ky,(Bz bI).trans kp,(Bz bM).trans Z,fun _=>G5 (by rw[D];exact bW),fun h=>(Bz aH).trans (f1 (Ac (by omega) h)),fun h=>(Bz aL).trans (f2 (Ac (by omega) h)),fun h=>(Bz aC).trans (f3 (Ac (by omega) h)),hB,fun h=>n4 (by rwa [getD_set_ne false (by omega)]at h),fun h=>U (Ac (by omega) h),fun h=>n5 (by rwa [getD_set_ne false (by omega)]at h),fun h=>S (Ac (by omega) h)⟩
  |1,ho=>
   cases ho;refine Ak rfl rfl ?_;have bY:a.tmps[y]?.getD undef=.pointer (some ⟨by',0,none⟩):=by simpa using ky
   refine qS (K:=fun N R=>N=a.put (some G) (.pointer (some ⟨by',4,none⟩))∧R=w) (fun N R he=>?_) (by simp[Oper.wp,go_sem,bY]);obtain⟨rfl,rfl⟩:=he;exact⟨by simp[hL],Fh.trans I,G8.trans D,(Bz aS).trans kx,(Bz bH).trans ky,(Bz bK).trans kp,(Bz bE).trans Z,fun h=>(Bz aI).trans (f0 (Ac (by omega) h)),fun _=>G5 (by rw[D];exact bX),fun h=>(Bz aB).trans (f2 (Ac (by omega) h)),fun h=>(Bz aJ).trans (f3 (Ac (by omega) h)),hB,fun h=>n4 (by rwa [getD_set_ne false (by omega)]at h),fun h=>U (Ac (by omega) h),fun h=>n5 (by rwa [getD_set_ne false (by omega)]at h),fun h=>S (Ac (by omega) h)⟩
  |2,ho=>
   cases ho;refine Ak rfl rfl ?_;have k1:=f1 (X ⟨1,.data⟩ (by simp) rfl);have bQ:a.tmps[G]?.getD undef=.pointer (some ⟨by',4,none⟩):=by simpa using k1
   have z0:=Ad ((hB.same by' aR aT).trans bO);refine qS (K:=fun N R=>N=a.put (some t2) (.int .i64 l)∧R=w) (fun N R he=>?_) (by simp[Oper.wp,go_sem,bQ,z0]);obtain⟨rfl,rfl⟩:=he;exact⟨by simp[hL],Fh.trans I,G8.trans D,(Bz bA).trans kx,(Bz aZ).trans ky,(Bz aX).trans kp,(Bz bF).trans Z,fun h=>(Bz aK).trans (f0 (Ac (by omega) h)),fun h=>(Bz aN).trans (f1 (Ac (by omega) h)),fun _=>G5 (by rw[D];exact bR),fun h=>(Bz aG).trans (f3 (Ac (by omega) h)),hB,fun h=>n4 (by rwa [getD_set_ne false (by omega)]at h),fun h=>U (Ac (by omega) h),fun h=>n5 (by rwa [getD_set_ne false (by omega)]at h),fun h=>S (Ac (by omega) h)⟩
  |3,ho=>
   cases ho;refine Ak rfl rfl ?_;have k2:=f2 (X ⟨2,.data⟩ (by simp) rfl);have bP:a.tmps[t2]?.getD undef=.int .i64 l:=by simpa using k2
   refine qS (K:=fun N R=>N=a.put (some t3) (.agg #[.int .i64 c,.int .i64 l])∧R=w) (fun N R he=>?_) (by simp[Oper.wp,go_sem,bP]);obtain⟨rfl,rfl⟩:=he;exact⟨by simp[hL],Fh.trans I,G8.trans D,(Bz aU).trans kx,(Bz aW).trans ky,(Bz bL).trans kp,(Bz aQ).trans Z,fun h=>(Bz aM).trans (f0 (Ac (by omega) h)),fun h=>(Bz aD).trans (f1 (Ac (by omega) h)),fun h=>(Bz aE).trans (f2 (Ac (by omega) h)),fun _=>G5 (by rw[D];exact bV),hB,fun h=>n4 (by rwa [getD_set_ne false (by omega)]at h),fun h=>U (Ac (by omega) h),fun h=>n5 (by rwa [getD_set_ne false (by omega)]at h),fun h=>S (Ac (by omega) h)⟩
  |4,ho=>
   cases ho;refine Ak rfl rfl ?_;have k0:=f0 (X ⟨0,.data⟩ (by simp) rfl);refine qS (K:=fun N R=>N=a∧R=w.setRow g1 cs) (fun N R he=>?_) (wp_store_row T (.tmp p) (.tmp t0) rfl g1 cs kp k0 T aA (n4 (A4 J).2) hi bC bG ⟨rfl,rfl⟩);obtain⟨rfl,rfl⟩:=he;exact⟨by simp[hL],I,D,kx,ky,kp,Z,fun h=>f0 (Ac (by omega) h),fun h=>f1 (Ac (by omega) h),fun h=>f2 (Ac (by omega) h),fun h=>f3 (Ac (by omega) h),hB.step (by simp[World.setRow]) (fun g h1 h2=>Br h1) rfl rfl rfl,fun h=>by(rw[Bm J]at h;cases h),fun _=>setRow_heap _ _ _ _ _ _ (n4 (A4 J).2),fun h=>(Br (Ne.symm hne)).trans (n5 (by rwa [getD_set_ne false (by omega)]at h)),fun h=>(Br (Ne.symm hne)).trans (S (Ac (by omega) h))⟩
  |5,ho=>
   cases ho;refine Ak rfl rfl ?_;have k3:=f3 (X ⟨3,.data⟩ (by simp) rfl);refine qS (K:=fun N R=>N=a∧R=w.setRow g2 #[.int .i64 c,.int .i64 l]) (fun N R he=>?_) (wp_store_row 29 (.tmp q) (.tmp t3) rfl g2 #[.int .i64 c,.int .i64 l] Z k3 29 #[e0,e1] (n5 (A4 J).2) (by kernel_rfl) rfl (by simp[Value.oneCell']) ⟨rfl,rfl⟩);obtain⟨rfl,rfl⟩:=he;exact⟨by simp[hL],I,D,kx,ky,kp,Z,fun h=>f0 (Ac (by omega) h),fun h=>f1 (Ac (by omega) h),fun h=>f2 (Ac (by omega) h),fun h=>f3 (Ac (by omega) h),hB.step (by simp[World.setRow]) (fun g h1 h2=>Br h2) rfl rfl rfl,fun h=>(Br hne).trans (n4 (by rwa [getD_set_ne false (by omega)]at h)),fun h=>(Br hne).trans (U (Ac (by omega) h)),fun h=>by(rw[Bm J]at h;cases h),fun _=>setRow_heap _ _ _ _ _ _ (n5 (A4 J).2)⟩
  |n+6,ho=>exact absurd ho (by simp)
 ·rintro L a w ⟨hL,I,D,kx,ky,kp,Z,f0,f1,f2,f3,hB,n4,U,n5,S⟩ bB
  have Y:∀i,i<6→L.getD i false=true:=fun i hi=>by
   have:=bB i;have J:i<L.size:=by omega
   simp only[Array.getD,J,dif_pos]at this ⊢;exact this
  exact hQ a w I kp Z hB (U (Y 4 (by omega))) (S (Y 5 (by omega)))
theorem Pi{x bx:Nat}{cs:Array Value}(hs:cs.size=13){Q:Exit→Act→World→Prop}(o:Oper)(a:Act)(w:World)(K:Act→World→Prop)(ho:o.op=.load 86 (.tmp x))(he:a.eval (.tmp x)=.pointer (some ⟨bx,0,none⟩))(D:w.heap[bx]?=some (.cells cs 86))(hk:K (a.put o.dst (.agg cs)) w):o.wp Tryz.prog a w K Q:=
 wp_load_row 86 (.tmp x) ho bx he 86 cs (0,0) _ D Tryz.underlying86 rfl (by rw[hs];kernel_rfl) hk
end Go.Proofs.YtnjokdbblmlhhaaGreatDoor
