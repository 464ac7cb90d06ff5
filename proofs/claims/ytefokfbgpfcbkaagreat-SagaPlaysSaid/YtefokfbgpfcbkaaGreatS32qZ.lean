import Derived.Test.YtefokfbgpfcbkaaGreatS32lZ
set_option maxRecDepth 100000
set_option maxHeartbeats 4000000
set_option linter.unusedVariables false
set_option linter.unusedSimpArgs false
namespace Go.Proofs.YtefokfbgpfcbkaaGreat
open Go.RowKit
def Cs(W:World)(a:Option Addr)(os:List P32.Order):Prop:=∀(j:Nat) (o:P32.Order),os[j]?=some o→∃g q,a=some ⟨g,q,none⟩∧W.cell? ⟨g,q+j*4,none⟩=some (.int .i64 (o.step:Int))∧W.cell? ⟨g,q+j*4+1,none⟩=some (.int .i64 o.att)∧W.cell? ⟨g,q+j*4+2,none⟩=some (.bool o.undo)∧W.cell? ⟨g,q+j*4+3,none⟩=some (.int .i64 o.til)
theorem Cs.below{W W':World}{a:Option Addr}{os:List P32.Order}(h:Cs W a os)(hb:Below W.heap.size W W'):Cs W' a os:=fun j o ho=>by
 obtain⟨g,q,e,c0,c1,c2,c3⟩:=h j o ho;have hg:=hb.block g (Ad c0);exact⟨g,q,e,(Ae hg _).trans c0,(Ae hg _).trans c1,(Ae hg _).trans c2,(Ae hg _).trans c3⟩
theorem S0{os:List P32.Order}:∀{j:Nat} {o:P32.Order},os[j]?=some o→(Co os)[j*4]?=some (.int .i64 (o.step:Int))∧(Co os)[j*4+1]?=some (.int .i64 o.att)∧(Co os)[j*4+2]?=some (.bool o.undo)∧(Co os)[j*4+3]?=some (.int .i64 o.til):=by
 induction os with
 |nil=>intro j o h;simp at h
 |cons p r ih=>
  intro j o h;have e:Co (p::r)=Ma p++Co r:=by simp[Co]
  rw[e];cases j with
  |zero=>
   simp at h;subst h;exact⟨rfl,rfl,rfl,rfl⟩
  |succ j=>
   obtain⟨a,b,c,d⟩:=ih (j:=j) (o:=o) (by simpa using h)
   have hs:∀k,(Ma p++Co r)[(j+1)*4+k]?=(Co r)[j*4+k]?:=fun k=>by
    rw[zA (by simp[Ma];omega)]
    congr 1
    simp[Ma];omega
   exact⟨(hs 0).trans a,(hs 1).trans b,(hs 2).trans c,(hs 3).trans d⟩
theorem Ba.slice{W:World}{B:Nat}{v:Value}{os:List P32.Order}(h:Ba W B v os):∃a c,v=.slice a os.length c∧os.length≤c∧Cs W a os:=by
 rcases h.2 with⟨rfl,h0⟩|⟨g,cap,I,rfl,hb,hh,hc,hm,hsz,J⟩
 ·have:os=[]:=qT h0;subst this;exact⟨none,0,rfl,qJ _,fun i x hx=>by simp at hx⟩
 ·refine⟨_,cap,rfl,hc,fun j o hx=>⟨g,0,rfl,?_⟩⟩;have aA:=(qI.1 hx).1;obtain⟨a,b,c,d⟩:=S0 hx;rw[←J]at a b c d
  have ht:∀k v,k<4→(I.toList.take (os.length*4))[j*4+k]?=some v→W.cell? ⟨g,0+j*4+k,none⟩=some v:=fun k v hk Z=>by
   rw[List.getElem?_take_of_lt (by omega)]at Z;rw[Nat.zero_add,cell_of_row W g (j*4+k) I _ (0,0) hh];simpa using Z
  exact⟨ht 0 _ (by omega) a,ht 1 _ (by omega) b,ht 2 _ (by omega) c,ht 3 _ (by omega) d⟩
def Cm(os:List P32.Order):Prop:=∀(i j:Nat) (o p:P32.Order),i<j→os[i]?=some o→os[j]?=some p→o.step<p.step
def cmpN(a b:Nat):Int:=if a<b then -1 else if b<a then 1 else 0
theorem Hf(a:Int)(w:World):Calls Tryz.prog 141 #[.int .i64 a] w fun e w'=>e=.returned (.bool false)∧w'=w:=by
 go_enter Tryz.func141,Tryz.ntmps141
 go_wp2;go_ret;exact⟨by simp,rfl⟩
theorem Nt(a b:Nat)(w:World):Calls Tryz.prog 100 #[.int .i64 (a:Int),.int .i64 (b:Int)] w fun e w'=>e=.returned (.int .i64 (cmpN a b))∧w'=w:=by
 by_cases h1:a<b
 ·have hr:cmpN a b=-1:=if_pos h1;have I:(a:Int)<(b:Int):=by omega
  have J:=Ab hr;clear hr h1;go_enter Tryz.func100,Tryz.ntmps100
  go_wp2_with (go_at_call 141;refine(Hf _ _).mono ?_;rintro e w1 ⟨rfl,rfl⟩)
  go_ret;exact⟨by rw[Aa J];rfl,rfl⟩
 ·by_cases h2:b<a
  ·have hr:cmpN a b=1:=by unfold cmpN;rw[if_neg h1,if_pos h2]
   have I:(b:Int)≤(a:Int):=by omega
   have Z:(b:Int)<(a:Int):=by omega
   have J:=Ab hr;clear hr h1 h2;go_enter Tryz.func100,Tryz.ntmps100
   go_wp2_with (go_at_call 141;refine(Hf _ _).mono ?_;rintro e w1 ⟨rfl,rfl⟩)
   go_ret;exact⟨by rw[Aa J];rfl,rfl⟩
  ·have hr:cmpN a b=0:=by unfold cmpN;rw[if_neg h1,if_neg h2]
   have I:(b:Int)≤(a:Int):=by omega
   have Z:(a:Int)≤(b:Int):=by omega
   have J:=Ab hr;clear hr h1 h2;go_enter Tryz.func100,Tryz.ntmps100
   go_wp2_with (go_at_call 141;refine(Hf _ _).mono ?_;rintro e w1 ⟨rfl,rfl⟩)
   go_ret;exact⟨by rw[Aa J];rfl,rfl⟩
theorem Dl(o p:P32.Order)(w:World):Calls Tryz.prog 99 #[.agg #[.int .i64 (o.step:Int),.int .i64 o.att,.bool o.undo,.int .i64 o.til],.agg #[.int .i64 (p.step:Int),.int .i64 p.att,.bool p.undo,.int .i64 p.til]] w fun e w'=>e=.returned (.int .i64 (cmpN o.step p.step))∧Below w.heap.size w w':=by
 obtain⟨H,hH⟩:=qeX w.heap.size;rw[hH];obtain⟨W1,J,I,g0,g1,aA⟩:=Dt w (.cells #[.int .i64 (o.step:Int),.int .i64 o.att,.bool o.undo,.int .i64 o.til] 35) (.cells #[.int .i64 (p.step:Int),.int .i64 p.att,.bool p.undo,.int .i64 p.til] 35) H hH;obtain⟨⟨x0,_⟩,_⟩:=Bl g0;obtain⟨⟨y0,_⟩,_⟩:=Bl g1;have HC:=Ab (Nt o.step p.step W1);have Z:=Ab J;have HB:=Ab I;clear J I g0 g1;go_enter Tryz.func99,Tryz.ntmps99
 go_upto_region 1 with fail
 try rw[hH]
 rw[Aa Z];go_wp2_with (go_at_call 100;refine(Aa HC).mono ?_;rintro e w' ⟨rfl,hw⟩;obtain rfl:=hw.symm)
 go_ret;exact⟨rfl,Aa HB⟩
theorem Gm:∀args W,(callFunc 99 args).run Tryz.prog W=.ok (.enter 99 args) W:=enters_of Tryz.func99 (by kernel_rfl) rfl
theorem Jd{W:World}{a:Option Addr}{os:List P32.Order}{i j n:Nat}(hd:Cs W a os)(hs:Cm os)(hn:os.length=n)(hi:i<n)(hj:j<n)(I:j<i):∃(o p:P32.Order) (g q:Nat),a=some ⟨g,q,none⟩∧(W.cell? ⟨g,q+i*4,none⟩=some (.int .i64 (o.step:Int))∧W.cell? ⟨g,q+i*4+1,none⟩=some (.int .i64 o.att)∧W.cell? ⟨g,q+i*4+2,none⟩=some (.bool o.undo)∧W.cell? ⟨g,q+i*4+3,none⟩=some (.int .i64 o.til)) ∧
  (W.cell? ⟨g,q+j*4,none⟩=some (.int .i64 (p.step:Int))∧W.cell? ⟨g,q+j*4+1,none⟩=some (.int .i64 p.att)∧W.cell? ⟨g,q+j*4+2,none⟩=some (.bool p.undo)∧W.cell? ⟨g,q+j*4+3,none⟩=some (.int .i64 p.til))∧cmpN o.step p.step=1:=by
 obtain⟨o,ho⟩:=Ap hn hi;obtain⟨p,hp⟩:=Ap hn hj;obtain⟨g,q,e,h1⟩:=hd i o ho;obtain⟨g2,Z,J,h2⟩:=hd j p hp;rw[e]at J;cases J;refine⟨o,p,g,q,e,h1,h2,?_⟩;have:=hs j i p o I hp ho;unfold cmpN;rw[if_neg (by omega),if_pos this]
theorem Qb0(a:Option Addr)(cap n J b:Nat)(os:List P32.Order)(w:World)(hd:Cs w a os)(hs:Cm os)(hn:os.length=n)(hb:b≤n)(aO:n≤1000000)(h0:J≤1000000) :
  Calls Tryz.prog 184 #[.slice a n cap,.int .i64 (J:Int),.int .i64 (b:Int),.func (.func 99) #[] #[]] w fun e w'=>e=.returned (.tuple #[])∧Below w.heap.size w w':=by
 obtain⟨K,hK⟩:=qeX w.heap.size;have aA:∀V,Below K w V→Cs V a os:=fun V hV=>hd.below (by rw[hK];exact hV);rw[hK];have aM:IntKind.i64.wrap ((J:Int)+1)=(J:Int)+1:=qG _ (by omega);have aD:=Ab aA;have HS:=Ab hs;have HN:=Ab hn;have he:=Gm;clear aA hd hs hn;go_enter Tryz.func184,Tryz.ntmps184
 go_wp2
 go_loopg [8] (b-J) (fun g s8 wx=>∃i:Nat,J+1≤i∧b≤i+g∧i≤1000001∧s8=.int .i64 (i:Int)∧Hid (Below K w wx))
 case atStart=>exact⟨J+1,qJ _,by omega,by omega,by go_num,Ab (qU _ _)⟩
 case round=>
  obtain⟨i,aI,aJ,aH,rfl,HB⟩:=hrel;by_cases aN:i<b
  ·obtain⟨g',rfl⟩:∃g',gk=g'+1:=⟨gk-1,by omega⟩;have e1:(i:Int)<(b:Int):=by omega
   have j1:decide ((i:Int)<(b:Int))=true:=by simp;omega
   have aK:IntKind.i64.wrap ((i:Int)+1)=(i:Int)+1:=qG _ (by omega);go_wp2
   go_loopg [9] 0 (fun g s9 wx=>s9=.int .i64 (i:Int)∧Hid (Below K w wx))
   case atStart=>exact⟨by go_num,HB⟩
   case round=>
    obtain⟨rfl,Z⟩:=hrel;obtain⟨k,rfl⟩:∃k,i=k+1:=⟨i-1,by omega⟩;have e2:((J:Nat):Int)<((k+1:Nat):Int):=by omega
    have j2:decide (((k+1:Nat):Int) > (J:Int))=true:=by simp;omega
    obtain⟨o,p,g,q,rfl,⟨c0,c1,c2,c3⟩,⟨d0,d1,d2,d3⟩,aC⟩:=Jd (i:=k+1) (j:=k) (Aa aD _ (Aa Z)) (Aa HS) (Aa HN) (by omega) (by omega) (by omega);have aE:IntKind.i64.wrap (((k+1:Nat):Int)-1)=(k:Int):=by rw[qG _ (by omega)];omega
    have aL:(k:Int)<(n:Int):=by omega
    have aB:((k+1:Nat):Int)<(n:Int):=by omega
    have hc:=fun q=>Dl o p (wr.drewN q);rw[aC]at hc;obtain⟨I,hI⟩:=qeX (k+1);rw[hI]at c0 c1 c2 c3 e2 j2 aE aB ⊢;have HC:=Ab hc;have aG:=Ab hI;clear hc aC hI;go_upto_region 4 with fail
    refine Ak 14 (by kernel_rfl) (by kernel_rfl) (by kernel_rfl) (by kernel_rfl) (by kernel_rfl) ?_;simp only[List.take_succ_cons,List.take_zero,List.drop_succ_cons,List.drop_zero]
    repeat (go_big_quiet_step (fail))
    refine wpQuiet_nil ?_;rintro _ ⟨nq,rfl⟩;go_wp2_with (go_at_call 99;refine(Aa HC _).mono ?_;rintro e w3 ⟨rfl,b3⟩)
    have HE:=Ab b3;clear b3;go_roundg g'
    case measure=>omega
    case rel=>
     have hI:=Aa aG;exact⟨I+1,by omega,by omega,by omega,by go_num,Ab ((Aa Z).trans ((Ac (qU _ _)).trans ((Aa HE).mono (by have:=(Aa Z).size;simp;omega))))⟩
  ·have e1:(b:Int)≤(i:Int):=by omega
   have j1:decide ((i:Int)<(b:Int))=false:=by simp;omega
   go_wp2;go_end0;exact⟨rfl,Aa HB⟩
open Go.RowKit
theorem Wp(a:Option Addr)(cap n:Nat)(os:List P32.Order)(a0 m b:Nat)(w:World)(hd:Cs w a os)(hs:Cm os)(hn:os.length=n)(aP:n≤1000000)(h1:a0<m)(h2:m<b)(h3:b≤n)(h4:m=a0+1) :
  Calls Tryz.prog 185 #[.slice a n cap,.int .i64 (a0:Int),.int .i64 (m:Int),.int .i64 (b:Int),.func (.func 99) #[] #[]] w fun e w'=>e=.returned (.tuple #[])∧Below w.heap.size w w':=by
 obtain⟨K,hK⟩:=qeX w.heap.size;have Z:∀V,Below K w V→Cs V a os:=fun V hV=>hd.below (by rw[hK];exact hV);rw[hK];have he:=Gm;subst h4;have e0:((a0+1:Nat):Int)-(a0:Int)=1:=by omega
 have w0:IntKind.i64.wrap (((a0+1:Nat):Int)-(a0:Int))=1:=by rw[qG _ (by omega)];omega
 obtain⟨m,hm⟩:=qeX (a0+1);rw[hm]at h1 h2 e0 w0 ⊢;have w1:IntKind.i64.wrap ((m:Int)-1)=(a0:Int):=by rw[qG _ (by omega)];omega
 have J:m=a0+1:=hm.symm;have aO:=Ab J;clear hm J;have aD:=Ab Z;have HS:=Ab hs;have HN:=Ab hn;clear Z hd hs hn;go_enter Tryz.func185,Tryz.ntmps185
 go_wp2
 go_loopg [10,11] (b-m) (fun g aH aJ wx=>∃j:Nat,aH=.int .i64 (m:Int)∧aJ=.int .i64 (j:Int)∧m≤j∧j≤b∧j-m≤g∧Hid (Below K w wx))
 case atStart=>exact⟨b,by go_num,by go_num,by omega,qJ _,qJ _,Ab (qU _ _)⟩
 case round=>
  obtain⟨j,rfl,rfl,aK,aQ,aS,HB⟩:=hrel;by_cases aR:m<j
  ·have aA:(m:Int)<(j:Int):=by omega
   have aB:IntKind.i64.wrap ((m:Int)+(j:Int))=(m:Int)+(j:Int):=qG _ (by omega);obtain⟨h,hh⟩:=qeX ((m+j) / 2);have I:((m:Int)+(j:Int)) / 2=(h:Int):=by omega
   have aG:m≤h:=by omega
   have aL:h<j:=by omega
   have aM:(h:Int)<(n:Int):=by omega
   have aN:(a0:Int)<(n:Int):=by omega
   clear hh;go_upto_region 5 with fail
   try rw[I]
   clear I aB;obtain⟨o,p,g,q,rfl,⟨c0,c1,c2,c3⟩,⟨d0,d1,d2,d3⟩,aC⟩:=Jd (i:=h) (j:=a0) (Aa aD _ (Aa HB)) (Aa HS) (Aa HN) (by omega) (by omega) (by omega);have hc:=fun q=>Dl o p (wr.drewN q);rw[aC]at hc;have HC:=Ab hc;clear hc aC;refine Ak 9 (by kernel_rfl) (by kernel_rfl) (by kernel_rfl) (by kernel_rfl) (by kernel_rfl) ?_;simp only[List.take_succ_cons,List.take_zero,List.drop_succ_cons,List.drop_zero]
   repeat (go_big_quiet_step (fail))
   refine wpQuiet_nil ?_;rintro _ ⟨nq,rfl⟩;go_wp2_with (go_at_call 99;refine(Aa HC _).mono ?_;rintro e w3 ⟨rfl,b3⟩)
   have HE:=Ab b3;clear b3;go_roundg (gk-1)
   case measure=>omega
   case rel=>exact⟨h,by go_num,by go_num,aG,by omega,by omega,Ab ((Aa HB).trans ((Ac (qU _ _)).trans ((Aa HE).mono (by have:=(Aa HB).size;simp;omega))))⟩
  ·obtain rfl:j=m:=by omega
   have aA:(j:Int)≤(j:Int):=by omega
   go_wp2
   go_loopg [13] 0 (fun g aI wx=>aI=.int .i64 (a0:Int)∧Hid (Below K w wx))
   case atStart=>exact⟨by go_num,HB⟩
   case round=>
    obtain⟨rfl,aE⟩:=hrel;go_wp2;exact qV (results_none rfl _ _ _) rfl ⟨rfl,Aa aE⟩
theorem Ty(a:Option Addr)(cap n:Nat)(os:List P32.Order)(a0 m b:Nat)(w:World)(hd:Cs w a os)(hs:Cm os)(hn:os.length=n)(aP:n≤1000000)(h1:a0<m)(h2:m<b)(h3:b≤n)(h4:b=m+1)(h5:m≠a0+1) :
  Calls Tryz.prog 185 #[.slice a n cap,.int .i64 (a0:Int),.int .i64 (m:Int),.int .i64 (b:Int),.func (.func 99) #[] #[]] w fun e w'=>e=.returned (.tuple #[])∧Below w.heap.size w w':=by
 obtain⟨K,hK⟩:=qeX w.heap.size;have J:∀V,Below K w V→Cs V a os:=fun V hV=>hd.below (by rw[hK];exact hV);rw[hK];have he:=Gm;subst h4;have e0:((m:Int)-(a0:Int)==1)=false:=by simp;omega
 have w0:IntKind.i64.wrap ((m:Int)-(a0:Int))=(m:Int)-(a0:Int):=qG _ (by omega);have w1:IntKind.i64.wrap (((m+1:Nat):Int)-(m:Int))=1:=by rw[qG _ (by omega)];omega
 obtain⟨b,hb⟩:=qeX (m+1);rw[hb]at h2 h3 w1 ⊢;have aK:=Ab hb;clear hb h5;have aC:=Ab J;have HS:=Ab hs;have HN:=Ab hn;clear J hd hs hn;go_enter Tryz.func185,Tryz.ntmps185
 go_wp2
 go_loopg [14,15] (m-a0) (fun g aG aH wx=>∃i:Nat,aG=.int .i64 (i:Int)∧aH=.int .i64 (m:Int)∧a0≤i∧i≤m∧m-i≤g∧Hid (Below K w wx))
 case atStart=>exact⟨a0,by go_num,by go_num,qJ _,by omega,qJ _,Ab (qU _ _)⟩
 case round=>
  obtain⟨i,rfl,rfl,aI,aQ,aS,HB⟩:=hrel;by_cases aR:i<m
  ·have Z:(i:Int)<(m:Int):=by omega
   have aA:IntKind.i64.wrap ((i:Int)+(m:Int))=(i:Int)+(m:Int):=qG _ (by omega);obtain⟨h,hh⟩:=qeX ((i+m) / 2);have I:((i:Int)+(m:Int)) / 2=(h:Int):=by omega
   have aL:i≤h:=by omega
   have aJ:h<m:=by omega
   have aM:(h:Int)<(n:Int):=by omega
   have aO:(m:Int)<(n:Int):=by omega
   have aN:IntKind.i64.wrap ((h:Int)+1)=(h:Int)+1:=qG _ (by omega);clear hh;go_upto_region 17 with fail
   try rw[I]
   clear I aA;obtain⟨o,p,g,q,rfl,⟨c0,c1,c2,c3⟩,⟨d0,d1,d2,d3⟩,aB⟩:=Jd (i:=m) (j:=h) (Aa aC _ (Aa HB)) (Aa HS) (Aa HN) (by omega) (by omega) (by omega);have hc:=fun q=>Dl o p (wr.drewN q);rw[aB]at hc;have HC:=Ab hc;clear hc aB;refine Ak 9 (by kernel_rfl) (by kernel_rfl) (by kernel_rfl) (by kernel_rfl) (by kernel_rfl) ?_;simp only[List.take_succ_cons,List.take_zero,List.drop_succ_cons,List.drop_zero]
   repeat (go_big_quiet_step (fail))
   refine wpQuiet_nil ?_;rintro _ ⟨nq,rfl⟩;go_wp2_with (go_at_call 99;refine(Aa HC _).mono ?_;rintro e w3 ⟨rfl,b3⟩)
   have HE:=Ab b3;clear b3;go_roundg (gk-1)
   case measure=>omega
   case rel=>exact⟨h+1,by go_num,by go_num,by omega,by omega,by omega,Ab ((Aa HB).trans ((Ac (qU _ _)).trans ((Aa HE).mono (by have:=(Aa HB).size;simp;omega))))⟩
  ·obtain rfl:i=m:=by omega
   have Z:(i:Int)≤(i:Int):=by omega
   go_wp2
   go_loopg [17] 0 (fun g aD wx=>aD=.int .i64 (i:Int)∧Hid (Below K w wx))
   case atStart=>exact⟨by go_num,HB⟩
   case round=>
    obtain⟨rfl,aE⟩:=hrel;go_wp2;exact qV (results_none rfl _ _ _) rfl ⟨rfl,Aa aE⟩
theorem Tv(a:Option Addr)(cap n:Nat)(os:List P32.Order)(a0 m b:Nat)(w:World)(hd:Cs w a os)(hs:Cm os)(hn:os.length=n)(aZ:n≤1000000)(h1:a0<m)(h2:m<b)(h3:b≤n)(h4:m≠a0+1)(h5:b≠m+1)(I:Nat)(J:(a0+b) / 2=I)(h6:m=I) :
  Calls Tryz.prog 185 #[.slice a n cap,.int .i64 (a0:Int),.int .i64 (m:Int),.int .i64 (b:Int),.func (.func 99) #[] #[]] w fun e w'=>e=.returned (.tuple #[])∧Below w.heap.size w w':=by
 obtain⟨K,hK⟩:=qeX w.heap.size;have Z:∀V,Below K w V→Cs V a os:=fun V hV=>hd.below (by rw[hK];exact hV);rw[hK];have he:=Gm;have e0:((m:Int)-(a0:Int)==1)=false:=by simp;omega
 have w0:IntKind.i64.wrap ((m:Int)-(a0:Int))=(m:Int)-(a0:Int):=qG _ (by omega);have e1:((b:Int)-(m:Int)==1)=false:=by simp;omega
 have w1:IntKind.i64.wrap ((b:Int)-(m:Int))=(b:Int)-(m:Int):=qG _ (by omega);have w2:IntKind.i64.wrap ((a0:Int)+(b:Int))=(a0:Int)+(b:Int):=qG _ (by omega);have aS:((a0:Int)+(b:Int)) / 2=(I:Int):=by omega
 have aN:a0<I:=by omega
 have aY:I<b:=by omega
 obtain⟨N,hN⟩:=qeX (I+m);have w3:IntKind.i64.wrap ((I:Int)+(m:Int))=(N:Int):=by rw[qG _ (by omega)];omega
 obtain⟨pp,aX⟩:∃p,p+1=N:=⟨N-1,by omega⟩;have w4:IntKind.i64.wrap ((N:Int)-1)=(pp:Int):=by rw[qG _ (by omega)];omega
 obtain rfl:m=I:=h6;have g1:(m:Int)≤(m:Int):=Int.le_refl _;have am:(a0:Int)<(m:Int):=by omega
 have aJ:=J;clear J h4 h5;have aE:=Ab Z;have HS:=Ab hs;have HN:=Ab hn;clear Z hd hs hn;go_enter Tryz.func185,Tryz.ntmps185
 go_wp2
 go_loopg [20,21] (m-a0) (fun g aI aH wx=>∃i:Nat,aI=.int .i64 (i:Int)∧aH=.int .i64 (m:Int)∧a0≤i∧i≤m∧m-i≤g∧Hid (Below K w wx))
 case atStart=>exact⟨a0,by go_num,by go_num,qJ _,by omega,qJ _,Ab (qU _ _)⟩
 case round=>
  obtain⟨i,rfl,rfl,aG,aK,aM,HB⟩:=hrel;by_cases aL:i<m
  ·have aA:(i:Int)<(m:Int):=by omega
   have aC:IntKind.i64.wrap ((i:Int)+(m:Int))=(i:Int)+(m:Int):=qG _ (by omega);obtain⟨c,hc⟩:=qeX ((i+m) / 2);have aB:((i:Int)+(m:Int)) / 2=(c:Int):=by omega
   have aT:i≤c:=by omega
   have aO:c<m:=by omega
   obtain⟨x,hx⟩:∃x,x+c=pp:=⟨pp-c,by omega⟩;have aR:c<x:=by omega
   have aU:x<b:=by omega
   have bC:IntKind.i64.wrap ((pp:Int)-(c:Int))=(x:Int):=by rw[qG _ (by omega)];omega
   have aP:(x:Int)<(n:Int):=by omega
   have aQ:(c:Int)<(n:Int):=by omega
   have aW:IntKind.i64.wrap ((c:Int)+1)=(c:Int)+1:=qG _ (by omega);clear hc hx;go_upto_region 35 with fail
   try rw[aB]
   clear aB aC;obtain⟨o,p,g,q,rfl,⟨c0,c1,c2,c3⟩,⟨d0,d1,d2,d3⟩,aD⟩:=Jd (i:=x) (j:=c) (Aa aE _ (Aa HB)) (Aa HS) (Aa HN) (by omega) (by omega) (by omega);have hc:=fun q=>Dl o p (wr.drewN q);rw[aD]at hc;have HC:=Ab hc;clear hc aD;refine Ak 11 (by kernel_rfl) (by kernel_rfl) (by kernel_rfl) (by kernel_rfl) (by kernel_rfl) ?_;simp only[List.take_succ_cons,List.take_zero,List.drop_succ_cons,List.drop_zero]
   repeat (go_big_quiet_step (fail))
   refine wpQuiet_nil ?_;rintro _ ⟨nq,rfl⟩;go_wp2_with (go_at_call 99;refine(Aa HC _).mono ?_;rintro e w3 ⟨rfl,b3⟩)
   have HE:=Ab b3;clear b3;go_roundg (gk-1)
   case measure=>omega
   case rel=>exact⟨c+1,by go_num,by go_num,by omega,by omega,by omega,Ab ((Aa HB).trans ((Ac (qU _ _)).trans ((Aa HE).mono (by have:=(Aa HB).size;simp;omega))))⟩
  ·obtain rfl:i=m:=by omega
   clear aL aG aK aM;have aA:(i:Int)≤(i:Int):=by omega
   have we:IntKind.i64.wrap ((N:Int)-(i:Int))=(i:Int):=by rw[qG _ (by omega)];omega
   go_wp2;go_end0;exact⟨rfl,Aa HB⟩
theorem Tt(a:Option Addr)(cap n:Nat)(os:List P32.Order)(a0 m b:Nat)(w:World)(hd:Cs w a os)(hs:Cm os)(hn:os.length=n)(bG:n≤1000000)(h1:a0<m)(h2:m<b)(h3:b≤n)(h4:m≠a0+1)(h5:b≠m+1)(I:Nat)(Z:(a0+b) / 2=I)(h6:I<m)(J:∀V:World,Cs V a os→Calls Tryz.prog 185 #[.slice a n cap,.int .i64 (I:Int),.int .i64 (m:Int),.int .i64 (b:Int),.func (.func 99) #[] #[]] V fun e w'=>e=.returned (.tuple #[])∧Below V.heap.size V w') :
  Calls Tryz.prog 185 #[.slice a n cap,.int .i64 (a0:Int),.int .i64 (m:Int),.int .i64 (b:Int),.func (.func 99) #[] #[]] w fun e w'=>e=.returned (.tuple #[])∧Below w.heap.size w w':=by
 obtain⟨K,hK⟩:=qeX w.heap.size;have aB:∀V,Below K w V→Cs V a os:=fun V hV=>hd.below (by rw[hK];exact hV);rw[hK];have he:=Gm;have e0:((m:Int)-(a0:Int)==1)=false:=by simp;omega
 have w0:IntKind.i64.wrap ((m:Int)-(a0:Int))=(m:Int)-(a0:Int):=qG _ (by omega);have e1:((b:Int)-(m:Int)==1)=false:=by simp;omega
 have w1:IntKind.i64.wrap ((b:Int)-(m:Int))=(b:Int)-(m:Int):=qG _ (by omega);have w2:IntKind.i64.wrap ((a0:Int)+(b:Int))=(a0:Int)+(b:Int):=qG _ (by omega);have aX:((a0:Int)+(b:Int)) / 2=(I:Int):=by omega
 have aR:a0<I:=by omega
 have bF:I<b:=by omega
 obtain⟨N,hN⟩:=qeX (I+m);have w3:IntKind.i64.wrap ((I:Int)+(m:Int))=(N:Int):=by rw[qG _ (by omega)];omega
 obtain⟨pp,bE⟩:∃p,p+1=N:=⟨N-1,by omega⟩;have w4:IntKind.i64.wrap ((N:Int)-1)=(pp:Int):=by rw[qG _ (by omega)];omega
 have g1:(I:Int)<(m:Int):=by omega
 have am:(a0:Int)<(I:Int):=by omega
 have mb:(m:Int)<(b:Int):=by omega
 obtain⟨S,hS⟩:∃S,S+b=N:=⟨N-b,by omega⟩;have wS:IntKind.i64.wrap ((N:Int)-(b:Int))=(S:Int):=by rw[qG _ (by omega)];omega
 have aZ:S≤I:=by omega
 have aE:=Ab J;clear J;have aN:=Z;clear Z h4 h5;have aA:=Ab aB;have HS:=Ab hs;have HN:=Ab hn;clear aB hd hs hn;go_enter Tryz.func185,Tryz.ntmps185
 go_wp2
 go_loopg [20,21] (I-S) (fun g aL aK wx=>∃i:Nat,aL=.int .i64 (i:Int)∧aK=.int .i64 (I:Int)∧S≤i∧i≤I∧I-i≤g∧Hid (Below K w wx))
 case atStart=>exact⟨S,by go_num,by go_num,qJ _,by omega,qJ _,Ab (qU _ _)⟩
 case round=>
  obtain⟨i,rfl,rfl,aJ,aO,aQ,HB⟩:=hrel;by_cases aP:i<I
  ·have aC:(i:Int)<(I:Int):=by omega
   have aG:IntKind.i64.wrap ((i:Int)+(I:Int))=(i:Int)+(I:Int):=qG _ (by omega);obtain⟨c,hc⟩:=qeX ((i+I) / 2);have aD:((i:Int)+(I:Int)) / 2=(c:Int):=by omega
   have aY:i≤c:=by omega
   have aS:c<I:=by omega
   obtain⟨x,hx⟩:∃x,x+c=pp:=⟨pp-c,by omega⟩;have aW:c<x:=by omega
   have bC:x<b:=by omega
   have bI:IntKind.i64.wrap ((pp:Int)-(c:Int))=(x:Int):=by rw[qG _ (by omega)];omega
   have aT:(x:Int)<(n:Int):=by omega
   have aU:(c:Int)<(n:Int):=by omega
   have bD:IntKind.i64.wrap ((c:Int)+1)=(c:Int)+1:=qG _ (by omega);clear hc hx;go_upto_region 35 with fail
   try rw[aD]
   clear aD aG;obtain⟨o,p,g,q,rfl,⟨c0,c1,c2,c3⟩,⟨d0,d1,d2,d3⟩,aH⟩:=Jd (i:=x) (j:=c) (Aa aA _ (Aa HB)) (Aa HS) (Aa HN) (by omega) (by omega) (by omega);have hc:=fun q=>Dl o p (wr.drewN q);rw[aH]at hc;have HC:=Ab hc;clear hc aH;refine Ak 11 (by kernel_rfl) (by kernel_rfl) (by kernel_rfl) (by kernel_rfl) (by kernel_rfl) ?_;simp only[List.take_succ_cons,List.take_zero,List.drop_succ_cons,List.drop_zero]
   repeat (go_big_quiet_step (fail))
   refine wpQuiet_nil ?_;rintro _ ⟨nq,rfl⟩;go_wp2_with (go_at_call 99;refine(Aa HC _).mono ?_;rintro e w3 ⟨rfl,b3⟩)
   have HE:=Ab b3;clear b3;go_roundg (gk-1)
   case measure=>omega
   case rel=>exact⟨c+1,by go_num,by go_num,by omega,by omega,by omega,Ab ((Aa HB).trans ((Ac (qU _ _)).trans ((Aa HE).mono (by have:=(Aa HB).size;simp;omega))))⟩
  ·obtain rfl:i=I:=by omega
   clear aP aJ aO aQ;have aC:(i:Int)≤(i:Int):=by omega
   have we:IntKind.i64.wrap ((N:Int)-(i:Int))=(m:Int):=by rw[qG _ (by omega)];omega
   have aI:=Ab (Aa aE wr (Aa aA _ (Aa HB)));go_wp2_with (go_at_call 185;refine(Aa aI).mono ?_;rintro e w5 ⟨rfl,b5⟩;have aM:=Ab b5;clear b5)
   go_end0;exact⟨rfl,(Aa HB).trans ((Aa aM).mono (by have:=(Aa HB).size;omega))⟩
theorem Tu(a:Option Addr)(cap n:Nat)(os:List P32.Order)(a0 m b:Nat)(w:World)(hd:Cs w a os)(hs:Cm os)(hn:os.length=n)(bF:n≤1000000)(h1:a0<m)(h2:m<b)(h3:b≤n)(h4:m≠a0+1)(h5:b≠m+1)(I:Nat)(Z:(a0+b) / 2=I)(h6:m<I)(J:∀V:World,Cs V a os→Calls Tryz.prog 185 #[.slice a n cap,.int .i64 (a0:Int),.int .i64 (m:Int),.int .i64 (I:Int),.func (.func 99) #[] #[]] V fun e w'=>e=.returned (.tuple #[])∧Below V.heap.size V w') :
  Calls Tryz.prog 185 #[.slice a n cap,.int .i64 (a0:Int),.int .i64 (m:Int),.int .i64 (b:Int),.func (.func 99) #[] #[]] w fun e w'=>e=.returned (.tuple #[])∧Below w.heap.size w w':=by
 obtain⟨K,hK⟩:=qeX w.heap.size;have aB:∀V,Below K w V→Cs V a os:=fun V hV=>hd.below (by rw[hK];exact hV);rw[hK];have he:=Gm;have e0:((m:Int)-(a0:Int)==1)=false:=by simp;omega
 have w0:IntKind.i64.wrap ((m:Int)-(a0:Int))=(m:Int)-(a0:Int):=qG _ (by omega);have e1:((b:Int)-(m:Int)==1)=false:=by simp;omega
 have w1:IntKind.i64.wrap ((b:Int)-(m:Int))=(b:Int)-(m:Int):=qG _ (by omega);have w2:IntKind.i64.wrap ((a0:Int)+(b:Int))=(a0:Int)+(b:Int):=qG _ (by omega);have aX:((a0:Int)+(b:Int)) / 2=(I:Int):=by omega
 have aR:a0<I:=by omega
 have bE:I<b:=by omega
 obtain⟨N,hN⟩:=qeX (I+m);have w3:IntKind.i64.wrap ((I:Int)+(m:Int))=(N:Int):=by rw[qG _ (by omega)];omega
 obtain⟨pp,bD⟩:∃p,p+1=N:=⟨N-1,by omega⟩;have w4:IntKind.i64.wrap ((N:Int)-1)=(pp:Int):=by rw[qG _ (by omega)];omega
 have g1:(m:Int)≤(I:Int):=by omega
 have g2:(m:Int)<(I:Int):=by omega
 have g3:decide (I<m)=false:=by simp;omega
 have am:(a0:Int)<(m:Int):=by omega
 have aE:=Ab J;clear J;have aN:=Z;clear Z h4 h5;have aA:=Ab aB;have HS:=Ab hs;have HN:=Ab hn;clear aB hd hs hn;go_enter Tryz.func185,Tryz.ntmps185
 go_wp2
 go_loopg [20,21] (m-a0) (fun g aL aK wx=>∃i:Nat,aL=.int .i64 (i:Int)∧aK=.int .i64 (m:Int)∧a0≤i∧i≤m∧m-i≤g∧Hid (Below K w wx))
 case atStart=>exact⟨a0,by go_num,by go_num,qJ _,by omega,qJ _,Ab (qU _ _)⟩
 case round=>
  obtain⟨i,rfl,rfl,aJ,aO,aQ,HB⟩:=hrel;by_cases aP:i<m
  ·have aC:(i:Int)<(m:Int):=by omega
   have aG:IntKind.i64.wrap ((i:Int)+(m:Int))=(i:Int)+(m:Int):=qG _ (by omega);obtain⟨c,hc⟩:=qeX ((i+m) / 2);have aD:((i:Int)+(m:Int)) / 2=(c:Int):=by omega
   have aY:i≤c:=by omega
   have aS:c<m:=by omega
   obtain⟨x,hx⟩:∃x,x+c=pp:=⟨pp-c,by omega⟩;have aW:c<x:=by omega
   have aZ:x<b:=by omega
   have bG:IntKind.i64.wrap ((pp:Int)-(c:Int))=(x:Int):=by rw[qG _ (by omega)];omega
   have aT:(x:Int)<(n:Int):=by omega
   have aU:(c:Int)<(n:Int):=by omega
   have bC:IntKind.i64.wrap ((c:Int)+1)=(c:Int)+1:=qG _ (by omega);clear hc hx;go_upto_region 35 with fail
   try rw[aD]
   clear aD aG;obtain⟨o,p,g,q,rfl,⟨c0,c1,c2,c3⟩,⟨d0,d1,d2,d3⟩,aH⟩:=Jd (i:=x) (j:=c) (Aa aA _ (Aa HB)) (Aa HS) (Aa HN) (by omega) (by omega) (by omega);have hc:=fun q=>Dl o p (wr.drewN q);rw[aH]at hc;have HC:=Ab hc;clear hc aH;refine Ak 11 (by kernel_rfl) (by kernel_rfl) (by kernel_rfl) (by kernel_rfl) (by kernel_rfl) ?_;simp only[List.take_succ_cons,List.take_zero,List.drop_succ_cons,List.drop_zero]
   repeat (go_big_quiet_step (fail))
   refine wpQuiet_nil ?_;rintro _ ⟨nq,rfl⟩;go_wp2_with (go_at_call 99;refine(Aa HC _).mono ?_;rintro e w3 ⟨rfl,b3⟩)
   have HE:=Ab b3;clear b3;go_roundg (gk-1)
   case measure=>omega
   case rel=>exact⟨c+1,by go_num,by go_num,by omega,by omega,by omega,Ab ((Aa HB).trans ((Ac (qU _ _)).trans ((Aa HE).mono (by have:=(Aa HB).size;simp;omega))))⟩
  ·obtain rfl:i=m:=by omega
   clear aP aJ aO aQ;have aC:(i:Int)≤(i:Int):=by omega
   have we:IntKind.i64.wrap ((N:Int)-(i:Int))=(I:Int):=by rw[qG _ (by omega)];omega
   have aI:=Ab (Aa aE wr (Aa aA _ (Aa HB)));go_wp2_with (go_at_call 185;refine(Aa aI).mono ?_;rintro e w5 ⟨rfl,b5⟩;have aM:=Ab b5;clear b5)
   go_end0;exact⟨rfl,(Aa HB).trans ((Aa aM).mono (by have:=(Aa HB).size;omega))⟩
theorem Qax(a:Option Addr)(cap n:Nat)(os:List P32.Order)(hs:Cm os)(hn:os.length=n)(J:n≤1000000):∀(k a0 m b:Nat) (w:World),b-a0≤k→Cs w a os→a0<m→m<b→b≤n →
  Calls Tryz.prog 185 #[.slice a n cap,.int .i64 (a0:Int),.int .i64 (m:Int),.int .i64 (b:Int),.func (.func 99) #[] #[]] w fun e w'=>e=.returned (.tuple #[])∧Below w.heap.size w w'
 |0,a0,m,b,w,hk,hd,h1,h2,h3=>absurd hk (by omega)
 |k+1,a0,m,b,w,hk,hd,h1,h2,h3=>by
  by_cases h4:m=a0+1
  ·exact Wp a cap n os a0 m b w hd hs hn J h1 h2 h3 h4
  ·by_cases h5:b=m+1
   ·exact Ty a cap n os a0 m b w hd hs hn J h1 h2 h3 h5 h4
   ·obtain⟨I,Z⟩:=qeX ((a0+b) / 2);rcases Nat.lt_trichotomy I m with h6|h6|h6
    ·exact Tt a cap n os a0 m b w hd hs hn J h1 h2 h3 h4 h5 I Z h6 (fun V hV=>Qax a cap n os hs hn J k I m b V (by omega) hV h6 h2 h3)
    ·exact Tv a cap n os a0 m b w hd hs hn J h1 h2 h3 h4 h5 I Z h6.symm
    ·exact Tu a cap n os a0 m b w hd hs hn J h1 h2 h3 h4 h5 I Z h6 (fun V hV=>Qax a cap n os hs hn J k a0 m I V (by omega) hV h1 h6 (by omega))
open Go.RowKit
theorem Zz(a:Option Addr)(cap n:Nat)(os:List P32.Order)(w:World)(hd:Cs w a os)(hs:Cm os)(hn:os.length=n)(aQ:n≤1000000) :
  Calls Tryz.prog 140 #[.slice a n cap,.int .i64 (n:Int),.func (.func 99) #[] #[]] w fun e w'=>e=.returned (.tuple #[])∧Below w.heap.size w w':=by
 obtain⟨K,hK⟩:=qeX w.heap.size;have aC:∀V,Below K w V→Cs V a os:=fun V hV=>hd.below (by rw[hK];exact hV);have aB:=fun V i0 b (hV:Below K w V) (hb:b≤n) (h0:i0≤1000000)=>Qb0 a cap n i0 b os V (aC V hV) hs hn hb aQ h0;have aA:=fun V a0 m b (hV:Below K w V) (h1:a0<m) (h2:m<b) (h3:b≤n)=>Qax a cap n os hs hn aQ _ a0 m b V (qJ _) (aC V hV) h1 h2 h3;rw[hK];have HI:=Ab aB;have HS:=Ab aA;clear aB aA aC hd hs hn;go_enter Tryz.func140,Tryz.ntmps140
 go_wp2
 go_loopg [7,8] n (fun g s7 s8 wx=>∃x e:Nat,s7=.int .i64 (x:Int)∧s8=.int .i64 (e:Int)∧x+20≤e∧e≤x+20∧x≤n∧n-x≤g∧Hid (Below K w wx))
 case atStart=>exact⟨0,20,by go_num,by go_num,by omega,by omega,by omega,by omega,Ab (qU _ _)⟩
 case round=>
  obtain⟨x,e,rfl,rfl,bE,aN,hx,hg,HB⟩:=hrel;by_cases aG:e≤n
  ·have aK:(e:Int)≤(n:Int):=by omega
   have aS:IntKind.i64.wrap ((e:Int)+20)=(e:Int)+20:=qG _ (by omega);have HC:=Ab (Aa HI wr x e (Aa HB) aG (by omega));go_wp2_with (go_at_call 184;refine(Aa HC).mono ?_;rintro q w3 ⟨rfl,J⟩;have HE:=Ab J;clear J)
   go_roundg (gk-1)
   case measure=>omega
   case rel=>exact⟨e,e+20,by go_num,by go_num,by omega,by omega,aG,by omega,Ab ((Aa HB).trans ((Aa HE).mono (by have:=(Aa HB).size;omega)))⟩
  ·have aK:(n:Int)<(e:Int):=by omega
   have HC:=Ab (Aa HI wr x n (Aa HB) (qJ _) (by omega));clear aG;go_wp2_with (go_at_call 184;refine(Aa HC).mono ?_;rintro q w3 ⟨rfl,J⟩;have HE:=Ab ((Aa HB).trans (J.mono (by have:=(Aa HB).size;omega)));clear J)
   go_loopg [6] n (fun g s6 wx=>∃bs:Nat,s6=.int .i64 (bs:Int)∧20≤bs∧bs≤2000000∧n-bs≤g∧Hid (Below K w wx))
   case atStart=>exact⟨20,by go_num,qJ _,by omega,by omega,HE⟩
   case round=>
    obtain⟨bs,rfl,bD,bG,bL,aI⟩:=hrel;obtain⟨aM,rfl⟩:∃z,z=gk:=⟨_,rfl⟩;by_cases aR:bs<n
    ·have aO:(bs:Int)<(n:Int):=by omega
     obtain⟨b2,aL⟩:=qeX (2*bs);have bK:IntKind.i64.wrap (2*(bs:Int))=(b2:Int):=by rw[qG _ (by omega)];omega
     have bC:IntKind.i64.wrap ((bs:Int)*2)=(b2:Int):=by rw[qG _ (by omega)];omega
     have aZ:2*bs≤b2:=by omega
     have aX:b2≤2*bs:=by omega
     clear aL;go_wp2
     go_loopg [7,8] n (fun g s7 s8 wx=>∃x e:Nat,s7=.int .i64 (x:Int)∧s8=.int .i64 (e:Int)∧x+b2≤e∧e≤x+b2∧x≤n∧n-x≤g∧Hid (Below K w wx))
     case atStart=>exact⟨0,b2,by go_num,by go_num,by omega,by omega,by omega,by omega,aI⟩
     case round=>
      obtain⟨x,e,rfl,rfl,aY,aU,bF,bJ,I⟩:=hrel;obtain⟨m,hm⟩:=qeX (x+bs);have bM:IntKind.i64.wrap ((x:Int)+(bs:Int))=(m:Int):=by rw[qG _ (by omega)];omega
      have hm1:x+bs≤m:=by omega
      have bI:m≤x+bs:=by omega
      clear hm;by_cases Z:e≤n
      ·have aH:(e:Int)≤(n:Int):=by omega
       obtain⟨e2,aN⟩:=qeX (e+b2);have aS:IntKind.i64.wrap ((e:Int)+(b2:Int))=(e2:Int):=by rw[qG _ (by omega)];omega
       have aT:e+b2≤e2:=by omega
       have aW:e2≤e+b2:=by omega
       clear aN;have aE:=Ab (Aa HS wr x m e (Aa I) (by omega) (by omega) Z);go_wp2_with (go_at_call 185;refine(Aa aE).mono ?_;rintro q w3 ⟨rfl,J⟩;have aD:=Ab J;clear J)
       go_roundg (gk-1)
       case measure=>omega
       case rel=>exact⟨e,e2,by go_num,by go_num,by omega,by omega,Z,by omega,Ab ((Aa I).trans ((Aa aD).mono (by have:=(Aa I).size;omega)))⟩
      ·have aH:(n:Int)<(e:Int):=by omega
       by_cases aP:m<n
       ·have aJ:(m:Int)<(n:Int):=by omega
        have aE:=Ab (Aa HS wr x m n (Aa I) (by omega) aP (qJ _));clear Z;go_wp2_with (go_at_call 185;refine(Aa aE).mono ?_;rintro q w3 ⟨rfl,J⟩;have aD:=Ab J;clear J)
        go_roundg (aM-1)
        case measure=>omega
        case rel=>exact⟨b2,by go_num,by omega,by omega,by omega,Ab ((Aa I).trans ((Aa aD).mono (by have:=(Aa I).size;omega)))⟩
       ·have aJ:(n:Int)≤(m:Int):=by omega
        clear Z aP;go_wp2;go_roundg (aM-1)
        case measure=>omega
        case rel=>exact⟨b2,by go_num,by omega,by omega,by omega,I⟩
    ·have aO:(n:Int)≤(bs:Int):=by omega
     clear aR;go_wp2;go_end0;exact⟨rfl,Aa aI⟩
theorem Qbh(a:Option Addr)(cap n:Nat)(os:List P32.Order)(w:World)(hd:Cs w a os)(hs:Cm os)(hn:os.length=n)(I:n≤1000000) :
  Calls Tryz.prog 98 #[.slice a n cap,.func (.func 99) #[] #[]] w fun e w'=>e=.returned (.tuple #[])∧Below w.heap.size w w':=by
 have HC:=Ab (Zz a cap n os w hd hs hn I);clear hd hs hn;go_enter Tryz.func98,Tryz.ntmps98
 go_wp2_with (go_at_call 140;refine(Aa HC).mono ?_;rintro q w3 ⟨rfl,J⟩;have Z:=Ab J;clear J)
 go_end0;exact⟨rfl,Aa Z⟩
open Go.RowKit
attribute [local go_sem] Cx Oper.semAt_some
open P32 (waysL waysL_len Ci Em)
def Db(s:P32.S)(N j:Nat):List P32.Order:=((waysL N).take j).flatMap fun p=>P32.openU s p.1 p.2
theorem Lc{s:P32.S}{N j:Nat}{p:Nat × Bool}(h:(waysL N)[j]?=some p):Db s N (j+1)=Db s N j++P32.openU s p.1 p.2:=by
 unfold Db;rw[List.take_add_one,h,List.flatMap_append];simp
theorem I7(s:P32.S)(N:Nat):∀j,(Db s N j).length≤j
 |0=>by simp[Db]
 |j+1=>by
  have ih:=I7 s N j;cases h:(waysL N)[j]? with
  |none=>
   have:Db s N (j+1)=Db s N j:=by unfold Db;rw[List.take_add_one,h];simp
   rw[this];omega
  |some p=>
   rw[Lc h,qH];have:(P32.openU s p.1 p.2).length≤1:=by unfold P32.openU;split<;>simp
   omega
theorem Lb{s:P32.S}{i:Nat}{u:Bool}:∀o∈P32.openU s i u,o.step=i∧o.undo=u:=by
 unfold P32.openU;split
 ·intro o ho;simp at ho;subst ho;exact⟨rfl,rfl⟩
 ·intro o ho;simp at ho
theorem Ga{f:Nat→List P32.Order}(h1:∀i,∀o∈f i,o.step=i)(h2:∀i,(f i).length≤1):∀n,Cm ((List.range n).flatMap f)
 |0=>fun i j o p _ ho _=>by simp at ho
 |n+1=>by
  rw[List.range_succ,List.flatMap_append];have ih:=Ga h1 h2 n
  have I:∀o∈(List.range n).flatMap f,o.step<n:=fun o ho=>by
   obtain⟨k,hk,J⟩:=List.mem_flatMap.1 ho;rw[h1 k o J];exact List.mem_range.1 hk
  obtain⟨l,hl⟩:=qeX ((List.range n).flatMap f);rw[hl]at ih I ⊢;have ht:([n].flatMap f)=f n:=by simp
  rw[ht];intro i j o p Z ho hp;by_cases hi:i<l.length
  ·rw[qZ hi]at ho;by_cases hj:j<l.length
   ·rw[qZ hj]at hp;exact ih i j o p Z ho hp
   ·rw[zA (by omega)]at hp;rw[h1 n p (qN hp)];exact I o (qN ho)
  ·rw[zA (by omega)]at ho hp;have:=h2 n;have a1:=(qI.1 ho).1;have a2:=(qI.1 hp).1;omega
theorem Vz{d:P22.Def}{s:P32.S}(h:P32.Inv d s):Db s d.steps.length (waysL d.steps.length).length=P32.open_ d s∧Cm (P32.open_ d s):=by
 have Z:Db s d.steps.length (waysL d.steps.length).length=(List.range d.steps.length).flatMap (fun i=>P32.openU s i false)++(List.range d.steps.length).flatMap (fun i=>P32.openU s i true):=by
  unfold Db waysL;rw[List.take_of_length_le (qJ _),List.flatMap_append,List.flatMap_map,List.flatMap_map]
 have J:∀i u,(P32.openU s i u).length≤1:=fun i u=>by unfold P32.openU;split<;>simp
 rw[Z];by_cases hc:∃i,(s.run i true).phase=1
 ·obtain⟨i,hi⟩:=hc
  have hf:∀k,P32.openU s k false=[]:=fun k=>by
   unfold P32.openU;rw[if_neg (h.tru i (by omega) k)]
  have I:P32.open_ d s=(List.range d.steps.length).flatMap (fun i=>P32.openU s i true):=by
   unfold P32.open_;simp only[hf,zR]
  rw[I];refine⟨by simp[hf],Ga (fun k o ho=>(Lb o ho).1) (fun k=>J k true) _⟩
 ·have hf:∀k,P32.openU s k true=[]:=fun k=>by
   unfold P32.openU;rw[if_neg (fun e=>hc ⟨k,e⟩)]
  have I:P32.open_ d s=(List.range d.steps.length).flatMap (fun i=>P32.openU s i false):=by
   unfold P32.open_;simp only[hf,List.append_nil]
  rw[I];refine⟨by simp[hf],Ga (fun k o ho=>(Lb o ho).1) (fun k=>J k false) _⟩
theorem Mg{F:Fence}{nF:Nat}{w:World}{B:Nat}{v:Value}{l:List P32.Order}{j:P32.Order}{ops:Array Oper}{rest:List Oper}{o:Oper}{a:Act}{Q:Exit→Act→World→Prop}(aC:o.guard=none)(s x:Operand)
  (ho:o.op=.call { callee:=.builtin .append,args:=#[s,x],argTypes:=#[105,105] })
  (hs:a.eval s=v) (Z:Ba w B v l) (g cap:Nat) (hx:a.eval x=.slice (some ⟨g,0,none⟩) 1 cap) (aA:w.heap[g]?=some (.cells #[.int .i64 (j.step:Int),.int .i64 j.att,.bool j.undo,.int .i64 j.til] 35))
  (m:Nat) (hm:l.length=m) (J:m+1≤1000000000) (hB:B≤w.heap.size)
  (h:∀g' I w',Ba w' B (.slice (some ⟨g',0,none⟩) (m+1) I) (l++[j])→w.grownBy w' v.ownBlock→(some g'=v.ownBlock∨some g'=some w.heap.size)→wpListIn F nF Tryz.prog ops Q rest (a.put o.dst (.slice (some ⟨g',0,none⟩) (m+1) I)) w') :
  wpListIn F nF Tryz.prog ops Q (o::rest) a w:=by
 refine wpListIn_plain aC fun K hK=>?_;obtain⟨g',I,w',hr,h2,h3,h4⟩:=F9 o.type Z g cap aA m hm J hB;unfold Oper.wpIn;refine⟨by simp[Oper.about,ho,resolve,Target.leads,Sem.run_pure],?_⟩;rw[Oper.semAt_plain F _ _ (by rw[ho];intro c aB;cases aB)];simp[execOp,ho,resolve,invoke,builtin,hs,hx,hr,Result.andThen];exact hK _ _ (h g' I w' h2 h3 h4)
theorem Fw.start1(U:World)(RA:P31.Run):Fw U RA 1 false undef U:=⟨qU _ _,fun h=>by cases h⟩
def OpR(H:Nat)(r:Nat):Prop:=r≤H∨r=H+1+1
structure Xc (w:World) (b H:Nat) (os:List P32.Order) (M:Nat→Prop) (V:World):Prop where
 bel:Below H w V
 bS:V.heap[H]?=some (.cells #[qP0 b] 96)
 ex:∃v,V.heap[H+1]?=some (.cells #[v] 105)∧Ba V (H+1+1+1) v os∧∀r,M r↔r=H+1∨v.ownBlock=some r
 sz:H+1+1+1≤V.heap.size
namespace Xc
variable {w V V':World} {b H:Nat} {os:List P32.Order} {M:Nat→Prop}
theorem lt(h:Xc w b H os M V){r:Nat}(hr:M r):r<V.heap.size∧¬OpR H r:=by
 obtain⟨v,Z,I,hm⟩:=h.ex;have J:=h.sz;rcases(hm r).1 hr with rfl|e
 ·exact⟨by omega,fun q=>by rcases q with q|q<;>omega⟩
 ·have:=I.lt e;exact⟨this.2,fun q=>by rcases q with q|q<;>omega⟩
theorem abides{row:Option Nat}(h:Xc w b H os M V)(hg:V.grownBy V' row)(hr:∀r,row=some r→¬M r∧¬OpR H r):Xc w b H os M V':=by
 obtain⟨v,Z,I,hm⟩:=h.ex;have J:=h.sz;refine⟨h.bel.grown hg (by omega) (fun k e=>?_),(hg.block H (by omega) (fun e=>(hr H e.symm).2 (.inl (qJ _)))).trans h.bS,⟨v,(hg.block (H+1) (by omega) (fun e=>(hr _ e.symm).1 ((hm _).2 (.inl rfl)))).trans Z,I.keep (fun g e=>hg.block g (I.lt e).2 (fun q=>(hr g q.symm).1 ((hm g).2 (.inr e)))),hm⟩,qK J hg.size⟩;have:=(hr k e).2;exact Nat.le_of_lt (Nat.lt_of_not_le (fun q=>this (.inl q)))
theorem below(h:Xc w b H os M V)(hb:Below V.heap.size V V'):Xc w b H os M V':=h.abides (A4 hb none) (fun r e=>by cases e)
end Xc
theorem Xd{b bm rb C:Nat}{vs:Nat→Value}{d:Af}{dn un:Value}{s:P32.S}(w:World)(h:Sg w b bm rb C vs d dn un s)(hi:P32.Inv d.bare s) :
  Calls Tryz.prog 56 #[qP0 b] w fun e w'=>∃a c,e=.returned (.slice a (P32.open_ d.bare s).length c)∧(P32.open_ d.bare s).length≤c∧Cs w' a (P32.open_ d.bare s)∧Below w.heap.size w w':=by
 obtain⟨H,hH⟩:=qeX w.heap.size;rw[hH];obtain⟨W1,cP,bD,g0,cI⟩:=As w (.cells #[qP0 b] 96) H hH;obtain⟨W2,cU,bL,g1,cH⟩:=As W1 (.cells #[.slice none 0 0] 105) (H+1) cI;obtain⟨W3,cG,aQ,g2,dB⟩:=As W2 (.cells #[qP0 b] 96) (H+1+1) cH;have s1:=h.below (by rw[hH];exact bD);have cN:=F6 b bm W1 s1.cells.2.2.1.1;have aZ:=Rf b W2;rw[cH,cG]at aZ;have bJ:=(bL.block H (by omega)).trans g0;have Z:=Vz hi;rw[Md.blen]at Z;obtain⟨aN,aT⟩:∃R,P32.open_ d.bare s=R:=⟨_,rfl⟩;rw[aT]at Z ⊢;have dJ:=h.nle;have eO:b<H:=by rw[←hH];exact h.lt (.inl (.inl rfl))
 have bZ:Xc w b H (Db s d.steps.length 0) (fun r=>r=H+1) W3:=⟨bD.trans ((bL.mono (by omega)).trans (aQ.mono (by omega))),(aQ.block H (by omega)).trans bJ,⟨_,(aQ.block _ (by omega)).trans g1,Ba.nil _ _,fun r=>⟨.inl,fun q=>q.elim id (fun e=>by cases e)⟩⟩,by omega⟩
 have bX:=fun V (aO:W3.grownBy V none)=>Io (40-1) b (H+1+1) d.steps.length d.sc d.sa (OpR H) (fun _=>False) V ((aO.block _ (by omega) (by simp)).trans g2) (.inr rfl) (fun r hr=>by
  have:=aO.size
  rcases hr with q|q<;>omega) dJ
 obtain⟨x0,_⟩:=A1 g0;obtain⟨z0,_⟩:=A1 bJ;have bC:=Ab cN;have dL:=Ab aZ;have dC:=Ab Z;have cW:=Ab bZ;have dG:=Ab bX;have H0:=Ab h;have eE:=Ab cP;have dE:=Ab cU;clear cP cU cG bD bL aQ g0 g1 g2 bJ cN aZ Z bZ bX h hi s1 aT;refine(callsIn_wide (n:=40)).1 ?_;refine callsIn_of_wp_marks Tryz.func56 rfl trivial ?_ rfl;simp only[Tryz.ntmps56,zE,qE,qP,Nat.reduceAdd,Nat.reduceSub,Array.replicate_succ,Array.replicate_zero,List.push_toArray,List.append_toArray,zR,zQ];refine wpIn_wide.2 ?_;go_upto_region 1 with fail
 try rw[hH]
 rw[Aa eE];go_upto_region 4 with(go_at_call 96;refine(Aa bC).mono ?_;rintro e w' ⟨rfl,hw⟩;obtain rfl:=hw.symm)
 try rw[cI]
 rw[Aa dE];go_wp2_with (go_at_call 97;refine(Aa dL).mono ?_;rintro e w' ⟨rfl,hw⟩;obtain rfl:=hw.symm)
 refine(wpIn_wide (n:=40)).1 ?_;generalize hA:({ tmps:=_,defers:=_ }:Act)=A
 refine C3 rfl (by omega) (gf:=139) (lb:=#[.pointer (some ⟨H+1+1,0,none⟩)]) (by rw[←hA];rfl) trivial (enters_of Tryz.func139 (by kernel_rfl) rfl)
  (encs:=Vf) (waysL d.steps.length) (fun _ V=>V.cell? ⟨b,2,none⟩=some (.slice d.sa d.steps.length d.sc)) (OpR H) (fun _=>False) (fun r hr=>by rcases hr with q|q<;>omega)
  (fun V aO _=>Aa dG V aO) (fun _=>rfl)
  (fun j M V=>Xc w b H (Db s d.steps.length j) M V) (fun _ _ _ _=>False)
  (fun j M V V' row hi hg hr=>hi.abides hg hr) (fun c j M V V' row hi hg hr=>hi) (fun j M V hi r hr=>hi.lt hr)
  (fun r=>r=H+1) (fun r hr=>hr.elim) (Aa cW)
  (fun j p M' a' V=>∃M q,(M'=fun r=>M r∨r=q)∧Xc w b H (Db s d.steps.length j) M V∧¬M q∧¬OpR H q∧V.heap[q]?=some (.cells #[.int .i64 (p.1:Int),.bool p.2] 157)∧a'=(A.put (some 11) (.agg #[.int .i64 (p.1:Int),.bool p.2])).put (some 4) (qP0 q))
  ?hB ?assign ?body (fun j M V hi=>((Aa H0).below (by rw[hH];exact hi.bel)).cells.1.1) ?done ?stop
 case hB=>
  rintro j p M' a' V V' row ⟨M,q,rfl,hi,aG,aS,gq,rfl⟩ hg hr;exact⟨M,q,rfl,hi.abides hg (fun r e=>⟨fun h=>(hr r e).1 (.inl h),(hr r e).2⟩),aG,aS,(hg.block q (qA.1 gq).1 (fun e=>(hr q e.symm).1 (.inr rfl))).trans gq,rfl⟩
 case assign=>
  rintro l2 j ⟨i,u⟩ M V K hx hi hV hK;subst hA;unfold Vf;obtain⟨q,hq⟩:=qeX V.heap.size;obtain⟨V1,bK,cA,gq,eM⟩:=As V (.cells #[.int .i64 (i:Int),.bool u] 157) q hq;have aG:¬M q:=fun h=>by have:=(hi.lt h).1;omega
  have hsz:=hi.sz;have cC:=hK (fun r=>M r∨r=q) _ V1 (by rw[←bK];exact qQ _ _ none) (fun r hr=>hr.imp id (fun e=>by omega)) ⟨M,q,rfl,hi.below (by rw[hq];exact cA),aG,fun h=>by rcases h with q1|q1<;>omega,gq,rfl⟩;have HK:=Ab cC;have dS:=Ab bK;clear cC hK bK cA gq
  gi_wp2
  try rw[hq]
  rw[Aa dS];exact Aa HK
 case stop=>
  rintro D c j M V rfl bE hj hi hK;exact hi.elim
 case done=>
  rintro D M V rfl bE hi hK;subst hA;obtain⟨Z,cV⟩:=Aa dC;rw[Z]at hi;have bG:aN.length≤1000000:=by rw[←Z];have:=I7 s d.steps.length (waysL d.steps.length).length;rw[waysL_len]at this ⊢;omega
  obtain⟨v,k1,k2,hm⟩:=hi.ex;obtain⟨va,vc,bI,bV,bQ⟩:=k2.slice;subst bI;obtain⟨o0,_⟩:=A1 k1;have cT:∀g q,va=some ⟨g,q,none⟩→M g:=fun g q e=>(hm g).2 (.inr (by rw[e];rfl));have dH:=Ab cT;have bC:=Ab bE;have bM:=Qbh va vc aN.length aN V bQ cV rfl bG;obtain⟨R,hR⟩:=qeX aN.length;rw[hR]at o0 bM bV;have hsz:=hi.sz;have dF:=Ab bM;have dR:=Ab hi;have eD:=Ab bQ;have eR:=Ab k1;have dN:=Ab hK;have HR:=Ab hR;have aX:∀V',Below V.heap.size V V'→V'.cell? ⟨H+1,0,none⟩=some (.slice va R vc):=fun V' cX=>(Ae (cX.block (H+1) (by omega)) 0).trans o0;have dX:=Ab aX;clear Z cV hi k1 k2 hm bQ bM hK hR aX cT bE;go_wp2_with (go_at_call 98;refine(Aa dF).mono ?_;rintro q w4 ⟨rfl,b4⟩;have o4:=Aa dX w4 b4;have dI:=Ab b4;clear b4)
  have aL:=Aa dI;have cM:=Aa dN;have cD:=(aL.block _ (qA.1 cM).1).trans cM;have hD:W3.heap.size=H+1+1+1:=dB;rw[hD]at cD;refine⟨by simp,.inl ⟨_,_,rfl,run_takeDeferred cD,_,results_tmp rfl _ _ _,va,vc,by rw[Aa HR];rfl,by rw[Aa HR];exact bV,?_,?_⟩⟩
  ·intro j o ho;obtain⟨g,qq,e,c0,c1,c2,c3⟩:=(Aa eD).below aL j o ho
   have dM:g≠H+1+1+1:=fun e2=>by
    have:=Aa dH g qq e;exact Aa bC (by rw[hD,←e2];exact this)
   have hb:=fun k=>Ae (World.putObj_heap_other (w:=w4) (o:=.deferred none) dM) k;exact⟨g,qq,e,(hb _).trans c0,(hb _).trans c1,(hb _).trans c2,(hb _).trans c3⟩
  ·exact((Aa dR).bel.trans (aL.mono (by omega))).grown (grownBy_putObj' _ (H+1+1+1) (.deferred none)) (by have:=aL.size;omega) (fun k e=>by cases e;omega)
 case body=>
  rintro l2 j ⟨i,u⟩ M' a' V hx ⟨M,q,rfl,hi,aG,aS,gq,rfl⟩ hV;subst hA;obtain⟨eC,dZ⟩:=Em hx;have aH:=Lc (s:=s) hx;have eL:j<2*d.steps.length:=by have:=(qI.1 hx).1;rwa [waysL_len]at this
  have aW:=I7 s d.steps.length j;obtain⟨X,hX⟩:=qeX (Db s d.steps.length j);rw[hX]at hi aH aW;have k1:=(Aa H0).below (show Below w.heap.size w V by rw[hH];exact hi.bel);obtain⟨xS,_⟩:=A1 hi.bS;obtain⟨⟨y0,_⟩,⟨y1,_⟩⟩:=A2 gq;have c4:=k1.cells.2.2.1.1;obtain⟨⟨rp,ra,rt,rl⟩,bO⟩:∃y,s.run i u=y:=⟨_,rfl⟩
  have hlk:∀W,W.heap[bm]?=V.heap[bm]?→(Instr.lookup 151 (.map (some bm)) (.agg #[.int .i64 (i:Int),.bool u]) false).run Tryz.prog W=.ok (.agg #[.int .u8 (rp:Int),.int .i64 ra,.int .i64 rt,.bool rl]) W:=fun W hW=>by
   have:=(k1.mp.keep hW).look i u;rw[bO]at this;exact this
  have cO:bm<V.heap.size:=k1.mp.lt;have cK:P32.openU s i u=if rp=1 then [⟨i,ra,u,rt⟩] else []:=by unfold P32.openU;rw[bO]
  simp only at aH;rw[cK]at aH;have cQ:=Ab aH;have dP:=Ab hlk;have dD:=Ab cO;have dA:=Ab hi;have cB:=Ab gq;have eH:=Ab aG;have eI:=Ab aS;clear aH hlk cO hi gq aG aS hx dZ hX k1 bO cK eC
  gi_upto_region 6 with fail
  refine Dx Bj [7] 6 (fun k f aF W=>∃Bx,aF={ tmps:=#[qP0 b,qP0 H,.slice none 0 0,qP0 (H+1),qP0 q,Bx,qP0 b,.bool true,.bool false,qP0 b,.func (.func 139) #[] #[qP0 (H+1+1)],.agg #[nI i,.bool u],qP0 b,qP0 b,pT b 4,.map (some bm),.agg #[nI i,.bool u],.agg #[.int .u8 (rp:Int),.int .i64 ra,.int .i64 rt,.bool rl],uZ,uZ,uZ,uZ,uZ,uZ,uZ,uZ,uZ,uZ,uZ,uZ,uZ,uZ,uZ,uZ,uZ,uZ],defers:=[] }∧Fw V.drew ⟨rp,ra,rt,rl⟩ (k+1) f Bx W) (by kernel_rfl) (by kernel_rfl) (by decide) (by decide) (by decide) ⟨undef,rfl,Fw.start1 _ _⟩ rfl rfl (Bs 5 1 12 6 (by kernel_rfl) (by kernel_rfl) (by decide) rfl rfl rfl) ?pure ?write ?free ?fin
  case pure=>
   rintro k f aF W ix o ⟨Bx,rfl,J⟩ ho eB dW cS eQ bW;have bU:=J.1;have hc:=fun g o (h:g<V.heap.size)=>Ae (bU.block g h) o;have eN:=(Aa dP) W (bU.block bm (Aa dD));have v0:=(hc H 0 (Ad xS)).trans xS;have u0:=(hc q 0 (Ad y0)).trans y0;have u1:=(hc q 1 (Ad y1)).trans y1;have e4:=(hc b 4 (Ad c4)).trans c4;clear hc bU;rcases ix with _|_|_|_|_|_|_|_|ix
   iterate 6
    ·refine wq ho rfl rfl rfl rfl ?_
     go_simp
   ·exact absurd rfl dW
   ·exact absurd (by simp) eB
   ·exfalso;simp at ho
  case write=>
   rintro k f aF W ix o ⟨Bx,rfl,J⟩ hi ho bW;rcases k with _|k
   ·cases (show some 7=some ix from hi);have bF:some _=some o:=ho;cases bF;have hf:f=true:=bW (by kernel_rfl);subst hf;obtain⟨p,rfl,cZ,aK⟩:=J.2 rfl;have aI:Bd W p P31.Run.zero:=aK;obtain⟨⟨z0,f0⟩,⟨z1,f1⟩,⟨z2,f2⟩,⟨z3,f3⟩⟩:=aI.cells;refine⟨rfl,.inr (.inl ⟨_,?_,⟨_,rfl,J.store⟩⟩)⟩
    go_simp
   ·simp at hi
  case free=>
   rintro k aF W o ⟨Bx,rfl,J⟩ ho cS;have bF:some _=some o:=ho;cases bF;have hk:k≤0:=cS 0 7 rfl (by kernel_rfl);refine⟨rfl,.inl ⟨_,_,?_,⟨_,rfl,J.alloc (by omega)⟩⟩⟩
   go_simp
  case fin=>
   rintro k aF W6 hk ⟨Bx,rfl,J⟩;obtain⟨k,rfl⟩:∃k',k=k'+1:=⟨k-1,by simp at hk;omega⟩;obtain⟨p,rfl,cZ,aK⟩:=J.2 rfl;have aI:Bd W6 p ⟨rp,ra,rt,rl⟩:=by rw[if_neg (by omega)]at aK;exact aK
   have aD:Below V.heap.size V W6:=((qU _ _).drew).trans J.1;have aB:=(Aa dA).below aD;have aM:Aj (fun r=>M r∨r=q) V M W6:=⟨aD.size,fun r _ hl=>aD.block r hl,fun r h=>.inl (.inl h)⟩;obtain⟨⟨v0,_⟩,⟨v1,_⟩,⟨v2,_⟩,⟨v3,_⟩⟩:=Bd.cells aI;clear J aK xS y0 y1 c4 z0;simp only at v0 v1 v2 v3;by_cases h1:rp=1
   ·have p1:((rp:Int)==1)=true:=by rw[h1];rfl
    obtain⟨⟨u0,_⟩,⟨u1,_⟩⟩:=A2 ((aD.block q (qA.1 (Aa cB)).1).trans (Aa cB));obtain⟨v,k1,k2,hm⟩:=aB.ex;obtain⟨va,vc,bI⟩:=k2.form;subst bI;obtain⟨o0,f0⟩:=A1 k1;have hsz:=aB.sz;have hfin:Db s d.steps.length (j+1)=X++[⟨i,ra,u,rt⟩]:=by rw[Aa cQ,if_pos h1]
    obtain⟨m,aE⟩:=qeX X.length;rw[aE]at o0 aW;have dT:=Ab hfin;have eS:=Ab aB;have cF:=Ab aM;have cY:=Ab aE;obtain⟨Q,hQ⟩:=qeX W6.heap.size;obtain⟨W7,cJ,aJ,g7,eP⟩:=As W6 (.cells #[.int .i64 (i:Int),.int .i64 ra,.bool u,.int .i64 rt] 35) Q hQ;have i7:=aB.below (by rw[hQ];exact aJ)
    have cL:Ba W7 (H+1+1+1) (.slice va m vc) X:=by
     rw[aE]at k2;exact k2.keep (fun g hg=>aJ.block g (by have:=(k2.lt hg).2;omega))
    have bT:=(aJ.block (H+1) (by omega)).trans k1;obtain⟨o7,f7⟩:=A1 bT;rw[aE]at o7;have dK:=Ab cJ;have eF:=Ab aJ;have eA:=Ab i7;have dQ:=Ab g7;have aU:=Ab cL;have bY:=Ab bT;rw[aE]at hm;have dU:=Ab hm;clear hfin aB aM aD aI h1 aE k1 k2 cJ aJ g7 i7 cL bT hm
    gi_wp2_with (gi_at_builtin;revert hQ)
    intro hQ;try rw[hQ]
    rw[Aa dK];refine Mg (v:=.slice va m vc) (j:=⟨i,ra,u,rt⟩) (by rfl) _ _ (by rfl) (by rfl) (Aa aU) Q 1 (by rfl) (Aa dQ) m (Aa cY) (by omega) (by have:=hsz;omega) ?_;intro g' aY w8 aA I aP;have hlo:∀g,(Value.slice va m vc).ownBlock=some g→H+3≤g∧g<W7.heap.size:=fun g e=>(Aa aU).lt e;have aC:=I.block (H+1) (by omega) (fun e=>by have:=hlo _ e.symm;omega);have f8:=(World.frozen?_of_block (a:=⟨H+1,0,none⟩) aC).trans f7;have o8:=(zC (a:=⟨H+1,0,none⟩) aC).trans o7;have HE:=Ab (And.intro aA (And.intro I (And.intro aP (And.intro hlo aC))));clear aA I aP hlo aC o0 f0 f7 o7
    gi_wp2
    obtain⟨aA,I,aP,hlo,aC⟩:=Aa HE;have cR:=Aa eA;have eJ:H+3≤g':=(aA.lt (g:=g') rfl).1;have eK:=I.size;have aR:=Aa dU;have k7:Aj M W6 M W7:=⟨by omega,fun r _ hl=>(Aa eF).block r (by omega),fun r h=>.inl h⟩;have eG:=grownBy_setCell' w8 (H+1) (.slice (some ⟨g',0,none⟩) (m+1) aY);have k9:=(((Aa cF).trans k7).trans (Aj.grown (M:=M) I (fun r e=>.inl ((aR r).2 (.inr e))))).trans (Aj.grown (M:=M) eG (fun r e=>by cases e;exact .inl ((aR _).2 (.inl rfl))));have dY:V.heap.size≤W7.heap.size:=((Aa cF).trans k7).size;refine⟨fun r=>r=H+1∨(Value.slice (some ⟨g',0,none⟩) (m+1) aY).ownBlock=some r,⟨k9.size,k9.same,fun r hr=>?_⟩,?_,?_,⟨_,?_,?_,fun r=>Iff.rfl⟩,?_⟩
    ·rcases hr with rfl|e
     ·exact .inl (.inl ((aR _).2 (.inl rfl)))
     ·have e:some g'=some r:=e;cases e;rcases aP with e|e
      ·exact .inl (.inl ((aR _).2 (.inr e.symm)))
      ·cases e;exact .inr dY
    ·exact(cR.bel.grown I (by omega) (fun k e=>by have:=hlo k e;omega)).setCell (p:=⟨H+1,0,none⟩) (by show H≤H+1;omega) _
    ·exact(qC _ _ _ _ (by show H≠H+1;omega)).trans ((I.block H (by omega) (fun e=>by have:=hlo _ e.symm;omega)).trans cR.bS)
    ·exact Wb (aC.trans (Aa bY)) _
    ·rw[Aa dT];exact aA.keep (fun g e=>qC _ _ _ _ (by have e:some g'=some g:=e;cases e;show g'≠H+1;omega))
    ·simp;omega
   ·have p1:((rp:Int)==1)=false:=by simp;omega
    have hfin:∃M',Aj (fun r=>M r∨r=q) V M' W6∧Xc w b H (Db s d.steps.length (j+1)) M' W6:=⟨M,aM,by rw[Aa cQ,if_neg h1,List.append_nil];exact aB⟩;have HF:=Ab hfin;clear hfin aB aM aD aI h1
    gi_wp2
    exact Aa HF
end Go.Proofs.YtefokfbgpfcbkaaGreat
