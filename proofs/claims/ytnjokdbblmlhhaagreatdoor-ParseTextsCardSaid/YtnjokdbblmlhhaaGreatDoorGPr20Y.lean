/- Lemmas of this claim. -/
import Derived.Test.YtnjokdbblmlhhaaGreatDoorGP20Y
set_option linter.unusedVariables false
set_option linter.unusedSimpArgs false
namespace Go.Proofs.YtnjokdbblmlhhaaGreatDoor
set_option maxHeartbeats 4000000
set_option maxRecDepth 100000
open Go.RowKit
theorem Zb(k:Nat)(t:List UInt8):(P20.leaf k t).length≤4*t.length+2:=by
 unfold P20.leaf;split
 ·simp
 ·split
  ·simp
  ·have:=R18.put_len t;omega
theorem Xx:∀{seen ks:List (List UInt8)},P20.keysE seen ks=0→∀x∈ks,x.length≤64
 |seen,[],h,x,hx=>by simp at hx
 |seen,k::ks,h,x,hx=>by
  obtain⟨h1,_,h3⟩:=P20.keysE_cons h;rcases zN.1 hx with rfl|hx
  ·have:=P20.check_len h1;omega
  ·exact Xx h3 x hx
namespace P20
end P20
theorem G3(a a':Option Addr)(c c':Nat)(ks ks':List (List UInt8))(w:World)(h:Eu w a ks)(h':Eu w a' ks')(hl:ks.length≤maxLen)(N:ks'.length≤maxLen) :
  Calls Tryz.prog 49 #[.slice a ks.length c,.slice a' ks'.length c'] w fun e w'=>e=.returned (.bool (decide (ks=ks')))∧∃q,w'=w.drewN q:=by
 unfold maxLen at hl N;by_cases hn:ks.length=ks'.length
 ·obtain⟨n,R⟩:∃n,ks.length=n:=⟨_,rfl⟩;rw[←hn,R];rw[R]at hl;have HN:=Ab R;have HE:=Ab (hn.symm.trans R);have HI:=Ab h;have Z:=Ab h';clear R hn h h' N;go_enter Tryz.func49,Tryz.ntmps49
  go_wp2
  go_loopg [5] n (fun g s5 wx=>∃i m:Nat,i+g=n∧s5=.int .i64 i∧Hid (decide (ks=ks')=decide (ks.drop i=ks'.drop i))∧w.drewN m=wx)
  case atStart=>exact⟨0,0,by omega,by go_num,Ab rfl,rfl⟩
  case round=>
   obtain⟨i,m,aA,rfl,X,rfl⟩:=hrel;cases gk with
   |zero=>
    have e1:(n:Int)=(i:Int):=by omega
    have S:=Ab (show i=n by omega);go_wp2;go_ret;refine⟨Bn ?_,m,rfl⟩;rw[Aa X,qM (by rw[Aa HN];have:=Aa S;omega),qM (by rw[Aa HE];have:=Aa S;omega)];rfl
   |succ g'=>
    have aB:(i:Int)<(n:Int):=by omega
    have aD:IntKind.i64.wrap ((i:Int)+1)=(i:Int)+1:=qG _ (by omega);obtain⟨x,hx⟩:=V3 (Aa HN) (show i<n by omega);obtain⟨y,Y⟩:=V3 (Aa HE) (show i<n by omega);obtain⟨b,o,rfl,hc⟩:=Aa HI i x hx;obtain⟨b',o',rfl,aC⟩:=Aa Z i y Y
    have J:ks.drop i=x::ks.drop (i+1):=by
     obtain⟨h1,h2⟩:=qI.1 hx;rw[qL h1,h2]
    have I:ks'.drop i=y::ks'.drop (i+1):=by
     obtain⟨h1,h2⟩:=qI.1 Y;rw[qL h1,h2]
    have Q:=Ab J;have G:=Ab I;clear J I hx Y;by_cases D:x=y
    ·subst D;have U:(x != x)=false:=by simp
     go_wp2;go_region
     go_wp2;go_roundg g'
     case measure=>omega
     case rel=>
      refine⟨i+1,m+1,by omega,by go_num,Ab ?_,rfl⟩;rw[Aa X,Aa Q,Aa G];simp
    ·have U:(x==y)=false:=by simpa using D
     have S:=Ab D;clear D;go_wp2;go_region
     go_wp2;go_ret;refine⟨Bn ?_,m+1,rfl⟩;rw[Aa X,Aa Q,Aa G];have:=Aa S;simp[this]
 ·have jn:((ks.length:Int) != (ks'.length:Int))=true:=by simp;omega
  have hr:decide (ks=ks')=false:=decide_eq_false (fun e=>hn (by rw[e]));rw[hr];clear hr hn h h';go_enter Tryz.func49,Tryz.ntmps49
  go_wp2;go_ret;exact⟨rfl,0,rfl⟩
def Lb(d:Nd):Prop:=∀(e:Nd) (w:World),d.In w→e.In w→Calls Tryz.prog 20 #[d.val,e.val] w fun x w'=>x=.returned (.bool (d.bare.same e.bare))∧Below w.heap.size w w'
theorem Pc(w:World)(D o2:Obj):∃W,(w.alloc D).alloc o2=W∧Below w.heap.size w W∧W.heap[w.heap.size]?=some D∧W.heap[w.heap.size+1]?=some o2∧W.heap.size=w.heap.size+1+1:=by
 have G:=qB (w.alloc D) o2;rw[qF]at G;exact⟨_,rfl,((qV _ w).alloc (qJ _) _).alloc (by simp) _,(qD _ _ _ (by simp)).trans (qB w _),G,by simp⟩
theorem Ry{t t':List UInt8}(h:t≠t'):(t==t')=false:=by simpa using h
theorem Od(k:Nat)(t:List UInt8)(ka:Option Addr)(kc:Nat)(ks:List (List UInt8))(da:Option Addr)(dc:Nat)(ds:List Nd)(l:Int)(aN:∀d∈ds,Lb d):Lb (.mk k t ka kc ks da dc ds l):=by
 intro e w I D;obtain⟨k',t',U,X,ks',aE,aH,ds',l'⟩:=e;have hf:=I.fit;have S:=D.fit;have e1:=hf.keysL;have e2:=hf.kidsL;have e3:=S.keysL;have e4:=S.kidsL;simp only[Nd.keys,Nd.kids]at e1 e2 e3 e4;obtain⟨W,hW,hb,g0,g1,hs⟩:=Pc w (.cells #[.int .u8 k,.string ⟨t.toArray⟩,.slice ka ks.length kc,.slice da ds.length dc,.int .i64 l] 26) (.cells #[.int .u8 k',.string ⟨t'.toArray⟩,.slice U ks'.length X,.slice aE ds'.length aH,.int .i64 l'] 26);obtain⟨⟨x0,_⟩,⟨x1,_⟩,⟨x2,_⟩,⟨x3,_⟩,⟨x4,_⟩⟩:=Ad g0;obtain⟨⟨y0,_⟩,⟨y1,_⟩,⟨y2,_⟩,⟨y3,_⟩,⟨y4,_⟩⟩:=Ad g1;have G:=G3 ka U kc X ks ks' W (Eu.below hf.keys hb) (Eu.below S.keys hb) e1 e3;have aG:=I.kids;have hk2:=D.kids;simp only[Nd.da,Nd.kids]at aG hk2;have aY:=Ab aG;have bM:=Ab hk2;have bL:=Ab aN;have HW:=Ab hW;have HB:=Ab hb;have aO:=Ab g0;have aJ:=Ab g1;unfold maxLen at e2;rw[Nd.val_eq,Nd.val_eq];simp only[Nd.bare,P20.T.same];clear hW g0 g1 I D hf S aN e1 e3 e4 hb aG hk2;by_cases hk:k=k'
 rotate_left
 ·have jk:((k:Int) != (k':Int))=true:=by simp;omega
  rw[show (k==k')=false from beq_eq_false_iff_ne.2 hk];clear hk G;go_enter Tryz.func20,Tryz.ntmps20
  go_upto_region 1 with fail
  rw[Aa HW];go_wp2;go_ret;exact⟨rfl,Aa HB⟩
 subst hk;have jk:((k:Int) != (k:Int))=false:=by simp
 by_cases ht:t=t'
 rotate_left
 ·have jt:=Ry ht;rw[show (k==k)=true from beq_self_eq_true k,show (t==t')=false from beq_eq_false_iff_ne.2 ht];clear ht G;go_enter Tryz.func20,Tryz.ntmps20
  go_upto_region 1 with fail
  rw[Aa HW];go_wp2;go_ret;exact⟨rfl,Aa HB⟩
 subst ht;rw[show (k==k)=true from beq_self_eq_true k,show (t==t)=true from beq_self_eq_true t];by_cases J:ks=ks'
 rotate_left
 ·rw[show (ks==ks')=false from beq_eq_false_iff_ne.2 J];rw[decide_eq_false J]at G;have HE:=Ab G;clear J G;go_enter Tryz.func20,Tryz.ntmps20
  go_upto_region 1 with fail
  rw[Aa HW];go_wp2_with (go_at_call 49;refine(Aa HE).mono ?_;rintro x w' ⟨rfl,q,rfl⟩)
  go_ret;exact⟨rfl,Cm (n:=q) (Aa HB)⟩
 rw[show (ks==ks')=true from beq_iff_eq.2 J];rw[decide_eq_true J]at G;have HE:=Ab G;clear J G;by_cases hn:ds.length=ds'.length
 rotate_left
 ·have jn:((ds.length:Int) != (ds'.length:Int))=true:=by simp;omega
  have hr:P20.sameL (Am ds) (Am ds')=false:=by
   cases hb:P20.sameL (Am ds) (Am ds')with
   |false=>rfl
   |true=>have:=P20.sameL_len hb;rw[Bs,Bs]at this;exact absurd this hn
  rw[hr];clear hr hn;go_enter Tryz.func20,Tryz.ntmps20
  go_upto_region 1 with fail
  rw[Aa HW];go_wp2_with (go_at_call 49;refine(Aa HE).mono ?_;rintro x w' ⟨rfl,q,rfl⟩)
  go_ret;exact⟨rfl,Cm (n:=q) (Aa HB)⟩
 obtain⟨n,R⟩:∃n,ds.length=n:=⟨_,rfl⟩;have aQ:=Ab (hn.symm.trans R);have HN:=Ab R;rw[R]at x3 e2;rw[hn.symm.trans R]at y3;have aS:=Ab (show (w.alloc (.cells #[.int .u8 k,.string ⟨t.toArray⟩,.slice ka ks.length kc,.slice da n dc,.int .i64 l] 26)).alloc (.cells #[.int .u8 k,.string ⟨t.toArray⟩,.slice U ks'.length X,.slice aE n aH,.int .i64 l'] 26)=W by rw[←R];have:=Aa HW;rw[←hn]at this;exact this);have aL:=Ab (show W.heap[w.heap.size]?=some (.cells #[.int .u8 k,.string ⟨t.toArray⟩,.slice ka ks.length kc,.slice da n dc,.int .i64 l] 26) by rw[←R];exact Aa aO);have aK:=Ab (show W.heap[w.heap.size+1]?=some (.cells #[.int .u8 k,.string ⟨t.toArray⟩,.slice U ks'.length X,.slice aE n aH,.int .i64 l'] 26) by rw[←hn.symm.trans R];exact Aa aJ);have bH:w.heap.size+1<W.heap.size:=by omega
 rw[show ds'.length=n from hn.symm.trans R,R];clear hn R HW aO aJ;go_enter Tryz.func20,Tryz.ntmps20
 go_upto_region 1 with fail
 rw[Aa aS];go_wp2_with (go_at_call 49;refine(Aa HE).mono ?_;rintro x w' ⟨rfl,q,rfl⟩)
 clear x0 x1 x2 x3 x4 y0 y1 y2 y3 y4
 go_loopg [5] n (fun g s5 wx=>∃i:Nat,i+g=n∧s5=.int .i64 i∧Hid (P20.sameL (Am ds) (Am ds')=P20.sameL (Am (ds.drop i)) (Am (ds'.drop i)))∧Hid (Below W.heap.size W wx))
 case atStart=>exact⟨0,by omega,by go_num,Ab rfl,Ab (Cm (n:=q) (qV _ W))⟩
 case round=>
  obtain⟨i,bN,rfl,HS,aD⟩:=hrel;have Y:=Aa aD;obtain⟨⟨x0,_⟩,⟨x1,_⟩,⟨x2,_⟩,⟨x3,_⟩,⟨x4,_⟩⟩:=Ad ((Y.block w.heap.size (by omega)).trans (Aa aL));obtain⟨⟨y0,_⟩,⟨y1,_⟩,⟨y2,_⟩,⟨y3,_⟩,⟨y4,_⟩⟩:=Ad ((Y.block (w.heap.size+1) bH).trans (Aa aK));have aR:Below w.heap.size w wr:=(Aa HB).trans (Y.mono (Aa HB).size);have N:=Ab aR;clear Y aR;cases gk with
  |zero=>
   have e1:(n:Int)=(i:Int):=by omega
   have HQ:=Ab (show i=n by omega);go_wp2;go_ret;refine⟨Bn ?_,Aa N⟩;rw[Aa HS,qM (by rw[Aa HN];have:=Aa HQ;omega),qM (by rw[Aa aQ];have:=Aa HQ;omega)];rfl
  |succ g'=>
   have bR:(i:Int)<(n:Int):=by omega
   have bU:IntKind.i64.wrap ((i:Int)+1)=(i:Int)+1:=qG _ (by omega);obtain⟨d,Z⟩:=V3 (Aa HN) (show i<n by omega);obtain⟨e,aI⟩:=V3 (Aa aQ) (show i<n by omega);have hS:=Aa HS;rw[Cg Z,Cg aI]at hS;simp only[P20.sameL]at hS;have aB:=Aa bL d (qN Z) e;obtain⟨b,o,k1,t1,bG,bF,bK,bC,bJ,bE,l1,rfl,rfl,c0,c1,c2,c3,c4,I⟩:=Ce ((Aa aY).below (Aa N)) Z;obtain⟨b',o',k2,t2,aU,aZ,aT,bB,bI,bD,l2,rfl,rfl,aX,bV,bS,bP,bQ,D⟩:=Ce ((Aa bM).below (Aa N)) aI;obtain⟨r,hr⟩:∃r,(Nd.mk k1 t1 bG bF bK bC bJ bE l1).bare.same (Nd.mk k2 t2 aU aZ aT bB bI bD l2).bare=r:=⟨_,rfl⟩;have aC:=aB wr.drew I.drew D.drew;rw[hr,Nd.val_eq,Nd.val_eq]at aC;rw[hr]at hS;have aW:=Ab aC;have aM:=Ab hS;have bO:=B3 c0;have bT:=B3 aX;have bW:Tryz.prog.follows .mixedOrders=true:=by kernel_rfl
   clear aB aC hS hr Z aI I D HS;go_wp2
   go_region_with_o (first
    | (go_at_call 20;refine(Aa aW).mono ?_;rintro x w2 ⟨rfl,Q⟩;have aA:Below wr.heap.size wr w2:=⟨Q.os,Q.tape,Q.output,Q.size,Q.block⟩))
   all_goals
    cases r with
    |false=>
     go_wp2;go_ret;refine⟨Bn ?_,(Aa N).trans (aA.mono (Aa N).size)⟩;rw[Aa aM];rfl
    |true=>
     have hS:=Aa aM;rw[Bool.true_and]at hS;have HS:=Ab hS;have bA:=Ab ((Aa aD).trans (aA.mono (Aa aD).size));clear hS;go_wp2;go_roundg g'
     case measure=>omega
     case rel=>exact⟨i+1,by omega,by go_num,HS,bA⟩
namespace P20
mutual
theorem T.size_le:∀(d:T) (lv:Nat),(d.size lv).1≤lv
 | .mk k t ks ds l,lv=>by
  have:=sizeL_le ds (lv-1);unfold T.size;split
  ·simp
  ·show _+1≤lv;omega
theorem sizeL_le:∀(ds:List T) (lv:Nat),(sizeL lv ds).1≤lv
 | [],lv=>by simp[sizeL]
 |d::ds,lv=>by
  have:=T.size_le d lv;have:=sizeL_le ds lv;unfold sizeL;show max _ _≤lv;omega
end
theorem Qac(l:List UInt8):(P18.put l).length≤4*l.length+2:=by
 have h:=Zb 1 l;unfold leaf at h;rw[if_neg (by decide),if_neg (by decide)]at h;exact h
end P20
theorem Qd(d:Nd):Lb d:=Nd.ind (p:=Lb) Od d
def Ld(d:Nd):Prop:=∀(lv:Nat) (w:World),d.In w→lv≤1000→(d.bare.size lv).2≤1000000000→Calls Tryz.prog 18 #[d.val,.int .i64 lv] w fun x w'=>x=.returned (.tuple #[.int .i64 (d.bare.size lv).1,.int .i64 (d.bare.size lv).2])∧Below w.heap.size w w'
theorem N3(lv:Nat){ds:List Nd}{i:Nat}{d:Nd}(h:ds[i]?=some d):P20.sizeL lv (Am (ds.take (i+1)))=(max (P20.sizeL lv (Am (ds.take i))).1 (d.bare.size lv).1,(P20.sizeL lv (Am (ds.take i))).2+(d.bare.size lv).2):=by
 have e:∀(a:List P20.T) (x:P20.T),P20.sizeL lv (a++[x])=(max (P20.sizeL lv a).1 (x.size lv).1,(P20.sizeL lv a).2+(x.size lv).2):=fun a x=>by
  induction a with
  |nil=>simp[P20.sizeL]
  |cons y a ih=>simp only[zJ,P20.sizeL,ih];refine Prod.ext ?_ ?_<;>simp only<;>omega
 have ht:ds.take (i+1)=ds.take i++[d]:=by rw[List.take_add_one,h];rfl
 rw[ht,Cu];exact e _ _
theorem Jj(lv:Nat)(ds:List Nd)(i:Nat):(P20.sizeL lv (Am (ds.take i))).2≤(P20.sizeL lv (Am ds)).2:=by
 have e:∀(a b:List P20.T),(P20.sizeL lv (a++b)).2=(P20.sizeL lv a).2+(P20.sizeL lv b).2:=fun a b=>by
  induction a with
  |nil=>simp[P20.sizeL]
  |cons y a ih=>simp only[zJ,P20.sizeL,ih];omega
 have:=e (Am (ds.take i)) (Am (ds.drop i));rw[←Cu,List.take_append_drop]at this;omega
theorem Qs(lv:Nat){ds:List Nd}{d:Nd}(h:d∈ds):(d.bare.size lv).2≤(P20.sizeL lv (Am ds)).2:=by
 induction ds with
 |nil=>simp at h
 |cons y a ih=>
  simp only[Am,P20.sizeL];rcases zN.1 h with rfl|h
  ·omega
  ·have:=ih h;omega
theorem Oy(k:Nat)(t:List UInt8)(ka:Option Addr)(kc:Nat)(ks:List (List UInt8))(da:Option Addr)(dc:Nat)(ds:List Nd)(l:Int)(aB:∀d∈ds,Ld d):Ld (.mk k t ka kc ks da dc ds l):=by
 intro lv w G bG D;have e2:=G.fit.kidsL;simp only[Nd.kids]at e2;obtain⟨n,hN⟩:∃n,ds.length=n:=⟨_,rfl⟩;have Y:=G.kids;simp only[Nd.da,Nd.kids]at Y;obtain⟨W,hW⟩:∃W,w.alloc (.cells #[.int .u8 k,.string ⟨t.toArray⟩,.slice ka ks.length kc,.slice da n dc,.int .i64 l] 26)=W:=⟨_,rfl⟩;have hb:Below w.heap.size w W:=by rw[←hW];exact(qV _ w).alloc (qJ _) _
 have g0:W.heap[w.heap.size]?=some (.cells #[.int .u8 k,.string ⟨t.toArray⟩,.slice ka ks.length kc,.slice da n dc,.int .i64 l] 26):=by rw[←hW];exact qB _ _
 have aD:w.heap.size<W.heap.size:=(qA.1 g0).1;rw[Nd.val_eq,hN];have aJ:=Ab Y;have aU:=Ab aB;have HW:=Ab hW;have HB:=Ab hb;have aN:=Ab g0;have HN:=Ab hN;unfold maxLen at e2;rw[hN]at e2;simp only[Nd.bare,P20.T.size]at D ⊢;clear hW g0 G aB hb Y hN;cases lv with
 |zero=>
  rw[if_pos rfl];clear D;go_enter Tryz.func18,Tryz.ntmps18
  go_upto_region 1 with fail
  rw[Aa HW];go_wp2;exact qW (results_tmp2 rfl _ _ _) rfl ⟨rfl,Aa HB⟩
 |succ lv=>
  rw[if_neg (by omega)]at D ⊢;simp only[zL]at D ⊢;have aE:IntKind.i64.wrap (((lv+1:Nat):Int)-1)=(lv:Int):=by rw[qG _ (by omega)];omega
  have jl:(1:Int)≤((lv+1:Nat):Int):=by omega
  obtain⟨L1,R⟩:∃L1:Int,((lv+1:Nat):Int)=L1:=⟨_,rfl⟩;rw[R]at aE jl ⊢;have X:=Ab D;have bD:=Ab R;clear D R;go_enter Tryz.func18,Tryz.ntmps18
  go_upto_region 1 with fail
  rw[Aa HW];go_wp2
  go_loopg [6,7,8] n (fun g s6 s7 s8 wx=>∃(i x y:Nat),i+g=n∧s6=.int .i64 x∧s7=.int .i64 y∧s8=.int .i64 i∧Hid (P20.sizeL lv (Am (ds.take i))=(x,y-1))∧1≤y∧Hid (Below W.heap.size W wx))
  case atStart=>exact⟨0,0,1,by omega,by go_num,by go_num,by go_num,Ab (by simp[Am,P20.sizeL]),by omega,Ab (qV _ _)⟩
  case round=>
   obtain⟨i,x,y,aX,rfl,rfl,rfl,HS,aW,U⟩:=hrel;have Z:=Aa U;obtain⟨⟨x0,_⟩,⟨x1,_⟩,⟨x2,_⟩,⟨x3,_⟩,⟨x4,_⟩⟩:=Ad ((Z.block w.heap.size aD).trans (Aa aN));have aC:Below w.heap.size w wr:=(Aa HB).trans (Z.mono (Aa HB).size);have aA:=Ab aC;have bH:x≤lv:=by have:=P20.sizeL_le (Am (ds.take i)) lv;rw[Aa HS]at this;exact this
   have bB:y≤1000000000:=by have:=Jj lv ds i;rw[Aa HS]at this;have:=Aa X;simp only at *;omega
   clear Z aC;cases gk with
   |zero=>
    have e1:(n:Int)=(i:Int):=by omega
    have HQ:=Ab (show i=n by omega);have bC:IntKind.i64.wrap ((x:Int)+1)=(x:Int)+1:=qG _ (by omega);go_wp2;refine qW (results_tmp2 rfl _ _ _) rfl ⟨?_,Aa aA⟩;have h9:=Aa HS;rw[Aa HQ,←Aa HN,List.take_length]at h9;rw[h9];show Ending.returned (.tuple #[.int .i64 ((x:Int)+1),.int .i64 (y:Int)])=_;simp only;rw[show (((x+1:Nat)):Int)=(x:Int)+1 from by omega,show (((y-1+1:Nat)):Int)=(y:Int) from by omega]
   |succ g'=>
    have bE:(i:Int)<(n:Int):=by omega
    have bI:IntKind.i64.wrap ((i:Int)+1)=(i:Int)+1:=qG _ (by omega);obtain⟨d,J⟩:=V3 (Aa HN) (show i<n by omega);have I:=N3 lv J;rw[Aa HS]at I;have Q:=Qs lv (qN J);have N:=Aa aU d (qN J);obtain⟨b,o,k1,t1,aQ,aO,aT,aL,aR,aM,l1,rfl,rfl,c0,c1,c2,c3,c4,G⟩:=Ce ((Aa aJ).below (Aa aA)) J;obtain⟨p,hp⟩:∃p,(Nd.mk k1 t1 aQ aO aT aL aR aM l1).bare.size lv=p:=⟨_,rfl⟩;have aY:p.1≤lv:=by rw[←hp];exact P20.T.size_le _ _
    rw[hp]at I Q;have aH:p.2≤1000000000:=by have:=Aa X;omega
    have S:=N lv wr G (by omega) (by rw[hp];exact aH);rw[Nd.val_eq,hp]at S
    have bF:y-1+p.2≤1000000000:=by
     have:=Jj lv ds (i+1);rw[I]at this;have:=Aa X;simp only at *;omega
    have aG:=Ab S;have aS:=Ab I;have aZ:=B3 c0;have bA:IntKind.i64.wrap ((y:Int)+(p.2:Int))=(y:Int)+(p.2:Int):=qG _ (by omega);clear N S J G hp I Q HS;go_wp2_with (go_at_call 18;refine(Aa aG).mono ?_;rintro x' w2 ⟨rfl,aI⟩)
    have aK:=Ab ((Aa U).trans (aI.mono (Aa U).size));go_roundg g'
    case measure=>omega
    case rel=>exact⟨i+1,max x p.1,y+p.2,by omega,by go_num,by go_num,by go_num,Ab (by rw[Aa aS];refine Prod.ext rfl ?_;show y-1+p.2=y+p.2-1;omega),by omega,aK⟩
theorem Pz(d:Nd):Ld d:=Nd.ind (p:=Ld) Oy d
theorem Gs{W:World}{g:Nat}{t:TypeId}{a:Value}(h:W.heap[g]?=some (.cells #[a] t)):W.cell? ⟨g,0,none⟩=some a∧W.frozen? ⟨g,0,none⟩=false:=by
 simp[World.cell?,World.frozen?,h]
namespace P20
end P20
namespace P20
end P20
theorem Sr(d:Nd):Mv (d.preN 18 1)=(d.bare.size 18).1:=by
 rw[←P20.depth_size,←Nd.preN_bare];unfold Mv;rw[List.map_map];rfl
end Go.Proofs.YtnjokdbblmlhhaaGreatDoor
