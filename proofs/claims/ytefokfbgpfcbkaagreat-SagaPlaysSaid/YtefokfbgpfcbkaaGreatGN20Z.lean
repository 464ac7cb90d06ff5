import Derived.Sort.CutIn
import Derived.Maps.OwnIn
import Derived.Deep.CutBlock
import Derived.Test.YtefokfbgpfcbkaaGreatGW17Z
import Derived.Deep.Strs
import Derived.Deep.Fields23
set_option maxRecDepth 100000
set_option maxHeartbeats 8000000
set_option linter.unusedVariables false
set_option linter.unusedSimpArgs false
namespace Go.Proofs.YtefokfbgpfcbkaaGreat
open Go.RowKit
inductive Nd where
 |mk (kind:Nat) (text:List UInt8) (ka:Option Addr) (kc:Nat) (keys:List (List UInt8)) (da:Option Addr) (dc:Nat) (kids:List Nd) (line:Int)
def Nd.kind:Nd→Nat | .mk k _ _ _ _ _ _ _ _=>k
def Nd.text:Nd→List UInt8 | .mk _ t _ _ _ _ _ _ _=>t
def Nd.ka:Nd→Option Addr | .mk _ _ a _ _ _ _ _ _=>a
def Nd.kc:Nd→Nat | .mk _ _ _ c _ _ _ _ _=>c
def Nd.keys:Nd→List (List UInt8) | .mk _ _ _ _ ks _ _ _ _=>ks
def Nd.da:Nd→Option Addr | .mk _ _ _ _ _ a _ _ _=>a
def Nd.dc:Nd→Nat | .mk _ _ _ _ _ _ c _ _=>c
def Nd.kids:Nd→List Nd | .mk _ _ _ _ _ _ _ ds _=>ds
def Nd.line:Nd→Int | .mk _ _ _ _ _ _ _ _ l=>l
def Nd.kV(d:Nd):Value:=.slice d.ka d.keys.length d.kc
def Nd.dV(d:Nd):Value:=.slice d.da d.kids.length d.dc
def Nd.cs(d:Nd):List Value:=[.int .u8 d.kind,.string ⟨d.text.toArray⟩,d.kV,d.dV,.int .i64 d.line]
def Nd.val(d:Nd):Value:=.agg #[.int .u8 d.kind,.string ⟨d.text.toArray⟩,d.kV,d.dV,.int .i64 d.line]
mutual
def Nd.bare:Nd→P20.T
 | .mk k t _ _ ks _ _ ds l=>.mk k t ks (Ay ds) l
def Ay:List Nd→List P20.T
 | []=>[]
 |d::ds=>d.bare::Ay ds
end
theorem Ed:∀ds:List Nd,Ay ds=ds.map Nd.bare
 | []=>rfl
 |d::ds=>by simp[Ay,Ed ds]
theorem Cp(ds:List Nd):(Ay ds).length=ds.length:=by rw[Ed,qX]
theorem Dj(a b:List Nd):Ay (a++b)=Ay a++Ay b:=by simp[Ed]
def Ft(W:World)(a:Option Addr)(ks:List (List UInt8)):Prop:=∀i x,ks[i]?=some x→∃b o,a=some ⟨b,o,none⟩∧W.cell? ⟨b,o+i,none⟩=some (.string ⟨x.toArray⟩)
def G9(W:World)(b o:Nat)(d:Nd):Prop:=
 W.cell? ⟨b,o,none⟩=some (.int .u8 d.kind)∧W.cell? ⟨b,o+1,none⟩=some (.string ⟨d.text.toArray⟩)∧W.cell? ⟨b,o+2,none⟩=some d.kV∧W.cell? ⟨b,o+3,none⟩=some d.dV∧W.cell? ⟨b,o+4,none⟩=some (.int .i64 d.line)
structure Fit (W:World) (d:Nd):Prop where
 kind:d.kind<256
 text:d.text.length≤maxLen
 keysL:d.keys.length≤maxLen
 kidsL:d.kids.length≤maxLen
 keysC:d.keys.length≤d.kc
 kidsC:d.kids.length≤d.dc
 keyL:∀x∈d.keys,x.length≤maxLen
 keys:Ft W d.ka d.keys
mutual
def Nd.In(W:World):Nd→Prop
 | .mk k t ka kc ks da dc ds l=>Fit W (.mk k t ka kc ks da dc ds l)∧InL W da 0 ds
def InL(W:World)(a:Option Addr):Nat→List Nd→Prop
 |_,[]=>True
 |i,d::ds=>(∃b o,a=some ⟨b,o,none⟩∧G9 W b (o+i*5) d)∧d.In W∧InL W a (i+1) ds
end
theorem Om{W:World}{a:Option Addr}:∀{ds:List Nd} {i:Nat},InL W a i ds→∀j d,ds[j]?=some d→(∃b o,a=some ⟨b,o,none⟩∧G9 W b (o+(i+j)*5) d)∧d.In W
 | [],i,h,j,d,hj=>by simp at hj
 |e::ds,i,h,0,d,hj=>by
  simp only[zF,zK]at hj;subst hj;simp only[InL]at h;exact⟨by simpa using h.1,h.2.1⟩
 |e::ds,i,h,j+1,d,hj=>by
  simp only[List.getElem?_cons_succ]at hj;simp only[InL]at h;have:=Om h.2.2 j d hj;rw[show i+1+j=i+(j+1) from by omega]at this;exact this
theorem On{W:World}{a:Option Addr}:∀{ds:List Nd} {i:Nat},(∀j d,ds[j]?=some d→(∃b o,a=some ⟨b,o,none⟩∧G9 W b (o+(i+j)*5) d)∧d.In W)→InL W a i ds
 | [],i,h=>trivial
 |e::ds,i,h=>by
  have h0:=h 0 e rfl;simp only[InL];refine⟨h0.1,h0.2,On (fun j d hj=>?_)⟩;have:=h (j+1) d (by simpa using hj);rw[show i+(j+1)=i+1+j from by omega]at this;exact this
theorem Nd.In.fit{W:World}{d:Nd}(h:d.In W):Fit W d:=by
 cases d;simp only[Nd.In]at h;exact h.1
theorem Nd.In.kids{W:World}{d:Nd}(h:d.In W):InL W d.da 0 d.kids:=by
 cases d;simp only[Nd.In]at h;exact h.2
theorem Nd.In.mk{W:World}{d:Nd}(h:Fit W d)(hk:InL W d.da 0 d.kids):d.In W:=by
 cases d;simp only[Nd.In];exact⟨h,hk⟩
def Ch(a:Option Addr)(r:Nat):Prop:=∃o,a=some ⟨r,o,none⟩
mutual
def Nd.blk(r:Nat):Nd→Prop
 | .mk _ _ ka _ ks da _ ds _=>(ks≠[]∧Ch ka r)∨(ds≠[]∧Ch da r)∨blkL r ds
def blkL(r:Nat):List Nd→Prop
 | []=>False
 |d::ds=>d.blk r∨blkL r ds
end
theorem Hq(r:Nat):∀ds:List Nd,blkL r ds↔∃d∈ds,d.blk r
 | []=>by simp[blkL]
 |d::ds=>by simp[blkL,Hq r ds]
theorem Ob(r:Nat)(d:Nd):d.blk r↔((d.keys≠[]∧Ch d.ka r)∨(d.kids≠[]∧Ch d.da r)∨blkL r d.kids):=by cases d;simp[Nd.blk,Nd.keys,Nd.ka,Nd.kids,Nd.da]
theorem Ad{W:World}{b o:Nat}{v:Value}(h:W.cell? ⟨b,o,none⟩=some v):b<W.heap.size:=by
 rcases Nat.lt_or_ge b W.heap.size with h1|h1
 ·exact h1
 ·have h9:W.heap[b]?=none:=Array.getElem?_eq_none h1;simp[World.cell?,h9]at h
mutual
theorem Nd.In.lt{W:World}{r:Nat}:∀{d:Nd},d.In W→d.blk r→r<W.heap.size
 | .mk k t ka kc ks da dc ds l,h,hr=>by
  simp only[Nd.blk]at hr;simp only[Nd.In]at h;rcases hr with⟨hn,o,rfl⟩|⟨hn,o,rfl⟩|hr
  ·cases ks with
   |nil=>exact absurd rfl hn
   |cons x ks=>
    obtain⟨b,o',e,hc⟩:=h.1.keys 0 x rfl;injection e with e;injection e with e;subst e;exact Ad hc
  ·cases ds with
   |nil=>exact absurd rfl hn
   |cons x ds=>
    simp only[InL]at h;obtain⟨⟨b,o',e,hc⟩,_⟩:=h.2;injection e with e;injection e with e;subst e;exact Ad hc.1
  ·exact InL.lt h.2 hr
theorem InL.lt{W:World}{r:Nat}{a:Option Addr}:∀{ds:List Nd} {i:Nat},InL W a i ds→blkL r ds→r<W.heap.size
 | [],i,h,hr=>by simp[blkL]at hr
 |d::ds,i,h,hr=>by
  simp only[InL]at h;simp only[blkL]at hr;rcases hr with hr|hr
  ·exact Nd.In.lt h.2.1 hr
  ·exact InL.lt h.2.2 hr
end
theorem Ae{W W':World}{b:Nat}(h:W'.heap[b]?=W.heap[b]?)(o:Nat):W'.cell? ⟨b,o,none⟩=W.cell? ⟨b,o,none⟩:=zC h
theorem G9.keep{W W':World}{b o:Nat}{d:Nd}(h:G9 W b o d)(hb:W'.heap[b]?=W.heap[b]?):G9 W' b o d:=by
 obtain⟨h0,h1,h2,h3,h4⟩:=h;exact⟨(Ae hb _).trans h0,(Ae hb _).trans h1,(Ae hb _).trans h2,(Ae hb _).trans h3,(Ae hb _).trans h4⟩
theorem Ft.keep{W W':World}{a:Option Addr}{ks:List (List UInt8)}(h:Ft W a ks)(hb:∀r,ks≠[]→Ch a r→W'.heap[r]?=W.heap[r]?):Ft W' a ks:=by
 intro i x hx;obtain⟨b,o,rfl,hc⟩:=h i x hx;refine⟨b,o,rfl,(Ae (hb b ?_ ⟨o,rfl⟩) _).trans hc⟩;rintro rfl;simp at hx
theorem Fit.keep{W W':World}{d:Nd}(h:Fit W d)(hb:∀r,d.keys≠[]→Ch d.ka r→W'.heap[r]?=W.heap[r]?):Fit W' d:=
 ⟨h.kind,h.text,h.keysL,h.kidsL,h.keysC,h.kidsC,h.keyL,h.keys.keep hb⟩
mutual
theorem Nd.In.keep{W W':World}:∀{d:Nd},d.In W→(∀r,d.blk r→W'.heap[r]?=W.heap[r]?)→d.In W'
 | .mk k t ka kc ks da dc ds l,h,hb=>by
  simp only[Nd.In]at h ⊢;simp only[Nd.blk]at hb;refine⟨h.1.keep (fun r hn hr=>hb r (.inl ⟨hn,hr⟩)),InL.keep h.2 (fun r hr=>hb r (.inr (.inr hr))) (fun r hn hr=>hb r (.inr (.inl ⟨hn,hr⟩)))⟩
theorem InL.keep{W W':World}{a:Option Addr}:∀{ds:List Nd} {i:Nat},InL W a i ds→(∀r,blkL r ds→W'.heap[r]?=W.heap[r]?)→(∀r,ds≠[]→Ch a r→W'.heap[r]?=W.heap[r]?)→InL W' a i ds
 | [],i,h,hb,ha=>trivial
 |d::ds,i,h,hb,ha=>by
  simp only[InL]at h ⊢;simp only[blkL]at hb;obtain⟨⟨b,o,rfl,hc⟩,h2,h3⟩:=h;exact⟨⟨b,o,rfl,hc.keep (ha b (by simp) ⟨o,rfl⟩)⟩,Nd.In.keep h2 (fun r hr=>hb r (.inl hr)),InL.keep h3 (fun r hr=>hb r (.inr hr)) (fun r _ hr=>ha r (by simp) hr)⟩
end
theorem Nd.In.below{W W':World}{d:Nd}(h:d.In W)(hb:Below W.heap.size W W'):d.In W':=h.keep (fun r hr=>hb.block r (h.lt hr))
theorem Nd.In.grown{W W':World}{d:Nd}{row:Option Nat}(h:d.In W)(hg:W.grownBy W' row)(hn:∀r,row=some r→¬d.blk r):d.In W':=h.keep (fun r hr=>hg.block r (h.lt hr) (fun e=>hn r e.symm hr))
theorem Nd.In.alloc{W:World}{d:Nd}(h:d.In W)(o:Obj):d.In (W.alloc o):=h.below ((qU _ W).alloc (qJ _) o)
theorem Nd.val_eq(k:Nat)(t:List UInt8)(ka:Option Addr)(kc:Nat)(ks:List (List UInt8))(da:Option Addr)(dc:Nat)(ds:List Nd)(l:Int):(Nd.mk k t ka kc ks da dc ds l).val=.agg #[.int .u8 k,.string ⟨t.toArray⟩,.slice ka ks.length kc,.slice da ds.length dc,.int .i64 l]:=rfl
def Nd.zero:Nd:=.mk 0 [] none 0 [] none 0 [] 0
theorem Nd.zero_in(W:World):Nd.zero.In W:=by
 refine .mk ⟨by decide,by simp[Nd.zero,Nd.text],by simp[Nd.zero,Nd.keys],by simp[Nd.zero,Nd.kids],by simp[Nd.zero,Nd.keys,Nd.kc],by simp[Nd.zero,Nd.kids,Nd.dc],by simp[Nd.zero,Nd.keys],?_⟩ trivial;intro i x hx;simp[Nd.zero,Nd.keys]at hx
theorem K0{W:World}{g:Nat}{t:TypeId}{a b c d e:Value}(h:W.heap[g]?=some (.cells #[a,b,c,d,e] t))(v0 I v2 v3 v4:Value) :
  (((((W.setCell ⟨g,0,none⟩ v0).setCell ⟨g,1,none⟩ I).setCell ⟨g,2,none⟩ v2).setCell ⟨g,3,none⟩ v3).setCell ⟨g,4,none⟩ v4).heap[g]?=some (.cells #[v0,I,v2,v3,v4] t):=by
 simp[World.setCell,Array.getElem?_modify,h]
theorem Al{W:World}{g:Nat}{t:TypeId}{a b c d e:Value}(h:W.heap[g]?=some (.cells #[a,b,c,d,e] t)) :
  (W.cell? ⟨g,0,none⟩=some a∧W.frozen? ⟨g,0,none⟩=false)∧(W.cell? ⟨g,1,none⟩=some b∧W.frozen? ⟨g,1,none⟩=false)∧(W.cell? ⟨g,2,none⟩=some c∧W.frozen? ⟨g,2,none⟩=false)∧(W.cell? ⟨g,3,none⟩=some d∧W.frozen? ⟨g,3,none⟩=false)∧(W.cell? ⟨g,4,none⟩=some e∧W.frozen? ⟨g,4,none⟩=false):=by
 simp[World.cell?,World.frozen?,h]
theorem Sh{W:World}{g g':Nat}(h:g'≠g)(v0 I v2 v3 v4:Value):(((((W.setCell ⟨g,0,none⟩ v0).setCell ⟨g,1,none⟩ I).setCell ⟨g,2,none⟩ v2).setCell ⟨g,3,none⟩ v3).setCell ⟨g,4,none⟩ v4).heap[g']?=W.heap[g']?:=by
 rw[qC _ _ _ _ h,qC _ _ _ _ h,qC _ _ _ _ h,qC _ _ _ _ h,qC _ _ _ _ h]
theorem Nd.ind{p:Nd→Prop}(h:∀k t ka kc ks da dc ds l,(∀d∈ds,p d)→p (.mk k t ka kc ks da dc ds l)):∀d,p d:=by
 have hm:∀n:Nat,∀d:Nd,SizeOf.sizeOf d≤n→p d:=by
  intro n
  induction n with
  |zero=>intro d hd;cases d;simp at hd
  |succ n ih=>
   intro d hd;obtain⟨k,t,ka,kc,ks,da,dc,ds,l⟩:=d;refine h _ _ _ _ _ _ _ _ _ (fun e I=>ih e ?_);have:=List.sizeOf_lt_of_mem I;simp only[Nd.mk.sizeOf_spec]at hd;omega
 exact fun d=>hm _ d (qJ _)
theorem Vq{W:World}{a:Option Addr}{ds:List Nd}(h:InL W a 0 ds){j:Nat}{d:Nd}(hj:ds[j]?=some d):∃b o,a=some ⟨b,o,none⟩∧G9 W b (o+j*5) d∧d.In W:=by
 obtain⟨⟨b,o,e,hc⟩,hi⟩:=Om h j d hj;rw[Nat.zero_add]at hc;exact⟨b,o,e,hc,hi⟩
theorem InL.below{W W':World}{a:Option Addr}{ds:List Nd}(h:InL W a 0 ds)(hb:Below W.heap.size W W'):InL W' a 0 ds:=by
 refine On (fun j d hj=>?_);obtain⟨⟨b,o,e,hc⟩,hi⟩:=Om h j d hj;exact⟨⟨b,o,e,hc.keep (hb.block b (Ad hc.1))⟩,hi.below hb⟩
theorem Ft.below{W W':World}{a:Option Addr}{ks:List (List UInt8)}(h:Ft W a ks)(hb:Below W.heap.size W W'):Ft W' a ks:=by
 intro i x hx;obtain⟨b,o,e,hc⟩:=h i x hx;exact⟨b,o,e,(Ae (hb.block b (Ad hc)) _).trans hc⟩
theorem Ev{ds:List Nd}{i:Nat}{d:Nd}(h:ds[i]?=some d):Ay (ds.drop i)=d.bare::Ay (ds.drop (i+1)):=by
 obtain⟨hl,rfl⟩:=qI.1 h;rw[qL hl];rfl
theorem Ds{W:World}{a:Option Addr}{ds:List Nd}(h:InL W a 0 ds){j:Nat}{d:Nd}(hj:ds[j]?=some d):∃b o k t ka kc ks da dc es l,a=some ⟨b,o,none⟩∧d=.mk k t ka kc ks da dc es l ∧
  W.cell? ⟨b,o+j*5,none⟩=some (.int .u8 k)∧W.cell? ⟨b,o+j*5+1,none⟩=some (.string ⟨t.toArray⟩)∧W.cell? ⟨b,o+j*5+2,none⟩=some (.slice ka ks.length kc)∧W.cell? ⟨b,o+j*5+3,none⟩=some (.slice da es.length dc)∧W.cell? ⟨b,o+j*5+4,none⟩=some (.int .i64 l) ∧
  (Nd.mk k t ka kc ks da dc es l).In W:=by
 obtain⟨b,o,e,⟨c0,c1,c2,c3,c4⟩,hi⟩:=Vq h hj;obtain⟨k,t,ka,kc,ks,da,dc,es,l⟩:=d;exact⟨b,o,k,t,ka,kc,ks,da,dc,es,l,e,rfl,c0,c1,c2,c3,c4,hi⟩
theorem Ap{α:Type}{ds:List α}{i n:Nat}(hn:ds.length=n)(hi:i<n):∃d,ds[i]?=some d:=⟨_,qO (by omega)⟩
open Go.RowKit
theorem Ku{w J:World}{B b:Nat}(hb:Below B w J)(h:B≤b)(v0 I v2 v3 v4:Value):Below B w (((((J.setCell ⟨b,0,none⟩ v0).setCell ⟨b,1,none⟩ I).setCell ⟨b,2,none⟩ v2).setCell ⟨b,3,none⟩ v3).setCell ⟨b,4,none⟩ v4):=
 ((((hb.setCell (p:=⟨b,0,none⟩) h v0).setCell (p:=⟨b,1,none⟩) h I).setCell (p:=⟨b,2,none⟩) h v2).setCell (p:=⟨b,3,none⟩) h v3).setCell (p:=⟨b,4,none⟩) h v4
open Go.RowKit
def bz(x:List UInt8):ByteArray:=⟨x.toArray⟩
theorem Xs{x y:List UInt8}(h:bz x=bz y):x=y:=by
 have:=congrArg (fun b:ByteArray=>b.data.toList) h;simpa[bz]using this
theorem Qag(ks:List (List UInt8))(x:List UInt8):bz x∈ks.map bz↔x∈ks:=by
 simp only[List.mem_map];constructor
 ·rintro⟨y,hy,e⟩;rw[←Xs e];exact hy
 ·intro h;exact⟨x,h,rfl⟩
theorem Qaf{ks ks':List (List UInt8)}:ks.map bz=ks'.map bz↔ks=ks':=by
 constructor
 ·intro h;exact(List.map_inj_right (fun _ _ e=>Xs e)).1 h
 ·intro h;rw[h]
theorem Hz{W:World}{a:Option Addr}{ks:List (List UInt8)}(h:Ft W a ks)(hn:ks≠[]):∃b o,a=some ⟨b,o,none⟩∧∀j,j<(ks.map bz).length→W.cell? ⟨b,o+j,none⟩=some (.string ((ks.map bz).getD j ByteArray.empty)):=by
 cases ks with
 |nil=>exact absurd rfl hn
 |cons x ks=>
  obtain⟨b,o,rfl,_⟩:=h 0 x rfl;refine⟨b,o,rfl,fun j hj=>?_⟩;rw[qX]at hj;obtain⟨b2,Z,e,hc⟩:=h j _ (qO hj);injection e with e;injection e with I J;subst I;subst J;rw[hc,List.getD_eq_getElem?_getD,zJ,qO hj];rfl
theorem Of(a:Option Addr)(c:Nat)(ks:List (List UInt8))(x:List UInt8)(w:World)(h:Ft w a ks)(hl:ks.length≤maxLen) :
  Calls Tryz.prog 226 #[.slice a ks.length c,.string ⟨x.toArray⟩] w fun e w'=>e=.returned (.bool (decide (x∈ks)))∧w=w':=by
 unfold maxLen at hl;by_cases hn:ks=[]
 ·subst hn;refine(Tryz.slices_Contains_string_empty a c (bz x) w).mono ?_;rintro e w' ⟨rfl,rfl⟩;exact⟨rfl,rfl⟩
 ·obtain⟨b,o,rfl,hc⟩:=Hz h hn;refine(Tryz.slices_Contains_string b o ks.length c (ks.map bz) (bz x) w (by simp) (by omega) hc).mono ?_;rintro e w' ⟨rfl,rfl⟩;refine⟨Ao ?_,rfl⟩;rw[Bool.eq_iff_iff,Lib.containsS_iff,List.take_of_length_le (by simp),Qag,decide_eq_true_eq]
theorem Vh(a Z:Option Addr)(c J:Nat)(ks ks':List (List UInt8))(w:World)(h:Ft w a ks)(h':Ft w Z ks')(hl:ks.length≤maxLen)(aA:ks'.length≤maxLen) :
  Calls Tryz.prog 222 #[.slice a ks.length c,.slice Z ks'.length J] w fun e w'=>e=.returned (.bool (decide (ks=ks')))∧∃q,w'=w.drewN q:=by
 unfold maxLen at hl aA;by_cases hn:ks=[]
 ·subst hn;refine(Tryz.slices_Equal_string_empty a Z c ks'.length J w (by omega)).mono ?_;rintro e w' ⟨rfl,rfl⟩;refine⟨Ao ?_,0,rfl⟩;rw[Bool.eq_iff_iff,decide_eq_true_eq,decide_eq_true_eq];exact⟨fun e=>(qT e).symm,fun e=>by rw[←e];rfl⟩
 ·by_cases I:ks'=[]
  ·subst I;have hp:=List.length_pos_iff.2 hn;refine(Tryz.slices_Equal_string_lens a Z ks.length c 0 J w (by omega)).mono ?_;rintro e w' ⟨rfl,rfl⟩;exact⟨Ao (decide_eq_false hn).symm,0,rfl⟩
  ·obtain⟨b,o,rfl,hc⟩:=Hz h hn;obtain⟨b',o',rfl,aB⟩:=Hz h' I;refine(Tryz.slices_Equal_string b o ks.length c b' o' ks'.length J (ks.map bz) (ks'.map bz) w (by simp) (by simp) (by omega) (by omega) hc aB).mono ?_;rintro e w' ⟨rfl,hq⟩;refine⟨Ao ?_,hq⟩;rw[List.take_of_length_le (by simp),List.take_of_length_le (by simp),Bool.eq_iff_iff,decide_eq_true_eq,decide_eq_true_eq,Qaf]
open Go.RowKit
attribute [local go_sem] Oper.semAt_some
theorem RoundIn.anyD{F:Fence}(hd:F.depth=none){m I:Nat}{P:Program}{l:Nat}{f:FuncId}{tmps:Array Value}{assign body:Code}{w:World}{R:Ending→World→Prop}
  (h:RoundIn F m P l f tmps assign body w R):RoundIn F I P l f tmps assign body w R:=⟨h.1,fun c cs _=>h.2 c cs (fun d h=>by rw[hd]at h;cases h)⟩
theorem YieldAt.anyD{F:Fence}(hd:F.depth=none){m:Nat}(I:Nat){P:Program}{l:Nat}{args:Array Value}{W:World}{R:Ending→World→Prop}(h:YieldAt F m P l args W R):YieldAt F I P l args W R:=by
 obtain⟨fn,tmps,assign,body,hy,J⟩:=h;exact⟨fn,tmps,assign,body,hy,RoundIn.anyD hd J⟩
theorem Cx{P:Program}{w:World}{a:Addr}{m:Mode}{f:Fn}{x y:Array Value}:(store a (.func f x y) m).run P w=stored P w a (.func f x y) m:=run_store P w a _ m rfl
attribute [local go_sem] Cx
mutual
def Nd.preN(most:Nat):Nat→Nd→List (Nat × Nd)
 |lv,.mk k t ka kc ks da dc ds l=>if most<lv then [] else (lv,.mk k t ka kc ks da dc ds l)::Br most (lv+1) ds
def Br(most:Nat):Nat→List Nd→List (Nat × Nd)
 |lv,[]=>[]
 |lv,d::ds=>d.preN most lv++Br most lv ds
end
def Fh(x:Nat × Nd):Nat × P20.T:=(x.1,x.2.bare)
mutual
theorem Nd.preN_bare(most:Nat):∀(d:Nd) (lv:Nat),(d.preN most lv).map Fh=d.bare.pre most lv
 | .mk k t ka kc ks da dc ds l,lv=>by
  unfold Nd.preN Nd.bare P20.T.pre;split
  ·rfl
  ·rw[List.map_cons,Lg most ds (lv+1)];rfl
theorem Lg(most:Nat):∀(ds:List Nd) (lv:Nat),(Br most lv ds).map Fh=P20.preL most lv (Ay ds)
 | [],lv=>rfl
 |d::ds,lv=>by
  unfold Br Ay P20.preL;rw[List.map_append,Nd.preN_bare most d lv,Lg most ds lv]
end
theorem E7(most lv:Nat):∀a b:List Nd,Br most lv (a++b)=Br most lv a++Br most lv b
 | [],b=>rfl
 |d::a,b=>by rw[zQ,Br,Br,E7 most lv a b,zH]
theorem Qp(most lv:Nat){ds:List Nd}{j:Nat}{d:Nd}(h:ds[j]?=some d):Br most lv ds=Br most lv (ds.take j)++(d.preN most lv++Br most lv (ds.drop (j+1))):=by
 obtain⟨hl,rfl⟩:=qI.1 h
 conv=>lhs;rw[←zI j ds,qL hl]
 rw[E7];rfl
theorem Ta(most lv:Nat){ds:List Nd}{j:Nat}{d:Nd}(h:ds[j]?=some d):Br most lv (ds.take (j+1))=Br most lv (ds.take j)++d.preN most lv:=by
 obtain⟨hl,rfl⟩:=qI.1 h;rw[List.take_succ_eq_append_getElem hl,E7];simp[Br]
def Se(x:Nat × Nd):Array Value:=#[.int .i64 x.1,x.2.val]
theorem A8{W:World}{g:Nat}{t:TypeId}{a:Value}(h:W.heap[g]?=some (.cells #[a] t)):W.cell? ⟨g,0,none⟩=some a∧W.frozen? ⟨g,0,none⟩=false:=by
 simp[World.cell?,World.frozen?,h]
def Wz(W0:World)(l:Nat)(L:List (Nat × Nd))(most b1 Z I:Nat)(R:Nat→Prop)(J Jx:Nat→(Nat→Prop)→World→Prop)(d:Nd):Prop:=
 ∀(n lv i:Nat) (rest:List (Nat × Nd)) (M:Nat→Prop) (V:World),d.In V→(∀r,d.blk r→R r)→L.drop i=d.preN most lv++rest→J i M V→W0.heap.size≤V.heap.size →
  V.heap[b1]?=some (.cells #[.int .i64 most] 3)→V.heap[Z]?=some (.cells #[.func (.yield l) #[] #[]] 268) →
  V.heap[I]?=some (.cells #[.func (.func 225) #[] #[qP0 b1,qP0 Z,qP0 I]] 269)→¬M b1→¬M Z→¬M I →
  CallsIn Fence.wide n Tryz.prog 225 #[d.val,.int .i64 lv,qP0 b1,qP0 Z,qP0 I] V fun e W'=>
   ∃bb,e=.returned (.bool bb)∧Hid (∃M',Aj M V M' W'∧((bb=true∧J (i+(d.preN most lv).length) M' W')∨(bb=false∧∃i',i'≤L.length∧Jx i' M' W')))
theorem Aj.in{M M':Nat→Prop}{V W:World}{d:Nd}(h:Aj M V M' W)(hd:d.In V)(hn:∀r,d.blk r→¬M r):d.In W:=hd.keep (fun r hr=>h.same r (hn r hr) (hd.lt hr))
theorem Ve(W0:World)(l:Nat)(L:List (Nat × Nd))(most b1 b3 b4:Nat)(R:Nat→Prop)(J Jx:Nat→(Nat→Prop)→World→Prop)(hm:most≤1000)(hJ:B9 R J)(cH:B9 R Jx)
  (hM:∀i M V,J i M V→∀r,M r→r<V.heap.size∧¬R r) (hR:∀r,R r→r<W0.heap.size)
  (hY:∀m i x M V,L[i]?=some x→J i M V→W0.heap.size≤V.heap.size→YieldAt Fence.wide m Tryz.prog l (Se x) V fun e W'=>
   ∃M',Aj M V M' W'∧((e=.returned (.bool true)∧J (i+1) M' W')∨(e=.returned (.bool false)∧Jx (i+1) M' W')))
  (k:Nat) (t:List UInt8) (ka:Option Addr) (kc:Nat) (ks:List (List UInt8)) (da:Option Addr) (dc:Nat) (ds:List Nd) (ln:Int) (bJ:∀d∈ds,Wz W0 l L most b1 b3 b4 R J Jx d) :
  Wz W0 l L most b1 b3 b4 R J Jx (.mk k t ka kc ks da dc ds ln):=by
 intro n lv i rest M V bC aD hL aX cY h1 h3 h4 n1 n3 n4;rw[Nd.val_eq];have l1:=(qA.1 h1).1;have l3:=(qA.1 h3).1;have l4:=(qA.1 h4).1;have aO:=fun r hr=>(hM i M V aX r hr).1;have bZ:=fun r hr=>(hM i M V aX r hr).2;have bO:∀r,(Nd.mk k t ka kc ks da dc ds ln).blk r→¬M r:=fun r hr h=>bZ r h (aD r hr);obtain⟨V1,aE⟩:=qeX (V.alloc (.cells #[.int .u8 k,.string ⟨t.toArray⟩,.slice ka ks.length kc,.slice da ds.length dc,.int .i64 ln] 61));have bD:V.grownBy V1 none:=by rw[←aE];exact qQ _ _ _
 have cX:V1.heap.size=V.heap.size+1:=by rw[←aE];simp
 have aT:Aj M V M V1:=.grown bD (fun r e=>by cases e);have g0:V1.heap[V.heap.size]?=some (.cells #[.int .u8 k,.string ⟨t.toArray⟩,.slice ka ks.length kc,.slice da ds.length dc,.int .i64 ln] 61):=by rw[←aE];exact qB V _
 have cD:J i M V1:=hJ i M V V1 none aX bD (fun r e=>by cases e);have k1:=(aT.same b1 n1 l1).trans h1;have k3:=(aT.same b3 n3 l3).trans h3;have cI:¬M V.heap.size:=fun h=>by have:=aO _ h;omega
 obtain⟨x1,_⟩:=A8 k1;obtain⟨x3,_⟩:=A8 k3;have bU:=Ab aE;have HJ:=Ab hJ;have cO:=Ab bC;have bK:=Ab aD;have cM:=Ab bJ;have HM:=Ab hM;have cA:=Ab bO;have bE:=Ab aT;have cC:=Ab cD;have H1:=Ab h1;have H3:=Ab h3;have H4:=Ab h4;have aZ:=bC.fit.kidsL;simp only[Nd.kids]at aZ;unfold maxLen at aZ;clear aE hJ cH bC aD bJ hM bO h1 h3 h4 aO bZ bD hR;rcases Nat.lt_or_ge most lv with aR|aR
 ·have jl:(most:Int)<(lv:Int):=by omega
  have he:(Nd.mk k t ka kc ks da dc ds ln).preN most lv=[]:=by unfold Nd.preN;rw[if_pos aR]
  rw[he];clear hL hY he aR;refine callsIn_of_wp Tryz.func225 rfl trivial ?_ rfl;simp only[Tryz.ntmps225,zE,qE,qP,Nat.reduceAdd,Nat.reduceSub,Array.replicate_succ,Array.replicate_zero,List.push_toArray,List.append_toArray,zR,zQ]
  gi_upto_region 1 with fail
  rw[Aa bU]
  gi_wp2
  go_ret;exact⟨true,rfl,Ab ⟨M,Aa bE,.inl ⟨rfl,Aa cC⟩⟩⟩
 have jl:(lv:Int)≤(most:Int):=by omega
 have aP:(Nd.mk k t ka kc ks da dc ds ln).preN most lv=(lv,.mk k t ka kc ks da dc ds ln)::Br most (lv+1) ds:=by unfold Nd.preN;rw[if_neg (by omega)]
 rw[aP]at hL ⊢
 have aS:L[i]?=some (lv,.mk k t ka kc ks da dc ds ln):=by
  have:=congrArg (fun z=>z[0]?) hL;simpa using this
 have bX:L.drop (i+1)=Br most (lv+1) ds++rest:=by
  have:=congrArg (fun z=>z.drop 1) hL;simpa[zO]using this
 have bW:=(qI.1 aS).1
 have cG:=(hY (n-1) i _ M V1 aS (Aa cC) (by omega)).mono
  (R':=fun e W'=>∃bb,e=.returned (.bool bb)∧Hid (∃M',Aj M V1 M' W'∧((bb=true∧J (i+1) M' W')∨(bb=false∧Jx (i+1) M' W')))) (by
   rintro e W' ⟨M',hk,(⟨rfl,h⟩|⟨rfl,h⟩)⟩
   ·exact⟨true,rfl,Ab ⟨M',hk,.inl ⟨rfl,h⟩⟩⟩
   ·exact⟨false,rfl,Ab ⟨M',hk,.inr ⟨rfl,h⟩⟩⟩)
 have cP:=Ab bX;have cS:=Ab bW;clear hY hL aP aS bX bW;obtain⟨fn,tmps,assign,body,hy,bT⟩:=cG;replace hy:(Instr.yield l #[.int .i64 lv,.agg #[.int .u8 k,.string ⟨t.toArray⟩,.slice ka ks.length kc,.slice da ds.length dc,.int .i64 ln]]).run Tryz.prog V1=.ok (.round l fn tmps assign body) V1:=hy;obtain⟨⟨y0,_⟩,⟨y1,_⟩,⟨y2,_⟩,⟨y3,_⟩,⟨y4,_⟩⟩:=Al g0;have G0:=Ab g0;clear g0 k1 k3;refine callsIn_of_wp Tryz.func225 rfl trivial ?_ rfl;simp only[Tryz.ntmps225,zE,qE,qP,Nat.reduceAdd,Nat.reduceSub,Array.replicate_succ,Array.replicate_zero,List.push_toArray,List.append_toArray,zR,zQ]
 gi_upto_region 1 with fail
 rw[Aa bU]
 gi_wp2
 refine⟨fun h=>(by cases h),bT.mono ?_⟩;rintro e W3 ⟨bb,rfl,HB⟩;clear hy bT x1 x3 y0 y1 y2 y3 y4;cases bb
 ·gi_wp2
  go_ret;obtain⟨M',hk,(⟨h,_⟩|⟨_,h⟩)⟩:=Aa HB
  ·cases h
  ·exact⟨false,rfl,Ab ⟨M',(Aa bE).trans hk,.inr ⟨rfl,i+1,Aa cS,h⟩⟩⟩
 obtain⟨M3,bQ,bI⟩:∃M',Aj M V M' W3∧J (i+1) M' W3:=by
  obtain⟨M',hk,(⟨_,h⟩|⟨h,_⟩)⟩:=Aa HB
  ·exact⟨M',(Aa bE).trans hk,h⟩
  ·cases h
 have q0:W3.heap[V.heap.size]?=some (.cells #[.int .u8 k,.string ⟨t.toArray⟩,.slice ka ks.length kc,.slice da ds.length dc,.int .i64 ln] 61):=by
  obtain⟨M',hk,_⟩:=Aa HB;exact(hk.same _ cI (by omega)).trans (Aa G0)
 obtain⟨⟨y0,_⟩,⟨y1,_⟩,⟨y2,_⟩,⟨y3,_⟩,⟨y4,_⟩⟩:=Al q0;have cR:=Ab bQ;have cN:=Ab bI;clear bQ bI q0 HB G0;have aW:=(Aa cO).kids;simp only[Nd.da,Nd.kids]at aW;have cF:=Ab aW;clear aW;have cU:(lv:Int)+1<9223372036854775807:=by omega
 have cT:IntKind.i64.wrap ((lv:Int)+1)=(lv:Int)+1:=qG _ (by omega);obtain⟨nd,aY⟩:=qeX ds.length;rw[aY]at y3 aZ;have bF:=Ab aY;clear aY
 gi_wp2
 gi_loopg [21] nd (fun g cK wx=>∃(j:Nat) (M2:Nat→Prop),j+g=nd∧cK=.int .i64 j∧Hid (Aj M V M2 wx)∧Hid (J (i+1+(Br most (lv+1) (ds.take j)).length) M2 wx))
 case atStart=>exact⟨0,M3,by omega,by go_num,cR,Ab (by simpa[Br]using Aa cN)⟩
 case round=>
  obtain⟨j,M2,dA,rfl,cB,bL⟩:=hrel;cases gk with
  |zero=>
   have e1:(nd:Int)=(j:Int):=by omega
   have HE:=Ab (show j=nd by omega)
   gi_wp2
   go_ret;refine⟨true,rfl,Ab ⟨M2,Aa cB,.inl ⟨rfl,?_⟩⟩⟩;have h1:=Aa bL;rw[Aa HE,←Aa bF,List.take_length]at h1;show J (i+((Br most (lv+1) ds).length+1)) M2 wr;rw[show i+((Br most (lv+1) ds).length+1)=i+1+(Br most (lv+1) ds).length from by omega];exact h1
  |succ g'=>
   have cZ:(j:Int)<(nd:Int):=by omega
   have dC:IntKind.i64.wrap ((j:Int)+1)=(j:Int)+1:=qG _ (by omega);have cV:j<ds.length:=by rw[Aa bF];omega
   obtain⟨d,Z⟩:=Ap (Aa bF) (show j<nd by omega);obtain⟨b,o,k',t',aL,aK,ks',aH,aI,ds',l',rfl,rfl,c0,c1,c2,c3,c4,aM⟩:=Ds (Aa cF) Z
   have aQ:∀r,(Nd.mk k' t' aL aK ks' aH aI ds' l').blk r→(Nd.mk k t ka kc ks (some ⟨b,o,none⟩) dc ds ln).blk r:=fun r hr=>by
    rw[Ob];exact .inr (.inr ((Hq r _).2 ⟨_,qN Z,hr⟩))
   have bV:(Nd.mk k t ka kc ks (some ⟨b,o,none⟩) dc ds ln).blk b:=by
    rw[Ob];exact .inr (.inl ⟨by rintro e;simp only[Nd.kids]at e;subst e;simp at Z,o,rfl⟩)
   have aB:=Aa cB;have aA:=aB.same b (Aa cA b bV) (Ad c0);replace c0:=(Ae aA _).trans c0;replace c1:=(Ae aA _).trans c1;replace c2:=(Ae aA _).trans c2;replace c3:=(Ae aA _).trans c3;replace c4:=(Ae aA _).trans c4;have aU:=aB.in aM (fun r hr=>Aa cA r (aQ r hr));obtain⟨V5,aG⟩:=qeX (wr.alloc (.cells #[.int .u8 k',.string ⟨t'.toArray⟩,.slice aL ks'.length aK,.slice aH ds'.length aI,.int .i64 l'] 61));have aJ:wr.grownBy V5 none:=by rw[←aG];exact qQ _ _ _
   have I:Aj M V M2 V5:=aB.trans (.grown aJ (fun r e=>by cases e));have bY:=(Aa HJ) _ _ _ V5 none (Aa bL) aJ (fun r e=>by cases e);have cW:=I.size;have nn:∀r,¬M r→r<V.heap.size→¬M2 r:=fun r h1 h2 h3=>(aB.more r h3).elim h1 (by omega)
   have aN:L.drop (i+1+(Br most (lv+1) (ds.take j)).length)=(Nd.mk k' t' aL aK ks' aH aI ds' l').preN most (lv+1)++(Br most (lv+1) (ds.drop (j+1))++rest):=by
    rw[←zO,Aa cP,Qp most (lv+1) Z,zH,List.drop_left,zH]
   have bG:=fun m=>Aa cM _ (qN Z) m (lv+1) _ _ M2 V5 (aU.keep (fun r hr=>aJ.block r (aU.lt hr) (by simp))) (fun r hr=>Aa bK r (aQ r hr)) aN bY (by omega)
    ((I.same b1 n1 l1).trans (Aa H1)) ((I.same b3 n3 l3).trans (Aa H3)) ((I.same b4 n4 l4).trans (Aa H4)) (nn _ n1 l1) (nn _ n3 l3) (nn _ n4 l4)
   have aC:=fun m=>(bG m).mono (R':=fun e W'=>∃bb,e=.returned (.bool bb)∧Hid (∃M',Aj M V M' W'∧((bb=true∧J (i+1+(Br most (lv+1) (ds.take (j+1))).length) M' W')∨(bb=false∧∃i',i'≤L.length∧Jx i' M' W')))) (by
    rintro e W' ⟨bb,rfl,M',hk,h⟩;refine⟨bb,rfl,Ab ⟨M',I.trans hk,?_⟩⟩;rw[Ta most (lv+1) Z,qH,←Nat.add_assoc]
    exact h)
   have k4:=(I.same b4 n4 l4).trans (Aa H4);obtain⟨x4,_⟩:=A8 k4;have h0:V5.heap[wr.heap.size]?=some (.cells #[.int .u8 k',.string ⟨t'.toArray⟩,.slice aL ks'.length aK,.slice aH ds'.length aI,.int .i64 l'] 61):=by rw[←aG];exact qB wr _
   obtain⟨⟨z0,_⟩,⟨z1,_⟩,⟨z2,_⟩,⟨z3,_⟩,⟨z4,_⟩⟩:=Al h0;rw[show (((lv+1:Nat)):Int)=(lv:Int)+1 from by omega]at aC;have cQ:=Ab aC;have cL:=Ab aG;have dB:=Ad c0;clear bG aC aG aM aB aU aJ I bY nn aN Z aQ bV k4 h0 aA
   gi_upto_region 8 with fail
   rw[Aa cL];have cJ:∀k:Nat,(Fence.wide.depth.isSome=true→1≤k):=fun k h=>by cases h
   gi_wp2
   refine⟨trivial,cJ _,(Aa cQ _).mono ?_⟩;rintro e W6 ⟨bb,rfl,bM⟩;cases bb
   ·gi_wp2
    go_ret;obtain⟨M',hk,(⟨h,_⟩|⟨_,h⟩)⟩:=Aa bM
    ·cases h
    ·exact⟨false,rfl,Ab ⟨M',hk,.inr ⟨rfl,h⟩⟩⟩
   ·have hfin:Hid (∃M',Aj M V M' W6∧J (i+1+(Br most (lv+1) (ds.take (j+1))).length) M' W6):=by
     obtain⟨M',hk,(⟨_,h⟩|⟨h,_⟩)⟩:=Aa bM
     ·exact Ab ⟨M',hk,h⟩
     ·cases h
    gi_wp2
    gi_roundg g'
    case measure=>omega
    case rel=>
     obtain⟨M',hk,h⟩:=Aa hfin;exact⟨j+1,M',by omega,by go_num,Ab hk,Ab h⟩
theorem G4(n most b1 b2:Nat)(k:Nat)(t:List UInt8)(ka:Option Addr)(kc:Nat)(ks:List (List UInt8))(da:Option Addr)(dc:Nat)(ds:List Nd)(ln:Int)(R T:Nat→Prop)(W:World)(hm:most≤1000)
  (h1:W.heap[b1]?=some (.cells #[.int .i64 most] 3)) (h2:W.heap[b2]?=some (.cells #[.int .u8 k,.string ⟨t.toArray⟩,.slice ka ks.length kc,.slice da ds.length dc,.int .i64 ln] 61))
  (aE:(Nd.mk k t ka kc ks da dc ds ln).In W) (aD:∀r,(Nd.mk k t ka kc ks da dc ds ln).blk r→R r) (hR:∀r,R r→r<W.heap.size) (hT:T b1) :
  Xl Fence.wide n Tryz.prog 224 #[qP0 b1,qP0 b2] Se ((Nd.mk k t ka kc ks da dc ds ln).preN most 1) R T W:=by
 intro l J Jx hJ aI hM hY M0 aK h0;have l1:=(qA.1 h1).1;have l2:=(qA.1 h2).1
 have aH:∀m i x M V,((Nd.mk k t ka kc ks da dc ds ln).preN most 1)[i]?=some x→J i M V→W.heap.size≤V.heap.size→YieldAt Fence.wide m Tryz.prog l (Se x) V fun e W'=>
   ∃M',Aj M V M' W'∧((e=.returned (.bool true)∧J (i+1) M' W')∨(e=.returned (.bool false)∧Jx (i+1) M' W')):=
  fun m i x M V hx hj hs=>YieldAt.anyD rfl m (hY i x M V hx hj hs)
 obtain⟨W1,Z⟩:=qeX ((W.alloc (.cells #[.func (.yield l) #[] #[]] 268)).alloc (.cells #[.nilFunc] 269));have aL:W1.heap.size=W.heap.size+1+1:=by rw[←Z];simp
 have aG:W.grownBy W1 none:=by rw[←Z];exact B8 (qQ W _ none) (qQ _ _ none)
 have g3:W1.heap[W.heap.size]?=some (.cells #[.func (.yield l) #[] #[]] 268):=by rw[←Z];exact(qD _ _ _ (by simp)).trans (qB W _)
 have g4:W1.heap[W.heap.size+1]?=some (.cells #[.nilFunc] 269):=by
  rw[←Z];have:=qB (W.alloc (.cells #[.func (.yield l) #[] #[]] 268)) (.cells #[.nilFunc] 269);rw[qF]at this;exact this
 obtain⟨W2,aA⟩:=qeX (W1.setCell ⟨W.heap.size+1,0,none⟩ (.func (.func 225) #[] #[qP0 b1,.pointer (some ⟨W.heap.size,0,none⟩),.pointer (some ⟨W.heap.size+1,0,none⟩)]));have aB:W1.grownBy W2 (some (W.heap.size+1)):=by rw[←aA];exact grownBy_setCell' W1 _ _
 have aP:W2.heap.size=W.heap.size+1+1:=by rw[←aA];simpa using aL
 have q4:W2.heap[W.heap.size+1]?=some (.cells #[.func (.func 225) #[] #[qP0 b1,.pointer (some ⟨W.heap.size,0,none⟩),.pointer (some ⟨W.heap.size+1,0,none⟩)]] 269):=by
  rw[←aA];simp[World.setCell,Array.getElem?_modify,g4]
 have ho:∀r,r<W.heap.size→W2.heap[r]?=W.heap[r]?:=fun r hr=>(aB.block r (by omega) (by simp;omega)).trans (aG.block r hr (by simp));have q3:W2.heap[W.heap.size]?=some (.cells #[.func (.yield l) #[] #[]] 268):=(aB.block _ (by omega) (by simp)).trans g3;have q1:=(ho b1 l1).trans h1;have q2:=(ho b2 l2).trans h2;have aC:∀r,M0 r→r<W.heap.size:=fun r hr=>(hM 0 M0 W h0 r hr).1;have aJ:J 0 M0 W1:=hJ 0 M0 W W1 none h0 aG (fun r e=>by cases e);have aM:J 0 M0 W2:=hJ 0 M0 W1 W2 _ aJ aB (fun r e=>by cases e;exact⟨fun h=>by have:=aC _ h;omega,fun h=>by have:=hR _ h;omega⟩)
 have I:=fun m=>Nd.ind (p:=Wz W l ((Nd.mk k t ka kc ks da dc ds ln).preN most 1) most b1 W.heap.size (W.heap.size+1) R J Jx) (Ve W l _ most b1 _ _ R J Jx hm hJ aI hM hR aH) (.mk k t ka kc ks da dc ds ln) m 1 0 [] M0 W2
  (aE.keep (fun r hr=>ho r (aE.lt hr))) aD (by simp) aM (by omega) q1 q3 q4 (aK _ hT).1 (fun h=>by have:=aC _ h;omega) (fun h=>by have:=aC _ h;omega)
 rw[Nd.val_eq]at I;have aS:∀(fn:Fn) (first cap:Array Value) (w:World),(Instr.makeFunc fn first cap).run Tryz.prog w=.ok (.func fn first cap) w:=fun _ _ _ _=>rfl;obtain⟨x4,f4⟩:=A8 g4;have aR:=Ab q2;have aO:=Ab q4;have aQ:=Ab Z;have aN:=Ab aA;have HD:=Ab I;clear Z aA hY aH hJ aI hM aK h0 h1 h2 aE aD hR aL aG g3 g4 aB aP q4 ho q3 q1 q2 aC aJ aM I;refine callsIn_of_wp Tryz.func224 rfl trivial ?_ rfl;simp only[Tryz.ntmps224,zE,qE,qP,Nat.reduceAdd,Nat.reduceSub,Array.replicate_succ,Array.replicate_zero,List.push_toArray,List.append_toArray,zR,zQ]
 gi_upto_region 2 with fail
 rw[Aa aQ]
 gi_upto_region 3 with fail
 rw[Aa aN];obtain⟨y4,_⟩:=A8 (Aa aO);obtain⟨⟨z0,_⟩,⟨z1,_⟩,⟨z2,_⟩,⟨z3,_⟩,⟨z4,_⟩⟩:=Al (Aa aR)
 gi_wp2
 refine⟨trivial,fun h=>(by cases h),(Aa HD _).mono ?_⟩;rintro e W6 ⟨bb,rfl,HB⟩
 gi_wp2
 go_end0;obtain⟨M',hk,(⟨_,h⟩|⟨_,h⟩)⟩:=Aa HB
 ·exact⟨⟨_,rfl⟩,M',.inl (by rw[Nat.zero_add]at h;exact h)⟩
 ·exact⟨⟨_,rfl⟩,M',.inr h⟩
theorem Nb(k:Nat)(t:List UInt8)(ka:Option Addr)(kc:Nat)(ks:List (List UInt8))(da:Option Addr)(dc:Nat)(ds:List Nd)(ln:Int)(most:Int)(w:World) :
  Calls Tryz.prog 201 #[.agg #[.int .u8 k,.string ⟨t.toArray⟩,.slice ka ks.length kc,.slice da ds.length dc,.int .i64 ln],.int .i64 most] w fun e w'=>
   e=.returned (.func (.func 224) #[] #[.pointer (some ⟨w.heap.size+1,0,none⟩),.pointer (some ⟨w.heap.size,0,none⟩)]) ∧
   w'=(w.alloc (.cells #[.int .u8 k,.string ⟨t.toArray⟩,.slice ka ks.length kc,.slice da ds.length dc,.int .i64 ln] 61)).alloc (.cells #[.int .i64 most] 3):=by
 have I:∀(fn:Fn) (first cap:Array Value) (w:World),(Instr.makeFunc fn first cap).run Tryz.prog w=.ok (.func fn first cap) w:=fun _ _ _ _=>rfl;go_enter Tryz.func201,Tryz.ntmps201
 go_wp2;go_ret;exact⟨rfl,rfl⟩
end Go.Proofs.YtefokfbgpfcbkaaGreat
namespace Go.Proofs.YtefokfbgpfcbkaaGreat
open Go.RowKit
attribute [local go_sem] Oper.semAt_some
def Rh(L:List (Nat × Nd)):Nat:=(L.map (·.1)).foldl max 0
theorem Yf{L:List (Nat × Nd)}{i:Nat}{x:Nat × Nd}(h:L[i]?=some x):Rh (L.take (i+1))=max (Rh (L.take i)) x.1:=by
 unfold Rh;rw[List.take_add_one,h];simp[List.foldl_append]
structure Fu (h b:Nat) (w:World) (t:TypeId) (v:Value) (M:Nat→Prop) (V:World):Prop where
 m:M b
 ms:∀r,M r→b≤r∧r<V.heap.size
 cell:V.heap[b]?=some (.cells #[v] t)
 below:Below h w V
theorem Fu.abides{h b:Nat}{w:World}{t:TypeId}{v:Value}{M:Nat→Prop}{V V':World}{row:Option Nat}(hi:Fu h b w t v M V)(hb:h≤b)(hg:V.grownBy V' row)(hr:∀r,row=some r→¬M r∧¬r<h):Fu h b w t v M V':=
  ⟨hi.m,fun r h1=>⟨(hi.ms r h1).1,zD (hi.ms r h1).2 hg.size⟩,(hg.block b (qA.1 hi.cell).1 (fun e=>(hr b e.symm).1 hi.m)).trans hi.cell,
   hi.below.grown hg (by have:=(qA.1 hi.cell).1;omega) (fun k e=>by have:=(hr k e).2;omega)⟩
theorem Fu.set{h b:Nat}{w:World}{t:TypeId}{v:Value}{M:Nat→Prop}{V:World}(hi:Fu h b w t v M V)(hb:h≤b)(I:Value):Fu h b w t I M (V.setCell ⟨b,0,none⟩ I):=
  ⟨hi.m,fun r h1=>⟨(hi.ms r h1).1,by simpa[World.setCell]using (hi.ms r h1).2⟩,by have h1:=hi.cell;simp[World.setCell,Array.getElem?_modify,h1],
   hi.below.grown (grownBy_setCell' V b I) (by have:=(qA.1 hi.cell).1;omega) (fun k e=>by cases e;omega)⟩
theorem To(w:World)(I J Z o4:Obj)(h:Nat)(hh:w.heap.size=h):∃W2,(((w.alloc I).alloc J).alloc Z).alloc o4=W2∧W2.heap.size=h+4∧W2.heap[h]?=some I∧W2.heap[h+1]?=some J∧W2.heap[h+1+1]?=some Z∧W2.heap[h+1+1+1]?=some o4∧Below h w W2:=by
 subst hh;have e1:=qB w I;have e2:=qB (w.alloc I) J;have e3:=qB ((w.alloc I).alloc J) Z;have e4:=qB (((w.alloc I).alloc J).alloc Z) o4;simp only[qF]at e2 e3 e4;refine⟨_,rfl,by simp,?_,?_,?_,e4,?_⟩
 ·exact(qD _ _ _ (by simp<;>omega)).trans ((qD _ _ _ (by simp<;>omega)).trans ((qD _ _ _ (by simp)).trans e1))
 ·exact(qD _ _ _ (by simp<;>omega)).trans ((qD _ _ _ (by simp)).trans e2)
 ·exact(qD _ _ _ (by simp)).trans e3
 ·exact((((qU _ w).alloc (qJ _) _).alloc (by simp) _).alloc (by simp;omega) _).alloc (by simp;omega) _
theorem Uo(d:Nd)(w:World)(J:d.In w) :
    Calls Tryz.prog 172 #[d.val] w fun e w'=>e=.returned (.int .i64 (Rh (d.preN 18 1)))∧Below w.heap.size w w':=by
  obtain⟨k,t,ka,kc,ks,da,dc,ds,ln⟩:=d;obtain⟨L,hL⟩:=qeX ((Nd.mk k t ka kc ks da dc ds ln).preN 18 1);rw[hL];rw[Nd.val_eq];obtain⟨I,hh⟩:=qeX w.heap.size;have HL:=Ab hL;have Z:=fun r (hr:(Nd.mk k t ka kc ks da dc ds ln).blk r)=>J.lt hr;rw[hh]at Z;have aJ:=Ab J;have aH:=Ab Z;clear hL J Z;obtain⟨⟨k0,_⟩,⟨k1,_⟩,⟨k2,_⟩,⟨k3,_⟩,⟨k4,_⟩⟩:=Al (qB w (.cells #[.int .u8 k,.string ⟨t.toArray⟩,.slice ka ks.length kc,.slice da ds.length dc,.int .i64 ln] 61));refine(callsIn_wide (n:=40)).1 ?_;refine callsIn_of_wp_marks Tryz.func172 rfl trivial ?_ rfl;simp only[Tryz.ntmps172,zE,qE,qP,Nat.reduceAdd,Nat.reduceSub,Array.replicate_succ,Array.replicate_zero,List.push_toArray,List.append_toArray,zR,zQ]
  gi_wp2_with (refine⟨trivial,?_⟩;gi_at_call 201;refine(callsIn_wide.2 (Nb k t ka kc ks da dc ds ln 18 _)).mono ?_;rintro e w' ⟨rfl,rfl⟩)
  obtain⟨W2,aD,aM,g0,g1,g2,g3,aC⟩:=To w (.cells #[.int .u8 k,.string ⟨t.toArray⟩,.slice ka ks.length kc,.slice da ds.length dc,.int .i64 ln] 61) (.cells #[.int .i64 0] 3)
    (.cells #[.int .u8 k,.string ⟨t.toArray⟩,.slice ka ks.length kc,.slice da ds.length dc,.int .i64 ln] 61) (.cells #[.int .i64 18] 3) I hh
  rw[aD];clear aD k0 k1 k2 k3 k4;have aB:(Nd.mk k t ka kc ks da dc ds ln).In W2:=(Aa aJ).below (by rw[hh];exact aC)
  have aG:=fun(V:World) (hg:W2.grownBy V none)=>by
    have:=G4 (40-1) 18 (I+1+1+1) (I+1+1) k t ka kc ks da dc ds ln (fun r=>r<I) (fun r=>r=I+1+1+1) V (by omega) ((hg.block _ (by omega) (by simp)).trans g3) ((hg.block _ (by omega) (by simp)).trans g2)
      (aB.grown hg (fun r e=>by cases e)) (fun r hr=>(Aa aH) r hr) (fun r hr=>by have:=hg.size;omega) rfl
    rw[Aa HL]at this;exact this
  refine Jf rfl (by omega) (gf:=224) (lb:=#[.pointer (some ⟨I+1+1+1,0,none⟩),.pointer (some ⟨I+1+1,0,none⟩)]) rfl trivial (enters_of Tryz.func224 (by kernel_rfl) rfl)
    (encs:=Se) L (fun r=>r<I) (fun r=>r=I+1+1+1) (fun r hr=>by omega)
    (fun V hg _=>aG V hg) (fun _=>rfl)
    (fun i M V=>Fu I (I+1) w 3 (.int .i64 (Rh (L.take i))) M V) (fun _ _ _ _=>False)
    (fun i M V V' row hi hg hr=>hi.abides (by omega) hg hr) (fun _ _ _ _ _ _ h1 _ _=>h1.elim)
    (fun i M V hi r hr=>⟨(hi.ms r hr).2,by have:=(hi.ms r hr).1;omega⟩)
    (fun r=>r=I+1) (fun r hr=>by subst hr;exact⟨by omega,by omega,by omega⟩)
    ⟨rfl,fun r hr=>by subst hr;exact⟨qJ _,by omega⟩,by simpa[Rh]using g1,aC⟩
    (fun x=>{ tmps:=#[.agg #[.int .u8 k,.string ⟨t.toArray⟩,.slice ka ks.length kc,.slice da ds.length dc,.int .i64 ln],qP0 I,.int .i64 0,.pointer (some ⟨I+1,0,none⟩),.int .i64 x.1,.agg #[.int .u8 k,.string ⟨t.toArray⟩,.slice ka ks.length kc,.slice da ds.length dc,.int .i64 ln],
      .func (.func 224) #[] #[.pointer (some ⟨I+1+1+1,0,none⟩),.pointer (some ⟨I+1+1,0,none⟩)],.int .i64 x.1,x.2.val,undef,undef,undef,undef],defers:=[] }) ?assign ?body ?done ?stop
  case assign=>
    intro l x W K hK;unfold Se
    gi_wp2
    exact hK
  case body=>
    rintro l i ⟨lv,nd⟩ M V hx hi hV;have aA:=Yf hx;simp only at aA;obtain⟨c0,f0⟩:=A8 hi.cell;have aE:∀v,Aj M V M (V.setCell ⟨I+1,0,none⟩ v):=fun v=>Aj.grown (grownBy_setCell' V (I+1) v) (fun r e=>by cases e;exact .inl hi.m);have aI:=Ab aE;have HI:=Ab hi;have aK:=Ab aA;clear hi aA hx aE
    gi_wp2
    all_goals
      refine⟨M,Aa aI _,?_⟩;have e:=Aa aK
      first
        | (have e2:Rh (L.take (i+1))=lv:=by omega
           show Fu I (I+1) w 3 (.int .i64 (Rh (L.take (i+1)):Nat)) M _;rw[e2]
           exact(Aa HI).set (by omega) _)
        | (have e2:Rh (L.take (i+1))=Rh (L.take i):=by omega
           show Fu I (I+1) w 3 (.int .i64 (Rh (L.take (i+1)):Nat)) M _;rw[e2]
           exact(Aa HI).set (by omega) _)
        | (have e3:((Rh (L.take (i+1)):Nat):Int)=max ((Rh (L.take i):Nat):Int) (lv:Int):=by omega
           show Fu I (I+1) w 3 (.int .i64 ((Rh (L.take (i+1)):Nat):Int)) M _;rw[e3]
           exact(Aa HI).set (by omega) _)
  case done=>
    rintro D M V rfl aL hi hK;rw[List.take_of_length_le (qJ _)]at hi;obtain⟨c0,f0⟩:=A8 hi.cell;have HI:=Ab hi;clear hi
    gi_wp2
    have hI:=Aa HI;refine⟨by simp,.inl ⟨_,_,rfl,run_takeDeferred hK,?_⟩⟩;refine⟨_,results_tmp rfl _ _ _,rfl,?_⟩;rw[hh];exact hI.below.grown (grownBy_putObj' V W2.heap.size (.deferred none)) (by have:=(qA.1 hI.cell).1;omega) (fun k e=>by cases e;omega)
  case stop=>
    rintro D c i M V _ _ _ h1 _;exact h1.elim
end Go.Proofs.YtefokfbgpfcbkaaGreat
namespace Go.Proofs.YtefokfbgpfcbkaaGreat
open Go.RowKit
attribute [local go_sem] Oper.semAt_some
mutual
def Ov:P20.T→Prop
 | .mk k t ks ds l=>t.length≤1000000∧ks.length≤1000000000∧(∀x∈ks,x.length≤1000000)∧ds.length≤1000000000∧Ow ds
def Ow:List P20.T→Prop
 | []=>True
 |d::ds=>Ov d∧Ow ds
end
theorem Qi:∀ds:List P20.T,Ow ds↔∀d∈ds,Ov d
 | []=>by simp[Ow]
 |d::ds=>by simp[Ow,Qi ds]
theorem Bp(t:List UInt8):(⟨t.toArray⟩:ByteArray).toList.isEmpty=t.isEmpty:=by rw[Lib.toList_data]
theorem Vs(k:Nat)(t:List UInt8)(ka:Option Addr)(kc I:Nat)(da:Option Addr)(dc nd:Nat)(ln:Int)(w:World)(h1:I≤1000000000)(h2:nd≤1000000000) :
  Calls Tryz.prog 202 #[.agg #[.int .u8 k,.string ⟨t.toArray⟩,.slice ka I kc,.slice da nd dc,.int .i64 ln]] w fun e w'=>e=.returned (.bool (P20.oddB k t I nd))∧Below w.heap.size w w':=by
 have hb:Below w.heap.size w (w.alloc (.cells #[.int .u8 k,.string ⟨t.toArray⟩,.slice ka I kc,.slice da nd dc,.int .i64 ln] 61)):=(qU _ w).alloc (qJ _) _;obtain⟨⟨c0,_⟩,⟨c1,_⟩,⟨c2,_⟩,⟨c3,_⟩,⟨c4,_⟩⟩:=Al (qB w (.cells #[.int .u8 k,.string ⟨t.toArray⟩,.slice ka I kc,.slice da nd dc,.int .i64 ln] 61));have hw:IntKind.i64.wrap ((I:Int)+nd)=(I:Int)+nd:=qG _ (by omega);unfold P20.oddB;by_cases Z:k=1
 ·subst Z;go_enter Tryz.func202,Tryz.ntmps202
  go_wp2;go_ret;refine⟨Ao ?_,hb⟩;simp;omega
 ·have j1:((k:Int)==1)=false:=by rw[beq_eq_false_iff_ne];omega
  rw[if_neg Z];by_cases k2:k=2
  ·subst k2;cases hte:t.isEmpty
   ·have J:(⟨t.toArray⟩:ByteArray).toList.isEmpty=false:=(Bp t).trans hte;go_enter Tryz.func202,Tryz.ntmps202
    go_wp2;go_ret;exact⟨Ao (by simp),hb⟩
   ·have J:(⟨t.toArray⟩:ByteArray).toList.isEmpty=true:=(Bp t).trans hte;go_enter Tryz.func202,Tryz.ntmps202
    go_wp2;go_ret;exact⟨Ao (by simp),hb⟩
  ·have j2:((k:Int)==2)=false:=by rw[beq_eq_false_iff_ne];omega
   rw[if_neg k2];cases hte:t.isEmpty
   ·have J:(⟨t.toArray⟩:ByteArray).toList.isEmpty=false:=(Bp t).trans hte;go_enter Tryz.func202,Tryz.ntmps202
    go_wp2;go_ret;exact⟨Ao (by simp),hb⟩
   ·have J:(⟨t.toArray⟩:ByteArray).toList.isEmpty=true:=(Bp t).trans hte;go_enter Tryz.func202,Tryz.ntmps202
    go_wp2;go_ret;refine⟨Ao ?_,hb⟩;rw[Bool.eq_iff_iff];simp;omega
theorem Sr(a:Option Addr)(c:Nat)(ks:List (List UInt8))(w:World)(h:Ft w a ks)(aJ:ks.length≤c)(hl:ks.length≤1000000000)(hx:∀x∈ks,x.length≤1000000) :
  Calls Tryz.prog 203 #[.slice a ks.length c] w fun e w'=>e=.returned (.int .i64 (P20.keysE [] ks))∧Below w.heap.size w w':=by
 obtain⟨n,hn⟩:=qeX ks.length;rw[hn]at hl aJ ⊢;have HN:=Ab hn;have HI:=Ab h;have HX:=Ab hx;clear hn h hx;go_enter Tryz.func203,Tryz.ntmps203
 go_wp2
 go_loopg [8] n (fun g s8 wx=>∃i:Nat,i+g=n∧s8=.int .i64 i∧Hid (P20.keysE [] ks=P20.keysE (ks.take i) (ks.drop i))∧Hid (Below w.heap.size w wx))
 case atStart=>exact⟨0,by omega,by go_num,Ab rfl,Ab (qU _ _)⟩
 case round=>
  obtain⟨i,aP,rfl,HD,HB⟩:=hrel;cases gk with
  |zero=>
   have e1:(n:Int)=(i:Int):=by omega
   have HE:=Ab (show i=n by omega);go_wp2;go_ret;refine⟨Cn ?_,Aa HB⟩;rw[Aa HD,qM (by rw[Aa HN];have:=Aa HE;omega)];rfl
  |succ g'=>
   have aS:(i:Int)<(n:Int):=by omega
   have aN:(i:Int)≤(c:Int):=by omega
   have aM:c≠0:=by omega
   have aQ:IntKind.i64.wrap ((i:Int)+1)=(i:Int)+1:=qG _ (by omega);obtain⟨x,aA⟩:=Ap (Aa HN) (show i<n by omega);have aK:=Aa HX x (qN aA)
   have hd:ks.drop i=x::ks.drop (i+1):=by
    obtain⟨aL,rfl⟩:=qI.1 aA;exact qL aL
   have ht:ks.take (i+1)=ks.take i++[x]:=by rw[List.take_add_one,aA];rfl
   have Z:=Aa HD;rw[hd,P20.keysE]at Z;obtain⟨b,o,rfl,hc⟩:=Ft.below (Aa HI) (Aa HB) i x aA;have aG:=fun W=>Gj ⟨x.toArray⟩ 64 W (by rw[zY];show x.length≤1100000;omega);have aC:(ks.take i).length=i:=by rw[qY,Aa HN];omega
   have aE:=fun W (hb:Below wr.heap.size wr W)=>Of (some ⟨b,o,none⟩) c (ks.take i) x W (fun j y hy=>by
    rw[List.getElem?_take]at hy;split at hy
    ·exact Ft.below (Ft.below (Aa HI) (Aa HB)) hb j y hy
    ·cases hy) (by rw[aC];unfold maxLen;omega)
   rw[aC]at aE;simp only[Do]at aG;rw[←ht]at Z;have HT:=Ab aC;have aD:=Ab aG;have aH:=Ab aE;have aO:=Ad hc;clear aG aE hd ht aA aK aC HD;by_cases I:P03.check x 64=0
   ·rw[if_neg (by simpa using I)]at Z;have aI:=Ab I;by_cases hm:x∈ks.take i
    ·rw[if_pos hm]at Z;have aB:=Ab Z;have HM:=Ab hm;clear Z hm I
     go_wp2_with (first
      |(go_at_call 128;refine(Aa aD _).mono ?_;rintro e w1 ⟨rfl,J⟩;rw[Aa aI])
      | (go_at_call 226;refine(Aa aH _ J).mono ?_;rintro e w2 ⟨rfl,rfl⟩;rw[decide_eq_true (Aa HM)]))
     go_ret;exact⟨Cn (Aa aB).symm,(Aa HB).trans (J.mono (Aa HB).size)⟩
    ·rw[if_neg hm]at Z;have aB:=Ab Z;have HM:=Ab hm;clear Z hm I
     go_wp2_with (first
      |(go_at_call 128;refine(Aa aD _).mono ?_;rintro e w1 ⟨rfl,J⟩;rw[Aa aI])
      | (go_at_call 226;refine(Aa aH _ J).mono ?_;rintro e w2 ⟨rfl,rfl⟩;rw[decide_eq_false (Aa HM)]))
     go_roundg g'
     case measure=>omega
     case rel=>exact⟨i+1,by omega,by go_num,aB,Ab ((Aa HB).trans (J.mono (Aa HB).size))⟩
   ·rw[if_pos I]at Z;obtain⟨e,he⟩:=qeX (P03.check x 64);rw[he]at Z I;have aR:(e != 0)=true:=by simpa using I
    have HE:=Ab he;have aB:=Ab Z;clear Z I he
    go_wp2_with (first
     | (go_at_call 128;refine(Aa aD _).mono ?_;rintro e' w1 ⟨rfl,J⟩;rw[Aa HE]))
    go_ret;exact⟨Cn (Aa aB).symm,(Aa HB).trans (J.mono (Aa HB).size)⟩
mutual
theorem Nd.preN_in{W:World}(most:Nat):∀(d:Nd) (lv:Nat),d.In W→Ov d.bare→∀x∈d.preN most lv,x.2.In W∧(∀r,x.2.blk r→d.blk r)∧Ov x.2.bare
 | .mk k t ka kc ks da dc ds l,lv,h,ho,x,hx=>by
  unfold Nd.preN at hx;split at hx
  ·simp at hx
  ·rcases zW.1 hx with rfl|hx
   ·exact⟨h,fun r hr=>hr,ho⟩
   ·have hk:=h.kids;simp only[Nd.da,Nd.kids]at hk;unfold Nd.bare Ov at ho;obtain⟨a,b,c⟩:=Qo most ds (lv+1) da 0 hk ho.2.2.2.2 x hx;exact⟨a,fun r hr=>by rw[Ob];exact .inr (.inr (b r hr)),c⟩
theorem Qo{W:World}(most:Nat):∀(ds:List Nd) (lv:Nat) (a:Option Addr) (i:Nat),InL W a i ds→Ow (Ay ds)→∀x∈Br most lv ds,x.2.In W∧(∀r,x.2.blk r→blkL r ds)∧Ov x.2.bare
 | [],lv,a,i,h,ho,x,hx=>by simp[Br]at hx
 |d::ds,lv,a,i,h,ho,x,hx=>by
  unfold Br at hx;simp only[InL]at h;unfold Ay Ow at ho;rcases zG.1 hx with hx|hx
  ·obtain⟨p,q,r⟩:=Nd.preN_in most d lv h.2.1 ho.1 x hx;exact⟨p,fun g hg=>.inl (q g hg),r⟩
  ·obtain⟨p,q,r⟩:=Qo most ds lv a (i+1) h.2.2 ho.2 x hx;exact⟨p,fun g hg=>.inr (q g hg),r⟩
end
theorem Pz{L:List (Nat × P20.T)}{i:Nat}{x:Nat × P20.T}(h:P20.firstE (L.take i)=0)(hx:L[i]?=some x)(hn:P20.nodeE x.1 x.2≠0):P20.firstE L=P20.nodeE x.1 x.2:=by
 obtain⟨hl,I⟩:=qI.1 hx
 have e:L=L.take i++x::L.drop (i+1):=by
  have h2:=zI i L;rw[qL hl,I]at h2;exact h2.symm
 rw[e,P20.firstE_append,if_neg (by simpa using h)];simp only[P20.firstE];rw[if_pos hn]
theorem Vj{L:List (Nat × P20.T)}{i:Nat}{x:Nat × P20.T}(h:P20.firstE (L.take i)=0)(hx:L[i]?=some x)(hn:P20.nodeE x.1 x.2=0):P20.firstE (L.take (i+1))=0:=by
 rw[List.take_add_one,hx,P20.firstE_append,if_neg (by simpa using h)];simp[P20.firstE,hn]
theorem C4{P:Program}(w:World)(a:Addr)(ty:TypeId)(v:Value)(d:TypeDesc)(hu:P.underlying ty=some d)(hd:(match d with | .struct _ | .array _ _=>true|_=>false)=false)(hc:w.cell? a=some v) :
  (loadVar ty a).run P w=.ok v w:=by
 have I:(isAgg ty).run P w=.ok false w:=by
  unfold isAgg;rw[Sem.run_bind,run_underlying hu w];cases d<;>simp_all
 simp[loadVar,Sem.run_bind,I,hc,go_sem]
theorem Ah{fn:Func}{p:Tmp}{t:TypeId}(h:fn.results=#[.cell p t])(tmps:Array Value)(P:Program)(w:World)(g:Nat)(v:Value)
  (hp:tmps.getD p undef=.pointer (some ⟨g,0,none⟩)) (hl:(loadVar t ⟨g,0,none⟩).run P w=.ok v w):(results fn tmps).run P w=.ok v w:=by
 have I:tmps[p]?.getD undef=.pointer (some ⟨g,0,none⟩):=by simpa using hp
 simp[results,h,I,asAddr,Sem.run_bind,Result.andThen,hl]
theorem Pc(d:Nd)(w:World)(bD:d.In w)(cC:Ov d.bare) :
  Calls Tryz.prog 171 #[d.val] w fun e w'=>e=.returned (.int .i64 (d.bare.check 1))∧Below w.heap.size w w':=by
 obtain⟨k,t,ka,kc,ks,da,dc,ds,ln⟩:=d;obtain⟨L,hL⟩:=qeX ((Nd.mk k t ka kc ks da dc ds ln).preN 17 1);have aW:(Nd.mk k t ka kc ks da dc ds ln).bare.check 1=P20.firstE (L.map Fh):=by rw[←P20.T.check_pre _ 1 (by omega),←Nd.preN_bare,hL]
 have aU:=Nd.preN_in 17 _ 1 bD cC;rw[hL]at aU;rw[aW,Nd.val_eq];obtain⟨J,hh⟩:=qeX w.heap.size;have HL:=Ab hL;have bM:=fun r (hr:(Nd.mk k t ka kc ks da dc ds ln).blk r)=>bD.lt hr;rw[hh]at bM;have cQ:=Ab bD;have cH:=Ab bM;have bW:=Ab aU;clear hL bD bM aW aU cC;obtain⟨⟨k0,_⟩,⟨k1,_⟩,⟨k2,_⟩,⟨k3,_⟩,⟨k4,_⟩⟩:=Al (qB w (.cells #[.int .u8 k,.string ⟨t.toArray⟩,.slice ka ks.length kc,.slice da ds.length dc,.int .i64 ln] 61));refine(callsIn_wide (n:=40)).1 ?_;refine callsIn_of_wp_marks Tryz.func171 rfl trivial ?_ rfl;simp only[Tryz.ntmps171,zE,qE,qP,Nat.reduceAdd,Nat.reduceSub,Array.replicate_succ,Array.replicate_zero,List.push_toArray,List.append_toArray,zR,zQ]
 gi_wp2_with (refine⟨trivial,?_⟩;gi_at_call 201;refine(callsIn_wide.2 (Nb k t ka kc ks da dc ds ln 17 _)).mono ?_;rintro e w' ⟨rfl,rfl⟩)
 obtain⟨W2,cI,cR,g0,g1,g2,g3,aK⟩:=To w (.cells #[.int .u8 k,.string ⟨t.toArray⟩,.slice ka ks.length kc,.slice da ds.length dc,.int .i64 ln] 61) (.cells #[.int .i64 0] 29)
  (.cells #[.int .u8 k,.string ⟨t.toArray⟩,.slice ka ks.length kc,.slice da ds.length dc,.int .i64 ln] 61) (.cells #[.int .i64 17] 3) J hh
 rw[cI];clear cI k0 k1 k2 k3 k4;have bX:(Nd.mk k t ka kc ks da dc ds ln).In W2:=(Aa cQ).below (by rw[hh];exact aK)
 have cB:=fun(V:World) (hg:W2.grownBy V none)=>by
  have:=G4 (40-1) 17 (J+1+1+1) (J+1+1) k t ka kc ks da dc ds ln (fun r=>r<J) (fun r=>r=J+1+1+1) V (by omega) ((hg.block _ (by omega) (by simp)).trans g3) ((hg.block _ (by omega) (by simp)).trans g2)
   (bX.grown hg (fun r e=>by cases e)) (fun r hr=>(Aa cH) r hr) (fun r hr=>by have:=hg.size;omega) rfl
  rw[Aa HL]at this;exact this
 refine Bu rfl (by omega) (gf:=224) (lb:=#[.pointer (some ⟨J+1+1+1,0,none⟩),.pointer (some ⟨J+1+1,0,none⟩)]) rfl trivial (enters_of Tryz.func224 (by kernel_rfl) rfl)
  (encs:=Se) L (fun r=>r<J) (fun r=>r=J+1+1+1) (fun r hr=>by omega)
  (fun V hg _=>cB V hg) (fun _=>rfl)
  (fun i M V=>Fu J (J+1) w 29 (.int .i64 0) M V∧P20.firstE ((L.map Fh).take i)=0)
  (fun c i M V=>c=.ret∧Fu J (J+1) w 29 (.int .i64 (P20.firstE (L.map Fh))) M V)
  (fun i M V V' row hi hg hr=>⟨hi.1.abides (by omega) hg hr,hi.2⟩) (fun c i M V V' row hi hg hr=>⟨hi.1,hi.2.abides (by omega) hg hr⟩)
  (fun i M V hi r hr=>⟨(hi.1.ms r hr).2,by have:=(hi.1.ms r hr).1;omega⟩)
  (fun r=>r=J+1) (fun r hr=>by subst hr;exact⟨by omega,by omega,by omega⟩)
  ⟨⟨rfl,fun r hr=>by subst hr;exact⟨qJ _,by omega⟩,g1,aK⟩,rfl⟩
  (fun i x M a' V=>Fu J (J+1) w 29 (.int .i64 0) M V∧P20.firstE ((L.map Fh).take i)=0∧∃g,M g∧J+4≤g∧V.heap[g]?=some (.cells #[.int .u8 x.2.kind,.string ⟨x.2.text.toArray⟩,x.2.kV,x.2.dV,.int .i64 x.2.line] 61) ∧
   a'={ tmps:=#[.agg #[.int .u8 k,.string ⟨t.toArray⟩,.slice ka ks.length kc,.slice da ds.length dc,.int .i64 ln],qP0 J,.pointer (some ⟨J+1,0,none⟩),.int .i64 x.1,qP0 g,undef,undef,.agg #[.int .u8 k,.string ⟨t.toArray⟩,.slice ka ks.length kc,.slice da ds.length dc,.int .i64 ln],
    .func (.func 224) #[] #[.pointer (some ⟨J+1+1+1,0,none⟩),.pointer (some ⟨J+1+1,0,none⟩)],.int .i64 x.1,x.2.val,undef,undef,undef,undef,undef,undef,undef,undef,undef,undef,undef,undef,undef,undef,undef,undef,undef,undef,undef,undef,undef,undef,undef,undef,undef,undef,undef],defers:=[] })
  ?hB ?assign ?body ?done ?stop
 case hB=>
  rintro i x M a' V V' row ⟨hi,h0,g,bU,cF,aJ,rfl⟩ hg hr;exact⟨hi.abides (by omega) hg hr,h0,g,bU,cF,(hg.block g (qA.1 aJ).1 (fun e=>(hr g e.symm).1 bU)).trans aJ,rfl⟩
 case assign=>
  rintro l2 i ⟨lv,nd⟩ M V K hx ⟨hi,h0⟩ hV hK;obtain⟨k',t',aB,aA,ks',aE,aG,ds',aC⟩:=nd;unfold Se;simp only[Nd.val_eq];have aZ:=qQ V (.cells #[.int .u8 k',.string ⟨t'.toArray⟩,.slice aB ks'.length aA,.slice aE ds'.length aG,.int .i64 aC] 61) none
  have bZ:=hK (fun r=>M r∨r=V.heap.size) _ (V.alloc (.cells #[.int .u8 k',.string ⟨t'.toArray⟩,.slice aB ks'.length aA,.slice aE ds'.length aG,.int .i64 aC] 61)) aZ (fun r hr=>hr.imp id (fun e=>by omega))
   ⟨⟨.inl hi.m,fun r hr=>by
     rcases hr with hr|rfl
     ·have:=hi.ms r hr;simp;omega
     ·have:=(qA.1 hi.cell).1;simp;omega,(aZ.block _ (qA.1 hi.cell).1 (by simp)).trans hi.cell,hi.below.grown aZ (by have:=(qA.1 hi.cell).1;omega) (fun k e=>by cases e)⟩,h0,
    V.heap.size,.inr rfl,by omega,qB V _,rfl⟩
  have HK:=Ab bZ;clear bZ hK aZ
  gi_wp2
  exact Aa HK
 case body=>
  rintro l2 i ⟨lv,nd⟩ M a' V hx ⟨hi,h0,g,bU,cF,aJ,rfl⟩ hV;obtain⟨aS,bI,bF⟩:=Aa bW _ (qN hx);obtain⟨k',t',aB,aA,ks',aE,aG,ds',aC⟩:=nd;simp only[Nd.kind,Nd.text,Nd.kV,Nd.dV,Nd.keys,Nd.kids,Nd.ka,Nd.kc,Nd.da,Nd.dc,Nd.line]at aJ;simp only[Nd.val_eq];obtain⟨⟨c0,_⟩,⟨c1,_⟩,⟨c2,_⟩,⟨c3,_⟩,⟨c4,_⟩⟩:=Al aJ;obtain⟨e0,f0⟩:=A8 hi.cell;have bJ:(L.map Fh)[i]?=some (lv,(Nd.mk k' t' aB aA ks' aE aG ds' aC).bare):=by rw[zJ,hx];rfl
  have bG:(Nd.mk k' t' aB aA ks' aE aG ds' aC).In V:=aS.keep (fun r hr=>hi.below.block r (Aa cH r (bI r hr)))
  have aH:∀V',Below V.heap.size V V'→Fu J (J+1) w 29 (.int .i64 0) M V'∧Aj M V M V':=fun V' hb=>
   ⟨hi.abides (by omega) (A4 hb none) (fun r e=>by cases e),.grown (A4 hb none) (fun r e=>by cases e)⟩
  have aN:∀(A:Act) V' e,e=P20.nodeE lv (Nd.mk k' t' aB aA ks' aE aG ds' aC).bare→e≠0→Below V.heap.size V V'→Qn (fun i M V=>Fu J (J+1) w 29 (.int .i64 0) M V∧P20.firstE ((L.map Fh).take i)=0)
    (fun c i M V=>c=.ret∧Fu J (J+1) w 29 (.int .i64 (P20.firstE (L.map Fh))) M V) i M V .ret A (V'.setCell ⟨J+1,0,none⟩ (.int .i64 e)):=fun A V' e he hn hb=>by
   obtain⟨h1,h2⟩:=aH V' hb;refine⟨M,h2.trans (.grown (grownBy_setCell' V' (J+1) _) (fun r e=>by cases e;exact .inl h1.m)),rfl,?_⟩;rw[Pz h0 bJ (by rw[←he];exact hn),←he];exact h1.set (by omega) _
  have bV:P20.nodeE lv (Nd.mk k' t' aB aA ks' aE aG ds' aC).bare=0→∀(A:Act) V',Below V.heap.size V V'→Qn (fun i M V=>Fu J (J+1) w 29 (.int .i64 0) M V∧P20.firstE ((L.map Fh).take i)=0)
    (fun c i M V=>c=.ret∧Fu J (J+1) w 29 (.int .i64 (P20.firstE (L.map Fh))) M V) i M V .normal A V':=fun he A V' hb=>by
   obtain⟨h1,h2⟩:=aH V' hb;exact⟨M,h2,h1,Vj h0 bJ he⟩
  have aX:P20.nodeE lv (Nd.mk k' t' aB aA ks' aE aG ds' aC).bare=if 16<lv then 11 else if k'<1∨3<k' then 7 else if P20.oddB k' t' ks'.length ds'.length=true then 3 else if P03.check t' 4096≠0 then P03.check t' 4096 else P20.keysE [] ks':=by
   simp only[Nd.bare,P20.nodeE,Cp]
  rw[aX]at aN bV;unfold Nd.bare Ov at bF;obtain⟨o1,o2,o3,o4,_⟩:=bF;rw[Cp]at o4;have aT:=bG.fit;have aQ:=aT.keys;have bL:=aT.keysC;simp only[Nd.keys,Nd.ka,Nd.kc]at aQ bL;have cJ:=fun V=>Vs k' t' aB aA ks'.length aE aG ds'.length aC V o2 o4;have bT:=fun V=>Gj ⟨t'.toArray⟩ 4096 V (by rw[zY];show t'.length≤1100000;omega);simp only[Do]at bT;have cA:=fun V' (hb:Below V.heap.size V V')=>Sr aB aA ks' V' (aQ.below hb) bL o2 o3;have aL:=(qA.1 aJ).1;have cL:=fun V' (hb:Below V.heap.size V V')=>(aH V' hb).1.cell;have HS:=Ab aN;have cO:=Ab bV;have bC:=Ab cJ;have bK:=Ab bT;have cG:=Ab cA;have aO:=Ab aJ;have aD:=Ab cL;clear aN bV cJ bT cA aJ cL aH aX aT aQ bL bG bJ aS bI h0 hi hx o1 o2 o3 o4;by_cases n1:16<lv
  ·have j1:(16:Int)<(lv:Int):=by omega
   have hn:16<lv:=n1;clear n1
   gi_wp2
   exact Aa HS _ V 11 (by rw[if_pos hn]) (by decide) (qU _ _)
  have j1:(lv:Int)≤16:=by omega
  have aR:=Ab n1;clear n1;by_cases n2:k'<1∨3<k'
  ·have aM:=Ab n2;rcases n2 with n2|n2
   ·have j2:(k':Int)<1:=by omega
    clear n2
    gi_wp2
    exact Aa HS _ V 7 (by rw[if_neg (Aa aR),if_pos (Aa aM)]) (by decide) (qU _ _)
   ·have j2:(1:Int)≤(k':Int):=by omega
    have j3:(3:Int)<(k':Int):=by omega
    clear n2
    gi_wp2
    exact Aa HS _ V 7 (by rw[if_neg (Aa aR),if_pos (Aa aM)]) (by decide) (qU _ _)
  have j2:(1:Int)≤(k':Int):=by omega
  have j3:(k':Int)≤3:=by omega
  have aM:=Ab n2;clear n2;obtain⟨bo,cK⟩:=qeX (P20.oddB k' t' ks'.length ds'.length);have HO:=Ab cK;clear cK;cases bo
  rotate_left
  ·gi_wp2_with (first
    | (refine⟨trivial,?_⟩;gi_at_call 202;refine(CallsIn.inRound l2 (callsIn_wide.2 (Aa bC _))).mono ?_;rintro e w1 ⟨rfl,Z⟩;rw[Aa HO];obtain⟨⟨q0,_⟩,⟨q1,_⟩,⟨q2,_⟩,⟨q3,_⟩,⟨q4,_⟩⟩:=Al ((Z.block g aL).trans (Aa aO));obtain⟨p0,p1⟩:=A8 (Aa aD _ Z)))
   exact Aa HS _ w1 3 (by rw[if_neg (Aa aR),if_neg (Aa aM),if_pos (Aa HO)]) (by decide) Z
  have bO:=Ab (nb (Aa HO));obtain⟨ec,bE⟩:=qeX (P03.check t' 4096);by_cases n4:ec=0
  rotate_left
  ·have j4:(ec != 0)=true:=by simpa using n4
   have HC:=Ab bE;have bY:=Ab n4;clear bE n4
   gi_wp2_with (first
    |(refine⟨trivial,?_⟩;gi_at_call 202;refine(CallsIn.inRound l2 (callsIn_wide.2 (Aa bC _))).mono ?_;rintro e w1 ⟨rfl,Z⟩;rw[Aa HO];obtain⟨⟨q0,_⟩,⟨q1,_⟩,⟨q2,_⟩,⟨q3,_⟩,⟨q4,_⟩⟩:=Al ((Z.block g aL).trans (Aa aO));obtain⟨p0,p1⟩:=A8 (Aa aD _ Z))
    | (refine⟨trivial,?_⟩;gi_at_call 128;refine(CallsIn.inRound l2 (callsIn_wide.2 (Aa bK _))).mono ?_;rintro e w2 ⟨rfl,aK⟩;rw[Aa HC];have I:=Z.trans (aK.mono Z.size);obtain⟨⟨q0,_⟩,⟨q1,_⟩,⟨q2,_⟩,⟨q3,_⟩,⟨q4,_⟩⟩:=Al ((I.block g aL).trans (Aa aO));obtain⟨p0,p1⟩:=A8 (Aa aD _ I)))
   exact Aa HS _ w2 ec (by rw[if_neg (Aa aR),if_neg (Aa aM),if_neg (Aa bO),if_pos (by rw[Aa HC];exact Aa bY),Aa HC]) (Aa bY) I
  subst n4;have HC:=Ab bE;clear bE;have cD:=Ab (show ¬P03.check t' 4096≠0 by rw[Aa HC];simp);obtain⟨ek,aY⟩:=qeX (P20.keysE [] ks');by_cases n5:ek=0
  rotate_left
  ·have j5:(ek != 0)=true:=by simpa using n5
   have HK:=Ab aY;have cP:=Ab n5;clear aY n5
   gi_wp2_with (first
    |(refine⟨trivial,?_⟩;gi_at_call 202;refine(CallsIn.inRound l2 (callsIn_wide.2 (Aa bC _))).mono ?_;rintro e w1 ⟨rfl,Z⟩;rw[Aa HO];obtain⟨⟨q0,_⟩,⟨q1,_⟩,⟨q2,_⟩,⟨q3,_⟩,⟨q4,_⟩⟩:=Al ((Z.block g aL).trans (Aa aO));obtain⟨p0,p1⟩:=A8 (Aa aD _ Z))
    |(refine⟨trivial,?_⟩;gi_at_call 128;refine(CallsIn.inRound l2 (callsIn_wide.2 (Aa bK _))).mono ?_;rintro e w2 ⟨rfl,aK⟩;rw[Aa HC];have I:=Z.trans (aK.mono Z.size);obtain⟨⟨q0,_⟩,⟨q1,_⟩,⟨q2,_⟩,⟨q3,_⟩,⟨q4,_⟩⟩:=Al ((I.block g aL).trans (Aa aO));obtain⟨p0,p1⟩:=A8 (Aa aD _ I))
    | (refine⟨trivial,?_⟩;gi_at_call 203;refine(CallsIn.inRound l2 (callsIn_wide.2 (Aa cG _ I))).mono ?_;rintro e w3 ⟨rfl,bQ⟩;rw[Aa HK];have aI:=I.trans (bQ.mono I.size);obtain⟨p0,p1⟩:=A8 (Aa aD _ aI)))
   exact Aa HS _ w3 ek (by rw[if_neg (Aa aR),if_neg (Aa aM),if_neg (Aa bO),if_neg (Aa cD),Aa HK]) (Aa cP) aI
  subst n5;have HK:=Ab aY;clear aY
  gi_wp2_with (first
   |(refine⟨trivial,?_⟩;gi_at_call 202;refine(CallsIn.inRound l2 (callsIn_wide.2 (Aa bC _))).mono ?_;rintro e w1 ⟨rfl,Z⟩;rw[Aa HO];obtain⟨⟨q0,_⟩,⟨q1,_⟩,⟨q2,_⟩,⟨q3,_⟩,⟨q4,_⟩⟩:=Al ((Z.block g aL).trans (Aa aO));obtain⟨p0,p1⟩:=A8 (Aa aD _ Z))
   |(refine⟨trivial,?_⟩;gi_at_call 128;refine(CallsIn.inRound l2 (callsIn_wide.2 (Aa bK _))).mono ?_;rintro e w2 ⟨rfl,aK⟩;rw[Aa HC];have I:=Z.trans (aK.mono Z.size);obtain⟨⟨q0,_⟩,⟨q1,_⟩,⟨q2,_⟩,⟨q3,_⟩,⟨q4,_⟩⟩:=Al ((I.block g aL).trans (Aa aO));obtain⟨p0,p1⟩:=A8 (Aa aD _ I))
   | (refine⟨trivial,?_⟩;gi_at_call 203;refine(CallsIn.inRound l2 (callsIn_wide.2 (Aa cG _ I))).mono ?_;rintro e w3 ⟨rfl,bQ⟩;rw[Aa HK];have aI:=I.trans (bQ.mono I.size);obtain⟨p0,p1⟩:=A8 (Aa aD _ aI)))
  exact Aa cO (by rw[if_neg (Aa aR),if_neg (Aa aM),if_neg (Aa bO),if_neg (Aa cD),Aa HK]) _ w3 aI
 case done=>
  rintro D M V rfl cN ⟨hi,h0⟩ hK;have hz:P20.firstE (L.map Fh)=0:=by rw[←h0,List.take_of_length_le (by simp)]
  have HZ:=Ab hz;obtain⟨c0,f0⟩:=A8 hi.cell;have HI:=Ab hi;clear hi hz h0
  gi_wp2
  have hI:=(Aa HI).set (by omega) (.int .i64 0);have cM:(V.setCell ⟨J+1,0,none⟩ (.int .i64 0)).heap[W2.heap.size]?=some (.deferred (some [])):=(qC _ _ _ _ (by show W2.heap.size≠J+1;omega)).trans hK;refine⟨by simp,.inl ⟨_,_,rfl,run_takeDeferred cM,?_⟩⟩;have aP:=(World.putObj_heap_other (o:=.deferred none) (show J+1≠W2.heap.size by omega)).trans hI.cell;refine⟨_,Ah rfl _ _ _ (J+1) _ rfl (C4 _ _ _ _ _ Tryz.underlying29 rfl (A8 aP).1),by rw[Aa HZ],?_⟩;rw[hh];exact hI.below.grown (grownBy_putObj' _ W2.heap.size (.deferred none)) (by have:=(qA.1 hI.cell).1;omega) (fun k e=>by cases e;omega)
 case stop=>
  rintro D c i M V rfl cN hi ⟨rfl,hI⟩ hK
  gi_wp2
  refine⟨by simp,.inl ⟨_,_,rfl,run_takeDeferred hK,?_⟩⟩;have aP:=(World.putObj_heap_other (o:=.deferred none) (show J+1≠W2.heap.size by omega)).trans hI.cell;refine⟨_,Ah rfl _ _ _ (J+1) _ rfl (C4 _ _ _ _ _ Tryz.underlying29 rfl (A8 aP).1),rfl,?_⟩;rw[hh];exact hI.below.grown (grownBy_putObj' _ W2.heap.size (.deferred none)) (by have:=(qA.1 hI.cell).1;omega) (fun k e=>by cases e;omega)
end Go.Proofs.YtefokfbgpfcbkaaGreat
namespace Go.Proofs.YtefokfbgpfcbkaaGreat
open Go.RowKit Go.Deep Go.ChangeShapes
theorem Ck{W:World}{a:Addr}{v:Value}(h:W.cell? a=some v):∃b o,a=⟨b,o,none⟩:=by
 obtain⟨Z,J,I⟩:=a;cases I with
 |none=>exact⟨Z,J,rfl⟩
 |some q=>
  unfold World.cell? at h;split at h
  ·simp at h
  ·cases h
theorem Cc(a:Addr):a.add 0=a:=by simp[Addr.add]
theorem B7(b o x:Nat):Addr.add ⟨b,o,none⟩ x=⟨b,o+x,none⟩:=by
 unfold Addr.add;split<;>simp_all
theorem Dr(s:ByteArray):(⟨s.data.toList.toArray⟩:ByteArray)=s:=by cases s;rfl
theorem Cq(s:ByteArray):s.data.toList.length=s.size:=(zY s).symm
theorem Ym{H:Type}{enc:TypeId × Value→H}{W:World}{I:Nat}{cs:List Value}{x:DataW H × List MemPlace}(h:DataW.trod enc Tryz.prog W 0 (fun _=>true) true I 56 cs=some x) :
  ∃(a:Option Addr) (ks:List (List UInt8)) (c:Nat),cs=[.slice a ks.length c]∧ks.length≤c∧ks.length≤maxLen∧(∀y∈ks,y.length≤maxLen)∧Ft W a ks:=by
 rcases open_strs Tryz.underlying56 Tryz.underlying9 (by kernel_rfl) h with⟨rfl,_⟩|⟨a,len,cap,m,J,rfl,_,hl,hc,hm,_,hx⟩
 ·exact⟨none,[],0,rfl,qJ _,Nat.zero_le _,fun y hy=>by simp at hy,fun i y hy=>by simp at hy⟩
 have Z:len≤m:=by rw[hm,if_pos rfl];exact hl
 refine⟨some a,(List.range len).map (fun i=>(J i).data.toList),cap,by simp,by simpa using hl,by simp;omega,fun y hy=>?_,fun i y hy=>?_⟩
 ·obtain⟨i,hi,rfl⟩:=List.mem_map.1 hy;have hi:=List.mem_range.1 hi;have:=(hx i (by omega)).2;rw[Cq];exact this
 ·have hi:i<len:=by have:=(qI.1 hy).1;simpa using this
  rw[zJ,List.getElem?_range hi]at hy;simp only[Option.map_some,zK]at hy;subst hy;have h0:=(hx 0 (by omega)).1;rw[Cc]at h0;obtain⟨b,o,rfl⟩:=Ck h0;have h1:=(hx i (by omega)).1;rw[B7]at h1;exact⟨b,o,rfl,by rw[h1,Dr]⟩
theorem R6{p:Nat→Nd→Prop}{n:Nat}(h:∀i,i<n→∃x,p i x):∃f:Nat→Nd,∀i,i<n→p i (f i):=by
 refine⟨fun i=>if hi:i<n then Classical.choose (h i hi) else Nd.zero,fun i hi=>?_⟩;simp only[hi,dif_pos];exact Classical.choose_spec (h i hi)
theorem Vw{H:Type}{enc:TypeId × Value→H}{W:World}:∀(J:Nat) (cs:List Value) (x:DataW H × List MemPlace),DataW.trod enc Tryz.prog W 0 (fun _=>true) true J 61 cs=some x→∃nd:Nd,cs=nd.cs∧nd.In W:=by
 intro J
 induction J using Nat.strongRecOn with
 |ind J ih=>
  intro cs x h;obtain⟨xs,n,aQ,_,hl,aA,hf⟩:=DataW.trod_struct Tryz.underlying61 h;have aC:Tryz.prog.cellsOf 61=5:=by kernel_rfl
  have aI:Tryz.prog.cellsOf 5=1:=by kernel_rfl
  have aK:Tryz.prog.cellsOf 3=1:=by kernel_rfl
  have aJ:Tryz.prog.cellsOf 9=1:=by kernel_rfl
  have aN:Tryz.prog.cellsOf 56=1:=by kernel_rfl
  have aB:Tryz.prog.cellsOf 59=1:=by kernel_rfl
  rw[aC]at hl
  match cs,hl with
  | [c0,c1,c2,c3,c4],_=>
   match xs,aA with
   | [y0,y1,y2,y3,y4],_=>
    have g0:=hf 0 _ rfl;have g1:=hf 1 _ rfl;have g2:=hf 2 _ rfl;have g3:=hf 3 _ rfl;have g4:=hf 4 _ rfl;simp only[aI,aK,aJ,aN,aB,List.drop_zero,List.drop_succ_cons,List.take_succ_cons,List.take_zero,zF,List.getElem?_cons_succ]at g0 g1 g2 g3 g4;obtain⟨k0,e0,_,w0⟩:=DataW.trod_int Tryz.underlying5 g0;obtain⟨t,e1,_,w1⟩:=DataW.trod_string Tryz.underlying9 g1;obtain⟨ka,ks,kc,e2,q1,q2,q3,q4⟩:=Ym g2;obtain⟨l,e4,_,w4⟩:=DataW.trod_int Tryz.underlying3 g4
    have Z:∃(da:Option Addr) (ds:List Nd) (dc:Nat),[c3]=[Value.slice da ds.length dc]∧ds.length≤dc∧ds.length≤maxLen∧InL W da 0 ds:=by
     rcases DataW.trod_slice Tryz.underlying59 g3 with⟨e3,_⟩|⟨a,len,cap,aM,rest,m,hm,e3,_,_,aL,aS,aP,aG,_,_⟩
     ·exact⟨none,[],0,e3,qJ _,Nat.zero_le _,trivial⟩
     have aE:∀i,i<len→∃d:Nd,W.cells? 0 (a.add (i*5)) 5=some d.cs∧d.In W:=by
      intro i hi;have h1:=aG i hi;rw[aC,qO (by omega)]at h1;obtain⟨aH,h2,h3⟩:=Option.bind_eq_some_iff.1 h1;obtain⟨d,rfl,hd⟩:=ih m (by omega) aH _ h3;exact⟨d,h2,hd⟩
     obtain⟨f,aD⟩:=R6 aE;refine⟨some a,(List.range len).map f,cap,by simpa[aB]using e3,by simpa using aL,by simp;omega,On (fun j d hj=>?_)⟩;have hi:j<len:=by have:=(qI.1 hj).1;simpa using this
     rw[zJ,List.getElem?_range hi]at hj;simp only[Option.map_some,zK]at hj;subst hj;obtain⟨h0,hd⟩:=aD j hi;obtain⟨hz,_⟩:=aD 0 (by omega);obtain⟨_,_,z0⟩:=World.cells?_some hz;have z1:=z0 0 (by simp[Nd.cs]);rw[Nat.zero_mul,Cc,Cc]at z1;rw[qO (by simp[Nd.cs])]at z1;obtain⟨b,o,rfl⟩:=Ck z1;obtain⟨_,_,I⟩:=World.cells?_some h0;have d0:=I 0 (by omega);have d1:=I 1 (by omega);have d2:=I 2 (by omega);have d3:=I 3 (by omega);have d4:=I 4 (by omega);rw[B7,B7]at d0 d1 d2 d3 d4;simp only[Nd.cs,zF,List.getElem?_cons_succ]at d0 d1 d2 d3 d4;refine⟨⟨b,o,rfl,?_⟩,hd⟩;rw[Nat.zero_add];exact⟨d0,d1,d2,d3,d4⟩
    obtain⟨da,ds,dc,e3,r1,r2,r3⟩:=Z;injection e0 with e0;injection e1 with e1;injection e2 with e2;injection e3 with e3;injection e4 with e4;subst e0;subst e1;subst e2;subst e3;subst e4;simp only[Lit.wf,Bool.and_eq_true,decide_eq_true_eq]at w0;have aO:(0:Int)≤k0:=w0.1;have aR:k0≤255:=w0.2;obtain⟨k,rfl⟩:∃k:Nat,k0=k:=⟨k0.toNat,by omega⟩;refine⟨.mk k t.data.toList ka kc ks da dc ds l,by simp[Nd.cs,Nd.kind,Nd.text,Nd.kV,Nd.dV,Nd.ka,Nd.kc,Nd.keys,Nd.da,Nd.dc,Nd.kids,Nd.line,Dr],.mk ⟨by show k<256;omega,by show t.data.toList.length≤maxLen;rw[Cq];exact w1,q2,r2,q1,r1,q3,q4⟩ r3⟩
open Go.RowKit
def T9(d:Nd):Prop:=∀(e:Nd) (w:World),d.In w→e.In w→Calls Tryz.prog 200 #[d.val,e.val] w fun x w'=>x=.returned (.bool (d.bare.same e.bare))∧Below w.heap.size w w'
theorem Zl(a a':Option Addr)(c c':Nat)(ds es:List Nd)(w:World)(h:InL w a 0 ds)(h':InL w a' 0 es)(hl:ds.length≤maxLen)(aJ:es.length≤maxLen)(hc:∀d∈ds,T9 d) :
  Calls Tryz.prog 223 #[.slice a ds.length c,.slice a' es.length c',.func (.func 200) #[] #[]] w fun x w'=>
   x=.returned (.bool (P20.sameL (Ay ds) (Ay es)))∧Below w.heap.size w w':=by
 unfold maxLen at hl aJ;by_cases hn:ds.length=es.length
 ·obtain⟨n,hN⟩:=qeX ds.length;rw[←hn,hN];rw[hN]at hl;have HN:=Ab hN;have HE:=Ab (hn.symm.trans hN);have HI:=Ab h;have aP:=Ab h';have HC:=Ab hc;clear hN hn h h' hc aJ;go_enter Tryz.func223,Tryz.ntmps223
  go_wp2
  go_loopg [17] n (fun g aO wx=>∃i:Nat,i+g=n∧aO=.int .i64 i∧Hid (P20.sameL (Ay ds) (Ay es)=P20.sameL (Ay (ds.drop i)) (Ay (es.drop i)))∧Hid (Below w.heap.size w wx))
  case atStart=>exact⟨0,by omega,by go_num,Ab rfl,Ab (qU _ _)⟩
  case round=>
   obtain⟨i,aY,rfl,HS,HB⟩:=hrel;cases gk with
   |zero=>
    have e1:(n:Int)=(i:Int):=by omega
    have e2:i=n:=by omega
    have HQ:=Ab e2;clear e2;go_wp2;go_ret;refine⟨Ao ?_,Aa HB⟩;rw[Aa HS,Aa HQ,qM (by rw[Aa HN];omega),qM (by rw[Aa HE];omega)];rfl
   |succ g'=>
    have bF:(i:Int)<(n:Int):=by omega
    have bE:IntKind.i64.wrap ((i:Int)+1)=(i:Int)+1:=qG _ (by omega);obtain⟨d,I⟩:=Ap (Aa HN) (show i<n by omega);obtain⟨e,aC⟩:=Ap (Aa HE) (show i<n by omega);have aH:=Ev I;have aK:=Ev aC;have hS:=Aa HS;rw[aH,aK]at hS;simp only[P20.sameL]at hS;have hB:=Aa HB;have Z:=Aa HC d (qN I) e;obtain⟨b,o,k,t,ka,kc,ks,da,dc,aT,l,rfl,rfl,c0,c1,c2,c3,c4,aI⟩:=Ds ((Aa HI).below hB) I;obtain⟨b',o',k',t',aS,aN,ks',aQ,aR,aG,l',rfl,rfl,aM,bC,aW,aU,aX,J⟩:=Ds ((Aa aP).below hB) aC;obtain⟨r,hr⟩:=qeX ((Nd.mk k t ka kc ks da dc aT l).bare.same (Nd.mk k' t' aS aN ks' aQ aR aG l').bare);have aA:=fun W (hb:Below wr.heap.size wr W)=>Z W (aI.below hb) (J.below hb);rw[hr]at hS aA;clear Z;have aL:=Ab aA;have aD:=Ab hS;have bD:=Ad c0;have aZ:=Ad aM;have aE:=Ab hB;clear aA hS I aC aI J aH aK hB hr HS HB;cases r
    ·go_wp2_with (go_at_call 200;refine(Aa aL _ (((qU _ wr).alloc (qJ _) _).alloc (by simp) _)).mono ?_;rintro x w2 ⟨rfl,aB⟩)
     go_ret;refine⟨Ao ?_,?_⟩
     ·rw[Aa aD];rfl
     ·have hB:=Aa aE;have hz:=hB.size;exact((hB.alloc hz _).alloc (by simp;omega) _).trans (aB.mono (by simp;omega))
    ·go_wp2_with (go_at_call 200;refine(Aa aL _ (((qU _ wr).alloc (qJ _) _).alloc (by simp) _)).mono ?_;rintro x w2 ⟨rfl,aB⟩)
     go_roundg g'
     case measure=>omega
     case rel=>
      have hB:=Aa aE;have hz:=hB.size;exact⟨i+1,by omega,by go_num,Ab (by rw[Aa aD];rfl),Ab (((hB.alloc hz _).alloc (by simp;omega) _).trans (aB.mono (by simp;omega)))⟩
 ·have jn:((ds.length:Int) != (es.length:Int))=true:=by simp;omega
  have hr:P20.sameL (Ay ds) (Ay es)=false:=by
   cases hb:P20.sameL (Ay ds) (Ay es)with
   |false=>rfl
   |true=>have:=P20.sameL_len hb;rw[Cp,Cp]at this;exact absurd this hn
  rw[hr];clear hr hn h h' hc;go_enter Tryz.func223,Tryz.ntmps223
  go_wp2;go_ret;exact⟨rfl,qU _ _⟩
theorem Qbo{k k':Nat}(h:k≠k'):((k:Int)==(k':Int))=false:=by
 rw[beq_eq_false_iff_ne];omega
theorem Wj(k:Nat)(t:List UInt8)(ka:Option Addr)(kc:Nat)(ks:List (List UInt8))(da:Option Addr)(dc:Nat)(ds:List Nd)(l:Int)(aI:∀d∈ds,T9 d):T9 (.mk k t ka kc ks da dc ds l):=by
 intro e w aH aA;obtain⟨k',t',aG,aB,ks',aC,aD,ds',l'⟩:=e;have hf:=aH.fit;have aE:=aA.fit;have e1:=hf.keysL;have e2:=hf.kidsL;have e3:=aE.keysL;have e4:=aE.kidsL;simp only[Nd.keys,Nd.kids]at e1 e2 e3 e4;obtain⟨W,hW⟩:=qeX ((w.alloc (.cells #[.int .u8 k,.string ⟨t.toArray⟩,.slice ka ks.length kc,.slice da ds.length dc,.int .i64 l] 61)).alloc (.cells #[.int .u8 k',.string ⟨t'.toArray⟩,.slice aG ks'.length aB,.slice aC ds'.length aD,.int .i64 l'] 61));have hb:Below w.heap.size w W:=by rw[←hW];exact((qU _ w).alloc (qJ _) _).alloc (by simp) _
 have g0:W.heap[w.heap.size]?=some (.cells #[.int .u8 k,.string ⟨t.toArray⟩,.slice ka ks.length kc,.slice da ds.length dc,.int .i64 l] 61):=by
  rw[←hW];exact(qD _ _ _ (by simp)).trans (qB w _)
 have g1:W.heap[w.heap.size+1]?=some (.cells #[.int .u8 k',.string ⟨t'.toArray⟩,.slice aG ks'.length aB,.slice aC ds'.length aD,.int .i64 l'] 61):=by
  rw[←hW];have:=qB (w.alloc (.cells #[.int .u8 k,.string ⟨t.toArray⟩,.slice ka ks.length kc,.slice da ds.length dc,.int .i64 l] 61)) (.cells #[.int .u8 k',.string ⟨t'.toArray⟩,.slice aG ks'.length aB,.slice aC ds'.length aD,.int .i64 l'] 61);rw[qF]at this;exact this
 obtain⟨⟨x0,_⟩,⟨x1,_⟩,⟨x2,_⟩,⟨x3,_⟩,⟨x4,_⟩⟩:=Al g0;obtain⟨⟨y0,_⟩,⟨y1,_⟩,⟨y2,_⟩,⟨y3,_⟩,⟨y4,_⟩⟩:=Al g1;have I:=Vh ka aG kc aB ks ks' W (Ft.below hf.keys hb) (Ft.below aE.keys hb) e1 e3;have Z:=fun q=>Zl da aC dc aD ds ds' (W.drewN q) (aH.kids.below ⟨hb.os,hb.tape,hb.output,hb.size,hb.block⟩) (aA.kids.below ⟨hb.os,hb.tape,hb.output,hb.size,hb.block⟩) e2 e4 aI;have HW:=Ab hW;have HB:=Ab hb;rw[Nd.val_eq,Nd.val_eq];simp only[Nd.bare,P20.T.same];clear hW g0 g1 aH aA hf aE aI e1 e2 e3 e4 hb;by_cases hk:k=k'
 rotate_left
 ·have jk:=Qbo hk;rw[show (k==k')=false from beq_eq_false_iff_ne.2 hk];clear hk I Z;go_enter Tryz.func200,Tryz.ntmps200
  go_upto_region 1 with fail
  rw[Aa HW];go_wp2;go_ret;exact⟨rfl,Aa HB⟩
 subst hk;by_cases ht:t=t'
 rotate_left
 ·rw[show (k==k)=true from beq_self_eq_true k,show (t==t')=false from beq_eq_false_iff_ne.2 ht];clear I Z;go_enter Tryz.func200,Tryz.ntmps200
  go_upto_region 1 with fail
  rw[Aa HW];go_wp2;go_ret;exact⟨rfl,Aa HB⟩
 subst ht;rw[show (k==k)=true from beq_self_eq_true k,show (t==t)=true from beq_self_eq_true t];by_cases J:ks=ks'
 rotate_left
 ·rw[show (ks==ks')=false from beq_eq_false_iff_ne.2 J];rw[decide_eq_false J]at I;have HE:=Ab I;clear J I Z;go_enter Tryz.func200,Tryz.ntmps200
  go_upto_region 1 with fail
  rw[Aa HW];go_wp2_with (go_at_call 222;refine(Aa HE).mono ?_;rintro x w' ⟨rfl,q,rfl⟩)
  go_ret;exact⟨rfl,Ac (n:=q) (Aa HB)⟩
 ·rw[show (ks==ks')=true from beq_iff_eq.2 J];rw[decide_eq_true J]at I;have HE:=Ab I;have HF:=Ab Z;clear J I Z;go_enter Tryz.func200,Tryz.ntmps200
  go_upto_region 1 with fail
  rw[Aa HW]
  go_wp2_with (first
   |(go_at_call 222;refine(Aa HE).mono ?_;rintro x w' ⟨rfl,q,rfl⟩)
   | (go_at_call 223;refine(Aa HF q).mono ?_;rintro x w2 ⟨rfl,aJ⟩))
  go_ret;exact⟨by simp,(Ac (n:=q) (Aa HB)).trans (aJ.mono (Aa HB).size)⟩
theorem Rv(d e:Nd)(w:World)(h:d.In w)(I:e.In w):Calls Tryz.prog 200 #[d.val,e.val] w fun x w'=>x=.returned (.bool (d.bare.same e.bare))∧Below w.heap.size w w':=
 Nd.ind (p:=T9) Wj d e w h I
end Go.Proofs.YtefokfbgpfcbkaaGreat
