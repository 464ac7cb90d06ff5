/- Lemmas of this claim. -/
import Derived.Sort.CutIn
import Derived.Maps.OwnIn
import Derived.Deep.CutBlock
import Derived.Test.YtnjokdbblmlhhaaGreatDoorGW03Y
import Derived.Deep.Strs
import Derived.Deep.Fields23
set_option linter.unusedVariables false
set_option linter.unusedSimpArgs false
namespace Go.Proofs.YtnjokdbblmlhhaaGreatDoor
set_option maxHeartbeats 8000000
set_option maxRecDepth 100000
open Go.RowKit
inductive Nd where
 |mk (kind:Nat) (text:List UInt8) (ka:Option Addr) (kc:Nat) (keys:List (List UInt8)) (da:Option Addr) (dc:Nat) (kids:List Nd) (line:Int)
def Nd.kind:Nd→Nat | .mk k _ _ _ _ _ _ _ _=>k
def Nd.text:Nd→List UInt8 | .mk _ t _ _ _ _ _ _ _=>t
def Nd.ka:Nd→Option Addr | .mk _ _ a _ _ _ _ _ _=>a
def Nd.kc:Nd→Nat | .mk _ _ _ c _ _ _ _ _=>c
def Nd.keys:Nd→List (List UInt8) | .mk _ _ _ _ ks _ _ _ _=>ks
def Nd.da:Nd→Option Addr | .mk _ _ _ _ _ a _ _ _=>a
def Nd.dc:Nd→Nat | .mk _ _ _ _ _ _ c _ _=>c
def Nd.kids:Nd→List Nd | .mk _ _ _ _ _ _ _ ds _=>ds
def Nd.line:Nd→Int | .mk _ _ _ _ _ _ _ _ l=>l
def Nd.kV(d:Nd):Value:=.slice d.ka d.keys.length d.kc
def Nd.dV(d:Nd):Value:=.slice d.da d.kids.length d.dc
def Nd.cs(d:Nd):List Value:=[.int .u8 d.kind,.string ⟨d.text.toArray⟩,d.kV,d.dV,.int .i64 d.line]
def Nd.val(d:Nd):Value:=.agg #[.int .u8 d.kind,.string ⟨d.text.toArray⟩,d.kV,d.dV,.int .i64 d.line]
mutual
def Nd.bare:Nd→P20.T
 | .mk k t _ _ ks _ _ ds l=>.mk k t ks (Am ds) l
def Am:List Nd→List P20.T
 | []=>[]
 |d::ds=>d.bare::Am ds
end
theorem Ci:∀ds:List Nd,Am ds=ds.map Nd.bare
 | []=>rfl
 |d::ds=>by simp[Am,Ci ds]
theorem Bs(ds:List Nd):(Am ds).length=ds.length:=by rw[Ci,qY]
theorem Cu(a b:List Nd):Am (a++b)=Am a++Am b:=by simp[Ci]
def Eu(W:World)(a:Option Addr)(ks:List (List UInt8)):Prop:=∀i x,ks[i]?=some x→∃b o,a=some ⟨b,o,none⟩∧W.cell? ⟨b,o+i,none⟩=some (.string ⟨x.toArray⟩)
def Gu(W:World)(b o:Nat)(d:Nd):Prop:=
 W.cell? ⟨b,o,none⟩=some (.int .u8 d.kind)∧W.cell? ⟨b,o+1,none⟩=some (.string ⟨d.text.toArray⟩)∧W.cell? ⟨b,o+2,none⟩=some d.kV∧W.cell? ⟨b,o+3,none⟩=some d.dV∧W.cell? ⟨b,o+4,none⟩=some (.int .i64 d.line)
structure Ue (W:World) (d:Nd):Prop where
 kind:d.kind<256
 text:d.text.length≤maxLen
 keysL:d.keys.length≤maxLen
 kidsL:d.kids.length≤maxLen
 keysC:d.keys.length≤d.kc
 kidsC:d.kids.length≤d.dc
 keyL:∀x∈d.keys,x.length≤maxLen
 keys:Eu W d.ka d.keys
mutual
def Nd.In(W:World):Nd→Prop
 | .mk k t ka kc ks da dc ds l=>Ue W (.mk k t ka kc ks da dc ds l)∧InL W da 0 ds
def InL(W:World)(a:Option Addr):Nat→List Nd→Prop
 |_,[]=>True
 |i,d::ds=>(∃b o,a=some ⟨b,o,none⟩∧Gu W b (o+i*5) d)∧d.In W∧InL W a (i+1) ds
end
theorem Il{W:World}{a:Option Addr}:∀{ds:List Nd} {i:Nat},InL W a i ds→∀j d,ds[j]?=some d→(∃b o,a=some ⟨b,o,none⟩∧Gu W b (o+(i+j)*5) d)∧d.In W
 | [],i,h,j,d,hj=>by simp at hj
 |e::ds,i,h,0,d,hj=>by
  simp only[List.getElem?_cons_zero,zG]at hj;subst hj;simp only[InL]at h;exact⟨by simpa using h.1,h.2.1⟩
 |e::ds,i,h,j+1,d,hj=>by
  simp only[List.getElem?_cons_succ]at hj;simp only[InL]at h;have:=Il h.2.2 j d hj;rw[show i+1+j=i+(j+1) from by omega]at this;exact this
theorem Nh{W:World}{a:Option Addr}:∀{ds:List Nd} {i:Nat},(∀j d,ds[j]?=some d→(∃b o,a=some ⟨b,o,none⟩∧Gu W b (o+(i+j)*5) d)∧d.In W)→InL W a i ds
 | [],i,h=>trivial
 |e::ds,i,h=>by
  have h0:=h 0 e rfl;simp only[InL];refine⟨h0.1,h0.2,Nh (fun j d hj=>?_)⟩;have:=h (j+1) d (by simpa using hj);rw[show i+(j+1)=i+1+j from by omega]at this;exact this
theorem Nd.In.fit{W:World}{d:Nd}(h:d.In W):Ue W d:=by
 cases d;simp only[Nd.In]at h;exact h.1
theorem Nd.In.kids{W:World}{d:Nd}(h:d.In W):InL W d.da 0 d.kids:=by
 cases d;simp only[Nd.In]at h;exact h.2
theorem Nd.In.mk{W:World}{d:Nd}(h:Ue W d)(hk:InL W d.da 0 d.kids):d.In W:=by
 cases d;simp only[Nd.In];exact⟨h,hk⟩
def Bj(a:Option Addr)(r:Nat):Prop:=∃o,a=some ⟨r,o,none⟩
mutual
def Nd.blk(r:Nat):Nd→Prop
 | .mk _ _ ka _ ks da _ ds _=>(ks≠[]∧Bj ka r)∨(ds≠[]∧Bj da r)∨blkL r ds
def blkL(r:Nat):List Nd→Prop
 | []=>False
 |d::ds=>d.blk r∨blkL r ds
end
theorem Eo(r:Nat):∀ds:List Nd,blkL r ds↔∃d∈ds,d.blk r
 | []=>by simp[blkL]
 |d::ds=>by simp[blkL,Eo r ds]
theorem Es(r:Nat)(d:Nd):d.blk r↔((d.keys≠[]∧Bj d.ka r)∨(d.kids≠[]∧Bj d.da r)∨blkL r d.kids):=by cases d;simp[Nd.blk,Nd.keys,Nd.ka,Nd.kids,Nd.da]
theorem B3{W:World}{b o:Nat}{v:Value}(h:W.cell? ⟨b,o,none⟩=some v):b<W.heap.size:=by
 rcases Nat.lt_or_ge b W.heap.size with h1|h1
 ·exact h1
 ·have h9:W.heap[b]?=none:=Array.getElem?_eq_none h1;simp[World.cell?,h9]at h
mutual
theorem Nd.In.lt{W:World}{r:Nat}:∀{d:Nd},d.In W→d.blk r→r<W.heap.size
 | .mk k t ka kc ks da dc ds l,h,hr=>by
  simp only[Nd.blk]at hr;simp only[Nd.In]at h;rcases hr with⟨hn,o,rfl⟩|⟨hn,o,rfl⟩|hr
  ·cases ks with
   |nil=>exact absurd rfl hn
   |cons x ks=>
    obtain⟨b,o',e,hc⟩:=h.1.keys 0 x rfl;injection e with e;injection e with e;subst e;exact B3 hc
  ·cases ds with
   |nil=>exact absurd rfl hn
   |cons x ds=>
    simp only[InL]at h;obtain⟨⟨b,o',e,hc⟩,_⟩:=h.2;injection e with e;injection e with e;subst e;exact B3 hc.1
  ·exact InL.lt h.2 hr
theorem InL.lt{W:World}{r:Nat}{a:Option Addr}:∀{ds:List Nd} {i:Nat},InL W a i ds→blkL r ds→r<W.heap.size
 | [],i,h,hr=>by simp[blkL]at hr
 |d::ds,i,h,hr=>by
  simp only[InL]at h;simp only[blkL]at hr;rcases hr with hr|hr
  ·exact Nd.In.lt h.2.1 hr
  ·exact InL.lt h.2.2 hr
end
theorem Ag{W W':World}{b:Nat}(h:W'.heap[b]?=W.heap[b]?)(o:Nat):W'.cell? ⟨b,o,none⟩=W.cell? ⟨b,o,none⟩:=World.cell?_of_block h
theorem Gu.keep{W W':World}{b o:Nat}{d:Nd}(h:Gu W b o d)(hb:W'.heap[b]?=W.heap[b]?):Gu W' b o d:=by
 obtain⟨h0,h1,h2,h3,h4⟩:=h;exact⟨(Ag hb _).trans h0,(Ag hb _).trans h1,(Ag hb _).trans h2,(Ag hb _).trans h3,(Ag hb _).trans h4⟩
theorem Eu.keep{W W':World}{a:Option Addr}{ks:List (List UInt8)}(h:Eu W a ks)(hb:∀r,ks≠[]→Bj a r→W'.heap[r]?=W.heap[r]?):Eu W' a ks:=by
 intro i x hx;obtain⟨b,o,rfl,hc⟩:=h i x hx;refine⟨b,o,rfl,(Ag (hb b ?_ ⟨o,rfl⟩) _).trans hc⟩;rintro rfl;simp at hx
theorem Ue.keep{W W':World}{d:Nd}(h:Ue W d)(hb:∀r,d.keys≠[]→Bj d.ka r→W'.heap[r]?=W.heap[r]?):Ue W' d:=
 ⟨h.kind,h.text,h.keysL,h.kidsL,h.keysC,h.kidsC,h.keyL,h.keys.keep hb⟩
mutual
theorem Nd.In.keep{W W':World}:∀{d:Nd},d.In W→(∀r,d.blk r→W'.heap[r]?=W.heap[r]?)→d.In W'
 | .mk k t ka kc ks da dc ds l,h,hb=>by
  simp only[Nd.In]at h ⊢;simp only[Nd.blk]at hb;refine⟨h.1.keep (fun r hn hr=>hb r (.inl ⟨hn,hr⟩)),InL.keep h.2 (fun r hr=>hb r (.inr (.inr hr))) (fun r hn hr=>hb r (.inr (.inl ⟨hn,hr⟩)))⟩
theorem InL.keep{W W':World}{a:Option Addr}:∀{ds:List Nd} {i:Nat},InL W a i ds→(∀r,blkL r ds→W'.heap[r]?=W.heap[r]?)→(∀r,ds≠[]→Bj a r→W'.heap[r]?=W.heap[r]?)→InL W' a i ds
 | [],i,h,hb,ha=>trivial
 |d::ds,i,h,hb,ha=>by
  simp only[InL]at h ⊢;simp only[blkL]at hb;obtain⟨⟨b,o,rfl,hc⟩,h2,h3⟩:=h;exact⟨⟨b,o,rfl,hc.keep (ha b (by simp) ⟨o,rfl⟩)⟩,Nd.In.keep h2 (fun r hr=>hb r (.inl hr)),InL.keep h3 (fun r hr=>hb r (.inr hr)) (fun r _ hr=>ha r (by simp) hr)⟩
end
theorem Nd.In.below{W W':World}{d:Nd}(h:d.In W)(hb:Below W.heap.size W W'):d.In W':=h.keep (fun r hr=>hb.block r (h.lt hr))
theorem Nd.In.grown{W W':World}{d:Nd}{row:Option Nat}(h:d.In W)(D:W.grownBy W' row)(hn:∀r,row=some r→¬d.blk r):d.In W':=h.keep (fun r hr=>D.block r (h.lt hr) (fun e=>hn r e.symm hr))
theorem Nd.In.alloc{W:World}{d:Nd}(h:d.In W)(o:Obj):d.In (W.alloc o):=h.below ((qV _ W).alloc (qJ _) o)
theorem Nd.In.drew{W:World}{d:Nd}(h:d.In W):d.In W.drew:=h.keep (fun _ _=>rfl)
theorem Nd.In.setCell{W:World}{d:Nd}(h:d.In W){b o:Nat}{v:Value}(hn:¬d.blk b):d.In (W.setCell ⟨b,o,none⟩ v):=h.keep (fun r hr=>qC _ _ _ _ (by rintro rfl;exact hn hr))
theorem Nd.val_eq(k:Nat)(t:List UInt8)(ka:Option Addr)(kc:Nat)(ks:List (List UInt8))(da:Option Addr)(dc:Nat)(ds:List Nd)(l:Int):(Nd.mk k t ka kc ks da dc ds l).val=.agg #[.int .u8 k,.string ⟨t.toArray⟩,.slice ka ks.length kc,.slice da ds.length dc,.int .i64 l]:=rfl
def Nd.zero:Nd:=.mk 0 [] none 0 [] none 0 [] 0
theorem Nd.zero_in(W:World):Nd.zero.In W:=by
 refine .mk ⟨by decide,by simp[Nd.zero,Nd.text],by simp[Nd.zero,Nd.keys],by simp[Nd.zero,Nd.kids],by simp[Nd.zero,Nd.keys,Nd.kc],by simp[Nd.zero,Nd.kids,Nd.dc],by simp[Nd.zero,Nd.keys],?_⟩ trivial;intro i x hx;simp[Nd.zero,Nd.keys]at hx
theorem Nd.zero_blk(r:Nat):¬Nd.zero.blk r:=by simp[Nd.zero,Nd.blk,blkL]
theorem B9{W:World}{g:Nat}{t:TypeId}{a b c d e:Value}(h:W.heap[g]?=some (.cells #[a,b,c,d,e] t))(v0 D G v3 v4:Value) :
  (((((W.setCell ⟨g,0,none⟩ v0).setCell ⟨g,1,none⟩ D).setCell ⟨g,2,none⟩ G).setCell ⟨g,3,none⟩ v3).setCell ⟨g,4,none⟩ v4).heap[g]?=some (.cells #[v0,D,G,v3,v4] t):=by
 simp[World.setCell,Array.getElem?_modify,h]
theorem Ad{W:World}{g:Nat}{t:TypeId}{a b c d e:Value}(h:W.heap[g]?=some (.cells #[a,b,c,d,e] t)) :
  (W.cell? ⟨g,0,none⟩=some a∧W.frozen? ⟨g,0,none⟩=false)∧(W.cell? ⟨g,1,none⟩=some b∧W.frozen? ⟨g,1,none⟩=false)∧(W.cell? ⟨g,2,none⟩=some c∧W.frozen? ⟨g,2,none⟩=false)∧(W.cell? ⟨g,3,none⟩=some d∧W.frozen? ⟨g,3,none⟩=false)∧(W.cell? ⟨g,4,none⟩=some e∧W.frozen? ⟨g,4,none⟩=false):=by
 simp[World.cell?,World.frozen?,h]
theorem Az{W:World}{g g':Nat}(h:g'≠g)(v0 D G v3 v4:Value):(((((W.setCell ⟨g,0,none⟩ v0).setCell ⟨g,1,none⟩ D).setCell ⟨g,2,none⟩ G).setCell ⟨g,3,none⟩ v3).setCell ⟨g,4,none⟩ v4).heap[g']?=W.heap[g']?:=by
 rw[qC _ _ _ _ h,qC _ _ _ _ h,qC _ _ _ _ h,qC _ _ _ _ h,qC _ _ _ _ h]
theorem Af{W:World}{g:Nat}{t:TypeId}{a b:Value}(h:W.heap[g]?=some (.cells #[a,b] t)) :
  (W.cell? ⟨g,0,none⟩=some a∧W.frozen? ⟨g,0,none⟩=false)∧(W.cell? ⟨g,1,none⟩=some b∧W.frozen? ⟨g,1,none⟩=false):=by
 simp[World.cell?,World.frozen?,h]
theorem Nd.ind{p:Nd→Prop}(h:∀k t ka kc ks da dc ds l,(∀d∈ds,p d)→p (.mk k t ka kc ks da dc ds l)):∀d,p d:=by
 have D:∀n:Nat,∀d:Nd,SizeOf.sizeOf d≤n→p d:=by
  intro n
  induction n with
  |zero=>intro d hd;cases d;simp at hd
  |succ n ih=>
   intro d hd;obtain⟨k,t,ka,kc,ks,da,dc,ds,l⟩:=d;refine h _ _ _ _ _ _ _ _ _ (fun e he=>ih e ?_);have:=List.sizeOf_lt_of_mem he;simp only[Nd.mk.sizeOf_spec]at hd;omega
 exact fun d=>D _ d (qJ _)
theorem Qk{W:World}{a:Option Addr}{ds:List Nd}(h:InL W a 0 ds){j:Nat}{d:Nd}(hj:ds[j]?=some d):∃b o,a=some ⟨b,o,none⟩∧Gu W b (o+j*5) d∧d.In W:=by
 obtain⟨⟨b,o,e,hc⟩,hi⟩:=Il h j d hj;rw[Nat.zero_add]at hc;exact⟨b,o,e,hc,hi⟩
theorem InL.below{W W':World}{a:Option Addr}{ds:List Nd}(h:InL W a 0 ds)(hb:Below W.heap.size W W'):InL W' a 0 ds:=by
 refine Nh (fun j d hj=>?_);obtain⟨⟨b,o,e,hc⟩,hi⟩:=Il h j d hj;exact⟨⟨b,o,e,hc.keep (hb.block b (B3 hc.1))⟩,hi.below hb⟩
theorem Eu.below{W W':World}{a:Option Addr}{ks:List (List UInt8)}(h:Eu W a ks)(hb:Below W.heap.size W W'):Eu W' a ks:=by
 intro i x hx;obtain⟨b,o,e,hc⟩:=h i x hx;exact⟨b,o,e,(Ag (hb.block b (B3 hc)) _).trans hc⟩
theorem Cg{ds:List Nd}{i:Nat}{d:Nd}(h:ds[i]?=some d):Am (ds.drop i)=d.bare::Am (ds.drop (i+1)):=by
 obtain⟨hl,rfl⟩:=qI.1 h;rw[qL hl];rfl
theorem Ce{W:World}{a:Option Addr}{ds:List Nd}(h:InL W a 0 ds){j:Nat}{d:Nd}(hj:ds[j]?=some d):∃b o k t ka kc ks da dc es l,a=some ⟨b,o,none⟩∧d=.mk k t ka kc ks da dc es l ∧
  W.cell? ⟨b,o+j*5,none⟩=some (.int .u8 k)∧W.cell? ⟨b,o+j*5+1,none⟩=some (.string ⟨t.toArray⟩)∧W.cell? ⟨b,o+j*5+2,none⟩=some (.slice ka ks.length kc)∧W.cell? ⟨b,o+j*5+3,none⟩=some (.slice da es.length dc)∧W.cell? ⟨b,o+j*5+4,none⟩=some (.int .i64 l) ∧
  (Nd.mk k t ka kc ks da dc es l).In W:=by
 obtain⟨b,o,e,⟨D,c1,c2,c3,G⟩,hi⟩:=Qk h hj;obtain⟨k,t,ka,kc,ks,da,dc,es,l⟩:=d;exact⟨b,o,k,t,ka,kc,ks,da,dc,es,l,e,rfl,D,c1,c2,c3,G,hi⟩
theorem V3{α:Type}{ds:List α}{i n:Nat}(hn:ds.length=n)(hi:i<n):∃d,ds[i]?=some d:=⟨_,qO (by omega)⟩
end Go.Proofs.YtnjokdbblmlhhaaGreatDoor
namespace Go.Proofs.YtnjokdbblmlhhaaGreatDoor
set_option maxHeartbeats 8000000
set_option maxRecDepth 100000
open Go.RowKit
theorem Iu{w D:World}{B b:Nat}(hb:Below B w D)(h:B≤b)(v0 G I v3 v4:Value):Below B w (((((D.setCell ⟨b,0,none⟩ v0).setCell ⟨b,1,none⟩ G).setCell ⟨b,2,none⟩ I).setCell ⟨b,3,none⟩ v3).setCell ⟨b,4,none⟩ v4):=
 ((((hb.setCell (p:=⟨b,0,none⟩) h v0).setCell (p:=⟨b,1,none⟩) h G).setCell (p:=⟨b,2,none⟩) h I).setCell (p:=⟨b,3,none⟩) h v3).setCell (p:=⟨b,4,none⟩) h v4
end Go.Proofs.YtnjokdbblmlhhaaGreatDoor
namespace Go.Proofs.YtnjokdbblmlhhaaGreatDoor
set_option maxHeartbeats 8000000
set_option maxRecDepth 100000
open Go.RowKit
def bz(x:List UInt8):ByteArray:=⟨x.toArray⟩
theorem Tx{x y:List UInt8}(h:bz x=bz y):x=y:=by
 have:=congrArg (fun b:ByteArray=>b.data.toList) h;simpa[bz]using this
theorem Ud(ks:List (List UInt8))(x:List UInt8):bz x∈ks.map bz↔x∈ks:=by
 simp only[List.mem_map];constructor
 ·rintro⟨y,D,e⟩;rw[←Tx e];exact D
 ·intro h;exact⟨x,h,rfl⟩
theorem Mk{W:World}{a:Option Addr}{ks:List (List UInt8)}(h:Eu W a ks)(hn:ks≠[]):∃b o,a=some ⟨b,o,none⟩∧∀j,j<(ks.map bz).length→W.cell? ⟨b,o+j,none⟩=some (.string ((ks.map bz).getD j ByteArray.empty)):=by
 cases ks with
 |nil=>exact absurd rfl hn
 |cons x ks=>
  obtain⟨b,o,rfl,_⟩:=h 0 x rfl;refine⟨b,o,rfl,fun j hj=>?_⟩;rw[qY]at hj;obtain⟨b2,o2,e,hc⟩:=h j _ (qO hj);injection e with e;injection e with G D;subst G;subst D;rw[hc,List.getD_eq_getElem?_getD,zF,qO hj];rfl
theorem Eh(a:Option Addr)(c:Nat)(ks:List (List UInt8))(x:List UInt8)(w:World)(h:Eu w a ks)(hl:ks.length≤maxLen) :
  Calls Tryz.prog 83 #[.slice a ks.length c,.string ⟨x.toArray⟩] w fun e w'=>e=.returned (.bool (decide (x∈ks)))∧w=w':=by
 unfold maxLen at hl;by_cases hn:ks=[]
 ·subst hn;refine(Tryz.slices_Contains_string_empty a c (bz x) w).mono ?_;rintro e w' ⟨rfl,rfl⟩;exact⟨rfl,rfl⟩
 ·obtain⟨b,o,rfl,hc⟩:=Mk h hn;refine(Tryz.slices_Contains_string b o ks.length c (ks.map bz) (bz x) w (by simp) (by omega) hc).mono ?_;rintro e w' ⟨rfl,rfl⟩;refine⟨Bn ?_,rfl⟩;rw[Bool.eq_iff_iff,Lib.containsS_iff,List.take_of_length_le (by simp),Ud,decide_eq_true_eq]
end Go.Proofs.YtnjokdbblmlhhaaGreatDoor
namespace Go.Proofs.YtnjokdbblmlhhaaGreatDoor
set_option maxHeartbeats 8000000
set_option maxRecDepth 100000
open Go.RowKit
attribute [local go_sem] Oper.semAt_some
theorem RoundIn.anyD{F:Fence}(hd:F.depth=none){m D:Nat}{P:Program}{l:Nat}{f:FuncId}{tmps:Array Value}{assign body:Code}{w:World}{R:Ending→World→Prop}
  (h:RoundIn F m P l f tmps assign body w R):RoundIn F D P l f tmps assign body w R:=⟨h.1,fun c cs _=>h.2 c cs (fun d h=>by rw[hd]at h;cases h)⟩
theorem YieldAt.anyD{F:Fence}(hd:F.depth=none){m:Nat}(I:Nat){P:Program}{l:Nat}{args:Array Value}{W:World}{R:Ending→World→Prop}(h:YieldAt F m P l args W R):YieldAt F I P l args W R:=by
 obtain⟨D,tmps,assign,body,G,J⟩:=h;exact⟨D,tmps,assign,body,G,RoundIn.anyD hd J⟩
theorem F4{P:Program}{w:World}{a:Addr}{m:Mode}{f:Fn}{x y:Array Value}:(store a (.func f x y) m).run P w=stored P w a (.func f x y) m:=run_store P w a _ m rfl
attribute [local go_sem] F4
mutual
def Nd.preN(most:Nat):Nat→Nd→List (Nat × Nd)
 |lv,.mk k t ka kc ks da dc ds l=>if most<lv then [] else (lv,.mk k t ka kc ks da dc ds l)::Cn most (lv+1) ds
def Cn(most:Nat):Nat→List Nd→List (Nat × Nd)
 |lv,[]=>[]
 |lv,d::ds=>d.preN most lv++Cn most lv ds
end
def Fq(x:Nat × Nd):Nat × P20.T:=(x.1,x.2.bare)
mutual
theorem Nd.preN_bare(most:Nat):∀(d:Nd) (lv:Nat),(d.preN most lv).map Fq=d.bare.pre most lv
 | .mk k t ka kc ks da dc ds l,lv=>by
  unfold Nd.preN Nd.bare P20.T.pre;split
  ·rfl
  ·rw[List.map_cons,Ip most ds (lv+1)];rfl
theorem Ip(most:Nat):∀(ds:List Nd) (lv:Nat),(Cn most lv ds).map Fq=P20.preL most lv (Am ds)
 | [],lv=>rfl
 |d::ds,lv=>by
  unfold Cn Am P20.preL;rw[List.map_append,Nd.preN_bare most d lv,Ip most ds lv]
end
theorem Fg(most lv:Nat):∀a b:List Nd,Cn most lv (a++b)=Cn most lv a++Cn most lv b
 | [],b=>rfl
 |d::a,b=>by rw[zJ,Cn,Cn,Fg most lv a b,List.append_assoc]
theorem Mq(most lv:Nat){ds:List Nd}{j:Nat}{d:Nd}(h:ds[j]?=some d):Cn most lv ds=Cn most lv (ds.take j)++(d.preN most lv++Cn most lv (ds.drop (j+1))):=by
 obtain⟨hl,rfl⟩:=qI.1 h
 conv=>lhs;rw[←List.take_append_drop j ds,qL hl]
 rw[Fg];rfl
theorem Oi(most lv:Nat){ds:List Nd}{j:Nat}{d:Nd}(h:ds[j]?=some d):Cn most lv (ds.take (j+1))=Cn most lv (ds.take j)++d.preN most lv:=by
 obtain⟨hl,rfl⟩:=qI.1 h;rw[List.take_succ_eq_append_getElem hl,Fg];simp[Cn]
def N9(x:Nat × Nd):Array Value:=#[.int .i64 x.1,x.2.val]
theorem Bp{W:World}{g:Nat}{t:TypeId}{a:Value}(h:W.heap[g]?=some (.cells #[a] t)):W.cell? ⟨g,0,none⟩=some a∧W.frozen? ⟨g,0,none⟩=false:=by
 simp[World.cell?,World.frozen?,h]
def Ss(N:World)(l:Nat)(L:List (Nat × Nd))(most b1 b3 b4:Nat)(R:Nat→Prop)(J I:Nat→(Nat→Prop)→World→Prop)(d:Nd):Prop:=
 ∀(n lv i:Nat) (rest:List (Nat × Nd)) (M:Nat→Prop) (V:World),d.In V→(∀r,d.blk r→R r)→L.drop i=d.preN most lv++rest→J i M V→N.heap.size≤V.heap.size →
  V.heap[b1]?=some (.cells #[.int .i64 most] 3)→V.heap[b3]?=some (.cells #[.func (.yield l) #[] #[]] 136) →
  V.heap[b4]?=some (.cells #[.func (.func 81) #[] #[.pointer (some ⟨b1,0,none⟩),.pointer (some ⟨b3,0,none⟩),.pointer (some ⟨b4,0,none⟩)]] 137)→¬M b1→¬M b3→¬M b4 →
  CallsIn Fence.wide n Tryz.prog 81 #[d.val,.int .i64 lv,.pointer (some ⟨b1,0,none⟩),.pointer (some ⟨b3,0,none⟩),.pointer (some ⟨b4,0,none⟩)] V fun e W'=>
   ∃D,e=.returned (.bool D)∧Hid (∃M',Au M V M' W'∧((D=true∧J (i+(d.preN most lv).length) M' W')∨(D=false∧∃G,G≤L.length∧I G M' W')))
theorem Au.in{M M':Nat→Prop}{V W:World}{d:Nd}(h:Au M V M' W)(hd:d.In V)(hn:∀r,d.blk r→¬M r):d.In W:=hd.keep (fun r hr=>h.same r (hn r hr) (hd.lt hr))
theorem Qx(W0:World)(l:Nat)(L:List (Nat × Nd))(most b1 b3 b4:Nat)(R:Nat→Prop)(J Jx:Nat→(Nat→Prop)→World→Prop)(hm:most≤1000)(hJ:Dg R J)(cE:Dg R Jx)
  (hM:∀i M V,J i M V→∀r,M r→r<V.heap.size∧¬R r) (hR:∀r,R r→r<W0.heap.size)
  (hY:∀m i x M V,L[i]?=some x→J i M V→W0.heap.size≤V.heap.size→YieldAt Fence.wide m Tryz.prog l (N9 x) V fun e W'=>
   ∃M',Au M V M' W'∧((e=.returned (.bool true)∧J (i+1) M' W')∨(e=.returned (.bool false)∧Jx (i+1) M' W')))
  (k:Nat) (t:List UInt8) (ka:Option Addr) (kc:Nat) (ks:List (List UInt8)) (da:Option Addr) (dc:Nat) (ds:List Nd) (ln:Int) (bE:∀d∈ds,Ss W0 l L most b1 b3 b4 R J Jx d) :
  Ss W0 l L most b1 b3 b4 R J Jx (.mk k t ka kc ks da dc ds ln):=by
 intro n lv i rest M V aT X hL aS cP h1 h3 h4 n1 n3 n4;rw[Nd.val_eq];have l1:=(qA.1 h1).1;have l3:=(qA.1 h3).1;have l4:=(qA.1 h4).1;have aI:=fun r hr=>(hM i M V aS r hr).1;have bQ:=fun r hr=>(hM i M V aS r hr).2;have bK:∀r,(Nd.mk k t ka kc ks da dc ds ln).blk r→¬M r:=fun r hr h=>bQ r h (X r hr);obtain⟨Q,Y⟩:∃Q,V.alloc (.cells #[.int .u8 k,.string ⟨t.toArray⟩,.slice ka ks.length kc,.slice da ds.length dc,.int .i64 ln] 26)=Q:=⟨_,rfl⟩;have aY:V.grownBy Q none:=by rw[←Y];exact qR _ _ _
 have cM:Q.heap.size=V.heap.size+1:=by rw[←Y];simp
 have aU:Au M V M Q:=.grown aY (fun r e=>by cases e);have g0:Q.heap[V.heap.size]?=some (.cells #[.int .u8 k,.string ⟨t.toArray⟩,.slice ka ks.length kc,.slice da ds.length dc,.int .i64 ln] 26):=by rw[←Y];exact qB V _
 have cC:J i M Q:=hJ i M V Q none aS aY (fun r e=>by cases e);have k1:=(aU.same b1 n1 l1).trans h1;have k3:=(aU.same b3 n3 l3).trans h3;have cA:¬M V.heap.size:=fun h=>by have:=aI _ h;omega
 obtain⟨x1,_⟩:=Bp k1;obtain⟨x3,_⟩:=Bp k3;have bG:=Ab Y;have HJ:=Ab hJ;have bW:=Ab aT;have bR:=Ab X;have cB:=Ab bE;have HM:=Ab hM;have bC:=Ab bK;have aM:=Ab aU;have bN:=Ab cC;have H1:=Ab h1;have H3:=Ab h3;have H4:=Ab h4;have aQ:=aT.fit.kidsL;simp only[Nd.kids]at aQ;unfold maxLen at aQ;clear Y hJ cE aT X bE hM bK h1 h3 h4 aI bQ aY hR;rcases Nat.lt_or_ge most lv with aW|aW
 ·have jl:(most:Int)<(lv:Int):=by omega
  have he:(Nd.mk k t ka kc ks da dc ds ln).preN most lv=[]:=by unfold Nd.preN;rw[if_pos aW]
  rw[he];clear hL hY he aW;refine callsIn_of_wp Tryz.func81 rfl trivial ?_ rfl;simp only[Tryz.ntmps81,zD,qE,qP,Nat.reduceAdd,Nat.reduceSub,Array.replicate_succ,Array.replicate_zero,List.push_toArray,List.append_toArray,zK,zJ]
  gi_upto_region 1 with fail
  rw[Aa bG]
  gi_wp2
  go_ret;exact⟨true,rfl,Ab ⟨M,Aa aM,.inl ⟨rfl,Aa bN⟩⟩⟩
 have jl:(lv:Int)≤(most:Int):=by omega
 have aJ:(Nd.mk k t ka kc ks da dc ds ln).preN most lv=(lv,.mk k t ka kc ks da dc ds ln)::Cn most (lv+1) ds:=by unfold Nd.preN;rw[if_neg (by omega)]
 rw[aJ]at hL ⊢
 have aO:L[i]?=some (lv,.mk k t ka kc ks da dc ds ln):=by
  have:=congrArg (fun z=>z[0]?) hL;simpa using this
 have bO:L.drop (i+1)=Cn most (lv+1) ds++rest:=by
  have:=congrArg (fun z=>z.drop 1) hL;simpa[zI]using this
 have aZ:=(qI.1 aO).1
 have cG:=(hY (n-1) i _ M Q aO (Aa bN) (by omega)).mono
  (R':=fun e W'=>∃N,e=.returned (.bool N)∧Hid (∃M',Au M Q M' W'∧((N=true∧J (i+1) M' W')∨(N=false∧Jx (i+1) M' W')))) (by
   rintro e W' ⟨M',hk,(⟨rfl,h⟩|⟨rfl,h⟩)⟩
   ·exact⟨true,rfl,Ab ⟨M',hk,.inl ⟨rfl,h⟩⟩⟩
   ·exact⟨false,rfl,Ab ⟨M',hk,.inr ⟨rfl,h⟩⟩⟩)
 have bV:=Ab bO;have bZ:=Ab aZ;clear hY hL aJ aO bO aZ;obtain⟨fn,tmps,assign,body,hy,bB⟩:=cG;replace hy:(Instr.yield l #[.int .i64 lv,.agg #[.int .u8 k,.string ⟨t.toArray⟩,.slice ka ks.length kc,.slice da ds.length dc,.int .i64 ln]]).run Tryz.prog Q=.ok (.round l fn tmps assign body) Q:=hy;obtain⟨⟨y0,_⟩,⟨y1,_⟩,⟨y2,_⟩,⟨y3,_⟩,⟨y4,_⟩⟩:=Ad g0;have G0:=Ab g0;clear g0 k1 k3;refine callsIn_of_wp Tryz.func81 rfl trivial ?_ rfl;simp only[Tryz.ntmps81,zD,qE,qP,Nat.reduceAdd,Nat.reduceSub,Array.replicate_succ,Array.replicate_zero,List.push_toArray,List.append_toArray,zK,zJ]
 gi_upto_region 1 with fail
 rw[Aa bG]
 gi_wp2
 refine⟨fun h=>(by cases h),bB.mono ?_⟩;rintro e W3 ⟨N,rfl,HB⟩;clear hy bB x1 x3 y0 y1 y2 y3 y4;cases N
 ·gi_wp2
  go_ret;obtain⟨M',hk,(⟨h,_⟩|⟨_,h⟩)⟩:=Aa HB
  ·cases h
  ·exact⟨false,rfl,Ab ⟨M',(Aa aM).trans hk,.inr ⟨rfl,i+1,Aa bZ,h⟩⟩⟩
 obtain⟨M3,bH,bD⟩:∃M',Au M V M' W3∧J (i+1) M' W3:=by
  obtain⟨M',hk,(⟨_,h⟩|⟨h,_⟩)⟩:=Aa HB
  ·exact⟨M',(Aa aM).trans hk,h⟩
  ·cases h
 have q0:W3.heap[V.heap.size]?=some (.cells #[.int .u8 k,.string ⟨t.toArray⟩,.slice ka ks.length kc,.slice da ds.length dc,.int .i64 ln] 26):=by
  obtain⟨M',hk,_⟩:=Aa HB;exact(hk.same _ cA (by omega)).trans (Aa G0)
 obtain⟨⟨y0,_⟩,⟨y1,_⟩,⟨y2,_⟩,⟨y3,_⟩,⟨y4,_⟩⟩:=Ad q0;have bY:=Ab bH;have cF:=Ab bD;clear bH bD q0 HB G0;have aK:=(Aa bW).kids;simp only[Nd.da,Nd.kids]at aK;have cD:=Ab aK;clear aK;have cQ:(lv:Int)+1<9223372036854775807:=by omega
 have cI:IntKind.i64.wrap ((lv:Int)+1)=(lv:Int)+1:=qG _ (by omega);obtain⟨nd,aX⟩:∃nd,ds.length=nd:=⟨_,rfl⟩;rw[aX]at y3 aQ;have aR:=Ab aX;clear aX
 gi_wp2
 gi_loopg [21] nd (fun g bU wx=>∃(j:Nat) (M2:Nat→Prop),j+g=nd∧bU=.int .i64 j∧Hid (Au M V M2 wx)∧Hid (J (i+1+(Cn most (lv+1) (ds.take j)).length) M2 wx))
 case atStart=>exact⟨0,M3,by omega,by go_num,bY,Ab (by simpa[Cn]using Aa cF)⟩
 case round=>
  obtain⟨j,M2,cK,rfl,bL,bM⟩:=hrel;cases gk with
  |zero=>
   have e1:(nd:Int)=(j:Int):=by omega
   have HE:=Ab (show j=nd by omega)
   gi_wp2
   go_ret;refine⟨true,rfl,Ab ⟨M2,Aa bL,.inl ⟨rfl,?_⟩⟩⟩;have h1:=Aa bM;rw[Aa HE,←Aa aR,List.take_length]at h1;show J (i+((Cn most (lv+1) ds).length+1)) M2 wr;rw[show i+((Cn most (lv+1) ds).length+1)=i+1+(Cn most (lv+1) ds).length from by omega];exact h1
  |succ g'=>
   have cO:(j:Int)<(nd:Int):=by omega
   have cJ:IntKind.i64.wrap ((j:Int)+1)=(j:Int)+1:=qG _ (by omega);have cL:j<ds.length:=by rw[Aa aR];omega
   obtain⟨d,G⟩:=V3 (Aa aR) (show j<nd by omega);obtain⟨b,o,k',t',Z,aA,ks',aD,aE,ds',l',rfl,rfl,c0,c1,c2,c3,c4,aG⟩:=Ce (Aa cD) G
   have aN:∀r,(Nd.mk k' t' Z aA ks' aD aE ds' l').blk r→(Nd.mk k t ka kc ks (some ⟨b,o,none⟩) dc ds ln).blk r:=fun r hr=>by
    rw[Es];exact .inr (.inr ((Eo r _).2 ⟨_,qN G,hr⟩))
   have bF:(Nd.mk k t ka kc ks (some ⟨b,o,none⟩) dc ds ln).blk b:=by
    rw[Es];exact .inr (.inl ⟨by rintro e;simp only[Nd.kids]at e;subst e;simp at G,o,rfl⟩)
   have S:=Aa bL;have I:=S.same b (Aa bC b bF) (B3 c0);replace c0:=(Ag I _).trans c0;replace c1:=(Ag I _).trans c1;replace c2:=(Ag I _).trans c2;replace c3:=(Ag I _).trans c3;replace c4:=(Ag I _).trans c4;have aL:=S.in aG (fun r hr=>Aa bC r (aN r hr));obtain⟨V5,aC⟩:∃V5,wr.alloc (.cells #[.int .u8 k',.string ⟨t'.toArray⟩,.slice Z ks'.length aA,.slice aD ds'.length aE,.int .i64 l'] 26)=V5:=⟨_,rfl⟩;have aB:wr.grownBy V5 none:=by rw[←aC];exact qR _ _ _
   have D:Au M V M2 V5:=S.trans (.grown aB (fun r e=>by cases e));have bJ:=(Aa HJ) _ _ _ V5 none (Aa bM) aB (fun r e=>by cases e);have cN:=D.size;have nn:∀r,¬M r→r<V.heap.size→¬M2 r:=fun r h1 h2 h3=>(S.more r h3).elim h1 (by omega)
   have aH:L.drop (i+1+(Cn most (lv+1) (ds.take j)).length)=(Nd.mk k' t' Z aA ks' aD aE ds' l').preN most (lv+1)++(Cn most (lv+1) (ds.drop (j+1))++rest):=by
    rw[←zI,Aa bV,Mq most (lv+1) G,List.append_assoc,List.drop_left,List.append_assoc]
   have bI:=fun m=>Aa cB _ (qN G) m (lv+1) _ _ M2 V5 (aL.keep (fun r hr=>aB.block r (aL.lt hr) (by simp))) (fun r hr=>Aa bR r (aN r hr)) aH bJ (by omega)
    ((D.same b1 n1 l1).trans (Aa H1)) ((D.same b3 n3 l3).trans (Aa H3)) ((D.same b4 n4 l4).trans (Aa H4)) (nn _ n1 l1) (nn _ n3 l3) (nn _ n4 l4)
   have U:=fun m=>(bI m).mono (R':=fun e W'=>∃N,e=.returned (.bool N)∧Hid (∃M',Au M V M' W'∧((N=true∧J (i+1+(Cn most (lv+1) (ds.take (j+1))).length) M' W')∨(N=false∧∃i',i'≤L.length∧Jx i' M' W')))) (by
    rintro e W' ⟨N,rfl,M',hk,h⟩;refine⟨N,rfl,Ab ⟨M',D.trans hk,?_⟩⟩;rw[Oi most (lv+1) G,qH,←Nat.add_assoc]
    exact h)
   have k4:=(D.same b4 n4 l4).trans (Aa H4);obtain⟨x4,_⟩:=Bp k4;have h0:V5.heap[wr.heap.size]?=some (.cells #[.int .u8 k',.string ⟨t'.toArray⟩,.slice Z ks'.length aA,.slice aD ds'.length aE,.int .i64 l'] 26):=by rw[←aC];exact qB wr _
   obtain⟨⟨z0,_⟩,⟨z1,_⟩,⟨z2,_⟩,⟨z3,_⟩,⟨z4,_⟩⟩:=Ad h0;rw[show (((lv+1:Nat)):Int)=(lv:Int)+1 from by omega]at U;have bT:=Ab U;have bS:=Ab aC;have cH:=B3 c0;clear bI U aC aG S aL aB D bJ nn aH G aN bF k4 h0 I
   gi_upto_region 8 with fail
   rw[Aa bS];have bX:∀k:Nat,(Fence.wide.depth.isSome=true→1≤k):=fun k h=>by cases h
   gi_wp2
   refine⟨trivial,bX _,(Aa bT _).mono ?_⟩;rintro e W6 ⟨N,rfl,bP⟩;cases N
   ·gi_wp2
    go_ret;obtain⟨M',hk,(⟨h,_⟩|⟨_,h⟩)⟩:=Aa bP
    ·cases h
    ·exact⟨false,rfl,Ab ⟨M',hk,.inr ⟨rfl,h⟩⟩⟩
   ·have bA:Hid (∃M',Au M V M' W6∧J (i+1+(Cn most (lv+1) (ds.take (j+1))).length) M' W6):=by
     obtain⟨M',hk,(⟨_,h⟩|⟨h,_⟩)⟩:=Aa bP
     ·exact Ab ⟨M',hk,h⟩
     ·cases h
    gi_wp2
    gi_roundg g'
    case measure=>omega
    case rel=>
     obtain⟨M',hk,h⟩:=Aa bA;exact⟨j+1,M',by omega,by go_num,Ab hk,Ab h⟩
theorem Gk(n most b1 b2:Nat)(k:Nat)(t:List UInt8)(ka:Option Addr)(kc:Nat)(ks:List (List UInt8))(da:Option Addr)(dc:Nat)(ds:List Nd)(ln:Int)(R T:Nat→Prop)(W:World)(hm:most≤1000)
  (h1:W.heap[b1]?=some (.cells #[.int .i64 most] 3)) (h2:W.heap[b2]?=some (.cells #[.int .u8 k,.string ⟨t.toArray⟩,.slice ka ks.length kc,.slice da ds.length dc,.int .i64 ln] 26))
  (X:(Nd.mk k t ka kc ks da dc ds ln).In W) (U:∀r,(Nd.mk k t ka kc ks da dc ds ln).blk r→R r) (hR:∀r,R r→r<W.heap.size) (hT:T b1) :
  Tb Fence.wide n Tryz.prog 80 #[.pointer (some ⟨b1,0,none⟩),.pointer (some ⟨b2,0,none⟩)] N9 ((Nd.mk k t ka kc ks da dc ds ln).preN most 1) R T W:=by
 intro l J Jx hJ aD hM hY Y aB h0;have l1:=(qA.1 h1).1;have l2:=(qA.1 h2).1
 have aE:∀m i x M V,((Nd.mk k t ka kc ks da dc ds ln).preN most 1)[i]?=some x→J i M V→W.heap.size≤V.heap.size→YieldAt Fence.wide m Tryz.prog l (N9 x) V fun e W'=>
   ∃M',Au M V M' W'∧((e=.returned (.bool true)∧J (i+1) M' W')∨(e=.returned (.bool false)∧Jx (i+1) M' W')):=
  fun m i x M V hx hj hs=>YieldAt.anyD rfl m (hY i x M V hx hj hs)
 obtain⟨W1,G⟩:∃W1,(W.alloc (.cells #[.func (.yield l) #[] #[]] 136)).alloc (.cells #[.nilFunc] 137)=W1:=⟨_,rfl⟩;have aC:W1.heap.size=W.heap.size+1+1:=by rw[←G];simp
 have Z:W.grownBy W1 none:=by rw[←G];exact Cd (qR W _ none) (qR _ _ none)
 have g3:W1.heap[W.heap.size]?=some (.cells #[.func (.yield l) #[] #[]] 136):=by rw[←G];exact(qD _ _ _ (by simp)).trans (qB W _)
 have g4:W1.heap[W.heap.size+1]?=some (.cells #[.nilFunc] 137):=by
  rw[←G];have:=qB (W.alloc (.cells #[.func (.yield l) #[] #[]] 136)) (.cells #[.nilFunc] 137);rw[qF]at this;exact this
 obtain⟨N,I⟩:∃N,W1.setCell ⟨W.heap.size+1,0,none⟩ (.func (.func 81) #[] #[.pointer (some ⟨b1,0,none⟩),.pointer (some ⟨W.heap.size,0,none⟩),.pointer (some ⟨W.heap.size+1,0,none⟩)])=N:=⟨_,rfl⟩;have S:W1.grownBy N (some (W.heap.size+1)):=by rw[←I];exact grownBy_setCell' W1 _ _
 have aI:N.heap.size=W.heap.size+1+1:=by rw[←I];simpa using aC
 have q4:N.heap[W.heap.size+1]?=some (.cells #[.func (.func 81) #[] #[.pointer (some ⟨b1,0,none⟩),.pointer (some ⟨W.heap.size,0,none⟩),.pointer (some ⟨W.heap.size+1,0,none⟩)]] 137):=by
  rw[←I];simp[World.setCell,Array.getElem?_modify,g4]
 have ho:∀r,r<W.heap.size→N.heap[r]?=W.heap[r]?:=fun r hr=>(S.block r (by omega) (by simp;omega)).trans (Z.block r hr (by simp));have q3:N.heap[W.heap.size]?=some (.cells #[.func (.yield l) #[] #[]] 136):=(S.block _ (by omega) (by simp)).trans g3;have q1:=(ho b1 l1).trans h1;have q2:=(ho b2 l2).trans h2;have Q:∀r,Y r→r<W.heap.size:=fun r hr=>(hM 0 Y W h0 r hr).1;have aA:J 0 Y W1:=hJ 0 Y W W1 none h0 Z (fun r e=>by cases e);have aG:J 0 Y N:=hJ 0 Y W1 N _ aA S (fun r e=>by cases e;exact⟨fun h=>by have:=Q _ h;omega,fun h=>by have:=hR _ h;omega⟩)
 have D:=fun m=>Nd.ind (p:=Ss W l ((Nd.mk k t ka kc ks da dc ds ln).preN most 1) most b1 W.heap.size (W.heap.size+1) R J Jx) (Qx W l _ most b1 _ _ R J Jx hm hJ aD hM hR aE) (.mk k t ka kc ks da dc ds ln) m 1 0 [] Y N
  (X.keep (fun r hr=>ho r (X.lt hr))) U (by simp) aG (by omega) q1 q3 q4 (aB _ hT).1 (fun h=>by have:=Q _ h;omega) (fun h=>by have:=Q _ h;omega)
 rw[Nd.val_eq]at D;have aM:∀(fn:Fn) (first cap:Array Value) (w:World),(Instr.makeFunc fn first cap).run Tryz.prog w=.ok (.func fn first cap) w:=fun _ _ _ _=>rfl;obtain⟨x4,f4⟩:=Bp g4;have aL:=Ab q2;have aJ:=Ab q4;have aK:=Ab G;have aH:=Ab I;have HD:=Ab D;clear G I hY aE hJ aD hM aB h0 h1 h2 X U hR aC Z g3 g4 S aI q4 ho q3 q1 q2 Q aA aG D;refine callsIn_of_wp Tryz.func80 rfl trivial ?_ rfl;simp only[Tryz.ntmps80,zD,qE,qP,Nat.reduceAdd,Nat.reduceSub,Array.replicate_succ,Array.replicate_zero,List.push_toArray,List.append_toArray,zK,zJ]
 gi_upto_region 2 with fail
 rw[Aa aK]
 gi_upto_region 3 with fail
 rw[Aa aH];obtain⟨y4,_⟩:=Bp (Aa aJ);obtain⟨⟨z0,_⟩,⟨z1,_⟩,⟨z2,_⟩,⟨z3,_⟩,⟨z4,_⟩⟩:=Ad (Aa aL)
 gi_wp2
 refine⟨trivial,fun h=>(by cases h),(Aa HD _).mono ?_⟩;rintro e W6 ⟨bb,rfl,HB⟩
 gi_wp2
 go_end0;obtain⟨M',hk,(⟨_,h⟩|⟨_,h⟩)⟩:=Aa HB
 ·exact⟨⟨_,rfl⟩,M',.inl (by rw[Nat.zero_add]at h;exact h)⟩
 ·exact⟨⟨_,rfl⟩,M',.inr h⟩
theorem J6(k:Nat)(t:List UInt8)(ka:Option Addr)(kc:Nat)(ks:List (List UInt8))(da:Option Addr)(dc:Nat)(ds:List Nd)(ln:Int)(most:Int)(w:World) :
  Calls Tryz.prog 42 #[.agg #[.int .u8 k,.string ⟨t.toArray⟩,.slice ka ks.length kc,.slice da ds.length dc,.int .i64 ln],.int .i64 most] w fun e w'=>
   e=.returned (.func (.func 80) #[] #[.pointer (some ⟨w.heap.size+1,0,none⟩),.pointer (some ⟨w.heap.size,0,none⟩)]) ∧
   w'=(w.alloc (.cells #[.int .u8 k,.string ⟨t.toArray⟩,.slice ka ks.length kc,.slice da ds.length dc,.int .i64 ln] 26)).alloc (.cells #[.int .i64 most] 3):=by
 have G:∀(D:Fn) (first cap:Array Value) (w:World),(Instr.makeFunc D first cap).run Tryz.prog w=.ok (.func D first cap) w:=fun _ _ _ _=>rfl;go_enter Tryz.func42,Tryz.ntmps42
 go_wp2;go_ret;exact⟨rfl,rfl⟩
end Go.Proofs.YtnjokdbblmlhhaaGreatDoor
namespace Go.Proofs.YtnjokdbblmlhhaaGreatDoor
set_option maxHeartbeats 8000000
set_option maxRecDepth 100000
open Go.RowKit
attribute [local go_sem] Oper.semAt_some
def Mv(L:List (Nat × Nd)):Nat:=(L.map (·.1)).foldl max 0
theorem Re{L:List (Nat × Nd)}{i:Nat}{x:Nat × Nd}(h:L[i]?=some x):Mv (L.take (i+1))=max (Mv (L.take i)) x.1:=by
 unfold Mv;rw[List.take_add_one,h];simp[List.foldl_append]
structure Fs (h b:Nat) (w:World) (t:TypeId) (v:Value) (M:Nat→Prop) (V:World):Prop where
 m:M b
 ms:∀r,M r→b≤r∧r<V.heap.size
 cell:V.heap[b]?=some (.cells #[v] t)
 below:Below h w V
theorem Fs.abides{h b:Nat}{w:World}{t:TypeId}{v:Value}{M:Nat→Prop}{V G:World}{row:Option Nat}(hi:Fs h b w t v M V)(hb:h≤b)(D:V.grownBy G row)(hr:∀r,row=some r→¬M r∧¬r<h):Fs h b w t v M G:=
  ⟨hi.m,fun r h1=>⟨(hi.ms r h1).1,zB (hi.ms r h1).2 D.size⟩,(D.block b (qA.1 hi.cell).1 (fun e=>(hr b e.symm).1 hi.m)).trans hi.cell,
   hi.below.grown D (by have:=(qA.1 hi.cell).1;omega) (fun k e=>by have:=(hr k e).2;omega)⟩
theorem Fs.set{h b:Nat}{w:World}{t:TypeId}{v:Value}{M:Nat→Prop}{V:World}(hi:Fs h b w t v M V)(hb:h≤b)(v':Value):Fs h b w t v' M (V.setCell ⟨b,0,none⟩ v'):=
  ⟨hi.m,fun r h1=>⟨(hi.ms r h1).1,by simpa[World.setCell]using (hi.ms r h1).2⟩,by have h1:=hi.cell;simp[World.setCell,Array.getElem?_modify,h1],
   hi.below.grown (grownBy_setCell' V b v') (by have:=(qA.1 hi.cell).1;omega) (fun k e=>by cases e;omega)⟩
theorem Nz(w:World)(G o2 I J:Obj)(h:Nat)(hh:w.heap.size=h):∃D,(((w.alloc G).alloc o2).alloc I).alloc J=D∧D.heap.size=h+4∧D.heap[h]?=some G∧D.heap[h+1]?=some o2∧D.heap[h+1+1]?=some I∧D.heap[h+1+1+1]?=some J∧Below h w D:=by
 subst hh;have S:=qB w G;have N:=qB (w.alloc G) o2;have Q:=qB ((w.alloc G).alloc o2) I;have R:=qB (((w.alloc G).alloc o2).alloc I) J;simp only[qF]at N Q R;refine⟨_,rfl,by simp,?_,?_,?_,R,?_⟩
 ·exact(qD _ _ _ (by simp<;>omega)).trans ((qD _ _ _ (by simp<;>omega)).trans ((qD _ _ _ (by simp)).trans S))
 ·exact(qD _ _ _ (by simp<;>omega)).trans ((qD _ _ _ (by simp)).trans N)
 ·exact(qD _ _ _ (by simp)).trans Q
 ·exact((((qV _ w).alloc (qJ _) _).alloc (by simp) _).alloc (by simp;omega) _).alloc (by simp;omega) _
theorem Qo(d:Nd)(w:World)(I:d.In w) :
    Calls Tryz.prog 21 #[d.val] w fun e w'=>e=.returned (.int .i64 (Mv (d.preN 18 1)))∧Below w.heap.size w w':=by
  obtain⟨k,t,ka,kc,ks,da,dc,ds,ln⟩:=d;obtain⟨L,hL⟩:∃L,(Nd.mk k t ka kc ks da dc ds ln).preN 18 1=L:=⟨_,rfl⟩;rw[hL];rw[Nd.val_eq];obtain⟨b0,hh⟩:∃b0,w.heap.size=b0:=⟨_,rfl⟩;have HL:=Ab hL;have J:=fun r (hr:(Nd.mk k t ka kc ks da dc ds ln).blk r)=>I.lt hr;rw[hh]at J;have aB:=Ab I;have Z:=Ab J;clear hL I J;obtain⟨⟨k0,_⟩,⟨k1,_⟩,⟨k2,_⟩,⟨k3,_⟩,⟨k4,_⟩⟩:=Ad (qB w (.cells #[.int .u8 k,.string ⟨t.toArray⟩,.slice ka ks.length kc,.slice da ds.length dc,.int .i64 ln] 26));refine(callsIn_wide (n:=40)).1 ?_;refine callsIn_of_wp_marks Tryz.func21 rfl trivial ?_ rfl;simp only[Tryz.ntmps21,zD,qE,qP,Nat.reduceAdd,Nat.reduceSub,Array.replicate_succ,Array.replicate_zero,List.push_toArray,List.append_toArray,zK,zJ]
  gi_wp2_with (refine⟨trivial,?_⟩;gi_at_call 42;refine(callsIn_wide.2 (J6 k t ka kc ks da dc ds ln 18 _)).mono ?_;rintro e w' ⟨rfl,rfl⟩)
  obtain⟨W2,U,aE,g0,g1,g2,g3,X⟩:=Nz w (.cells #[.int .u8 k,.string ⟨t.toArray⟩,.slice ka ks.length kc,.slice da ds.length dc,.int .i64 ln] 26) (.cells #[.int .i64 0] 3)
    (.cells #[.int .u8 k,.string ⟨t.toArray⟩,.slice ka ks.length kc,.slice da ds.length dc,.int .i64 ln] 26) (.cells #[.int .i64 18] 3) b0 hh
  rw[U];clear U k0 k1 k2 k3 k4;have Q:(Nd.mk k t ka kc ks da dc ds ln).In W2:=(Aa aB).below (by rw[hh];exact X)
  have S:=fun(V:World) (G:W2.grownBy V none)=>by
    have:=Gk (40-1) 18 (b0+1+1+1) (b0+1+1) k t ka kc ks da dc ds ln (fun r=>r<b0) (fun r=>r=b0+1+1+1) V (by omega) ((G.block _ (by omega) (by simp)).trans g3) ((G.block _ (by omega) (by simp)).trans g2)
      (Q.grown G (fun r e=>by cases e)) (fun r hr=>(Aa Z) r hr) (fun r hr=>by have:=G.size;omega) rfl
    rw[Aa HL]at this;exact this
  refine Hq rfl (by omega) (gf:=80) (lb:=#[.pointer (some ⟨b0+1+1+1,0,none⟩),.pointer (some ⟨b0+1+1,0,none⟩)]) rfl trivial (enters_of Tryz.func80 (by kernel_rfl) rfl)
    (encs:=N9) L (fun r=>r<b0) (fun r=>r=b0+1+1+1) (fun r hr=>by omega)
    (fun V G _=>S V G) (fun _=>rfl)
    (fun i M V=>Fs b0 (b0+1) w 3 (.int .i64 (Mv (L.take i))) M V) (fun _ _ _ _=>False)
    (fun i M V V' row hi G hr=>hi.abides (by omega) G hr) (fun _ _ _ _ _ _ h1 _ _=>h1.elim)
    (fun i M V hi r hr=>⟨(hi.ms r hr).2,by have:=(hi.ms r hr).1;omega⟩)
    (fun r=>r=b0+1) (fun r hr=>by subst hr;exact⟨by omega,by omega,by omega⟩)
    ⟨rfl,fun r hr=>by subst hr;exact⟨qJ _,by omega⟩,by simpa[Mv]using g1,X⟩
    (fun x=>{ tmps:=#[.agg #[.int .u8 k,.string ⟨t.toArray⟩,.slice ka ks.length kc,.slice da ds.length dc,.int .i64 ln],.pointer (some ⟨b0,0,none⟩),.int .i64 0,.pointer (some ⟨b0+1,0,none⟩),.int .i64 x.1,.agg #[.int .u8 k,.string ⟨t.toArray⟩,.slice ka ks.length kc,.slice da ds.length dc,.int .i64 ln],
      .func (.func 80) #[] #[.pointer (some ⟨b0+1+1+1,0,none⟩),.pointer (some ⟨b0+1+1,0,none⟩)],.int .i64 x.1,x.2.val,undef,undef,undef,undef],defers:=[] }) ?assign ?body ?done ?stop
  case assign=>
    intro l x W K hK;unfold N9
    gi_wp2
    exact hK
  case body=>
    rintro l i ⟨lv,nd⟩ M V hx hi hV;have N:=Re hx;simp only at N;obtain⟨c0,f0⟩:=Bp hi.cell;have Y:∀v,Au M V M (V.setCell ⟨b0+1,0,none⟩ v):=fun v=>Au.grown (grownBy_setCell' V (b0+1) v) (fun r e=>by cases e;exact .inl hi.m);have aA:=Ab Y;have R:=Ab hi;have aC:=Ab N;clear hi N hx Y
    gi_wp2
    all_goals
      refine⟨M,Aa aA _,?_⟩;have e:=Aa aC
      first
        | (have e2:Mv (L.take (i+1))=lv:=by omega
           show Fs b0 (b0+1) w 3 (.int .i64 (Mv (L.take (i+1)):Nat)) M _;rw[e2]
           exact(Aa R).set (by omega) _)
        | (have e2:Mv (L.take (i+1))=Mv (L.take i):=by omega
           show Fs b0 (b0+1) w 3 (.int .i64 (Mv (L.take (i+1)):Nat)) M _;rw[e2]
           exact(Aa R).set (by omega) _)
        | (have e3:((Mv (L.take (i+1)):Nat):Int)=max ((Mv (L.take i):Nat):Int) (lv:Int):=by omega
           show Fs b0 (b0+1) w 3 (.int .i64 ((Mv (L.take (i+1)):Nat):Int)) M _;rw[e3]
           exact(Aa R).set (by omega) _)
  case done=>
    rintro D M V rfl aD hi hK;rw[List.take_of_length_le (qJ _)]at hi;obtain⟨c0,f0⟩:=Bp hi.cell;have R:=Ab hi;clear hi
    gi_wp2
    have hI:=Aa R;refine⟨by simp,.inl ⟨_,_,rfl,run_takeDeferred hK,?_⟩⟩;refine⟨_,results_tmp rfl _ _ _,rfl,?_⟩;rw[hh];exact hI.below.grown (grownBy_putObj' V W2.heap.size (.deferred none)) (by have:=(qA.1 hI.cell).1;omega) (fun k e=>by cases e;omega)
  case stop=>
    rintro D c i M V _ _ _ h1 _;exact h1.elim
end Go.Proofs.YtnjokdbblmlhhaaGreatDoor
namespace Go.Proofs.YtnjokdbblmlhhaaGreatDoor
set_option maxHeartbeats 8000000
set_option maxRecDepth 100000
open Go.RowKit
attribute [local go_sem] Oper.semAt_some
mutual
def E6:P20.T→Prop
 | .mk k t ks ds l=>t.length≤1000000∧ks.length≤1000000000∧(∀x∈ks,x.length≤1000000)∧ds.length≤1000000000∧Hn ds
def Hn:List P20.T→Prop
 | []=>True
 |d::ds=>E6 d∧Hn ds
end
theorem Hf:∀ds:List P20.T,Hn ds↔∀d∈ds,E6 d
 | []=>by simp[Hn]
 |d::ds=>by simp[Hn,Hf ds]
theorem Ck(t:List UInt8):(⟨t.toArray⟩:ByteArray).toList.isEmpty=t.isEmpty:=by rw[Lib.toList_data]
theorem P7(k:Nat)(t:List UInt8)(ka:Option Addr)(kc D:Nat)(da:Option Addr)(dc nd:Nat)(ln:Int)(w:World)(h1:D≤1000000000)(h2:nd≤1000000000) :
  Calls Tryz.prog 43 #[.agg #[.int .u8 k,.string ⟨t.toArray⟩,.slice ka D kc,.slice da nd dc,.int .i64 ln]] w fun e w'=>e=.returned (.bool (P20.oddB k t D nd))∧Below w.heap.size w w':=by
 have hb:Below w.heap.size w (w.alloc (.cells #[.int .u8 k,.string ⟨t.toArray⟩,.slice ka D kc,.slice da nd dc,.int .i64 ln] 26)):=(qV _ w).alloc (qJ _) _;obtain⟨⟨Q,_⟩,⟨c1,_⟩,⟨c2,_⟩,⟨c3,_⟩,⟨S,_⟩⟩:=Ad (qB w (.cells #[.int .u8 k,.string ⟨t.toArray⟩,.slice ka D kc,.slice da nd dc,.int .i64 ln] 26));have hw:IntKind.i64.wrap ((D:Int)+nd)=(D:Int)+nd:=qG _ (by omega);unfold P20.oddB;by_cases I:k=1
 ·subst I;go_enter Tryz.func43,Tryz.ntmps43
  go_wp2;go_ret;refine⟨Bn ?_,hb⟩;simp;omega
 ·have R:((k:Int)==1)=false:=by rw[beq_eq_false_iff_ne];omega
  rw[if_neg I];by_cases J:k=2
  ·subst J;cases hte:t.isEmpty
   ·have G:(⟨t.toArray⟩:ByteArray).toList.isEmpty=false:=(Ck t).trans hte;go_enter Tryz.func43,Tryz.ntmps43
    go_wp2;go_ret;exact⟨Bn (by simp),hb⟩
   ·have G:(⟨t.toArray⟩:ByteArray).toList.isEmpty=true:=(Ck t).trans hte;go_enter Tryz.func43,Tryz.ntmps43
    go_wp2;go_ret;exact⟨Bn (by simp),hb⟩
  ·have N:((k:Int)==2)=false:=by rw[beq_eq_false_iff_ne];omega
   rw[if_neg J];cases hte:t.isEmpty
   ·have G:(⟨t.toArray⟩:ByteArray).toList.isEmpty=false:=(Ck t).trans hte;go_enter Tryz.func43,Tryz.ntmps43
    go_wp2;go_ret;exact⟨Bn (by simp),hb⟩
   ·have G:(⟨t.toArray⟩:ByteArray).toList.isEmpty=true:=(Ck t).trans hte;go_enter Tryz.func43,Tryz.ntmps43
    go_wp2;go_ret;refine⟨Bn ?_,hb⟩;rw[Bool.eq_iff_iff];simp;omega
theorem N5(a:Option Addr)(c:Nat)(ks:List (List UInt8))(w:World)(h:Eu w a ks)(aC:ks.length≤c)(hl:ks.length≤1000000000)(hx:∀x∈ks,x.length≤1000000) :
  Calls Tryz.prog 45 #[.slice a ks.length c] w fun e w'=>e=.returned (.int .i64 (P20.keysE [] ks))∧Below w.heap.size w w':=by
 obtain⟨n,hn⟩:∃n,ks.length=n:=⟨_,rfl⟩;rw[hn]at hl aC ⊢;have HN:=Ab hn;have HI:=Ab h;have HX:=Ab hx;clear hn h hx;go_enter Tryz.func45,Tryz.ntmps45
 go_wp2
 go_loopg [8] n (fun g s8 wx=>∃i:Nat,i+g=n∧s8=.int .i64 i∧Hid (P20.keysE [] ks=P20.keysE (ks.take i) (ks.drop i))∧Hid (Below w.heap.size w wx))
 case atStart=>exact⟨0,by omega,by go_num,Ab rfl,Ab (qV _ _)⟩
 case round=>
  obtain⟨i,aI,rfl,HD,R⟩:=hrel;cases gk with
  |zero=>
   have e1:(n:Int)=(i:Int):=by omega
   have HE:=Ab (show i=n by omega);go_wp2;go_ret;refine⟨De ?_,Aa R⟩;rw[Aa HD,qM (by rw[Aa HN];have:=Aa HE;omega)];rfl
  |succ g'=>
   have aJ:(i:Int)<(n:Int):=by omega
   have aK:(i:Int)≤(c:Int):=by omega
   have aE:c≠0:=by omega
   have aL:IntKind.i64.wrap ((i:Int)+1)=(i:Int)+1:=qG _ (by omega);obtain⟨x,J⟩:=V3 (Aa HN) (show i<n by omega);have aB:=Aa HX x (qN J)
   have hd:ks.drop i=x::ks.drop (i+1):=by
    obtain⟨aD,rfl⟩:=qI.1 J;exact qL aD
   have ht:ks.take (i+1)=ks.take i++[x]:=by rw[List.take_add_one,J];rfl
   have I:=Aa HD;rw[hd,P20.keysE]at I;obtain⟨b,o,rfl,hc⟩:=Eu.below (Aa HI) (Aa R) i x J;have X:=fun W=>Fa ⟨x.toArray⟩ 64 W (by rw[zP];show x.length≤1100000;omega);have Q:(ks.take i).length=i:=by rw[qZ,Aa HN];omega
   have S:=fun W (hb:Below wr.heap.size wr W)=>Eh (some ⟨b,o,none⟩) c (ks.take i) x W (fun j y hy=>by
    rw[List.getElem?_take]at hy;split at hy
    ·exact Eu.below (Eu.below (Aa HI) (Aa R)) hb j y hy
    ·cases hy) (by rw[Q];unfold maxLen;omega)
   rw[Q]at S;simp only[Vv]at X;rw[←ht]at I;have HT:=Ab Q;have U:=Ab X;have aA:=Ab S;have aG:=B3 hc;clear X S hd ht J aB Q HD;by_cases D:P03.check x 64=0
   ·rw[if_neg (by simpa using D)]at I;have Z:=Ab D;by_cases Y:x∈ks.take i
    ·rw[if_pos Y]at I;have N:=Ab I;have HM:=Ab Y;clear I Y D
     go_wp2_with (first
      |(go_at_call 44;refine(Aa U _).mono ?_;rintro e w1 ⟨rfl,G⟩;rw[Aa Z])
      | (go_at_call 83;refine(Aa aA _ G).mono ?_;rintro e w2 ⟨rfl,rfl⟩;rw[decide_eq_true (Aa HM)]))
     go_ret;exact⟨De (Aa N).symm,(Aa R).trans (G.mono (Aa R).size)⟩
    ·rw[if_neg Y]at I;have N:=Ab I;have HM:=Ab Y;clear I Y D
     go_wp2_with (first
      |(go_at_call 44;refine(Aa U _).mono ?_;rintro e w1 ⟨rfl,G⟩;rw[Aa Z])
      | (go_at_call 83;refine(Aa aA _ G).mono ?_;rintro e w2 ⟨rfl,rfl⟩;rw[decide_eq_false (Aa HM)]))
     go_roundg g'
     case measure=>omega
     case rel=>exact⟨i+1,by omega,by go_num,N,Ab ((Aa R).trans (G.mono (Aa R).size))⟩
   ·rw[if_pos D]at I;obtain⟨e,he⟩:∃e,P03.check x 64=e:=⟨_,rfl⟩;rw[he]at I D;have aH:(e != 0)=true:=by simpa using D
    have HE:=Ab he;have N:=Ab I;clear I D he
    go_wp2_with (first
     | (go_at_call 44;refine(Aa U _).mono ?_;rintro e' w1 ⟨rfl,G⟩;rw[Aa HE]))
    go_ret;exact⟨De (Aa N).symm,(Aa R).trans (G.mono (Aa R).size)⟩
mutual
theorem Nd.preN_in{W:World}(most:Nat):∀(d:Nd) (lv:Nat),d.In W→E6 d.bare→∀x∈d.preN most lv,x.2.In W∧(∀r,x.2.blk r→d.blk r)∧E6 x.2.bare
 | .mk k t ka kc ks da dc ds l,lv,h,ho,x,hx=>by
  unfold Nd.preN at hx;split at hx
  ·simp at hx
  ·rcases zN.1 hx with rfl|hx
   ·exact⟨h,fun r hr=>hr,ho⟩
   ·have hk:=h.kids;simp only[Nd.da,Nd.kids]at hk;unfold Nd.bare E6 at ho;obtain⟨a,b,c⟩:=Lq most ds (lv+1) da 0 hk ho.2.2.2.2 x hx;exact⟨a,fun r hr=>by rw[Es];exact .inr (.inr (b r hr)),c⟩
theorem Lq{W:World}(most:Nat):∀(ds:List Nd) (lv:Nat) (a:Option Addr) (i:Nat),InL W a i ds→Hn (Am ds)→∀x∈Cn most lv ds,x.2.In W∧(∀r,x.2.blk r→blkL r ds)∧E6 x.2.bare
 | [],lv,a,i,h,ho,x,hx=>by simp[Cn]at hx
 |d::ds,lv,a,i,h,ho,x,hx=>by
  unfold Cn at hx;simp only[InL]at h;unfold Am Hn at ho;rcases zE.1 hx with hx|hx
  ·obtain⟨p,q,r⟩:=Nd.preN_in most d lv h.2.1 ho.1 x hx;exact⟨p,fun g D=>.inl (q g D),r⟩
  ·obtain⟨p,q,r⟩:=Lq most ds lv a (i+1) h.2.2 ho.2 x hx;exact⟨p,fun g D=>.inr (q g D),r⟩
end
theorem L4{L:List (Nat × P20.T)}{i:Nat}{x:Nat × P20.T}(h:P20.firstE (L.take i)=0)(hx:L[i]?=some x)(hn:P20.nodeE x.1 x.2≠0):P20.firstE L=P20.nodeE x.1 x.2:=by
 obtain⟨hl,he⟩:=qI.1 hx
 have e:L=L.take i++x::L.drop (i+1):=by
  have h2:=List.take_append_drop i L;rw[qL hl,he]at h2;exact h2.symm
 rw[e,P20.firstE_append,if_neg (by simpa using h)];simp only[P20.firstE];rw[if_pos hn]
theorem Py{L:List (Nat × P20.T)}{i:Nat}{x:Nat × P20.T}(h:P20.firstE (L.take i)=0)(hx:L[i]?=some x)(hn:P20.nodeE x.1 x.2=0):P20.firstE (L.take (i+1))=0:=by
 rw[List.take_add_one,hx,P20.firstE_append,if_neg (by simpa using h)];simp[P20.firstE,hn]
theorem Gj{P:Program}(w:World)(a:Addr)(G:TypeId)(v:Value)(d:TypeDesc)(hu:P.underlying G=some d)(hd:(match d with | .struct _ | .array _ _=>true|_=>false)=false)(hc:w.cell? a=some v) :
  (loadVar G a).run P w=.ok v w:=by
 have D:(isAgg G).run P w=.ok false w:=by
  unfold isAgg;rw[Sem.run_bind,run_underlying hu w];cases d<;>simp_all
 simp[loadVar,Sem.run_bind,D,hc,go_sem]
theorem Av{G:Func}{p:Tmp}{t:TypeId}(h:G.results=#[.cell p t])(tmps:Array Value)(P:Program)(w:World)(g:Nat)(v:Value)
  (hp:tmps.getD p undef=.pointer (some ⟨g,0,none⟩)) (hl:(loadVar t ⟨g,0,none⟩).run P w=.ok v w):(results G tmps).run P w=.ok v w:=by
 have D:tmps[p]?.getD undef=.pointer (some ⟨g,0,none⟩):=by simpa using hp
 simp[results,h,D,asAddr,Sem.run_bind,Result.andThen,hl]
theorem Lv(d:Nd)(w:World)(aU:d.In w)(bO:E6 d.bare) :
  Calls Tryz.prog 16 #[d.val] w fun e w'=>e=.returned (.int .i64 (d.bare.check 1))∧Below w.heap.size w w':=by
 obtain⟨k,t,ka,kc,ks,da,dc,ds,ln⟩:=d;obtain⟨L,hL⟩:∃L,(Nd.mk k t ka kc ks da dc ds ln).preN 17 1=L:=⟨_,rfl⟩;have aN:(Nd.mk k t ka kc ks da dc ds ln).bare.check 1=P20.firstE (L.map Fq):=by rw[←P20.T.check_pre _ 1 (by omega),←Nd.preN_bare,hL]
 have aO:=Nd.preN_in 17 _ 1 aU bO;rw[hL]at aO;rw[aN,Nd.val_eq];obtain⟨b0,hh⟩:∃b0,w.heap.size=b0:=⟨_,rfl⟩;have HL:=Ab hL;have bF:=fun r (hr:(Nd.mk k t ka kc ks da dc ds ln).blk r)=>aU.lt hr;rw[hh]at bF;have bX:=Ab aU;have bI:=Ab bF;have bS:=Ab aO;clear hL aU bF aN aO bO;obtain⟨⟨k0,_⟩,⟨k1,_⟩,⟨k2,_⟩,⟨k3,_⟩,⟨k4,_⟩⟩:=Ad (qB w (.cells #[.int .u8 k,.string ⟨t.toArray⟩,.slice ka ks.length kc,.slice da ds.length dc,.int .i64 ln] 26));refine(callsIn_wide (n:=40)).1 ?_;refine callsIn_of_wp_marks Tryz.func16 rfl trivial ?_ rfl;simp only[Tryz.ntmps16,zD,qE,qP,Nat.reduceAdd,Nat.reduceSub,Array.replicate_succ,Array.replicate_zero,List.push_toArray,List.append_toArray,zK,zJ]
 gi_wp2_with (refine⟨trivial,?_⟩;gi_at_call 42;refine(callsIn_wide.2 (J6 k t ka kc ks da dc ds ln 17 _)).mono ?_;rintro e w' ⟨rfl,rfl⟩)
 obtain⟨W2,bR,cC,g0,g1,g2,g3,aA⟩:=Nz w (.cells #[.int .u8 k,.string ⟨t.toArray⟩,.slice ka ks.length kc,.slice da ds.length dc,.int .i64 ln] 26) (.cells #[.int .i64 0] 27)
  (.cells #[.int .u8 k,.string ⟨t.toArray⟩,.slice ka ks.length kc,.slice da ds.length dc,.int .i64 ln] 26) (.cells #[.int .i64 17] 3) b0 hh
 rw[bR];clear bR k0 k1 k2 k3 k4;have bK:(Nd.mk k t ka kc ks da dc ds ln).In W2:=(Aa bX).below (by rw[hh];exact aA)
 have bP:=fun(V:World) (hg:W2.grownBy V none)=>by
  have:=Gk (40-1) 17 (b0+1+1+1) (b0+1+1) k t ka kc ks da dc ds ln (fun r=>r<b0) (fun r=>r=b0+1+1+1) V (by omega) ((hg.block _ (by omega) (by simp)).trans g3) ((hg.block _ (by omega) (by simp)).trans g2)
   (bK.grown hg (fun r e=>by cases e)) (fun r hr=>(Aa bI) r hr) (fun r hr=>by have:=hg.size;omega) rfl
  rw[Aa HL]at this;exact this
 refine Dp rfl (by omega) (gf:=80) (lb:=#[.pointer (some ⟨b0+1+1+1,0,none⟩),.pointer (some ⟨b0+1+1,0,none⟩)]) rfl trivial (enters_of Tryz.func80 (by kernel_rfl) rfl)
  (encs:=N9) L (fun r=>r<b0) (fun r=>r=b0+1+1+1) (fun r hr=>by omega)
  (fun V hg _=>bP V hg) (fun _=>rfl)
  (fun i M V=>Fs b0 (b0+1) w 27 (.int .i64 0) M V∧P20.firstE ((L.map Fq).take i)=0)
  (fun c i M V=>c=.ret∧Fs b0 (b0+1) w 27 (.int .i64 (P20.firstE (L.map Fq))) M V)
  (fun i M V J row hi hg hr=>⟨hi.1.abides (by omega) hg hr,hi.2⟩) (fun c i M V J row hi hg hr=>⟨hi.1,hi.2.abides (by omega) hg hr⟩)
  (fun i M V hi r hr=>⟨(hi.1.ms r hr).2,by have:=(hi.1.ms r hr).1;omega⟩)
  (fun r=>r=b0+1) (fun r hr=>by subst hr;exact⟨by omega,by omega,by omega⟩)
  ⟨⟨rfl,fun r hr=>by subst hr;exact⟨qJ _,by omega⟩,g1,aA⟩,rfl⟩
  (fun i x M a' V=>Fs b0 (b0+1) w 27 (.int .i64 0) M V∧P20.firstE ((L.map Fq).take i)=0∧∃g,M g∧b0+4≤g∧V.heap[g]?=some (.cells #[.int .u8 x.2.kind,.string ⟨x.2.text.toArray⟩,x.2.kV,x.2.dV,.int .i64 x.2.line] 26) ∧
   a'={ tmps:=#[.agg #[.int .u8 k,.string ⟨t.toArray⟩,.slice ka ks.length kc,.slice da ds.length dc,.int .i64 ln],.pointer (some ⟨b0,0,none⟩),.pointer (some ⟨b0+1,0,none⟩),.int .i64 x.1,.pointer (some ⟨g,0,none⟩),undef,undef,.agg #[.int .u8 k,.string ⟨t.toArray⟩,.slice ka ks.length kc,.slice da ds.length dc,.int .i64 ln],
    .func (.func 80) #[] #[.pointer (some ⟨b0+1+1+1,0,none⟩),.pointer (some ⟨b0+1+1,0,none⟩)],.int .i64 x.1,x.2.val,undef,undef,undef,undef,undef,undef,undef,undef,undef,undef,undef,undef,undef,undef,undef,undef,undef,undef,undef,undef,undef,undef,undef,undef,undef,undef,undef],defers:=[] })
  ?hB ?assign ?body ?done ?stop
 case hB=>
  rintro i x M a' V J row ⟨hi,h0,g,aZ,bT,aB,rfl⟩ hg hr;exact⟨hi.abides (by omega) hg hr,h0,g,aZ,bT,(hg.block g (qA.1 aB).1 (fun e=>(hr g e.symm).1 aZ)).trans aB,rfl⟩
 case assign=>
  rintro l2 i ⟨lv,nd⟩ M V K hx ⟨hi,h0⟩ hV hK;obtain⟨k',t',N,Q,ks',U,Y,ds',X⟩:=nd;unfold N9;simp only[Nd.val_eq];have aT:=qR V (.cells #[.int .u8 k',.string ⟨t'.toArray⟩,.slice N ks'.length Q,.slice U ds'.length Y,.int .i64 X] 26) none
  have bV:=hK (fun r=>M r∨r=V.heap.size) _ (V.alloc (.cells #[.int .u8 k',.string ⟨t'.toArray⟩,.slice N ks'.length Q,.slice U ds'.length Y,.int .i64 X] 26)) aT (fun r hr=>hr.imp id (fun e=>by omega))
   ⟨⟨.inl hi.m,fun r hr=>by
     rcases hr with hr|rfl
     ·have:=hi.ms r hr;simp;omega
     ·have:=(qA.1 hi.cell).1;simp;omega,(aT.block _ (qA.1 hi.cell).1 (by simp)).trans hi.cell,hi.below.grown aT (by have:=(qA.1 hi.cell).1;omega) (fun k e=>by cases e)⟩,h0,
    V.heap.size,.inr rfl,by omega,qB V _,rfl⟩
  have HK:=Ab bV;clear bV hK aT
  gi_wp2
  exact Aa HK
 case body=>
  rintro l2 i ⟨lv,nd⟩ M a' V hx ⟨hi,h0,g,aZ,bT,aB,rfl⟩ hV;obtain⟨aM,aX,aW⟩:=Aa bS _ (qN hx);obtain⟨k',t',N,Q,ks',U,Y,ds',X⟩:=nd;simp only[Nd.kind,Nd.text,Nd.kV,Nd.dV,Nd.keys,Nd.kids,Nd.ka,Nd.kc,Nd.da,Nd.dc,Nd.line]at aB;simp only[Nd.val_eq];obtain⟨⟨c0,_⟩,⟨c1,_⟩,⟨c2,_⟩,⟨c3,_⟩,⟨c4,_⟩⟩:=Ad aB;obtain⟨e0,f0⟩:=Bp hi.cell;have bC:(L.map Fq)[i]?=some (lv,(Nd.mk k' t' N Q ks' U Y ds' X).bare):=by rw[zF,hx];rfl
  have aY:(Nd.mk k' t' N Q ks' U Y ds' X).In V:=aM.keep (fun r hr=>hi.below.block r (Aa bI r (aX r hr)))
  have S:∀J,Below V.heap.size V J→Fs b0 (b0+1) w 27 (.int .i64 0) M J∧Au M V M J:=fun J hb=>
   ⟨hi.abides (by omega) (Aj hb none) (fun r e=>by cases e),.grown (Aj hb none) (fun r e=>by cases e)⟩
  have aH:∀(A:Act) J e,e=P20.nodeE lv (Nd.mk k' t' N Q ks' U Y ds' X).bare→e≠0→Below V.heap.size V J→Po (fun i M V=>Fs b0 (b0+1) w 27 (.int .i64 0) M V∧P20.firstE ((L.map Fq).take i)=0)
    (fun c i M V=>c=.ret∧Fs b0 (b0+1) w 27 (.int .i64 (P20.firstE (L.map Fq))) M V) i M V .ret A (J.setCell ⟨b0+1,0,none⟩ (.int .i64 e)):=fun A J e he hn hb=>by
   obtain⟨h1,h2⟩:=S J hb;refine⟨M,h2.trans (.grown (grownBy_setCell' J (b0+1) _) (fun r e=>by cases e;exact .inl h1.m)),rfl,?_⟩;rw[L4 h0 bC (by rw[←he];exact hn),←he];exact h1.set (by omega) _
  have bE:P20.nodeE lv (Nd.mk k' t' N Q ks' U Y ds' X).bare=0→∀(A:Act) J,Below V.heap.size V J→Po (fun i M V=>Fs b0 (b0+1) w 27 (.int .i64 0) M V∧P20.firstE ((L.map Fq).take i)=0)
    (fun c i M V=>c=.ret∧Fs b0 (b0+1) w 27 (.int .i64 (P20.firstE (L.map Fq))) M V) i M V .normal A J:=fun he A J hb=>by
   obtain⟨h1,h2⟩:=S J hb;exact⟨M,h2,h1,Py h0 bC he⟩
  have aL:P20.nodeE lv (Nd.mk k' t' N Q ks' U Y ds' X).bare=if 16<lv then 11 else if k'<1∨3<k' then 7 else if P20.oddB k' t' ks'.length ds'.length=true then 3 else if P03.check t' 4096≠0 then P03.check t' 4096 else P20.keysE [] ks':=by
   simp only[Nd.bare,P20.nodeE,Bs]
  rw[aL]at aH bE;unfold Nd.bare E6 at aW;obtain⟨o1,o2,o3,o4,_⟩:=aW;rw[Bs]at o4;have aK:=aY.fit;have aD:=aK.keys;have bB:=aK.keysC;simp only[Nd.keys,Nd.ka,Nd.kc]at aD bB;have bL:=fun V=>P7 k' t' N Q ks'.length U Y ds'.length X V o2 o4;have bG:=fun V=>Fa ⟨t'.toArray⟩ 4096 V (by rw[zP];show t'.length≤1100000;omega);simp only[Vv]at bG;have bM:=fun J (hb:Below V.heap.size V J)=>N5 N Q ks' J (aD.below hb) bB o2 o3;have aG:=(qA.1 aB).1;have bU:=fun J (hb:Below V.heap.size V J)=>(S J hb).1.cell;have HS:=Ab aH;have cB:=Ab bE;have aS:=Ab bL;have bD:=Ab bG;have bJ:=Ab bM;have aC:=Ab aB;have R:=Ab bU;clear aH bE bL bG bM aB bU S aL aK aD bB aY bC aM aX h0 hi hx o1 o2 o3 o4;by_cases n1:16<lv
  ·have j1:(16:Int)<(lv:Int):=by omega
   have hn:16<lv:=n1;clear n1
   gi_wp2
   exact Aa HS _ V 11 (by rw[if_pos hn]) (by decide) (qV _ _)
  have j1:(lv:Int)≤16:=by omega
  have aJ:=Ab n1;clear n1;by_cases n2:k'<1∨3<k'
  ·have aI:=Ab n2;rcases n2 with n2|n2
   ·have j2:(k':Int)<1:=by omega
    clear n2
    gi_wp2
    exact Aa HS _ V 7 (by rw[if_neg (Aa aJ),if_pos (Aa aI)]) (by decide) (qV _ _)
   ·have j2:(1:Int)≤(k':Int):=by omega
    have j3:(3:Int)<(k':Int):=by omega
    clear n2
    gi_wp2
    exact Aa HS _ V 7 (by rw[if_neg (Aa aJ),if_pos (Aa aI)]) (by decide) (qV _ _)
  have j2:(1:Int)≤(k':Int):=by omega
  have j3:(k':Int)≤3:=by omega
  have aI:=Ab n2;clear n2;obtain⟨bo,bN⟩:∃bo,P20.oddB k' t' ks'.length ds'.length=bo:=⟨_,rfl⟩;have HO:=Ab bN;clear bN;cases bo
  rotate_left
  ·gi_wp2_with (first
    | (refine⟨trivial,?_⟩;gi_at_call 43;refine(CallsIn.inRound l2 (callsIn_wide.2 (Aa aS _))).mono ?_;rintro e w1 ⟨rfl,I⟩;rw[Aa HO];obtain⟨⟨q0,_⟩,⟨q1,_⟩,⟨q2,_⟩,⟨q3,_⟩,⟨q4,_⟩⟩:=Ad ((I.block g aG).trans (Aa aC));obtain⟨p0,p1⟩:=Bp (Aa R _ I)))
   exact Aa HS _ w1 3 (by rw[if_neg (Aa aJ),if_neg (Aa aI),if_pos (Aa HO)]) (by decide) I
  have bA:=Ab (nb (Aa HO));obtain⟨ec,aQ⟩:∃ec,P03.check t' 4096=ec:=⟨_,rfl⟩;by_cases n4:ec=0
  rotate_left
  ·have j4:(ec != 0)=true:=by simpa using n4
   have HC:=Ab aQ;have bQ:=Ab n4;clear aQ n4
   gi_wp2_with (first
    |(refine⟨trivial,?_⟩;gi_at_call 43;refine(CallsIn.inRound l2 (callsIn_wide.2 (Aa aS _))).mono ?_;rintro e w1 ⟨rfl,I⟩;rw[Aa HO];obtain⟨⟨q0,_⟩,⟨q1,_⟩,⟨q2,_⟩,⟨q3,_⟩,⟨q4,_⟩⟩:=Ad ((I.block g aG).trans (Aa aC));obtain⟨p0,p1⟩:=Bp (Aa R _ I))
    | (refine⟨trivial,?_⟩;gi_at_call 44;refine(CallsIn.inRound l2 (callsIn_wide.2 (Aa bD _))).mono ?_;rintro e w2 ⟨rfl,aA⟩;rw[Aa HC];have G:=I.trans (aA.mono I.size);obtain⟨⟨q0,_⟩,⟨q1,_⟩,⟨q2,_⟩,⟨q3,_⟩,⟨q4,_⟩⟩:=Ad ((G.block g aG).trans (Aa aC));obtain⟨p0,p1⟩:=Bp (Aa R _ G)))
   exact Aa HS _ w2 ec (by rw[if_neg (Aa aJ),if_neg (Aa aI),if_neg (Aa bA),if_pos (by rw[Aa HC];exact Aa bQ),Aa HC]) (Aa bQ) G
  subst n4;have HC:=Ab aQ;clear aQ;have bW:=Ab (show ¬P03.check t' 4096≠0 by rw[Aa HC];simp);obtain⟨ek,aR⟩:∃ek,P20.keysE [] ks'=ek:=⟨_,rfl⟩;by_cases n5:ek=0
  rotate_left
  ·have j5:(ek != 0)=true:=by simpa using n5
   have HK:=Ab aR;have bY:=Ab n5;clear aR n5
   gi_wp2_with (first
    |(refine⟨trivial,?_⟩;gi_at_call 43;refine(CallsIn.inRound l2 (callsIn_wide.2 (Aa aS _))).mono ?_;rintro e w1 ⟨rfl,I⟩;rw[Aa HO];obtain⟨⟨q0,_⟩,⟨q1,_⟩,⟨q2,_⟩,⟨q3,_⟩,⟨q4,_⟩⟩:=Ad ((I.block g aG).trans (Aa aC));obtain⟨p0,p1⟩:=Bp (Aa R _ I))
    |(refine⟨trivial,?_⟩;gi_at_call 44;refine(CallsIn.inRound l2 (callsIn_wide.2 (Aa bD _))).mono ?_;rintro e w2 ⟨rfl,aA⟩;rw[Aa HC];have G:=I.trans (aA.mono I.size);obtain⟨⟨q0,_⟩,⟨q1,_⟩,⟨q2,_⟩,⟨q3,_⟩,⟨q4,_⟩⟩:=Ad ((G.block g aG).trans (Aa aC));obtain⟨p0,p1⟩:=Bp (Aa R _ G))
    | (refine⟨trivial,?_⟩;gi_at_call 45;refine(CallsIn.inRound l2 (callsIn_wide.2 (Aa bJ _ G))).mono ?_;rintro e w3 ⟨rfl,bH⟩;rw[Aa HK];have Z:=G.trans (bH.mono G.size);obtain⟨p0,p1⟩:=Bp (Aa R _ Z)))
   exact Aa HS _ w3 ek (by rw[if_neg (Aa aJ),if_neg (Aa aI),if_neg (Aa bA),if_neg (Aa bW),Aa HK]) (Aa bY) Z
  subst n5;have HK:=Ab aR;clear aR
  gi_wp2_with (first
   |(refine⟨trivial,?_⟩;gi_at_call 43;refine(CallsIn.inRound l2 (callsIn_wide.2 (Aa aS _))).mono ?_;rintro e w1 ⟨rfl,I⟩;rw[Aa HO];obtain⟨⟨q0,_⟩,⟨q1,_⟩,⟨q2,_⟩,⟨q3,_⟩,⟨q4,_⟩⟩:=Ad ((I.block g aG).trans (Aa aC));obtain⟨p0,p1⟩:=Bp (Aa R _ I))
   |(refine⟨trivial,?_⟩;gi_at_call 44;refine(CallsIn.inRound l2 (callsIn_wide.2 (Aa bD _))).mono ?_;rintro e w2 ⟨rfl,aA⟩;rw[Aa HC];have G:=I.trans (aA.mono I.size);obtain⟨⟨q0,_⟩,⟨q1,_⟩,⟨q2,_⟩,⟨q3,_⟩,⟨q4,_⟩⟩:=Ad ((G.block g aG).trans (Aa aC));obtain⟨p0,p1⟩:=Bp (Aa R _ G))
   | (refine⟨trivial,?_⟩;gi_at_call 45;refine(CallsIn.inRound l2 (callsIn_wide.2 (Aa bJ _ G))).mono ?_;rintro e w3 ⟨rfl,bH⟩;rw[Aa HK];have Z:=G.trans (bH.mono G.size);obtain⟨p0,p1⟩:=Bp (Aa R _ Z)))
  exact Aa cB (by rw[if_neg (Aa aJ),if_neg (Aa aI),if_neg (Aa bA),if_neg (Aa bW),Aa HK]) _ w3 Z
 case done=>
  rintro D M V rfl cA ⟨hi,h0⟩ hK;have hz:P20.firstE (L.map Fq)=0:=by rw[←h0,List.take_of_length_le (by simp)]
  have HZ:=Ab hz;obtain⟨c0,f0⟩:=Bp hi.cell;have HI:=Ab hi;clear hi hz h0
  gi_wp2
  have hI:=(Aa HI).set (by omega) (.int .i64 0);have bZ:(V.setCell ⟨b0+1,0,none⟩ (.int .i64 0)).heap[W2.heap.size]?=some (.deferred (some [])):=(qC _ _ _ _ (by show W2.heap.size≠b0+1;omega)).trans hK;refine⟨by simp,.inl ⟨_,_,rfl,run_takeDeferred bZ,?_⟩⟩;have aE:=(World.putObj_heap_other (o:=.deferred none) (show b0+1≠W2.heap.size by omega)).trans hI.cell;refine⟨_,Av rfl _ _ _ (b0+1) _ rfl (Gj _ _ _ _ _ Tryz.underlying27 rfl (Bp aE).1),by rw[Aa HZ],?_⟩;rw[hh];exact hI.below.grown (grownBy_putObj' _ W2.heap.size (.deferred none)) (by have:=(qA.1 hI.cell).1;omega) (fun k e=>by cases e;omega)
 case stop=>
  rintro D c i M V rfl cA hi ⟨rfl,hI⟩ hK
  gi_wp2
  refine⟨by simp,.inl ⟨_,_,rfl,run_takeDeferred hK,?_⟩⟩;have aE:=(World.putObj_heap_other (o:=.deferred none) (show b0+1≠W2.heap.size by omega)).trans hI.cell;refine⟨_,Av rfl _ _ _ (b0+1) _ rfl (Gj _ _ _ _ _ Tryz.underlying27 rfl (Bp aE).1),rfl,?_⟩;rw[hh];exact hI.below.grown (grownBy_putObj' _ W2.heap.size (.deferred none)) (by have:=(qA.1 hI.cell).1;omega) (fun k e=>by cases e;omega)
end Go.Proofs.YtnjokdbblmlhhaaGreatDoor
namespace Go.Proofs.YtnjokdbblmlhhaaGreatDoor
set_option maxHeartbeats 8000000
set_option maxRecDepth 100000
open Go.RowKit Go.Deep Go.ChangeShapes
end Go.Proofs.YtnjokdbblmlhhaaGreatDoor
namespace Go.Proofs.YtnjokdbblmlhhaaGreatDoor
set_option maxHeartbeats 8000000
set_option maxRecDepth 100000
open Go.RowKit
end Go.Proofs.YtnjokdbblmlhhaaGreatDoor
