/- Lemmas of this claim. -/
import Derived.Test.YtnjokdbblmlhhaaGreatDoorGW20Y
import Derived.Test.YtnjokdbblmlhhaaGreatDoorPlain22Y
set_option linter.unusedVariables false
set_option linter.unusedSimpArgs false
namespace Go.Proofs.YtnjokdbblmlhhaaGreatDoor
open Go.RowKit
structure El (α:Type) where
 T:TypeId
 n:Nat
 cs:α→List Value
 In:World→α→Prop
 blk:α→Nat→Prop
 keep:∀W W' x,In W x→(∀r,blk x r→W'.heap[r]?=W.heap[r]?)→In W' x
 lt:∀W x r,In W x→blk x r→r<W.heap.size
 len:∀x,(cs x).length=n
 one:∀x,∀u∈cs x,u.oneCell'=true
 pos:0<n
namespace El
variable {α:Type} (E:El α)
def all(xs:List α):List Value:=xs.flatMap E.cs
theorem M9(xs ys:List α):E.all (xs++ys)=E.all xs++E.all ys:=by simp[all]
theorem O4:∀(xs:List α) (i:Nat) (x:α),xs[i]?=some x→∀j,j<E.n→(E.all xs)[i*E.n+j]?=(E.cs x)[j]?
 | [],i,x,h,j,hj=>by simp at h
 |y::xs,0,x,h,j,hj=>by
  simp only[List.getElem?_cons_zero,zG]at h;subst h;have D:E.all (y::xs)=E.cs y++E.all xs:=rfl;rw[D,Nat.zero_mul,Nat.zero_add,List.getElem?_append_left (by rw[E.len];exact hj)]
 |y::xs,i+1,x,h,j,hj=>by
  have ih:=O4 xs i x (by simpa using h) j hj;have D:E.all (y::xs)=E.cs y++E.all xs:=rfl;have G:=E.len y;rw[D,zA (by rw[G,Nat.add_mul];omega),G,show (i+1)*E.n+j-E.n=i*E.n+j from by rw[Nat.add_mul];omega];exact ih
def At(W:World)(b o:Nat)(x:α):Prop:=∀i v,(E.cs x)[i]?=some v→W.cell? ⟨b,o+i,none⟩=some v
def InL(W:World)(a:Option Addr)(xs:List α):Prop:=∀j x,xs[j]?=some x→(∃b o,a=some ⟨b,o,none⟩∧E.At W b (o+j*E.n) x)∧E.In W x
def blkL(a:Option Addr)(xs:List α)(r:Nat):Prop:=(xs≠[]∧Bj a r)∨∃x∈xs,E.blk x r
variable {E}
theorem InL.keep{W W':World}{a:Option Addr}{xs:List α}(h:E.InL W a xs)(hk:∀r,E.blkL a xs r→W'.heap[r]?=W.heap[r]?):E.InL W' a xs:=by
 intro j x hj;obtain⟨⟨b,o,rfl,hc⟩,hi⟩:=h j x hj;have D:=qN hj;refine⟨⟨b,o,rfl,fun i v hv=>(Ag (hk b (.inl ⟨List.ne_nil_of_mem D,o,rfl⟩)) _).trans (hc i v hv)⟩,E.keep _ _ _ hi (fun r hr=>hk r (.inr ⟨x,D,hr⟩))⟩
theorem InL.lt{W:World}{a:Option Addr}{xs:List α}(h:E.InL W a xs){r:Nat}(hr:E.blkL a xs r):r<W.heap.size:=by
 rcases hr with⟨hn,o,rfl⟩|⟨x,D,hr⟩
 ·cases xs with
  |nil=>exact absurd rfl hn
  |cons x xs=>
   obtain⟨⟨b,o',e,hc⟩,_⟩:=h 0 x rfl;injection e with e;injection e with e;subst e;have hp:=E.pos;have hl:=E.len x;have:=hc 0 ((E.cs x)[0]'(by omega)) (qO _);exact B3 this
 ·obtain⟨j,hj⟩:=List.getElem?_of_mem D;exact E.lt _ _ _ (h j x hj).2 hr
theorem InL.below{W W':World}{a:Option Addr}{xs:List α}(h:E.InL W a xs)(hb:Below W.heap.size W W'):E.InL W' a xs:=h.keep (fun r hr=>hb.block r (h.lt hr))
theorem InL.nil(W:World)(a:Option Addr):E.InL W a []:=fun j x h=>by simp at h
theorem InL.get{W:World}{a:Option Addr}{xs:List α}(h:E.InL W a xs){j:Nat}{x:α}(hj:xs[j]?=some x):∃b o,a=some ⟨b,o,none⟩∧E.At W b (o+j*E.n) x∧E.In W x:=by
 obtain⟨⟨b,o,e,hc⟩,hi⟩:=h j x hj;exact⟨b,o,e,hc,hi⟩
structure OwnC (E:El α) (W:World) (B C:Nat) (v:Value) (xs:List α):Prop where
 own:W.ownsRow B E.T E.n v xs.length (E.all xs)
 ins:∀x∈xs,E.In W x
 new:∀x∈xs,∀g,E.blk x g→C≤g
 sep:∀x∈xs,∀g,E.blk x g→v.ownBlock≠some g
abbrev Own(E:El α)(W:World)(B:Nat)(v:Value)(xs:List α):Prop:=OwnC E W B B v xs
theorem OwnC.nil(W:World)(B C:Nat):E.OwnC W B C (.slice none 0 0) []:=⟨⟨by simp[all],.inl ⟨rfl,rfl⟩⟩,by simp,by simp,by simp⟩
theorem OwnC.keep{W W':World}{B C:Nat}{v:Value}{xs:List α}(h:E.OwnC W B C v xs)(hr:∀g,v.ownBlock=some g→W'.heap[g]?=W.heap[g]?)(hd:∀x∈xs,∀g,E.blk x g→W'.heap[g]?=W.heap[g]?):E.OwnC W' B C v xs:=
 ⟨Ds h.own hr,fun x D=>E.keep _ _ _ (h.ins x D) (hd x D),h.new,h.sep⟩
theorem OwnC.grown{W W':World}{B C:Nat}{v:Value}{xs:List α}{row:Option Nat}(h:E.OwnC W B C v xs)(G:W.grownBy W' row)(hr:∀g,row=some g→v.ownBlock≠some g∧∀x∈xs,¬E.blk x g):E.OwnC W' B C v xs:=
 h.keep (fun g hv=>G.block g (Ao h.own g hv).2 (fun e=>(hr g e.symm).1 hv)) (fun x D g hb=>G.block g (E.lt _ _ _ (h.ins x D) hb) (fun e=>(hr g e.symm).2 x D hb))
theorem OwnC.alloc{W:World}{B C:Nat}{v:Value}{xs:List α}(h:E.OwnC W B C v xs)(o:Obj):E.OwnC (W.alloc o) B C v xs:=h.grown (qR W o none) (fun g e=>by cases e)
theorem OwnC.base2{W:World}{B B' C G:Nat}{v:Value}{xs:List α}(h:E.OwnC W B C v xs)(hB:B'≤B)(J:G≤C):E.OwnC W B' G v xs:=by
 refine⟨⟨h.own.1,?_⟩,h.ins,fun x Q g I=>qK J (h.new x Q g I),h.sep⟩;rcases h.own.2 with h2|⟨g,cap,D,N,R,S⟩
 ·exact .inl h2
 ·exact .inr ⟨g,cap,D,N,qK hB R,S⟩
theorem OwnC.base{W:World}{B B':Nat}{v:Value}{xs:List α}(h:E.Own W B v xs)(hB:B'≤B):E.Own W B' v xs:=h.base2 hB hB
theorem OwnC.slice{W:World}{B C:Nat}{v:Value}{xs:List α}(h:E.OwnC W B C v xs):∃a c,v=.slice a xs.length c∧xs.length≤c∧c≤maxLen∧E.InL W a xs∧(∀g,E.blkL a xs g→B≤g∨C≤g):=by
 obtain⟨ho,hi,hn,hs⟩:=h;rcases ho.2 with⟨rfl,h0⟩|⟨g,cap,N,rfl,hb,hh,hc,S,R,I⟩
 ·have:xs=[]:=qU h0;subst this;exact⟨none,0,rfl,qJ _,Nat.zero_le _,InL.nil _ _,fun g D=>by rcases D with⟨h,_⟩|⟨x,h,_⟩<;>simp at h⟩
 ·refine⟨_,cap,rfl,hc,S,fun j x hj=>⟨⟨g,0,rfl,fun i v hv=>?_⟩,hi x (qN hj)⟩,fun g' D=>?_⟩
  ·have Q:=(qI.1 hj).1;have J:i<E.n:=by have:=(qI.1 hv).1;rw[E.len]at this;exact this
   have h1:=O4 E xs j x hj i J;have G:j*E.n+i<xs.length*E.n:=zB (by rw[Nat.add_mul,Nat.one_mul];omega:j*E.n+i<(j+1)*E.n) (Nat.mul_le_mul_right _ Q);rw[←I,List.getElem?_take_of_lt G,hv]at h1;rw[Nat.zero_add,cell_of_row W g (j*E.n+i) N _ (0,0) hh];simpa using h1
  ·rcases D with⟨_,o,e⟩|⟨x,hx,D⟩
   ·cases e;exact .inl hb
   ·exact .inr (hn x hx g' D)
def ob(E:El α)(v:Value)(xs:List α)(g:Nat):Prop:=v.ownBlock=some g∨∃x∈xs,E.blk x g
theorem OwnC.ob_lt{W:World}{B C:Nat}{v:Value}{xs:List α}(h:E.OwnC W B C v xs){g:Nat}(D:E.ob v xs g):(B≤g∨C≤g)∧g<W.heap.size:=by
 rcases D with D|⟨x,G,D⟩
 ·exact⟨.inl (Ao h.own g D).1,(Ao h.own g D).2⟩
 ·exact⟨.inr (h.new x G g D),E.lt _ _ _ (h.ins x G) D⟩
theorem OwnC.ob_le{W:World}{B:Nat}{v:Value}{xs:List α}(h:E.Own W B v xs){g:Nat}(D:E.ob v xs g):B≤g∧g<W.heap.size:=⟨by have:=(h.ob_lt D).1;omega,(h.ob_lt D).2⟩
theorem OwnC.stay{W W':World}{B C:Nat}{v:Value}{xs:List α}(h:E.OwnC W B C v xs)(hk:∀g,E.ob v xs g→W'.heap[g]?=W.heap[g]?):E.OwnC W' B C v xs:=
 h.keep (fun g D=>hk g (.inl D)) (fun x G g D=>hk g (.inr ⟨x,G,D⟩))
theorem ob_more{v v':Value}{xs:List α}{x:α}{n:Nat}(I:v'.ownBlock=v.ownBlock∨∃g,v'.ownBlock=some g∧n≤g){g:Nat}(D:E.ob v' (xs++[x]) g):E.ob v xs g∨E.blk x g∨n≤g:=by
 rcases D with D|⟨y,G,D⟩
 ·rcases I with h|⟨g',h,h2⟩
  ·exact .inl (.inl (h ▸ D))
  ·rw[h]at D;cases D;exact .inr (.inr h2)
 ·rcases zE.1 G with G|G
  ·exact .inl (.inr ⟨y,G,D⟩)
  ·obtain rfl:=zO.1 G;exact .inr (.inl D)
theorem OwnC.raise{W:World}{B C B':Nat}{v:Value}{xs:List α}(h:E.OwnC W B C v xs)(hB:∀g,E.ob v xs g→B'≤g):E.Own W B' v xs:=by
 refine⟨⟨h.own.1,?_⟩,h.ins,fun x J g I=>hB g (.inr ⟨x,J,I⟩),h.sep⟩;rcases h.own.2 with h2|⟨g,cap,D,G,Q,N⟩
 ·exact .inl h2
 ·exact .inr ⟨g,cap,D,G,hB g (.inl (by rw[G];rfl)),N⟩
theorem OwnC.more{w w':World}{B C:Nat}{v v':Value}{xs:List α}{x:α}(hk:E.OwnC w B C v xs)(I:E.In w x)(J:∀g,E.blk x g→C≤g)(N:∀g,E.blk x g→v.ownBlock≠some g)
  (h2:w'.ownsRow B E.T E.n v' (xs.length+1) (E.all xs++E.cs x)) (h3:w.grownBy w' v.ownBlock) (R:v'.ownBlock=v.ownBlock∨∃g,v'.ownBlock=some g∧w.heap.size≤g):E.OwnC w' B C v' (xs++[x]):=by
 have G:∀d,d∈xs++[x]→∀g,E.blk d g→g<w.heap.size∧v.ownBlock≠some g∧E.In w d:=by
  intro d D g hb;rcases zE.1 D with D|D
  ·exact⟨E.lt _ _ _ (hk.ins d D) hb,hk.sep d D g hb,hk.ins d D⟩
  ·obtain rfl:=zO.1 D;exact⟨E.lt _ _ _ I hb,N g hb,I⟩
 have Q:∀d∈xs++[x],E.In w d:=by
  intro d D;rcases zE.1 D with D|D
  ·exact hk.ins d D
  ·obtain rfl:=zO.1 D;exact I
 refine⟨?_,fun d D=>E.keep _ _ _ (Q d D) (fun g hb=>?_),fun d D g hb=>?_,fun d D g hb e=>?_⟩
 ·rw[M9,qH];have e:E.all [x]=E.cs x:=by simp[all]
  rw[e];exact h2
 ·obtain⟨h6,h7,_⟩:=G d D g hb;exact h3.block g h6 (fun e=>h7 e.symm)
 ·rcases zE.1 D with D|D
  ·exact hk.new d D g hb
  ·obtain rfl:=zO.1 D;exact J g hb
 ·obtain⟨h6,h7,_⟩:=G d D g hb;rcases R with h5|⟨g2,h5,h8⟩
  ·exact h7 (h5 ▸ e)
  ·rw[h5]at e;cases e;omega
structure Info (P:Program) (E:El α) (TS:TypeId) (z:Value) (bytes:Nat):Prop where
 und:P.underlying TS=some (.slice E.T)
 info:(P.info? E.T).map (fun i=>(i.zero,i.size,i.bytes))=some (some z,E.n,bytes)
 zs:z.cells.size=E.n
theorem Ur{P:Program}{TS:TypeId}{z:Value}{bytes:Nat}(hI:Info P E TS z bytes)(aA:bytes≤100000){w:World}{B C:Nat}{v:Value}{xs:List α}{x:α}{Y:Array Oper}{o:Oper}{a:Act}{K:Act→World→Prop}{Q:Exit→Act→World→Prop}{F:Prop}(S:o.guard=none)(s y:Operand)
  (ho:o.op=.call { callee:=.builtin .append,args:=#[s,y],argTypes:=#[TS,TS] })
  (hs:a.eval s=v) (hk:E.OwnC w B C v xs) (R:E.In w x) (J:∀g,E.blk x g→C≤g) (N:∀g,E.blk x g→v.ownBlock≠some g) (g cap:Nat)
  (hx:a.eval y=.slice (some ⟨g,0,none⟩) 1 cap) (U:∀j u,(E.cs x)[j]?=some u→w.cell? ((⟨g,0,none⟩:Addr).add j)=some u) (I:xs.length+1≤1000000000) (hB:B≤w.heap.size)
  (h:∀a' c' w',E.OwnC w' B C (.slice a' (xs.length+1) c') (xs++[x])→w.grownBy w' v.ownBlock→((Value.slice a' (xs.length+1) c').ownBlock=v.ownBlock∨∃g,(Value.slice a' (xs.length+1) c').ownBlock=some g∧w.heap.size≤g)→K (a.put o.dst (.slice a' (xs.length+1) c')) w') :
  if Region.wanted o (yielded Y a.tmps)=true then Oper.wp P o a w K Q else F:=by
 obtain⟨i,hi,hz,X,aB⟩:=info_parts hI.info
 refine step_append_lies (P:=P) w S s y TS ho B E.T i z E.n bytes hI.und hi hz X aB hI.zs E.pos v xs.length (E.all xs) hs hk.own
  ⟨g,0,none⟩ 1 cap (E.cs x) hx (by rw[E.len,Nat.one_mul]) U (E.one x) (by decide) (by unfold maxLen;omega) ?_ hB _ rfl ?_
 ·have:=Nat.mul_le_mul I aA
  omega
 intro g' G w' h2 h3 Z _
 have D:(Value.slice (some ⟨g',0,none⟩) (xs.length+1) G).ownBlock=v.ownBlock∨∃g,(Value.slice (some ⟨g',0,none⟩) (xs.length+1) G).ownBlock=some g∧w.heap.size≤g:=by
  rcases Z with h5|h5
  ·exact .inl h5.symm
  ·exact .inr ⟨g',rfl,by omega⟩
 exact h _ _ w' (hk.more R J N h2 h3 D) h3 D
theorem wpList_app{P:Program}{TS:TypeId}{z:Value}{bytes:Nat}(hI:Info P E TS z bytes)(aA:bytes≤100000){w:World}{B C:Nat}{v:Value}{xs:List α}{x:α}{cs:Array Value}{J:Array Oper}{rest:List Oper}{o:Oper}{a:Act}{Q:Exit→Act→World→Prop}(S:o.guard=none)(s y:Operand)
  (ho:o.op=.call { callee:=.builtin .append,args:=#[s,y],argTypes:=#[TS,TS] })
  (hs:a.eval s=v) (hk:E.OwnC w B C v xs) (U:cs.toList=E.cs x) (R:E.In w x) (I:∀g,E.blk x g→C≤g) (N:∀g,E.blk x g→v.ownBlock≠some g)
  (hx:a.eval y=.slice (some ⟨w.heap.size,0,none⟩) 1 1) (G:xs.length+1≤1000000000) (hB:B≤w.heap.size)
  (h:∀a' c' w',E.OwnC w' B C (.slice a' (xs.length+1) c') (xs++[x])→w.grownBy w' v.ownBlock→((Value.slice a' (xs.length+1) c').ownBlock=v.ownBlock∨∃g,(Value.slice a' (xs.length+1) c').ownBlock=some g∧w.heap.size≤g)→wpList P J Q rest (a.put o.dst (.slice a' (xs.length+1) c')) w') :
  wpList P J Q (o::rest) a (w.alloc (.cells cs E.T)):=by
 obtain⟨i,hi,hz,X,aB⟩:=info_parts hI.info;have Y:=hk.alloc (.cells cs E.T)
 refine wpList_append_own_at (w:=w.alloc (.cells cs E.T)) (P:=P) S s y TS ho B E.T i z E.n bytes hI.und hi hz X aB hI.zs E.pos v xs.length (E.all xs) hs Y.own
  ⟨w.heap.size,0,none⟩ 1 1 (E.cs x) hx (by rw[E.len,Nat.one_mul]) ?_ (E.one x) (by unfold maxLen;omega) ?_ (by simp;omega) ?_
 ·intro j u hj;have hn:=qB w (.cells cs E.T);have hc:=cell_of_row (w.alloc (.cells cs E.T)) w.heap.size j cs _ (0,0) hn;have ea:((⟨w.heap.size,0,none⟩:Addr).add j)=⟨w.heap.size,j,none⟩:=by unfold Addr.add;split<;>simp_all
  rw[ea,hc,←hj,←U];simp
 ·have:=Nat.mul_le_mul G aA
  omega
 ·intro v' w' h2 h3 h4 h5;have hg:w.grownBy w' v.ownBlock:=Ah (qR w _ _) h3
  have D:v'.ownBlock=v.ownBlock∨∃g,v'.ownBlock=some g∧w.heap.size≤g:=by
   rcases h5 with h5|h5
   ·exact .inl h5
   ·exact .inr ⟨_,h5,by simp⟩
  have Z:=hk.more R I N h2 hg D;obtain⟨a',c',rfl,_⟩:=Z.slice;simp only[qH,qE,qP,Nat.zero_add]at Z D ⊢;exact h _ _ w' Z hg D
end El
end Go.Proofs.YtnjokdbblmlhhaaGreatDoor
namespace Go.Proofs.YtnjokdbblmlhhaaGreatDoor
open Go.RowKit
structure Bc where
 name:List UInt8
 action:List UInt8
 undo:List UInt8
 aa:Option Addr
 ac:Nat
 after:List (List UInt8)
 most:Int
 first:Int
 factor:Int
 limit:Int
 note:Nd
namespace Bc
def aV(s:Bc):Value:=.slice s.aa s.after.length s.ac
def cs(s:Bc):List Value:=[.string ⟨s.name.toArray⟩,.string ⟨s.action.toArray⟩,.string ⟨s.undo.toArray⟩,s.aV,.int .i64 s.most,.int .i64 s.first,.int .i64 s.factor,.int .i64 s.limit,.int .u8 s.note.kind,.string ⟨s.note.text.toArray⟩,s.note.kV,s.note.dV,.int .i64 s.note.line]
def val(s:Bc):Value:=.agg s.cs.toArray
def bare(s:Bc):P22.Step:=⟨s.name,s.action,s.undo,s.after,⟨s.most,s.first,s.factor⟩,s.limit,s.note.bare⟩
structure In (W:World) (s:Bc):Prop where
 keys:Eu W s.aa s.after
 len:s.after.length≤s.ac
 cap:s.ac≤maxLen
 note:s.note.In W
def blk(s:Bc)(r:Nat):Prop:=(s.after≠[]∧Bj s.aa r)∨s.note.blk r
theorem In.keep{W W':World}{s:Bc}(h:s.In W)(hk:∀r,s.blk r→W'.heap[r]?=W.heap[r]?):s.In W':=
 ⟨h.keys.keep (fun r hn hr=>hk r (.inl ⟨hn,hr⟩)),h.len,h.cap,h.note.keep (fun r hr=>hk r (.inr hr))⟩
theorem Tz{W:World}{a:Option Addr}{ks:List (List UInt8)}(h:Eu W a ks){r:Nat}(hn:ks≠[])(hr:Bj a r):r<W.heap.size:=by
 obtain⟨o,rfl⟩:=hr;cases ks with
 |nil=>exact absurd rfl hn
 |cons x ks=>
  obtain⟨b,o',e,hc⟩:=h 0 x rfl;injection e with e;injection e with e;subst e;exact B3 hc
theorem In.lt{W:World}{s:Bc}(h:s.In W){r:Nat}(hr:s.blk r):r<W.heap.size:=by
 rcases hr with⟨hn,hr⟩|hr
 ·exact Tz h.keys hn hr
 ·exact h.note.lt hr
theorem In.below{W W':World}{s:Bc}(h:s.In W)(hb:Below W.heap.size W W'):s.In W':=h.keep (fun r hr=>hb.block r (h.lt hr))
def zero:Bc:=⟨[],[],[],none,0,[],0,0,0,0,Nd.zero⟩
theorem zero_in(W:World):zero.In W:=⟨fun i x h=>by simp[zero]at h,qJ _,Nat.zero_le _,Nd.zero_in W⟩
end Bc
@[reducible] def Cx:El Bc where
 T:=86
 n:=13
 cs:=Bc.cs
 In:=fun W s=>s.In W
 blk:=Bc.blk
 keep:=fun _ _ _ h hk=>h.keep hk
 lt:=fun _ _ _ h hr=>h.lt hr
 len:=fun _=>rfl
 one:=fun s u hu=>by
  simp only[Bc.cs,zN,List.not_mem_nil,or_false]at hu;rcases hu with rfl|rfl|rfl|rfl|rfl|rfl|rfl|rfl|rfl|rfl|rfl|rfl|rfl<;>rfl
 pos:=by decide
abbrev Vr:Value:=.agg #[.string ⟨#[]⟩,.string ⟨#[]⟩,.string ⟨#[]⟩,.slice none 0 0,.int .i64 0,.int .i64 0,.int .i64 0,.int .i64 0,.int .u8 0,.string ⟨#[]⟩,.slice none 0 0,.slice none 0 0,.int .i64 0]
theorem Sn:El.Info Tryz.prog Cx 48 Vr 184 where
 und:=Tryz.underlying48
 info:=by kernel_rfl
 zs:=rfl
structure Ch where
 name:List UInt8
 text:List UInt8
 sa:Option Addr
 sc:Nat
 steps:List Bc
namespace Ch
def val(d:Ch):Value:=.agg #[.string ⟨d.name.toArray⟩,.string ⟨d.text.toArray⟩,.slice d.sa d.steps.length d.sc]
def bare(d:Ch):P22.Def:=⟨d.name,d.text,d.steps.map Bc.bare⟩
structure In (W:World) (d:Ch):Prop where
 steps:Cx.InL W d.sa d.steps
 len:d.steps.length≤d.sc
 cap:d.sc≤maxLen
def blk(d:Ch)(r:Nat):Prop:=Cx.blkL d.sa d.steps r
theorem In.keep{W W':World}{d:Ch}(h:d.In W)(hk:∀r,d.blk r→W'.heap[r]?=W.heap[r]?):d.In W':=⟨h.steps.keep hk,h.len,h.cap⟩
theorem In.lt{W:World}{d:Ch}(h:d.In W){r:Nat}(hr:d.blk r):r<W.heap.size:=h.steps.lt hr
theorem In.below{W W':World}{d:Ch}(h:d.In W)(hb:Below W.heap.size W W'):d.In W':=h.keep (fun r hr=>hb.block r (h.lt hr))
def zero:Ch:=⟨[],[],none,0,[]⟩
theorem zero_in(W:World):zero.In W:=⟨El.InL.nil _ _,qJ _,Nat.zero_le _⟩
end Ch
end Go.Proofs.YtnjokdbblmlhhaaGreatDoor
