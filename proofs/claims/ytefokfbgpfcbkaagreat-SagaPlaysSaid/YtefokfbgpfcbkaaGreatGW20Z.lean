import Derived.Test.YtefokfbgpfcbkaaGreatGN20Z
set_option maxRecDepth 100000
set_option maxHeartbeats 8000000
set_option linter.unusedVariables false
set_option linter.unusedSimpArgs false
namespace Go.Proofs.YtefokfbgpfcbkaaGreat
namespace P20
end P20
namespace P20
end P20
open Go.RowKit
theorem Cu{A B C:World}{row:Option Nat}(h:A.grownBy B row)(k:B.grownBy C row):A.grownBy C row:=
 ⟨k.os.trans h.os,k.tape.trans h.tape,k.output.trans h.output,qK h.size k.size,fun i hi I=>(k.block i (zD hi h.size) I).trans (h.block i hi I)⟩
def Bg(ds:List Nd):List Value:=ds.flatMap Nd.cs
theorem F7(a b:List Nd):Bg (a++b)=Bg a++Bg b:=by simp[Bg]
theorem Yg:(Tryz.prog.info? 61).map (fun i=>(i.zero,i.size,i.bytes))=some (some (.agg #[.int .u8 0,.string ⟨#[]⟩,.slice none 0 0,.slice none 0 0,.int .i64 0]),5,80):=by kernel_rfl
theorem Yh:∀(ds:List Nd),∀u∈Bg ds,u.oneCell'=true:=by
 intro ds u hu;simp only[Bg,List.mem_flatMap]at hu;obtain⟨d,_,hd⟩:=hu;simp only[Nd.cs,zW,zT,or_false]at hd;rcases hd with rfl|rfl|rfl|rfl|rfl<;>rfl
theorem Jp:∀(ds:List Nd) (i:Nat) (d:Nd),ds[i]?=some d→∀j,j<5→(Bg ds)[i*5+j]?=d.cs[j]?
 | [],i,d,h,j,hj=>by simp at h
 |e::ds,0,d,h,j,hj=>by
  simp only[zF,zK]at h;subst h;have I:Bg (e::ds)=e.cs++Bg ds:=rfl;rw[I,Nat.zero_mul,Nat.zero_add,qZ (by show j<5;exact hj)]
 |e::ds,i+1,d,h,j,hj=>by
  have ih:=Jp ds i d (by simpa using h) j hj;have I:Bg (e::ds)=e.cs++Bg ds:=rfl;have J:e.cs.length=5:=rfl;rw[I,zA (by omega),J,show (i+1)*5+j-5=i*5+j from by omega];exact ih
structure Dp (W:World) (B:Nat) (v:Value) (ds:List Nd):Prop where
 own:W.ownsRow B 61 5 v ds.length (Bg ds)
 ins:∀d∈ds,d.In W
 new:∀d∈ds,∀g,d.blk g→B≤g
 sep:∀d∈ds,∀g,d.blk g→v.ownBlock≠some g
theorem Ax{W:World}{B size n:Nat}{e:TypeId}{v:Value}{xs:List Value}(h:W.ownsRow B e size v n xs):∀g,v.ownBlock=some g→B≤g∧g<W.heap.size:=by
 intro g hg;rcases h.2 with⟨rfl,_⟩|⟨g2,cap,I,rfl,hb,J,_⟩
 ·cases hg
 ·cases hg;exact⟨hb,(qA.1 J).1⟩
theorem Du{W W':World}{B size n:Nat}{e:TypeId}{v:Value}{xs:List Value}(h:W.ownsRow B e size v n xs)(hk:∀g,v.ownBlock=some g→W'.heap[g]?=W.heap[g]?):W'.ownsRow B e size v n xs:=by
 refine⟨h.1,?_⟩;rcases h.2 with h0|⟨g,cap,I,rfl,hb,J,hr⟩
 ·exact .inl h0
 ·exact .inr ⟨g,cap,I,rfl,hb,(hk g rfl).trans J,hr⟩
theorem Dp.nil(W:World)(B:Nat):Dp W B (.slice none 0 0) []:=⟨⟨rfl,.inl ⟨rfl,rfl⟩⟩,by simp,by simp,by simp⟩
theorem Dp.keep{W W':World}{B:Nat}{v:Value}{ds:List Nd}(h:Dp W B v ds)(hr:∀g,v.ownBlock=some g→W'.heap[g]?=W.heap[g]?)(hd:∀d∈ds,∀g,d.blk g→W'.heap[g]?=W.heap[g]?):Dp W' B v ds:=
 ⟨Du h.own hr,fun d hm=>(h.ins d hm).keep (hd d hm),h.new,h.sep⟩
theorem Dp.grown{W W':World}{B:Nat}{v:Value}{ds:List Nd}{row:Option Nat}(h:Dp W B v ds)(hg:W.grownBy W' row)(hr:∀g,row=some g→v.ownBlock≠some g∧∀d∈ds,¬d.blk g):Dp W' B v ds:=
 h.keep (fun g I=>hg.block g (Ax h.own g I).2 (fun e=>(hr g e.symm).1 I)) (fun d hm g hb=>hg.block g ((h.ins d hm).lt hb) (fun e=>(hr g e.symm).2 d hm hb))
theorem Dp.old{W W':World}{B:Nat}{v:Value}{ds:List Nd}{rb:Nat}(h:Dp W B v ds)(hg:W.grownBy W' (some rb))(hr:rb<B):Dp W' B v ds:=
 h.grown hg (fun g e=>by cases e;exact⟨fun e=>by have:=(Ax h.own _ e).1;omega,fun d hm hb=>by have:=h.new d hm _ hb;omega⟩)
theorem Dp.alloc{W:World}{B:Nat}{v:Value}{ds:List Nd}(h:Dp W B v ds)(o:Obj):Dp (W.alloc o) B v ds:=h.grown (qQ W o none) (fun g e=>by cases e)
theorem Dp.slice{W:World}{B:Nat}{v:Value}{ds:List Nd}(h:Dp W B v ds):∃a c,v=.slice a ds.length c∧ds.length≤c∧c≤maxLen∧InL W a 0 ds∧(∀g,blkL g ds→B≤g)∧(∀g,ds≠[]→Ch a g→B≤g):=by
 obtain⟨ho,hi,hn,hs⟩:=h;have J:∀g,blkL g ds→B≤g:=fun g hb=>by obtain⟨d,hm,hd⟩:=(Hq g ds).1 hb;exact hn d hm g hd
 rcases ho.2 with⟨rfl,h0⟩|⟨g,cap,Z,rfl,hb,hh,hc,hm,hsz,aB⟩
 ·have:ds=[]:=qT h0;subst this;exact⟨none,0,rfl,qJ _,Nat.zero_le _,trivial,J,fun g hn=>absurd rfl hn⟩
 ·refine⟨_,cap,rfl,hc,hm,On (fun j d hj=>⟨⟨g,0,rfl,?_⟩,hi d (qN hj)⟩),J,fun g' _ ho=>?_⟩
  ·have I:∀i,i<5→W.cell? ⟨g,j*5+i,none⟩=d.cs[i]?:=by
    intro i aA;have aC:=(qI.1 hj).1;have h1:=Jp ds j d hj i aA;rw[←aB,List.getElem?_take_of_lt (by omega)]at h1;rw[←h1];rw[cell_of_row W g (j*5+i) Z _ (0,0) hh];simp
   simp only[Nat.zero_add];exact⟨I 0 (by omega),I 1 (by omega),I 2 (by omega),I 3 (by omega),I 4 (by omega)⟩
  ·obtain⟨o,e⟩:=ho;cases e;exact hb
theorem Y4{w:World}{B:Nat}{v:Value}{ds:List Nd}{nd:Nd}{cs:Array Value}{ops:Array Oper}{rest:List Oper}{o:Oper}{a:Act}{Q:Exit→Act→World→Prop}(aD:o.guard=none)(s x:Operand)
  (ho:o.op=.call { callee:=.builtin .append,args:=#[s,x],argTypes:=#[59,59] })
  (hs:a.eval s=v) (hk:Dp w B v ds) (aH:cs.toList=nd.cs) (Z:nd.In w) (aB:∀g,nd.blk g→B≤g) (aC:∀g,nd.blk g→v.ownBlock≠some g)
  (hx:a.eval x=.slice (some ⟨w.heap.size,0,none⟩) 1 1) (aI:ds.length+1≤1000000000) (hB:B≤w.heap.size)
  (h:∀v' w',Dp w' B v' (ds++[nd])→w.grownBy w' v.ownBlock→(v'.ownBlock=v.ownBlock∨∃g,v'.ownBlock=some g∧w.heap.size≤g)→wpList Tryz.prog ops Q rest (a.put o.dst v') w') :
  wpList Tryz.prog ops Q (o::rest) a (w.alloc (.cells cs 61)):=by
 obtain⟨i,hi,hz,hsz,aE⟩:=info_parts Yg;have aG:=hk.alloc (.cells cs 61)
 refine wpList_append_own_at (w:=w.alloc (.cells cs 61)) (P:=Tryz.prog) aD s x 59 ho B 61 i (.agg #[.int .u8 0,.string ⟨#[]⟩,.slice none 0 0,.slice none 0 0,.int .i64 0]) 5 80 Tryz.underlying59 hi hz hsz aE rfl (by decide) v ds.length (Bg ds) hs aG.own
  ⟨w.heap.size,0,none⟩ 1 1 nd.cs hx rfl ?_ ?_ (by unfold maxLen;omega) (by omega) (by simp;omega) ?_
 ·intro j u hj;have hn:=qB w (.cells cs 61);have hc:=cell_of_row (w.alloc (.cells cs 61)) w.heap.size j cs _ (0,0) hn;have ea:((⟨w.heap.size,0,none⟩:Addr).add j)=⟨w.heap.size,j,none⟩:=by unfold Addr.add;split<;>simp_all
  rw[ea,hc,←hj,←aH];simp
 ·intro u hu;exact Yh [nd] u (by simpa[Bg]using hu)
 ·intro v' w' h2 h3 _ J;have hg:w.grownBy w' v.ownBlock:=Cu (qQ w _ _) h3;have aJ:∀g,v.ownBlock=some g→g<w.heap.size:=fun g e=>(Ax hk.own g e).2
  have I:∀d,d∈ds++[nd]→∀g,d.blk g→g<w.heap.size∧v.ownBlock≠some g∧d.In w:=by
   intro d hm g hb;rcases zG.1 hm with hm|hm
   ·exact⟨(hk.ins d hm).lt hb,hk.sep d hm g hb,hk.ins d hm⟩
   ·obtain rfl:=zX.1 hm;exact⟨Z.lt hb,aC g hb,Z⟩
  have aA:∀d∈ds++[nd],d.In w:=by
   intro d hm;rcases zG.1 hm with hm|hm
   ·exact hk.ins d hm
   ·obtain rfl:=zX.1 hm;exact Z
  refine h v' w' ⟨?_,fun d hm=>(aA d hm).keep (fun g hb=>?_),fun d hm g hb=>?_,fun d hm g hb e=>?_⟩ hg ?_
  ·rw[F7,qH];have e:Bg [nd]=nd.cs:=by simp[Bg]
   rw[e];exact h2
  ·obtain⟨h6,h7,_⟩:=I d hm g hb;exact hg.block g h6 (fun e=>h7 e.symm)
  ·rcases zG.1 hm with hm|hm
   ·exact hk.new d hm g hb
   ·obtain rfl:=zX.1 hm;exact aB g hb
  ·obtain⟨h6,h7,_⟩:=I d hm g hb;rcases J with J|J
   ·exact h7 (J.symm.trans e)
   ·rw[J,qF]at e;injection e with e;omega
  ·rcases J with J|J
   ·exact .inl J
   ·exact .inr ⟨_,J,by simp⟩
structure Strs (W:World) (B:Nat) (v:Value) (ls:List (List UInt8)):Prop where
 own:W.ownsRow B 9 1 v ls.length (ls.map Ze)
theorem Strs.nil(W:World)(B:Nat):Strs W B (.slice none 0 0) []:=⟨⟨rfl,.inl ⟨rfl,rfl⟩⟩⟩
theorem Strs.grown{W W':World}{B:Nat}{v:Value}{ls:List (List UInt8)}{row:Option Nat}(h:Strs W B v ls)(hg:W.grownBy W' row)(hr:∀g,row=some g→v.ownBlock≠some g):Strs W' B v ls:=
 ⟨Du h.own (fun g I=>hg.block g (Ax h.own g I).2 (fun e=>hr g e.symm I))⟩
theorem Strs.old{W W':World}{B:Nat}{v:Value}{ls:List (List UInt8)}{rb:Nat}(h:Strs W B v ls)(hg:W.grownBy W' (some rb))(hr:rb<B):Strs W' B v ls:=
 h.grown hg (fun g e=>by cases e;exact fun e=>by have:=(Ax h.own _ e).1;omega)
theorem Strs.alloc{W:World}{B:Nat}{v:Value}{ls:List (List UInt8)}(h:Strs W B v ls)(o:Obj):Strs (W.alloc o) B v ls:=h.grown (qQ W o none) (fun g e=>by cases e)
theorem Strs.slice{W:World}{B:Nat}{v:Value}{ls:List (List UInt8)}(h:Strs W B v ls):∃a c,v=.slice a ls.length c∧ls.length≤c∧c≤maxLen∧Ft W a ls∧(∀g,ls≠[]→Ch a g→B≤g):=by
 rcases h.own.2 with⟨rfl,h0⟩|⟨g,cap,I,rfl,hb,hh,hc,hm,hsz,J⟩
 ·have:ls=[]:=qT h0;subst this;exact⟨none,0,rfl,qJ _,Nat.zero_le _,fun i x hx=>by simp at hx,fun g hn=>absurd rfl hn⟩
 ·refine⟨_,cap,rfl,hc,hm,fun i x hx=>⟨g,0,rfl,?_⟩,fun g' _ ho=>?_⟩
  ·have Z:=(qI.1 hx).1;have h1:(ls.map Ze)[i]?=some (Ze x):=by rw[zJ,hx];rfl
   rw[←J,List.getElem?_take_of_lt (by omega)]at h1;rw[Nat.zero_add,cell_of_row W g i I _ (0,0) hh];simpa[Ze]using h1
  ·obtain⟨o,e⟩:=ho;cases e;exact hb
theorem Mp(a:Option Addr)(c:Nat)(ks:List (List UInt8))(w:World)(h:Ft w a ks)(hl:ks.length≤1000000000) :
  Calls Tryz.prog 110 #[.slice a ks.length c] w fun e w'=>∃Z J,e=.returned (.slice Z ks.length J)∧Hid (Strs w' w.heap.size (.slice Z ks.length J) ks)∧Below w.heap.size w w':=by
 by_cases hn:ks=[]
 ·subst hn;cases a with
  |none=>
   refine(Tryz.slices_Clone_string_nil 0 c w).mono ?_;rintro e w' ⟨rfl,rfl⟩;exact⟨none,0,rfl,Ab (Strs.nil _ _),qU _ _⟩
  |some ad=>
   refine(Tryz.slices_Clone_string_zero ad c w).mono ?_;rintro e w' ⟨v,rfl,I,_,hb⟩;have hs:Strs w' w.heap.size v []:=⟨I⟩;obtain⟨Z,J,rfl,_⟩:=hs.slice;exact⟨Z,J,rfl,Ab hs,hb⟩
 ·obtain⟨b,o,rfl,hc⟩:=Hz h hn;refine(Tryz.slices_Clone_string b o ks.length c (ks.map bz) w (by simp) (by omega) hc).mono ?_;rintro e w' ⟨v,rfl,I,_,hb⟩;rw[List.take_of_length_le (by simp)]at I;have hs:Strs w' w.heap.size v ks:=⟨by rw[List.map_map]at I;exact I⟩;obtain⟨Z,J,rfl,_⟩:=hs.slice;exact⟨Z,J,rfl,Ab hs,hb⟩
structure KS (W:World) (B:Nat) (kv dv:Value) (ks:List (List UInt8)) (ds:List Nd):Prop where
 str:Strs W B kv ks
 kids:Dp W B dv ds
 sep:∀g,kv.ownBlock=some g→dv.ownBlock≠some g∧∀d∈ds,¬d.blk g
theorem KS.old{W W':World}{B rb:Nat}{kv dv:Value}{ks:List (List UInt8)}{ds:List Nd}(h:KS W B kv dv ks ds)(hg:W.grownBy W' (some rb))(hr:rb<B):KS W' B kv dv ks ds:=⟨h.str.old hg hr,h.kids.old hg hr,h.sep⟩
theorem KS.alloc{W:World}{B:Nat}{kv dv:Value}{ks:List (List UInt8)}{ds:List Nd}(h:KS W B kv dv ks ds)(o:Obj):KS (W.alloc o) B kv dv ks ds:=⟨h.str.alloc o,h.kids.alloc o,h.sep⟩
theorem KS.kid{W W':World}{B:Nat}{kv dv I:Value}{ks:List (List UInt8)}{ds:List Nd}{nd:Nd}(h:KS W B kv dv ks ds)(hk:Dp W' B I (ds++[nd]))(hg:W.grownBy W' dv.ownBlock)(J:I.ownBlock=dv.ownBlock∨∃g,I.ownBlock=some g∧W.heap.size≤g)
  (hn:∀g,nd.blk g→kv.ownBlock≠some g):KS W' B kv I ks (ds++[nd]):=by
 refine⟨h.str.grown hg (fun g e Z=>(h.sep g Z).1 e),hk,fun g e=>⟨fun Z=>?_,fun d hm hb=>?_⟩⟩
 ·rcases J with J|⟨g2,e3,hl⟩
  ·exact(h.sep g e).1 (J ▸ Z)
  ·rw[e3]at Z;injection Z with Z;have:=(Ax h.str.own g e).2;omega
 ·rcases zG.1 hm with hm|hm
  ·exact(h.sep g e).2 d hm hb
  ·obtain rfl:=zX.1 hm;exact hn g hb e
theorem Qat{W:World}{g:Nat}{t:TypeId}{a b c d e:Value}(h:W.heap[g]?=some (.cells #[a,b,c,d,e] t))(v:Value):(W.setCell ⟨g,2,none⟩ v).heap[g]?=some (.cells #[a,b,v,d,e] t):=by simp[World.setCell,Array.getElem?_modify,h]
theorem Ys{W:World}{g:Nat}{t:TypeId}{a b c d e:Value}(h:W.heap[g]?=some (.cells #[a,b,c,d,e] t))(v:Value):(W.setCell ⟨g,3,none⟩ v).heap[g]?=some (.cells #[a,b,c,v,e] t):=by simp[World.setCell,Array.getElem?_modify,h]
namespace P20
mutual
def T.cut:Nat→T→T
 |lv,.mk k t ks ds l=>.mk k t ks (if 1<lv then cutL (lv-1) ds else []) l
def cutL:Nat→List T→List T
 |lv,[]=>[]
 |lv,d::ds=>d.cut lv::cutL lv ds
end
end P20
theorem U7(lv:Nat){ds:List Nd}{i:Nat}{d:Nd}(h:ds[i]?=some d):P20.cutL lv (Ay (ds.take (i+1)))=P20.cutL lv (Ay (ds.take i))++[d.bare.cut lv]:=by
 have e:∀a b:List P20.T,P20.cutL lv (a++b)=P20.cutL lv a++P20.cutL lv b:=fun a b=>by
  induction a with
  |nil=>rfl
  |cons x a ih=>simp[P20.cutL,ih]
 rw[List.take_add_one,h,Dj,e];rfl
theorem O6{w:World}{B:Nat}{v:Value}{ds:List Nd}{nd:Nd}{ops:Array Oper}{o:Oper}{a:Act}{K:Act→World→Prop}{Q:Exit→Act→World→Prop}{E:Prop}(aD:o.guard=none)(s x:Operand)
  (ho:o.op=.call { callee:=.builtin .append,args:=#[s,x],argTypes:=#[59,59] })
  (hs:a.eval s=v) (hk:Dp w B v ds) (J:nd.In w) (aB:∀g,nd.blk g→B≤g) (aC:∀g,nd.blk g→v.ownBlock≠some g) (g cap:Nat)
  (hx:a.eval x=.slice (some ⟨g,0,none⟩) 1 cap) (aG:∀j u,nd.cs[j]?=some u→w.cell? ((⟨g,0,none⟩:Addr).add j)=some u) (aH:ds.length+1≤1000000000) (hB:B≤w.heap.size)
  (h:∀v' w',Dp w' B v' (ds++[nd])→w.grownBy w' v.ownBlock→(v'.ownBlock=v.ownBlock∨∃g,v'.ownBlock=some g∧w.heap.size≤g)→K (a.put o.dst v') w') :
  if Region.wanted o (yielded ops a.tmps)=true then Oper.wp Tryz.prog o a w K Q else E:=by
 obtain⟨i,hi,hz,hsz,aE⟩:=info_parts Yg
 refine step_append_lies (P:=Tryz.prog) w aD s x 59 ho B 61 i (.agg #[.int .u8 0,.string ⟨#[]⟩,.slice none 0 0,.slice none 0 0,.int .i64 0]) 5 80 Tryz.underlying59 hi hz hsz aE rfl (by decide) v ds.length (Bg ds) hs hk.own
  ⟨g,0,none⟩ 1 cap nd.cs hx rfl aG (by intro u hu;exact Yh [nd] u (by simpa[Bg]using hu)) (by decide) (by unfold maxLen;omega) (by omega) hB _ rfl ?_
 intro g' aI w' h2 h3 Z _
 have I:∀d,d∈ds++[nd]→∀g,d.blk g→g<w.heap.size∧v.ownBlock≠some g∧d.In w:=by
  intro d hm g hb;rcases zG.1 hm with hm|hm
  ·exact⟨(hk.ins d hm).lt hb,hk.sep d hm g hb,hk.ins d hm⟩
  ·obtain rfl:=zX.1 hm;exact⟨J.lt hb,aC g hb,J⟩
 have aA:∀d∈ds++[nd],d.In w:=by
  intro d hm;rcases zG.1 hm with hm|hm
  ·exact hk.ins d hm
  ·obtain rfl:=zX.1 hm;exact J
 refine h _ w' ⟨?_,fun d hm=>(aA d hm).keep (fun g hb=>?_),fun d hm g hb=>?_,fun d hm g hb e=>?_⟩ h3 ?_
 ·rw[F7,qH];have e:Bg [nd]=nd.cs:=by simp[Bg]
  rw[e];exact h2
 ·obtain⟨h6,h7,_⟩:=I d hm g hb;exact h3.block g h6 (fun e=>h7 e.symm)
 ·rcases zG.1 hm with hm|hm
  ·exact hk.new d hm g hb
  ·obtain rfl:=zX.1 hm;exact aB g hb
 ·obtain⟨h6,h7,_⟩:=I d hm g hb;rcases Z with h5|h5
  ·exact h7 (h5.trans (show some g'=some g from e))
  ·have e2:some g'=some g:=e;injection e2 with e2;omega
 ·rcases Z with h5|h5
  ·exact .inl h5.symm
  ·exact .inr ⟨g',rfl,by omega⟩
theorem Ts{f:FuncId}{args:Array Value}{w:World}{ops:Array Oper}{o:Oper}{a:Act}{K:Act→World→Prop}{Q:Exit→Act→World→Prop}{E:Prop}{R:Ending→World→Prop}(I:o.guard=none)
  (J:(execOp a.eval o).run Tryz.prog w=.ok (.enter f args) w) (h:Calls Tryz.prog f args w R) (hk:∀e w',R e w'→∃v,e=.returned v∧K (a.put o.dst v) w') :
  if Region.wanted o (yielded ops a.tmps)=true then Oper.wp Tryz.prog o a w K Q else E:=by
 rw[if_pos (by simp[Region.wanted,I])];unfold Oper.wp;rw[J,Oper.upon_enter];refine h.mono (fun e w' hr=>?_);obtain⟨v,rfl,Z⟩:=hk e w' hr;exact Z
def Xb(w:World)(T:P20.T)(e:Ending)(w':World):Prop:=
 ∃(k:Nat) (t:List UInt8) (ka:Option Addr) (kc:Nat) (ks:List (List UInt8)) (da:Option Addr) (dc:Nat) (ds:List Nd) (l:Int),e=.returned (.agg #[.int .u8 k,.string ⟨t.toArray⟩,.slice ka ks.length kc,.slice da ds.length dc,.int .i64 l])∧Hid ((Nd.mk k t ka kc ks da dc ds l).bare=T∧(Nd.mk k t ka kc ks da dc ds l).In w'∧∀g,(Nd.mk k t ka kc ks da dc ds l).blk g→w.heap.size≤g)∧Below w.heap.size w w'
def Nr(d:Nd):Prop:=∀(lv:Nat) (w:World),d.In w→Ov d.bare→1≤lv→lv≤1000→Calls Tryz.prog 152 #[d.val,.int .i64 lv] w (Xb w (d.bare.cut lv))
theorem Qai(W:World)(k:Nat)(t:List UInt8)(ka:Option Addr)(kc:Nat)(ks:List (List UInt8))(da:Option Addr)(dc:Nat)(ds:List Nd)(l:Int) :
  ∀j u,(Nd.mk k t ka kc ks da dc ds l).cs[j]?=some u→(W.alloc (.cells #[.int .u8 k,.string ⟨t.toArray⟩,.slice ka ks.length kc,.slice da ds.length dc,.int .i64 l] 61)).cell? ((⟨W.heap.size,0,none⟩:Addr).add j)=some u:=by
 intro j u hj;have hn:=qB W (.cells #[.int .u8 k,.string ⟨t.toArray⟩,.slice ka ks.length kc,.slice da ds.length dc,.int .i64 l] 61);have hc:=cell_of_row _ W.heap.size j _ _ (0,0) hn;have I:((⟨W.heap.size,0,none⟩:Addr).add j)=⟨W.heap.size,j,none⟩:=by unfold Addr.add;split<;>simp_all
 rw[I,hc,←hj];simp[Nd.cs,Nd.kind,Nd.text,Nd.kV,Nd.dV,Nd.ka,Nd.kc,Nd.keys,Nd.da,Nd.dc,Nd.kids,Nd.line]
theorem KS.keep{W W':World}{B:Nat}{kv dv:Value}{ks:List (List UInt8)}{ds:List Nd}(h:KS W B kv dv ks ds)(hb:Below W.heap.size W W'):KS W' B kv dv ks ds:=
 ⟨h.str.grown (A4 hb none) (fun g e=>by cases e),h.kids.grown (A4 hb none) (fun g e=>by cases e),h.sep⟩
theorem KS.set{W:World}{B O i:Nat}{v:Value}{kv dv:Value}{ks:List (List UInt8)}{ds:List Nd}(h:KS W B kv dv ks ds)(I:O<B):KS (W.setCell ⟨O,i,none⟩ v) B kv dv ks ds:=
 h.old (G6 W O i v) I
theorem Mq{w wx:World}{H k:Nat}{t:List UInt8}{kv dv:Value}{ks:List (List UInt8)}{es:List Nd}{ln:Int}{T:P20.T}(hH:w.heap.size=H)(hk:k<256)(ht:t.length≤maxLen)(aA:∀x∈ks,x.length≤maxLen)
  (aC:KS wx (H+1+1+1) kv dv ks es) (hT:P20.T.mk k t ks (Ay es) ln=T) (hb:Below H w wx) (v0 v1 v2 v3 v4:Value) :
  Xb w T (.returned (.agg #[.int .u8 k,.string ⟨t.toArray⟩,kv,dv,.int .i64 ln])) (((((wx.setCell ⟨H+1,0,none⟩ v0).setCell ⟨H+1,1,none⟩ v1).setCell ⟨H+1,2,none⟩ v2).setCell ⟨H+1,3,none⟩ v3).setCell ⟨H+1,4,none⟩ v4):=by
 have I:=((((aC.set (O:=H+1) (i:=0) (v:=v0) (by omega)).set (O:=H+1) (i:=1) (v:=v1) (by omega)).set (O:=H+1) (i:=2) (v:=v2) (by omega)).set (O:=H+1) (i:=3) (v:=v3) (by omega)).set (O:=H+1) (i:=4) (v:=v4) (by omega);obtain⟨a,c,rfl,J,aD,hi,hn⟩:=I.str.slice;obtain⟨a2,c2,rfl,Z,aG,aE,aB,aH⟩:=I.kids.slice;refine⟨k,t,a,c,ks,a2,c2,es,ln,rfl,Ab ⟨hT,.mk ⟨hk,ht,qK J aD,qK Z aG,J,Z,aA,hi⟩ aE,fun g hg=>?_⟩,?_⟩
 ·rw[Ob]at hg;rcases hg with⟨h1,h2⟩|⟨h1,h2⟩|h1
  ·have:=hn g h1 h2;omega
  ·have:=aH g h1 h2;omega
  ·have:=aB g h1;omega
 ·rw[hH];exact Ku hb (by omega) _ _ _ _ _
theorem R8(k:Nat)(t:List UInt8)(ka:Option Addr)(kc:Nat)(ks:List (List UInt8))(da:Option Addr)(dc:Nat)(ds:List Nd)(ln:Int)(cL:∀d∈ds,Nr d):Nr (.mk k t ka kc ks da dc ds ln):=by
 intro lv w bI cT h1 h2;rw[Nd.val_eq];have aM:=bI.fit;unfold Nd.bare Ov at cT;obtain⟨o1,o2,o3,o4,o5⟩:=cT;rw[Cp]at o4;have dU:ks.length≤1000000000:=o2;obtain⟨H,hH⟩:=qeX w.heap.size;obtain⟨W,hW⟩:=qeX (((w.alloc (.cells #[.int .u8 k,.string ⟨t.toArray⟩,.slice ka ks.length kc,.slice da ds.length dc,.int .i64 ln] 61)).alloc (.cells #[.int .u8 0,.string ⟨#[]⟩,.slice none 0 0,.slice none 0 0,.int .i64 0] 61)).alloc (.cells #[.int .u8 k,.string ⟨t.toArray⟩,.slice ka ks.length kc,.slice da ds.length dc,.int .i64 ln] 61));have dT:W.heap.size=H+1+1+1:=by rw[←hW];simp;omega
 have cH:Below H w W:=by rw[←hW];exact(((qU _ w).alloc (by omega) _).alloc (by simp;omega) _).alloc (by simp;omega) _
 obtain⟨W',cF,v1,g0,g1,g2,v2,v3⟩:=To w (.cells #[.int .u8 k,.string ⟨t.toArray⟩,.slice ka ks.length kc,.slice da ds.length dc,.int .i64 ln] 61) (.cells #[.int .u8 0,.string ⟨#[]⟩,.slice none 0 0,.slice none 0 0,.int .i64 0] 61) (.cells #[.int .u8 k,.string ⟨t.toArray⟩,.slice ka ks.length kc,.slice da ds.length dc,.int .i64 ln] 61) (.cells #[] 3) H hH;rw[hW]at cF;have cV:∀r,r<W.heap.size→W.heap[r]?=W'.heap[r]?:=fun r hr=>by rw[←cF];exact(qD _ _ _ hr).symm
 rw[←cV _ (by omega)]at g0 g1 g2;clear cF cV v1 v2 v3 W'
 have bT:Ft W ka ks:=by
  have h3:=aM.keys;simp only[Nd.ka,Nd.keys]at h3;exact h3.below (by rw[hH];exact cH)
 have J:=Mp ka kc ks W bT dU;have aA:=bI.kids;simp only[Nd.da,Nd.kids]at aA;have bJ:=Ab J;have HW:=Ab hW;have cA:=Ab g0;have dE:=Ab g1;have cR:=Ab g2;have eC:=Ab cH;have dK:=Ab aA;have dW:=Ab cL;have eA:=Ab o5;have cK:=aM.kidsL;simp only[Nd.kids]at cK;have cG:=Ab bI;clear J hW g0 g1 g2 cH bT aA cL o5 o1 o3 aM cK bI;go_enter Tryz.func152,Tryz.ntmps152
 go_upto_region 2 with fail
 try rw[hH]
 rw[Aa HW];obtain⟨⟨x0,f0⟩,⟨x1,f1⟩,⟨x2,f2⟩,⟨x3,f3⟩,⟨x4,f4⟩⟩:=Al (Aa cA);go_upto_region 4 with(go_at_call 110;refine(Aa bJ).mono ?_;rintro e w1 ⟨a',c',rfl,HS,Z⟩;have m2:=(Z.block (H+1+1) (by omega)).trans (Aa cR);obtain⟨⟨y0,q0⟩,⟨y1,q1⟩,⟨y2,q2⟩,⟨y3,q3⟩,⟨y4,q4⟩⟩:=Al m2;have cS:=Ab m2;clear m2)
 obtain⟨V0,aB⟩:=qeX ((w1.setCell ⟨H+1+1,2,none⟩ (.slice a' ks.length c')).setCell ⟨H+1+1,3,none⟩ (.slice none 0 0));have dN:=Z.size;rw[dT]at Z HS
 have dC:KS V0 (H+1+1+1) (.slice a' ks.length c') (.slice none 0 0) ks []:=by
  rw[←aB];exact((⟨Aa HS,Dp.nil _ _,fun g e=>⟨fun e2=>by simp[Value.ownBlock]at e2,by simp⟩⟩:KS w1 (H+1+1+1) (.slice a' ks.length c') (.slice none 0 0) ks []).set (by omega)).set (by omega)
 have eN:H+1+1<V0.heap.size:=by rw[←aB];simp;omega
 have ho:∀r,r≠H+1+1→V0.heap[r]?=w1.heap[r]?:=fun r hr=>by rw[←aB,qC _ _ _ _ (by exact hr),qC _ _ _ _ (by exact hr)]
 have k0:=(ho H (by omega)).trans ((Z.block _ (by omega)).trans (Aa cA));have k1:=(ho (H+1) (by omega)).trans ((Z.block _ (by omega)).trans (Aa dE))
 have k2:V0.heap[H+1+1]?=some (.cells #[.int .u8 k,.string ⟨t.toArray⟩,.slice a' ks.length c',.slice none 0 0,.int .i64 ln] 61):=by
  rw[←aB];exact Ys (Qat (Aa cS) _) _
 have dD:Below H w V0:=by
  have h3:=(Aa eC).trans (Z.mono (by omega));rw[←aB]
  exact⟨h3.os,h3.tape,h3.output,by have:=h3.size;simpa using this,fun r hr=>by
   rw[qC _ _ _ _ (by show r≠H+1+1;omega),qC _ _ _ _ (by show r≠H+1+1;omega)]
   exact h3.block r hr⟩
 rw[aB];have cM:=Ab k0;have cD:=Ab k1;have cO:=Ab k2;have cU:=Ab dC;have cW:=Ab dD;clear x0 f0 x1 f1 x2 f2 x3 f3 x4 f4 y0 q0 y1 q1 y2 q2 y3 q3 y4 q4 aB dC ho k0 k1 k2 dD Z dN HS cS cA dE cR bJ;rcases Nat.lt_or_ge 1 lv with aN|aN
 ·have jl:(1:Int)<(lv:Int):=by omega
  have jw:IntKind.i64.wrap ((lv:Int)-1)=(lv:Int)-1:=qG _ (by omega);have bE:=fun r (hr:(Nd.mk k t ka kc ks da dc ds ln).blk r)=>(Aa cG).lt hr;rw[hH]at bE;have eL:=Ab bE;obtain⟨n,hn⟩:=qeX ds.length;have bK:=Ab (show V0.heap[H]?=some (.cells #[.int .u8 k,.string ⟨t.toArray⟩,.slice ka ks.length kc,.slice da n dc,.int .i64 ln] 61) by rw[←hn];exact Aa cM);obtain⟨⟨x0,_⟩,⟨x1,_⟩,⟨x2,_⟩,⟨x3,_⟩,⟨x4,_⟩⟩:=Al (Aa bK);have HN:=Ab hn;have aJ:=Ab aN;rw[hn]at o4 ⊢;have eK:(n:Int)≤1000000000:=by omega
  clear bE hn aN cM bK;go_wp2
  go_loopg [19] n (fun g dI wx=>∃(i:Nat) (dv:Value) (es:List Nd),i+g=n∧dI=.int .i64 i∧es.length≤i∧Hid (KS wx (H+1+1+1) (.slice a' ks.length c') dv ks es)∧Hid (Ay es=P20.cutL (lv-1) (Ay (ds.take i))) ∧
   Hid (wx.heap[H+1+1]?=some (.cells #[.int .u8 k,.string ⟨t.toArray⟩,.slice a' ks.length c',dv,.int .i64 ln] 61))∧Hid (wx.heap[H+1]?=some (.cells #[.int .u8 0,.string ⟨#[]⟩,.slice none 0 0,.slice none 0 0,.int .i64 0] 61))∧Hid (Below H w wx))
  case atStart=>exact⟨0,_,[],by omega,by go_num,qJ _,cU,Ab rfl,cO,cD,cW⟩
  case round=>
   obtain⟨i,dv,es,eF,rfl,eI,aS,HE,HO,HZ,HB⟩:=hrel;obtain⟨ad,cd,rfl,_⟩:=(Aa aS).kids.slice;cases gk with
   |zero=>
    have e1:(n:Int)=(i:Int):=by omega
    have dH:=Ab (show i=n by omega);obtain⟨⟨x0,f0⟩,⟨x1,f1⟩,⟨x2,f2⟩,⟨x3,f3⟩,⟨x4,f4⟩⟩:=Al (Aa HO);obtain⟨⟨z0,q0⟩,⟨z1,q1⟩,⟨z2,q2⟩,⟨z3,q3⟩,⟨z4,q4⟩⟩:=Al (Aa HZ);go_wp2;have hf:=(Aa cG).fit;refine qV (results_cell_row rfl _ _ _ _ _ _ _ rfl (K0 (Aa HZ) _ _ _ _ _) Tryz.underlying61 rfl (by kernel_rfl)) rfl (Mq (k:=k) (t:=t) (ks:=ks) (ln:=ln) hH hf.kind hf.text hf.keyL (Aa aS) ?_ (Aa HB) _ _ _ _ _);unfold Nd.bare P20.T.cut;rw[if_pos (Aa aJ),Aa HE,List.take_of_length_le (by rw[Aa HN];have:=Aa dH;omega)]
   |succ g'=>
    have bE:(i:Int)<(n:Int):=by omega
    have eO:IntKind.i64.wrap ((i:Int)+1)=(i:Int)+1:=qG _ (by omega);obtain⟨d,bC⟩:=Ap (Aa HN) (show i<n by omega);have bZ:=qN bC;have hb:=Aa HB;have eG:=hb.size;have cN:InL wr da 0 ds:=InL.below (Aa dK) (by rw[hH];exact hb);have aO:=Aa dW d bZ (lv-1);have bU:Ov d.bare:=(Qi _).1 (Aa eA) _ (by rw[Ed];exact List.mem_map_of_mem bZ);have cI:=U7 (lv-1) bC;obtain⟨b1,o1,k1,t1,aU,bG,aW,aX,bD,aY,l1,rfl,rfl,e0,e1,e2,e3,e4,bL⟩:=Ds cN bC;obtain⟨W5,aP⟩:=qeX (wr.alloc (.cells #[.int .u8 k1,.string ⟨t1.toArray⟩,.slice aU aW.length bG,.slice aX aY.length bD,.int .i64 l1] 61));have aT:Below wr.heap.size wr W5:=by rw[←aP];exact(qU _ wr).alloc (qJ _) _
    have eJ:W5.heap.size=wr.heap.size+1:=by rw[←aP];simp
    have g5:W5.heap[wr.heap.size]?=some (.cells #[.int .u8 k1,.string ⟨t1.toArray⟩,.slice aU aW.length bG,.slice aX aY.length bD,.int .i64 l1] 61):=by rw[←aP];exact qB wr _
    have dL:H+1+1<wr.heap.size:=(qA.1 (Aa HO)).1;have bY:=(aT.block (H+1+1) dL).trans (Aa HO);have cX:=(aT.block (H+1) (by omega)).trans (Aa HZ);have dA:=(Aa aS).keep aT;have J:=fun V (h:Below W5.heap.size W5 V)=>aO V ((bL.below aT).below h) bU (by have:=Aa aJ;omega) (by omega);rw[Nd.val_eq,show (((lv-1:Nat)):Int)=(lv:Int)-1 from by have:=Aa aJ;omega]at J;obtain⟨T1,cQ⟩:=qeX ((Nd.mk k1 t1 aU bG aW aX bD aY l1).bare.cut (lv-1));rw[cQ]at J cI;obtain⟨⟨x0,f0⟩,⟨x1,f1⟩,⟨x2,f2⟩,⟨x3,f3⟩,⟨x4,f4⟩⟩:=Al bY;obtain⟨⟨y0,_⟩,⟨y1,_⟩,⟨y2,_⟩,⟨y3,_⟩,⟨y4,_⟩⟩:=Al g5;have bJ:=Ab J;have dG:=Ab cI;have eM:=Ab g5;have eE:=Ab (Aa aS).kids;have dQ:=Ab aP;have cY:=Ab bY;have dX:=Ab cX;have cC:=Ab dA;have dZ:=Ab (show Below H w W5 from hb.trans (aT.mono (by omega)));have eD:=Ad e0;have eP:Tryz.prog.follows .mixedOrders=true:=by kernel_rfl
    clear J cI cQ aP bY cX dA aO bU bZ bC bL cN hb g5 HO HZ aS HB;go_upto_region 8 with fail
    rw[Aa dQ];have bM:=Aa bJ W5.drew ⟨rfl,rfl,rfl,qJ _,fun _ _=>rfl⟩;have dP:=Ab bM;clear bM;have dR:=enters_of Tryz.func152 (by kernel_rfl) rfl
    go_region_law (first
     |(refine Ts (f:=152) (args:=#[.agg #[.int .u8 k1,.string ⟨t1.toArray⟩,.slice aU aW.length bG,.slice aX aY.length bD,.int .i64 l1],.int .i64 ((lv:Int)-1)]) (by rfl) (by simp[execOp,go_sem,dR]) (Aa dP) ?_;rintro e w6 ⟨k6,t6,aI,aC,aD,aH,aG,aE,l6,rfl,aK,I⟩;refine⟨_,rfl,?_⟩;have aR:Below W5.heap.size W5 w6:=⟨I.os,I.tape,I.output,I.size,I.block⟩;have bF:=(aR.block (H+1+1) (by omega)).trans (Aa cY);obtain⟨⟨p0,r0⟩,⟨p1,r1⟩,⟨p2,r2⟩,⟨p3,r3⟩,⟨p4,r4⟩⟩:=Al bF;have dJ:=Ab bF;have bW:=Ab (((Aa cC).keep aR).alloc (.cells #[.int .u8 k6,.string ⟨t6.toArray⟩,.slice aI aD.length aC,.slice aH aE.length aG,.int .i64 l6] 61));have eH:=aR.size;have bQ:H+1+1<w6.heap.size:=(by omega);obtain⟨⟨a0,_⟩,⟨a1,_⟩,⟨a2,_⟩,⟨a3,_⟩,⟨a4,_⟩⟩:=Al ((qD w6 (.cells #[.int .u8 k6,.string ⟨t6.toArray⟩,.slice aI aD.length aC,.slice aH aE.length aG,.int .i64 l6] 61) _ bQ).trans bF);clear bF I)
     | (refine O6 (B:=H+1+1+1) (nd:=.mk k6 t6 aI aC aD aH aG aE l6) (by rfl) _ _ (by rfl) (by rfl) (Aa bW).kids ((Aa aK).2.1.alloc _) (fun g hg=>by have h3:W5.heap.size≤g:=(Aa aK).2.2 g hg;omega) (fun g hg e=>by have h3:W5.heap.size≤g:=(Aa aK).2.2 g hg;have h4:=(Ax (Aa cC).kids.own g e).2;omega) w6.heap.size 1 (by rfl) (Qai _ _ _ _ _ _ _ _ _ _) (by omega) (by simp;omega) ?_;intro v' w7 bX aZ cP;obtain⟨cJ,bV,rfl,_⟩:=bX.slice;have dF:=Ab bX;clear bX;have aL:∀g,(Value.slice ad es.length cd).ownBlock=some g→H+1+1+1≤g:=(fun g e=>(Ax (Aa bW).kids.own g e).1);have cB:=(aZ.block (H+1+1) (by simp;omega) (fun e=>by have:=aL _ e.symm;omega)).trans ((qD _ _ _ bQ).trans (Aa dJ));obtain⟨⟨m0,n0⟩,⟨m1,n1⟩,⟨m2,n2⟩,⟨m3,n3⟩,⟨m4,n4⟩⟩:=Al cB;have dS:=Ab cB;clear cB))
    all_goals
     have bO:=(Aa bW).kid (Aa dF) aZ cP (fun g hg e=>by have h3:W5.heap.size≤g:=(Aa aK).2.2 g hg;have h4:=(Ax (Aa cC).str.own g e).2;omega);have aQ:=bO.set (O:=H+1+1) (i:=3) (v:=.slice cJ (es.length+1) bV) (by omega);rw[qH,qS]at aQ;have dB:=Ab aQ;have cZ:=(((Aa dZ).trans (aR.mono (show H≤W5.heap.size by omega))).alloc (show H≤w6.heap.size by omega) (.cells #[.int .u8 k6,.string ⟨t6.toArray⟩,.slice aI aD.length aC,.slice aH aE.length aG,.int .i64 l6] 61)).grown aZ (by simp;omega) (fun k e=>by have:=aL k e;omega);have eB:=Ab (cZ.setCell (p:=⟨H+1+1,3,none⟩) (show H≤H+1+1 by omega) (.slice cJ (es.length+1) bV));have dM:=Ab ((qC w7 ⟨H+1+1,3,none⟩ (.slice cJ (es.length+1) bV) (H+1) (show H+1≠H+1+1 by omega)).trans ((aZ.block (H+1) (by simp;omega) (fun e=>by have:=aL _ e.symm;omega)).trans ((qD _ _ _ (show H+1<w6.heap.size by omega)).trans ((aR.block (H+1) (by omega)).trans (Aa dX)))));have dY:=Ab (show Ay (es++[.mk k6 t6 aI aC aD aH aG aE l6])=P20.cutL (lv-1) (Ay (ds.take (i+1))) by rw[Dj,Aa HE,Aa dG,←(Aa aK).1];rfl);clear bO aQ cZ;go_wp2;go_roundg g'
     case measure=>omega
     case rel=>exact⟨i+1,_,es++[.mk k6 t6 aI aC aD aH aG aE l6],by omega,by go_num,by simp;omega,dB,dY,Ab (Ys (Aa dS) _),dM,eB⟩
 ·have jl:(lv:Int)≤1:=by omega
  obtain⟨⟨x0,f0⟩,⟨x1,f1⟩,⟨x2,f2⟩,⟨x3,f3⟩,⟨x4,f4⟩⟩:=Al (Aa cO);obtain⟨⟨z0,q0⟩,⟨z1,q1⟩,⟨z2,q2⟩,⟨z3,q3⟩,⟨z4,q4⟩⟩:=Al (Aa cD);have aJ:=Ab aN;clear aN;go_wp2;have hf:=(Aa cG).fit;exact qV (results_cell_row rfl _ _ _ _ _ _ _ rfl (K0 (Aa cD) _ _ _ _ _) Tryz.underlying61 rfl (by kernel_rfl)) rfl (Mq (k:=k) (t:=t) (ks:=ks) (ln:=ln) hH hf.kind hf.text hf.keyL (Aa cU) (by unfold Nd.bare P20.T.cut;rw[if_neg (by have:=Aa aJ;omega)];rfl) (Aa cW) _ _ _ _ _)
theorem Ps(d:Nd):Nr d:=Nd.ind (p:=Nr) R8 d
theorem Rk(d:Nd)(w:World)(aA:d.In w)(aC:Ov d.bare):Calls Tryz.prog 111 #[d.val] w (Xb w (d.bare.cut 18)):=by
 obtain⟨k,t,ka,kc,ks,da,dc,ds,ln⟩:=d;have J:=fun W (hb:Below w.heap.size w W)=>Ps _ 18 W (aA.below hb) aC (by omega) (by omega);obtain⟨T,hT⟩:=qeX ((Nd.mk k t ka kc ks da dc ds ln).bare.cut 18);rw[Nd.val_eq,hT]at J;rw[Nd.val_eq,hT];obtain⟨H,hH⟩:=qeX w.heap.size;obtain⟨W,Z⟩:=qeX ((w.alloc (.cells #[.int .u8 k,.string ⟨t.toArray⟩,.slice ka ks.length kc,.slice da ds.length dc,.int .i64 ln] 61)).alloc (.cells #[.int .u8 0,.string ⟨#[]⟩,.slice none 0 0,.slice none 0 0,.int .i64 0] 61));have aN:W.heap.size=H+1+1:=by rw[←Z];simp;omega
 have I:Below H w W:=by rw[←Z];exact((qU _ w).alloc (by omega) _).alloc (by simp;omega) _
 have g0:W.heap[H]?=some (.cells #[.int .u8 k,.string ⟨t.toArray⟩,.slice ka ks.length kc,.slice da ds.length dc,.int .i64 ln] 61):=by
  rw[←Z,←hH];exact(qD _ _ _ (by simp)).trans (qB w _)
 have g1:W.heap[H+1]?=some (.cells #[.int .u8 0,.string ⟨#[]⟩,.slice none 0 0,.slice none 0 0,.int .i64 0] 61):=by
  rw[←Z,←hH];exact Rz w _ _
 have HC:=Ab (J W (by rw[hH];exact I));have HW:=Ab Z;have aK:=Ab g1;have aI:=Ab I;obtain⟨⟨x0,f0⟩,⟨x1,f1⟩,⟨x2,f2⟩,⟨x3,f3⟩,⟨x4,f4⟩⟩:=Al g0;clear J aA aC hT Z g0 g1 I;go_enter Tryz.func111,Tryz.ntmps111
 go_upto_region 1 with fail
 try rw[hH]
 rw[Aa HW];go_wp2_with (go_at_call 152;refine(Aa HC).mono ?_;rintro e w2 ⟨k2,t2,aD,aL,aG,aJ,aH,aM,l2,rfl,HN,aB⟩;have m1:=(aB.block (H+1) (by omega)).trans (Aa aK);obtain⟨⟨y0,q0⟩,⟨y1,q1⟩,⟨y2,q2⟩,⟨y3,q3⟩,⟨y4,q4⟩⟩:=Al m1;have aE:=Ab m1;clear m1)
 obtain⟨n1,n2,n3⟩:=Aa HN;refine qV (results_cell_row rfl _ _ _ _ _ _ _ rfl (K0 (Aa aE) _ _ _ _ _) Tryz.underlying61 rfl (by kernel_rfl)) rfl ⟨k2,t2,aD,aL,aG,aJ,aH,aM,l2,rfl,Ab ⟨n1,n2.keep (fun g hg=>Sh (by have:=n3 g hg;omega) _ _ _ _ _),fun g hg=>by have:=n3 g hg;omega⟩,?_⟩;rw[hH];exact Ku ((Aa aI).trans (aB.mono (by omega))) (by omega) _ _ _ _ _
end Go.Proofs.YtefokfbgpfcbkaaGreat
