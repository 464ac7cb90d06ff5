import Derived.Test.YtefokfbgpfcbkaaGreatPlain28Z
set_option maxRecDepth 100000
set_option maxHeartbeats 1600000
set_option linter.unusedVariables false
set_option linter.unusedSimpArgs false
namespace Go.Proofs.YtefokfbgpfcbkaaGreat
def Hs(ops:Array Oper):Bool:=(List.range ops.size).all fun i=>match ops[i]? with
 |some o=>o.after.all fun e=>decide (e.on<i)
 |none=>true
theorem Sd{ops:Array Oper}(h:Hs ops=true){i:Nat}{o:Oper}(ho:ops[i]?=some o):∀e∈o.after,e.on<i:=by
 intro e I;have hi:=(qA.1 ho).1;have:=List.all_eq_true.1 h i (List.mem_range.2 hi);rw[ho]at this;simp only[Array.all_eq_true']at this;simpa using this e I
theorem Ca{L:Array Bool}{i:Nat}(h:L.getD i true=false):i<L.size∧L.getD i false=false:=by
 have hl:i<L.size:=by
  by_cases hl:i<L.size
  ·exact hl
  ·simp[Array.getD,hl]at h
 refine⟨hl,?_⟩;simp only[Array.getD,hl,dif_pos]at h ⊢;exact h
theorem Ek{md:Region.Mode}{ops:Array Oper}(hd:Hs ops=true){L:Array Bool}(hs:L.size=ops.size):∀(n i:Nat),i≤n→L.getD i true=false→∃j,j∈Region.ready md ops L:=by
 intro n
 induction n with
 |zero=>
  intro i hi h;obtain rfl:i=0:=by omega
  have hl:=(Ca h).1;refine⟨0,mem_ready.2 ⟨h,ops[0]'(by omega),Array.getElem?_eq_getElem _,fun e I _=>?_⟩⟩;have:=Sd hd (Array.getElem?_eq_getElem (by omega:0<ops.size)) e I;omega
 |succ n ih=>
  intro i hi h;have hl:=(Ca h).1;by_cases hr:∃e∈(ops[i]'(by omega)).after,L.getD e.on false=false
  ·obtain⟨e,I,hf⟩:=hr;have h1:=Sd hd (Array.getElem?_eq_getElem (by omega:i<ops.size)) e I;refine ih e.on (by omega) ?_;have J:e.on<L.size:=by omega
   simp only[Array.getD,J,dif_pos]at hf ⊢;exact hf
  ·exact⟨i,mem_ready.2 ⟨h,ops[i]'(by omega),Array.getElem?_eq_getElem _,fun e I _=>by
    by_cases hx:L.getD e.on false=true
    ·exact hx
    ·exact absurd ⟨e,I,by simpa using hx⟩ hr⟩⟩
def Rd(L:Array Bool):Nat:=L.toList.count false
theorem Cb{L:Array Bool}{i:Nat}(h:L.getD i true=false):Rd (L.setIfInBounds i true)+1=Rd L:=by
 obtain⟨hl,_⟩:=Ca h
 have hf:L.toList[i]'(by simpa using hl)=false:=by
  simp only[Array.getD,hl,dif_pos]at h;simpa using h
 unfold Rd;rw[Array.toList_setIfInBounds];have h1:=List.count_set (l:=L.toList) (i:=i) (a:=true) (b:=false) (by simpa using hl);rw[hf]at h1;have h2:0<L.toList.count false:=List.count_pos_iff.2 (by rw[←hf];exact List.getElem_mem _);simp only[BEq.rfl,if_true,show (true==false)=false from rfl,Bool.false_eq_true,if_false]at h1;omega
theorem Ws{P:Program}{md:Region.Mode}{ops:Array Oper}{Q:Exit→Act→World→Prop}(J:Array Bool→Act→World→Prop)(hd:Hs ops=true)
  (aA:∀L a w i o,J L a w→ops[i]?=some o→L.getD i true=false→(∀e∈o.after,Region.binds md e=true→L.getD e.on false=true)→wpOp P ops Q i (J (L.setIfInBounds i true)) a w)
  (hfin:∀L a w,J L a w→(∀i,L.getD i true=true)→Q .normal a w) :
  ∀(I:Nat) (L:Array Bool) (a:Act) (w:World),L.size=ops.size→Rd L≤I→J L a w→wpAny P md ops Q I L a w:=by
 have aB:∀(L:Array Bool),L.size=ops.size→Region.ready md ops L=[]→∀i,L.getD i true=true:=fun L hs hr i=>by
  by_cases h:L.getD i true=false
  ·obtain⟨j,hj⟩:=Ek (md:=md) hd hs i i (qJ _) h;rw[hr]at hj;exact absurd hj (by simp)
  ·simpa using h
 intro I
 induction I with
 |zero=>
  intro L a w hs hu hJ
  have Z:∀i,L.getD i true=true:=fun i=>by
   by_cases h:L.getD i true=false
   ·have:=Cb h;omega
   ·simpa using h
  have hr:Region.ready md ops L=[]:=by
   cases hq:Region.ready md ops L with
   |nil=>rfl
   |cons j r=>
    have hm:j∈Region.ready md ops L:=by rw[hq];exact List.mem_cons_self
    have:=(mem_ready.1 hm).1;rw[Z j]at this;cases this
  exact⟨hr,hfin L a w hJ Z⟩
 |succ I ih=>
  intro L a w hs hu hJ;refine⟨fun hr=>hfin L a w hJ (aB L hs hr),fun i hi=>?_⟩;obtain⟨h0,o,ho,Z⟩:=mem_ready.1 hi;have h1:=Cb h0;exact wpOp_mono (fun a' w' aC=>ih _ a' w' (by simpa using hs) (by omega) aC) (aA L a w i o hJ ho h0 Z)
theorem D9{P:Program}{ops:Array Oper}{Q:Exit→Act→World→Prop}{id:Nat}{a:Act}{w:World}(hm:P.follows .mixedOrders=true)(J:Array Bool→Act→World→Prop)(hd:Hs ops=true)
  (h0:J (Array.replicate ops.size false) a w.drew)
  (I:∀L a w i o,J L a w→ops[i]?=some o→L.getD i true=false→(∀e∈o.after,Region.binds .any e=true→L.getD e.on false=true)→wpOp P ops Q i (J (L.setIfInBounds i true)) a w)
  (hfin:∀L a w,J L a w→(∀i,L.getD i true=true)→Q .normal a w):(Code.region id ops true).wp P Q a w:=
 wp_region_any hm (Ws J hd I hfin ops.size _ a _ (by simp) (by simp[Rd,List.count_replicate]) h0)
theorem Bc{P:Program}{ops:Array Oper}{Q:Exit→Act→World→Prop}{i:Nat}{o:Oper}{K:Act→World→Prop}{a:Act}{w:World}(ho:ops[i]?=some o)(hg:o.guard=none)(h:Oper.wp P o a w K Q):wpOp P ops Q i K a w:=by
 unfold wpOp;rw[ho];simp only[Region.wanted,hg,if_true];exact .inl h
theorem Rg{F:Fence}{n:Nat}{P:Program}{md:Region.Mode}{ops:Array Oper}{Q:Exit→Act→World→Prop}(J:Array Bool→Act→World→Prop)(hd:Hs ops=true)
  (aA:∀L a w i o,J L a w→ops[i]?=some o→L.getD i true=false→(∀e∈o.after,Region.binds md e=true→L.getD e.on false=true)→wpOpIn F n P ops Q i (J (L.setIfInBounds i true)) a w)
  (hfin:∀L a w,J L a w→(∀i,L.getD i true=true)→Q .normal a w) :
  ∀(I:Nat) (L:Array Bool) (a:Act) (w:World),L.size=ops.size→Rd L≤I→J L a w→wpAnyIn F n P md ops Q I L a w:=by
 have aB:∀(L:Array Bool),L.size=ops.size→Region.ready md ops L=[]→∀i,L.getD i true=true:=fun L hs hr i=>by
  by_cases h:L.getD i true=false
  ·obtain⟨j,hj⟩:=Ek (md:=md) hd hs i i (qJ _) h;rw[hr]at hj;exact absurd hj (by simp)
  ·simpa using h
 intro I
 induction I with
 |zero=>
  intro L a w hs hu hJ
  have Z:∀i,L.getD i true=true:=fun i=>by
   by_cases h:L.getD i true=false
   ·have:=Cb h;omega
   ·simpa using h
  have hr:Region.ready md ops L=[]:=by
   cases hq:Region.ready md ops L with
   |nil=>rfl
   |cons j r=>
    have hm:j∈Region.ready md ops L:=by rw[hq];exact List.mem_cons_self
    have:=(mem_ready.1 hm).1;rw[Z j]at this;cases this
  exact⟨hr,hfin L a w hJ Z⟩
 |succ I ih=>
  intro L a w hs hu hJ;refine⟨fun hr=>hfin L a w hJ (aB L hs hr),fun i hi=>?_⟩;obtain⟨h0,o,ho,Z⟩:=mem_ready.1 hi;have h1:=Cb h0;exact wpOpIn_mono (fun a' w' aC=>ih _ a' w' (by simpa using hs) (by omega) aC) (aA L a w i o hJ ho h0 Z)
theorem J7{F:Fence}{n:Nat}{P:Program}{ops:Array Oper}{Q:Exit→Act→World→Prop}{id:Nat}{a:Act}{w:World}(hm:P.follows .mixedOrders=true)(J:Array Bool→Act→World→Prop)(hd:Hs ops=true)
  (h0:J (Array.replicate ops.size false) a w.drew)
  (I:∀L a w i o,J L a w→ops[i]?=some o→L.getD i true=false→(∀e∈o.after,Region.binds .any e=true→L.getD e.on false=true)→wpOpIn F n P ops Q i (J (L.setIfInBounds i true)) a w)
  (hfin:∀L a w,J L a w→(∀i,L.getD i true=true)→Q .normal a w):(Code.region id ops true).wpIn F n P Q a w:=
 wpIn_region_any hm (Rg J hd I hfin ops.size _ a _ (by simp) (by simp[Rd,List.count_replicate]) h0)
theorem Qx{n:Nat}{P:Program}{row:String}{args:Array Value}{w:World}{R:Value→World→Prop}(h:Rows P row args w R)(l:Nat):RowsIn (Fence.wide.inRound l) n P row args w R:=by
 intro c cs _;obtain⟨v,w',r,s⟩:=h c cs;exact⟨v,w',r,stepsIn_wide.2 s⟩
theorem Ff{l n:Nat}{P:Program}{o:Oper}{a:Act}{w:World}{K:Act→World→Prop}{Q:Exit→Act→World→Prop}(hd:∀c,o.op≠.defer c)(h:o.wp P a w K Q):o.wpIn (Fence.wide.inRound l) n P a w K Q:=by
 refine⟨fun _ _=>trivial,?_⟩;rw[Oper.semAt_eq _ _ _ hd];unfold Oper.wp at h;generalize (execOp a.eval o).run P w=r at *;cases r with
 |ok x w'=>
  cases x with
  |value v=>exact h
  |skip=>exact h
  |defer d=>exact h
  |enter f args=>exact⟨fun q=>by simp[Fence.wide]at q,CallsIn.inRound l (callsIn_wide.2 h)⟩
  |row r args=>exact⟨fun q=>by simp[Fence.wide]at q,Qx h l⟩
  |_=>exact h.elim
 |halt x w'=>cases x<;>first|exact h|exact h.elim
def Kc(ops:Array Oper):Bool:=(List.range ops.size).all fun i=>match ops[i]? with
 |none=>true
 |some o=>(o.looksAt ops).all fun x=>(List.range ops.size).all fun j=>match ops[j]? with
  |none=>true
  |some o'=>!(o'.dst==some x)||o.after.any (fun e=>e.on==j&&Region.binds .any e)
def Y3(ops:Array Oper):Bool:=(List.range ops.size).all fun i=>match ops[i]? with
 |none=>true
 |some o=>(List.range ops.size).all fun j=>match ops[j]? with
  |none=>true
  |some o'=>i==j||o.dst==none || !(o.dst==o'.dst)
def Yd(ops:Array Oper):Bool:=ops.all fun o=>match o.op with
 | .select ..=>false
 | .defer ..=>false
 |_=>true
def Cg(ops:Array Oper):Nat→Nat→Nat→Bool
 |0,_,_=>false
 |n+1,x,y=>match ops[x]? with
  |none=>false
  |some o=>o.after.any fun e=>Region.binds .any e&&(e.on==y||Cg ops n e.on y)
structure Fg (ops:Array Oper) (L:Array Bool) (a aF:Act):Prop where
 defers:a.defers=aF.defers
 size:a.tmps.size=aF.tmps.size
 same:∀t,(∃(i:Nat) (o:Oper),ops[i]?=some o∧o.dst=some t∧L.getD i true=false)∨a.tmps[t]?=aF.tmps[t]?
theorem U5{ops:Array Oper}(h:Kc ops=true){i j:Nat}{o o':Oper}{x:Tmp}(ho:ops[i]?=some o)(hx:x∈o.looksAt ops)(hj:ops[j]?=some o')(hd:o'.dst=some x):∃e∈o.after,e.on=j∧Region.binds .any e=true:=by
 have h1:=List.all_eq_true.1 h i (List.mem_range.2 (qA.1 ho).1);rw[ho]at h1;have h2:=List.all_eq_true.1 (List.all_eq_true.1 h1 x hx) j (List.mem_range.2 (qA.1 hj).1);rw[hj]at h2;simp only[hd,BEq.rfl,Bool.not_true,Bool.false_or]at h2;obtain⟨e,I,h3⟩:=Array.any_eq_true'.1 h2;simp only[Bool.and_eq_true,beq_iff_eq]at h3;exact⟨e,I,h3⟩
theorem Ot{ops:Array Oper}(h:Yd ops=true){i:Nat}{o:Oper}(ho:ops[i]?=some o):(∀cs b,o.op≠.select cs b)∧∀c,o.op≠.defer c:=by
 obtain⟨hl,I⟩:=qA.1 ho;have h1:=(Array.all_eq_true.1 h) i hl;rw[I]at h1;refine⟨fun cs b e=>?_,fun c e=>?_⟩<;>(rw[e]at h1;cases h1)
theorem Az{L:Array Bool}{j:Nat}(h1:L.getD j true=false)(h2:L.getD j false=true):False:=by
 have:=(Ca h1).2;rw[h2]at this;cases this
theorem Fg.looks{ops:Array Oper}{L:Array Bool}{a aF:Act}(J:Fg ops L a aF)(hc:Kc ops=true){i:Nat}{o:Oper}(ho:ops[i]?=some o)(I:∀e∈o.after,Region.binds .any e=true→L.getD e.on false=true):∀x∈o.looksAt ops,a.tmps[x]?=aF.tmps[x]?:=by
 intro x hx;rcases J.same x with⟨j,o',h1,h2,h3⟩|h
 ·obtain⟨e,Z,rfl,hb⟩:=U5 hc ho hx h1 h2;exact(Az h3 (I e Z hb)).elim
 ·exact h
theorem D7{ops:Array Oper}{a aF:Act}{o:Oper}(h:∀x∈o.looksAt ops,a.tmps[x]?=aF.tmps[x]?):∀x∈o.op.operands,a.eval x=aF.eval x:=by
 intro x hx;cases x with
 |tmp t=>
  have:=h t (List.mem_append_left _ (List.mem_filterMap.2 ⟨.tmp t,by simpa using hx,rfl⟩));show a.tmps.getD t undef=aF.tmps.getD t undef;rw[Array.getD_eq_getD_getElem?,Array.getD_eq_getD_getElem?,this]
 |_=>rfl
theorem Dg{ops:Array Oper}{a aF:Act}{o:Oper}(h:∀x∈o.looksAt ops,a.tmps[x]?=aF.tmps[x]?):Region.wanted o (yielded ops a.tmps)=Region.wanted o (yielded ops aF.tmps):=by
 unfold Region.wanted;cases hg:o.guard with
 |none=>rfl
 |some gb=>
  obtain⟨g,b⟩:=gb
  have:yielded ops a.tmps g=yielded ops aF.tmps g:=by
   unfold yielded;cases hd:(ops[g]?).bind (·.dst)with
   |none=>rfl
   |some t=>
    simp only[Option.bind_some];rw[h t (List.mem_append_right _ (by rw[hg];simp[hd]))]
  simp only[this]
theorem Ez{a:Act}{d:Option Tmp}{v:Value}(t:Tmp):(a.put d v).tmps[t]?=if d=some t∧t<a.tmps.size then some v else a.tmps[t]?:=by
 cases d with
 |none=>simp[Act.put]
 |some d=>
  show (a.tmps.setIfInBounds d v)[t]?=_;rw[Array.getElem?_setIfInBounds];by_cases h:d=t
  ·subst h;by_cases h2:d<a.tmps.size
   ·simp[h2]
   ·simp[h2]
  ·have:¬(some d=some t):=fun e=>h (by simpa using e);simp[h]
theorem Hk(a:Act)(d:Option Tmp)(v:Value):(a.put d v).defers=a.defers:=by cases d<;>rfl
theorem Lh(a:Act)(d:Option Tmp)(v:Value):(a.put d v).tmps.size=a.tmps.size:=by cases d<;>simp[Act.put]
theorem Dn(L:Array Bool)(i j:Nat):(L.setIfInBounds i true).getD j true=if i=j then true else L.getD j true:=by
 rw[Array.getD_eq_getD_getElem?,Array.getElem?_setIfInBounds,Array.getD_eq_getD_getElem?];by_cases h:i=j
 ·subst h;by_cases h2:i<L.size<;>simp[h2]
 ·simp[h]
theorem Fg.step{ops:Array Oper}{L:Array Bool}{a aF:Act}(I:Fg ops L a aF)(hu:Y3 ops=true){i:Nat}{o:Oper}(ho:ops[i]?=some o){v:Value}(J:∀t,o.dst=some t→aF.tmps[t]?=some v):Fg ops (L.setIfInBounds i true) (a.put o.dst v) aF:=by
 refine⟨(Hk _ _ _).trans I.defers,(Lh _ _ _).trans I.size,fun t=>?_⟩;rw[Ez];by_cases hd:o.dst=some t
 ·right
  have h1:=J t hd;have h2:=(qA.1 h1).1;rw[if_pos ⟨hd,by rw[I.size];exact h2⟩,h1]
 ·rw[if_neg (fun h=>hd h.1)];rcases I.same t with⟨j,o',h1,h2,h3⟩|h
  ·left
   refine⟨j,o',h1,h2,?_⟩
   have:i≠j:=by
    rintro rfl;rw[ho]at h1;cases h1;exact hd h2
   rw[Dn,if_neg this];exact h3
  ·exact .inr h
theorem Fg.write{ops:Array Oper}{L:Array Bool}{a aF:Act}(I:Fg ops L a aF){i:Nat}{o:Oper}(ho:ops[i]?=some o)(v:Value):Fg ops (L.setIfInBounds i true) (a.put o.dst v) (aF.put o.dst v):=by
 refine⟨by rw[Hk,Hk];exact I.defers,by rw[Lh,Lh];exact I.size,fun t=>?_⟩;rw[Ez,Ez,I.size];by_cases hd:o.dst=some t∧t<aF.tmps.size
 ·right
  rw[if_pos hd,if_pos hd]
 ·rw[if_neg hd,if_neg hd];rcases I.same t with⟨j,o',h1,h2,h3⟩|h
  ·by_cases J:i=j
   ·subst J;rw[ho]at h1;cases h1
    right
    have h4:aF.tmps.size≤t:=Nat.le_of_not_lt fun h=>hd ⟨h2,h⟩;rw[Array.getElem?_eq_none (by rw[I.size];exact h4),Array.getElem?_eq_none h4]
   ·left
    refine⟨j,o',h1,h2,?_⟩;rw[Dn,if_neg J];exact h3
  ·exact .inr h
theorem Fg.all{ops:Array Oper}{L:Array Bool}{a aF:Act}(I:Fg ops L a aF)(h:∀i,L.getD i true=true):a=aF:=by
 obtain⟨t1,d1⟩:=a;obtain⟨J,d2⟩:=aF;obtain⟨h1,h2,h3⟩:=I;simp only at h1 h2 h3;subst h1
 congr 1
 apply Array.ext_getElem?;intro t;rcases h3 t with⟨i,o,_,_,h4⟩|h4
 ·rw[h i]at h4;cases h4
 ·exact h4
def Iq(P:Program)(o:Oper)(aF:Act)(W:World)(v:Value):Prop:=
 (execOp aF.eval o).run P W=.ok (.value v) W∨∃f args,(execOp aF.eval o).run P W=.ok (.enter f args) W∧Calls P f args W fun e w'=>e=.returned v∧w'=W
theorem wq{P:Program}{ops:Array Oper}{aF:Act}{W:World}{i t:Nat}{o I:Oper}{v:Value}(ho:ops[i]?=some o)(h1:ops[i]?=some I)(hw:Region.wanted I (yielded ops aF.tmps)=true)(ht:I.dst=some t)(J:aF.tmps[t]?=some v)(h:(execOp aF.eval I).run P W=.ok (.value v) W):if Region.wanted o (yielded ops aF.tmps)=true then∃t v,o.dst=some t∧aF.tmps[t]?=some v∧Iq P o aF W v else ∀t,o.dst=some t→aF.tmps[t]?=some undef:=by
 rw[ho]at h1;cases h1;exact(if_pos hw).mpr ⟨t,v,ht,J,.inl h⟩
def F0(P:Program)(o:Oper)(aF:Act)(W:World)(Φ:Act→World→Prop):Prop:=
 (∃v W',(execOp aF.eval o).run P W=.ok (.value v) W'∧Φ (aF.put o.dst v) W')∨(∃W',(execOp aF.eval o).run P W=.ok .skip W'∧Φ (aF.put o.dst undef) W') ∨
 ∃f args W',(execOp aF.eval o).run P W=.ok (.enter f args) W'∧Calls P f args W' fun e w'=>∃v,e=.returned v∧Φ (aF.put o.dst v) w'
structure Pd (ops:Array Oper) (ws:List Nat) (Φ:Nat→Act→World→Prop) (L:Array Bool) (a:Act) (w:World):Prop where
 ex:∃k aF,Φ k aF w∧Fg ops L a aF∧∀j x,ws[j]?=some x→(L.getD x false=true↔j<k)
 closed:∀i o,ops[i]?=some o→L.getD i false=true→∀e∈o.after,Region.binds .any e=true→L.getD e.on false=true
 size:L.size=ops.size
theorem Aq(L:Array Bool)(i j:Nat)(hi:i<L.size):(L.setIfInBounds i true).getD j false=if i=j then true else L.getD j false:=by
 rw[Array.getD_eq_getD_getElem?,Array.getElem?_setIfInBounds,Array.getD_eq_getD_getElem?];by_cases h:i=j
 ·subst h;simp[hi]
 ·simp[h]
theorem Bv{ops:Array Oper}{L:Array Bool}(I:∀i o,ops[i]?=some o→L.getD i false=true→∀e∈o.after,Region.binds .any e=true→L.getD e.on false=true):∀(n x y:Nat),(∀o,ops[x]?=some o→∀e∈o.after,Region.binds .any e=true→L.getD e.on false=true)→Cg ops n x y=true→L.getD y false=true
 |0,x,y,hx,h=>by simp[Cg]at h
 |n+1,x,y,hx,h=>by
  unfold Cg at h;cases ho:ops[x]? with
  |none=>rw[ho]at h;cases h
  |some o=>
   rw[ho]at h;obtain⟨e,Z,h1⟩:=Array.any_eq_true'.1 h;simp only[Bool.and_eq_true,Bool.or_eq_true,beq_iff_eq]at h1;have h2:=hx o ho e Z h1.1;rcases h1.2 with rfl|h3
   ·exact h2
   ·exact Bv I n e.on y (fun o' J=>I e.on o' J h2) h3
def I9(ops:Array Oper):Bool:=Kc ops&&(Y3 ops&&(Yd ops&&Hs ops))
def B1(ops:Array Oper)(ws:List Nat):Bool:=(List.range ws.length).all fun k=>(List.range ws.length).all fun j=>!decide (k<j)||match ws[j]?,ws[k]? with
 |some y,some x=>Cg ops ops.size y x
 |_,_=>true
theorem Ef{ops:Array Oper}{ws:List Nat}(h:B1 ops ws=true){k j x y:Nat}(hk:ws[k]?=some x)(hj:ws[j]?=some y)(hkj:k<j):Cg ops ops.size y x=true:=by
 have h1:=List.all_eq_true.1 (List.all_eq_true.1 h k (List.mem_range.2 (qI.1 hk).1)) j (List.mem_range.2 (qI.1 hj).1);rw[hj,hk]at h1;simpa[hkj]using h1
theorem Le{P:Program}{ops:Array Oper}{Q:Exit→Act→World→Prop}(ws:List Nat)(Φ:Nat→Act→World→Prop)(hs:I9 ops=true)(aL:B1 ops ws=true)
  (hpure:∀k aF W i o,Φ k aF W→ops[i]?=some o→i∉ws→(∀j x,ws[j]?=some x→Cg ops ops.size x i=true→k≤j) →
   if Region.wanted o (yielded ops aF.tmps)=true then∃t v,o.dst=some t∧aF.tmps[t]?=some v∧Iq P o aF W v else ∀t,o.dst=some t→aF.tmps[t]?=some undef)
  (hwrite:∀k aF W i o,Φ k aF W→ws[k]?=some i→ops[i]?=some o→Region.wanted o (yielded ops aF.tmps)=true∧F0 P o aF W (Φ (k+1)))
  {L:Array Bool} {a:Act} {w:World} {i:Nat} {o:Oper} (hJ:Pd ops ws Φ L a w) (ho:ops[i]?=some o) (hi:L.getD i true=false) (aA:∀e∈o.after,Region.binds .any e=true→L.getD e.on false=true) :
  (∀c,o.op≠.defer c)∧if Region.wanted o (yielded ops a.tmps)=true then Oper.wp P o a w (Pd ops ws Φ (L.setIfInBounds i true)) Q else Pd ops ws Φ (L.setIfInBounds i true) (a.put o.dst undef) w:=by
 simp only[I9,Bool.and_eq_true]at hs;obtain⟨hc,hu,hk,hd⟩:=hs;obtain⟨⟨k,aF,h1,h2,h3⟩,aB,hsz⟩:=hJ;obtain⟨aP,aQ⟩:=Ot hk ho;have hlk:=h2.looks hc ho aA;have aO:execOp a.eval o=execOp aF.eval o:=execOp_congr o aP (D7 hlk);have aN:=Dg hlk;have aD:=(Ca hi).1
 have aE:∀i' o',ops[i']?=some o'→(L.setIfInBounds i true).getD i' false=true→∀e∈o'.after,Region.binds .any e=true→(L.setIfInBounds i true).getD e.on false=true:=by
  intro i' o' I hl e he hb;rw[Aq _ _ _ aD];split
  ·rfl
  ·rw[Aq _ _ _ aD]at hl;by_cases aJ:i=i'
   ·subst aJ;rw[ho]at I;cases I;exact aA e he hb
   ·rw[if_neg aJ]at hl;exact aB i' o' I hl e he hb
 have aH:(L.setIfInBounds i true).size=ops.size:=by simpa using hsz
 have aG:=fun y (h:Cg ops ops.size i y=true)=>Bv aB ops.size i y (fun o' I=>by rw[ho]at I;cases I;exact aA) h;refine⟨aQ,?_⟩;by_cases hw:i∈ws
 ·-- a writer: it is the next one
  obtain⟨j,hj⟩:=zM hw;have aU:¬j<k:=fun h=>Az hi ((h3 j i hj).2 h)
  have hkj:j=k:=by
   by_cases h:k<j
   ·have aM:k<ws.length:=by have:=(qI.1 hj).1;omega
    have h4:=aG ws[k] (Ef aL (qO aM) hj h);have:=(h3 k ws[k] (qO aM)).1 h4;omega
   ·omega
  subst hkj;obtain⟨aC,aR⟩:=hwrite j aF w i o h1 hj ho
  have Z:∀v W',Φ (j+1) (aF.put o.dst v) W'→Pd ops ws Φ (L.setIfInBounds i true) (a.put o.dst v) W':=fun v W' hΦ=>by
   refine⟨⟨j+1,_,hΦ,h2.write ho v,fun j' x hx=>?_⟩,aE,aH⟩;rw[Aq _ _ _ aD];by_cases aI:i=x
   ·subst aI;simp only[if_true,true_iff]
    -- the same place
    have h5:¬j'<j:=fun h=>Az hi ((h3 j' i hx).2 h);by_cases h6:j<j'
    ·have h7:=aG i (Ef aL hj hx h6);exact(Az hi h7).elim
    ·omega
   ·rw[if_neg aI,h3 j' x hx];constructor
    ·intro h;omega
    ·intro h;by_cases h8:j'=j
     ·subst h8;rw[hj]at hx;cases hx;exact absurd rfl aI
     ·omega
  rw[aN,if_pos aC];unfold Oper.wp;rw[aO];rcases aR with⟨v,W',hr,hΦ⟩|⟨W',hr,hΦ⟩|⟨f,args,W',hr,J⟩
  ·rw[hr];exact Z v W' hΦ
  ·rw[hr];exact Z undef W' hΦ
  ·rw[hr];refine J.mono ?_;rintro e w' ⟨v,rfl,hΦ⟩;exact Z v w' hΦ
 ·have Z:∀v,(∀t,o.dst=some t→aF.tmps[t]?=some v)→Pd ops ws Φ (L.setIfInBounds i true) (a.put o.dst v) w:=fun v hv=>by
   refine⟨⟨k,aF,h1,h2.step hu ho hv,fun j x hx=>?_⟩,aE,aH⟩;rw[Aq _ _ _ aD,if_neg (by rintro rfl;exact hw (qN hx))];exact h3 j x hx
  have hp:=hpure k aF w i o h1 ho hw (fun j x hx aS=>by
   by_cases h:k≤j
   ·exact h
   ·have hl:=(h3 j x hx).2 (by omega);have:=Bv aB ops.size x i (fun o' I=>aB x o' I hl) aS
    exact(Az hi this).elim)
  rw[aN];by_cases aC:Region.wanted o (yielded ops aF.tmps)=true
  ·rw[if_pos aC]at hp ⊢;obtain⟨t,v,ht,hv,aT⟩:=hp;have aK:∀t',o.dst=some t'→aF.tmps[t']?=some v:=fun t' h=>by rw[ht]at h;cases h;exact hv
   unfold Oper.wp;rw[aO];rcases aT with hr|⟨f,args,hr,J⟩
   ·rw[hr];exact Z v aK
   ·rw[hr];refine J.mono ?_;rintro e w' ⟨rfl,rfl⟩;exact Z v aK
  ·rw[if_neg aC]at hp ⊢;exact Z undef hp
theorem Ju{ops:Array Oper}{ws:List Nat}{Φ:Nat→Act→World→Prop}{a aF:Act}{w:World}(hΦ:Φ 0 aF w)(hd:a.defers=aF.defers)(J:a.tmps.size=aF.tmps.size)(I:∀t,(∃(i:Nat) (o:Oper),ops[i]?=some o∧o.dst=some t)∨a.tmps[t]?=aF.tmps[t]?):Pd ops ws Φ (Array.replicate ops.size false) a w:=by
 have hf:∀i,(Array.replicate ops.size false).getD i false=false:=fun i=>by
  rw[Array.getD_eq_getD_getElem?,Array.getElem?_replicate];split<;>rfl
 refine⟨⟨0,aF,hΦ,⟨hd,J,fun t=>?_⟩,fun j x _=>by rw[hf];simp⟩,(fun i o _ h=>by rw[hf]at h;cases h),by simp⟩;rcases I t with⟨i,o,h1,h2⟩|h
 ·left
  refine⟨i,o,h1,h2,?_⟩;rw[Array.getD_eq_getD_getElem?,Array.getElem?_replicate,if_pos (qA.1 h1).1];rfl
 ·exact .inr h
theorem Nf{ops:Array Oper}{ws:List Nat}{Φ:Nat→Act→World→Prop}{Q:Exit→Act→World→Prop}(Z:∀x∈ws,x<ops.size)(hfin:∀k aF W,ws.length≤k→Φ k aF W→Q .normal aF W){L:Array Bool}{a:Act}{w:World}(hJ:Pd ops ws Φ L a w)(I:∀i,L.getD i true=true):Q .normal a w:=by
 obtain⟨⟨k,aF,h1,h2,h3⟩,_,hsz⟩:=hJ;have he:=h2.all I;subst he;refine hfin k a w ?_ h1;by_cases h:ws.length≤k
 ·exact h
 ·have J:k<ws.length:=by omega
  have hx:=qO J;have aA:=Z ws[k] (List.getElem_mem J)
  have h4:L.getD ws[k] false=true:=by
   have:=I ws[k];rw[Array.getD_eq_getD_getElem?,Array.getElem?_eq_getElem (by omega)]at this ⊢;exact this
  have:=(h3 k _ hx).1 h4;omega
theorem D3{l n:Nat}{P:Program}{ops:Array Oper}{Q:Exit→Act→World→Prop}{id:Nat}{a aF:Act}{w:World}(hm:P.follows .mixedOrders=true)(ws:List Nat)(Φ:Nat→Act→World→Prop)(hs:I9 ops=true)(aA:B1 ops ws=true)(aB:∀x∈ws,x<ops.size)
  (hΦ:Φ 0 aF w.drew) (hd:a.defers=aF.defers) (hz:a.tmps.size=aF.tmps.size) (I:∀t,(∃(i:Nat) (o:Oper),ops[i]?=some o∧o.dst=some t)∨a.tmps[t]?=aF.tmps[t]?)
  (hpure:∀k aF W i o,Φ k aF W→ops[i]?=some o→i∉ws→(∀j x,ws[j]?=some x→Cg ops ops.size x i=true→k≤j) →
   if Region.wanted o (yielded ops aF.tmps)=true then∃t v,o.dst=some t∧aF.tmps[t]?=some v∧Iq P o aF W v else ∀t,o.dst=some t→aF.tmps[t]?=some undef)
  (hwrite:∀k aF W i o,Φ k aF W→ws[k]?=some i→ops[i]?=some o→Region.wanted o (yielded ops aF.tmps)=true∧F0 P o aF W (Φ (k+1)))
  (hfin:∀k aF W,ws.length≤k→Φ k aF W→Q .normal aF W):(Code.region id ops true).wpIn (Fence.wide.inRound l) n P Q a w:=by
 refine J7 hm (Pd ops ws Φ) (by simp only[I9,Bool.and_eq_true]at hs;exact hs.2.2.2) (Ju hΦ hd hz I) (fun L a w i o hJ ho hi J=>?_) (fun L a w hJ Z=>Nf aB hfin hJ Z);obtain⟨h1,h2⟩:=Le (Q:=Q) ws Φ hs aA hpure hwrite hJ ho hi J;unfold wpOpIn;rw[ho];simp only;split
 ·rename_i hw
  rw[if_pos hw]at h2;exact Ff h1 h2
 ·rename_i hw
  rw[if_neg hw]at h2;exact⟨fun _ _=>trivial,h2⟩
theorem A7{P:Program}{ops:Array Oper}{Q:Exit→Act→World→Prop}{id:Nat}{a aF:Act}{w:World}(hm:P.follows .mixedOrders=true)(ws:List Nat)(Φ:Nat→Act→World→Prop)(hs:I9 ops=true)(aA:B1 ops ws=true)(aB:∀x∈ws,x<ops.size)
  (hΦ:Φ 0 aF w.drew) (hd:a.defers=aF.defers) (hz:a.tmps.size=aF.tmps.size) (I:∀t,(∃(i:Nat) (o:Oper),ops[i]?=some o∧o.dst=some t)∨a.tmps[t]?=aF.tmps[t]?)
  (hpure:∀k aF W i o,Φ k aF W→ops[i]?=some o→i∉ws→(∀j x,ws[j]?=some x→Cg ops ops.size x i=true→k≤j) →
   if Region.wanted o (yielded ops aF.tmps)=true then∃t v,o.dst=some t∧aF.tmps[t]?=some v∧Iq P o aF W v else ∀t,o.dst=some t→aF.tmps[t]?=some undef)
  (hwrite:∀k aF W i o,Φ k aF W→ws[k]?=some i→ops[i]?=some o→Region.wanted o (yielded ops aF.tmps)=true∧F0 P o aF W (Φ (k+1)))
  (hfin:∀k aF W,ws.length≤k→Φ k aF W→Q .normal aF W):(Code.region id ops true).wp P Q a w:=by
 refine D9 hm (Pd ops ws Φ) (by simp only[I9,Bool.and_eq_true]at hs;exact hs.2.2.2) (Ju hΦ hd hz I) (fun L a w i o hJ ho hi J=>?_) (fun L a w hJ Z=>Nf aB hfin hJ Z);obtain⟨h1,h2⟩:=Le (Q:=Q) ws Φ hs aA hpure hwrite hJ ho hi J;unfold wpOp;rw[ho];simp only;split
 ·rename_i hw
  rw[if_pos hw]at h2;exact .inl h2
 ·rename_i hw
  rw[if_neg hw]at h2;exact h2
def Mx(ops:Array Oper):Bool:=ops.all fun o=>match o.op with
 | .defer ..=>false
 |_=>true
theorem Qd{ops:Array Oper}(h:Mx ops=true){i:Nat}{o:Oper}(ho:ops[i]?=some o):∀c,o.op≠.defer c:=by
 obtain⟨hl,I⟩:=qA.1 ho;have h1:=(Array.all_eq_true.1 h) i hl;rw[I]at h1;intro c e;rw[e]at h1;cases h1
theorem Mh{l n:Nat}{P:Program}{ops:Array Oper}{C:World→Prop}{i:Nat}{a:Act}{K:Act→Prop}{Z:Act→World→Prop}{Q':Exit→Act→World→Prop}{w:World}(hk:Mx ops=true)(J:C w)(h:∀a w',C w'→K a→Z a w')(I:qOp P ops C i K a):wpOpIn (Fence.wide.inRound l) n P ops Q' i Z a w:=by
 unfold qOp at I;unfold wpOpIn;split
 ·rename_i ho;simp only[ho]at I;exact h _ _ J I
 ·rename_i o ho
  simp only[ho]at I;split
  ·rename_i hw
   simp only[hw,if_true]at I;exact Ff (Qd hk ho) (Oper.wp_of_quiet J h I)
  ·rename_i hw;simp only[hw]at I;exact⟨fun _ _=>trivial,h _ _ J I⟩
theorem En{l n:Nat}{P:Program}{md:Region.Mode}{ops:Array Oper}{C:World→Prop}{Q:Act→Prop}{Q':Exit→Act→World→Prop}(hk:Mx ops=true)(hQ:∀a w,C w→Q a→Q' .normal a w):∀(J:Nat) (I:Array Bool) (a:Act) (w:World),C w →
  wpAnyQ P md ops C Q J I a→wpAnyIn (Fence.wide.inRound l) n P md ops Q' J I a w
 |0,_,_,_,hw,h=>⟨h.1,hQ _ _ hw h.2⟩
 |J+1,_,_,_,hw,h=>⟨fun h0=>hQ _ _ hw (h.1 h0),fun i hi=>Mh hk hw (fun a' w' Z=>En hk hQ J _ a' w' Z) (h.2 i hi)⟩
theorem Bm{lv n:Nat}{P:Program}{id:Nat}{Q:Exit→Act→World→Prop}{a:Act}{w:World}{l:List Oper}(hm:P.follows .mixedOrders=true)(hB:Region.lexB .any l.toArray=true)(hk:Mx l.toArray=true)
  (h:wpQuiet P l.toArray (fun w'=>∃n,w'=w.drewN n) (fun I=>∀w',(∃n,w'=w.drewN n)→Q .normal I w') l a):(Code.region id l.toArray true).wpIn (Fence.wide.inRound lv) n P Q a w:=by
 simp only[Region.lexB,Bool.and_eq_true]at hB;refine wpIn_region_any hm (En (C:=fun w'=>∃n,w'=w.drewN n) hk (Q:=fun I=>∀w',(∃n,w'=w.drewN n)→Q .normal I w') (fun _ w' J h=>h w' J) _ _ _ _ ⟨1,rfl⟩ ?_);have:=wpAnyQ_lex (C:=fun w'=>∃n,w'=w.drewN n) (md:=.any) hB.1 l 0 (Array.replicate l.toArray.size false) a (by simp) (by simpa using hB.2) h;simpa using this
def Ee(o:Oper):Oper:={ o with dst:=none,op:=.move (.const undef),guard:=none }
def A3(l:List Oper)(p:Nat):List Oper:=l.take p++(l.drop p).map Ee
def J1(ops:Array Oper)(p:Nat):Bool:=(List.range ops.size).all fun i=>decide (i<p)||(List.range i).all fun j=>Cg ops ops.size i j
def Gq(l:List Oper)(p:Nat):Bool:=(l.take p).all fun o=>match o.guard with
 |some (g,_)=>decide (g<p)
 |none=>true
theorem O7{ops:Array Oper}{p i j:Nat}(h:J1 ops p=true)(hi:i<ops.size)(hp:p≤i)(hj:j<i):Cg ops ops.size i j=true:=by
 have h1:=List.all_eq_true.1 h i (List.mem_range.2 hi);have h2:decide (i<p)=false:=decide_eq_false (by omega);rw[h2,Bool.false_or]at h1;exact List.all_eq_true.1 h1 j (List.mem_range.2 hj)
theorem C8(l:List Oper)(p:Nat):(A3 l p).length=l.length:=by simp[A3];omega
theorem D1{l:List Oper}{p i:Nat}(h:i<p):(A3 l p)[i]?=l[i]?:=by
 unfold A3;by_cases hl:i<l.length
 ·rw[qZ (by simp;omega),List.getElem?_take_of_lt h]
 ·rw[List.getElem?_eq_none (by simp[A3];omega),List.getElem?_eq_none (by omega)]
theorem Ew{l:List Oper}{p i:Nat}(h:p≤i):(A3 l p)[i]?=(l[i]?).map Ee:=by
 unfold A3;by_cases hl:p≤l.length
 ·rw[zA (by simp;omega),zJ,zL,qY,Nat.min_eq_left hl,show p+(i-p)=i by omega]
 ·rw[List.getElem?_eq_none (by simp;omega),List.getElem?_eq_none (by omega)];rfl
theorem Gx(l:List Oper)(p:Nat)(L:Array Bool):Region.ready .any (A3 l p).toArray L=Region.ready .any l.toArray L:=by
 unfold Region.ready;rw[show (A3 l p).toArray.size=l.toArray.size by simp[C8]]
 congr 1
 funext i
 congr 1
 have e:((A3 l p).toArray[i]?).map (fun o=>o.after)=(l.toArray[i]?).map (fun o=>o.after):=by
  rw[List.getElem?_toArray,List.getElem?_toArray];by_cases h:i<p
  ·rw[D1 h]
  ·rw[Ew (by omega)];cases l[i]?<;>rfl
 have I:∀(x:Option Oper),(x.map (·.after.all fun e=>!Region.binds .any e||L.getD e.on false)).getD false=((x.map (fun o=>o.after)).map (·.all fun e=>!Region.binds .any e||L.getD e.on false)).getD false:=fun x=>by cases x<;>rfl
 rw[I,I,e]
theorem Dq{l:List Oper}{p i:Nat}{o:Oper}(hg:Gq l p=true)(ho:l[i]?=some o)(hi:i<p)(t:Array Value):Region.wanted o (yielded (A3 l p).toArray t)=Region.wanted o (yielded l.toArray t):=by
 have hm:o∈l.take p:=qN (i:=i) (by rw[List.getElem?_take_of_lt hi];exact ho);have h1:=List.all_eq_true.1 hg o hm;unfold Region.wanted;cases hq:o.guard with
 |none=>rfl
 |some gb=>
  obtain⟨g,b⟩:=gb;rw[hq]at h1;have I:g<p:=of_decide_eq_true h1
  have:yielded (A3 l p).toArray t g=yielded l.toArray t g:=by
   unfold yielded;rw[List.getElem?_toArray,List.getElem?_toArray,D1 I]
  simp only[this]
theorem Ie{P:Program}{ops:Array Oper}{C:World→Prop}{Q:Act→Prop}:∀(l:List Oper) (a:Act),Q a→wpQuiet P ops C Q (l.map Ee) a
 | [],a,h=>h
 |o::l,a,h=>by
  show (if Region.wanted (Ee o) (yielded ops a.tmps) then (Ee o).quiet P a C (wpQuiet P ops C Q (l.map Ee)) else wpQuiet P ops C Q (l.map Ee) (a.put none undef));rw[if_pos (show Region.wanted (Ee o) (yielded ops a.tmps)=true from rfl)];exact⟨undef,fun w hw=>⟨rfl,rfl⟩,Ie l a h⟩
theorem I8{P:Program}{l:List Oper}{p:Nat}{C:World→Prop}{Q:Act→Prop}(hg:Gq l p=true):∀(m:List Oper) (k:Nat) (a:Act),(∀i,k≤i→i<p→m[i-k]?=l[i]?)→m.length≤p-k→wpQuiet P l.toArray C Q m a→wpQuiet P (A3 l p).toArray C Q (m++(l.drop p).map Ee) a
 | [],k,a,_,_,h=>Ie _ a h
 |o::m,k,a,hm,hk,h=>by
  simp only[qE]at hk;have ho:l[k]?=some o:=by have:=hm k (qJ _) (by omega);simpa using this.symm
  have ih:∀a,wpQuiet P l.toArray C Q m a→wpQuiet P (A3 l p).toArray C Q (m++(l.drop p).map Ee) a:=fun a=>I8 hg m (k+1) a (fun i h1 h2=>by
   have:=hm i (by omega) h2;rw[show i-k=(i-(k+1))+1 by omega]at this
   simpa using this) (by omega)
  have I:if Region.wanted o (yielded l.toArray a.tmps) then o.quiet P a C (wpQuiet P l.toArray C Q m) else wpQuiet P l.toArray C Q m (a.put o.dst undef):=h;show if Region.wanted o (yielded (A3 l p).toArray a.tmps) then o.quiet P a C (wpQuiet P (A3 l p).toArray C Q (m++(l.drop p).map Ee)) else wpQuiet P (A3 l p).toArray C Q (m++(l.drop p).map Ee) (a.put o.dst undef);rw[Dq hg ho (by omega)];split
  ·rename_i hw
   rw[if_pos hw]at I;exact Oper.quiet_mono ih I
  ·rename_i hw
   rw[if_neg hw]at I;exact ih _ I
theorem C9{P:Program}{l:List Oper}{p:Nat}{C:World→Prop}{Q:Act→Prop}:∀(I:Nat) (L:Array Bool) (a:Act),(∀i,i<p→L.getD i true=true)→wpAnyQ P .any (A3 l p).toArray C Q I L a→Q a
 |0,L,a,_,h=>h.2
 |I+1,L,a,hL,h=>by
  cases hr:Region.ready .any (A3 l p).toArray L with
  |nil=>exact h.1 hr
  |cons i r=>
   have hi:i∈Region.ready .any (A3 l p).toArray L:=by rw[hr];exact List.mem_cons_self
   obtain⟨h0,o,ho,_⟩:=mem_ready.1 hi
   have J:p≤i:=by
    by_cases h1:i<p
    ·rw[hL i h1]at h0;cases h0
    ·omega
   have h2:=h.2 i hi;rw[List.getElem?_toArray,Ew J]at ho;unfold qOp at h2;rw[List.getElem?_toArray,Ew J]at h2;cases hq:l[i]? with
   |none=>rw[hq]at ho;cases ho
   |some o'=>
    rw[hq]at h2;simp only[Option.map_some]at h2;rw[if_pos (show Region.wanted (Ee o') (yielded (A3 l p).toArray a.tmps)=true from rfl)]at h2;obtain⟨v,_,h3⟩:=h2;exact C9 I _ a (fun j hj=>by rw[Dn];split<;>first|rfl|exact hL j hj) h3
theorem Tc{ops:Array Oper}{L:Array Bool}{i:Nat}{o:Oper}(hi:i∈Region.ready .any ops L)(ho:ops[i]?=some o):∀e∈o.after,Region.binds .any e=true→L.getD e.on false=true:=by
 obtain⟨_,o',I,h⟩:=mem_ready.1 hi;rw[ho]at I;cases I;exact h
theorem Fb{ops:Array Oper}{p k i:Nat}{L:Array Bool}(hd:Hs ops=true)(ht:J1 ops p=true)(hpk:p≤k)(h1:∀j,j<k→L.getD j true=true)(h2:∀j,k≤j→L.getD j false=false)(hs:L.size=ops.size)(hi:i∈Region.ready .any ops L):i=k∧k<ops.size:=by
 obtain⟨h0,o,ho,_⟩:=mem_ready.1 hi;have J:=(qA.1 ho).1
 have aA:k≤i:=by
  by_cases h:i<k
  ·rw[h1 i h]at h0;cases h0
  ·omega
 refine⟨?_,by omega⟩;by_cases h:k<i
 ·have h3:=Bv (L:=L) (fun x o' I hx e he hb=>by
   have aB:x<k:=by
    by_cases Z:x<k
    ·exact Z
    ·rw[h2 x (by omega)]at hx;cases hx
   have h4:=Sd hd I e he;have h5:=h1 e.on (by omega);have h6:e.on<L.size:=by have:=(qA.1 I).1;omega
   simpa[Array.getD,h6]using h5) ops.size i k (fun o' I=>Tc hi I) (O7 ht J (by omega) h)
  rw[h2 k (qJ _)]at h3;cases h3
 ·omega
theorem Ho{P:Program}{ops:Array Oper}{Q:Exit→Act→World→Prop}{p:Nat}(hd:Hs ops=true)(ht:J1 ops p=true):∀(t:List Oper) (k I:Nat) (L:Array Bool) (a:Act) (w:World),ops.toList.drop k=t→p≤k→(∀j,j<k→L.getD j true=true)→(∀j,k≤j→L.getD j false=false)→L.size=ops.size→t.length≤I→wpList P ops Q t a w→wpAny P .any ops Q I L a w
 | [],k,I,L,a,w,hk,hpk,h1,h2,hs,hf,h=>by
  have Z:Region.ready .any ops L=[]:=by
   cases hr:Region.ready .any ops L with
   |nil=>rfl
   |cons i r=>
    have:=Fb hd ht hpk h1 h2 hs (by rw[hr];exact List.mem_cons_self);have h3:=congrArg List.length hk;simp at h3;omega
  cases I with
  |zero=>exact⟨Z,h⟩
  |succ I=>exact⟨fun _=>h,fun i hi=>by rw[Z]at hi;cases hi⟩
 |o::t,k,I,L,a,w,hk,hpk,h1,h2,hs,hf,h=>by
  have ho:ops[k]?=some o:=by
   have:=congrArg (fun l:List Oper=>l[0]?) hk;simpa using this
  have aA:=(qA.1 ho).1;obtain⟨I,rfl⟩:∃f,I=f+1:=⟨I-1,by simp at hf;omega⟩;refine⟨fun hr=>?_,fun i hi=>?_⟩
  ·have h3:L.getD k true=false:=by
    have h4:=h2 k (qJ _);have h5:k<L.size:=by omega
    simpa[Array.getD,h5]using h4
   obtain⟨j,hj⟩:=Ek (md:=.any) hd hs k k (qJ _) h3;rw[hr]at hj;cases hj
  ·obtain⟨rfl,_⟩:=Fb hd ht hpk h1 h2 hs hi
   have hK:∀a' w',wpList P ops Q t a' w'→wpAny P .any ops Q I (L.setIfInBounds i true) a' w':=fun a' w' J=>
    Ho hd ht t (i+1) I _ a' w' (by
     have:=congrArg List.tail hk
     simpa using this) (by omega) (fun j hj=>by rw[Dn];split<;>first|rfl|exact h1 j (by omega)) (fun j hj=>by rw[Aq _ _ _ (by omega),if_neg (by omega)];exact h2 j (by omega)) (by simpa using hs) (by simp at hf;omega) J
   have J:if Region.wanted o (yielded ops a.tmps) then o.wp P a w (wpList P ops Q t) Q∨(o.asks P a w∧LetsOut Q) else wpList P ops Q t (a.put o.dst undef) w:=h;unfold wpOp;rw[ho];simp only;split
   ·rename_i hw
    rw[if_pos hw]at J;exact J.imp (qR hK) id
   ·rename_i hw
    rw[if_neg hw]at J;exact hK _ _ J
theorem T4{P:Program}{l:List Oper}{Q:Exit→Act→World→Prop}{p:Nat}{C:World→Prop}(hd:Hs l.toArray=true)(ht:J1 l.toArray p=true)(hg:Gq l p=true):∀(I:Nat) (L:Array Bool) (a:Act) (w:World),C w→L.size=l.length→Rd L≤I →
  (∀j,p≤j→L.getD j false=false)→(∀i o,l.toArray[i]?=some o→L.getD i false=true→∀e∈o.after,Region.binds .any e=true→L.getD e.on false=true) →
  wpAnyQ P .any (A3 l p).toArray C (fun a'=>∀w',C w'→wpList P l.toArray Q (l.drop p) a' w') I L a→wpAny P .any l.toArray Q I L a w:=by
 intro I
 induction I with
 |zero=>
  intro L a w hC hs hu h2 aB h
  have J:∀i,L.getD i true=true:=fun i=>by
   by_cases h':L.getD i true=false
   ·have:=Cb h';omega
   ·simpa using h'
  have h3:=C9 0 L a (fun i _=>J i) h w hC;refine Ho hd ht (l.drop p) p 0 L a w (by simp) (qJ _) (fun j _=>J j) h2 (by simpa using hs) ?_ h3;by_cases hp:p<l.length
  ·have h4:=h2 p (qJ _);have h5:=J p;have h6:p<L.size:=by omega
   simp[Array.getD,h6]at h4 h5;rw[h4]at h5;cases h5
  ·simp;omega
 |succ I ih=>
  intro L a w hC hs hu h2 aB h;by_cases J:∀i,i<p→L.getD i true=true
  ·have h3:=C9 (I+1) L a J h w hC;refine Ho hd ht (l.drop p) p (I+1) L a w (by simp) (qJ _) J h2 (by simpa using hs) ?_ h3
   -- as many are unlisted as the tail is long
   have h7:∀(m:Nat) (M:Array Bool),M.size=l.length→(∀j,l.length-m≤j→M.getD j false=false)→m≤l.length→m≤Rd M:=by
    intro m
    induction m with
    |zero=>intro M _ _ _;omega
    |succ m ihm=>
     intro M hM hj aM;have aH:l.length-(m+1)<M.size:=by omega
     have h8:M.getD (l.length-(m+1)) true=false:=by
      have:=hj (l.length-(m+1)) (qJ _);simpa[Array.getD,aH]using this
     have h9:=ihm (M.setIfInBounds (l.length-(m+1)) true) (by simpa using hM) (fun j aL=>by
      rw[Aq _ _ _ aH,if_neg (by omega)]
      exact hj j (by omega)) (by omega)
     have:=Cb h8;omega
   by_cases aN:p≤l.length
   ·have:=h7 (l.length-p) L hs (fun j hj=>h2 j (by omega)) (by omega);simp;omega
   ·simp;omega
  ·-- one ahead of the tail is still open
   obtain⟨q,hq⟩:=Classical.not_forall.1 J;obtain⟨aO,aI⟩:=Classical.not_imp.1 hq;have aE:L.getD q true=false:=by simpa using aI
   refine⟨fun hr=>?_,fun i hi=>?_⟩
   ·obtain⟨j,hj⟩:=Ek (md:=.any) hd (by simpa using hs) q q (qJ _) aE;rw[hr]at hj;cases hj
   ·obtain⟨h0,o,ho,aA⟩:=mem_ready.1 hi;have aK:=(qA.1 ho).1
    have aD:i<p:=by
     by_cases h':i<p
     ·exact h'
     ·have h3:=Bv aB l.toArray.size i q (fun o' Z=>by rw[ho]at Z;cases Z;exact aA) (O7 ht aK (by omega) (by omega));exact(Az aE h3).elim
    have aC:=(Ca h0).1;have h3:=h.2 i (by rw[Gx];exact hi);have hlo:l[i]?=some o:=by simpa using ho
    unfold qOp at h3;rw[List.getElem?_toArray,D1 aD,hlo]at h3;simp only at h3;rw[Dq hg hlo aD]at h3
    have hK:∀a' w',C w'→wpAnyQ P .any (A3 l p).toArray C (fun a'=>∀w',C w'→wpList P l.toArray Q (l.drop p) a' w') I (L.setIfInBounds i true) a'→wpAny P .any l.toArray Q I (L.setIfInBounds i true) a' w':=fun a' w' aJ h'=>by
     refine ih _ a' w' aJ (by simpa using hs) (by have:=Cb h0;omega) (fun j hj=>by rw[Aq _ _ _ aC,if_neg (by omega)];exact h2 j hj) (fun i' o' Z hl e he hb=>?_) h';rw[Aq _ _ _ aC];split
     ·rfl
     ·rw[Aq _ _ _ aC]at hl;by_cases aG:i=i'
      ·subst aG;rw[ho]at Z;cases Z;exact aA e he hb
      ·rw[if_neg aG]at hl;exact aB i' o' Z hl e he hb
    unfold wpOp;rw[ho];simp only;split
    ·rename_i hw
     rw[if_pos hw]at h3;exact .inl (Oper.wp_of_quiet hC hK h3)
    ·rename_i hw
     rw[if_neg hw]at h3;exact hK _ _ hC h3
theorem Ul(n:Nat):Rd (Array.replicate n false)≤n:=by simp[Rd,List.count_replicate]
theorem Ak{P:Program}{id:Nat}{Q:Exit→Act→World→Prop}{a:Act}{w:World}{l:List Oper}(p:Nat)(hm:P.follows .mixedOrders=true)(hB:Region.lexB .any (A3 l p).toArray=true)(hd:Hs l.toArray=true)(ht:J1 l.toArray p=true)(hg:Gq l p=true)
  (h:wpQuiet P l.toArray (fun w'=>∃n,w'=w.drewN n) (fun I=>∀w',(∃n,w'=w.drewN n)→wpList P l.toArray Q (l.drop p) I w') (l.take p) a):(Code.region id l.toArray true).wp P Q a w:=by
 simp only[Region.lexB,Bool.and_eq_true]at hB
 have hf:∀i,(Array.replicate l.length false).getD i false=false:=fun i=>by
  rw[Array.getD_eq_getD_getElem?,Array.getElem?_replicate];split<;>rfl
 have h1:=I8 hg (l.take p) 0 a (fun i _ hi=>by rw[Nat.sub_zero,List.getElem?_take_of_lt hi]) (by simp;omega) h;have h2:=wpAnyQ_lex (C:=fun w'=>∃n,w'=w.drewN n) (md:=.any) hB.1 (A3 l p) 0 (Array.replicate l.length false) a (by simp) (by have:=hB.2;simp only[zE,C8]at this ⊢;exact this) h1;rw[C8]at h2;refine wp_region_any hm ?_;simp only[zE];exact T4 hd ht hg l.length _ a _ ⟨1,rfl⟩ (by simp) (Ul _) (fun j _=>hf j) (fun i o _ h=>by rw[hf]at h;cases h) h2
/-! T2 a round -/
theorem Fe{lv n:Nat}{P:Program}{ops:Array Oper}{Q:Exit→Act→World→Prop}{p:Nat}(hd:Hs ops=true)(ht:J1 ops p=true):∀(t:List Oper) (k I:Nat) (L:Array Bool) (a:Act) (w:World),ops.toList.drop k=t→p≤k→(∀j,j<k→L.getD j true=true)→(∀j,k≤j→L.getD j false=false)→L.size=ops.size→t.length≤I→wpListIn (Fence.wide.inRound lv) n P ops Q t a w→wpAnyIn (Fence.wide.inRound lv) n P .any ops Q I L a w
 | [],k,I,L,a,w,hk,hpk,h1,h2,hs,hf,h=>by
  have Z:Region.ready .any ops L=[]:=by
   cases hr:Region.ready .any ops L with
   |nil=>rfl
   |cons i r=>
    have:=Fb hd ht hpk h1 h2 hs (by rw[hr];exact List.mem_cons_self);have h3:=congrArg List.length hk;simp at h3;omega
  cases I with
  |zero=>exact⟨Z,h⟩
  |succ I=>exact⟨fun _=>h,fun i hi=>by rw[Z]at hi;cases hi⟩
 |o::t,k,I,L,a,w,hk,hpk,h1,h2,hs,hf,h=>by
  have ho:ops[k]?=some o:=by
   have:=congrArg (fun l:List Oper=>l[0]?) hk;simpa using this
  have aA:=(qA.1 ho).1;obtain⟨I,rfl⟩:∃f,I=f+1:=⟨I-1,by simp at hf;omega⟩;refine⟨fun hr=>?_,fun i hi=>?_⟩
  ·have h3:L.getD k true=false:=by
    have h4:=h2 k (qJ _);have h5:k<L.size:=by omega
    simpa[Array.getD,h5]using h4
   obtain⟨j,hj⟩:=Ek (md:=.any) hd hs k k (qJ _) h3;rw[hr]at hj;cases hj
  ·obtain⟨rfl,_⟩:=Fb hd ht hpk h1 h2 hs hi
   have hK:∀a' w',wpListIn (Fence.wide.inRound lv) n P ops Q t a' w'→wpAnyIn (Fence.wide.inRound lv) n P .any ops Q I (L.setIfInBounds i true) a' w':=fun a' w' J=>
    Fe hd ht t (i+1) I _ a' w' (by
     have:=congrArg List.tail hk
     simpa using this) (by omega) (fun j hj=>by rw[Dn];split<;>first|rfl|exact h1 j (by omega)) (fun j hj=>by rw[Aq _ _ _ (by omega),if_neg (by omega)];exact h2 j (by omega)) (by simpa using hs) (by simp at hf;omega) J
   have J:if Region.wanted o (yielded ops a.tmps) then o.wpIn (Fence.wide.inRound lv) n P a w (wpListIn (Fence.wide.inRound lv) n P ops Q t) Q else (∀f,o.about P w a.eval=some f→(Fence.wide.inRound lv).fn f)∧wpListIn (Fence.wide.inRound lv) n P ops Q t (a.put o.dst undef) w:=h;unfold wpOpIn;rw[ho];simp only;split
   ·rename_i hw
    rw[if_pos hw]at J;exact Oper.wpIn_mono hK J
   ·rename_i hw
    rw[if_neg hw]at J;exact⟨J.1,hK _ _ J.2⟩
theorem Pa{lv n:Nat}{P:Program}{l:List Oper}{Q:Exit→Act→World→Prop}{p:Nat}{C:World→Prop}(hd:Hs l.toArray=true)(ht:J1 l.toArray p=true)(hg:Gq l p=true)(hk:Mx l.toArray=true):∀(I:Nat) (L:Array Bool) (a:Act) (w:World),C w→L.size=l.length→Rd L≤I →
  (∀j,p≤j→L.getD j false=false)→(∀i o,l.toArray[i]?=some o→L.getD i false=true→∀e∈o.after,Region.binds .any e=true→L.getD e.on false=true) →
  wpAnyQ P .any (A3 l p).toArray C (fun a'=>∀w',C w'→wpListIn (Fence.wide.inRound lv) n P l.toArray Q (l.drop p) a' w') I L a→wpAnyIn (Fence.wide.inRound lv) n P .any l.toArray Q I L a w:=by
 intro I
 induction I with
 |zero=>
  intro L a w hC hs hu h2 aB h
  have J:∀i,L.getD i true=true:=fun i=>by
   by_cases h':L.getD i true=false
   ·have:=Cb h';omega
   ·simpa using h'
  have h3:=C9 0 L a (fun i _=>J i) h w hC;refine Fe hd ht (l.drop p) p 0 L a w (by simp) (qJ _) (fun j _=>J j) h2 (by simpa using hs) ?_ h3;by_cases hp:p<l.length
  ·have h4:=h2 p (qJ _);have h5:=J p;have h6:p<L.size:=by omega
   simp[Array.getD,h6]at h4 h5;rw[h4]at h5;cases h5
  ·simp;omega
 |succ I ih=>
  intro L a w hC hs hu h2 aB h;by_cases J:∀i,i<p→L.getD i true=true
  ·have h3:=C9 (I+1) L a J h w hC;refine Fe hd ht (l.drop p) p (I+1) L a w (by simp) (qJ _) J h2 (by simpa using hs) ?_ h3
   -- as many are unlisted as the tail is long
   have h7:∀(m:Nat) (M:Array Bool),M.size=l.length→(∀j,l.length-m≤j→M.getD j false=false)→m≤l.length→m≤Rd M:=by
    intro m
    induction m with
    |zero=>intro M _ _ _;omega
    |succ m ihm=>
     intro M hM hj aM;have aH:l.length-(m+1)<M.size:=by omega
     have h8:M.getD (l.length-(m+1)) true=false:=by
      have:=hj (l.length-(m+1)) (qJ _);simpa[Array.getD,aH]using this
     have h9:=ihm (M.setIfInBounds (l.length-(m+1)) true) (by simpa using hM) (fun j aL=>by
      rw[Aq _ _ _ aH,if_neg (by omega)]
      exact hj j (by omega)) (by omega)
     have:=Cb h8;omega
   by_cases aN:p≤l.length
   ·have:=h7 (l.length-p) L hs (fun j hj=>h2 j (by omega)) (by omega);simp;omega
   ·simp;omega
  ·-- one ahead of the tail is still open
   obtain⟨q,hq⟩:=Classical.not_forall.1 J;obtain⟨aO,aI⟩:=Classical.not_imp.1 hq;have aE:L.getD q true=false:=by simpa using aI
   refine⟨fun hr=>?_,fun i hi=>?_⟩
   ·obtain⟨j,hj⟩:=Ek (md:=.any) hd (by simpa using hs) q q (qJ _) aE;rw[hr]at hj;cases hj
   ·obtain⟨h0,o,ho,aA⟩:=mem_ready.1 hi;have aK:=(qA.1 ho).1
    have aD:i<p:=by
     by_cases h':i<p
     ·exact h'
     ·have h3:=Bv aB l.toArray.size i q (fun o' Z=>by rw[ho]at Z;cases Z;exact aA) (O7 ht aK (by omega) (by omega));exact(Az aE h3).elim
    have aC:=(Ca h0).1;have h3:=h.2 i (by rw[Gx];exact hi);have hlo:l[i]?=some o:=by simpa using ho
    unfold qOp at h3;rw[List.getElem?_toArray,D1 aD,hlo]at h3;simp only at h3;rw[Dq hg hlo aD]at h3
    have hK:∀a' w',C w'→wpAnyQ P .any (A3 l p).toArray C (fun a'=>∀w',C w'→wpListIn (Fence.wide.inRound lv) n P l.toArray Q (l.drop p) a' w') I (L.setIfInBounds i true) a'→wpAnyIn (Fence.wide.inRound lv) n P .any l.toArray Q I (L.setIfInBounds i true) a' w':=fun a' w' aJ h'=>by
     refine ih _ a' w' aJ (by simpa using hs) (by have:=Cb h0;omega) (fun j hj=>by rw[Aq _ _ _ aC,if_neg (by omega)];exact h2 j hj) (fun i' o' Z hl e he hb=>?_) h';rw[Aq _ _ _ aC];split
     ·rfl
     ·rw[Aq _ _ _ aC]at hl;by_cases aG:i=i'
      ·subst aG;rw[ho]at Z;cases Z;exact aA e he hb
      ·rw[if_neg aG]at hl;exact aB i' o' Z hl e he hb
    unfold wpOpIn;rw[ho];simp only;split
    ·rename_i hw
     rw[if_pos hw]at h3;exact Ff (Qd hk ho) (Oper.wp_of_quiet hC hK h3)
    ·rename_i hw
     rw[if_neg hw]at h3;exact⟨fun _ _=>trivial,hK _ _ hC h3⟩
theorem Eo{lv n:Nat}{P:Program}{id:Nat}{Q:Exit→Act→World→Prop}{a:Act}{w:World}{l:List Oper}(p:Nat)(hm:P.follows .mixedOrders=true)(hB:Region.lexB .any (A3 l p).toArray=true)(hd:Hs l.toArray=true)(ht:J1 l.toArray p=true)(hg:Gq l p=true)(hk:Mx l.toArray=true)
  (h:wpQuiet P l.toArray (fun w'=>∃n,w'=w.drewN n) (fun I=>∀w',(∃n,w'=w.drewN n)→wpListIn (Fence.wide.inRound lv) n P l.toArray Q (l.drop p) I w') (l.take p) a):(Code.region id l.toArray true).wpIn (Fence.wide.inRound lv) n P Q a w:=by
 simp only[Region.lexB,Bool.and_eq_true]at hB
 have hf:∀i,(Array.replicate l.length false).getD i false=false:=fun i=>by
  rw[Array.getD_eq_getD_getElem?,Array.getElem?_replicate];split<;>rfl
 have h1:=I8 hg (l.take p) 0 a (fun i _ hi=>by rw[Nat.sub_zero,List.getElem?_take_of_lt hi]) (by simp;omega) h;have h2:=wpAnyQ_lex (C:=fun w'=>∃n,w'=w.drewN n) (md:=.any) hB.1 (A3 l p) 0 (Array.replicate l.length false) a (by simp) (by have:=hB.2;simp only[zE,C8]at this ⊢;exact this) h1;rw[C8]at h2;refine wpIn_region_any hm ?_;simp only[zE];exact Pa hd ht hg hk l.length _ a _ ⟨1,rfl⟩ (by simp) (Ul _) (fun j _=>hf j) (fun i o _ h=>by rw[hf]at h;cases h) h2
open Go.RowKit
def Bq(n:P28.Note):List Value:=[.int .i64 n.1,.int .i64 n.2.1,.string ⟨n.2.2.toArray⟩]
def B5(ns:List P28.Note):List Value:=ns.flatMap Bq
theorem Qg(ns:List P28.Note)(n:P28.Note):B5 (ns++[n])=B5 ns++Bq n:=by unfold B5;rw[List.flatMap_append];simp
theorem Hh(ns:List P28.Note):(B5 ns).length=ns.length*3:=by
 induction ns with
 |nil=>rfl
 |cons p ns ih=>unfold B5 at *;rw[List.flatMap_cons,qH,ih];simp[Bq];omega
def A0(W:World)(B:Nat)(v:Value)(ns:List P28.Note):Prop:=W.ownsRow B 183 3 v ns.length (B5 ns)
theorem Kz:(Tryz.prog.info? 183).map (fun i=>(i.zero,i.size,i.bytes))=some (some (.agg #[.int .i64 0,.int .i64 0,.string ⟨#[]⟩]),3,32):=by kernel_rfl
theorem A0.nil(W:World)(B:Nat):A0 W B (.slice none 0 0) []:=World.ownsRow_nil W B 183 3
theorem A0.keep{W W':World}{B:Nat}{v:Value}{ns:List P28.Note}(h:A0 W B v ns)(hk:∀g,v.ownBlock=some g→W'.heap[g]?=W.heap[g]?):A0 W' B v ns:=Du h hk
theorem A0.lt{W:World}{B:Nat}{v:Value}{ns:List P28.Note}(h:A0 W B v ns){g:Nat}(hg:v.ownBlock=some g):B≤g∧g<W.heap.size:=Ax h g hg
theorem A0.form{W:World}{B:Nat}{v:Value}{ns:List P28.Note}(h:A0 W B v ns):∃a c,v=.slice a ns.length c:=by
 rcases h.2 with⟨rfl,h0⟩|⟨g,cap,I,rfl,_⟩
 ·exact⟨none,0,by rw[h0]⟩
 ·exact⟨_,cap,rfl⟩
theorem An{w:World}{B:Nat}{v:Value}{ns:List P28.Note}{p:P28.Note}{ops:Array Oper}{rest:List Oper}{o:Oper}{a:Act}{Q:Exit→Act→World→Prop}(aB:o.guard=none)(s x:Operand)
  (ho:o.op=.call { callee:=.builtin .append,args:=#[s,x],argTypes:=#[124,124] })
  (hs:a.eval s=v) (J:A0 w B v ns) (g cap:Nat) (hx:a.eval x=.slice (some ⟨g,0,none⟩) 1 cap) (Z:w.heap[g]?=some (.cells #[.int .i64 p.1,.int .i64 p.2.1,.string ⟨p.2.2.toArray⟩] 183))
  (m:Nat) (hm:ns.length=m) (aE:m+1≤1000000000000) (hB:B≤w.heap.size)
  (h:∀g' I w',A0 w' B (.slice (some ⟨g',0,none⟩) (m+1) I) (ns++[p])→w.grownBy w' v.ownBlock→(v.ownBlock=some g'∨g'=w.heap.size)→g'<w'.heap.size→wpList Tryz.prog ops Q rest (a.put o.dst (.slice (some ⟨g',0,none⟩) (m+1) I)) w') :
  wpList Tryz.prog ops Q (o::rest) a w:=by
 subst hm;obtain⟨i,hi,hz,hsz,aC⟩:=info_parts Kz
 refine wpList_append_lies (P:=Tryz.prog) w aB s x 124 ho B 183 i (.agg #[.int .i64 0,.int .i64 0,.string ⟨#[]⟩]) 3 32 Tryz.underlying124 hi hz hsz aC rfl (by decide) v ns.length (B5 ns) hs J
  ⟨g,0,none⟩ 1 cap (Bq p) hx rfl (World.news_of_block (fr:=(0,0)) Z) (by intro u hu;simp[Bq]at hu;rcases hu with rfl|rfl|rfl<;>rfl) (by decide) (by unfold maxLen;omega) (by omega) hB _ rfl ?_
 intro g' I w' h2 h3 aA aD;refine h g' I w' ?_ h3 aA aD;unfold A0;rw[qH,Qg];exact h2
structure Gr (W W':World) (b:Nat) (own:Option Nat):Prop where
 os:W'.os=W.os
 tape:W'.tape=W.tape
 output:W'.output=W.output
 size:W.heap.size≤W'.heap.size
 block:∀k,k<W.heap.size→k≠b→some k≠own→W'.heap[k]?=W.heap[k]?
theorem Gr.refl(W:World)(b:Nat)(own:Option Nat):Gr W W b own:=⟨rfl,rfl,rfl,qJ _,fun _ _ _ _=>rfl⟩
theorem Gr.below{B:Nat}{w W W':World}{b:Nat}{own:Option Nat}(h:Gr W W' b own)(hb:Below B w W)(h1:B≤W.heap.size)(h2:B≤b)(h3:∀g,own=some g→B≤g):Below B w W':=
 ⟨h.os.trans hb.os,h.tape.trans hb.tape,h.output.trans hb.output,qK hb.size h.size,fun k hk=>(h.block k (by omega) (by omega) (fun e=>by have:=h3 k e.symm;omega)).trans (hb.block k hk)⟩
structure NB (W:World) (B b:Nat) (ns:List P28.Note) (v:Value):Prop where
 box:W.heap[b]?=some (.cells #[v] 124)
 own:A0 W B v ns
 low:b<B
theorem NB.ne{W:World}{B b:Nat}{ns:List P28.Note}{v:Value}(h:NB W B b ns v):v.ownBlock≠some b:=fun e=>by have:=(h.own.lt e).1;have:=h.low;omega
theorem NB.keep{W W':World}{B b:Nat}{ns:List P28.Note}{v:Value}(h:NB W B b ns v)(hb:W'.heap[b]?=W.heap[b]?)(ho:∀g,v.ownBlock=some g→W'.heap[g]?=W.heap[g]?):NB W' B b ns v:=⟨hb.trans h.box,h.own.keep ho,h.low⟩
theorem NB.below{W W':World}{B b:Nat}{ns:List P28.Note}{v:Value}(h:NB W B b ns v)(hb:Below W.heap.size W W'):NB W' B b ns v:=
 h.keep (hb.block b (qA.1 h.box).1) (fun g hg=>hb.block g (h.own.lt hg).2)
theorem Ub{W:World}{b:Nat}{u v:Value}{t:TypeId}(h:W.heap[b]?=some (.cells #[u] t)):(W.setCell ⟨b,0,none⟩ v).heap[b]?=some (.cells #[v] t):=one_setCell h
def J9(f b:Nat):Prop:=∀(c:Bool) (i e:Int) (t:List UInt8) (W:World) (B:Nat) (ns:List P28.Note) (v:Value),NB W B b ns v→B≤W.heap.size→ns.length≤100000000000*9 →
 Calls Tryz.prog f #[.bool c,.int .i64 i,.int .i64 e,.string ⟨t.toArray⟩,qP0 b] W fun x W'=>x=.returned (.tuple #[])∧∃I,NB W' B b (ns++P28.nt c i e t) I∧Gr W W' b v.ownBlock∧(I.ownBlock=v.ownBlock∨∃g,I.ownBlock=some g∧W.heap.size≤g)
theorem Sy(b:Nat):J9 163 b:=by
 intro c i e t W B ns v h hB hl;obtain⟨va,vc,rfl⟩:=h.own.form;have aN:=A1 h.box;cases c with
 |false=>
  go_enter Tryz.func163,Tryz.ntmps163
  go_wp2;go_end0;exact⟨rfl,_,by simpa[P28.nt]using h,Gr.refl _ _ _,.inl rfl⟩
 |true=>
  obtain⟨W1,aB⟩:=qeX (W.alloc (.cells #[.int .i64 i,.int .i64 e,.string ⟨t.toArray⟩] 183));have aD:Below W.heap.size W W1:=by rw[←aB];exact(qU _ _).alloc (qJ _) _
  have aO:W1.heap.size=W.heap.size+1:=by rw[←aB];simp
  have aJ:W1.heap[W.heap.size]?=some (.cells #[.int .i64 i,.int .i64 e,.string ⟨t.toArray⟩] 183):=by rw[←aB];exact qB _ _
  have h1:=h.below aD;obtain⟨c1,f1⟩:=A1 h1.box;have aK:=Ab aB;have HH:=Ab h;have I:=Ab h1;have HB:=Ab aD;have HN:=Ab aJ;clear aB h h1 aD aJ;go_enter Tryz.func163,Tryz.ntmps163
  go_wp2_with (rw[Aa aK];refine An (p:=(i,e,t)) (by rfl) _ _ (by rfl) (by rfl) (Aa I).own W.heap.size 1 (by rfl) (Aa HN) ns.length rfl (by omega) (by omega) ?_;intro g2 aG w2 aA J aE aP;have aQ:=(zC (a:=⟨b,0,none⟩) (J.block b (qA.1 (Aa I).box).1 (fun q=>(Aa I).ne q.symm))).trans c1;have aR:=(World.frozen?_of_block (a:=⟨b,0,none⟩) (J.block b (qA.1 (Aa I).box).1 (fun q=>(Aa I).ne q.symm))).trans f1;have HG:=Ab J;have HO:=Ab aA;clear J aA)
  go_end0;have aH:=(Aa I).ne;have Z:=Aa HG;have aC:=Aa HB;have aI:=Aa HO
  have aL:g2≠b:=fun q=>by
   rcases aE with h|h
   ·exact aH (by rw[h,q])
   ·have:=(qA.1 (Aa I).box).1;omega
  have aM:=(Aa HH).low;refine⟨rfl,.slice (some ⟨g2,0,none⟩) (ns.length+1) aG,⟨?_,?_,aM⟩,⟨Z.os.trans aC.os,Z.tape.trans aC.tape,Z.output.trans aC.output,?_,fun k hk h1 h2=>?_⟩,?_⟩
  ·have h5:=(Z.block b (qA.1 (Aa I).box).1 (fun q=>aH q.symm)).trans (Aa I).box;exact Ub h5
  ·refine A0.keep (W:=w2) (by simpa[P28.nt]using aI) (fun g hg=>qC _ _ _ _ (fun q=>aL (by cases hg;exact q)))
  ·have:=Z.size;simp;omega
  ·exact(qC _ _ _ _ h1).trans ((Z.block k (by omega) h2).trans (aC.block k hk))
  ·rcases aE with h|h
   ·exact .inl h.symm
   ·exact .inr ⟨g2,rfl,by omega⟩
theorem Qh(b:Nat):J9 164 b:=by
 intro c i e t W B ns v h hB hl;obtain⟨va,vc,rfl⟩:=h.own.form;have aN:=A1 h.box;cases c with
 |false=>
  go_enter Tryz.func164,Tryz.ntmps164
  go_wp2;go_end0;exact⟨rfl,_,by simpa[P28.nt]using h,Gr.refl _ _ _,.inl rfl⟩
 |true=>
  obtain⟨W1,aB⟩:=qeX (W.alloc (.cells #[.int .i64 i,.int .i64 e,.string ⟨t.toArray⟩] 183));have aD:Below W.heap.size W W1:=by rw[←aB];exact(qU _ _).alloc (qJ _) _
  have aO:W1.heap.size=W.heap.size+1:=by rw[←aB];simp
  have aJ:W1.heap[W.heap.size]?=some (.cells #[.int .i64 i,.int .i64 e,.string ⟨t.toArray⟩] 183):=by rw[←aB];exact qB _ _
  have h1:=h.below aD;obtain⟨c1,f1⟩:=A1 h1.box;have aK:=Ab aB;have HH:=Ab h;have I:=Ab h1;have HB:=Ab aD;have HN:=Ab aJ;clear aB h h1 aD aJ;go_enter Tryz.func164,Tryz.ntmps164
  go_wp2_with (rw[Aa aK];refine An (p:=(i,e,t)) (by rfl) _ _ (by rfl) (by rfl) (Aa I).own W.heap.size 1 (by rfl) (Aa HN) ns.length rfl (by omega) (by omega) ?_;intro g2 aG w2 aA J aE aP;have aQ:=(zC (a:=⟨b,0,none⟩) (J.block b (qA.1 (Aa I).box).1 (fun q=>(Aa I).ne q.symm))).trans c1;have aR:=(World.frozen?_of_block (a:=⟨b,0,none⟩) (J.block b (qA.1 (Aa I).box).1 (fun q=>(Aa I).ne q.symm))).trans f1;have HG:=Ab J;have HO:=Ab aA;clear J aA)
  go_end0;have aH:=(Aa I).ne;have Z:=Aa HG;have aC:=Aa HB;have aI:=Aa HO
  have aL:g2≠b:=fun q=>by
   rcases aE with h|h
   ·exact aH (by rw[h,q])
   ·have:=(qA.1 (Aa I).box).1;omega
  have aM:=(Aa HH).low;refine⟨rfl,.slice (some ⟨g2,0,none⟩) (ns.length+1) aG,⟨?_,?_,aM⟩,⟨Z.os.trans aC.os,Z.tape.trans aC.tape,Z.output.trans aC.output,?_,fun k hk h1 h2=>?_⟩,?_⟩
  ·have h5:=(Z.block b (qA.1 (Aa I).box).1 (fun q=>aH q.symm)).trans (Aa I).box;exact Ub h5
  ·refine A0.keep (W:=w2) (by simpa[P28.nt]using aI) (fun g hg=>qC _ _ _ _ (fun q=>aL (by cases hg;exact q)))
  ·have:=Z.size;simp;omega
  ·exact(qC _ _ _ _ h1).trans ((Z.block k (by omega) h2).trans (aC.block k hk))
  ·rcases aE with h|h
   ·exact .inl h.symm
   ·exact .inr ⟨g2,rfl,by omega⟩
end Go.Proofs.YtefokfbgpfcbkaaGreat
