import Derived.Test.YtefokfbgpfcbkaaGreatInvZ
set_option maxRecDepth 100000
set_option linter.unusedVariables false
set_option linter.unusedSimpArgs false
namespace Go.Proofs.YtefokfbgpfcbkaaGreat
def J6(md:Region.Mode)(ops:Array Oper):Bool:=(List.range ops.size).all fun i=>match ops[i]? with
 |some o=>o.after.all fun e=>!Region.binds md e||decide (e.on<i)
 |none=>true
theorem Ht{md:Region.Mode}{ops:Array Oper}(h:J6 md ops=true){i:Nat}{o:Oper}(ho:ops[i]?=some o):∀e∈o.after,Region.binds md e=true→e.on<i:=by
 intro e J I;have hi:=(qA.1 ho).1;have:=List.all_eq_true.1 h i (List.mem_range.2 hi);rw[ho]at this;simp only[Array.all_eq_true']at this;have:=this e J;simpa[I]using this
theorem Nh{md:Region.Mode}{ops:Array Oper}(hd:J6 md ops=true){L:Array Bool}(hs:L.size=ops.size):∀(n i:Nat),i≤n→L.getD i true=false→∃j,j∈Region.ready md ops L:=by
 intro n
 induction n with
 |zero=>
  intro i hi h;obtain rfl:i=0:=by omega
  have hl:=(Ca h).1;refine⟨0,mem_ready.2 ⟨h,ops[0]'(by omega),Array.getElem?_eq_getElem _,fun e J I=>?_⟩⟩;have:=Ht hd (Array.getElem?_eq_getElem (by omega:0<ops.size)) e J I;omega
 |succ n ih=>
  intro i hi h;have hl:=(Ca h).1;by_cases hr:∃e∈(ops[i]'(by omega)).after,Region.binds md e=true∧L.getD e.on false=false
  ·obtain⟨e,J,I,hf⟩:=hr;have h1:=Ht hd (Array.getElem?_eq_getElem (by omega:i<ops.size)) e J I;refine ih e.on (by omega) ?_;have Z:e.on<L.size:=by omega
   simp only[Array.getD,Z,dif_pos]at hf ⊢;exact hf
  ·exact⟨i,mem_ready.2 ⟨h,ops[i]'(by omega),Array.getElem?_eq_getElem _,fun e J I=>by
    by_cases hx:L.getD e.on false=true
    ·exact hx
    ·exact absurd ⟨e,J,I,by simpa using hx⟩ hr⟩⟩
theorem T3{P:Program}{md:Region.Mode}{ops:Array Oper}{Q:Exit→Act→World→Prop}(J:Array Bool→Act→World→Prop)(hd:J6 md ops=true)
  (aA:∀L a w i o,J L a w→ops[i]?=some o→L.getD i true=false→(∀e∈o.after,Region.binds md e=true→L.getD e.on false=true)→wpOp P ops Q i (J (L.setIfInBounds i true)) a w)
  (hfin:∀L a w,J L a w→(∀i,L.getD i true=true)→Q .normal a w) :
  ∀(I:Nat) (L:Array Bool) (a:Act) (w:World),L.size=ops.size→Rd L≤I→J L a w→wpAny P md ops Q I L a w:=by
 have aB:∀(L:Array Bool),L.size=ops.size→Region.ready md ops L=[]→∀i,L.getD i true=true:=fun L hs hr i=>by
  by_cases h:L.getD i true=false
  ·obtain⟨j,hj⟩:=Nh (md:=md) hd hs i i (qJ _) h;rw[hr]at hj;exact absurd hj (by simp)
  ·simpa using h
 intro I
 induction I with
 |zero=>
  intro L a w hs hu hJ
  have Z:∀i,L.getD i true=true:=fun i=>by
   by_cases h:L.getD i true=false
   ·have:=Cb h;omega
   ·simpa using h
  have hr:Region.ready md ops L=[]:=by
   cases hq:Region.ready md ops L with
   |nil=>rfl
   |cons j r=>
    have hm:j∈Region.ready md ops L:=by rw[hq];exact List.mem_cons_self
    have:=(mem_ready.1 hm).1;rw[Z j]at this;cases this
  exact⟨hr,hfin L a w hJ Z⟩
 |succ I ih=>
  intro L a w hs hu hJ;refine⟨fun hr=>hfin L a w hJ (aB L hs hr),fun i hi=>?_⟩;obtain⟨h0,o,ho,Z⟩:=mem_ready.1 hi;have h1:=Cb h0;exact wpOp_mono (fun a' w' aC=>ih _ a' w' (by simpa using hs) (by omega) aC) (aA L a w i o hJ ho h0 Z)
theorem Dy{P:Program}{ops:Array Oper}{Q:Exit→Act→World→Prop}{id:Nat}{a:Act}{w:World}(hm:P.follows .mixedOrders=true)(J:Array Bool→Act→World→Prop)(hd:J6 .any ops=true)
  (h0:J (Array.replicate ops.size false) a w.drew)
  (I:∀L a w i o,J L a w→ops[i]?=some o→L.getD i true=false→(∀e∈o.after,Region.binds .any e=true→L.getD e.on false=true)→wpOp P ops Q i (J (L.setIfInBounds i true)) a w)
  (hfin:∀L a w,J L a w→(∀i,L.getD i true=true)→Q .normal a w):(Code.region id ops true).wp P Q a w:=
 wp_region_any hm (T3 J hd I hfin ops.size _ a _ (by simp) (by simp[Rd,List.count_replicate]) h0)
theorem O9{F:Fence}{n:Nat}{P:Program}{md:Region.Mode}{ops:Array Oper}{Q:Exit→Act→World→Prop}(J:Array Bool→Act→World→Prop)(hd:J6 md ops=true)
  (aA:∀L a w i o,J L a w→ops[i]?=some o→L.getD i true=false→(∀e∈o.after,Region.binds md e=true→L.getD e.on false=true)→wpOpIn F n P ops Q i (J (L.setIfInBounds i true)) a w)
  (hfin:∀L a w,J L a w→(∀i,L.getD i true=true)→Q .normal a w) :
  ∀(I:Nat) (L:Array Bool) (a:Act) (w:World),L.size=ops.size→Rd L≤I→J L a w→wpAnyIn F n P md ops Q I L a w:=by
 have aB:∀(L:Array Bool),L.size=ops.size→Region.ready md ops L=[]→∀i,L.getD i true=true:=fun L hs hr i=>by
  by_cases h:L.getD i true=false
  ·obtain⟨j,hj⟩:=Nh (md:=md) hd hs i i (qJ _) h;rw[hr]at hj;exact absurd hj (by simp)
  ·simpa using h
 intro I
 induction I with
 |zero=>
  intro L a w hs hu hJ
  have Z:∀i,L.getD i true=true:=fun i=>by
   by_cases h:L.getD i true=false
   ·have:=Cb h;omega
   ·simpa using h
  have hr:Region.ready md ops L=[]:=by
   cases hq:Region.ready md ops L with
   |nil=>rfl
   |cons j r=>
    have hm:j∈Region.ready md ops L:=by rw[hq];exact List.mem_cons_self
    have:=(mem_ready.1 hm).1;rw[Z j]at this;cases this
  exact⟨hr,hfin L a w hJ Z⟩
 |succ I ih=>
  intro L a w hs hu hJ;refine⟨fun hr=>hfin L a w hJ (aB L hs hr),fun i hi=>?_⟩;obtain⟨h0,o,ho,Z⟩:=mem_ready.1 hi;have h1:=Cb h0;exact wpOpIn_mono (fun a' w' aC=>ih _ a' w' (by simpa using hs) (by omega) aC) (aA L a w i o hJ ho h0 Z)
theorem Jg{F:Fence}{n:Nat}{P:Program}{ops:Array Oper}{Q:Exit→Act→World→Prop}{id:Nat}{a:Act}{w:World}(hm:P.follows .mixedOrders=true)(J:Array Bool→Act→World→Prop)(hd:J6 .any ops=true)
  (h0:J (Array.replicate ops.size false) a w.drew)
  (I:∀L a w i o,J L a w→ops[i]?=some o→L.getD i true=false→(∀e∈o.after,Region.binds .any e=true→L.getD e.on false=true)→wpOpIn F n P ops Q i (J (L.setIfInBounds i true)) a w)
  (hfin:∀L a w,J L a w→(∀i,L.getD i true=true)→Q .normal a w):(Code.region id ops true).wpIn F n P Q a w:=
 wpIn_region_any hm (O9 J hd I hfin ops.size _ a _ (by simp) (by simp[Rd,List.count_replicate]) h0)
def Df(ops:Array Oper):Bool:=Kc ops&&(Y3 ops&&(Yd ops&&J6 .any ops))
structure Y5 (ops:Array Oper) (ws:List Nat) (fx:Nat) (Φ:Nat→Bool→Act→World→Prop) (L:Array Bool) (a:Act) (w:World):Prop where
 ex:∃k f aF,Φ k f aF w∧Fg ops L a aF∧(∀j x,ws[j]?=some x→(L.getD x false=true↔j<k))∧(L.getD fx false=true↔f=true)
 closed:∀i o,ops[i]?=some o→L.getD i false=true→∀e∈o.after,Region.binds .any e=true→L.getD e.on false=true
 size:L.size=ops.size
def Xh(P:Program)(ops:Array Oper)(ws:List Nat)(fx:Nat)(Φ:Nat→Bool→Act→World→Prop):Prop:=
 ∀k f aF W i o,Φ k f aF W→ops[i]?=some o→i∉ws→i≠fx→(∀j x,ws[j]?=some x→Cg ops ops.size x i=true→k≤j)→(∀j x,ws[j]?=some x→Cg ops ops.size i x=true→j<k)→(Cg ops ops.size i fx=true→f=true) →
  if Region.wanted o (yielded ops aF.tmps)=true then∃t v,o.dst=some t∧aF.tmps[t]?=some v∧Iq P o aF W v else ∀t,o.dst=some t→aF.tmps[t]?=some undef
def Ry(P:Program)(ops:Array Oper)(ws:List Nat)(fx:Nat)(Φ:Nat→Bool→Act→World→Prop):Prop:=
 ∀k f aF W i o,Φ k f aF W→ws[k]?=some i→ops[i]?=some o→(Cg ops ops.size i fx=true→f=true)→Region.wanted o (yielded ops aF.tmps)=true∧F0 P o aF W (Φ (k+1) f)
def W9(P:Program)(ops:Array Oper)(ws:List Nat)(fx:Nat)(Φ:Nat→Bool→Act→World→Prop):Prop:=
 ∀k aF W o,Φ k false aF W→ops[fx]?=some o→(∀j x,ws[j]?=some x→Cg ops ops.size x fx=true→k≤j)→Region.wanted o (yielded ops aF.tmps)=true∧F0 P o aF W (Φ k true)
theorem Js{P:Program}{ops:Array Oper}{Q:Exit→Act→World→Prop}(ws:List Nat)(fx:Nat)(Φ:Nat→Bool→Act→World→Prop)(hs:Df ops=true)(aR:B1 ops ws=true)(bC:fx∉ws)
  (hpure:Xh P ops ws fx Φ) (hwrite:Ry P ops ws fx Φ) (aO:W9 P ops ws fx Φ)
  {L:Array Bool} {a:Act} {w:World} {i:Nat} {o:Oper} (hJ:Y5 ops ws fx Φ L a w) (ho:ops[i]?=some o) (hi:L.getD i true=false) (aH:∀e∈o.after,Region.binds .any e=true→L.getD e.on false=true) :
  (∀c,o.op≠.defer c)∧if Region.wanted o (yielded ops a.tmps)=true then Oper.wp P o a w (Y5 ops ws fx Φ (L.setIfInBounds i true)) Q else Y5 ops ws fx Φ (L.setIfInBounds i true) (a.put o.dst undef) w:=by
 simp only[Df,Bool.and_eq_true]at hs;obtain⟨hc,hu,hk,hd⟩:=hs;obtain⟨⟨k,f,aF,h1,h2,h3,aJ⟩,aI,hsz⟩:=hJ;obtain⟨aX,aY⟩:=Ot hk ho;have hlk:=h2.looks hc ho aH;have aW:execOp a.eval o=execOp aF.eval o:=execOp_congr o aX (D7 hlk);have aN:=Dg hlk;have J:=(Ca hi).1
 have aD:∀i' o',ops[i']?=some o'→(L.setIfInBounds i true).getD i' false=true→∀e∈o'.after,Region.binds .any e=true→(L.setIfInBounds i true).getD e.on false=true:=by
  intro i' o' I hl e he hb;rw[Aq _ _ _ J];split
  ·rfl
  ·rw[Aq _ _ _ J]at hl;by_cases aP:i=i'
   ·subst aP;rw[ho]at I;cases I;exact aH e he hb
   ·rw[if_neg aP]at hl;exact aI i' o' I hl e he hb
 have aE:(L.setIfInBounds i true).size=ops.size:=by simpa using hsz
 have aB:=fun y (h:Cg ops ops.size i y=true)=>Bv aI ops.size i y (fun o' I=>by rw[ho]at I;cases I;exact aH) h
 have aT:∀j x,ws[j]?=some x→Cg ops ops.size x i=true→k≤j:=fun j x hx aL=>by
  by_cases h:k≤j
  ·exact h
  ·have hl:=(h3 j x hx).2 (by omega);have:=Bv aI ops.size x i (fun o' I=>aI x o' I hl) aL;exact(Az hi this).elim
 have aU:Cg ops ops.size i fx=true→f=true:=fun h=>aJ.1 (aB fx h);refine⟨aY,?_⟩
 have run:∀{Ψ:Act→World→Prop},F0 P o aF w Ψ→(∀v W',Ψ (aF.put o.dst v) W'→Y5 ops ws fx Φ (L.setIfInBounds i true) (a.put o.dst v) W')→Oper.wp P o a w (Y5 ops ws fx Φ (L.setIfInBounds i true)) Q:=by
  intro Ψ aG aA;unfold Oper.wp;rw[aW];rcases aG with⟨v,W',hr,hΦ⟩|⟨W',hr,hΦ⟩|⟨g,args,W',hr,Z⟩
  ·rw[hr];exact aA v W' hΦ
  ·rw[hr];exact aA undef W' hΦ
  ·rw[hr];refine Z.mono ?_;rintro e w' ⟨v,rfl,hΦ⟩;exact aA v w' hΦ
 by_cases hw:i∈ws
 ·obtain⟨j,hj⟩:=zM hw;have bD:¬j<k:=fun h=>Az hi ((h3 j i hj).2 h)
  have hkj:j=k:=by
   by_cases h:k<j
   ·have aS:k<ws.length:=by have:=(qI.1 hj).1;omega
    have h4:=aB ws[k] (Ef aR (qO aS) hj h);have:=(h3 k ws[k] (qO aS)).1 h4;omega
   ·omega
  subst hkj;obtain⟨aC,aG⟩:=hwrite j f aF w i o h1 hj ho aU;rw[aN,if_pos aC];refine run aG (fun v W' hΦ=>⟨⟨j+1,f,_,hΦ,h2.write ho v,fun j' x hx=>?_,?_⟩,aD,aE⟩)
  ·rw[Aq _ _ _ J];by_cases aK:i=x
   ·subst aK;simp only[if_true,true_iff];have h5:¬j'<j:=fun h=>Az hi ((h3 j' i hx).2 h);by_cases h6:j<j'
    ·exact(Az hi (aB i (Ef aR hj hx h6))).elim
    ·omega
   ·rw[if_neg aK,h3 j' x hx];constructor
    ·intro h;omega
    ·intro h;by_cases h8:j'=j
     ·subst h8;rw[hj]at hx;cases hx;exact absurd rfl aK
     ·omega
  ·rw[Aq _ _ _ J,if_neg (by rintro rfl;exact bC hw)];exact aJ
 ·by_cases aM:i=fx
  ·subst aM
   have hf:f=false:=by
    cases hq:f with
    |false=>rfl
    |true=>exact(Az hi (aJ.2 hq)).elim
   subst hf;obtain⟨aC,aG⟩:=aO k aF w o h1 ho aT;rw[aN,if_pos aC];refine run aG (fun v W' hΦ=>⟨⟨k,true,_,hΦ,h2.write ho v,fun j x hx=>?_,?_⟩,aD,aE⟩)
   ·rw[Aq _ _ _ J,if_neg (by rintro rfl;exact hw (qN hx))];exact h3 j x hx
   ·rw[Aq _ _ _ J,if_pos rfl]
  ·have aA:∀v,(∀t,o.dst=some t→aF.tmps[t]?=some v)→Y5 ops ws fx Φ (L.setIfInBounds i true) (a.put o.dst v) w:=fun v hv=>by
    refine⟨⟨k,f,aF,h1,h2.step hu ho hv,fun j x hx=>?_,?_⟩,aD,aE⟩
    ·rw[Aq _ _ _ J,if_neg (by rintro rfl;exact hw (qN hx))];exact h3 j x hx
    ·rw[Aq _ _ _ J,if_neg aM];exact aJ
   have hp:=hpure k f aF w i o h1 ho hw aM aT (fun j x hx aL=>(h3 j x hx).1 (aB x aL)) aU;rw[aN];by_cases aC:Region.wanted o (yielded ops aF.tmps)=true
   ·rw[if_pos aC]at hp ⊢;obtain⟨t,v,ht,hv,aZ⟩:=hp;have aQ:∀t',o.dst=some t'→aF.tmps[t']?=some v:=fun t' h=>by rw[ht]at h;cases h;exact hv
    unfold Oper.wp;rw[aW];rcases aZ with hr|⟨g,args,hr,Z⟩
    ·rw[hr];exact aA v aQ
    ·rw[hr];refine Z.mono ?_;rintro e w' ⟨rfl,rfl⟩;exact aA v aQ
   ·rw[if_neg aC]at hp ⊢;exact aA undef hp
theorem Ic{ops:Array Oper}{ws:List Nat}{fx:Nat}{Φ:Nat→Bool→Act→World→Prop}{a aF:Act}{w:World}(hΦ:Φ 0 false aF w)(hd:a.defers=aF.defers)(J:a.tmps.size=aF.tmps.size)(I:∀t,(∃(i:Nat) (o:Oper),ops[i]?=some o∧o.dst=some t)∨a.tmps[t]?=aF.tmps[t]?):Y5 ops ws fx Φ (Array.replicate ops.size false) a w:=by
 have hf:∀i,(Array.replicate ops.size false).getD i false=false:=fun i=>by
  rw[Array.getD_eq_getD_getElem?,Array.getElem?_replicate];split<;>rfl
 refine⟨⟨0,false,aF,hΦ,⟨hd,J,fun t=>?_⟩,fun j x _=>by rw[hf];simp,by rw[hf]⟩,(fun i o _ h=>by rw[hf]at h;cases h),by simp⟩;rcases I t with⟨i,o,h1,h2⟩|h
 ·left
  refine⟨i,o,h1,h2,?_⟩;rw[Array.getD_eq_getD_getElem?,Array.getElem?_replicate,if_pos (qA.1 h1).1];rfl
 ·exact .inr h
theorem Ld{ops:Array Oper}{ws:List Nat}{fx:Nat}{Φ:Nat→Bool→Act→World→Prop}{Q:Exit→Act→World→Prop}(aC:∀x∈ws,x<ops.size)(aB:fx<ops.size)(hfin:∀k aF W,ws.length≤k→Φ k true aF W→Q .normal aF W){L:Array Bool}{a:Act}{w:World}(hJ:Y5 ops ws fx Φ L a w)(I:∀i,L.getD i true=true):Q .normal a w:=by
 obtain⟨⟨k,f,aF,h1,h2,h3,aA⟩,_,hsz⟩:=hJ;have he:=h2.all I;subst he
 have Z:∀x,x<ops.size→L.getD x false=true:=fun x aD=>by
  have:=I x;rw[Array.getD_eq_getD_getElem?,Array.getElem?_eq_getElem (by omega)]at this ⊢;exact this
 obtain rfl:=aA.1 (Z fx aB);refine hfin k a w ?_ h1;by_cases h:ws.length≤k
 ·exact h
 ·have J:k<ws.length:=by omega
  have:=(h3 k _ (qO J)).1 (Z ws[k] (aC ws[k] (List.getElem_mem J)));omega
theorem B6{P:Program}{ops:Array Oper}{Q:Exit→Act→World→Prop}{id:Nat}{a aF:Act}{w:World}(hm:P.follows .mixedOrders=true)(ws:List Nat)(fx:Nat)(Φ:Nat→Bool→Act→World→Prop)(hs:Df ops=true)(aB:B1 ops ws=true)(aE:∀x∈ws,x<ops.size)(aC:fx∉ws)(aD:fx<ops.size)
  (hΦ:Φ 0 false aF w.drew) (hd:a.defers=aF.defers) (hz:a.tmps.size=aF.tmps.size) (I:∀t,(∃(i:Nat) (o:Oper),ops[i]?=some o∧o.dst=some t)∨a.tmps[t]?=aF.tmps[t]?)
  (hpure:Xh P ops ws fx Φ) (hwrite:Ry P ops ws fx Φ) (J:W9 P ops ws fx Φ) (hfin:∀k aF W,ws.length≤k→Φ k true aF W→Q .normal aF W):(Code.region id ops true).wp P Q a w:=by
 refine Dy hm (Y5 ops ws fx Φ) (by simp only[Df,Bool.and_eq_true]at hs;exact hs.2.2.2) (Ic hΦ hd hz I) (fun L a w i o hJ ho hi Z=>?_) (fun L a w hJ aA=>Ld aE aD hfin hJ aA);obtain⟨h1,h2⟩:=Js (Q:=Q) ws fx Φ hs aB aC hpure hwrite J hJ ho hi Z;unfold wpOp;rw[ho];simp only;split
 ·rename_i hw
  rw[if_pos hw]at h2;exact .inl h2
 ·rename_i hw
  rw[if_neg hw]at h2;exact h2
theorem Dx{l n:Nat}{P:Program}{ops:Array Oper}{Q:Exit→Act→World→Prop}{id:Nat}{a aF:Act}{w:World}(hm:P.follows .mixedOrders=true)(ws:List Nat)(fx:Nat)(Φ:Nat→Bool→Act→World→Prop)(hs:Df ops=true)(aB:B1 ops ws=true)(aE:∀x∈ws,x<ops.size)(aC:fx∉ws)(aD:fx<ops.size)
  (hΦ:Φ 0 false aF w.drew) (hd:a.defers=aF.defers) (hz:a.tmps.size=aF.tmps.size) (I:∀t,(∃(i:Nat) (o:Oper),ops[i]?=some o∧o.dst=some t)∨a.tmps[t]?=aF.tmps[t]?)
  (hpure:Xh P ops ws fx Φ) (hwrite:Ry P ops ws fx Φ) (J:W9 P ops ws fx Φ) (hfin:∀k aF W,ws.length≤k→Φ k true aF W→Q .normal aF W):(Code.region id ops true).wpIn (Fence.wide.inRound l) n P Q a w:=by
 refine Jg hm (Y5 ops ws fx Φ) (by simp only[Df,Bool.and_eq_true]at hs;exact hs.2.2.2) (Ic hΦ hd hz I) (fun L a w i o hJ ho hi Z=>?_) (fun L a w hJ aA=>Ld aE aD hfin hJ aA);obtain⟨h1,h2⟩:=Js (Q:=Q) ws fx Φ hs aB aC hpure hwrite J hJ ho hi Z;unfold wpOpIn;rw[ho];simp only;split
 ·rename_i hw
  rw[if_pos hw]at h2;exact Ff h1 h2
 ·rename_i hw
  rw[if_neg hw]at h2;exact⟨fun _ _=>trivial,h2⟩
theorem Bs{ops:Array Oper}{xs ys:List Value}(n m I J:Nat)(hd:((List.range' n m).all fun t=>ops.any fun o=>o.dst==some t)=true)(aA:((List.range' I J).all fun t=>ops.any fun o=>o.dst==some t)=true)(aB:n+m≤I)(h1:xs.take n=ys.take n)(h2:(xs.drop (n+m)).take (I-(n+m))=(ys.drop (n+m)).take (I-(n+m)))(h3:xs.drop (I+J)=ys.drop (I+J))(t:Nat):(∃(i:Nat) (o:Oper),ops[i]?=some o∧o.dst=some t)∨xs.toArray[t]?=ys.toArray[t]?:=by
 have Z:∀n m,((List.range' n m).all fun t=>ops.any fun o=>o.dst==some t)=true→n≤t→t<n+m→∃(i:Nat) (o:Oper),ops[i]?=some o∧o.dst=some t:=fun n m hd ha hb=>by
  have h3:=List.all_eq_true.1 hd t (List.mem_range'_1.2 ⟨ha,hb⟩);obtain⟨o,ho,h4⟩:=Array.any_eq_true'.1 h3;obtain⟨i,hi,rfl⟩:=Array.mem_iff_getElem.1 ho;exact⟨i,_,Array.getElem?_eq_getElem hi,beq_iff_eq.1 h4⟩
 by_cases ha:t<n
 ·right
  have:=congrArg (fun l:List Value=>l[t]?) h1;simpa[List.getElem?_take,ha]using this
 ·by_cases hb:t<n+m
  ·exact .inl (Z n m hd (by omega) hb)
  ·by_cases hc:t<I
   ·right
    have:=congrArg (fun l:List Value=>l[t-(n+m)]?) h2;simp only[List.getElem?_take,zL,show n+m+(t-(n+m))=t by omega]at this;rw[if_pos (by omega),if_pos (by omega)]at this;simpa using this
   ·by_cases he:t<I+J
    ·exact .inl (Z I J aA (by omega) he)
    ·right
     have:=congrArg (fun l:List Value=>l[t-(I+J)]?) h3;simp only[zL,show I+J+(t-(I+J))=t by omega]at this;simpa using this
/-! who hangs on whom,shown by a path (Cg looks at all ways: too much for a long region) -/
def Di(ops:Array Oper):Nat→List Nat→Bool
 |_,[]=>true
 | x,y::r=>(match ops[x]? with
  |none=>false
  | some o=>o.after.any fun e=>Region.binds .any e&&e.on==y)&&Di ops y r
theorem Ei{ops:Array Oper}{x y:Nat}{r:List Nat}(h:Di ops x (y::r)=true):(∃o,ops[x]?=some o∧∃e∈o.after,Region.binds .any e=true∧e.on=y)∧Di ops y r=true:=by
 unfold Di at h;rw[Bool.and_eq_true]at h;refine⟨?_,h.2⟩;cases ho:ops[x]? with
 |none=>have:=h.1;rw[ho]at this;cases this
 |some o=>
  have h1:=h.1;rw[ho]at h1;obtain⟨e,I,h2⟩:=Array.any_eq_true'.1 h1;simp only[Bool.and_eq_true,beq_iff_eq]at h2;exact⟨o,rfl,e,I,h2.1,h2.2⟩
theorem Ql{ops:Array Oper}:∀(p:List Nat) (x a:Nat) (r:List Nat),Di ops x (p++a::r)=true↔Di ops x (p++[a])=true∧Di ops a r=true
 | [],x,a,r=>by simp[Di]
 |q::p,x,a,r=>by
  have ih:=Ql (ops:=ops) p q a r
  have hc:∀r,Di ops x (q::r)=((match ops[x]? with
   |none=>false
   | some o=>o.after.any fun e=>Region.binds .any e&&e.on==q)&&Di ops q r):=fun _=>rfl
  rw[zQ,zQ,hc,hc,Bool.and_eq_true,Bool.and_eq_true,ih];exact and_assoc.symm
theorem Qm{ops:Array Oper}(hd:J6 .any ops=true):∀(p:List Nat) (x y:Nat),Di ops x (p++[y])=true→p.length+1≤x
 | [],x,y,h=>by
  obtain⟨⟨o,ho,e,I,h1,h2⟩,_⟩:=Ei h;have:=Ht hd ho e I h1;simp only[qP];omega
 |q::p,x,y,h=>by
  obtain⟨⟨o,ho,e,I,h1,h2⟩,h3⟩:=Ei h;have:=Ht hd ho e I h1;have:=Qm hd p q y h3;simp only[qE];omega
theorem Pm{ops:Array Oper}:∀(p:List Nat) (x y n:Nat),Di ops x (p++[y])=true→p.length+1≤n→Cg ops n x y=true
 | [],x,y,n,h,hn=>by
  obtain⟨⟨o,ho,e,I,h1,h2⟩,_⟩:=Ei h;obtain⟨m,rfl⟩:∃m,n=m+1:=⟨n-1,by omega⟩;unfold Cg;rw[ho];exact Array.any_eq_true'.2 ⟨e,I,by rw[h1,h2];simp⟩
 |q::p,x,y,n,h,hn=>by
  obtain⟨⟨o,ho,e,I,h1,h2⟩,h3⟩:=Ei h;simp only[qE]at hn;obtain⟨m,rfl⟩:∃m,n=m+1:=⟨n-1,by omega⟩;have ih:=Pm p q y m h3 (by omega);unfold Cg;rw[ho];exact Array.any_eq_true'.2 ⟨e,I,by rw[h1,h2,ih];simp⟩
theorem C6{ops:Array Oper}(hd:J6 .any ops=true)(p:List Nat){x y:Nat}(h:Di ops x (p++[y])=true):Cg ops ops.size x y=true:=by
 have h1:=Qm hd p x y h;refine Pm p x y _ h ?_;cases p with
 |nil=>
  obtain⟨⟨o,ho,_⟩,_⟩:=Ei h;have:=(qA.1 ho).1;omega
 |cons q p=>
  obtain⟨⟨o,ho,_⟩,_⟩:=Ei h;have:=(qA.1 ho).1;omega
def Im(ops:Array Oper):List Nat→List (List Nat)→Bool
 |a::b::r,p::ps=>Di ops b (p++[a])&&Im ops (b::r) ps
 | [_],_=>true
 | [],_=>true
 |_::_::_,[]=>false
theorem Np{ops:Array Oper}:∀(r:List Nat) (a:Nat) (ps:List (List Nat)),Im ops (a::r) ps=true→∀y∈r,∃p,Di ops y (p++[a])=true
 | [],a,ps,h,y,hy=>by cases hy
 |b::r,a,[],h,y,hy=>by simp[Im]at h
 |b::r,a,p::ps,h,y,hy=>by
  unfold Im at h;rw[Bool.and_eq_true]at h;rcases zW.1 hy with rfl|hy
  ·exact⟨p,h.1⟩
  ·obtain⟨q,hq⟩:=Np r b ps h.2 y hy;exact⟨q++b::p,by rw[zH,zQ];exact(Ql q y b (p++[a])).2 ⟨hq,h.1⟩⟩
theorem Re{ops:Array Oper}:∀(ws:List Nat) (ps:List (List Nat)),Im ops ws ps=true→∀k j x y:Nat,k<j→ws[k]?=some x→ws[j]?=some y→∃p,Di ops y (p++[x])=true
 | [],ps,h,k,j,x,y,hkj,hx,hy=>by cases hx
 |a::r,ps,h,0,j,x,y,hkj,hx,hy=>by
  cases hx;obtain⟨j,rfl⟩:∃i,j=i+1:=⟨j-1,by omega⟩;exact Np r a ps h y (qN hy)
 |a::r,ps,h,k+1,j,x,y,hkj,hx,hy=>by
  obtain⟨j,rfl⟩:∃i,j=i+1:=⟨j-1,by omega⟩
  have h2:Im ops r ps.tail=true:=by
   cases r with
   |nil=>rfl
   |cons b r=>
    cases ps with
    |nil=>simp[Im]at h
    |cons p ps=>
     unfold Im at h;rw[Bool.and_eq_true]at h;exact h.2
  exact Re r ps.tail h2 k j x y (by omega) hx hy
theorem R5{ops:Array Oper}(hd:J6 .any ops=true)(ws:List Nat)(ps:List (List Nat))(h:Im ops ws ps=true):B1 ops ws=true:=by
 unfold B1;rw[List.all_eq_true];intro k _;rw[List.all_eq_true];intro j _;by_cases hkj:k<j
 ·rw[show decide (k<j)=true by simpa using hkj];cases hy:ws[j]? with
  |none=>rfl
  |some y=>
   cases hx:ws[k]? with
   |none=>rfl
   |some x=>
    obtain⟨p,hp⟩:=Re ws ps h k j x y hkj hx hy;exact C6 hd p hp
 ·rw[show decide (k<j)=false by simpa using hkj];rfl
def T7(P:Program)(ops:Array Oper)(ws:List Nat)(Φ:Nat→Act→World→Prop):Prop:=
 ∀k aF W i o,Φ k aF W→ops[i]?=some o→i∉ws→(∀j x,ws[j]?=some x→Cg ops ops.size x i=true→k≤j)→(∀j x,ws[j]?=some x→Cg ops ops.size i x=true→j<k) →
  if Region.wanted o (yielded ops aF.tmps)=true then∃t v,o.dst=some t∧aF.tmps[t]?=some v∧Iq P o aF W v else ∀t,o.dst=some t→aF.tmps[t]?=some undef
def Fx(ops:Array Oper)(i:Nat)(a b:Act):Prop:=a.defers=b.defers∧a.tmps.size=b.tmps.size∧∀t,(∃(j:Nat) (o:Oper),ops[j]?=some o∧o.dst=some t∧Cg ops ops.size j i=true)∨a.tmps[t]?=b.tmps[t]?
theorem Fx.refl(ops:Array Oper)(i:Nat)(a:Act):Fx ops i a a:=⟨rfl,rfl,fun _=>.inr rfl⟩
def N7(P:Program)(ops:Array Oper)(ws:List Nat)(Φ:Nat→Act→World→Prop):Prop:=
 ∀k aF W i o,Φ k aF W→ws[k]?=some i→ops[i]?=some o→Region.wanted o (yielded ops aF.tmps)=true∧F0 P o aF W (fun I W'=>∃b,Φ (k+1) b W'∧Fx ops i I b)
theorem Jt{P:Program}{ops:Array Oper}{Q:Exit→Act→World→Prop}(ws:List Nat)(Φ:Nat→Act→World→Prop)(hs:Df ops=true)(aO:B1 ops ws=true)
  (hpure:T7 P ops ws Φ) (hwrite:N7 P ops ws Φ)
  {L:Array Bool} {a:Act} {w:World} {i:Nat} {o:Oper} (hJ:Pd ops ws Φ L a w) (ho:ops[i]?=some o) (hi:L.getD i true=false) (aB:∀e∈o.after,Region.binds .any e=true→L.getD e.on false=true) :
  (∀c,o.op≠.defer c)∧if Region.wanted o (yielded ops a.tmps)=true then Oper.wp P o a w (Pd ops ws Φ (L.setIfInBounds i true)) Q else Pd ops ws Φ (L.setIfInBounds i true) (a.put o.dst undef) w:=by
 simp only[Df,Bool.and_eq_true]at hs;obtain⟨hc,hu,hk,hd⟩:=hs;obtain⟨⟨k,aF,h1,h2,h3⟩,aC,hsz⟩:=hJ;obtain⟨aS,aT⟩:=Ot hk ho;have hlk:=h2.looks hc ho aB;have aR:execOp a.eval o=execOp aF.eval o:=execOp_congr o aS (D7 hlk);have aQ:=Dg hlk;have aE:=(Ca hi).1
 have aG:∀i' o',ops[i']?=some o'→(L.setIfInBounds i true).getD i' false=true→∀e∈o'.after,Region.binds .any e=true→(L.setIfInBounds i true).getD e.on false=true:=by
  intro i' o' I hl e he hb;rw[Aq _ _ _ aE];split
  ·rfl
  ·rw[Aq _ _ _ aE]at hl;by_cases aM:i=i'
   ·subst aM;rw[ho]at I;cases I;exact aB e he hb
   ·rw[if_neg aM]at hl;exact aC i' o' I hl e he hb
 have aH:(L.setIfInBounds i true).size=ops.size:=by simpa using hsz
 have aA:=fun y (h:Cg ops ops.size i y=true)=>Bv aC ops.size i y (fun o' I=>by rw[ho]at I;cases I;exact aB) h;have aI:∀j,Cg ops ops.size j i=true→L.getD j false=true→False:=fun j hj hl=>Az hi (Bv aC ops.size j i (fun o' I=>aC j o' I hl) hj)
 have aX:∀j x,ws[j]?=some x→Cg ops ops.size x i=true→k≤j:=fun j x hx aL=>by
  by_cases h:k≤j
  ·exact h
  ·exact(aI x aL ((h3 j x hx).2 (by omega))).elim
 refine⟨aT,?_⟩
 have run:∀{Ψ:Act→World→Prop},F0 P o aF w Ψ→(∀v W',Ψ (aF.put o.dst v) W'→Pd ops ws Φ (L.setIfInBounds i true) (a.put o.dst v) W')→Oper.wp P o a w (Pd ops ws Φ (L.setIfInBounds i true)) Q:=by
  intro Ψ aK Z;unfold Oper.wp;rw[aR];rcases aK with⟨v,W',hr,hΦ⟩|⟨W',hr,hΦ⟩|⟨g,args,W',hr,J⟩
  ·rw[hr];exact Z v W' hΦ
  ·rw[hr];exact Z undef W' hΦ
  ·rw[hr];refine J.mono ?_;rintro e w' ⟨v,rfl,hΦ⟩;exact Z v w' hΦ
 by_cases hw:i∈ws
 ·obtain⟨j,hj⟩:=zM hw;have aZ:¬j<k:=fun h=>Az hi ((h3 j i hj).2 h)
  have hkj:j=k:=by
   by_cases h:k<j
   ·have aP:k<ws.length:=by have:=(qI.1 hj).1;omega
    have h4:=aA ws[k] (Ef aO (qO aP) hj h);have:=(h3 k ws[k] (qO aP)).1 h4;omega
   ·omega
  subst hkj;obtain⟨aD,aK⟩:=hwrite j aF w i o h1 hj ho;rw[aQ,if_pos aD];refine run aK ?_;rintro v W' ⟨b,hΦ,r1,r2,r3⟩;have hA:=h2.write (o:=o) ho v;refine⟨⟨j+1,b,hΦ,⟨hA.defers.trans r1,hA.size.trans r2,fun t=>?_⟩,fun j' x hx=>?_⟩,aG,aH⟩
  ·rcases hA.same t with h|h
   ·exact .inl h
   ·rcases r3 t with⟨q,oq,q1,q2,q3⟩|h4
    ·left
     refine⟨q,oq,q1,q2,?_⟩
     have aU:i≠q:=by
      rintro rfl;exact Az hi (aA i q3)
     rw[Dn,if_neg aU];have aW:q<L.size:=by rw[hsz];exact(qA.1 q1).1
     cases hb:L.getD q true with
     |false=>rfl
     |true=>
      refine(aI q q3 ?_).elim;rw[Array.getD_eq_getD_getElem?,Array.getElem?_eq_getElem aW]at hb ⊢;exact hb
    ·exact .inr (h.trans h4)
  ·rw[Aq _ _ _ aE];by_cases aJ:i=x
   ·subst aJ;simp only[if_true,true_iff];have h5:¬j'<j:=fun h=>Az hi ((h3 j' i hx).2 h);by_cases h6:j<j'
    ·exact(Az hi (aA i (Ef aO hj hx h6))).elim
    ·omega
   ·rw[if_neg aJ,h3 j' x hx];constructor
    ·intro h;omega
    ·intro h;by_cases h8:j'=j
     ·subst h8;rw[hj]at hx;cases hx;exact absurd rfl aJ
     ·omega
 ·have Z:∀v,(∀t,o.dst=some t→aF.tmps[t]?=some v)→Pd ops ws Φ (L.setIfInBounds i true) (a.put o.dst v) w:=fun v hv=>by
   refine⟨⟨k,aF,h1,h2.step hu ho hv,fun j x hx=>?_⟩,aG,aH⟩;rw[Aq _ _ _ aE,if_neg (by rintro rfl;exact hw (qN hx))];exact h3 j x hx
  have hp:=hpure k aF w i o h1 ho hw aX (fun j x hx aL=>(h3 j x hx).1 (aA x aL));rw[aQ];by_cases aD:Region.wanted o (yielded ops aF.tmps)=true
  ·rw[if_pos aD]at hp ⊢;obtain⟨t,v,ht,hv,aY⟩:=hp;have aN:∀t',o.dst=some t'→aF.tmps[t']?=some v:=fun t' h=>by rw[ht]at h;cases h;exact hv
   unfold Oper.wp;rw[aR];rcases aY with hr|⟨g,args,hr,J⟩
   ·rw[hr];exact Z v aN
   ·rw[hr];refine J.mono ?_;rintro e w' ⟨rfl,rfl⟩;exact Z v aN
  ·rw[if_neg aD]at hp ⊢;exact Z undef hp
theorem Jh{P:Program}{ops:Array Oper}{Q:Exit→Act→World→Prop}{id:Nat}{a aF:Act}{w:World}(hm:P.follows .mixedOrders=true)(ws:List Nat)(Φ:Nat→Act→World→Prop)(hs:Df ops=true)(aB:B1 ops ws=true)(aC:∀x∈ws,x<ops.size)
  (hΦ:Φ 0 aF w.drew) (hd:a.defers=aF.defers) (hz:a.tmps.size=aF.tmps.size) (J:∀t,(∃(i:Nat) (o:Oper),ops[i]?=some o∧o.dst=some t)∨a.tmps[t]?=aF.tmps[t]?)
  (hpure:T7 P ops ws Φ) (hwrite:N7 P ops ws Φ) (hfin:∀k aF W,ws.length≤k→Φ k aF W→Q .normal aF W):(Code.region id ops true).wp P Q a w:=by
 refine Dy hm (Pd ops ws Φ) (by simp only[Df,Bool.and_eq_true]at hs;exact hs.2.2.2) ?_ (fun L a w i o hJ ho hi aA=>?_) (fun L a w hJ I=>?_)
 ·have hf:∀i,(Array.replicate ops.size false).getD i false=false:=fun i=>by
   rw[Array.getD_eq_getD_getElem?,Array.getElem?_replicate];split<;>rfl
  refine⟨⟨0,aF,hΦ,⟨hd,hz,fun t=>?_⟩,fun j x _=>by rw[hf];simp⟩,(fun i o _ h=>by rw[hf]at h;cases h),by simp⟩;rcases J t with⟨i,o,h1,h2⟩|h
  ·left
   refine⟨i,o,h1,h2,?_⟩;rw[Array.getD_eq_getD_getElem?,Array.getElem?_replicate,if_pos (qA.1 h1).1];rfl
  ·exact .inr h
 ·obtain⟨h1,h2⟩:=Jt (Q:=Q) ws Φ hs aB hpure hwrite hJ ho hi aA;unfold wpOp;rw[ho];simp only;split
  ·rename_i hw
   rw[if_pos hw]at h2;exact .inl h2
  ·rename_i hw
   rw[if_neg hw]at h2;exact h2
 ·obtain⟨⟨k,aF,h1,h2,h3⟩,_,hsz⟩:=hJ;have he:=h2.all I;subst he;refine hfin k a w ?_ h1;by_cases h:ws.length≤k
  ·exact h
  ·have Z:k<ws.length:=by omega
   have hx:=aC ws[k] (List.getElem_mem Z)
   have:=(h3 k _ (qO Z)).1 (by
    have:=I ws[k];rw[Array.getD_eq_getD_getElem?,Array.getElem?_eq_getElem (by omega)]at this ⊢
    exact this)
   omega
theorem Yv{ops:Array Oper}{i:Nat}{xs J:List Value}{df:List Deferred}(n I j j2:Nat)(hj:(ops[j]?).bind (·.dst)=some n)(aB:(ops[j2]?).bind (·.dst)=some I)(ha:Cg ops ops.size j i=true)(aA:Cg ops ops.size j2 i=true)(hn:n<I)(hl:xs.length=J.length)
  (h1:xs.take n=J.take n) (h2:(xs.drop (n+1)).take (I-(n+1))=(J.drop (n+1)).take (I-(n+1))) (h3:xs.drop (I+1)=J.drop (I+1)):Fx ops i ⟨xs.toArray,df⟩ ⟨J.toArray,df⟩:=by
 have Z:∀(j n:Nat),(ops[j]?).bind (·.dst)=some n→Cg ops ops.size j i=true→∃(q:Nat) (o:Oper),ops[q]?=some o∧o.dst=some n∧Cg ops ops.size q i=true:=fun j n hj ha=>by
  cases ho:ops[j]? with
  |none=>rw[ho]at hj;cases hj
  |some o=>rw[ho]at hj;exact⟨j,o,ho,hj,ha⟩
 refine⟨rfl,by simpa using hl,fun(t:Nat)=>?_⟩;by_cases e1:t=n
 ·subst e1;exact .inl (Z j t hj ha)
 ·by_cases e2:t=I
  ·subst e2;exact .inl (Z j2 t aB aA)
  ·right
   show xs.toArray[t]?=J.toArray[t]?;rw[List.getElem?_toArray,List.getElem?_toArray];by_cases a:t<n
   ·have:=congrArg (fun l:List Value=>l[t]?) h1;simpa[List.getElem?_take,a]using this
   ·by_cases c:t<I
    ·obtain⟨q,rfl⟩:∃q,t=n+1+q:=⟨t-(n+1),by omega⟩;have hq:q<I-(n+1):=by omega
     have:=congrArg (fun l:List Value=>l[q]?) h2;simp only[List.getElem?_take,zL]at this;rw[if_pos hq,if_pos hq]at this;exact this
    ·obtain⟨q,rfl⟩:∃q,t=I+1+q:=⟨t-(I+1),by omega⟩;have:=congrArg (fun l:List Value=>l[q]?) h3;simp only[zL]at this;exact this
def T5(I:Array Oper)(z:Oper):Bool:=I.all (fun o=>o.guard.isNone)&&(z.guard.isNone&&(List.range I.size).all fun j=>z.after.any fun e=>e.on==j&&Region.binds .any e)
theorem Hx(L:Array Bool)(i:Nat)(b:Bool)(h:i<L.size-1):L.pop.getD i b=L.getD i b:=by
 rw[Array.getD_eq_getD_getElem?,Array.getD_eq_getD_getElem?,Array.getElem?_pop,if_pos h]
theorem Zw(L:Array Bool)(i:Nat)(h:i<L.size-1):(L.setIfInBounds i true).pop=L.pop.setIfInBounds i true:=by
 apply Array.ext_getElem?;intro j;simp only[Array.getElem?_pop,Array.getElem?_setIfInBounds,Array.size_setIfInBounds,Array.size_pop];by_cases hj:i=j
 ·subst hj;rw[if_pos h,if_pos rfl,if_pos rfl,if_pos (by omega),if_pos h]
 ·rw[if_neg hj,if_neg hj]
theorem Gg{o:Oper}(h:o.guard.isNone=true)(f:Nat→Option Bool):Region.wanted o f=true:=by
 unfold Region.wanted;cases hg:o.guard with
 |none=>rfl
 |some q=>rw[hg]at h;cases h
theorem Ji{P:Program}{ops:Array Oper}{Q:Exit→Act→World→Prop}{id:Nat}{a aF:Act}{w:World}(hm:P.follows .mixedOrders=true)(I:Array Oper)(z:Oper)(J:ops=I.push z)(ws:List Nat)(Φ:Nat→Act→World→Prop)(hs:Df I=true)(hd:J6 .any ops=true)(hl:T5 I z=true)(aM:B1 I ws=true)(aU:∀x∈ws,x<I.size)
  (hΦ:Φ 0 aF w.drew) (aP:a.defers=aF.defers) (hz:a.tmps.size=aF.tmps.size) (aG:∀t,(∃(i:Nat) (o:Oper),I[i]?=some o∧o.dst=some t)∨a.tmps[t]?=aF.tmps[t]?)
  (hpure:T7 P I ws Φ) (hwrite:N7 P I ws Φ) (aC:∀k aF W,ws.length≤k→Φ k aF W→Oper.wp P z aF W (fun a' w'=>Q .normal a' w') Q):(Code.region id ops true).wp P Q a w:=by
 simp only[T5,Bool.and_eq_true]at hl;obtain⟨hg,aN,aS⟩:=hl;have hsz:ops.size=I.size+1:=by rw[J,Array.size_push]
 refine Dy hm (fun L a w=>L.size=ops.size∧((L.getD I.size false=false∧Pd I ws Φ L.pop a w)∨((∀i,i<ops.size→L.getD i false=true)∧Q .normal a w))) hd ?_ (fun L a w i o hJ ho hi aB=>?_) (fun L a w hJ Z=>?_)
 ·have hf:∀n i,(Array.replicate n false).getD i false=false:=fun n i=>by
   rw[Array.getD_eq_getD_getElem?,Array.getElem?_replicate];split<;>rfl
  have hp:(Array.replicate ops.size false).pop=Array.replicate I.size false:=by
   apply Array.ext_getElem?;intro j;rw[Array.getElem?_pop,Array.getElem?_replicate,Array.getElem?_replicate,Array.size_replicate,hsz];by_cases h:j<I.size
   ·rw[if_pos (by omega),if_pos (by omega),if_pos h]
   ·rw[if_neg (by omega),if_neg h]
  refine⟨by simp,.inl ⟨hf _ _,?_⟩⟩;rw[hp];refine⟨⟨0,aF,hΦ,⟨aP,hz,fun t=>?_⟩,fun j x _=>by rw[hf];simp⟩,(fun i o _ h=>by rw[hf]at h;cases h),by simp⟩;rcases aG t with⟨i,o,h1,h2⟩|h
  ·left
   refine⟨i,o,h1,h2,?_⟩;rw[Array.getD_eq_getD_getElem?,Array.getElem?_replicate,if_pos (qA.1 h1).1];rfl
  ·exact .inr h
 ·obtain⟨aD,hJ⟩:=hJ;have aR:=(qA.1 ho).1;rcases hJ with⟨aA,aL⟩|⟨aQ,_⟩
  ·unfold wpOp;rw[ho];simp only;by_cases aO:i<I.size
   ·have aK:I[i]?=some o:=by rw[J,Array.getElem?_push,if_neg (by omega)]at ho;exact ho
    have aI:=(qA.1 aK)
    have aJ:o.guard.isNone=true:=by
     have:=(Array.all_eq_true.1 hg) i aO
     rwa [aI.2]at this
    rw[if_pos (Gg aJ _)]
    obtain⟨_,h2⟩:=Jt (Q:=Q) ws Φ hs aM hpure hwrite aL aK (by rw[Hx _ _ _ (by omega)];exact hi) (fun e he hb=>by
     have h3:=Ht hd ho e he hb;rw[Hx _ _ _ (by omega)]
     exact aB e he hb)
    rw[if_pos (Gg aJ _)]at h2;refine .inl (qR (fun a' w' h=>⟨by simpa using aD,.inl ⟨?_,?_⟩⟩) h2)
    ·rw[Aq _ _ _ (by omega),if_neg (by omega)];exact aA
    ·rw[Zw _ _ (by omega)];exact h
   ·have aW:i=I.size:=by omega
    subst aW
    have aT:z=o:=by
     rw[J,Array.getElem?_push,if_pos rfl]at ho;exact Option.some.inj ho
    subst aT;rw[if_pos (Gg aN _)]
    have aE:∀j,j<I.size→L.getD j false=true:=fun j hj=>by
     obtain⟨e,he,h3⟩:=Array.any_eq_true'.1 (List.all_eq_true.1 aS j (List.mem_range.2 hj));simp only[Bool.and_eq_true,beq_iff_eq]at h3;have:=aB e he h3.2
     rwa [h3.1]at this
    obtain⟨⟨k,aX,h1,h2,h3⟩,_,aY⟩:=aL
    have Z:∀j,L.pop.getD j true=true:=fun j=>by
     by_cases hj:j<I.size
     ·have hq:=aE j hj;rw[Hx _ _ _ (by omega)];rw[Array.getD_eq_getD_getElem?,Array.getElem?_eq_getElem (by omega)]at hq ⊢;exact hq
     ·rw[Array.getD_eq_getD_getElem?,Array.getElem?_eq_none (by omega)];rfl
    have he:=h2.all Z;subst he
    have hk:ws.length≤k:=by
     by_cases h:ws.length≤k
     ·exact h
     ·have aH:k<ws.length:=by omega
      have hx:=aU ws[k] (List.getElem_mem aH);have:=(h3 k _ (qO aH)).1 (by rw[Hx _ _ _ (by omega)];exact aE _ hx);omega
    refine .inl (qR (fun a' w' h=>⟨by simpa using aD,.inr ⟨fun j hj=>?_,h⟩⟩) (aC k a w hk h1));rw[Aq _ _ _ (by omega)];split
    ·rfl
    ·exact aE j (by omega)
  ·have:=aQ i aR;exact(Az hi this).elim
 ·obtain⟨aD,hJ⟩:=hJ;rcases hJ with⟨aA,_⟩|⟨_,hq⟩
  ·have h1:=Z I.size;rw[Array.getD_eq_getD_getElem?,Array.getElem?_eq_getElem (by omega)]at h1 aA;rw[show L[I.size]=false from aA]at h1;cases h1
  ·exact hq
theorem Ep{P:Program}{ops:Array Oper}{Q:Exit→Act→World→Prop}{id:Nat}{a aF:Act}{w:World}(hm:P.follows .mixedOrders=true){z:Oper}(hb:ops.back?=some z)(ws:List Nat)(Φ:Nat→Act→World→Prop)(hs:Df ops.pop=true)(hd:J6 .any ops=true)(hl:T5 ops.pop z=true)(aA:B1 ops.pop ws=true)(aC:∀x∈ws,x<ops.pop.size)
  (hΦ:Φ 0 aF w.drew) (aB:a.defers=aF.defers) (hz:a.tmps.size=aF.tmps.size) (I:∀t,(∃(i:Nat) (o:Oper),ops.pop[i]?=some o∧o.dst=some t)∨a.tmps[t]?=aF.tmps[t]?)
  (hpure:T7 P ops.pop ws Φ) (hwrite:N7 P ops.pop ws Φ) (J:∀k aF W,ws.length≤k→Φ k aF W→Oper.wp P z aF W (fun a' w'=>Q .normal a' w') Q):(Code.region id ops true).wp P Q a w:=by
 refine Ji hm ops.pop z ?_ ws Φ hs hd hl aA aC hΦ aB hz I hpure hwrite J;apply Array.ext_getElem?;intro j;have Z:ops[ops.size-1]?=some z:=by rw[Array.back?]at hb;exact hb
 have aD:=(qA.1 Z).1;rw[Array.getElem?_push,Array.size_pop];split
 ·rename_i h
  rw[h];exact Z
 ·rw[Array.getElem?_pop];split
  ·rfl
  ·rw[Array.getElem?_eq_none (by omega)]
end Go.Proofs.YtefokfbgpfcbkaaGreat
