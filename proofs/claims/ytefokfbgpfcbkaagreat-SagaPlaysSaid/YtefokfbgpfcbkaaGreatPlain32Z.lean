import Derived.Test.YtefokfbgpfcbkaaGreatPlain33Z
set_option maxRecDepth 100000
set_option linter.unusedVariables false
set_option linter.unusedSimpArgs false
namespace Go.Proofs.YtefokfbgpfcbkaaGreat
namespace P31
open P22 (Def Step Try)
structure Run where
 phase:Nat
 att:Int
 til:Int
 last:Bool
def Run.zero:Run:=⟨0,0,0,false⟩
def now(n:Int):Int:=min (max n 0) 1099511627776
def limit(s:Step):Int:=min (max (P28.meant s.limit 100) 0) 10000
def first(t:Try):Int:=min (max t.first 0) 1000
def factor(t:Try):Int:=min (max (P28.meant t.factor 1) 0) 1000
def waitN(t:Try):Nat→Int
 |0=>first t
 |k+1=>min (waitN t k*factor t) 1000
def wait(t:Try)(k:Int):Int:=if k<1 then 0 else waitN t ((min k 20).toNat-1)
def end_(r:Run)(p:Nat):Run:=⟨p,r.att,0,r.last⟩
def next(s:Step)(n:Int)(r:Run):Run:=⟨1,r.att+1,now n+limit s,r.last⟩
def fail(s:Step)(n:Int)(r:Run):Run:=
 if r.last=true∨P33.more s.tries r.att=false then end_ r 4 else if wait s.tries r.att=0 then next s n r else ⟨2,r.att,now n+wait s.tries r.att,r.last⟩
def begin_(s:Step)(n:Int):Run:=next s n Run.zero
def answer(s:Step)(n:Int)(r:Run)(t:Int)(o:Nat):Run × Bool:=
 if r.phase≠1∨r.att≠t then (r,false) else if o=0 then (end_ r 3,true) else if o=1 then (fail s n r,true) else if o=2 then (end_ r 4,true) else (r,false)
def tick(s:Step)(n:Int)(r:Run):Run × Bool:=
 if now n<r.til then (r,false) else if r.phase=1 then (fail s n r,true) else if r.phase=2 then (next s n r,true) else (r,false)
def stop(r:Run):Run:=if r.phase=0∨r.phase=2 then ⟨4,r.att,0,true⟩ else if r.phase=1 then ⟨1,r.att,r.til,true⟩ else r
structure Run.ok (r:Run):Prop where
 ph:r.phase≤4
 lo:0≤r.att
 hi:r.att≤10
 p2:r.phase=2→r.att≤9
 p1:r.phase=1∨r.phase=2→1≤r.att
 t0:0≤r.til
 t1:r.til≤1099511640000
theorem now_le(n:Int):0≤now n∧now n≤1099511627776:=by unfold now;omega
theorem limit_le(s:Step):0≤limit s∧limit s≤10000:=by unfold limit;omega
theorem factor_le(t:Try):0≤factor t∧factor t≤1000:=by unfold factor;omega
theorem waitN_le(t:Try):∀k,0≤waitN t k∧waitN t k≤1000
 |0=>by unfold waitN first;omega
 |k+1=>by
  obtain⟨h1,h2⟩:=waitN_le t k;obtain⟨h3,h4⟩:=factor_le t;unfold waitN;have:=Int.mul_nonneg h1 h3;omega
theorem wait_le(t:Try)(k:Int):0≤wait t k∧wait t k≤1000:=by
 unfold wait;split
 ·omega
 ·exact waitN_le t _
theorem zero_ok:Run.zero.ok:=⟨by decide,by decide,by decide,by decide,by decide,by decide,by decide⟩
theorem end_ok{r:Run}(h:r.ok){p:Nat}(hp:p=3∨p=4):(end_ r p).ok:=by
 refine⟨by show p≤4;omega,h.lo,h.hi,fun e=>?_,fun e=>?_,Int.le_refl _,by show (0:Int)≤_;decide⟩
 ·have e:p=2:=e;omega
 ·have e:p=1∨p=2:=e;omega
theorem next_ok{r:Run}(h:r.ok)(s:Step)(n:Int)(h9:r.att≤9):(next s n r).ok:=by
 have a:=now_le n;have b:=limit_le s;have:=h.lo;refine⟨by show 1≤4;decide,by show 0≤r.att+1;omega,by show r.att+1≤10;omega,fun e=>?_,fun _=>by show 1≤r.att+1;omega,by show 0≤now n+limit s;omega,by show now n+limit s≤_;omega⟩;have e:(1:Nat)=2:=e;omega
theorem fail_ok{r:Run}(h:r.ok)(s:Step)(n:Int):(fail s n r).ok:=by
 unfold fail;split
 ·exact end_ok h (.inr rfl)
 ·rename_i hl
  simp only[not_or,Bool.not_eq_true,Bool.not_eq_false]at hl;have hm:=Zs hl.2;split
  ·exact next_ok h s n hm.2
  ·have a:=now_le n;have b:=wait_le s.tries r.att;exact⟨by show 2≤4;decide,h.lo,h.hi,fun _=>hm.2,fun _=>hm.1,by show 0≤now n+wait s.tries r.att;omega,by show now n+wait s.tries r.att≤_;omega⟩
theorem begin_ok(s:Step)(n:Int):(begin_ s n).ok:=next_ok zero_ok s n (by decide)
theorem stop_ok{r:Run}(h:r.ok):(stop r).ok:=by
 unfold stop;split
 ·exact⟨by show 4≤4;decide,h.lo,h.hi,fun e=>(by have e:(4:Nat)=2:=e;omega),fun e=>(by have e:(4:Nat)=1∨(4:Nat)=2:=e;omega),Int.le_refl _,by show (0:Int)≤_;decide⟩
 ·split
  ·rename_i h1 h2
   exact⟨by show 1≤4;decide,h.lo,h.hi,fun e=>(by have e:(1:Nat)=2:=e;omega),fun _=>h.p1 (.inl h2),h.t0,h.t1⟩
  ·exact h
theorem fail_phase(s:Step)(n:Int)(r:Run):(fail s n r).phase=4∨(r.last=false∧((fail s n r).phase=1∨(fail s n r).phase=2)):=by
 unfold fail;split
 ·exact .inl rfl
 ·rename_i hl
  simp only[not_or,Bool.not_eq_true]at hl;split
  ·exact .inr ⟨hl.1,.inl rfl⟩
  ·exact .inr ⟨hl.1,.inr rfl⟩
end P31
namespace P32
open P22 (Def Step)
open P31 (Run)
structure Order where
 step:Nat
 att:Int
 undo:Bool
 til:Int
structure S where
 run:Nat→Bool→Run
 done:List Nat
 undone:List Nat
 status:Nat
def S.new:S:=⟨fun _ _=>Run.zero,[],[],0⟩
def stepAt(d:Def)(i:Nat):Step:=d.steps.getD i Step.zero
def setR(f:Nat→Bool→Run)(i:Nat)(u:Bool)(r:Run):Nat→Bool→Run:=fun j b=>if j=i∧b=u then r else f j b
def put(i:Nat)(u:Bool)(r:Run)(x:S × List Order):S × List Order:=
  (⟨setR x.1.run i u r,if r.phase=3∧(x.1.run i u).phase≠3∧u=false then x.1.done++[i] else x.1.done,x.1.undone,x.1.status⟩,
   if r.phase=1∧r.att≠(x.1.run i u).att then x.2++[⟨i,r.att,u,r.til⟩] else x.2)
def anyP(d:Def)(s:S)(p:Nat):Bool:=(List.range d.steps.length).any fun i=>(s.run i false).phase==p
def halt(d:Def)(s:S):S:=⟨fun i u=>if u=false∧i<d.steps.length then P31.stop (s.run i u) else s.run i u,s.done,s.undone,2⟩
def ready(d:Def)(s:S)(i:Nat):Bool:=(s.run i false).phase==0&&((P28.refs d).getD i []).all fun j=>(s.run j false).phase==3
def go1(d:Def)(n:Int)(x:S × List Order)(i:Nat):S × List Order:=if ready d x.1 i=true then put i false (P31.begin_ (stepAt d i) n) x else x
def forth(d:Def)(n:Int)(x:S × List Order):S × List Order:=
 if anyP d x.1 4=true then (halt d x.1,x.2) else if x.1.done.length=d.steps.length then (⟨x.1.run,x.1.done,x.1.undone,3⟩,x.2) else (List.range d.steps.length).foldl (go1 d n) x
def turn(s:S):Option Nat:=s.done.reverse[s.undone.length]?
def backGo(d:Def)(n:Int):Nat→S × List Order→S × List Order
 |0,x=>x
 |f+1,x=>match turn x.1 with
  |none=>(⟨x.1.run,x.1.done,x.1.undone,4⟩,x.2)
  |some i=>if (P33.undoOf d i).isEmpty=true∨(x.1.run i true).phase=3 then backGo d n f (⟨x.1.run,x.1.done,x.1.undone++[i],x.1.status⟩,x.2)
   else if (x.1.run i true).phase=4 then (⟨x.1.run,x.1.done,x.1.undone,5⟩,x.2)
   else if (x.1.run i true).phase=0 then put i true (P31.begin_ (stepAt d i) n) x else x
def back(d:Def)(n:Int)(x:S × List Order):S × List Order:=if anyP d x.1 1=true then x else backGo d n (x.1.done.length-x.1.undone.length+1) x
def on1(d:Def)(n:Int)(x:S × List Order):S × List Order:=if x.1.status=1 then forth d n x else x
def on2(d:Def)(n:Int)(x:S × List Order):S × List Order:=if x.1.status=2 then back d n x else x
def on(d:Def)(n:Int)(x:S × List Order):S × List Order:=on2 d n (on1 d n x)
def moving(s:S):Bool:=s.status==1||s.status==2
def start(d:Def)(n:Int)(s:S):S × List Order:=if s.status≠0 then (s,[]) else on d n (⟨s.run,s.done,s.undone,1⟩,[])
def has(d:Def)(i:Int):Bool:=decide (0≤i)&&decide (i<(d.steps.length:Int))
def answer(d:Def)(n:Int)(a:P33.Ans)(s:S):(S × List Order) × Bool:=
 if moving s=false∨has d a.step=false then ((s,[]),false) else
 if (P31.answer (stepAt d a.step.toNat) n (s.run a.step.toNat a.undo) a.attempt a.outcome).2=false then ((s,[]),false) else
 (on d n (put a.step.toNat a.undo (P31.answer (stepAt d a.step.toNat) n (s.run a.step.toNat a.undo) a.attempt a.outcome).1 (s,[])),true)
def tick1(d:Def)(n:Int)(u:Bool)(x:S × List Order)(i:Nat):S × List Order:=
 if (P31.tick (stepAt d i) n (x.1.run i u)).2=true then put i u (P31.tick (stepAt d i) n (x.1.run i u)).1 x else x
def tick(d:Def)(n:Int)(s:S):S × List Order:=
 if moving s=false then (s,[]) else on d n ((List.range d.steps.length).foldl (tick1 d n true) ((List.range d.steps.length).foldl (tick1 d n false) (s,[])))
def cancel(d:Def)(n:Int)(s:S):(S × List Order) × Bool:=if s.status≠1 then ((s,[]),false) else (on d n (halt d s,[]),true)
def openU(s:S)(i:Nat)(u:Bool):List Order:=if (s.run i u).phase=1 then [⟨i,(s.run i u).att,u,(s.run i u).til⟩] else []
def open_(d:Def)(s:S):List Order:=(List.range d.steps.length).flatMap fun i=>openU s i false++openU s i true
abbrev R(d:Def)(i:Nat):List Nat:=(P28.refs d).getD i []
theorem setR_self(f:Nat→Bool→Run)(i:Nat)(u:Bool)(r:Run):setR f i u r i u=r:=by simp[setR]
theorem Ij{f:Nat→Bool→Run}{i j:Nat}{u b:Bool}{r:Run}(h:¬(j=i∧b=u)):setR f i u r j b=f j b:=by simp[setR,h]
theorem Zr{n:Nat}{l:List Nat}(hn:l.Nodup)(h:∀x∈l,x<n)(hl:l.length=n){i:Nat}(hi:i<n):i∈l:=by
 by_cases hm:i∈l
 ·exact hm
 ·have:=len_le n (i::l) (List.nodup_cons.2 ⟨hm,hn⟩) (fun x hx=>by
   rcases zW.1 hx with rfl|hx
   ·exact hi
   ·exact h x hx)
  simp at this;omega
theorem Cd{α:Type}(f:α→Nat→α)(P:Nat→α→Prop):∀(n:Nat) (x:α),P 0 x→(∀k x,k<n→P k x→P (k+1) (f x k))→P n ((List.range n).foldl f x)
 |0,x,h0,_=>h0
 |n+1,x,h0,hs=>by
  rw[List.range_succ,List.foldl_append];exact hs n _ (by omega) (Cd f P n x h0 (fun k x hk=>hs k x (by omega)))
structure Inv (d:Def) (s:S):Prop where
 ok:∀i u,(s.run i u).ok
 rng:∀i u,(s.run i u).phase≠0→i<d.steps.length
 nodup:s.done.Nodup
 dn:∀i,i∈s.done↔(s.run i false).phase=3
 und:s.undone=s.done.reverse.take s.undone.length
 len:s.undone.length≤s.done.length
 refs:∀i,(s.run i false).phase=1∨(s.run i false).phase=2→∀j∈R d i,j∈s.done
 st:s.status≤5
 z:s.status=0→∀i,(s.run i false).phase=0
 fwd:s.status≤1∨s.status=3→(∀i,(s.run i true).phase=0)∧s.undone=[]
 halted:2≤s.status→∀i,i<d.steps.length→(s.run i false).phase≠0∧(s.run i false).phase≠2∧((s.run i false).phase=1→(s.run i false).last=true)
 shut:s.undone≠[]→∀j,(s.run j false).phase≠1
 tru:∀i,(s.run i true).phase≠0→∀j,(s.run j false).phase≠1
 trn:∀i,(s.run i true).phase=1∨(s.run i true).phase=2∨(s.run i true).phase=4→turn s=some i∧(P33.undoOf d i).isEmpty=false
 e3:s.status=3→s.done.length=d.steps.length
 e4:s.status=4→s.undone.length=s.done.length∧∀j,(s.run j false).phase≠1
 e5:s.status=5→∃i,turn s=some i∧(s.run i true).phase=4
theorem Inv.lt{d:Def}{s:S}(h:Inv d s){i:Nat}(hi:i∈s.done):i<d.steps.length:=h.rng i false (by rw[(h.dn i).1 hi];decide)
theorem Inv.all{d:Def}{s:S}(h:Inv d s)(hl:s.done.length=d.steps.length){i:Nat}(hi:i<d.steps.length):(s.run i false).phase=3:=(h.dn i).1 (Zr h.nodup (fun x hx=>h.lt hx) hl hi)
theorem inv_new(d:Def):Inv d S.new where
 ok:=fun _ _=>P31.zero_ok
 rng:=fun i u hp=>absurd rfl hp
 nodup:=List.nodup_nil
 dn:=fun i=>by simp[S.new,Run.zero]
 und:=rfl
 len:=qJ _
 refs:=fun i hp=>by simp[S.new,Run.zero]at hp
 st:=by decide
 z:=fun _ i=>rfl
 fwd:=fun _=>⟨fun i=>rfl,rfl⟩
 halted:=fun hp=>by simp[S.new]at hp
 shut:=fun hp=>by simp[S.new]at hp
 tru:=fun i hp=>absurd rfl hp
 trn:=fun i hp=>by simp[S.new,Run.zero]at hp
 e3:=fun hp=>by simp[S.new]at hp
 e4:=fun hp=>by simp[S.new]at hp
 e5:=fun hp=>by simp[S.new]at hp
theorem Qa{d:Def}{x:S × List Order}(h:Inv d x.1){i:Nat}{r:Run}(hr:r.ok)(hi:i<d.steps.length)(h3:(x.1.run i false).phase≠3)(hp:r.phase=1∨r.phase=2∨r.phase=4)
  (hs:x.1.status=1∨(x.1.status=2∧r.phase=4)) (aE:r.phase=1∨r.phase=2→∀j∈R d i,j∈x.1.done):Inv d (put i false r x).1∧(put i false r x).1.done=x.1.done∧(put i false r x).1.undone=x.1.undone∧(put i false r x).1.status=x.1.status:=by
 have hd:(put i false r x).1.done=x.1.done:=by
  unfold put;simp only;rw[if_neg (by omega)]
 have aA:r.phase=1→(∀i,(x.1.run i true).phase=0)∧x.1.undone=[]:=fun e=>h.fwd (.inl (by omega));have I:(put i false r x).1.run i false=r:=setR_self _ _ _ _;have J:∀j b,¬(j=i∧b=false)→(put i false r x).1.run j b=x.1.run j b:=fun j b hj=>Ij hj;have aB:∀j,(put i false r x).1.run j true=x.1.run j true:=fun j=>J j true (by simp)
 have h1:∀j,(∀k,(x.1.run k false).phase≠1)→r.phase≠1→((put i false r x).1.run j false).phase≠1:=fun j hk aD=>by
  by_cases hj:j=i
  ·rw[hj,I];exact aD
  ·rw[J j false (by simp[hj])];exact hk j
 refine⟨⟨fun j u=>?_,fun j u hq=>?_,by rw[hd];exact h.nodup,fun j=>?_,by rw[hd];exact h.und,by rw[hd];exact h.len,fun j hq=>?_,h.st,fun Z=>?_,fun hf=>?_,fun hh j hj=>?_,fun hu j=>?_,fun k hk j=>?_,fun k hk=>?_,fun Z=>?_,fun Z=>?_,fun Z=>?_⟩,hd,rfl,rfl⟩
 ·by_cases hj:j=i∧u=false
  ·rw[hj.1,hj.2,I];exact hr
  ·rw[J j u hj];exact h.ok j u
 ·by_cases hj:j=i∧u=false
  ·rw[hj.1];exact hi
  ·rw[J j u hj]at hq;exact h.rng j u hq
 ·rw[hd,h.dn j];by_cases hj:j=i
  ·rw[hj,I];constructor<;>intro<;>omega
  ·rw[J j false (by simp[hj])]
 ·rw[hd];by_cases hj:j=i
  ·rw[hj,I]at hq;rw[hj];exact aE hq
  ·rw[J j false (by simp[hj])]at hq;exact h.refs j hq
 ·have Z:x.1.status=0:=Z;omega
 ·have hf:x.1.status≤1∨x.1.status=3:=hf;exact⟨fun j=>by rw[aB];exact(h.fwd hf).1 j,(h.fwd hf).2⟩
 ·have hh:2≤x.1.status:=hh;by_cases aC:j=i
  ·rw[aC,I];omega
  ·rw[J j false (by simp[aC])];exact h.halted hh j hj
 ·have hu:x.1.undone≠[]:=hu;exact h1 j (h.shut hu) (fun e=>hu (aA e).2)
 ·rw[aB]at hk;exact h1 j (h.tru k hk) (fun e=>hk ((aA e).1 k))
 ·rw[aB]at hk;have:=h.trn k hk;refine⟨?_,this.2⟩;unfold turn;rw[hd];exact this.1
 ·have Z:x.1.status=3:=Z;omega
 ·have Z:x.1.status=4:=Z;omega
 ·have Z:x.1.status=5:=Z;omega
theorem P9{d:Def}{x:S × List Order}(h:Inv d x.1){i:Nat}{r:Run}(hr:r.ok)(h1:(x.1.run i false).phase=1)(hp:r.phase=3)(hs:x.1.status=1∨x.1.status=2) :
  Inv d (put i false r x).1∧(put i false r x).1.done=x.1.done++[i]∧(put i false r x).1.undone=x.1.undone∧(put i false r x).1.status=x.1.status∧(put i false r x).2=x.2:=by
 have hd:(put i false r x).1.done=x.1.done++[i]:=by
  unfold put;simp only;rw[if_pos ⟨hp,by omega,by simp⟩]
 have ho:(put i false r x).2=x.2:=by
  unfold put;simp only;rw[if_neg (by omega)]
 have hi:i<d.steps.length:=h.rng i false (by omega)
 have aE:x.1.undone=[]:=by
  by_cases hu:x.1.undone=[]
  ·exact hu
  ·exact absurd h1 (h.shut hu i)
 have aC:∀k,(x.1.run k true).phase=0:=fun k=>by
  by_cases hk:(x.1.run k true).phase=0
  ·exact hk
  ·exact absurd h1 (h.tru k hk i)
 have aG:i∉x.1.done:=fun hm=>by have:=(h.dn i).1 hm;omega
 have I:(put i false r x).1.run i false=r:=setR_self _ _ _ _;have J:∀j b,¬(j=i∧b=false)→(put i false r x).1.run j b=x.1.run j b:=fun j b hj=>Ij hj;have aB:∀j,(put i false r x).1.run j true=x.1.run j true:=fun j=>J j true (by simp);have aA:(put i false r x).1.undone=[]:=aE;refine⟨⟨fun j u=>?_,fun j u hq=>?_,?_,fun j=>?_,by rw[aA];rfl,by rw[aA];exact Nat.zero_le _,fun j hq k hk=>?_,h.st,fun Z=>?_,fun hf=>?_,fun hh j hj=>?_,fun hu j=>absurd aA hu,fun k hk j=>?_,fun k hk=>?_,fun Z=>?_,fun Z=>?_,fun Z=>?_⟩,hd,rfl,rfl,ho⟩
 ·by_cases hj:j=i∧u=false
  ·rw[hj.1,hj.2,I];exact hr
  ·rw[J j u hj];exact h.ok j u
 ·by_cases hj:j=i∧u=false
  ·rw[hj.1];exact hi
  ·rw[J j u hj]at hq;exact h.rng j u hq
 ·rw[hd,List.nodup_append];exact⟨h.nodup,by simp,fun a ha b hb e=>by simp at hb;subst hb;subst e;exact aG ha⟩
 ·rw[hd,zG,zX,h.dn j];by_cases hj:j=i
  ·rw[hj,I];simp[hp]
  ·rw[J j false (by simp[hj])];simp[hj]
 ·rw[hd];by_cases hj:j=i
  ·rw[hj,I]at hq;omega
  ·rw[J j false (by simp[hj])]at hq;exact List.mem_append_left _ (h.refs j hq k hk)
 ·have Z:x.1.status=0:=Z;omega
 ·have hf:x.1.status≤1∨x.1.status=3:=hf;exact⟨fun j=>by rw[aB];exact aC j,aA⟩
 ·have hh:2≤x.1.status:=hh;by_cases aD:j=i
  ·rw[aD,I];omega
  ·rw[J j false (by simp[aD])];exact h.halted hh j hj
 ·rw[aB,aC k]at hk;exact absurd rfl hk
 ·rw[aB,aC k]at hk;omega
 ·have Z:x.1.status=3:=Z;omega
 ·have Z:x.1.status=4:=Z;omega
 ·have Z:x.1.status=5:=Z;omega
theorem Ia{d:Def}{x:S × List Order}(h:Inv d x.1){i:Nat}{r:Run}(hr:r.ok)(ht:turn x.1=some i)(hu:(P33.undoOf d i).isEmpty=false)(hj:∀j,(x.1.run j false).phase≠1)(hs:x.1.status=2) :
  Inv d (put i true r x).1∧(put i true r x).1.done=x.1.done∧(put i true r x).1.undone=x.1.undone∧(put i true r x).1.status=x.1.status:=by
 have hd:(put i true r x).1.done=x.1.done:=by
  unfold put;simp only;rw[if_neg (by simp)]
 have hi:i<d.steps.length:=by
  have:=qN ht;exact h.lt (by simpa using this)
 have aA:(put i true r x).1.run i true=r:=setR_self _ _ _ _;have Z:∀j b,¬(j=i∧b=true)→(put i true r x).1.run j b=x.1.run j b:=fun j b hj=>Ij hj;have I:∀j,(put i true r x).1.run j false=x.1.run j false:=fun j=>Z j false (by simp);have aC:turn (put i true r x).1=turn x.1:=by unfold turn;rw[hd];rfl
 refine⟨⟨fun j u=>?_,fun j u hq=>?_,by rw[hd];exact h.nodup,fun j=>by rw[hd,I];exact h.dn j,by rw[hd];exact h.und,by rw[hd];exact h.len,fun j hq=>by rw[I]at hq;rw[hd];exact h.refs j hq,h.st,fun J=>?_,fun hf=>?_,fun hh j hj=>by rw[I];exact h.halted hh j hj,fun _ j=>by rw[I];exact hj j,fun k hk j=>by rw[I];exact hj j,fun k hk=>?_,fun J=>?_,fun J=>?_,fun J=>?_⟩,hd,rfl,rfl⟩
 ·by_cases hj:j=i∧u=true
  ·rw[hj.1,hj.2,aA];exact hr
  ·rw[Z j u hj];exact h.ok j u
 ·by_cases hj:j=i∧u=true
  ·rw[hj.1];exact hi
  ·rw[Z j u hj]at hq;exact h.rng j u hq
 ·have J:x.1.status=0:=J;omega
 ·have hf:x.1.status≤1∨x.1.status=3:=hf;omega
 ·rw[aC];by_cases aB:k=i
  ·rw[aB];exact⟨ht,hu⟩
  ·rw[Z k true (by simp[aB])]at hk;exact h.trn k hk
 ·have J:x.1.status=3:=J;omega
 ·have J:x.1.status=4:=J;omega
 ·have J:x.1.status=5:=J;omega
theorem Hm(r:Run):((P31.stop r).phase=3↔r.phase=3)∧((P31.stop r).phase=1↔r.phase=1)∧(P31.stop r).phase≠0∧(P31.stop r).phase≠2∧((P31.stop r).phase=1→(P31.stop r).last=true):=by
 unfold P31.stop;split
 ·rename_i h
  exact⟨by simp;omega,by simp;omega,by simp,by simp,by simp⟩
 ·rename_i h
  split
  ·rename_i h1
   exact⟨by simp;omega,by simp;omega,by simp,by simp,by simp⟩
  ·rename_i h1
   exact⟨Iff.rfl,Iff.rfl,by omega,by omega,fun e=>absurd e h1⟩
theorem inv_halt{d:Def}{s:S}(h:Inv d s)(hs:s.status=1):Inv d (halt d s):=by
 obtain⟨aD,aE⟩:=h.fwd (.inl (by omega));have Z:∀j,(halt d s).run j true=s.run j true:=fun j=>by simp[halt]
 have aA:∀j,j<d.steps.length→(halt d s).run j false=P31.stop (s.run j false):=fun j hj=>by simp[halt,hj]
 have aB:∀j,¬j<d.steps.length→(halt d s).run j false=s.run j false:=fun j hj=>by simp[halt,hj]
 have h0:∀j,¬j<d.steps.length→(s.run j false).phase=0:=fun j hj=>by
  by_cases hp:(s.run j false).phase=0
  ·exact hp
  ·exact absurd (h.rng j false hp) hj
 have aC:(halt d s).undone=[]:=aE;refine⟨fun j u=>?_,fun j u hq=>?_,h.nodup,fun j=>?_,by rw[aC];rfl,by rw[aC];exact Nat.zero_le _,fun j hq=>?_,by show 2≤5;decide,fun J=>(by have J:(2:Nat)=0:=J;omega),fun hf=>(by have hf:(2:Nat)≤1∨(2:Nat)=3:=hf;omega),fun _ j hj=>?_,fun hu=>absurd aC hu,fun k hk=>?_,fun k hk=>?_,fun J=>(by have J:(2:Nat)=3:=J;omega),fun J=>(by have J:(2:Nat)=4:=J;omega),fun J=>(by have J:(2:Nat)=5:=J;omega)⟩
 ·cases u with
  |true=>rw[Z];exact h.ok j true
  |false=>
   by_cases hj:j<d.steps.length
   ·rw[aA j hj];exact P31.stop_ok (h.ok j false)
   ·rw[aB j hj];exact h.ok j false
 ·cases u with
  |true=>rw[Z]at hq;exact h.rng j true hq
  |false=>
   by_cases hj:j<d.steps.length
   ·exact hj
   ·rw[aB j hj]at hq;exact h.rng j false hq
 ·show j∈s.done↔_;rw[h.dn j];by_cases hj:j<d.steps.length
  ·rw[aA j hj];exact(Hm _).1.symm
  ·rw[aB j hj]
 ·show ∀k∈R d j,k∈s.done;by_cases hj:j<d.steps.length
  ·rw[aA j hj]at hq;have I:=Hm (s.run j false);exact h.refs j (by rcases hq with hq|hq;exact .inl (I.2.1.1 hq);exact absurd hq I.2.2.2.1)
  ·rw[aB j hj]at hq;exact h.refs j hq
 ·rw[aA j hj];have I:=Hm (s.run j false);exact⟨I.2.2.1,I.2.2.2.1,I.2.2.2.2⟩
 ·rw[Z,aD k]at hk;exact absurd rfl hk
 ·rw[Z,aD k]at hk;omega
def Xe(d:Def)(x:S × List Order):Prop:=∀o∈x.2,o.step<d.steps.length∧1≤o.att ∧
 (o.undo=false→(∀j∈R d o.step,j∈x.1.done)∧o.step∉x.1.done)∧(o.undo=true→turn x.1=some o.step∧(P33.undoOf d o.step).isEmpty=false∧(x.1.run o.step true).phase=1)
theorem Kf{d:Def}{i:Nat}{u:Bool}{r:Run}{x:S × List Order}(h:Xe d x)(hi:Inv d (put i u r x).1)(hd:(put i u r x).1.done=x.1.done)(hu:(put i u r x).1.undone=x.1.undone)
  (aB:∀o∈x.2,¬(u=true∧o.undo=true∧o.step=i)):Xe d (put i u r x):=by
 have aA:turn (put i u r x).1=turn x.1:=by unfold turn;rw[hd,hu]
 intro o ho
 have J:o∈x.2∨(r.phase=1∧o=⟨i,r.att,u,r.til⟩):=by
  unfold put at ho;simp only at ho;split at ho
  ·rename_i hc
   rcases zG.1 ho with ho|ho
   ·exact .inl ho
   ·exact .inr ⟨hc.1,by simpa using ho⟩
  ·exact .inl ho
 rcases J with ho|⟨hp,rfl⟩
 ·obtain⟨h1,h2,h3,h4⟩:=h o ho;refine⟨h1,h2,by rw[hd];exact h3,fun Z=>?_⟩;obtain⟨q1,q2,q3⟩:=h4 Z;refine⟨by rw[aA];exact q1,q2,?_⟩;have hn:=aB o ho;have e:(put i u r x).1.run o.step true=x.1.run o.step true:=Ij (fun hc=>hn ⟨hc.2.symm,Z,hc.1⟩);rw[e];exact q3
 ·have I:(put i u r x).1.run i u=r:=setR_self _ _ _ _;refine⟨hi.rng i u (by rw[I];omega),?_,fun hf=>?_,fun ht=>?_⟩
  ·have:=(hi.ok i u).p1;rw[I]at this;exact this (.inl hp)
  ·have hf:u=false:=hf;subst hf;refine⟨fun j hj=>by have:=hi.refs i (by rw[I];exact .inl hp) j hj;exact this,fun hm=>?_⟩;have:=(hi.dn i).1 hm;rw[I]at this;omega
  ·have ht:u=true:=ht;subst ht;have:=hi.trn i (by rw[I];exact .inl hp);exact⟨this.1,this.2,by rw[I];exact hp⟩
structure Good (d:Def) (x:S × List Order):Prop where
 inv:Inv d x.1
 out:Xe d x
theorem anyP_false{d:Def}{s:S}(h:Inv d s){p:Nat}(hp:p≠0)(hf:anyP d s p=false)(j:Nat):(s.run j false).phase≠p:=by
 intro e;have hj:=h.rng j false (by omega);unfold anyP at hf;rw[List.any_eq_false]at hf;have:=hf j (List.mem_range.2 hj);simp[e]at this
theorem We{d:Def}{s:S}{i:Nat}(h:Inv d s):ready d s i=true↔(s.run i false).phase=0∧∀j∈R d i,j∈s.done:=by
 unfold ready;simp only[Bool.and_eq_true,beq_iff_eq,List.all_eq_true];constructor
 ·rintro⟨a,b⟩;exact⟨a,fun j hj=>(h.dn j).2 (b j hj)⟩
 ·rintro⟨a,b⟩;exact⟨a,fun j hj=>(h.dn j).1 (b j hj)⟩
theorem good_go1{d:Def}{n:Int}{x:S × List Order}{i:Nat}(h:Good d x)(hs:x.1.status=1)(hi:i<d.steps.length):Good d (go1 d n x i)∧(go1 d n x i).1.status=1∧(go1 d n x i).1.done=x.1.done:=by
 unfold go1;by_cases hr:ready d x.1 i=true
 ·rw[if_pos hr];obtain⟨r1,r2⟩:=(We h.inv).1 hr;obtain⟨I,J,Z,q4⟩:=Qa (x:=x) h.inv (P31.begin_ok (stepAt d i) n) hi (by omega) (.inl rfl) (.inl hs) (fun _=>r2);exact⟨⟨I,Kf h.out I J Z (fun o ho hc=>by simp at hc)⟩,by rw[q4];exact hs,J⟩
 ·rw[if_neg hr];exact⟨h,hs,rfl⟩
theorem Qb{d:Def}{s:S}(h:Inv d s)(hs:s.status=1)(hl:s.done.length=d.steps.length):Inv d ⟨s.run,s.done,s.undone,3⟩:=by
 obtain⟨Z,J⟩:=h.fwd (.inl (by omega));exact⟨h.ok,h.rng,h.nodup,h.dn,h.und,h.len,h.refs,by show 3≤5;decide,fun I=>(by have I:(3:Nat)=0:=I;omega),fun _=>⟨Z,J⟩,fun _ j hj=>by have h3:(s.run j false).phase=3:=h.all hl hj;exact⟨by show (s.run j false).phase≠0;omega,by show (s.run j false).phase≠2;omega,fun e=>by have e:(s.run j false).phase=1:=e;omega⟩,h.shut,h.tru,h.trn,fun _=>hl,fun I=>(by have I:(3:Nat)=4:=I;omega),fun I=>(by have I:(3:Nat)=5:=I;omega)⟩
theorem good_forth{d:Def}{n:Int}{x:S × List Order}(h:Good d x)(hs:x.1.status=1):Good d (forth d n x)∧(forth d n x).1.done=x.1.done:=by
 unfold forth;split
 ·refine⟨⟨inv_halt h.inv hs,fun o ho=>?_⟩,rfl⟩;obtain⟨J,I,Z,q4⟩:=h.out o ho;refine⟨J,I,Z,fun hu=>?_⟩;have:=(h.inv.fwd (.inl (by omega))).1 o.step;have:=(q4 hu).2.2;omega
 ·split
  ·rename_i hl
   exact⟨⟨Qb h.inv hs hl,h.out⟩,rfl⟩
  ·have:=Cd (go1 d n) (fun k y=>Good d y∧y.1.status=1∧y.1.done=x.1.done) d.steps.length x ⟨h,hs,rfl⟩ (fun k y hk hy=>by
    obtain⟨a,b,c⟩:=good_go1 (n:=n) hy.1 hy.2.1 hk
    exact⟨a,b,c.trans hy.2.2⟩)
   exact⟨this.1,this.2.2⟩
theorem turn_more{s:S}{i:Nat}(h:turn s=some i):s.undone.length<s.done.length:=by
 have:=(qI.1 h).1;simpa using this
theorem und_more{s:S}{i:Nat}(hu:s.undone=s.done.reverse.take s.undone.length)(h:turn s=some i):s.undone++[i]=s.done.reverse.take (s.undone++[i]).length:=by
 rw[qH,qS,List.take_add_one,←hu];unfold turn at h;rw[h];rfl
theorem good_backGo{d:Def}{n:Int}:∀(f:Nat) (x:S × List Order),Good d x→x.1.status=2→(∀j,(x.1.run j false).phase≠1)→Good d (backGo d n f x)∧(backGo d n f x).1.done=x.1.done
 |0,x,h,_,_=>⟨h,rfl⟩
 |f+1,x,h,hs,hj=>by
  unfold backGo;have hi:=h.inv;cases ht:turn x.1 with
  |none=>
   have hl:x.1.undone.length=x.1.done.length:=by
    have h1:x.1.done.reverse.length≤x.1.undone.length:=List.getElem?_eq_none_iff.1 ht;have:=hi.len;simp at h1;omega
   refine⟨⟨⟨hi.ok,hi.rng,hi.nodup,hi.dn,hi.und,hi.len,hi.refs,by show 4≤5;decide,fun I=>(by have I:(4:Nat)=0:=I;omega),fun hf=>(by have hf:(4:Nat)≤1∨(4:Nat)=3:=hf;omega),fun _=>hi.halted (by omega),hi.shut,hi.tru,hi.trn,fun I=>(by have I:(4:Nat)=3:=I;omega),fun _=>⟨hl,hj⟩,fun I=>(by have I:(4:Nat)=5:=I;omega)⟩,h.out⟩,rfl⟩
  |some i=>
   simp only;have aB:=turn_more ht;by_cases hc:(P33.undoOf d i).isEmpty=true∨(x.1.run i true).phase=3
   ·rw[if_pos hc]
    have hg:Good d (⟨x.1.run,x.1.done,x.1.undone++[i],x.1.status⟩,x.2):=by
     have aA:∀k,¬((x.1.run k true).phase=1∨(x.1.run k true).phase=2∨(x.1.run k true).phase=4):=fun k hk=>by
      obtain⟨Z,J⟩:=hi.trn k hk;rw[ht]at Z;cases Z;rcases hc with hc|hc
      ·rw[hc]at J;cases J
      ·omega
     refine⟨⟨hi.ok,hi.rng,hi.nodup,hi.dn,und_more hi.und ht,by simp only[qH,qS];omega,hi.refs,hi.st,fun I=>(by have I:x.1.status=0:=I;omega),fun hf=>(by have hf:x.1.status≤1∨x.1.status=3:=hf;omega),hi.halted,fun _=>hj,hi.tru,fun k hk=>absurd hk (aA k),fun I=>(by have I:x.1.status=3:=I;omega),fun I=>(by have I:x.1.status=4:=I;omega),fun I=>(by have I:x.1.status=5:=I;omega)⟩,fun o ho=>?_⟩;obtain⟨Z,J,q3,q4⟩:=h.out o ho;exact⟨Z,J,q3,fun hu=>absurd (.inl (q4 hu).2.2) (aA o.step)⟩
    exact good_backGo f _ hg hs hj
   ·rw[if_neg hc];simp only[not_or,Bool.not_eq_true]at hc;by_cases h4:(x.1.run i true).phase=4
    ·rw[if_pos h4];exact⟨⟨⟨hi.ok,hi.rng,hi.nodup,hi.dn,hi.und,hi.len,hi.refs,by show 5≤5;decide,fun I=>(by have I:(5:Nat)=0:=I;omega),fun hf=>(by have hf:(5:Nat)≤1∨(5:Nat)=3:=hf;omega),fun _=>hi.halted (by omega),hi.shut,hi.tru,hi.trn,fun I=>(by have I:(5:Nat)=3:=I;omega),fun I=>(by have I:(5:Nat)=4:=I;omega),fun _=>⟨i,ht,h4⟩⟩,h.out⟩,rfl⟩
    ·rw[if_neg h4];by_cases h0:(x.1.run i true).phase=0
     ·rw[if_pos h0];obtain⟨Z,J,q3,q4⟩:=Ia (x:=x) hi (P31.begin_ok (stepAt d i) n) ht hc.1 hj hs;refine⟨⟨Z,Kf h.out Z J q3 (fun o ho hc=>?_)⟩,J⟩;have:=((h.out o ho).2.2.2 hc.2.1).2.2;rw[hc.2.2]at this;omega
     ·rw[if_neg h0];exact⟨h,rfl⟩
theorem Vm{d:Def}{n:Int}{x:S × List Order}(h:Good d x)(hs:x.1.status=2):Good d (back d n x)∧(back d n x).1.done=x.1.done:=by
 unfold back;split
 ·exact⟨h,rfl⟩
 ·rename_i ha
  exact good_backGo _ x h hs (fun j=>anyP_false h.inv (by decide) (by simpa using ha) j)
theorem Gn{d:Def}{n:Int}{x:S × List Order}(h:Good d x):Good d (on d n x)∧(on d n x).1.done=x.1.done:=by
 have h1:Good d (on1 d n x)∧(on1 d n x).1.done=x.1.done:=by
  unfold on1;split
  ·rename_i hs;exact good_forth h hs
  ·exact⟨h,rfl⟩
 unfold on on2;split
 ·rename_i hs
  obtain⟨a,b⟩:=Vm (n:=n) h1.1 hs;exact⟨a,b.trans h1.2⟩
 ·exact h1
theorem good_nil{d:Def}{s:S}(h:Inv d s):Good d (s,[]):=⟨h,fun o ho=>by simp at ho⟩
theorem Gp{d:Def}{x:S × List Order}{i:Nat}{u:Bool}{r:Run}(h:Good d x)(hm:x.1.status=1∨x.1.status=2)(hr:r.ok)(aA:(x.1.run i u).phase=1∨(x.1.run i u).phase=2)
  (hp:r.phase=1∨r.phase=2∨r.phase=4) (hl:u=false→x.1.status=2→r.phase=4) (J:∀o∈x.2,¬(u=true∧o.undo=true∧o.step=i)) :
  Good d (put i u r x)∧(put i u r x).1.done=x.1.done∧(put i u r x).1.undone=x.1.undone∧(put i u r x).1.status=x.1.status:=by
 cases u with
 |false=>
  obtain⟨Z,I,q3,q4⟩:=Qa (x:=x) h.inv hr (h.inv.rng i false (by omega)) (by omega) hp (by rcases hm with hm|hm;exact .inl hm;exact .inr ⟨hm,hl rfl hm⟩) (fun _=>h.inv.refs i aA);exact⟨⟨Z,Kf h.out Z I q3 J⟩,I,q3,q4⟩
 |true=>
  obtain⟨t1,t2⟩:=h.inv.trn i (by omega)
  have hs:x.1.status=2:=by
   rcases hm with hm|hm
   ·have:=(h.inv.fwd (.inl (by omega))).1 i;omega
   ·exact hm
  obtain⟨Z,I,q3,q4⟩:=Ia (x:=x) h.inv hr t1 t2 (h.inv.tru i (by omega)) hs;exact⟨⟨Z,Kf h.out Z I q3 J⟩,I,q3,q4⟩
theorem Ok(s:Step)(n:Int)(r:Run):(P31.fail s n r).phase=1∨(P31.fail s n r).phase=2∨(P31.fail s n r).phase=4:=by
 rcases P31.fail_phase s n r with h|⟨_,h|h⟩
 ·exact .inr (.inr h)
 ·exact .inl h
 ·exact .inr (.inl h)
theorem I1{s:Step}{n:Int}{r:Run}(h:r.last=true):(P31.fail s n r).phase=4:=by
 rcases P31.fail_phase s n r with h1|⟨h1,_⟩
 ·exact h1
 ·rw[h]at h1;cases h1
theorem moving_iff{s:S}:moving s=true↔s.status=1∨s.status=2:=by simp[moving]
theorem He{d:Def}{n:Int}{u:Bool}{x:S × List Order}{i:Nat}(h:Good d x)(hm:x.1.status=1∨x.1.status=2)(hi:i<d.steps.length)(aA:∀o∈x.2,¬(u=true∧o.undo=true∧o.step=i)) :
  Good d (tick1 d n u x i)∧(tick1 d n u x i).1.done=x.1.done∧(tick1 d n u x i).1.status=x.1.status∧(∀o∈(tick1 d n u x i).2,o∈x.2∨(o.undo=u∧o.step=i)):=by
 unfold tick1;split
 ·rename_i ht
  have J:=h.inv.ok i u
  have Z:((x.1.run i u).phase=1∧(P31.tick (stepAt d i) n (x.1.run i u)).1=P31.fail (stepAt d i) n (x.1.run i u))∨((x.1.run i u).phase=2∧(P31.tick (stepAt d i) n (x.1.run i u)).1=P31.next (stepAt d i) n (x.1.run i u)):=by
   unfold P31.tick at ht ⊢;split at ht
   ·cases ht
   ·rename_i hl
    rw[if_neg hl];split at ht
    ·rename_i h1;rw[if_pos h1];exact .inl ⟨h1,rfl⟩
    ·rename_i h1
     rw[if_neg h1];split at ht
     ·rename_i h2;rw[if_pos h2];exact .inr ⟨h2,rfl⟩
     ·cases ht
  have I:∀r,∀o∈(put i u r x).2,o∈x.2∨(o.undo=u∧o.step=i):=fun r o ho=>by
   unfold put at ho;simp only at ho;split at ho
   ·rcases zG.1 ho with ho|ho
    ·exact .inl ho
    ·simp at ho;subst ho;exact .inr ⟨rfl,rfl⟩
   ·exact .inl ho
  rcases Z with⟨h1,e⟩|⟨h2,e⟩
  ·rw[e];obtain⟨a,b,c,g⟩:=Gp h hm (P31.fail_ok J _ n) (.inl h1) (Ok _ _ _) (fun hu hs=>by subst hu;exact I1 ((h.inv.halted (by omega) i hi).2.2 h1)) aA;exact⟨a,b,g,I _⟩
  ·rw[e];obtain⟨a,b,c,g⟩:=Gp h hm (P31.next_ok J _ n (J.p2 h2)) (.inr h2) (.inl rfl) (fun hu hs=>by subst hu;exact absurd h2 (h.inv.halted (by omega) i hi).2.1) aA;exact⟨a,b,g,I _⟩
 ·exact⟨h,rfl,rfl,fun o ho=>.inl ho⟩
theorem good_tick{d:Def}{n:Int}{s:S}(h:Inv d s):Good d (tick d n s)∧(tick d n s).1.done=s.done:=by
 unfold tick;split
 ·exact⟨good_nil h,rfl⟩
 ·rename_i hm
  have hm:s.status=1∨s.status=2:=moving_iff.1 (by simpa using hm)
  have h1:=Cd (tick1 d n false) (fun k y=>Good d y∧(y.1.done=s.done∧y.1.status=s.status)∧∀o∈y.2,o.undo=false) d.steps.length (s,[]) ⟨good_nil h,⟨rfl,rfl⟩,fun o ho=>by simp at ho⟩ (fun k y hk hy=>by
   obtain⟨a,b,c,e⟩:=He (n:=n) (u:=false) hy.1 (by rw[hy.2.1.2];exact hm) hk (fun o ho hc=>by simp at hc)
   exact⟨a,⟨b.trans hy.2.1.1,c.trans hy.2.1.2⟩,fun o ho=>by rcases e o ho with q|q;exact hy.2.2 o q;exact q.1⟩)
  obtain⟨y,hy⟩:=qeX ((List.range d.steps.length).foldl (tick1 d n false) (s,[]));rw[hy]at h1 ⊢
  have h2:=Cd (tick1 d n true) (fun k z=>Good d z∧(z.1.done=s.done∧z.1.status=s.status)∧∀o∈z.2,o.undo=true→o.step<k) d.steps.length y ⟨h1.1,h1.2.1,fun o ho hu=>by rw[h1.2.2 o ho]at hu;cases hu⟩ (fun k z hk I=>by
   obtain⟨a,b,c,e⟩:=He (n:=n) (u:=true) I.1 (by rw[I.2.1.2];exact hm) hk (fun o ho hc=>by have:=I.2.2 o ho hc.2.1;omega)
   exact⟨a,⟨b.trans I.2.1.1,c.trans I.2.1.2⟩,fun o ho hu=>by rcases e o ho with q|q;(have:=I.2.2 o q hu;omega);omega⟩)
  obtain⟨a,b⟩:=Gn (n:=n) h2.1;exact⟨a,b.trans h2.2.1.1⟩
theorem good_start{d:Def}{n:Int}{s:S}(h:Inv d s):Good d (start d n s)∧(start d n s).1.done=s.done:=by
 unfold start;split
 ·exact⟨good_nil h,rfl⟩
 ·rename_i hs
  have hs:s.status=0:=by omega
  have I:=h.z hs;obtain⟨f1,f2⟩:=h.fwd (.inl (by omega));have hi:Inv d ⟨s.run,s.done,s.undone,1⟩:=⟨h.ok,h.rng,h.nodup,h.dn,h.und,h.len,h.refs,by show 1≤5;decide,fun I=>(by have I:(1:Nat)=0:=I;omega),fun _=>⟨f1,f2⟩,fun J=>(by have J:2≤1:=J;omega),h.shut,h.tru,h.trn,fun I=>(by have I:(1:Nat)=3:=I;omega),fun I=>(by have I:(1:Nat)=4:=I;omega),fun I=>(by have I:(1:Nat)=5:=I;omega)⟩;exact Gn (good_nil hi)
theorem good_cancel{d:Def}{n:Int}{s:S}(h:Inv d s):Good d (cancel d n s).1∧(cancel d n s).1.1.done=s.done:=by
 unfold cancel;split
 ·exact⟨good_nil h,rfl⟩
 ·rename_i hs
  exact Gn (good_nil (inv_halt h (by omega)))
theorem good_answer{d:Def}{n:Int}{a:P33.Ans}{s:S}(h:Inv d s):Good d (answer d n a s).1∧(∀i∈s.done,i∈(answer d n a s).1.1.done):=by
 unfold answer;split
 ·exact⟨good_nil h,fun i hi=>hi⟩
 ·rename_i hm
  simp only[not_or,Bool.not_eq_false]at hm;have hm1:=moving_iff.1 hm.1;split
  ·exact⟨good_nil h,fun i hi=>hi⟩
  ·rename_i ht
   simp only;have I:=h.ok a.step.toNat a.undo
   have h1:(s.run a.step.toNat a.undo).phase=1:=by
    by_cases h1:(s.run a.step.toNat a.undo).phase=1
    ·exact h1
    ·exact absurd (by unfold P31.answer;rw[if_pos (.inl h1)]) ht
   have Z:(P31.answer (stepAt d a.step.toNat) n (s.run a.step.toNat a.undo) a.attempt a.outcome).1=P31.end_ (s.run a.step.toNat a.undo) 3∨(P31.answer (stepAt d a.step.toNat) n (s.run a.step.toNat a.undo) a.attempt a.outcome).1=P31.end_ (s.run a.step.toNat a.undo) 4∨(P31.answer (stepAt d a.step.toNat) n (s.run a.step.toNat a.undo) a.attempt a.outcome).1=P31.fail (stepAt d a.step.toNat) n (s.run a.step.toNat a.undo):=by
    unfold P31.answer at ht ⊢;split
    ·rename_i hc;rw[if_pos hc]at ht;simp at ht
    ·rename_i hc
     rw[if_neg hc]at ht;split
     ·exact .inl rfl
     ·split
      ·exact .inr (.inr rfl)
      ·split
       ·exact .inr (.inl rfl)
       ·rename_i a1 a2 a3;rw[if_neg a1,if_neg a2,if_neg a3]at ht;simp at ht
   have aA:a.step.toNat<d.steps.length:=h.rng _ a.undo (by omega)
   have J:∀r:Run,r.ok→(r.phase=1∨r.phase=2∨r.phase=4)→(a.undo=false→s.status=2→r.phase=4)→Good d (on d n (put a.step.toNat a.undo r (s,[])))∧∀i∈s.done,i∈(on d n (put a.step.toNat a.undo r (s,[]))).1.done:=fun r hr hp hl=>by
    obtain⟨q1,q2,q3,q4⟩:=Gp (good_nil h) hm1 hr (.inl h1) hp hl (fun o ho=>by simp at ho);obtain⟨q5,q6⟩:=Gn (n:=n) q1;exact⟨q5,fun i hi=>by rw[q6,q2];exact hi⟩
   rcases Z with e|e|e
   ·rw[e];cases hu:a.undo with
    |false=>
     rw[hu]at h1 I;obtain⟨q1,q2,q3,q4,q5⟩:=P9 (x:=(s,[])) h (P31.end_ok I (.inl rfl)) h1 rfl hm1;obtain⟨q6,q7⟩:=Gn (d:=d) (n:=n) (x:=put a.step.toNat false (P31.end_ (s.run a.step.toNat false) 3) (s,[])) ⟨q1,fun o ho=>by rw[q5]at ho;simp at ho⟩;exact⟨q6,fun i hi=>by rw[q7,q2];exact List.mem_append_left _ hi⟩
    |true=>
     rw[hu]at h1 I;obtain⟨t1,t2⟩:=h.trn _ (.inl h1)
     have hs:s.status=2:=by
      rcases hm1 with hm1|hm1
      ·have:=(h.fwd (.inl (by omega))).1 a.step.toNat;omega
      ·exact hm1
     obtain⟨q1,q2,q3,q4⟩:=Ia (x:=(s,[])) h (P31.end_ok I (.inl rfl)) t1 t2 (h.tru a.step.toNat (by omega)) hs
     have ho:(put a.step.toNat true (P31.end_ (s.run a.step.toNat true) 3) (s,[])).2=[]:=by
      unfold put P31.end_;simp
     obtain⟨q6,q7⟩:=Gn (d:=d) (n:=n) (x:=put a.step.toNat true (P31.end_ (s.run a.step.toNat true) 3) (s,[])) ⟨q1,fun o h9=>by rw[ho]at h9;simp at h9⟩;exact⟨q6,fun i hi=>by rw[q7,q2];exact hi⟩
   ·rw[e];exact J _ (P31.end_ok I (.inr rfl)) (.inr (.inr rfl)) (fun _ _=>rfl)
   ·rw[e];exact J _ (P31.fail_ok I _ n) (Ok _ _ _) (fun hu hs=>I1 (by rw[hu]at h1 ⊢;exact(h.halted (by omega) _ aA).2.2 h1))
structure Ask where
 kind:Nat
 a:P33.Ans
 now:Int
 pos:Nat
def pick(d:Def)(s:S)(a:Ask):P33.Ans:=
 if a.kind=4 then match (open_ d s)[a.pos % (open_ d s).length]? with
  |some o=>⟨(o.step:Int),o.att,o.undo,a.a.outcome⟩
  |none=>a.a
 else a.a
def give(d:Def)(s:S)(a:Ask):S × List Order:=
 if a.kind=0∨a.kind=4 then (answer d a.now (pick d s a) s).1 else if a.kind=1 then tick d a.now s else if a.kind=2 then (cancel d a.now s).1 else start d a.now s
theorem turn_get{s:S}{i:Nat}(h:turn s=some i):s.undone.length<s.done.length∧s.done[s.done.length-1-s.undone.length]?=some i:=by
 have hl:=turn_more h;unfold turn at h;rw[List.getElem?_reverse (by omega)]at h;exact⟨hl,h⟩
theorem inv_start{d:Def}{s:S}(h:Inv d s)(hs:s.status=0):Inv d ⟨s.run,s.done,s.undone,1⟩:=by
 obtain⟨f1,f2⟩:=h.fwd (.inl (by omega));exact⟨h.ok,h.rng,h.nodup,h.dn,h.und,h.len,h.refs,by show 1≤5;decide,fun I=>(by have I:(1:Nat)=0:=I;omega),fun _=>⟨f1,f2⟩,fun J=>(by have J:2≤1:=J;omega),h.shut,h.tru,h.trn,fun I=>(by have I:(1:Nat)=3:=I;omega),fun I=>(by have I:(1:Nat)=4:=I;omega),fun I=>(by have I:(1:Nat)=5:=I;omega)⟩
def waysL(N:Nat):List (Nat × Bool):=(List.range N).map (fun i=>(i,false))++(List.range N).map (fun i=>(i,true))
theorem waysL_len(N:Nat):(waysL N).length=2*N:=by simp[waysL];omega
theorem Ci(N k i:Nat)(hk:k<2)(hi:i<N):(waysL N)[k*N+i]?=some (i,decide (k=1)):=by
 unfold waysL;have h2:k=0∨k=1:=by omega
 rcases h2 with rfl|rfl
 ·rw[qZ (by simp;omega)];simp[hi]
 ·rw[zA (by simp)];simp[hi]
theorem Em{N j:Nat}{p:Nat × Bool}(h:(waysL N)[j]?=some p):p.1<N∧j=(if p.2=true then N else 0)+p.1:=by
 have hj:j<2*N:=by have:=(qI.1 h).1;rwa [waysL_len]at this
 rcases Nat.lt_or_ge j N with h1|h1
 ·have:=Ci N 0 j (by omega) h1;rw[Nat.zero_mul,Nat.zero_add,h]at this;cases this;exact⟨h1,by simp⟩
 ·have:=Ci N 1 (j-N) (by omega) (by omega);rw[Nat.one_mul,show N+(j-N)=j by omega,h]at this;cases this;exact⟨by show j-N<N;omega,by simp;omega⟩
def Qbl(d:Def)(n:Int)(x:S × List Order)(p:Nat × Bool):S × List Order:=tick1 d n p.2 x p.1
def tickX(d:Def)(n:Int)(s:S)(j:Nat):S × List Order:=((waysL d.steps.length).take j).foldl (Qbl d n) (s,[])
theorem C2{d:Def}{n:Int}{s:S}{j:Nat}{p:Nat × Bool}(h:(waysL d.steps.length)[j]?=some p):tickX d n s (j+1)=tick1 d n p.2 (tickX d n s j) p.1:=by
 unfold tickX;rw[List.take_add_one,h,List.foldl_append];rfl
theorem tickX_all{d:Def}{n:Int}{s:S}(hm:moving s=true):tick d n s=on d n (tickX d n s (waysL d.steps.length).length):=by
 unfold tick tickX;rw[if_neg (by rw[hm];simp),List.take_of_length_le (qJ _)];unfold waysL;rw[List.foldl_append,List.foldl_map,List.foldl_map];rfl
theorem put_len(i:Nat)(u:Bool)(r:Run)(x:S × List Order):(put i u r x).2.length≤x.2.length+1:=by
 unfold put;simp only;split
 ·simp
 ·omega
theorem tickX_good{d:Def}{n:Int}{s:S}(h:Inv d s)(hm:s.status=1∨s.status=2):∀j,j≤2*d.steps.length→Good d (tickX d n s j)∧(tickX d n s j).1.status=s.status∧(tickX d n s j).2.length≤j∧∀o∈(tickX d n s j).2,o.undo=true→o.step+d.steps.length<j
 |0,_=>⟨good_nil h,rfl,qJ _,fun o ho=>by simp[tickX]at ho⟩
 |j+1,hj=>by
  obtain⟨q1,J,q3,Z⟩:=tickX_good (n:=n) h hm j (by omega);obtain⟨⟨i,u⟩,hp⟩:∃p,(waysL d.steps.length)[j]?=some p:=⟨_,qO (by rw[waysL_len];omega)⟩;obtain⟨hi,I⟩:=Em hp;rw[C2 hp];simp only at hi I ⊢
  obtain⟨a,b,c,e⟩:=He (n:=n) (u:=u) q1 (by rw[J];exact hm) hi (fun o ho hc=>by
   have:=Z o ho hc.2.1;rw[if_pos hc.1]at I
   omega)
  refine⟨a,c.trans J,?_,fun o ho hu=>?_⟩
  ·unfold tick1;split
   ·exact qK (put_len _ _ _ _) (by omega)
   ·omega
  ·rcases e o ho with q|q
   ·have:=Z o q hu;omega
   ·rw[if_pos (q.1 ▸ hu)]at I;omega
theorem good_ans{d:Def}{n:Int}{a:P33.Ans}{s:S}(h:Inv d s)(hm:moving s=true)(ht:¬(P31.answer (stepAt d a.step.toNat) n (s.run a.step.toNat a.undo) a.attempt a.outcome).2=false) :
  Good d (put a.step.toNat a.undo (P31.answer (stepAt d a.step.toNat) n (s.run a.step.toNat a.undo) a.attempt a.outcome).1 (s,[])):=by
 have hm1:=moving_iff.1 hm;have I:=h.ok a.step.toNat a.undo
 have h1:(s.run a.step.toNat a.undo).phase=1:=by
  by_cases h1:(s.run a.step.toNat a.undo).phase=1
  ·exact h1
  ·exact absurd (by unfold P31.answer;rw[if_pos (.inl h1)]) ht
 have Z:(P31.answer (stepAt d a.step.toNat) n (s.run a.step.toNat a.undo) a.attempt a.outcome).1=P31.end_ (s.run a.step.toNat a.undo) 3∨(P31.answer (stepAt d a.step.toNat) n (s.run a.step.toNat a.undo) a.attempt a.outcome).1=P31.end_ (s.run a.step.toNat a.undo) 4∨(P31.answer (stepAt d a.step.toNat) n (s.run a.step.toNat a.undo) a.attempt a.outcome).1=P31.fail (stepAt d a.step.toNat) n (s.run a.step.toNat a.undo):=by
  unfold P31.answer at ht ⊢;split
  ·rename_i hc;rw[if_pos hc]at ht;simp at ht
  ·rename_i hc
   rw[if_neg hc]at ht;split
   ·exact .inl rfl
   ·split
    ·exact .inr (.inr rfl)
    ·split
     ·exact .inr (.inl rfl)
     ·rename_i a1 a2 a3;rw[if_neg a1,if_neg a2,if_neg a3]at ht;simp at ht
 have aA:a.step.toNat<d.steps.length:=h.rng _ a.undo (by omega)
 have J:∀r:Run,r.ok→(r.phase=1∨r.phase=2∨r.phase=4)→(a.undo=false→s.status=2→r.phase=4)→Good d (put a.step.toNat a.undo r (s,[])):=fun r hr hp hl=>
  (Gp (good_nil h) hm1 hr (.inl h1) hp hl (fun o ho=>by simp at ho)).1
 rcases Z with e|e|e
 ·rw[e];cases hu:a.undo with
  |false=>
   rw[hu]at h1 I;obtain⟨q1,q2,q3,q4,q5⟩:=P9 (x:=(s,[])) h (P31.end_ok I (.inl rfl)) h1 rfl hm1;exact⟨q1,fun o ho=>by rw[q5]at ho;simp at ho⟩
  |true=>
   rw[hu]at h1 I;obtain⟨t1,t2⟩:=h.trn _ (.inl h1)
   have hs:s.status=2:=by
    rcases hm1 with hm1|hm1
    ·have:=(h.fwd (.inl (by omega))).1 a.step.toNat;omega
    ·exact hm1
   obtain⟨q1,q2,q3,q4⟩:=Ia (x:=(s,[])) h (P31.end_ok I (.inl rfl)) t1 t2 (h.tru a.step.toNat (by omega)) hs
   have ho:(put a.step.toNat true (P31.end_ (s.run a.step.toNat true) 3) (s,[])).2=[]:=by
    unfold put P31.end_;simp
   exact⟨q1,fun o h9=>by rw[ho]at h9;simp at h9⟩
 ·rw[e];exact J _ (P31.end_ok I (.inr rfl)) (.inr (.inr rfl)) (fun _ _=>rfl)
 ·rw[e];exact J _ (P31.fail_ok I _ n) (Ok _ _ _) (fun hu hs=>I1 (by rw[hu]at h1 ⊢;exact(h.halted (by omega) _ aA).2.2 h1))
def lastU(un l:List Nat):Option Nat:=l.foldl (fun a i=>if i∈un then a else some i) none
def once2(d:Def)(n:Int)(x:S × List Order):Option Nat→Option (S × List Order)
 |none=>some (⟨x.1.run,x.1.done,x.1.undone,4⟩,x.2)
 |some i=>if (P33.undoOf d i).isEmpty=true∨(x.1.run i true).phase=3 then some (⟨x.1.run,x.1.done,x.1.undone++[i],x.1.status⟩,x.2)
  else if (x.1.run i true).phase=0 then some (put i true (P31.begin_ (stepAt d i) n) x)
  else if (x.1.run i true).phase=4 then some (⟨x.1.run,x.1.done,x.1.undone,5⟩,x.2) else none
def once(d:Def)(n:Int)(x:S × List Order):Option (S × List Order):=
 if x.1.status=1 then
  if anyP d x.1 4=true then some (halt d x.1,x.2)
  else if ((List.range d.steps.length).all fun i=>(x.1.run i false).phase==3)=true then some (⟨x.1.run,x.1.done,x.1.undone,3⟩,x.2)
  else ((List.range d.steps.length).find? (ready d x.1)).map fun i=>put i false (P31.begin_ (stepAt d i) n) x
 else if x.1.status=2 then
  if anyP d x.1 1=true then none else once2 d n x (lastU x.1.undone x.1.done)
 else none
def rgo(d:Def)(n:Int):Nat→S × List Order→S × List Order
 |0,x=>x
 |f+1,x=>match once d n x with
  |some y=>rgo d n f y
  |none=>x
theorem rgo_none{d:Def}{n:Int}{x:S × List Order}(h:once d n x=none):∀f,rgo d n f x=x
 |0=>rfl
 |f+1=>by rw[rgo,h]
theorem rgo_some{d:Def}{n:Int}{f:Nat}{x y:S × List Order}(h:once d n x=some y):rgo d n (f+1) x=rgo d n f y:=by rw[rgo,h]
theorem once_end{d:Def}{n:Int}{x:S × List Order}(h1:x.1.status≠1)(h2:x.1.status≠2):once d n x=none:=by unfold once;rw[if_neg h1,if_neg h2]
theorem all_len:∀(n:Nat) (l:List Nat),(∀i,i<n→i∈l)→n≤l.length
 |0,l,_=>Nat.zero_le _
 |n+1,l,h=>by
  have hm:=h n (by omega);have h1:=all_len n (l.erase n) (fun i hi=>(List.mem_erase_of_ne (by omega)).2 (h i (by omega)));rw[List.length_erase_of_mem hm]at h1;have:=List.length_pos_of_mem hm;omega
theorem Qae{d:Def}{s:S}(h:Inv d s):((List.range d.steps.length).all fun i=>(s.run i false).phase==3)=true↔s.done.length=d.steps.length:=by
 rw[List.all_eq_true];constructor
 ·intro ha;have h1:=len_le d.steps.length s.done h.nodup (fun i hi=>h.lt hi);have h2:=all_len d.steps.length s.done (fun i hi=>(h.dn i).2 (by simpa using ha i (List.mem_range.2 hi)));omega
 ·intro hl i hi;have:=h.all hl (List.mem_range.1 hi);simpa using this
theorem C7(s:Step)(n:Int):(P31.begin_ s n).phase=1:=rfl
theorem Ej{x:S × List Order}{k:Nat}{r:Run}(j:Nat):((put k false r x).1.run j false).phase=if j=k then r.phase else (x.1.run j false).phase:=by
 show (setR x.1.run k false r j false).phase=_;unfold setR;by_cases h:j=k
 ·rw[if_pos ⟨h,rfl⟩,if_pos h]
 ·rw[if_neg (fun e=>h e.1),if_neg h]
theorem Wf{d:Def}{x:S × List Order}{k:Nat}{r:Run}(hr:r.phase=1)(h0:(x.1.run k false).phase=0){j:Nat}(hj:j≠k):ready d (put k false r x).1 j=ready d x.1 j:=by
 unfold ready;rw[Ej,if_neg hj]
 congr 1
 congr 1
 funext i
 rw[Ej];by_cases h:i=k
 ·rw[if_pos h,hr,h,h0];rfl
 ·rw[if_neg h]
theorem Xr{d:Def}{x:S × List Order}{k:Nat}{r:Run}(hr:r.phase=1)(h0:(x.1.run k false).phase=0):anyP d (put k false r x).1 4=anyP d x.1 4:=by
 unfold anyP
 congr 1
 funext i
 rw[Ej];by_cases h:i=k
 ·rw[if_pos h,hr,h,h0];rfl
 ·rw[if_neg h]
theorem find_first{p:Nat→Bool}{N k:Nat}(hk:k<N)(hp:p k=true)(hlo:∀i,i<k→p i=false):(List.range N).find? p=some k:=by
 rw[List.find?_range_eq_some];exact⟨hp,List.mem_range.2 hk,fun j hj=>by rw[hlo j hj];rfl⟩
theorem Ll{d:Def}{n:Int}:∀(m k:Nat) (x:S × List Order) (f:Nat),k+m=d.steps.length→x.1.status=1→anyP d x.1 4=false→(∃j,j<d.steps.length∧(x.1.run j false).phase≠3)→(∀i,i<k→ready d x.1 i=false)→m≤f→rgo d n f x=(List.range' k m).foldl (go1 d n) x
 |0,k,x,f,hk,hs,h4,⟨j,hj,h3⟩,hlo,hf=>by
  refine rgo_none ?_ f;unfold once
  have ha:((List.range d.steps.length).all fun i=>(x.1.run i false).phase==3)=false:=by
   rw[Bool.eq_false_iff];intro e;exact h3 (by simpa using List.all_eq_true.1 e j (List.mem_range.2 hj))
  have hn:(List.range d.steps.length).find? (ready d x.1)=none:=by
   rw[List.find?_eq_none];intro i hi;rw[hlo i (by have:=List.mem_range.1 hi;omega)];simp
  rw[if_pos hs,h4,ha,hn];rfl
 |m+1,k,x,f,hk,hs,h4,⟨j,hj,h3⟩,hlo,hf=>by
  rw[List.range'_succ,List.foldl_cons];by_cases hr:ready d x.1 k=true
  ·have h0:(x.1.run k false).phase=0:=by
    unfold ready at hr;simp only[Bool.and_eq_true,beq_iff_eq]at hr;exact hr.1
   have hg:go1 d n x k=put k false (P31.begin_ (stepAt d k) n) x:=by unfold go1;rw[if_pos hr]
   have ho:once d n x=some (go1 d n x k):=by
    have ha:((List.range d.steps.length).all fun i=>(x.1.run i false).phase==3)=false:=by
     rw[Bool.eq_false_iff];intro e;exact h3 (by simpa using List.all_eq_true.1 e j (List.mem_range.2 hj))
    unfold once;rw[if_pos hs,h4,ha,find_first (by omega) hr hlo,hg];rfl
   obtain⟨f',rfl⟩:∃f',f=f'+1:=⟨f-1,by omega⟩;rw[rgo_some ho,hg];refine Ll m (k+1) _ f' (by omega) hs (by rw[Xr (C7 _ _) h0];exact h4) ⟨k,by omega,?_⟩ (fun i hi=>?_) (by omega)
   ·rw[Ej,if_pos rfl,C7];decide
   ·by_cases e:i=k
    ·unfold ready;rw[Ej,if_pos e,C7];rfl
    ·rw[Wf (C7 _ _) h0 e];exact hlo i (by omega)
  ·have hg:go1 d n x k=x:=by unfold go1;rw[if_neg hr]
   rw[hg];refine Ll m (k+1) x f (by omega) hs h4 ⟨j,hj,h3⟩ (fun i hi=>?_) (by omega);by_cases e:i=k
   ·rw[e];simpa using hr
   ·exact hlo i (by omega)
theorem Ib{un:List Nat}:∀(B A:List Nat),(∀i∈B,i∈un)→lastU un (A++B)=lastU un A
 | [],A,_=>by rw[List.append_nil]
 |b::B,A,h=>by
  rw[show A++b::B=(A++[b])++B by simp,Ib B (A++[b]) (fun i hi=>h i (by simp[hi]))];unfold lastU;rw[List.foldl_append,List.foldl_cons,List.foldl_nil,if_pos (h b (by simp))]
theorem lastU_turn{s:S}(hn:s.done.Nodup)(hu:s.undone=s.done.reverse.take s.undone.length):lastU s.undone s.done=turn s:=by
 obtain⟨m,hm⟩:=qeX s.undone.length;unfold turn;rw[hm]at hu ⊢
 have hd:s.done=(s.done.reverse.drop m).reverse++(s.done.reverse.take m).reverse:=by
  rw[←List.reverse_append,zI,List.reverse_reverse]
 have h1:lastU s.undone s.done=lastU s.undone (s.done.reverse.drop m).reverse:=by
  rw[congrArg (lastU s.undone) hd];exact Ib _ _ (fun i hi=>by rw[hu];exact List.mem_reverse.1 hi)
 rw[h1,←List.head?_drop];have I:s.done.reverse.Nodup:=(List.reverse_perm s.done).nodup_iff.2 hn;rw[←zI m s.done.reverse]at I;have J:=(List.nodup_append.1 I).2.2;cases hr:s.done.reverse.drop m with
 |nil=>rfl
 |cons x r=>
  rw[List.reverse_cons];unfold lastU;rw[List.foldl_append,List.foldl_cons,List.foldl_nil,if_neg]
  ·rfl
  ·intro hx;rw[hu]at hx;exact J x hx x (by rw[hr];simp) rfl
theorem Qv{d:Def}{n:Int}:∀(g:Nat) (x:S × List Order) (f:Nat),x.1.status=2→anyP d x.1 1=false→x.1.done.Nodup→x.1.undone=x.1.done.reverse.take x.1.undone.length→x.1.undone.length+g=x.1.done.length→g+1≤f→rgo d n f x=backGo d n (g+1) x
 |g,x,f,hs,h1,hn,hu,hg,hf=>by
  obtain⟨f',rfl⟩:∃f',f=f'+1:=⟨f-1,by omega⟩
  have ho:once d n x=once2 d n x (turn x.1):=by
   unfold once;rw[if_neg (by omega),if_pos hs,h1,lastU_turn hn hu];rfl
  cases ht:turn x.1 with
  |none=>
   rw[ht]at ho;rw[rgo_some ho,rgo_none (once_end (by show (4:Nat)≠1;decide) (by show (4:Nat)≠2;decide)),backGo,ht]
  |some i=>
   rw[ht]at ho;rw[backGo,ht];simp only[once2]at ho;show _=if _ then _ else _;by_cases hc:(P33.undoOf d i).isEmpty=true∨(x.1.run i true).phase=3
   ·rw[if_pos hc]at ho ⊢;rw[rgo_some ho];cases g with
    |zero=>
     have:=turn_more ht;omega
    |succ g'=>exact Qv g' _ f' hs h1 hn (und_more hu ht) (by simp only[qH,qS];omega) (by omega)
   ·rw[if_neg hc]at ho ⊢;by_cases h0:(x.1.run i true).phase=0
    ·rw[if_pos h0]at ho;rw[if_neg (by omega),if_pos h0,rgo_some ho];refine rgo_none ?_ _
     have I:(put i true (P31.begin_ (stepAt d i) n) x).1.done=x.1.done:=by
      unfold put;simp[C7]
     have J:(put i true (P31.begin_ (stepAt d i) n) x).1.undone=x.1.undone:=rfl;have Z:(put i true (P31.begin_ (stepAt d i) n) x).1.status=2:=hs
     have aB:((put i true (P31.begin_ (stepAt d i) n) x).1.run i true).phase=1:=by
      show (setR _ _ _ _ _ _).phase=1;rw[setR_self];rfl
     have aA:anyP d (put i true (P31.begin_ (stepAt d i) n) x).1 1=false:=by
      rw[←h1];unfold anyP
      congr 1
      funext j
      show ((setR x.1.run i true _ j false).phase==1)=_;rw[Ij (by simp)]
     unfold once;rw[if_neg (by omega),if_pos Z,aA,I,J,lastU_turn hn hu,ht,if_neg (by simp)];simp only[once2];rw[aB,if_neg (by rintro(e|e);exact hc (.inl e);cases e),if_neg (by decide),if_neg (by decide)]
    ·rw[if_neg h0]at ho;by_cases h4:(x.1.run i true).phase=4
     ·rw[if_pos h4]at ho ⊢;rw[rgo_some ho,rgo_none (once_end (by show (5:Nat)≠1;decide) (by show (5:Nat)≠2;decide))]
     ·rw[if_neg h4]at ho ⊢;rw[if_neg h0,rgo_none ho]
theorem Nj{d:Def}{n:Int}{x:S × List Order}{f:Nat}(h:Inv d x.1)(hs:x.1.status=2)(hf:d.steps.length+1≤f):rgo d n f x=back d n x:=by
 unfold back;cases h1:anyP d x.1 1 with
 |true=>
  rw[if_pos rfl];refine rgo_none ?_ f;unfold once;rw[if_neg (by omega),if_pos hs,h1];rfl
 |false=>
  rw[if_neg (by simp)];have h2:=h.len;have h3:=len_le d.steps.length x.1.done h.nodup (fun i hi=>h.lt hi);exact Qv _ x f hs h1 h.nodup h.und (by omega) (by omega)
theorem rgo_on{d:Def}{n:Int}{x:S × List Order}(h:Inv d x.1):rgo d n (10*d.steps.length+10) x=on d n x:=by
 have J:on d n x=if (on1 d n x).1.status=2 then back d n (on1 d n x) else on1 d n x:=rfl;have aA:10*d.steps.length+10=(10*d.steps.length+9)+1:=rfl;by_cases h1:x.1.status=1
 ·have I:on1 d n x=forth d n x:=if_pos h1;cases h4:anyP d x.1 4 with
  |true=>
   have hf:forth d n x=(halt d x.1,x.2):=if_pos h4
   have ho:once d n x=some (halt d x.1,x.2):=by
    unfold once;rw[if_pos h1,if_pos h4]
   rw[J,I,hf,if_pos (show (halt d x.1,x.2).1.status=2 from rfl),aA,rgo_some ho];exact Nj (x:=(halt d x.1,x.2)) (inv_halt h h1) rfl (by omega)
  |false=>
   have Z:¬anyP d x.1 4=true:=by rw[h4];simp
   by_cases hl:x.1.done.length=d.steps.length
   ·have hf:forth d n x=(⟨x.1.run,x.1.done,x.1.undone,3⟩,x.2):=(if_neg Z).trans (if_pos hl)
    have ho:once d n x=some (⟨x.1.run,x.1.done,x.1.undone,3⟩,x.2):=by
     unfold once;rw[if_pos h1,if_neg Z,if_pos ((Qae h).2 hl)]
    rw[J,I,hf,if_neg (show ¬(3:Nat)=2 by decide),aA,rgo_some ho];exact rgo_none (once_end (by show (3:Nat)≠1;decide) (by show (3:Nat)≠2;decide)) _
   ·have hf:forth d n x=(List.range d.steps.length).foldl (go1 d n) x:=(if_neg Z).trans (if_neg hl)
    have hj:∃j,j<d.steps.length∧(x.1.run j false).phase≠3:=by
     refine Classical.byContradiction fun hc=>hl ((Qae h).1 ?_);rw[List.all_eq_true];intro i hi;rw[beq_iff_eq];exact Classical.byContradiction fun h3=>hc ⟨i,List.mem_range.1 hi,h3⟩
    have aB:=Cd (go1 d n) (fun _ y=>y.1.status=1) d.steps.length x h1 (fun k y _ hy=>by
     unfold go1;split
     ·exact hy
     ·exact hy)
    rw[J,I,hf,if_neg (by rw[aB];decide),Ll d.steps.length 0 x _ (by omega) h1 h4 hj (fun i hi=>absurd hi (by omega)) (by omega),←List.range_eq_range']
 ·have I:on1 d n x=x:=if_neg h1;rw[J,I];by_cases h2:x.1.status=2
  ·rw[if_pos h2];exact Nj h h2 (by omega)
  ·rw[if_neg h2];exact rgo_none (once_end h1 h2) _
theorem Yt(i:Nat)(u:Bool)(x:S × List Order):put i u (x.1.run i u) x=x:=by
 unfold put
 have e:setR x.1.run i u (x.1.run i u)=x.1.run:=by
  funext j b
  unfold setR;split
  ·rename_i h;rw[h.1,h.2]
  ·rfl
 rw[e,if_neg (fun h=>h.2.1 h.1),if_neg (fun h=>h.2 rfl)]
theorem Wq{s:Step}{n:Int}{r:Run}(h:(P31.tick s n r).2=false):(P31.tick s n r).1=r:=by
 unfold P31.tick at h ⊢;split at h
 ·rw[if_pos ‹_›]
 ·rw[if_neg ‹_›];split at h
  ·cases h
  ·rw[if_neg ‹_›];split at h
   ·cases h
   ·rw[if_neg ‹_›]
theorem tick1_put(d:Def)(n:Int)(u:Bool)(x:S × List Order)(i:Nat):tick1 d n u x i=put i u (P31.tick (stepAt d i) n (x.1.run i u)).1 x:=by
 unfold tick1;split
 ·rfl
 ·rename_i h
  rw[Wq (by simpa using h),Yt]
theorem Qbn{d:Def}{s:S}(h:Inv d s):lastU s.undone s.done=turn s:=lastU_turn h.nodup h.und
theorem K8{d:Def}{n:Int}{x y:S × List Order}(h:Inv d x.1)(ho:once d n x=some y) :
  (x.1.status=1∧(y=forth d n x∨∃k,k<d.steps.length∧y=go1 d n x k))∨(x.1.status=2∧anyP d x.1 1=false∧y=backGo d n 1 x):=by
 unfold once at ho;by_cases h1:x.1.status=1
 ·rw[if_pos h1]at ho;refine .inl ⟨h1,?_⟩;by_cases h4:anyP d x.1 4=true
  ·rw[if_pos h4]at ho;exact .inl ((Option.some.inj ho).symm.trans (if_pos h4).symm)
  ·rw[if_neg h4]at ho;by_cases ha:((List.range d.steps.length).all fun i=>(x.1.run i false).phase==3)=true
   ·rw[if_pos ha]at ho;exact .inl ((Option.some.inj ho).symm.trans ((if_neg h4).trans (if_pos ((Qae h).1 ha))).symm)
   ·rw[if_neg ha]at ho;cases hf:(List.range d.steps.length).find? (ready d x.1)with
    |none=>rw[hf]at ho;cases ho
    |some k=>
     rw[hf]at ho;have hr:ready d x.1 k=true:=List.find?_some hf;refine .inr ⟨k,List.mem_range.1 (List.mem_of_find?_eq_some hf),?_⟩;unfold go1;rw[if_pos hr];exact(Option.some.inj ho).symm
 ·rw[if_neg h1]at ho;by_cases h2:x.1.status=2
  ·rw[if_pos h2]at ho;refine .inr ⟨h2,?_⟩;by_cases h3:anyP d x.1 1=true
   ·rw[if_pos h3]at ho;cases ho
   ·rw[if_neg h3,Qbn h]at ho;refine⟨by simpa using h3,?_⟩;rw[backGo];cases ht:turn x.1 with
    |none=>
     rw[ht]at ho;exact(Option.some.inj ho).symm
    |some i=>
     rw[ht]at ho;simp only[once2]at ho;simp only;by_cases hc:(P33.undoOf d i).isEmpty=true∨(x.1.run i true).phase=3
     ·rw[if_pos hc]at ho ⊢;exact(Option.some.inj ho).symm
     ·rw[if_neg hc]at ho ⊢;by_cases h0:(x.1.run i true).phase=0
      ·rw[if_pos h0]at ho;rw[if_neg (by omega),if_pos h0];exact(Option.some.inj ho).symm
      ·rw[if_neg h0]at ho;by_cases h4:(x.1.run i true).phase=4
       ·rw[if_pos h4]at ho ⊢;exact(Option.some.inj ho).symm
       ·rw[if_neg h4]at ho;cases ho
  ·rw[if_neg h2]at ho;cases ho
theorem good_once{d:Def}{n:Int}{x y:S × List Order}(h:Good d x)(ho:once d n x=some y):Good d y:=by
 rcases K8 h.inv ho with⟨h1,rfl|⟨k,hk,rfl⟩⟩|⟨h2,h3,rfl⟩
 ·exact(good_forth h h1).1
 ·exact(good_go1 h h1 hk).1
 ·exact(good_backGo 1 x h h2 (fun j=>anyP_false h.inv (by decide) h3 j)).1
theorem Uj(i:Nat)(u:Bool)(r:Run)(x:S × List Order):x.2.length≤(put i u r x).2.length:=by
 unfold put;simp only;split<;>simp
theorem Ue{d:Def}{n:Int}(x:S × List Order)(k:Nat):x.2.length≤(go1 d n x k).2.length:=by
 unfold go1;split
 ·exact Uj _ _ _ _
 ·exact qJ _
theorem Vl{d:Def}{n:Int}(x:S × List Order):x.2.length≤(forth d n x).2.length:=by
 unfold forth;split
 ·exact qJ _
 ·split
  ·exact qJ _
  ·exact Cd (go1 d n) (fun _ y=>x.2.length≤y.2.length) d.steps.length x (qJ _) (fun k y _ hy=>qK hy (Ue y k))
theorem Hd{d:Def}{n:Int}:∀(f:Nat) (x:S × List Order),x.2.length≤(backGo d n f x).2.length∧(backGo d n f x).2.length≤x.2.length+1
 |0,x=>⟨qJ _,Nat.le_succ _⟩
 |f+1,x=>by
  unfold backGo;cases turn x.1 with
  |none=>exact⟨qJ _,Nat.le_succ _⟩
  |some i=>
   simp only;split
   ·exact Hd f (⟨x.1.run,x.1.done,x.1.undone++[i],x.1.status⟩,x.2)
   ·split
    ·exact⟨qJ _,Nat.le_succ _⟩
    ·split
     ·exact⟨Uj _ _ _ _,put_len _ _ _ _⟩
     ·exact⟨qJ _,Nat.le_succ _⟩
theorem Yl{d:Def}{n:Int}{x y:S × List Order}(h:Inv d x.1)(ho:once d n x=some y):x.2.length≤y.2.length:=by
 rcases K8 h ho with⟨h1,rfl|⟨k,hk,rfl⟩⟩|⟨h2,h3,rfl⟩
 ·exact Vl x
 ·exact Ue x k
 ·exact(Hd 1 x).1
theorem rgo_pre{d:Def}{n:Int}:∀(f:Nat) (x:S × List Order),Good d x→x.2.length≤(rgo d n f x).2.length
 |0,x,_=>qJ _
 |f+1,x,h=>by
  rw[rgo];cases ho:once d n x with
  |none=>exact qJ _
  |some y=>exact qK (Yl h.inv ho) (rgo_pre f y (good_once h ho))
theorem Qap(d:Def)(n:Int)(x:S × List Order):(forth d n x).2.length≤x.2.length+d.steps.length:=by
 unfold forth;split
 ·exact Nat.le_add_right _ _
 ·split
  ·exact Nat.le_add_right _ _
  ·exact Cd (go1 d n) (fun k y=>y.2.length≤x.2.length+k) d.steps.length x (qJ _) (fun k y _ hy=>by
    unfold go1;split
    ·have:=put_len k false (P31.begin_ (stepAt d k) n) y;omega
    ·omega)
theorem on_len(d:Def)(n:Int)(x:S × List Order):(on d n x).2.length≤x.2.length+d.steps.length+1:=by
 have h1:(on1 d n x).2.length≤x.2.length+d.steps.length:=by
  unfold on1;split
  ·exact Qap d n x
  ·exact Nat.le_add_right _ _
 unfold on on2;split
 ·unfold back;split
  ·omega
  ·have:=(Hd (d:=d) (n:=n) ((on1 d n x).1.done.length-(on1 d n x).1.undone.length+1) (on1 d n x)).2;omega
 ·omega
end P32
end Go.Proofs.YtefokfbgpfcbkaaGreat
