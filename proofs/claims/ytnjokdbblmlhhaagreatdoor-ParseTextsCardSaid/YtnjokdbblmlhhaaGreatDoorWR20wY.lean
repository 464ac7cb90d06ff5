/- Lemmas of this claim. -/
import Derived.Test.YtnjokdbblmlhhaaGreatDoorGPr20Y
import Derived.Test.YtnjokdbblmlhhaaGreatDoorWR20aY
set_option linter.unusedVariables false
set_option linter.unusedSimpArgs false
namespace Go.Proofs.YtnjokdbblmlhhaaGreatDoor
set_option maxRecDepth 100000
namespace P20
open P19 (line value close turn adds allR rowT toks)
def Wo(l:List (List UInt8)):Nat:=(l.map List.length).sum
theorem Qag(x:List UInt8)(l:List (List UInt8)):Wo (x::l)=x.length+Wo l:=by simp[Wo]
theorem Yn(x:List UInt8)(l:List (List UInt8)):Wo (l++[x])=Wo l+x.length:=by simp[Wo]
theorem Qah(l:List (List UInt8)):(l.headD []).length+Wo l.tail=Wo l:=by
 cases l with
 |nil=>rfl
 |cons x r=>rw[Qag];rfl
mutual
def T.wt:T→Nat
 | .mk k t ks ds l=>1+t.length+Wo ks+Xi ds
def Xi:List T→Nat
 | []=>0
 |d::ds=>d.wt+Xi ds
end
theorem Xp:∀(a:List T) (d:T),Xi (a++[d])=Xi a+d.wt
 | [],d=>by simp[Xi]
 |x::a,d=>by simp only[zJ,Xi,Xp a d];omega
theorem Y3:∀ds:List T,ds.length≤Xi ds
 | []=>qJ _
 |d::ds=>by
  have h1:=Y3 ds;have h2:1≤d.wt:=by cases d;unfold T.wt;omega
  simp only[qE,Xi];omega
def tw(t:Tk):Nat:=if t.1=1∨t.1=2 then 0 else 1+t.2.1.length
def Wf(ts:List Tk):Nat:=(ts.map tw).sum
theorem Wc(t:Tk)(ts:List Tk):Wf (t::ts)=tw t+Wf ts:=by simp[Wf]
theorem Wx(a b:List Tk):Wf (a++b)=Wf a+Wf b:=by simp[Wf]
theorem Qai{k:Nat}{x:List UInt8}{n c:Int}(h:¬(k=1∨k=2)):tw (k,x,n,c)=1+x.length:=by unfold tw;rw[if_neg h]
theorem Qaa(last:Int):∀f:Nat,(∀lv ts d r,Val last f lv ts (.ok d r)→d.wt+Wf r≤Wf ts)∧(∀lv l ts d r,Wi last f lv l ts (.ok d r)→d.wt+Wf r≤Wf ts) ∧
  (∀lv acc ts ds r,Sq last f lv acc ts (.ok ds r)→Xi ds+Wf r≤Xi acc+Wf ts∧(kindOf ts=3→Xi ds+Wf r+1≤Xi acc+Wf ts)) ∧
  (∀lv ks ds ts ks' ds' r,Ky last f lv ks ds ts (.ok (ks',ds') r)→Wo ks'+Xi ds'+Wf r≤Wo ks+Xi ds+Wf ts∧(kindOf ts=4→Wo ks'+Xi ds'+Wf r+1≤Wo ks+Xi ds+Wf ts))
 |0=>⟨fun _ _ _ _ h=>(by cases h),fun _ _ _ _ _ h=>(by cases h),fun _ _ _ _ _ h=>(by cases h),fun _ _ _ _ _ _ _ h=>(by cases h)⟩
 |f+1=>by
  obtain⟨hv,hw,hs,hk⟩:=Qaa last f;refine⟨fun lv ts d r h=>?_,fun lv l ts d r h=>?_,fun lv acc ts ds r h=>?_,fun lv ks ds ts ks' ds' r h=>?_⟩
  ·cases h with
   |word h=>rw[Wc,Qai (by decide)];simp[T.wt,Xi,Wo]
   |noseq h=>rw[Wc,Qai (by decide)];simp[T.wt,Xi,Wo]
   |nomap h=>rw[Wc,Qai (by decide)];simp[T.wt,Xi,Wo]
   |seq h h2=>have h3:=(hs _ _ _ _ _ h2).2 rfl;simp only[T.wt,Xi,Wo,List.map_nil,List.sum_nil,qP]at h3 ⊢;omega
   |keys h h2=>have h3:=(hk _ _ _ _ _ _ _ h2).2 rfl;simp only[T.wt,Xi,Wo,List.map_nil,List.sum_nil,qP]at h3 ⊢;omega
  ·cases h with
   |ok h=>have h2:=hv _ _ _ _ h;simp only[Wc]at h2 ⊢;omega
  ·cases h with
   |done h=>exact⟨by omega,fun e=>absurd e h⟩
   |next h h2=>
    have h3:=hw _ _ _ _ _ h;have h4:=(hs _ _ _ _ _ h2).1;rw[Xp]at h4;rw[Wc,Qai (by decide)];exact⟨by omega,fun _=>by omega⟩
  ·cases h with
   |done h=>exact⟨by omega,fun e=>absurd e h⟩
   |inl h h2 h3 h4 h5=>
    have h6:=hv _ _ _ _ h4;have h7:=(hk _ _ _ _ _ _ _ h5).1;rw[Xp,Yn]at h7;rw[Wc,Qai (by decide)];exact⟨by omega,fun _=>by omega⟩
   |wi h h2 h3 h4 h5=>
    have h6:=hw _ _ _ _ _ h4;have h7:=(hk _ _ _ _ _ _ _ h5).1;rw[Xp,Yn]at h7;rw[Wc,Qai (by decide)];exact⟨by omega,fun _=>by omega⟩
theorem V7(lv:Nat):∀ds:List T,checkL lv ds=0↔∀d∈ds,d.check lv=0
 | []=>by simp[checkL]
 |d::ds=>by
  unfold checkL;have ih:=V7 lv ds;by_cases hd:d.check lv=0
  ·rw[if_neg (by simpa using hd),ih];simp[hd]
  ·rw[if_pos hd];simp[hd]
theorem Wz{lv:Nat}{ds:List T}{d:T}(h:checkL lv ds=0)(hd:d.check lv=0):checkL lv (ds++[d])=0:=by
 rw[V7]at h ⊢;intro x hx;rcases zE.1 hx with hx|hx
 ·exact h x hx
 ·rw[zO.1 hx];exact hd
theorem Xg:∀(ks seen:List (List UInt8)) (x:List UInt8),keysE seen ks=0→P03.check x 64=0→x∉seen→x∉ks→keysE seen (ks++[x])=0
 | [],seen,x,h,hx,hs,hk=>by
  simp only[zK,keysE];rw[if_neg (by simpa using hx),if_neg hs]
 |k::ks,seen,x,h,hx,hs,hk=>by
  simp only[zJ,keysE]at h ⊢;split at h
  ·rename_i h1;exact absurd h h1
  ·rename_i h1
   split at h
   ·exact absurd h (by decide)
   ·rename_i h2
    rw[if_neg h1,if_neg h2];refine Xg ks (seen++[k]) x h hx ?_ (fun D=>hk (List.mem_cons_of_mem _ D));intro D;rcases zE.1 D with D|D
    ·exact hs D
    ·exact hk (by rw[zO.1 D];exact List.mem_cons_self)
theorem Xw{x:List UInt8}(h:P03.check x 4096=0)(hl:x.length≤64):P03.check x 64=0:=by
 unfold P03.check at h ⊢;rw[if_neg (by omega)]at h;rw[if_neg (by omega)];exact h
theorem Xv:P03.check [] 4096=0:=by decide +kernel
theorem Y1{k:Nat}{x:List UInt8}{n c:Int}(h:Gg (k,x,n,c))(hk:k=4∨k=5):P03.check x 4096=0:=by
 obtain⟨_,h2⟩:=h;rw[if_pos hk]at h2;exact h2
theorem Zv{lv:Nat}{x:List UInt8}{n:Int}(h:lv≤16)(hx:P03.check x 4096=0):T.check lv (.mk 1 x [] [] n)=0:=by
 unfold T.check
 have hn:nodeE lv (.mk 1 x [] [] n)=0:=by
  simp only[nodeE];rw[if_neg (by omega),if_neg (by omega),if_neg (by simp[oddB]),if_neg (by simpa using hx)];rfl
 rw[hn];rfl
theorem Ze{lv:Nat}{ds:List T}{n:Int}(h:lv≤16)(hd:checkL (lv+1) ds=0):T.check lv (.mk 2 [] [] ds n)=0:=by
 unfold T.check
 have hn:nodeE lv (.mk 2 [] [] ds n)=0:=by
  simp only[nodeE];rw[if_neg (by omega),if_neg (by omega),if_neg (by simp[oddB]),if_neg (by rw[Xv];decide)];rfl
 rw[hn];simpa using hd
theorem Zd{lv:Nat}{ks:List (List UInt8)}{ds:List T}{n:Int}(h:lv≤16)(hk:keysE [] ks=0)(hl:ks.length=ds.length)(hd:checkL (lv+1) ds=0):T.check lv (.mk 3 [] ks ds n)=0:=by
 unfold T.check
 have hn:nodeE lv (.mk 3 [] ks ds n)=0:=by
  simp only[nodeE];rw[if_neg (by omega),if_neg (by omega),if_neg (by simp[oddB,hl]),if_neg (by rw[Xv];decide)];exact hk
 rw[hn];simpa using hd
def Wy(ts:List Tk):Prop:=∀t∈ts,Gg t
theorem Wy.tail{t:Tk}{ts:List Tk}(h:Wy (t::ts)):Wy ts:=fun x hx=>h x (List.mem_cons_of_mem _ hx)
theorem X9(last:Int):∀f:Nat,(∀lv ts d r,Wy ts→Val last f lv ts (.ok d r)→d.check lv=0∧Wy r)∧(∀lv l ts d r,Wy ts→Wi last f lv l ts (.ok d r)→d.check lv=0∧Wy r) ∧
  (∀lv acc ts ds r,Wy ts→checkL lv acc=0→Sq last f lv acc ts (.ok ds r)→checkL lv ds=0∧Wy r) ∧
  (∀lv ks ds ts ks' ds' r,Wy ts→keysE [] ks=0→ks.length=ds.length→checkL lv ds=0→Ky last f lv ks ds ts (.ok (ks',ds') r)→keysE [] ks'=0∧ks'.length=ds'.length∧checkL lv ds'=0∧Wy r)
 |0=>⟨fun _ _ _ _ _ h=>(by cases h),fun _ _ _ _ _ _ h=>(by cases h),fun _ _ _ _ _ _ _ h=>(by cases h),fun _ _ _ _ _ _ _ _ _ _ _ h=>(by cases h)⟩
 |f+1=>by
  obtain⟨hv,hw,hs,hk⟩:=X9 last f;refine⟨fun lv ts d r ha h=>?_,fun lv l ts d r ha h=>?_,fun lv acc ts ds r ha hc h=>?_,fun lv ks ds ts ks' ds' r ha G D hc h=>?_⟩
  ·cases h with
   |word h=>exact⟨Zv h (Y1 (ha _ List.mem_cons_self) (.inr rfl)),ha.tail⟩
   |noseq h=>exact⟨Ze h rfl,ha.tail⟩
   |nomap h=>exact⟨Zd h rfl rfl rfl,ha.tail⟩
   |seq h h2=>have h3:=hs _ _ _ _ _ ha rfl h2;exact⟨Ze h h3.1,h3.2⟩
   |keys h h2=>have h3:=hk _ _ _ _ _ _ _ ha rfl rfl rfl h2;exact⟨Zd h h3.1 h3.2.1 h3.2.2.1,h3.2.2.2⟩
  ·cases h with
   |ok h=>have h2:=hv _ _ _ _ ha.tail h;exact⟨h2.1,h2.2.tail⟩
  ·cases h with
   |done h=>exact⟨hc,ha⟩
   |next h h2=>have h3:=hw _ _ _ _ _ ha.tail h;exact hs _ _ _ _ _ h3.2 (Wz hc h3.1) h2
  ·cases h with
   |done h=>exact⟨G,D,hc,ha⟩
   |inl h h2 h3 h4 h5=>
    have hx:=Xw (Y1 (ha _ List.mem_cons_self) (.inl rfl)) h;have h6:=hv _ _ _ _ ha.tail h4;exact hk _ _ _ _ _ _ _ h6.2 (Xg _ _ _ G hx (by simp) h2) (by simp[D]) (Wz hc h6.1) h5
   |wi h h2 h3 h4 h5=>
    have hx:=Xw (Y1 (ha _ List.mem_cons_self) (.inl rfl)) h;have h6:=hw _ _ _ _ _ ha.tail h4;exact hk _ _ _ _ _ _ _ h6.2 (Xg _ _ _ G hx (by simp) h2) (by simp[D]) (Wz hc h6.1) h5
theorem Xk{d:T}{lv:Nat}(h:d.check lv=0):lv≤16∧checkL (lv+1) d.kids=0:=by
 obtain⟨k,t,ks,ds,l⟩:=d;unfold T.check at h;by_cases hn:nodeE lv (.mk k t ks ds l)=0
 ·rw[if_neg (by simpa using hn)]at h;refine⟨?_,h⟩;simp only[nodeE]at hn;split at hn
  ·exact absurd hn (by decide)
  ·omega
 ·rw[if_pos hn]at h;exact absurd h hn
mutual
theorem T.check_deep:∀(d:T) (lv k:Nat),d.check lv=0→(d.size k).1+lv≤17
 | .mk k0 t ks ds l,lv,k,h=>by
  obtain⟨h1,h2⟩:=Xk h;have h3:=Xu ds (lv+1) (k-1) h2 (by omega);unfold T.size;split
  ·simp only;omega
  ·simp only;omega
theorem Xu:∀(ds:List T) (lv k:Nat),checkL lv ds=0→lv≤17→(sizeL k ds).1+lv≤17
 | [],lv,k,h,hl=>by simp only[sizeL];omega
 |d::ds,lv,k,h,hl=>by
  rw[V7]at h;have h1:=T.check_deep d lv k (h d List.mem_cons_self);have h2:=Xu ds lv k ((V7 _ _).2 (fun x hx=>h x (List.mem_cons_of_mem _ hx))) hl;simp only[sizeL];omega
end
theorem X6{d:T}{lv:Nat}(h:d.check lv=0):d.keys.length≤d.kids.length∧(∀x∈d.keys,x.length≤64)∧d.text.length≤4096:=by
 obtain⟨k,t,ks,ds,l⟩:=d;unfold T.check at h;by_cases hn:nodeE lv (.mk k t ks ds l)=0
 ·simp only[nodeE]at hn;split at hn
  ·exact absurd hn (by decide)
  ·split at hn
   ·exact absurd hn (by decide)
   ·split at hn
    ·exact absurd hn (by decide)
    ·rename_i h1 h2 h3
     split at hn
     ·rename_i h4;exact absurd hn h4
     ·rename_i h4
      refine⟨?_,Xx hn,?_⟩
      ·simp only[T.keys,T.kids];unfold oddB at h3;by_cases D:k=1
       ·rw[if_pos D]at h3;simp at h3;simp[h3]
       ·rw[if_neg D]at h3;by_cases hk2:k=2
        ·rw[if_pos hk2]at h3;simp at h3;simp[h3]
        ·rw[if_neg hk2]at h3;simp at h3;omega
      ·simp only[T.text];unfold P03.check at h4;split at h4
       ·exact absurd (by decide) h4
       ·omega
 ·rw[if_pos hn]at h;exact absurd h hn
mutual
theorem T.check_okT:∀(d:T) (lv:Nat),d.check lv=0→d.wt≤1000000→E6 d
 | .mk k t ks ds l,lv,h,hw=>by
  have h1:=X6 h;have h2:=Xk h;unfold T.wt at hw;have h3:=Y3 ds;simp only[T.keys,T.kids,T.text]at h1 h2;unfold E6;exact⟨by omega,by omega,fun x hx=>by have:=h1.2.1 x hx;omega,by omega,X5 ds (lv+1) h2.2 (by omega)⟩
theorem X5:∀(ds:List T) (lv:Nat),checkL lv ds=0→Xi ds≤1000000→Hn ds
 | [],lv,h,hw=>trivial
 |d::ds,lv,h,hw=>by
  rw[V7]at h;unfold Xi at hw;exact⟨T.check_okT d lv (h d List.mem_cons_self) (by omega),X5 ds lv ((V7 _ _).2 (fun x hx=>h x (List.mem_cons_of_mem _ hx))) (by omega)⟩
end
theorem Xm(a b D:Nat):(a+b)*D=a*D+b*D:=Nat.add_mul a b D
mutual
theorem T.write_wt:∀(d:T) (lv:Nat) (f h:List UInt8),d.check lv=0→(d.write f h).length+2*h.length+10≤f.length+d.wt*(3*h.length+6*(17-lv)+20)
 | .mk k t ks ds l,lv,f,h,hc=>by
  obtain⟨h1,h2⟩:=Xk hc;simp only[T.kids]at h2;have G:=Yo ds k ks (lv+1) f h h2 (by omega);obtain⟨D,Q⟩:∃D,3*h.length+6*(17-lv)+20=D:=⟨_,rfl⟩;have N:3*(h.length+2)+6*(17-(lv+1))+20=D:=by omega
  rw[Q];rw[N]at G;have I:h.length+20≤D:=by omega
  have J:3*h.length+20≤D:=by omega
  unfold T.write T.wt;rw[Xm,Xm,Xm,Nat.one_mul];have R:t.length*20≤t.length*D:=Nat.mul_le_mul (qJ _) (by omega);have S:Wo ks*20≤Wo ks*D:=Nat.mul_le_mul (qJ _) (by omega);split
  ·have h3:=Zb k t;simp only[qH,qE,qP];omega
  ·rename_i he
   rcases G with rfl|G
   ·simp at he
   ·omega
theorem Yo:∀(ds:List T) (k:Nat) (ks:List (List UInt8)) (lv:Nat) (f h:List UInt8),checkL lv ds=0→lv≤17→ds=[]∨(Xs k f h ks ds).length+h.length≤f.length+4*Wo ks+Xi ds*(3*(h.length+2)+6*(17-lv)+20)
 | [],k,ks,lv,f,h,hc,hl=>.inl rfl
 |d::ds,k,ks,lv,f,h,hc,hl=>by
  right
  rw[V7]at hc;have hd:=hc d List.mem_cons_self;have hr:=Yo ds k ks.tail lv h h ((V7 _ _).2 (fun x hx=>hc x (List.mem_cons_of_mem _ hx))) hl;have hp:=Qac (ks.headD []);have I:=Qah ks;obtain⟨D,N⟩:∃D,3*(h.length+2)+6*(17-lv)+20=D:=⟨_,rfl⟩;rw[N]at hr ⊢;have G:1≤d.wt:=by cases d;unfold T.wt;omega
  unfold Xs Xi;rw[Xm,qH]
  have J:(Xs k h h ks.tail ds).length≤4*Wo ks.tail+Xi ds*D:=by
   rcases hr with rfl|hr
   ·simp[Xs]
   ·omega
  split
  ·have h3:=T.write_wt d lv (f++[45,32]) (h++[32,32]) hd;simp only[qH,qE,qP]at h3;rw[show 3*(h.length+(0+1+1))+6*(17-lv)+20=D from by omega]at h3;omega
  ·split
   ·have h3:=T.write_wt d lv (f++P18.put (ks.headD [])++[58]++[32]) [] hd;simp only[qH,qE,qP]at h3;have R:d.wt*(3*0+6*(17-lv)+20)+d.wt*(3*(h.length+2))=d.wt*D:=by rw[←Nat.mul_add];congr 1;omega
    have Q:1*(3*(h.length+2))≤d.wt*(3*(h.length+2)):=Nat.mul_le_mul G (qJ _);omega
   ·have h3:=T.write_wt d lv (h++[32,32]) (h++[32,32]) hd;simp only[qH,qE,qP]at h3 ⊢;rw[show 3*(h.length+(0+1+1))+6*(17-lv)+20=D from by omega]at h3;omega
end
theorem Zg(s:List UInt8):(P18.read s).1.length≤s.length:=by
 have hc:∀t:List UInt8,(P18.chk t).1.length≤t.length:=fun t=>by unfold P18.chk;split<;>simp
 unfold P18.read P18.readF;split
 ·simp
 ·split
  ·split
   ·simp
   ·rename_i b hb
    have h1:=P18.within_len hb;have h2:=hc b;simp only[qZ,qQ]at h1;omega
  ·exact hc s
theorem Qat(n c:Int)(s:List UInt8):tw (value n c s).1≤s.length+1:=by
 unfold value;split
 ·simp[tw]
 ·split
  ·simp[tw]
  ·split
   ·simp[tw]
   ·have:=Zg s;simp only[tw];rw[if_neg (by decide)];omega
theorem Z9:∀(f:Nat) (n c:Int) (s:List UInt8),Wf (line f n c s).1≤s.length+1
 |0,n,c,s=>by simp[line,Wf]
 |f+1,n,c,s=>by
  have D:∀(k:Nat) (x:List UInt8) (n c:Int),Wf [(k,x,n,c)]≤1+x.length:=fun k x n c=>by
   simp only[Wf,List.map_cons,List.map_nil,List.sum_cons,List.sum_nil,tw];split<;>omega
  have hr:=Zg (s.take (P18.cut s).1);rw[qZ]at hr;unfold line;by_cases hs:P19.signB 45 s=true
  ·rw[if_pos hs];have h2:=P19.dash_shorter s hs;split
   ·exact qK (D 3 [] n c) (by simp)
   ·split
    ·simp[Wf]
    ·have h1:=Z9 f n (c+(1+P19.skip (s.drop 1):Nat)) (s.drop (1+P19.skip (s.drop 1)));have h3:=D 3 [] n c;rw[Wc];simp only[qP,Wf,List.map_cons,List.map_nil,List.sum_cons,List.sum_nil]at h3 h1 ⊢;omega
  ·rw[if_neg hs];split
   ·exact qK (D 6 [] n c) (by simp)
   ·split
    ·exact qK (D 7 [] n c) (by simp)
    ·split
     ·simp[Wf]
     ·split
      ·simp[Wf]
      ·split
       ·simp[Wf]
       ·split
        ·exact qK (D 5 (P18.read (s.take (P18.cut s).1)).1 n c) (by omega)
        ·split
         ·exact qK (D 4 (P18.read (s.take (P18.cut s).1)).1 n c) (by omega)
         ·rename_i h4 h5
          split
          ·simp[Wf]
          ·have h6:=Qat n (c+((P18.cut s).1+1+P19.skip (s.drop ((P18.cut s).1+1)):Nat)) (s.drop ((P18.cut s).1+1+P19.skip (s.drop ((P18.cut s).1+1))));have h7:=D 4 (P18.read (s.take (P18.cut s).1)).1 n c;have h8:=P19.cut_len s;rw[qQ]at h6;simp only[Wf,List.map_cons,List.map_nil,List.sum_cons,List.sum_nil]at h7 ⊢;omega
theorem X7(n c tc:Int):∀st:List Int,Wf (close n c tc st).1=0
 | []=>rfl
 |x::st=>by
  unfold close;split
  ·rw[Wc,X7 n c tc st];rfl
  ·rfl
theorem Qa0(b:Bool)(k:Nat)(n:Int)(t:Tk)(out:List Tk)(st:List Int):Wf (turn b k n t out st).2.1≤Wf out+tw t:=by
 have h1:Wf [t]=tw t:=by simp[Wf]
 unfold turn;split
 ·split
  ·simp[Wf]
  ·simp only[Wx,X7,h1];omega
 ·split
  ·split
   ·simp[Wf]
   ·simp only[Wx,h1];have:Wf [((1:Nat),([]:List UInt8),n,t.2.2.2)]=0:=rfl;omega
  ·simp only[Wx,h1];omega
theorem Z6{n:Int}:∀(ts:List Tk) (b:Bool) (k:Nat) (out:List Tk) (st:List Int),Wf (adds n b k ts out st).2.1≤Wf out+Wf ts
 | [],b,k,out,st=>by simp[adds,Wf]
 |t::r,b,k,out,st=>by
  unfold adds;split
  ·simp[Wf]
  ·have h1:=Qa0 b k n t out st;have h2:=Z6 (n:=n) r false t.1 (turn b k n t out st).2.1 (turn b k n t out st).2.2;rw[Wc];omega
theorem Z7:∀(rs:List (Nat × Nat × List UInt8)) (b:Bool) (out:List Tk) (st:List Int) (last:Int),Wf (allR b rs out st last).1≤Wf out+P19.weight rs
 | [],b,out,st,last=>by
  unfold allR;rw[Wx,X7];omega
 |r::rs,b,out,st,last=>by
  have hw:P19.weight (r::rs)=r.2.2.length+1+P19.weight rs:=by unfold P19.weight;rw[List.map_cons,List.sum_cons]
  unfold allR;split
  ·simp[Wf]
  ·split
   ·simp[Wf]
   ·split
    ·simp[Wf]
    ·have h1:Wf (rowT r).1≤r.2.2.length+1:=Z9 _ _ _ _;have h2:=Z6 (n:=(r.1:Int)) (rowT r).1 true 0 out st;have h3:=Z7 rs false (adds r.1 true 0 (rowT r).1 out st).2.1 (adds r.1 true 0 (rowT r).1 out st).2.2 r.1;omega
theorem Qa1(s:List UInt8):Wf (P19.all s).1≤2*s.length:=by
 unfold P19.all;split
 ·simp[Wf]
 ·have h1:=Z7 (Dz s) true [] [0] 0;have h2:=P19.weight_le s;simp only[Wf,List.map_nil,List.sum_nil]at h1 ⊢;omega
theorem PaR.fine{s:List UInt8}{d:T}(h:PaR s (.ok d))(hs:s.length≤3000):d.check 1=0∧d.wt≤6000∧E6 d∧(d.write [] []).length≤1048576∧(d.size 18).1≤16:=by
 unfold PaR at h;split at h
 ·cases h
 ·split at h
  ·cases h
  ·obtain⟨f,h⟩:=h;cases h with
   |ok h=>
    have h1:=((X9 _ f).1 _ _ _ _ (all_ok s) h).1;have h2:=(Qaa _ f).1 _ _ _ _ h;have h3:=Qa1 s;have hw:d.wt≤6000:=by omega
    have h4:=T.write_wt d 1 [] [] h1;have h5:=T.check_deep d 1 18 h1;simp only[qP]at h4;have D:d.wt*(3*0+6*(17-1)+20)≤6000*116:=Nat.mul_le_mul hw (by omega);exact⟨h1,hw,T.check_okT d 1 h1 (by omega),by omega,by omega⟩
theorem PaR.bad{s:List UInt8}{x:Int × Int}(h:PaR s (.error x)):x.1≠0:=by
 unfold PaR at h;split at h
 ·rename_i h1;cases h;exact h1
 ·split at h
  ·cases h;decide
  ·obtain⟨f,h⟩:=h;cases h with
   |left h=>show (3:Int)≠0;decide
   |bad h=>exact(bad_ne _ _).1 _ _ _ _ h
end P20
open Go.RowKit
mutual
def Sk:P20.T→Prop
 | .mk k t ks ds l=>t.length≤1000000∧ks.length≤100000000∧(∀x∈ks,x.length≤1000000)∧ds.length≤1000000000∧Tu ds
def Tu:List P20.T→Prop
 | []=>True
 |d::ds=>Sk d∧Tu ds
end
theorem O1:∀ds:List P20.T,Tu ds↔∀d∈ds,Sk d
 | []=>by simp[Tu]
 |d::ds=>by simp[Tu,O1 ds]
theorem Sk.kid{k:Nat}{t:List UInt8}{ks:List (List UInt8)}{ds:List P20.T}{l:Int}(h:Sk (.mk k t ks ds l)):t.length≤1000000∧ks.length≤100000000∧(∀x∈ks,x.length≤1000000)∧ds.length≤1000000000∧∀d∈ds,Sk d:=by
 unfold Sk at h;exact⟨h.1,h.2.1,h.2.2.1,h.2.2.2.1,(O1 _).1 h.2.2.2.2⟩
def Pr(d:Nd):Prop:=∀(lv:Nat) (w:World),d.In w→Sk d.bare→lv≤1000→Calls Tryz.prog 46 #[d.val,.int .i64 lv] w fun e w'=>e=.returned (.int .i64 (d.bare.check lv))∧Below w.heap.size w w'
theorem H5{lv:Nat}{ds:List Nd}{i:Nat}{d:Nd}(h:ds[i]?=some d):P20.checkL lv (Am (ds.drop i))=if d.bare.check lv≠0 then d.bare.check lv else P20.checkL lv (Am (ds.drop (i+1))):=by
 rw[Cg h];rfl
set_option maxHeartbeats 8000000 in
theorem Qj(k:Nat)(t:List UInt8)(ka:Option Addr)(kc:Nat)(ks:List (List UInt8))(da:Option Addr)(dc:Nat)(ds:List Nd)(l:Int)(aU:∀d∈ds,Pr d):Pr (.mk k t ka kc ks da dc ds l):=by
 intro lv w Y aT cG;obtain⟨q1,q2,q3,q4,q5⟩:=Sk.kid aT;rw[Bs]at q4;have hf:=Y.fit;have bC:=hf.keysC;have aL:=Y.kids;have aN:=hf.keys;simp only[Nd.keys,Nd.kc,Nd.da,Nd.kids,Nd.ka]at bC aL aN;obtain⟨N,hN⟩:∃N,ds.length=N:=⟨_,rfl⟩;obtain⟨M,hM⟩:∃M,ks.length=M:=⟨_,rfl⟩;obtain⟨H,hH⟩:∃H,w.heap.size=H:=⟨_,rfl⟩;obtain⟨W,hW⟩:∃W,w.alloc (.cells #[.int .u8 k,.string ⟨t.toArray⟩,.slice ka M kc,.slice da N dc,.int .i64 l] 26)=W:=⟨_,rfl⟩;have S:Below w.heap.size w W:=by rw[←hW];exact(qV _ w).alloc (qJ _) _
 have g0:W.heap[H]?=some (.cells #[.int .u8 k,.string ⟨t.toArray⟩,.slice ka M kc,.slice da N dc,.int .i64 l] 26):=by rw[←hW,←hH];exact qB _ _
 have bE:H<W.heap.size:=(qA.1 g0).1;obtain⟨⟨x0,_⟩,⟨x1,_⟩,⟨x2,_⟩,⟨x3,_⟩,⟨x4,_⟩⟩:=Ad g0;have aZ:=Eu.below aN S;have aR:=aL.below S;have cI:Tryz.prog.follows .mixedOrders=true:=by kernel_rfl
 rw[Nd.val_eq,hN,hM];obtain⟨C,I⟩:∃C,(Nd.mk k t ka kc ks da dc ds l).bare.check lv=C:=⟨_,rfl⟩;rw[I];simp only[Nd.bare,P20.T.check,P20.nodeE,Bs,hN,hM]at I;rw[hM]at bC q2;rw[hN]at q4;have bA:∀d∈ds,Sk d.bare:=fun d hd=>q5 _ (by rw[Ci];exact zC hd);have HW:=Ab hW;have R:=Ab S;have HH:=Ab hH;have bF:=Ab g0;have bB:=Ab aZ;have bX:=Ab aR;have bM:=Ab aU;have HN:=Ab hN;have HM:=Ab hM;have cA:=Ab q3;have bT:=Ab bA;clear Y aT hf aN aL hN hM hH hW S g0 aZ aR aU q3 q5 bA;by_cases hv:16<lv
 ·have j1:(16:Int)<(lv:Int):=by omega
  rw[if_pos hv,if_pos (by decide)]at I;subst I;clear hv x0 x1 x2 x3 x4;go_enter Tryz.func46,Tryz.ntmps46
  go_upto_region 1 with fail
  try rw[Aa HH]
  rw[Aa HW];go_wp2;go_ret;exact⟨rfl,Aa R⟩
 have j1:(lv:Int)≤16:=by omega
 rw[if_neg hv]at I;by_cases hk:k<1∨3<k
 ·rw[if_pos hk,if_pos (by decide)]at I;subst I;by_cases h0:k<1
  ·have j2:(k:Int)<1:=by omega
   clear hk h0 hv;go_enter Tryz.func46,Tryz.ntmps46
   go_upto_region 1 with fail
   try rw[Aa HH]
   rw[Aa HW];go_wp2;go_ret;exact⟨rfl,Aa R⟩
  ·have j2:(1:Int)≤(k:Int):=by omega
   have j3:(3:Int)<(k:Int):=by omega
   clear hk h0 hv;go_enter Tryz.func46,Tryz.ntmps46
   go_upto_region 1 with fail
   try rw[Aa HH]
   rw[Aa HW];go_wp2;go_ret;exact⟨rfl,Aa R⟩
 rw[if_neg hk]at I;have cD:(1:Int)≤(k:Int):=by omega
 have cH:(k:Int)≤3:=by omega
 have bL:k=1∨k=2∨k=3:=by omega
 rcases bL with h|h|h;have aY:((k:Int)==1)=true:=by simp;omega
 have aO:((k:Int) != 1)=false:=by simp;omega
 have bD:((k:Int)==3)=false:=by simp;omega
 have aW:((k:Int) != 3)=true:=by simp;omega
 by_cases cJ:0<N
 ·have jd:(0:Int)<(N:Int):=by omega
  rw[if_pos (show P20.oddB k t M N=true by simp[P20.oddB,h];omega),if_pos (by decide)]at I;subst I;clear hv hk h;go_enter Tryz.func46,Tryz.ntmps46
  go_upto_region 1 with fail
  try rw[Aa HH]
  rw[Aa HW];go_wp2;go_ret;exact⟨rfl,Aa R⟩
 have jd:(N:Int)≤0:=by omega
 by_cases X:0<M
 ·have jm:(0:Int)<(M:Int):=by omega
  rw[if_pos (show P20.oddB k t M N=true by simp[P20.oddB,h];omega),if_pos (by decide)]at I;subst I;clear hv hk h;go_enter Tryz.func46,Tryz.ntmps46
  go_upto_region 1 with fail
  try rw[Aa HH]
  rw[Aa HW];go_wp2;go_ret;exact⟨rfl,Aa R⟩
 have jm:(M:Int)≤0:=by omega
 rw[if_neg (show ¬P20.oddB k t M N=true by simp[P20.oddB,h];omega)]at I
 rotate_left
 have aY:((k:Int)==1)=false:=by simp;omega
 have aO:((k:Int) != 1)=true:=by simp;omega
 have bD:((k:Int)==3)=false:=by simp;omega
 have aW:((k:Int) != 3)=true:=by simp;omega
 cases hte:t.isEmpty
 ·have jt:(⟨t.toArray⟩:ByteArray).toList.isEmpty=false:=(Ck t).trans hte;rw[if_pos (show P20.oddB k t M N=true by simp[P20.oddB,h,hte]),if_pos (by decide)]at I;subst I;clear hv hk h;go_enter Tryz.func46,Tryz.ntmps46
  go_upto_region 1 with fail
  try rw[Aa HH]
  rw[Aa HW];go_wp2;go_ret;exact⟨rfl,Aa R⟩
 have jt:(⟨t.toArray⟩:ByteArray).toList.isEmpty=true:=(Ck t).trans hte;by_cases X:0<M
 ·have jm:(0:Int)<(M:Int):=by omega
  rw[if_pos (show P20.oddB k t M N=true by simp[P20.oddB,h];omega),if_pos (by decide)]at I;subst I;clear hv hk h;go_enter Tryz.func46,Tryz.ntmps46
  go_upto_region 1 with fail
  try rw[Aa HH]
  rw[Aa HW];go_wp2;go_ret;exact⟨rfl,Aa R⟩
 have jm:(M:Int)≤0:=by omega
 rw[if_neg (show ¬P20.oddB k t M N=true by simp[P20.oddB,h,hte];omega)]at I
 rotate_left
 have aY:((k:Int)==1)=false:=by simp;omega
 have aO:((k:Int) != 1)=true:=by simp;omega
 have bD:((k:Int)==3)=true:=by simp;omega
 have aW:((k:Int) != 3)=false:=by simp;omega
 cases hte:t.isEmpty
 ·have jt:(⟨t.toArray⟩:ByteArray).toList.isEmpty=false:=(Ck t).trans hte;rw[if_pos (show P20.oddB k t M N=true by simp[P20.oddB,h,hte]),if_pos (by decide)]at I;subst I;clear hv hk h;go_enter Tryz.func46,Tryz.ntmps46
  go_upto_region 1 with fail
  try rw[Aa HH]
  rw[Aa HW];go_wp2;go_ret;exact⟨rfl,Aa R⟩
 have jt:(⟨t.toArray⟩:ByteArray).toList.isEmpty=true:=(Ck t).trans hte;by_cases X:M≠N
 ·have jm:((M:Int) != (N:Int))=true:=by simp;omega
  rw[if_pos (show P20.oddB k t M N=true by simp[P20.oddB,h];exact .inr X),if_pos (by decide)]at I;subst I;clear hv hk h;go_enter Tryz.func46,Tryz.ntmps46
  go_upto_region 1 with fail
  try rw[Aa HH]
  rw[Aa HW];go_wp2;go_ret;exact⟨rfl,Aa R⟩
 have X:M=N:=by omega
 have jm:((M:Int) != (N:Int))=false:=by simp;omega
 rw[if_neg (show ¬P20.oddB k t M N=true by simp[P20.oddB,h,hte,X])]at I;clear X
 rotate_left
 all_goals
  have cE:IntKind.i64.wrap ((lv:Int)+1)=(lv:Int)+1:=qG _ (by omega);have G:=Dm ⟨t.toArray⟩ 4096 W (by rw[zP];show t.length≤1100000;omega);simp only[Vv]at G;by_cases D:P03.check t 4096=0
  rotate_left
  ·rw[if_pos D,if_pos D]at I;obtain⟨e,he⟩:∃e,P03.check t 4096=e:=⟨_,rfl⟩;rw[he]at I D G;subst I;have bG:(e != 0)=true:=by simpa using D
   have aK:=Ab G;clear G D he hv hk h;go_enter Tryz.func46,Tryz.ntmps46
   go_upto_region 1 with fail
   try rw[Aa HH]
   rw[Aa HW];go_wp2_with (go_at_call 84;refine(Aa aK).mono ?_;rintro e' w1 ⟨rfl,rfl⟩)
   go_ret;exact⟨rfl,Aa R⟩
  rw[if_neg (show ¬P03.check t 4096≠0 by simpa using D)]at I;rw[D]at G;have aK:=Ab G;have HC:=Ab I;clear G D hv hk I h;go_enter Tryz.func46,Tryz.ntmps46
  go_upto_region 1 with fail
  try rw[Aa HH]
  rw[Aa HW];go_wp2_with (go_at_call 84;refine(Aa aK).mono ?_;rintro e' w1 ⟨rfl,aX⟩;rw[aX];clear aX)
  go_loopg [6] M (fun g s6 wx=>∃i:Nat,i+g=M∧s6=.int .i64 i∧Hid ((if P20.keysE (ks.take i) (ks.drop i)≠0 then P20.keysE (ks.take i) (ks.drop i) else P20.checkL (lv+1) (Am ds))=C)∧Hid (Below W.heap.size W wx))
  case atStart=>exact⟨0,by omega,by go_num,HC,Ab (qV _ _)⟩
  case round=>
   obtain⟨i,bO,rfl,HD,J⟩:=hrel;clear x0 x1 x2 x3 x4;obtain⟨⟨x0,_⟩,⟨x1,_⟩,⟨x2,_⟩,⟨x3,_⟩,⟨x4,_⟩⟩:=Ad (((Aa J).block H bE).trans (Aa bF));cases gk with
   |succ g'=>
    first
    |exact absurd bO (by omega)
    |have bR:(i:Int)<(M:Int):=by omega
     have cF:(i:Int)≤(kc:Int):=by omega
     have cC:kc≠0:=by omega
     have bQ:IntKind.i64.wrap ((i:Int)+1)=(i:Int)+1:=qG _ (by omega);obtain⟨x,aA⟩:=V3 (Aa HM) (show i<M by omega);have bW:=Aa cA x (qN aA)
     have hd:ks.drop i=x::ks.drop (i+1):=by
      obtain⟨bJ,rfl⟩:=qI.1 aA;exact qL bJ
     have ht:ks.take (i+1)=ks.take i++[x]:=by rw[List.take_add_one,aA];rfl
     have Q:=Aa HD;rw[hd,P20.keysE]at Q;obtain⟨b,o,rfl,hc⟩:=Eu.below (Aa bB) (Aa J) i x aA;have G:=fun V=>Dm ⟨x.toArray⟩ 64 V (by rw[zP];show x.length≤1100000;omega);have aM:(ks.take i).length=i:=by rw[qZ,Aa HM];omega
     have aG:=Rt (some ⟨b,o,none⟩) kc (ks.take i) x wr.drew (fun j y hy=>by
      rw[List.getElem?_take]at hy;split at hy
      ·exact Eu.below (Aa bB) (Aa J) j y hy
      ·cases hy) (by rw[aM];omega)
     rw[aM]at aG;simp only[Vv]at G;rw[←ht]at Q;have aS:=Ab aG;clear aG hd ht aA bW aM HD;by_cases D:P03.check x 64=0
     ·rw[if_neg (show ¬P03.check x 64≠0 by simpa using D)]at Q;rw[D]at G;have U:=Ab G;clear G;by_cases hm:x∈ks.take i
      ·rw[if_pos hm,if_pos (by decide)]at Q;subst Q;have aI:=Ab hm;clear hm D;go_wp2_with (go_at_call 84;refine(Aa U _).mono ?_;rintro e w2 ⟨rfl,rfl⟩)
       go_region_with_o (go_at_call 75;refine(Aa aS).mono ?_;rintro e w3 ⟨rfl,rfl⟩;rw[decide_eq_true (Aa aI)])
       all_goals go_wp2
       all_goals go_ret
       all_goals exact⟨rfl,Cm (n:=1) ((Aa R).trans ((Aa J).mono (Aa R).size))⟩
      ·rw[if_neg hm]at Q;have bV:=Ab Q;have aI:=Ab hm;clear Q hm D;go_wp2_with (go_at_call 84;refine(Aa U _).mono ?_;rintro e w2 ⟨rfl,rfl⟩)
       go_region_with_o (go_at_call 75;refine(Aa aS).mono ?_;rintro e w3 ⟨rfl,rfl⟩;rw[decide_eq_false (Aa aI)])
       all_goals go_wp2
       all_goals go_roundg g'
       all_goals first
        |(case measure=>omega)
        |skip
       all_goals exact⟨i+1,by omega,by go_num,bV,Ab (Cm (n:=1) (Aa J))⟩
     ·rw[if_pos D,if_pos D]at Q;obtain⟨e,he⟩:∃e,P03.check x 64=e:=⟨_,rfl⟩;rw[he]at Q D G;have bG:(e != 0)=true:=by simpa using D
      subst Q;have U:=Ab G;clear G D he;go_wp2_with (go_at_call 84;refine(Aa U _).mono ?_;rintro e' w2 ⟨rfl,rfl⟩)
      go_ret;exact⟨rfl,(Aa R).trans ((Aa J).mono (Aa R).size)⟩
   |zero=>
    have e1:(M:Int)=(i:Int):=by omega
    have Q:=Aa HD;rw[qM (by rw[Aa HM];omega)]at Q;simp only[P20.keysE]at Q;have Q:P20.checkL (lv+1) (Am ds)=C:=Q;have cB:=Ab Q;clear Q HD HC;go_wp2;clear x0 x1 x2 x3 x4 e1;have bZ:=J
    go_loopg [8] N (fun g s8 wx=>∃i:Nat,i+g=N∧s8=.int .i64 i∧Hid (P20.checkL (lv+1) (Am (ds.drop i))=C)∧Hid (Below W.heap.size W wx))
    case atStart=>exact⟨0,by omega,by go_num,cB,bZ⟩
    case round=>
     obtain⟨i2,bH,rfl,HS,J⟩:=hrel;have aH:=Aa J;obtain⟨⟨x0,_⟩,⟨x1,_⟩,⟨x2,_⟩,⟨x3,_⟩,⟨x4,_⟩⟩:=Ad ((aH.block H bE).trans (Aa bF));have S:Below w.heap.size w wr:=(Aa R).trans (aH.mono (Aa R).size);have aE:=Ab S;clear aH S;cases gk with
     |zero=>
      have e1:(N:Int)=(i2:Int):=by omega
      have hS:=Aa HS;rw[qM (by rw[Aa HN];omega)]at hS;simp only[Am,P20.checkL]at hS;subst hS;go_wp2;go_ret;exact⟨rfl,Aa aE⟩
     |succ g'=>
      first
      |exact absurd bH (by omega)
      |have bR:(i2:Int)<(N:Int):=by omega
       have bQ:IntKind.i64.wrap ((i2:Int)+1)=(i2:Int)+1:=qG _ (by omega);obtain⟨d,aC⟩:=V3 (Aa HN) (show i2<N by omega);have hS:=Aa HS;rw[H5 aC]at hS;have Z:=qN aC;have aD:=Aa bM d Z;have aQ:=Aa bT d Z;obtain⟨b2,o2,k1,t1,bN,bS,bP,bY,bK,bU,l1,rfl,rfl,y0,y1,y2,y3,y4,Y⟩:=Ce ((Aa bX).below (Aa J)) aC;have aB:=aD (lv+1) wr Y aQ (by omega);rw[show (((lv+1:Nat)):Int)=(lv:Int)+1 from by omega,Nd.val_eq]at aB;obtain⟨e,he⟩:∃e,(Nd.mk k1 t1 bN bS bP bY bK bU l1).bare.check (lv+1)=e:=⟨_,rfl⟩;rw[he]at aB hS;have bI:=Ab aB;clear aD aB he Y aC Z aQ HS;by_cases h0:e=0
       ·subst h0;rw[if_neg (by simp)]at hS;have HS:=Ab hS;clear hS;go_wp2_with (go_at_call 46;refine(Aa bI).mono ?_;rintro x' w2 ⟨rfl,aJ⟩)
        go_roundg g'
        case measure=>omega
        case rel=>exact⟨i2+1,by omega,by go_num,HS,Ab ((Aa J).trans (aJ.mono (Aa J).size))⟩
       ·rw[if_pos h0]at hS;subst hS;have bG:(e != 0)=true:=by simpa using h0
        clear h0;go_wp2_with (go_at_call 46;refine(Aa bI).mono ?_;rintro x' w2 ⟨rfl,aJ⟩)
        go_ret;exact⟨rfl,(Aa aE).trans (aJ.mono (Aa aE).size)⟩
theorem So(d:Nd):Pr d:=Nd.ind (p:=Pr) Qj d
theorem L7(d:Nd)(w:World)(G:d.In w)(hs:Sk d.bare):Calls Tryz.prog 17 #[d.val] w fun e w'=>e=.returned (.int .i64 (d.bare.check 1))∧Below w.heap.size w w':=by
 obtain⟨k,t,ka,kc,ks,da,dc,ds,l⟩:=d;obtain⟨H,J⟩:∃H,w.heap.size=H:=⟨_,rfl⟩;obtain⟨W,I⟩:∃W,w.alloc (.cells #[.int .u8 k,.string ⟨t.toArray⟩,.slice ka ks.length kc,.slice da ds.length dc,.int .i64 l] 26)=W:=⟨_,rfl⟩;have D:Below w.heap.size w W:=by rw[←I];exact(qV _ w).alloc (qJ _) _
 have N:W.heap[H]?=some (.cells #[.int .u8 k,.string ⟨t.toArray⟩,.slice ka ks.length kc,.slice da ds.length dc,.int .i64 l] 26):=by rw[←I,←J];exact qB _ _
 obtain⟨⟨Z,_⟩,⟨Y,_⟩,⟨x2,_⟩,⟨x3,_⟩,⟨x4,_⟩⟩:=Ad N;have hc:=So (.mk k t ka kc ks da dc ds l) 1 W (G.below D) hs (by omega);rw[Nd.val_eq]at hc;have X:=Ab hc;have R:=Ab I;have Q:=Ab D;have S:=Ab J;rw[Nd.val_eq];clear hc I D N G J;go_enter Tryz.func17,Tryz.ntmps17
 go_upto_region 1 with fail
 try rw[Aa S]
 rw[Aa R];go_wp2_with (go_at_call 46;refine(Aa X).mono ?_;rintro x w' ⟨rfl,U⟩)
 go_ret;exact⟨rfl,(Aa Q).trans (U.mono (Aa Q).size)⟩
namespace P20
mutual
def T.nodes:T→Nat
 | .mk _ _ _ ds _=>1+E5 ds
def E5:List T→Nat
 | []=>0
 |d::ds=>d.nodes+E5 ds
end
mutual
theorem T.size_nodes:∀(d:T) (lv:Nat),(d.size lv).2≤d.nodes
 | .mk k t ks ds l,lv=>by
  have:=H7 ds (lv-1);unfold T.size T.nodes;split
  ·simp
  ·show _+1≤_;omega
theorem H7:∀(ds:List T) (lv:Nat),(sizeL lv ds).2≤E5 ds
 | [],lv=>by simp[sizeL]
 |d::ds,lv=>by
  have:=T.size_nodes d lv;have:=H7 ds lv;unfold sizeL E5;show _+_≤_;omega
end
theorem Jc:∀ds:List T,ds.length≤E5 ds
 | []=>qJ _
 |d::ds=>by
  have h1:=Jc ds;have h2:1≤d.nodes:=by cases d;unfold T.nodes;omega
  unfold E5;simp only[qE];omega
mutual
theorem T.nodes_wt:∀(d:T),d.nodes≤d.wt
 | .mk k t ks ds l=>by
  have:=Yl ds;unfold T.nodes T.wt;omega
theorem Yl:∀(ds:List T),E5 ds≤Xi ds
 | []=>qJ _
 |d::ds=>by
  have:=T.nodes_wt d;have:=Yl ds;unfold E5 Xi;omega
end
mutual
def okF:T→Prop
 | .mk k t ks ds l=>t.length≤100000∧ks.length≤100000∧(∀x∈ks,x.length≤100000)∧(T.mk k t ks ds l).nodes≤100000∧Ie ds
def Ie:List T→Prop
 | []=>True
 |d::ds=>okF d∧Ie ds
end
theorem Me:∀ds:List T,Ie ds↔∀d∈ds,okF d
 | []=>by simp[Ie]
 |d::ds=>by simp[Ie,Me ds]
theorem okF.kid{k:Nat}{t:List UInt8}{ks:List (List UInt8)}{ds:List T}{l:Int}(h:okF (.mk k t ks ds l)):t.length≤100000∧ks.length≤100000∧(∀x∈ks,x.length≤100000)∧ds.length≤100000∧∀d∈ds,okF d:=by
 unfold okF at h;have h4:=h.2.2.2.1;unfold T.nodes at h4;have:=Jc ds;exact⟨h.1,h.2.1,h.2.2.1,by omega,(Me _).1 h.2.2.2.2⟩
theorem okF.size{d:T}(h:okF d)(lv:Nat):(d.size lv).2≤1000000000:=by
 have:=T.size_nodes d lv;obtain⟨k,t,ks,ds,l⟩:=d;unfold okF at h;have:=h.2.2.2.1;omega
mutual
theorem okF.sk:∀{d:T},okF d→Sk d
 | .mk k t ks ds l,h=>by
  obtain⟨h1,h2,h3,h4,_⟩:=h.kid;unfold okF at h;unfold Sk;exact⟨by omega,by omega,fun x hx=>by have:=h3 x hx;omega,by omega,Ie.sk h.2.2.2.2⟩
theorem Ie.sk:∀{ds:List T},Ie ds→Tu ds
 | [],h=>trivial
 |d::ds,h=>by
  unfold Ie at h;unfold Tu;exact⟨okF.sk h.1,Ie.sk h.2⟩
end
mutual
theorem T.check_okF:∀(d:T) (lv:Nat),d.check lv=0→d.wt≤100000→okF d
 | .mk k t ks ds l,lv,h,hw=>by
  obtain⟨h1,h2,h3⟩:=X6 h;obtain⟨_,h5⟩:=Xk h;have h4:=T.nodes_wt (.mk k t ks ds l);simp only[T.keys,T.kids,T.text]at h1 h2 h3;have h6:(T.mk k t ks ds l).wt=1+t.length+Wo ks+Xi ds:=by unfold T.wt;rfl
  have h7:=Y3 ds;unfold okF;exact⟨by omega,by omega,fun x hx=>by have:=h2 x hx;omega,by omega,X4 ds (lv+1) h5 (by omega)⟩
theorem X4:∀(ds:List T) (lv:Nat),checkL lv ds=0→Xi ds≤100000→Ie ds
 | [],lv,h,hw=>trivial
 |d::ds,lv,h,hw=>by
  rw[V7]at h;unfold Xi at hw;unfold Ie;exact⟨T.check_okF d lv (h d List.mem_cons_self) (by omega),X4 ds lv ((V7 _ _).2 (fun x hx=>h x (List.mem_cons_of_mem _ hx))) (by omega)⟩
end
end P20
end Go.Proofs.YtnjokdbblmlhhaaGreatDoor
