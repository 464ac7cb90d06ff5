/- Lemmas of this claim. -/
import Derived.Test.YtnjokdbblmlhhaaGreatDoorGN20Z
import Derived.Test.YtnjokdbblmlhhaaGreatDoorGPZ
import Derived.Test.YtnjokdbblmlhhaaGreatDoorGW20Z
import Derived.Test.YtnjokdbblmlhhaaGreatDoorGR17Z
import Derived.Test.YtnjokdbblmlhhaaGreatDoorGW18Z
import Derived.Test.YtnjokdbblmlhhaaGreatDoorGR18Z
import Derived.Laws.Concat
import Derived.Deep.CutRange
import Derived.Deep.CutBlock
import Derived.Deep.RegionWith
import Derived.Shelf.RegionOpenPlain
import Derived.RangeFuncRecord
namespace Go.Proofs.YtnjokdbblmlhhaaGreatDoor
set_option linter.unusedVariables false
set_option linter.unusedSimpArgs false
open Go.RowKit
set_option maxRecDepth 100000 in
theorem G3 (a a':Option Addr) (c c':Nat) (ks ks':List (List UInt8)) (w:World) (h:Eu w a ks) (h':Eu w a' ks') (hl:ks.length≤maxLen) (hl':ks'.length≤maxLen) :
  Calls Tryz.prog 49 #[.slice a ks.length c,.slice a' ks'.length c'] w fun e w'=>e=.returned (.bool (decide (ks=ks')))∧∃ q,w'=w.drewN q:=by
 unfold maxLen at hl hl'
 by_cases hn:ks.length=ks'.length
 ·obtain ⟨n,hN⟩:∃ n,ks.length=n:=⟨_,rfl⟩
  rw [← hn,hN]
  rw [hN] at hl
  have HN:=Ab hN
  have HE:=Ab (hn.symm.trans hN)
  have HI:=Ab h
  have HI':=Ab h'
  clear hN hn h h' hl'
  go_enter Tryz.func49,Tryz.ntmps49
  go_wp2
  go_loopg [5] n (fun g s5 wx=>∃ i m:Nat,i+g=n∧s5=.int .i64 i∧Hid (decide (ks=ks')=decide (ks.drop i=ks'.drop i))∧w.drewN m=wx)
  case atStart=>exact ⟨0,0,by omega,by go_num,Ab rfl,rfl⟩
  case round=>
   obtain ⟨i,m,hig,rfl,HD,rfl⟩:=hrel
   cases gk with
   | zero=>
    have e1:(n:Int)=(i:Int):=by omega
    have HX:=Ab (show i=n by omega)
    go_wp2
    go_ret
    refine ⟨Bn ?_,m,rfl⟩
    rw [Aa HD,List.drop_of_length_le (by rw [Aa HN];have:=Aa HX;omega),List.drop_of_length_le (by rw [Aa HE];have:=Aa HX;omega)]
    rfl
   | succ g'=>
    have hlt:(i:Int)<(n:Int):=by omega
    have hki:IntKind.i64.wrap ((i:Int)+1)=(i:Int)+1:=IntWalk.i64_in _ (by omega)
    obtain ⟨x,hx⟩:=V3 (Aa HN) (show i<n by omega)
    obtain ⟨y,hy⟩:=V3 (Aa HE) (show i<n by omega)
    obtain ⟨b,o,rfl,hc⟩:=Aa HI i x hx
    obtain ⟨b',o',rfl,hc'⟩:=Aa HI' i y hy
    have hdx:ks.drop i=x :: ks.drop (i+1):=by
     obtain ⟨h1,h2⟩:=List.getElem?_eq_some_iff.1 hx
     rw [List.drop_eq_getElem_cons h1,h2]
    have hdy:ks'.drop i=y :: ks'.drop (i+1):=by
     obtain ⟨h1,h2⟩:=List.getElem?_eq_some_iff.1 hy
     rw [List.drop_eq_getElem_cons h1,h2]
    have HDX:=Ab hdx
    have HDY:=Ab hdy
    clear hdx hdy hx hy
    by_cases hxy:x=y
    ·subst hxy
     have hbe:(x != x)=false:=by simp
     go_wp2
     go_region
     go_wp2
     go_roundg g'
     case measure=>omega
     case rel=>
      refine ⟨i+1,m+1,by omega,by go_num,Ab ?_,rfl⟩
      rw [Aa HD,Aa HDX,Aa HDY]
      simp
    ·have hbe:(x == y)=false:=by simpa using hxy
     have HX:=Ab hxy
     clear hxy
     go_wp2
     go_region
     go_wp2
     go_ret
     refine ⟨Bn ?_,m+1,rfl⟩
     rw [Aa HD,Aa HDX,Aa HDY]
     have:=Aa HX
     simp [this]
 ·have jn:((ks.length:Int) != (ks'.length:Int))=true:=by simp;omega
  have hr:decide (ks=ks')=false:=decide_eq_false (fun e=>hn (by rw [e]))
  rw [hr]
  clear hr hn h h'
  go_enter Tryz.func49,Tryz.ntmps49
  go_wp2
  go_ret
  exact ⟨rfl,0,rfl⟩
def Lb (d:Nd):Prop:=∀ (e:Nd) (w:World),d.In w→e.In w→Calls Tryz.prog 20 #[d.val,e.val] w fun x w'=>x=.returned (.bool (d.bare.same e.bare))∧Below w.heap.size w w'
theorem Pc (w:World) (o1 o2:Obj):∃ W,(w.alloc o1).alloc o2=W∧Below w.heap.size w W∧W.heap[w.heap.size]?=some o1∧W.heap[w.heap.size+1]?=some o2∧W.heap.size=w.heap.size+1+1:=by
 have e2:=World.alloc_heap_new (w.alloc o1) o2
 rw [World.size_alloc] at e2
 exact ⟨_,rfl,((Below.refl _ w).alloc (Nat.le_refl _) _).alloc (by simp) _,(Below.heap_alloc _ _ _ (by simp)).trans (World.alloc_heap_new w _),e2,by simp⟩
theorem Ry {t t':List UInt8} (h:t≠t'):(t == t')=false:=by simpa using h
set_option maxRecDepth 100000 in
set_option maxHeartbeats 4000000 in
theorem Od (k:Nat) (t:List UInt8) (ka:Option Addr) (kc:Nat) (ks:List (List UInt8)) (da:Option Addr) (dc:Nat) (ds:List Nd) (l:Int) (hds:∀ d∈ds,Lb d):Lb (.mk k t ka kc ks da dc ds l):=by
 intro e w hin hin'
 obtain ⟨k',t',ka',kc',ks',da',dc',ds',l'⟩:=e
 have hf:=hin.fit
 have hf':=hin'.fit
 have e1:=hf.keysL
 have e2:=hf.kidsL
 have e3:=hf'.keysL
 have e4:=hf'.kidsL
 simp only [Nd.keys,Nd.kids] at e1 e2 e3 e4
 obtain ⟨W,hW,hb,g0,g1,hs⟩:=Pc w (.cells #[.int .u8 k,.string ⟨t.toArray⟩,.slice ka ks.length kc,.slice da ds.length dc,.int .i64 l] 26) (.cells #[.int .u8 k',.string ⟨t'.toArray⟩,.slice ka' ks'.length kc',.slice da' ds'.length dc',.int .i64 l'] 26)
 obtain ⟨⟨x0,_⟩,⟨x1,_⟩,⟨x2,_⟩,⟨x3,_⟩,⟨x4,_⟩⟩:=Ad g0
 obtain ⟨⟨y0,_⟩,⟨y1,_⟩,⟨y2,_⟩,⟨y3,_⟩,⟨y4,_⟩⟩:=Ad g1
 have heq:=G3 ka ka' kc kc' ks ks' W (Eu.below hf.keys hb) (Eu.below hf'.keys hb) e1 e3
 have hk1:=hin.kids
 have hk2:=hin'.kids
 simp only [Nd.da,Nd.kids] at hk1 hk2
 have HK1:=Ab hk1
 have HK2:=Ab hk2
 have HDS:=Ab hds
 have HW:=Ab hW
 have HB:=Ab hb
 have HG0:=Ab g0
 have HG1:=Ab g1
 unfold maxLen at e2
 rw [Nd.val_eq,Nd.val_eq]
 simp only [Nd.bare,P20.T.same]
 clear hW g0 g1 hin hin' hf hf' hds e1 e3 e4 hb hk1 hk2
 by_cases hk:k=k'
 rotate_left
 ·have jk:((k:Int) != (k':Int))=true:=by simp;omega
  rw [show (k == k')=false from beq_eq_false_iff_ne.2 hk]
  clear hk heq
  go_enter Tryz.func20,Tryz.ntmps20
  go_upto_region 1 with fail
  rw [Aa HW]
  go_wp2
  go_ret
  exact ⟨rfl,Aa HB⟩
 subst hk
 have jk:((k:Int) != (k:Int))=false:=by simp
 by_cases ht:t=t'
 rotate_left
 ·have jt:=Ry ht
  rw [show (k == k)=true from beq_self_eq_true k,show (t == t')=false from beq_eq_false_iff_ne.2 ht]
  clear ht heq
  go_enter Tryz.func20,Tryz.ntmps20
  go_upto_region 1 with fail
  rw [Aa HW]
  go_wp2
  go_ret
  exact ⟨rfl,Aa HB⟩
 subst ht
 rw [show (k == k)=true from beq_self_eq_true k,show (t == t)=true from beq_self_eq_true t]
 by_cases hks:ks=ks'
 rotate_left
 ·rw [show (ks == ks')=false from beq_eq_false_iff_ne.2 hks]
  rw [decide_eq_false hks] at heq
  have HE:=Ab heq
  clear hks heq
  go_enter Tryz.func20,Tryz.ntmps20
  go_upto_region 1 with fail
  rw [Aa HW]
  go_wp2_with (go_at_call 49;refine (Aa HE).mono ?_;rintro x w' ⟨rfl,q,rfl⟩)
  go_ret
  exact ⟨rfl,Cm (n:=q) (Aa HB)⟩
 rw [show (ks == ks')=true from beq_iff_eq.2 hks]
 rw [decide_eq_true hks] at heq
 have HE:=Ab heq
 clear hks heq
 by_cases hn:ds.length=ds'.length
 rotate_left
 ·have jn:((ds.length:Int) != (ds'.length:Int))=true:=by simp;omega
  have hr:P20.sameL (Am ds) (Am ds')=false:=by
   cases hb:P20.sameL (Am ds) (Am ds') with
   | false=>rfl
   | true=>have:=P20.sameL_len hb;rw [Bs,Bs] at this;exact absurd this hn
  rw [hr]
  clear hr hn
  go_enter Tryz.func20,Tryz.ntmps20
  go_upto_region 1 with fail
  rw [Aa HW]
  go_wp2_with (go_at_call 49;refine (Aa HE).mono ?_;rintro x w' ⟨rfl,q,rfl⟩)
  go_ret
  exact ⟨rfl,Cm (n:=q) (Aa HB)⟩
 obtain ⟨n,hN⟩:∃ n,ds.length=n:=⟨_,rfl⟩
 have HN':=Ab (hn.symm.trans hN)
 have HN:=Ab hN
 rw [hN] at x3 e2
 rw [hn.symm.trans hN] at y3
 have HW2:=Ab (show (w.alloc (.cells #[.int .u8 k,.string ⟨t.toArray⟩,.slice ka ks.length kc,.slice da n dc,.int .i64 l] 26)).alloc (.cells #[.int .u8 k,.string ⟨t.toArray⟩,.slice ka' ks'.length kc',.slice da' n dc',.int .i64 l'] 26)=W by rw [← hN];have:=Aa HW;rw [← hn] at this;exact this)
 have HG0':=Ab (show W.heap[w.heap.size]?=some (.cells #[.int .u8 k,.string ⟨t.toArray⟩,.slice ka ks.length kc,.slice da n dc,.int .i64 l] 26) by rw [← hN];exact Aa HG0)
 have HG1':=Ab (show W.heap[w.heap.size+1]?=some (.cells #[.int .u8 k,.string ⟨t.toArray⟩,.slice ka' ks'.length kc',.slice da' n dc',.int .i64 l'] 26) by rw [← hn.symm.trans hN];exact Aa HG1)
 have hl1:w.heap.size+1<W.heap.size:=by omega
 rw [show ds'.length=n from hn.symm.trans hN,hN]
 clear hn hN HW HG0 HG1
 go_enter Tryz.func20,Tryz.ntmps20
 go_upto_region 1 with fail
 rw [Aa HW2]
 go_wp2_with (go_at_call 49;refine (Aa HE).mono ?_;rintro x w' ⟨rfl,q,rfl⟩)
 clear x0 x1 x2 x3 x4 y0 y1 y2 y3 y4
 go_loopg [5] n (fun g s5 wx=>∃ i:Nat,i+g=n∧s5=.int .i64 i∧Hid (P20.sameL (Am ds) (Am ds')=P20.sameL (Am (ds.drop i)) (Am (ds'.drop i)))∧Hid (Below W.heap.size W wx))
 case atStart=>exact ⟨0,by omega,by go_num,Ab rfl,Ab (Cm (n:=q) (Below.refl _ W))⟩
 case round=>
  obtain ⟨i,hig,rfl,HS,HBX⟩:=hrel
  have hbx:=Aa HBX
  obtain ⟨⟨x0,_⟩,⟨x1,_⟩,⟨x2,_⟩,⟨x3,_⟩,⟨x4,_⟩⟩:=Ad ((hbx.block w.heap.size (by omega)).trans (Aa HG0'))
  obtain ⟨⟨y0,_⟩,⟨y1,_⟩,⟨y2,_⟩,⟨y3,_⟩,⟨y4,_⟩⟩:=Ad ((hbx.block (w.heap.size+1) hl1).trans (Aa HG1'))
  have hbw:Below w.heap.size w wr:=(Aa HB).trans (hbx.mono (Aa HB).size)
  have HBW:=Ab hbw
  clear hbx hbw
  cases gk with
  | zero=>
   have e1:(n:Int)=(i:Int):=by omega
   have HQ:=Ab (show i=n by omega)
   go_wp2
   go_ret
   refine ⟨Bn ?_,Aa HBW⟩
   rw [Aa HS,List.drop_of_length_le (by rw [Aa HN];have:=Aa HQ;omega),List.drop_of_length_le (by rw [Aa HN'];have:=Aa HQ;omega)]
   rfl
  | succ g'=>
   have hlt:(i:Int)<(n:Int):=by omega
   have hki:IntKind.i64.wrap ((i:Int)+1)=(i:Int)+1:=IntWalk.i64_in _ (by omega)
   obtain ⟨d,hg1⟩:=V3 (Aa HN) (show i<n by omega)
   obtain ⟨e,hg2⟩:=V3 (Aa HN') (show i<n by omega)
   have hS:=Aa HS
   rw [Cg hg1,Cg hg2] at hS
   simp only [P20.sameL] at hS
   have hcl0:=Aa HDS d (List.mem_of_getElem? hg1) e
   obtain ⟨b,o,k1,t1,ka1,kc1,ks1,da1,dc1,ds1,l1,rfl,rfl,c0,c1,c2,c3,c4,hin⟩:=Ce ((Aa HK1).below (Aa HBW)) hg1
   obtain ⟨b',o',k2,t2,ka2,kc2,ks2,da2,dc2,ds2,l2,rfl,rfl,c0',c1',c2',c3',c4',hin'⟩:=Ce ((Aa HK2).below (Aa HBW)) hg2
   obtain ⟨r,hr⟩:∃ r,(Nd.mk k1 t1 ka1 kc1 ks1 da1 dc1 ds1 l1).bare.same (Nd.mk k2 t2 ka2 kc2 ks2 da2 dc2 ds2 l2).bare=r:=⟨_,rfl⟩
   have hcl:=hcl0 wr.drew hin.drew hin'.drew
   rw [hr,Nd.val_eq,Nd.val_eq] at hcl
   rw [hr] at hS
   have HCL:=Ab hcl
   have HS2:=Ab hS
   have hb1:=B3 c0
   have hb2:=B3 c0'
   have hmx:Tryz.prog.follows .mixedOrders=true:=by kernel_rfl
   clear hcl0 hcl hS hr hg1 hg2 hin hin' HS
   go_wp2
   go_region_with_o (first
    | (go_at_call 20;refine (Aa HCL).mono ?_;rintro x w2 ⟨rfl,hbd⟩;have hb2':Below wr.heap.size wr w2:=⟨hbd.os,hbd.tape,hbd.output,hbd.size,hbd.block⟩))
   all_goals
    cases r with
    | false=>
     go_wp2
     go_ret
     refine ⟨Bn ?_,(Aa HBW).trans (hb2'.mono (Aa HBW).size)⟩
     rw [Aa HS2]
     rfl
    | true=>
     have hS:=Aa HS2
     rw [Bool.true_and] at hS
     have HS:=Ab hS
     have HBN:=Ab ((Aa HBX).trans (hb2'.mono (Aa HBX).size))
     clear hS
     go_wp2
     go_roundg g'
     case measure=>omega
     case rel=>exact ⟨i+1,by omega,by go_num,HS,HBN⟩
end Go.Proofs.YtnjokdbblmlhhaaGreatDoor
namespace Go.Proofs.YtnjokdbblmlhhaaGreatDoor
set_option linter.unusedVariables false
set_option linter.unusedSimpArgs false
namespace P20
def shortKs (ks:List (List UInt8)):Bool:=ks.all (fun x=>decide (x.length≤200))
mutual
def T.small:Nat→T→Nat→Option Nat
 | lv,.mk k t ks ds l,n=>if lv=0∨n=0∨5000<t.length∨200<ks.length∨shortKs ks=false then none else smallL (lv - 1) ds (n - 1)
def smallL:Nat→List T→Nat→Option Nat
 | _,[],n=>some n
 | lv,d :: ds,n=>match d.small lv n with
  | none=>none
  | some m=>smallL lv ds m
end
theorem Ke {ks:List (List UInt8)} (h:¬ shortKs ks=false):∀ x∈ks,x.length≤200:=by
 intro x hx
 simp [shortKs] at h
 exact h x hx
mutual
theorem T.size_le:∀ (d:T) (lv:Nat),(d.size lv).1≤lv
 | .mk k t ks ds l,lv=>by
  have:=sizeL_le ds (lv - 1)
  unfold T.size
  split
  ·simp
  ·show _+1≤lv;omega
theorem sizeL_le:∀ (ds:List T) (lv:Nat),(sizeL lv ds).1≤lv
 | [],lv=>by simp [sizeL]
 | d :: ds,lv=>by
  have:=T.size_le d lv
  have:=sizeL_le ds lv
  unfold sizeL
  show max _ _≤lv
  omega
end
mutual
theorem T.small_ok:∀ (d:T) (lv n m:Nat),d.small lv n=some m→n≤1000000000→1≤lv∧n=m+(d.size lv).2∧1≤(d.size lv).2∧E6 d∧d.cut lv=d
 | .mk k t ks ds l,lv,n,m,h,hn=>by
  unfold T.small at h
  split at h
  ·cases h
  ·rename_i h0
   simp only [not_or] at h0
   obtain ⟨h1,h2,h3,h4,h5⟩:=h0
   obtain ⟨q1,q2,q3,q4,q5⟩:=J9 ds (lv - 1) (n - 1) m h (by omega)
   have hs:(T.mk k t ks ds l).size lv=((sizeL (lv - 1) ds).1+1,(sizeL (lv - 1) ds).2+1):=by unfold T.size;rw [if_neg h1]
   rw [hs]
   refine ⟨by omega,by show n=m+(_+1);omega,by show 1≤_+1;omega,?_,?_⟩
   ·unfold E6
    exact ⟨by omega,by omega,fun x hx=>by have:=Ke h5 x hx;omega,by omega,q3⟩
   ·unfold T.cut
    split
    ·rw [q5]
    ·rename_i hl
     rw [q4 (by omega)]
theorem J9:∀ (ds:List T) (lv n m:Nat),smallL lv ds n=some m→n≤1000000000→n=m+(sizeL lv ds).2∧ds.length≤(sizeL lv ds).2∧Hn ds∧(lv=0→ds=[])∧cutL lv ds=ds
 | [],lv,n,m,h,hn=>by
  simp only [smallL,Option.some.injEq] at h
  refine ⟨by simp [sizeL,h],by simp [sizeL],trivial,fun _=>rfl,rfl⟩
 | d :: ds,lv,n,m,h,hn=>by
  unfold smallL at h
  split at h
  ·cases h
  ·rename_i m1 hm1
   obtain ⟨q1,q2,q3,q4,q5⟩:=T.small_ok d lv n m1 hm1 hn
   obtain ⟨r1,r2,r3,r4,r5⟩:=J9 ds lv m1 m h (by omega)
   unfold sizeL Hn cutL
   refine ⟨by show n=m+(_+_);omega,by show _+1≤_+_;omega,⟨q4,r3⟩,fun e=>by omega,by rw [q5,r5]⟩
end
end P20
end Go.Proofs.YtnjokdbblmlhhaaGreatDoor
namespace Go.Proofs.YtnjokdbblmlhhaaGreatDoor
set_option linter.unusedVariables false
set_option linter.unusedSimpArgs false
open Go.RowKit
theorem Qd (d:Nd):Lb d:=Nd.ind (p:=Lb) Od d
def Ld (d:Nd):Prop:=∀ (lv:Nat) (w:World),d.In w→lv≤1000→(d.bare.size lv).2≤1000000000→Calls Tryz.prog 18 #[d.val,.int .i64 lv] w fun x w'=>x=.returned (.tuple #[.int .i64 (d.bare.size lv).1,.int .i64 (d.bare.size lv).2])∧Below w.heap.size w w'
theorem N3 (lv:Nat) {ds:List Nd} {i:Nat} {d:Nd} (h:ds[i]?=some d):P20.sizeL lv (Am (ds.take (i+1)))=(max (P20.sizeL lv (Am (ds.take i))).1 (d.bare.size lv).1,(P20.sizeL lv (Am (ds.take i))).2+(d.bare.size lv).2):=by
 have e:∀ (a:List P20.T) (x:P20.T),P20.sizeL lv (a ++ [x])=(max (P20.sizeL lv a).1 (x.size lv).1,(P20.sizeL lv a).2+(x.size lv).2):=fun a x=>by
  induction a with
  | nil=>simp [P20.sizeL]
  | cons y a ih=>simp only [List.cons_append,P20.sizeL,ih];refine Prod.ext ?_ ?_<;>simp only<;>omega
 have ht:ds.take (i+1)=ds.take i ++ [d]:=by rw [List.take_add_one,h];rfl
 rw [ht,Cu]
 exact e _ _
theorem Jj (lv:Nat) (ds:List Nd) (i:Nat):(P20.sizeL lv (Am (ds.take i))).2≤(P20.sizeL lv (Am ds)).2:=by
 have e:∀ (a b:List P20.T),(P20.sizeL lv (a ++ b)).2=(P20.sizeL lv a).2+(P20.sizeL lv b).2:=fun a b=>by
  induction a with
  | nil=>simp [P20.sizeL]
  | cons y a ih=>simp only [List.cons_append,P20.sizeL,ih];omega
 have:=e (Am (ds.take i)) (Am (ds.drop i))
 rw [← Cu,List.take_append_drop] at this
 omega
theorem Qs (lv:Nat) {ds:List Nd} {d:Nd} (h:d∈ds):(d.bare.size lv).2≤(P20.sizeL lv (Am ds)).2:=by
 induction ds with
 | nil=>simp at h
 | cons y a ih=>
  simp only [Am,P20.sizeL]
  rcases List.mem_cons.1 h with rfl | h
  ·omega
  ·have:=ih h;omega
set_option maxRecDepth 100000 in
set_option maxHeartbeats 4000000 in
theorem Oy (k:Nat) (t:List UInt8) (ka:Option Addr) (kc:Nat) (ks:List (List UInt8)) (da:Option Addr) (dc:Nat) (ds:List Nd) (l:Int) (hds:∀ d∈ds,Ld d):Ld (.mk k t ka kc ks da dc ds l):=by
 intro lv w hin hlv hsz
 have e2:=hin.fit.kidsL
 simp only [Nd.kids] at e2
 obtain ⟨n,hN⟩:∃ n,ds.length=n:=⟨_,rfl⟩
 have hk1:=hin.kids
 simp only [Nd.da,Nd.kids] at hk1
 obtain ⟨W,hW⟩:∃ W,w.alloc (.cells #[.int .u8 k,.string ⟨t.toArray⟩,.slice ka ks.length kc,.slice da n dc,.int .i64 l] 26)=W:=⟨_,rfl⟩
 have hb:Below w.heap.size w W:=by rw [← hW];exact (Below.refl _ w).alloc (Nat.le_refl _) _
 have g0:W.heap[w.heap.size]?=some (.cells #[.int .u8 k,.string ⟨t.toArray⟩,.slice ka ks.length kc,.slice da n dc,.int .i64 l] 26):=by rw [← hW];exact World.alloc_heap_new _ _
 have hl0:w.heap.size<W.heap.size:=(Array.getElem?_eq_some_iff.1 g0).1
 rw [Nd.val_eq,hN]
 have HK1:=Ab hk1
 have HDS:=Ab hds
 have HW:=Ab hW
 have HB:=Ab hb
 have HG0:=Ab g0
 have HN:=Ab hN
 unfold maxLen at e2
 rw [hN] at e2
 simp only [Nd.bare,P20.T.size] at hsz ⊢
 clear hW g0 hin hds hb hk1 hN
 cases lv with
 | zero=>
  rw [if_pos rfl]
  clear hsz
  go_enter Tryz.func18,Tryz.ntmps18
  go_upto_region 1 with fail
  rw [Aa HW]
  go_wp2
  exact bodyPost_ret (results_tmp2 rfl _ _ _) rfl ⟨rfl,Aa HB⟩
 | succ lv=>
  rw [if_neg (by omega)] at hsz ⊢
  simp only [Nat.add_sub_cancel] at hsz ⊢
  have hlw:IntKind.i64.wrap (((lv+1:Nat):Int) - 1)=(lv:Int):=by rw [IntWalk.i64_in _ (by omega)];omega
  have jl:(1:Int)≤((lv+1:Nat):Int):=by omega
  obtain ⟨L1,hL1⟩:∃ L1:Int,((lv+1:Nat):Int)=L1:=⟨_,rfl⟩
  rw [hL1] at hlw jl ⊢
  have HSZ:=Ab hsz
  have HL1:=Ab hL1
  clear hsz hL1
  go_enter Tryz.func18,Tryz.ntmps18
  go_upto_region 1 with fail
  rw [Aa HW]
  go_wp2
  go_loopg [6,7,8] n (fun g s6 s7 s8 wx=>∃ (i x y:Nat),i+g=n∧s6=.int .i64 x∧s7=.int .i64 y∧s8=.int .i64 i∧Hid (P20.sizeL lv (Am (ds.take i))=(x,y - 1))∧1≤y∧Hid (Below W.heap.size W wx))
  case atStart=>exact ⟨0,0,1,by omega,by go_num,by go_num,by go_num,Ab (by simp [Am,P20.sizeL]),by omega,Ab (Below.refl _ _)⟩
  case round=>
   obtain ⟨i,x,y,hig,rfl,rfl,rfl,HS,hy1,HBX⟩:=hrel
   have hbx:=Aa HBX
   obtain ⟨⟨x0,_⟩,⟨x1,_⟩,⟨x2,_⟩,⟨x3,_⟩,⟨x4,_⟩⟩:=Ad ((hbx.block w.heap.size hl0).trans (Aa HG0))
   have hbw:Below w.heap.size w wr:=(Aa HB).trans (hbx.mono (Aa HB).size)
   have HBW:=Ab hbw
   have hxl:x≤lv:=by have:=P20.sizeL_le (Am (ds.take i)) lv;rw [Aa HS] at this;exact this
   have hyl:y≤1000000000:=by have:=Jj lv ds i;rw [Aa HS] at this;have:=Aa HSZ;simp only at *;omega
   clear hbx hbw
   cases gk with
   | zero=>
    have e1:(n:Int)=(i:Int):=by omega
    have HQ:=Ab (show i=n by omega)
    have hkx:IntKind.i64.wrap ((x:Int)+1)=(x:Int)+1:=IntWalk.i64_in _ (by omega)
    go_wp2
    refine bodyPost_ret (results_tmp2 rfl _ _ _) rfl ⟨?_,Aa HBW⟩
    have h9:=Aa HS
    rw [Aa HQ,← Aa HN,List.take_length] at h9
    rw [h9]
    show Ending.returned (.tuple #[.int .i64 ((x:Int)+1),.int .i64 (y:Int)])=_
    simp only
    rw [show (((x+1:Nat)):Int)=(x:Int)+1 from by omega,show (((y - 1+1:Nat)):Int)=(y:Int) from by omega]
   | succ g'=>
    have hlt:(i:Int)<(n:Int):=by omega
    have hki:IntKind.i64.wrap ((i:Int)+1)=(i:Int)+1:=IntWalk.i64_in _ (by omega)
    obtain ⟨d,hg1⟩:=V3 (Aa HN) (show i<n by omega)
    have htk:=N3 lv hg1
    rw [Aa HS] at htk
    have hmem:=Qs lv (List.mem_of_getElem? hg1)
    have hcl0:=Aa HDS d (List.mem_of_getElem? hg1)
    obtain ⟨b,o,k1,t1,ka1,kc1,ks1,da1,dc1,ds1,l1,rfl,rfl,c0,c1,c2,c3,c4,hin⟩:=Ce ((Aa HK1).below (Aa HBW)) hg1
    obtain ⟨p,hp⟩:∃ p,(Nd.mk k1 t1 ka1 kc1 ks1 da1 dc1 ds1 l1).bare.size lv=p:=⟨_,rfl⟩
    have hp1:p.1≤lv:=by rw [← hp];exact P20.T.size_le _ _
    rw [hp] at htk hmem
    have hp2:p.2≤1000000000:=by have:=Aa HSZ;omega
    have hcl:=hcl0 lv wr hin (by omega) (by rw [hp];exact hp2)
    rw [Nd.val_eq,hp] at hcl
    have hyp:y - 1+p.2≤1000000000:=by
     have:=Jj lv ds (i+1)
     rw [htk] at this
     have:=Aa HSZ
     simp only at *
     omega
    have HCL:=Ab hcl
    have HTK:=Ab htk
    have hb1:=B3 c0
    have hky:IntKind.i64.wrap ((y:Int)+(p.2:Int))=(y:Int)+(p.2:Int):=IntWalk.i64_in _ (by omega)
    clear hcl0 hcl hg1 hin hp htk hmem HS
    go_wp2_with (go_at_call 18;refine (Aa HCL).mono ?_;rintro x' w2 ⟨rfl,hbd⟩)
    have HBN:=Ab ((Aa HBX).trans (hbd.mono (Aa HBX).size))
    go_roundg g'
    case measure=>omega
    case rel=>exact ⟨i+1,max x p.1,y+p.2,by omega,by go_num,by go_num,by go_num,Ab (by rw [Aa HTK];refine Prod.ext rfl ?_;show y - 1+p.2=y+p.2 - 1;omega),by omega,HBN⟩
theorem Pz (d:Nd):Ld d:=Nd.ind (p:=Ld) Oy d
end Go.Proofs.YtnjokdbblmlhhaaGreatDoor
namespace Go.Proofs.YtnjokdbblmlhhaaGreatDoor
set_option linter.unusedVariables false
set_option linter.unusedSimpArgs false
open Go.RowKit
theorem Gs {W:World} {g:Nat} {t:TypeId} {a:Value} (h:W.heap[g]?=some (.cells #[a] t)):W.cell? ⟨g,0,none⟩=some a∧W.frozen? ⟨g,0,none⟩=false:=by
 simp [World.cell?,World.frozen?,h]
theorem Qm {W:World} {g:Nat} {t:TypeId} {a:Value} (h:W.heap[g]?=some (.cells #[a] t)) (v:Value):(W.setCell ⟨g,0,none⟩ v).heap[g]?=some (.cells #[v] t):=by
 simp [World.setCell,Array.getElem?_modify,h]
theorem L6 (W:World) (g:Nat) (v:Value):W.grownBy (W.setCell ⟨g,0,none⟩ v) (some g):=
 ⟨rfl,rfl,rfl,by simp,fun i hi hne=>Below.heap_setCell _ _ _ _ (by show i≠g;rintro rfl;exact hne rfl)⟩
def Qy (w:World) (b:Nat) (o:Option Nat) (x:Ending) (w':World):Prop:=
 x=.returned (.bool o.isSome)∧Hid (w.grownBy w' (some b))∧∀ m,o=some m→w'.heap[b]?=some (.cells #[.int .i64 (m:Nat)] 3)
def Ig (d:Nd):Prop:=∀ (lv b n:Nat) (w:World),d.In w→lv≤1000→n≤1000000000→¬ d.blk b→w.heap[b]?=some (.cells #[.int .i64 (n:Nat)] 3) →
 Calls Tryz.prog 37 #[d.val,.int .i64 lv,.pointer (some ⟨b,0,none⟩)] w (Qy w b (d.bare.small lv n))
theorem Lx (lv:Nat) {ds:List Nd} {i:Nat} {d:Nd} (h:ds[i]?=some d) (m:Nat):P20.smallL lv (Am (ds.drop i)) m=match d.bare.small lv m with | none=>none | some q=>P20.smallL lv (Am (ds.drop (i+1))) q:=by
 rw [Cg h]
 rfl
theorem Mw {ks:List (List UInt8)} {i:Nat} {x:List UInt8} (h:ks[i]?=some x):P20.shortKs (ks.drop i)=(decide (x.length≤200) && P20.shortKs (ks.drop (i+1))):=by
 obtain ⟨h1,h2⟩:=List.getElem?_eq_some_iff.1 h
 rw [List.drop_eq_getElem_cons h1,h2]
 rfl
set_option maxRecDepth 100000 in
set_option maxHeartbeats 8000000 in
theorem Mh (k:Nat) (t:List UInt8) (ka:Option Addr) (kc:Nat) (ks:List (List UInt8)) (da:Option Addr) (dc:Nat) (ds:List Nd) (l:Int) (hds:∀ d∈ds,Ig d):Ig (.mk k t ka kc ks da dc ds l):=by
 intro lv b n w hin hlv hn hbk hb
 have hf:=hin.fit
 have e1:=hf.keysL
 have e2:=hf.kidsL
 have e3:=hf.text
 simp only [Nd.keys,Nd.kids,Nd.text] at e1 e2 e3
 unfold maxLen at e1 e2 e3
 obtain ⟨N,hN⟩:∃ N,ds.length=N:=⟨_,rfl⟩
 obtain ⟨M,hM⟩:∃ M,ks.length=M:=⟨_,rfl⟩
 have hbl:b<w.heap.size:=(Array.getElem?_eq_some_iff.1 hb).1
 obtain ⟨H,hH⟩:∃ H,w.heap.size=H:=⟨_,rfl⟩
 obtain ⟨W,hW⟩:∃ W,w.alloc (.cells #[.int .u8 k,.string ⟨t.toArray⟩,.slice ka M kc,.slice da N dc,.int .i64 l] 26)=W:=⟨_,rfl⟩
 have hbw:Below w.heap.size w W:=by rw [← hW];exact (Below.refl _ w).alloc (Nat.le_refl _) _
 have g0:W.heap[H]?=some (.cells #[.int .u8 k,.string ⟨t.toArray⟩,.slice ka M kc,.slice da N dc,.int .i64 l] 26):=by rw [← hW,← hH];exact World.alloc_heap_new _ _
 have hbW:=(hbw.block b hbl).trans hb
 have hgw:=Aj hbw (some b)
 rw [hH] at hbl
 obtain ⟨V,hV⟩:∃ V,W.setCell ⟨b,0,none⟩ (.int .i64 ((n:Int) - 1))=V:=⟨_,rfl⟩
 have hgV:w.grownBy V (some b):=by rw [← hV];exact Ah hgw (L6 W b _)
 have hVb:V.heap[b]?=some (.cells #[.int .i64 ((n:Int) - 1)] 3):=by rw [← hV];exact Qm hbW _
 have hV0:V.heap[H]?=some (.cells #[.int .u8 k,.string ⟨t.toArray⟩,.slice ka M kc,.slice da N dc,.int .i64 l] 26):=by rw [← hV];exact (Below.heap_setCell _ _ _ _ (by show H≠b;omega)).trans g0
 obtain ⟨c0,f0⟩:=Gs hbW
 obtain ⟨c1,f1⟩:=Gs hVb
 obtain ⟨⟨x0,_⟩,⟨x1,_⟩,⟨x2,_⟩,⟨x3,_⟩,⟨x4,_⟩⟩:=Ad hV0
 have hnw:IntKind.i64.wrap ((n:Int) - 1)=(n:Int) - 1:=IntWalk.i64_in _ (by omega)
 have hinV:(Nd.mk k t ka kc ks da dc ds l).In V:=hin.grown hgV (fun r e=>by cases e;exact hbk)
 have hk1:=hinV.kids
 have hks:=hinV.fit.keys
 simp only [Nd.da,Nd.kids,Nd.ka,Nd.keys] at hk1 hks
 have hbd:∀ d∈ds,¬ d.blk b:=fun d hd hx=>hbk (by simp only [Nd.blk];exact .inr (.inr ((Eo b ds).2 ⟨d,hd,hx⟩)))
 have hVl:H<V.heap.size:=(Array.getElem?_eq_some_iff.1 hV0).1
 rw [Nd.val_eq,hN,hM]
 simp only [Nd.bare,P20.T.small]
 have HW:=Ab hW
 have HV:=Ab hV
 have HGV:=Ab hgV
 have HV0:=Ab hV0
 have HVB:=Ab hVb
 have HK1:=Ab hk1
 have HKS:=Ab hks
 have HDS:=Ab hds
 have HBD:=Ab hbd
 have HINV:=Ab hinV
 have HBK:=Ab hbk
 have HH:=Ab hH
 have HN:=Ab hN
 have HM:=Ab hM
 rw [hM]
 rw [hM] at e1
 rw [hN] at e2
 clear hin hbk hb hf hbw g0 hbW hgw hgV hV0 hVb hinV hk1 hks hds hbd hW hV hN hM hH
 by_cases hz:lv=0∨n=0∨5000<t.length∨200<M
 ·rw [if_pos (by rcases hz with h | h | h | h<;>simp [h])]
  by_cases h1:lv=0
  ·have j1:(lv:Int)<1:=by omega
   clear hz h1 x0 x1 x2 x3 x4
   go_enter Tryz.func37,Tryz.ntmps37
   go_upto_region 1 with fail
   try rw [Aa HH]
   rw [Aa HW]
   go_upto_region 2 with fail
   rw [Aa HV]
   go_wp2
   go_ret
   exact ⟨rfl,HGV,fun m h=>by cases h⟩
  ·have j1:(1:Int)≤(lv:Int):=by omega
   by_cases h2:n=0
   ·have j2:(n:Int) - 1<0:=by omega
    clear hz h1 h2 x0 x1 x2 x3 x4
    go_enter Tryz.func37,Tryz.ntmps37
    go_upto_region 1 with fail
    try rw [Aa HH]
    rw [Aa HW]
    go_upto_region 2 with fail
    rw [Aa HV]
    go_wp2
    go_ret
    exact ⟨rfl,HGV,fun m h=>by cases h⟩
   ·have j2:(0:Int)≤(n:Int) - 1:=by omega
    by_cases h3:5000<t.length
    ·have j3:(5000:Int)<(t.length:Int):=by omega
     clear hz h1 h2 h3
     go_enter Tryz.func37,Tryz.ntmps37
     go_upto_region 1 with fail
     try rw [Aa HH]
     rw [Aa HW]
     go_upto_region 2 with fail
     rw [Aa HV]
     go_wp2
     go_ret
     exact ⟨rfl,HGV,fun m h=>by cases h⟩
    ·have j3:(t.length:Int)≤5000:=by omega
     have j4:(200:Int)<(M:Int):=by rcases hz with h | h | h | h<;>omega
     clear hz h1 h2 h3
     go_enter Tryz.func37,Tryz.ntmps37
     go_upto_region 1 with fail
     try rw [Aa HH]
     rw [Aa HW]
     go_upto_region 2 with fail
     rw [Aa HV]
     go_wp2
     go_ret
     exact ⟨rfl,HGV,fun m h=>by cases h⟩
 have j1:(1:Int)≤(lv:Int):=by omega
 have j2:(0:Int)≤(n:Int) - 1:=by omega
 have j3:(t.length:Int)≤5000:=by omega
 have j4:(M:Int)≤200:=by omega
 have hlw:IntKind.i64.wrap ((lv:Int) - 1)=(lv:Int) - 1:=IntWalk.i64_in _ (by omega)
 have hel:(if lv=0∨n=0∨5000<t.length∨200<M∨P20.shortKs ks=false then none else P20.smallL (lv - 1) (Am ds) (n - 1))=if P20.shortKs (ks.drop 0)=false then none else P20.smallL (lv - 1) (Am ds) (n - 1):=by
  rw [List.drop_zero]
  by_cases h:P20.shortKs ks=false
  ·rw [if_pos (by simp [h]),if_pos h]
  ·rw [if_neg (by rintro (h1 | h1 | h1 | h1 | h1)<;>first | exact hz (.inl h1) | exact hz (.inr (.inl h1)) | exact hz (.inr (.inr (.inl h1))) | exact hz (.inr (.inr (.inr h1))) | exact h h1),if_neg h]
 rw [hel]
 obtain ⟨O,hO⟩:∃ O,(if P20.shortKs (ks.drop 0)=false then none else P20.smallL (lv - 1) (Am ds) (n - 1))=O:=⟨_,rfl⟩
 rw [hO]
 have HO:=Ab hO
 have HZ:=Ab hz
 clear hel hO hz
 go_enter Tryz.func37,Tryz.ntmps37
 go_upto_region 1 with fail
 try rw [Aa HH]
 rw [Aa HW]
 go_upto_region 2 with fail
 rw [Aa HV]
 go_wp2
 go_loopg [7] M (fun g s7 wx=>∃ i:Nat,i+g=M∧s7=.int .i64 i∧Hid ((if P20.shortKs (ks.drop i)=false then none else P20.smallL (lv - 1) (Am ds) (n - 1))=O)∧V=wx)
 case atStart=>exact ⟨0,by omega,by go_num,HO,rfl⟩
 case round=>
  obtain ⟨i,hig,rfl,HI,rfl⟩:=hrel
  cases gk with
  | succ g'=>
   have hlt:(i:Int)<(M:Int):=by omega
   have hki:IntKind.i64.wrap ((i:Int)+1)=(i:Int)+1:=IntWalk.i64_in _ (by omega)
   obtain ⟨x,hx⟩:=V3 (Aa HM) (show i<M by omega)
   obtain ⟨b1,o1,rfl,hc⟩:=Aa HKS i x hx
   have hI:=Aa HI
   rw [Mw hx] at hI
   clear hx
   by_cases hxl:x.length≤200
   ·have jx:(x.length:Int)≤200:=by omega
    rw [decide_eq_true hxl,Bool.true_and] at hI
    have HI2:=Ab hI
    clear hI hxl
    go_wp2
    go_roundg g'
    case measure=>omega
    case rel=>exact ⟨i+1,by omega,by go_num,HI2,rfl⟩
   ·have jx:(200:Int)<(x.length:Int):=by omega
    rw [decide_eq_false hxl,Bool.false_and,if_pos rfl] at hI
    subst hI
    clear hxl
    go_wp2
    go_ret
    exact ⟨rfl,HGV,fun m h=>by cases h⟩
  | zero=>
   have e1:(M:Int)=(i:Int):=by omega
   have hI:=Aa HI
   rw [List.drop_of_length_le (by rw [Aa HM];omega),if_neg (by simp [P20.shortKs])] at hI
   have HI2:=Ab hI
   clear hI HI HO
   go_wp2
   clear x0 x1 x2 x3 x4 c0 f0 c1 f1 e1
   go_loopg [8] N (fun g s8 wx=>∃ i m:Nat,i+g=N∧s8=.int .i64 i∧m≤n∧Hid (P20.smallL (lv - 1) (Am (ds.drop i)) m=O)∧Hid (V.grownBy wx (some b))∧Hid (wx.heap[b]?=some (.cells #[.int .i64 (m:Nat)] 3)))
   case atStart=>exact ⟨0,n - 1,by omega,by go_num,by omega,HI2,Ab (World.grownBy.refl _ _),Ab (by rw [Aa HVB,show (((n - 1:Nat)):Int)=(n:Int) - 1 from by omega])⟩
   case round=>
    obtain ⟨i2,m,hig2,rfl,hmn,HS,HGX,HXB⟩:=hrel
    have hgx:=Aa HGX
    obtain ⟨⟨x0,_⟩,⟨x1,_⟩,⟨x2,_⟩,⟨x3,_⟩,⟨x4,_⟩⟩:=Ad ((hgx.block H hVl (fun e=>by injection e;omega)).trans (Aa HV0))
    have HGW:=Ab (Ah (Aa HGV) hgx)
    clear hgx
    cases gk with
    | zero=>
     have e1:(N:Int)=(i2:Int):=by omega
     have hS:=Aa HS
     rw [List.drop_of_length_le (by rw [Aa HN];omega)] at hS
     simp only [Am,P20.smallL] at hS
     subst hS
     go_wp2
     go_ret
     exact ⟨rfl,HGW,fun q h=>by cases h;exact Aa HXB⟩
    | succ g'=>
     have hlt:(i2:Int)<(N:Int):=by omega
     have hki:IntKind.i64.wrap ((i2:Int)+1)=(i2:Int)+1:=IntWalk.i64_in _ (by omega)
     obtain ⟨d,hg1⟩:=V3 (Aa HN) (show i2<N by omega)
     have hS:=Aa HS
     rw [Lx (lv - 1) hg1] at hS
     have hmem:=List.mem_of_getElem? hg1
     have hcl0:=Aa HDS d hmem
     have hnb:=Aa HBD d hmem
     have hinr:=(Aa HINV).grown (Aa HGX) (fun r e=>by cases e;exact Aa HBK)
     have hdr:=hinr.kids
     simp only [Nd.da,Nd.kids] at hdr
     obtain ⟨b2,o2,k1,t1,ka1,kc1,ks1,da1,dc1,ds1,l1,rfl,rfl,y0,y1,y2,y3,y4,hin⟩:=Ce hdr hg1
     have hcl:=hcl0 (lv - 1) b m wr hin (by omega) (by omega) hnb (Aa HXB)
     rw [show (((lv - 1:Nat)):Int)=(lv:Int) - 1 from by omega,Nd.val_eq] at hcl
     obtain ⟨o,ho⟩:∃ o,(Nd.mk k1 t1 ka1 kc1 ks1 da1 dc1 ds1 l1).bare.small (lv - 1) m=o:=⟨_,rfl⟩
     rw [ho] at hcl hS
     have hle:∀ q,o=some q→q≤m:=fun q e=>by
      have:=P20.T.small_ok _ _ _ _ (ho.trans e) (by omega)
      omega
     have HCL:=Ab hcl
     have HLE:=Ab hle
     have HS2:=Ab hS
     clear hcl0 hcl hS ho hin hinr hdr hg1 hmem hnb hle HS
     cases o with
     | none=>
      have hS:=Aa HS2
      simp only at hS
      subst hS
      go_wp2_with (go_at_call 37;refine (Aa HCL).mono ?_;rintro x' w2 ⟨hx2,hg2,hq2⟩;obtain rfl:x'=.returned (.bool false):=hx2)
      go_ret
      exact ⟨rfl,Ab (Ah (Aa HGW) (Aa hg2)),fun q h=>by cases h⟩
     | some q=>
      have hS:=Aa HS2
      simp only at hS
      have HS:=Ab hS
      have hqm:=Aa HLE q rfl
      clear hS HS2
      go_wp2_with (go_at_call 37;refine (Aa HCL).mono ?_;rintro x' w2 ⟨hx2,hg2,hq2⟩;obtain rfl:x'=.returned (.bool true):=hx2)
      have HQ2:=Ab (hq2 q rfl)
      go_roundg g'
      case measure=>omega
      case rel=>exact ⟨i2+1,q,by omega,by go_num,by omega,HS,Ab (Ah (Aa HGX) (Aa hg2)),HQ2⟩
theorem Oe (d:Nd):Ig d:=Nd.ind (p:=Ig) Mh d
set_option maxRecDepth 100000 in
theorem Px (d:Nd) (w:World) (hin:d.In w):Calls Tryz.prog 13 #[d.val] w fun x w'=>x=.returned (.bool (d.bare.small 18 150).isSome)∧Below w.heap.size w w':=by
 obtain ⟨k,t,ka,kc,ks,da,dc,ds,l⟩:=d
 obtain ⟨H,hH⟩:∃ H,w.heap.size=H:=⟨_,rfl⟩
 obtain ⟨W,hW⟩:∃ W,w.alloc (.cells #[.int .u8 k,.string ⟨t.toArray⟩,.slice ka ks.length kc,.slice da ds.length dc,.int .i64 l] 26)=W:=⟨_,rfl⟩
 have hbw:Below w.heap.size w W:=by rw [← hW];exact (Below.refl _ w).alloc (Nat.le_refl _) _
 have g0:W.heap[H]?=some (.cells #[.int .u8 k,.string ⟨t.toArray⟩,.slice ka ks.length kc,.slice da ds.length dc,.int .i64 l] 26):=by rw [← hW,← hH];exact World.alloc_heap_new _ _
 have hs0:W.heap.size=H+1:=by rw [← hW];simp;omega
 obtain ⟨V,hV⟩:∃ V,W.alloc (.cells #[.int .i64 150] 3)=V:=⟨_,rfl⟩
 have hVb:V.heap[H+1]?=some (.cells #[.int .i64 150] 3):=by rw [← hV,← hs0];exact World.alloc_heap_new _ _
 have hbV:Below w.heap.size w V:=by rw [← hV];exact hbw.alloc (by omega) _
 have hV0:V.heap[H]?=some (.cells #[.int .u8 k,.string ⟨t.toArray⟩,.slice ka ks.length kc,.slice da ds.length dc,.int .i64 l] 26):=by rw [← hV];exact (Below.heap_alloc _ _ _ (by omega)).trans g0
 obtain ⟨⟨x0,_⟩,⟨x1,_⟩,⟨x2,_⟩,⟨x3,_⟩,⟨x4,_⟩⟩:=Ad hV0
 have hc:=Oe (.mk k t ka kc ks da dc ds l) 18 (H+1) 150 V (hin.below hbV) (by omega) (by omega) (fun hb=>by have:=hin.lt hb;omega) hVb
 rw [Nd.val_eq] at hc
 have HC:=Ab hc
 have HW:=Ab hW
 have HV:=Ab hV
 have HH:=Ab hH
 have HB:=Ab hbV
 have HS0:=Ab hs0
 rw [Nd.val_eq]
 clear hc hW hV hin hbw g0 hVb hbV hV0 hs0
 go_enter Tryz.func13,Tryz.ntmps13
 go_upto_region 1 with fail
 rw [Aa HW]
 try rw [Aa HH]
 go_upto_region 2 with fail
 try rw [Aa HS0]
 rw [Aa HV]
 go_wp2_with (go_at_call 37;refine (Aa HC).mono ?_;rintro x w' ⟨rfl,hg,_⟩)
 go_ret
 have hb:=Aa HB
 have hg:=Aa hg
 have hh:=Aa HH
 refine ⟨rfl,hb.trans ?_⟩
 exact ⟨hg.os,hg.tape,hg.output,Nat.le_trans hb.size hg.size |> fun _=>hg.size,fun i hi=>hg.block i (Nat.lt_of_lt_of_le hi hb.size) (fun e=>by injection e;omega)⟩
end Go.Proofs.YtnjokdbblmlhhaaGreatDoor
namespace Go.Proofs.YtnjokdbblmlhhaaGreatDoor
set_option linter.unusedVariables false
set_option linter.unusedSimpArgs false
namespace P20
end P20
end Go.Proofs.YtnjokdbblmlhhaaGreatDoor
