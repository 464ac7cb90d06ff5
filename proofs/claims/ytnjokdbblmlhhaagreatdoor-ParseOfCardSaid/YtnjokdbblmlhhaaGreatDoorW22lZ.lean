/- Lemmas of this claim. -/
import Derived.Test.YtnjokdbblmlhhaaGreatDoorW22fZ
namespace Go.Proofs.YtnjokdbblmlhhaaGreatDoor
set_option linter.unusedVariables false
set_option linter.unusedSimpArgs false
open Go.RowKit
structure S4 (b:Nat) (s:P22.Try) (A:Nat→Prop) (W:World):Prop where
 b0:W.heap[b]?=some (.cells (Gy s.most) 3)
 b1:W.heap[b+1]?=some (.cells (Gy s.first) 3)
 b2:W.heap[b+1+1]?=some (.cells (Gy s.factor) 3)
 n0:¬ A b
 n1:¬ A (b+1)
 n2:¬ A (b+1+1)
theorem Pe (b:Nat):Gf (S4 b) where
 stays:=by
  rintro s A W W' h hz hs
  have l0:=(Array.getElem?_eq_some_iff.1 h.b0).1
  have l1:=(Array.getElem?_eq_some_iff.1 h.b1).1
  have l2:=(Array.getElem?_eq_some_iff.1 h.b2).1
  exact ⟨(hs _ l0 h.n0).trans h.b0,(hs _ l1 h.n1).trans h.b1,(hs _ l2 h.n2).trans h.b2,fun q=>q.elim h.n0 (by omega),fun q=>q.elim h.n1 (by omega),fun q=>q.elim h.n2 (by omega)⟩
 mono:=fun s A A' W h hA=>⟨h.b0,h.b1,h.b2,fun q=>h.n0 (hA _ q),fun q=>h.n1 (hA _ q),fun q=>h.n2 (hA _ q)⟩
def Rc (b:Nat) (g:Nat):Prop:=g=b∨g=b+1∨g=b+1+1
theorem Gr (H:Nat):∀ g,Rc (H+1+1) g→g<H+1+1+1+1+1:=by
 rintro g (rfl | rfl | rfl)<;>omega
def E0:List (C8 P22.Try):=[([109,111,115,116],2,fun (d:P20.T) (s:P22.Try)=>(P22.numE d).map fun n=>{ s with most:=n }),([102,105,114,115,116],4,fun (d:P20.T) (s:P22.Try)=>(P22.numE d).map fun n=>{ s with first:=n }),([102,97,99,116,111,114],6,fun (d:P20.T) (s:P22.Try)=>(P22.numE d).map fun n=>{ s with factor:=n })]
theorem U5:Du E0=P22.triesRd:=by
 funext k
 rfl
theorem Fr:Qz E0:=by
 intro i q hq
 match i,hq with
 | 0,hq=>cases hq;rfl
 | 1,hq=>cases hq;rfl
 | 2,hq=>cases hq;rfl
 | n+3,hq=>simp [E0] at hq
theorem Lc:Hh E0:=by
 unfold Hh E0
 simp
theorem U7 {H c:Nat} {W:World} (hB:H+1+1+1+1+1≤c) (hc:W.heap[c]?=some (.cells #[.pointer (some ⟨H+1+1,0,none⟩)] 65)):G1 (S4 (H+1+1)) (Rc (H+1+1)) (H+1+1+1+1+1) (.func (.func 127) #[] #[.pointer (some ⟨c,0,none⟩)]) (fun (d:P20.T) (s:P22.Try)=>(P22.numE d).map fun n=>{ s with most:=n }) W:=by
 refine Ik (σ:=P22.Try) _ _ _ (H+1+1) c (fun (n:Int) (s:P22.Try)=>{ s with most:=n }) W hB hc (.inl rfl) (fun s A W' h=>⟨_,h.b0⟩) (fun s A W' W'' n h hg hn=>?_)
 have l0:=(Array.getElem?_eq_some_iff.1 h.b0).1
 have l1:=(Array.getElem?_eq_some_iff.1 h.b1).1
 have l2:=(Array.getElem?_eq_some_iff.1 h.b2).1
 refine ⟨hn,(hg.block _ l1 (by simp;try omega)).trans h.b1,(hg.block _ l2 (by simp;try omega)).trans h.b2,fun q=>h.n0 q.1,fun q=>h.n1 q.1,fun q=>h.n2 q.1⟩
theorem Uu {H c:Nat} {W:World} (hB:H+1+1+1+1+1≤c) (hc:W.heap[c]?=some (.cells #[.pointer (some ⟨H+1+1+1,0,none⟩)] 65)):G1 (S4 (H+1+1)) (Rc (H+1+1)) (H+1+1+1+1+1) (.func (.func 127) #[] #[.pointer (some ⟨c,0,none⟩)]) (fun (d:P20.T) (s:P22.Try)=>(P22.numE d).map fun n=>{ s with first:=n }) W:=by
 refine Ik (σ:=P22.Try) _ _ _ (H+1+1+1) c (fun (n:Int) (s:P22.Try)=>{ s with first:=n }) W hB hc (.inr (.inl rfl)) (fun s A W' h=>⟨_,h.b1⟩) (fun s A W' W'' n h hg hn=>?_)
 have l0:=(Array.getElem?_eq_some_iff.1 h.b0).1
 have l1:=(Array.getElem?_eq_some_iff.1 h.b1).1
 have l2:=(Array.getElem?_eq_some_iff.1 h.b2).1
 refine ⟨(hg.block _ l0 (by simp;try omega)).trans h.b0,hn,(hg.block _ l2 (by simp;try omega)).trans h.b2,fun q=>h.n0 q.1,fun q=>h.n1 q.1,fun q=>h.n2 q.1⟩
theorem Uo {H c:Nat} {W:World} (hB:H+1+1+1+1+1≤c) (hc:W.heap[c]?=some (.cells #[.pointer (some ⟨H+1+1+1+1,0,none⟩)] 65)):G1 (S4 (H+1+1)) (Rc (H+1+1)) (H+1+1+1+1+1) (.func (.func 127) #[] #[.pointer (some ⟨c,0,none⟩)]) (fun (d:P20.T) (s:P22.Try)=>(P22.numE d).map fun n=>{ s with factor:=n }) W:=by
 refine Ik (σ:=P22.Try) _ _ _ (H+1+1+1+1) c (fun (n:Int) (s:P22.Try)=>{ s with factor:=n }) W hB hc (.inr (.inr rfl)) (fun s A W' h=>⟨_,h.b2⟩) (fun s A W' W'' n h hg hn=>?_)
 have l0:=(Array.getElem?_eq_some_iff.1 h.b0).1
 have l1:=(Array.getElem?_eq_some_iff.1 h.b1).1
 have l2:=(Array.getElem?_eq_some_iff.1 h.b2).1
 refine ⟨(hg.block _ l0 (by simp;try omega)).trans h.b0,(hg.block _ l1 (by simp;try omega)).trans h.b1,hn,fun q=>h.n0 q.1,fun q=>h.n1 q.1,fun q=>h.n2 q.1⟩
theorem D9 {W:World} {g:Nat} {T:TypeId} {a b c:Value} (h:W.heap[g]?=some (.cells #[a,b,c] T)):(W.cell? ⟨g,0,none⟩=some a∧W.frozen? ⟨g,0,none⟩=false)∧(W.cell? ⟨g,1,none⟩=some b∧W.frozen? ⟨g,1,none⟩=false)∧(W.cell? ⟨g,2,none⟩=some c∧W.frozen? ⟨g,2,none⟩=false):=by
 simp [World.cell?,World.frozen?,h]
theorem P4 {W:World} {g:Nat} {T:TypeId} {a b c:Value} (h:W.heap[g]?=some (.cells #[a,b,c] T)) (v0 v1 v2:Value):(((W.setCell ⟨g,0,none⟩ v0).setCell ⟨g,1,none⟩ v1).setCell ⟨g,2,none⟩ v2).heap[g]?=some (.cells #[v0,v1,v2] T):=by
 simp [World.setCell,Array.getElem?_modify,h]
theorem Ms {w W:World} {tb:Nat} (h:w.grownBy W (some tb)) (v0 v1 v2:Value):w.grownBy (((W.setCell ⟨tb,0,none⟩ v0).setCell ⟨tb,1,none⟩ v1).setCell ⟨tb,2,none⟩ v2) (some tb):=
 ⟨h.os,h.tape,h.output,by simpa using h.size,fun i hi hne=>(A6 (fun e=>hne (by rw [e])) _ _ _).trans (h.block i hi hne)⟩
theorem Cs {L:Array Bool} {i j:Nat} (h:L.getD j false=false) (hij:i≠j) (ht:(L.setIfInBounds i true).getD j false=true):False:=by
 rw [Ae hij,h] at ht
 cases ht
def Vt (w:World) (tb:Nat) (res:Except P22.F P22.Try) (e l':Int) (w':World):Prop:=
 w.grownBy w' (some tb)∧∃ s:P22.Try,w'.heap[tb]?=some (.cells #[.int .i64 s.most,.int .i64 s.first,.int .i64 s.factor] 84)∧((res=.ok s∧e=0∧l'=0)∨(res=.error (e,l')∧e≠0))
set_option maxRecDepth 100000 in
set_option maxHeartbeats 16000000 in
theorem Oz (tb p:Nat) (k:Nat) (t:List UInt8) (ka:Option Addr) (kc:Nat) (ks:List (List UInt8)) (da:Option Addr) (dc:Nat) (ds:List Nd) (l:Int) (z0 z1 z2:Value) (w:World) (hin:(Nd.mk k t ka kc ks da dc ds l).In w) (hok:E6 (Nd.mk k t ka kc ks da dc ds l).bare) (hbk:¬ (Nd.mk k t ka kc ks da dc ds l).blk tb)
  (hp:w.heap[p]?=some (.cells #[.pointer (some ⟨tb,0,none⟩)] 143)) (hb:w.heap[tb]?=some (.cells #[z0,z1,z2] 84)) :
  Calls Tryz.prog 126 #[.agg #[.int .u8 k,.string ⟨t.toArray⟩,.slice ka ks.length kc,.slice da ds.length dc,.int .i64 l],.pointer (some ⟨p,0,none⟩)] w fun e w'=>∃ c l',e=.returned (fV c l')∧Vt w tb (P22.triesE (Nd.mk k t ka kc ks da dc ds l).bare) c l' w':=by
 obtain ⟨H,hH⟩:∃ H,w.heap.size=H:=⟨_,rfl⟩
 obtain ⟨W0,hW0,hb0,g0,g1,hs0⟩:=A0 w (.cells #[.int .u8 k,.string ⟨t.toArray⟩,.slice ka ks.length kc,.slice da ds.length dc,.int .i64 l] 26) (.cells #[.int .i64 0,.int .i64 0] 29) H hH
 have x0:=Ad g0
 have y0:=Af g1
 have hpl:=(Array.getElem?_eq_some_iff.1 hp).1
 have htl:=(Array.getElem?_eq_some_iff.1 hb).1
 rw [hH] at hpl htl
 obtain ⟨W1,hW1⟩:∃ W1,((W0.alloc (.cells #[.int .i64 0] 3)).alloc (.cells #[.int .i64 0] 3)).alloc (.cells #[.int .i64 0] 3)=W1:=⟨_,rfl⟩
 have hs1:W1.heap.size=H+1+1+1+1+1:=by rw [← hW1];simp;omega
 have hb1:Below (H+1+1) W0 W1:=by rw [← hW1];exact (((Below.refl _ W0).alloc (by omega) _).alloc (by simp;omega) _).alloc (by simp;omega) _
 have i0:W1.heap[H+1+1]?=some (.cells (Gy 0) 3):=by
  rw [← hW1,Below.heap_alloc _ _ _ (by simp;omega),Below.heap_alloc _ _ _ (by simp;omega),← hs0]
  exact World.alloc_heap_new _ _
 have i1:W1.heap[H+1+1+1]?=some (.cells (Gy 0) 3):=by
  rw [← hW1,Below.heap_alloc _ _ _ (by simp;omega)]
  have h:=World.alloc_heap_new (W0.alloc (.cells #[.int .i64 0] 3)) (.cells #[.int .i64 0] 3)
  rw [World.size_alloc,hs0] at h
  exact h
 have i2:W1.heap[H+1+1+1+1]?=some (.cells (Gy 0) 3):=by
  rw [← hW1]
  have h:=World.alloc_heap_new ((W0.alloc (.cells #[.int .i64 0] 3)).alloc (.cells #[.int .i64 0] 3)) (.cells #[.int .i64 0] 3)
  rw [World.size_alloc,World.size_alloc,hs0] at h
  exact h
 have p1:=(hb1.block p (by omega)).trans ((hb0.block p (by omega)).trans hp)
 have t1:=(hb1.block tb (by omega)).trans ((hb0.block tb (by omega)).trans hb)
 have n0:=(hb1.block H (by omega)).trans g0
 have n1:=(hb1.block (H+1) (by omega)).trans g1
 have hbW:Below H w W1:=hb0.trans (hb1.mono (by omega))
 have hin1:(Nd.mk k t ka kc ks da dc ds l).In W1:=hin.below (by rw [hH];exact hbW)
 have hlt:=fun g hg=>Nd.In.lt hin (r:=g) hg
 rw [hH] at hlt
 have hcall:∀ bm c W',Below (H+1+1+1+1+1) W1 W'→H+1+1+1+1+1≤W'.heap.size→H+1+1+1+1+1≤c→H+1+1+1+1+1≤bm→bm<W'.heap.size→W'.heap[c]?=some (.cells #[.map (some bm)] 95)→W'.heap[c+1]?=some (.cells #[.slice none 0 0] 23)→N6 (S4 (H+1+1)) (Rc (H+1+1)) bm (Du E0) W'→Calls Tryz.prog 92 #[.agg #[.int .u8 k,.string ⟨t.toArray⟩,.slice ka ks.length kc,.slice da ds.length dc,.int .i64 l],.pointer (some ⟨c,0,none⟩),.pointer (some ⟨c+1,0,none⟩)] W' (Gm (S4 (H+1+1)) (Rc (H+1+1)) (fun g=>¬ (Rc (H+1+1)) g) W' (P22.triesE (Nd.mk k t ka kc ks da dc ds l).bare)):=fun bm c W' h hz hc hbm hbl q1 q2 hm=>by
  rw [U5] at hm
  unfold P22.triesE
  refine Hu (S4 (H+1+1)) (Pe _) (Rc (H+1+1)) P22.triesRd [] c (c+1) bm none 0 k t ka kc ks da dc ds l ⟨0,0,0⟩ (fun g=>¬ (Rc (H+1+1)) g) W' ?_ hok (fun g hg hm=>?_) (fun g hg=>?_) q1 q2 ?_ (by simp) ?_ ?_ ?_ hbl (fun g h=>absurd rfl h) hm ?_
  ·exact hin1.keep (fun g hg=>h.block g (by have:=hlt g hg;omega))
  ·have:=hlt g hg
   rcases hm with rfl | rfl | rfl<;>omega
  ·have:=Gr H g hg
   omega
  ·simp [Eu]
  ·intro hm;have:=Gr H _ hm;omega
  ·intro hm;have:=Gr H _ hm;omega
  ·intro hm;have:=Gr H _ hm;omega
  ·exact ⟨(h.block _ (by omega)).trans i0,(h.block _ (by omega)).trans i1,(h.block _ (by omega)).trans i2,fun q=>q (.inl rfl),fun q=>q (.inr (.inl rfl)),fun q=>q (.inr (.inr rfl))⟩
 have hmm:=@run_makeMap Tryz.prog
 have HW0:=Ab hW0
 have HW1:=Ab hW1
 have HN0:=Ab n0
 have HN1:=Ab n1
 have HP1:=Ab p1
 have HT1:=Ab t1
 have HBW:=Ab hbW
 have HCALL:=Ab hcall
 have hmx:=Dl
 clear hW0 hb0 g0 g1 hW1 x0 y0 hp hb p1 t1 n0 n1 i0 i1 i2 hin1 hcall hb1 hbW hin
 go_enter Tryz.func126,Tryz.ntmps126
 go_upto_region 1 with fail
 try rw [hH]
 rw [Aa HW0]
 go_upto_region 2 with fail
 try rw [hs0]
 rw [Aa HW1]
 refine Cw hmx (fun L a w1=>∃ (vF vM vV vK vN vE:Value) (vR:Nat→Value),a=⟨#[.agg #[.int .u8 k,.string ⟨t.toArray⟩,.slice ka ks.length kc,.slice da ds.length dc,.int .i64 l],.pointer (some ⟨p,0,none⟩),.pointer (some ⟨H,0,none⟩),.pointer (some ⟨H+1,0,none⟩),.pointer (some ⟨H+1+1,0,none⟩),.pointer (some ⟨H+1+1+1,0,none⟩),.pointer (some ⟨H+1+1+1+1,0,none⟩),vF,vM,(vR 0),(vR 1),(vR 2),vV,vK,vN,vE,undef,undef,undef,undef,undef,undef,undef],[]⟩∧Cl 3 0 L∧(L.getD 10 false=false→G2 (S4 (H+1+1)) (Rc (H+1+1)) (H+1+1+1+1+1) E0 0 W1 (.slice none 0 0) (.agg #[.int .u8 k,.string ⟨t.toArray⟩,.slice ka ks.length kc,.slice da ds.length dc,.int .i64 l]) L vM vV vK vN vR w1)∧(L.getD 10 false=true→Eg (S4 (H+1+1)) (Rc (H+1+1)) (H+1+1+1+1+1) 3 0 W1 (P22.triesE (Nd.mk k t ka kc ks da dc ds l).bare) L vF vE w1)∧Mo 3 0 (H+1+1+1+1+1) L vF vE w1) (by kernel_rfl) ?_ ?_ ?_
 ·exact ⟨undef,undef,undef,undef,undef,undef,fun _=>undef,rfl,Cl.start 3 0,fun _=>⟨(Below.refl _ W1).drew,by show _≤W1.heap.size;omega,fun h=>absurd h (by decide),fun i q hq h=>by
   match i,hq with
   | 0,_=>exact absurd h (by decide)
   | 1,_=>exact absurd h (by decide)
   | 2,_=>exact absurd h (by decide)
   | n+3,hq=>simp [E0] at hq,fun h=>absurd h (by decide),fun h=>absurd h (by decide),fun h=>absurd h (by decide)⟩,fun h=>absurd h (by decide),fun h=>absurd h (by decide)⟩
 ·rintro L a' w1 i o ⟨vF,vM,vV,vK,vN,vE,vR,rfl,hC,hpre,hpost,hA⟩ ho hi hdep
  match i,ho with
  | 0,ho=>
   cases ho
   refine Ak rfl rfl ?_
   have n10:L.getD 10 false=false:=hC.not (n:=3) (d:=0) hi (.inl rfl)
   have hp:=hpre n10
   refine Oper.wp_mono (K:=fun a2 w2=>a2=⟨#[.agg #[.int .u8 k,.string ⟨t.toArray⟩,.slice ka ks.length kc,.slice da ds.length dc,.int .i64 l],.pointer (some ⟨p,0,none⟩),.pointer (some ⟨H,0,none⟩),.pointer (some ⟨H+1,0,none⟩),.pointer (some ⟨H+1+1,0,none⟩),.pointer (some ⟨H+1+1+1,0,none⟩),.pointer (some ⟨H+1+1+1+1,0,none⟩),vF,(.map (some w1.heap.size)),(vR 0),(vR 1),(vR 2),vV,vK,vN,vE,undef,undef,undef,undef,undef,undef,undef],[]⟩∧w2=w1.alloc (.map #[] 0)) (fun a2 w2 he=>?_) (by simp [Oper.wp,go_sem,hmm])
   obtain ⟨rfl,rfl⟩:=he
   exact ⟨vF,_,vV,vK,vN,vE,vR,rfl,hC.set hi (fun i hi h=>by omega) (by omega) (by omega) (by omega) (by omega),fun _=>hp.make Fr hC hi,fun h=>(Cs n10 (by decide) h).elim,hA.keep (Ae (by omega)) (Ae (by omega)) (fun _=>rfl) (Aw ((Below.refl _ w1).alloc (Nat.le_refl _) _))⟩
  | 1,ho=>
   cases ho
   refine Ak rfl rfl ?_
   have n10:L.getD 10 false=false:=hC.not (n:=3) (d:=0) hi (.inr (.inl ⟨0,by omega,.inl rfl⟩))
   have hp:=hpre n10
   have heg:=enters_of Tryz.func88 (by kernel_rfl) rfl
   refine Bt (f:=88) (args:=#[.pointer (some ⟨H+1+1,0,none⟩)]) (by simp [execOp,go_sem,heg]) (F7 (H+1+1) w1) ?_
   rintro e2 w2 ⟨c2,rfl,hc2,q1,hb2⟩
   have hz1:=hp.size
   exact ⟨_,rfl,vF,vM,vV,vK,vN,vE,_,rfl,hC.set hi (fun i hi h=>by omega) (by omega) (by omega) (by omega) (by omega),fun _=>hp.call (i:=0) Fr rfl hi hb2 (U7 (H:=H) (by omega) q1),fun h=>(Cs n10 (by decide) h).elim,hA.keep (Ae (by omega)) (Ae (by omega)) (fun _=>rfl) (Aw hb2)⟩
  | 2,ho=>
   cases ho
   refine Ak rfl rfl ?_
   have n10:L.getD 10 false=false:=hC.not (n:=3) (d:=0) hi (.inr (.inl ⟨0,by omega,.inr rfl⟩))
   have hp:=hpre n10
   have d0:=hdep ⟨0,.data⟩ (by simp) rfl
   have d1:=hdep ⟨1,.data⟩ (by simp) rfl
   obtain ⟨bm,w2,rfl,r1,hp2,r2,r3,r4⟩:=hp.put (i:=0) Fr Lc hC rfl hi d0 d1
   dsimp only at r1
   refine Oper.wp_mono (K:=fun a2 w3=>a2=⟨#[.agg #[.int .u8 k,.string ⟨t.toArray⟩,.slice ka ks.length kc,.slice da ds.length dc,.int .i64 l],.pointer (some ⟨p,0,none⟩),.pointer (some ⟨H,0,none⟩),.pointer (some ⟨H+1,0,none⟩),.pointer (some ⟨H+1+1,0,none⟩),.pointer (some ⟨H+1+1+1,0,none⟩),.pointer (some ⟨H+1+1+1+1,0,none⟩),vF,(.map (some bm)),(vR 0),(vR 1),(vR 2),vV,vK,vN,vE,undef,undef,undef,undef,undef,undef,undef],[]⟩∧w3=w2) (fun a2 w3 he=>?_) (by simp [Oper.wp,go_sem,r1])
   obtain ⟨rfl,rfl⟩:=he
   exact ⟨vF,_,vV,vK,vN,vE,vR,rfl,hC.set hi (fun i hi h=>by have e:i=0:=(by omega);subst e;exact ⟨d0,d1⟩) (by omega) (by omega) (by omega) (by omega),fun _=>hp2,fun h=>(Cs n10 (by decide) h).elim,hA.keep (Ae (by omega)) (Ae (by omega)) (fun _=>rfl) (Bw r4 r2)⟩
  | 3,ho=>
   cases ho
   refine Ak rfl rfl ?_
   have n10:L.getD 10 false=false:=hC.not (n:=3) (d:=0) hi (.inr (.inl ⟨1,by omega,.inl rfl⟩))
   have hp:=hpre n10
   have heg:=enters_of Tryz.func88 (by kernel_rfl) rfl
   refine Bt (f:=88) (args:=#[.pointer (some ⟨H+1+1+1,0,none⟩)]) (by simp [execOp,go_sem,heg]) (F7 (H+1+1+1) w1) ?_
   rintro e2 w2 ⟨c2,rfl,hc2,q1,hb2⟩
   have hz1:=hp.size
   exact ⟨_,rfl,vF,vM,vV,vK,vN,vE,_,rfl,hC.set hi (fun i hi h=>by omega) (by omega) (by omega) (by omega) (by omega),fun _=>hp.call (i:=1) Fr rfl hi hb2 (Uu (H:=H) (by omega) q1),fun h=>(Cs n10 (by decide) h).elim,hA.keep (Ae (by omega)) (Ae (by omega)) (fun _=>rfl) (Aw hb2)⟩
  | 4,ho=>
   cases ho
   refine Ak rfl rfl ?_
   have n10:L.getD 10 false=false:=hC.not (n:=3) (d:=0) hi (.inr (.inl ⟨1,by omega,.inr rfl⟩))
   have hp:=hpre n10
   have d0:=hdep ⟨0,.data⟩ (by simp) rfl
   have d1:=hdep ⟨3,.data⟩ (by simp) rfl
   obtain ⟨bm,w2,rfl,r1,hp2,r2,r3,r4⟩:=hp.put (i:=1) Fr Lc hC rfl hi d0 d1
   dsimp only at r1
   refine Oper.wp_mono (K:=fun a2 w3=>a2=⟨#[.agg #[.int .u8 k,.string ⟨t.toArray⟩,.slice ka ks.length kc,.slice da ds.length dc,.int .i64 l],.pointer (some ⟨p,0,none⟩),.pointer (some ⟨H,0,none⟩),.pointer (some ⟨H+1,0,none⟩),.pointer (some ⟨H+1+1,0,none⟩),.pointer (some ⟨H+1+1+1,0,none⟩),.pointer (some ⟨H+1+1+1+1,0,none⟩),vF,(.map (some bm)),(vR 0),(vR 1),(vR 2),vV,vK,vN,vE,undef,undef,undef,undef,undef,undef,undef],[]⟩∧w3=w2) (fun a2 w3 he=>?_) (by simp [Oper.wp,go_sem,r1])
   obtain ⟨rfl,rfl⟩:=he
   exact ⟨vF,_,vV,vK,vN,vE,vR,rfl,hC.set hi (fun i hi h=>by have e:i=1:=(by omega);subst e;exact ⟨d0,d1⟩) (by omega) (by omega) (by omega) (by omega),fun _=>hp2,fun h=>(Cs n10 (by decide) h).elim,hA.keep (Ae (by omega)) (Ae (by omega)) (fun _=>rfl) (Bw r4 r2)⟩
  | 5,ho=>
   cases ho
   refine Ak rfl rfl ?_
   have n10:L.getD 10 false=false:=hC.not (n:=3) (d:=0) hi (.inr (.inl ⟨2,by omega,.inl rfl⟩))
   have hp:=hpre n10
   have heg:=enters_of Tryz.func88 (by kernel_rfl) rfl
   refine Bt (f:=88) (args:=#[.pointer (some ⟨H+1+1+1+1,0,none⟩)]) (by simp [execOp,go_sem,heg]) (F7 (H+1+1+1+1) w1) ?_
   rintro e2 w2 ⟨c2,rfl,hc2,q1,hb2⟩
   have hz1:=hp.size
   exact ⟨_,rfl,vF,vM,vV,vK,vN,vE,_,rfl,hC.set hi (fun i hi h=>by omega) (by omega) (by omega) (by omega) (by omega),fun _=>hp.call (i:=2) Fr rfl hi hb2 (Uo (H:=H) (by omega) q1),fun h=>(Cs n10 (by decide) h).elim,hA.keep (Ae (by omega)) (Ae (by omega)) (fun _=>rfl) (Aw hb2)⟩
  | 6,ho=>
   cases ho
   refine Ak rfl rfl ?_
   have n10:L.getD 10 false=false:=hC.not (n:=3) (d:=0) hi (.inr (.inl ⟨2,by omega,.inr rfl⟩))
   have hp:=hpre n10
   have d0:=hdep ⟨0,.data⟩ (by simp) rfl
   have d1:=hdep ⟨5,.data⟩ (by simp) rfl
   obtain ⟨bm,w2,rfl,r1,hp2,r2,r3,r4⟩:=hp.put (i:=2) Fr Lc hC rfl hi d0 d1
   dsimp only at r1
   refine Oper.wp_mono (K:=fun a2 w3=>a2=⟨#[.agg #[.int .u8 k,.string ⟨t.toArray⟩,.slice ka ks.length kc,.slice da ds.length dc,.int .i64 l],.pointer (some ⟨p,0,none⟩),.pointer (some ⟨H,0,none⟩),.pointer (some ⟨H+1,0,none⟩),.pointer (some ⟨H+1+1,0,none⟩),.pointer (some ⟨H+1+1+1,0,none⟩),.pointer (some ⟨H+1+1+1+1,0,none⟩),vF,(.map (some bm)),(vR 0),(vR 1),(vR 2),vV,vK,vN,vE,undef,undef,undef,undef,undef,undef,undef],[]⟩∧w3=w2) (fun a2 w3 he=>?_) (by simp [Oper.wp,go_sem,r1])
   obtain ⟨rfl,rfl⟩:=he
   exact ⟨vF,_,vV,vK,vN,vE,vR,rfl,hC.set hi (fun i hi h=>by have e:i=2:=(by omega);subst e;exact ⟨d0,d1⟩) (by omega) (by omega) (by omega) (by omega),fun _=>hp2,fun h=>(Cs n10 (by decide) h).elim,hA.keep (Ae (by omega)) (Ae (by omega)) (fun _=>rfl) (Bw r4 r2)⟩
  | 7,ho=>
   cases ho
   refine Ak rfl rfl ?_
   have n10:L.getD 10 false=false:=hC.not (n:=3) (d:=0) hi (.inr (.inr (.inl rfl)))
   have hp:=hpre n10
   refine Oper.wp_mono (K:=fun a2 w2=>a2=⟨#[.agg #[.int .u8 k,.string ⟨t.toArray⟩,.slice ka ks.length kc,.slice da ds.length dc,.int .i64 l],.pointer (some ⟨p,0,none⟩),.pointer (some ⟨H,0,none⟩),.pointer (some ⟨H+1,0,none⟩),.pointer (some ⟨H+1+1,0,none⟩),.pointer (some ⟨H+1+1+1,0,none⟩),.pointer (some ⟨H+1+1+1+1,0,none⟩),vF,vM,(vR 0),(vR 1),(vR 2),vM,vK,vN,vE,undef,undef,undef,undef,undef,undef,undef],[]⟩∧w2=w1) (fun a2 w2 he=>?_) (by simp [Oper.wp,go_sem])
   obtain ⟨rfl,rfl⟩:=he
   exact ⟨vF,vM,_,vK,vN,vE,vR,rfl,hC.set hi (fun i hi h=>by omega) (fun _=>⟨hdep ⟨0,.data⟩ (by simp) rfl,fun i hi=>by
    match i,hi with
    | 0,_=>exact ⟨hdep ⟨1,.data⟩ (by simp) rfl,hdep ⟨2,.data⟩ (by simp) rfl⟩
    | 1,_=>exact ⟨hdep ⟨3,.data⟩ (by simp) rfl,hdep ⟨4,.data⟩ (by simp) rfl⟩
    | 2,_=>exact ⟨hdep ⟨5,.data⟩ (by simp) rfl,hdep ⟨6,.data⟩ (by simp) rfl⟩⟩) (by omega) (by omega) (by omega),fun _=>hp.move Fr hC hi,fun h=>(Cs n10 (by decide) h).elim,hA.keep (Ae (by omega)) (Ae (by omega)) (fun _=>rfl) (fun g x y t _ hg=>hg)⟩
  | 8,ho=>
   cases ho
   refine Ak rfl rfl ?_
   have n10:L.getD 10 false=false:=hC.not (n:=3) (d:=0) hi (.inr (.inr (.inr (.inl rfl))))
   have hp:=hpre n10
   have d7:=hdep ⟨7,.data⟩ (by simp) rfl
   have hvv:=hp.mv d7
   obtain ⟨bm,rfl,_,_⟩:=hp.map (hC.mv d7).1
   subst hvv
   have heg:=enters_of Tryz.func57 (by kernel_rfl) rfl
   refine Bt (f:=57) (args:=#[.map (some bm),.slice none 0 0]) (by simp [execOp,go_sem,heg]) (Gt bm none 0 0 w1) ?_
   rintro e2 w2 ⟨c2,rfl,hc2,q1,q2,hb2⟩
   exact ⟨_,rfl,vF,_,_,_,vN,vE,vR,rfl,hC.set hi (fun i hi h=>by omega) (by omega) (fun _=>d7) (by omega) (by omega),fun _=>hp.keys Fr hb2 (by omega) q1 q2,fun h=>(Cs n10 (by decide) h).elim,hA.keep (Ae (by omega)) (Ae (by omega)) (fun _=>rfl) (Aw hb2)⟩
  | 9,ho=>
   cases ho
   refine Ak rfl rfl ?_
   have n10:L.getD 10 false=false:=hC.not (n:=3) (d:=0) hi (.inr (.inr (.inr (.inr rfl))))
   have hp:=hpre n10
   have y0:=Ad ((hp.below.block H (by omega)).trans (Aa HN0))
   refine Oper.wp_mono (K:=fun a2 w2=>a2=⟨#[.agg #[.int .u8 k,.string ⟨t.toArray⟩,.slice ka ks.length kc,.slice da ds.length dc,.int .i64 l],.pointer (some ⟨p,0,none⟩),.pointer (some ⟨H,0,none⟩),.pointer (some ⟨H+1,0,none⟩),.pointer (some ⟨H+1+1,0,none⟩),.pointer (some ⟨H+1+1+1,0,none⟩),.pointer (some ⟨H+1+1+1+1,0,none⟩),vF,vM,(vR 0),(vR 1),(vR 2),vV,vK,(.agg #[.int .u8 k,.string ⟨t.toArray⟩,.slice ka ks.length kc,.slice da ds.length dc,.int .i64 l]),vE,undef,undef,undef,undef,undef,undef,undef],[]⟩∧w2=w1) (fun a2 w2 he=>?_) (by simp [Oper.wp,go_sem,y0])
   obtain ⟨rfl,rfl⟩:=he
   exact ⟨vF,vM,vV,vK,_,vE,vR,rfl,hC.set hi (fun i hi h=>by omega) (by omega) (by omega) (by omega) (by omega),fun _=>hp.load Fr,fun h=>(Cs n10 (by decide) h).elim,hA.keep (Ae (by omega)) (Ae (by omega)) (fun _=>rfl) (fun g x y t _ hg=>hg)⟩
  | 10,ho=>
   cases ho
   refine Ak rfl rfl ?_
   have n10:L.getD 10 false=false:=(A4 hi).2
   have hp:=hpre n10
   have d8:=hdep ⟨8,.data⟩ (by simp) rfl
   have d9:=hdep ⟨9,.data⟩ (by simp) rfl
   obtain ⟨bm,c,rfl,rfl,hcB,hbB,hbl,q1,q2,hmc⟩:=hp.ready Fr hC (Gr H) d8 d9
   have heg:=enters_of Tryz.func92 (by kernel_rfl) rfl
   refine Bt (f:=92) (args:=#[.agg #[.int .u8 k,.string ⟨t.toArray⟩,.slice ka ks.length kc,.slice da ds.length dc,.int .i64 l],.pointer (some ⟨c,0,none⟩),.pointer (some ⟨c+1,0,none⟩)]) (by simp [execOp,go_sem,heg]) (Aa HCALL bm c w1 hp.below hp.size hcB hbB hbl q1 q2 hmc) ?_
   rintro e3 w3 hr3
   have hzz:=hp.size
   obtain ⟨v,rfl,hpo,hal⟩:=Eg.read (n:=3) (d:=0) (Pe (H+1+1)) hp.below (by omega) hp.size (Gr H) (fun g hg=>hg) hr3 hC hA hi (fun g h1 h2=>by omega)
   exact ⟨v,rfl,vF,vM,vV,_,_,v,vR,rfl,hC.set hi (fun i hi h=>by omega) (by omega) (by omega) (fun _=>⟨d8,d9⟩) (by omega),fun h=>by (have h2:=(E3 hi).2 (.inl rfl) ;rw [h2] at h;cases h),fun _=>hpo,hal⟩
  | 11,ho=>
   cases ho
   refine Ak rfl rfl ?_
   refine Oper.wp_mono (K:=fun a2 w2=>a2=⟨#[.agg #[.int .u8 k,.string ⟨t.toArray⟩,.slice ka ks.length kc,.slice da ds.length dc,.int .i64 l],.pointer (some ⟨p,0,none⟩),.pointer (some ⟨H,0,none⟩),.pointer (some ⟨H+1,0,none⟩),.pointer (some ⟨H+1+1,0,none⟩),.pointer (some ⟨H+1+1+1,0,none⟩),.pointer (some ⟨H+1+1+1+1,0,none⟩),(.pointer (some ⟨w1.heap.size,0,none⟩)),vM,(vR 0),(vR 1),(vR 2),vV,vK,vN,vE,undef,undef,undef,undef,undef,undef,undef],[]⟩∧w2=w1.alloc (.cells #[.int .i64 0,.int .i64 0] 29)) (fun a2 w2 he=>?_) (by simp [Oper.wp,go_sem])
   obtain ⟨rfl,rfl⟩:=he
   have hzz:H+1+1+1+1+1≤w1.heap.size:=by
    cases hq:L.getD 10 false with
    | false=>exact (hpre hq).size
    | true=>exact (hpost hq).2.1
   exact ⟨_,vM,vV,vK,vN,vE,vR,rfl,hC.set hi (fun i hi h=>by omega) (by omega) (by omega) (by omega) (by omega),fun h=>(hpre (by rwa [Ae (by omega)] at h)).grow Fr ((Below.refl _ w1).alloc (Nat.le_refl _) _) (Ae (by omega)) (fun i hi=>⟨Ae (by simp [E0] at hi;omega),Ae (by simp [E0] at hi;omega)⟩) (Ae (by decide)) (Ae (by decide)) (Ae (by decide)),fun h=>(hpost (by rwa [Ae (by omega)] at h)).alloc (Pe _) hi _,Mo.made hC hzz hi vE _ _⟩
  | 12,ho=>
   cases ho
   refine Ak rfl rfl ?_
   have d10:=hdep ⟨10,.data⟩ (by simp) rfl
   have d11:=hdep ⟨11,.data⟩ (by simp) rfl
   obtain ⟨fb,x,y,ec,el,rfl,rfl,e3,hp2,hA2⟩:=(hpost d10).store (Pe _) hA hi d11 (Gr H) (by omega)
   have z0:=Af e3
   refine Oper.wp_mono (K:=fun a2 w2=>a2=⟨#[.agg #[.int .u8 k,.string ⟨t.toArray⟩,.slice ka ks.length kc,.slice da ds.length dc,.int .i64 l],.pointer (some ⟨p,0,none⟩),.pointer (some ⟨H,0,none⟩),.pointer (some ⟨H+1,0,none⟩),.pointer (some ⟨H+1+1,0,none⟩),.pointer (some ⟨H+1+1+1,0,none⟩),.pointer (some ⟨H+1+1+1+1,0,none⟩),(.pointer (some ⟨fb,0,none⟩)),vM,(vR 0),(vR 1),(vR 2),vV,vK,vN,(.agg #[.int .i64 ec,.int .i64 el]),undef,undef,undef,undef,undef,undef,undef],[]⟩∧w2=(w1.setCell ⟨fb,0,none⟩ (.int .i64 ec)).setCell ⟨fb,1,none⟩ (.int .i64 el)) (fun a2 w2 he=>?_) (by simp [Oper.wp,go_sem,z0])
   obtain ⟨rfl,rfl⟩:=he
   exact ⟨_,vM,vV,vK,vN,_,vR,rfl,hC.set hi (fun i hi h=>by omega) (by omega) (by omega) (by omega) (fun _=>⟨d10,d11⟩),fun h=>by (rw [Ae (by omega)] at h;rw [show L.getD 10 false=true from d10] at h;cases h),fun _=>hp2,hA2⟩
  | n+13,ho=>exact absurd ho (by simp)
 ·rintro L a' V ⟨vF,vM,vV,vK,vN,vE,vR,rfl,hC,hpre,hpost,hA⟩ hall
  have hall':∀ i,i<13→L.getD i false=true:=fun i hi=>by
   have:=hall i
   have hz:=hC.size
   have hi':i<L.size:=by omega
   simp only [Array.getD,hi',dif_pos] at this ⊢
   exact this
  obtain ⟨fb,e,l',s,rfl,hfB,e3,hk,hr,hI⟩:=(hpost (hall' 10 (by omega))).end hA (hall' 11 (by omega)) (hall' 12 (by omega))
  have hMlt:∀ g,(Rc (H+1+1)) g→H+1+1≤g:=by rintro g (rfl | rfl | rfl)<;>omega
  have nP:=(hk.same p (by omega) (fun q=>by have:=hMlt _ q;omega)).trans (Aa HP1)
  have nT:=(hk.same tb (by omega) (fun q=>by have:=hMlt _ q;omega)).trans (Aa HT1)
  have nF:=(hk.same (H+1) (by omega) (fun q=>by have:=hMlt _ q;omega)).trans (Aa HN1)
  have hgV:w.grownBy V (some tb):=⟨hk.os.trans (Aa HBW).os,hk.tape.trans (Aa HBW).tape,hk.output.trans (Aa HBW).output,Nat.le_trans (Aa HBW).size hk.size,fun g hg _=>(hk.same g (by omega) (fun q=>by have:=hMlt _ q;omega)).trans ((Aa HBW).block g (by omega))⟩
  have u0:=Aq nP
  have u1:=Aq hI.b0
  have u2:=Aq hI.b1
  have u3:=Aq hI.b2
  have u4:=D9 nT
  have e5:=(A6 (W:=V) (g:=tb) (g':=fb) (by omega) (.int .i64 s.most) (.int .i64 s.first) (.int .i64 s.factor)).trans e3
  have f5:=(A6 (W:=V) (g:=tb) (g':=H+1) (by omega) (.int .i64 s.most) (.int .i64 s.first) (.int .i64 s.factor)).trans nF
  have HT5:=Ab (P4 nT (.int .i64 s.most) (.int .i64 s.first) (.int .i64 s.factor))
  have HG5:=Ab (Ms hgV (.int .i64 s.most) (.int .i64 s.first) (.int .i64 s.factor))
  have z5:=Af e5
  have z6:=Af f5
  have HF5:=Ab f5
  have HR:=Ab hr
  clear hpre hpost hA hall hall' hI hk hMlt nP nT nF hgV e3 e5 f5 hr
  go_upto_region 3 with fail
  go_wp2
  refine bodyPost_ret (Av rfl _ _ _ (H+1) _ rfl (Ai (A3 (Aa HF5) _ _))) rfl ⟨e,l',rfl,B4 (Aa HG5) (by omega) _ _,s,(Ar (by omega) _ _).trans (Aa HT5),Aa HR⟩
end Go.Proofs.YtnjokdbblmlhhaaGreatDoor
namespace Go.Proofs.YtnjokdbblmlhhaaGreatDoor
set_option linter.unusedVariables false
set_option linter.unusedSimpArgs false
open Go.RowKit
theorem Ey {M:Nat→Prop} {tb:Nat} {w w':World} (h:w.grownBy w' (some tb)) (hM:M tb):Dw M w w':=⟨h.size,fun g hl hn=>h.block g hl (fun e=>hn (by injection e with e;rw [e];exact hM)),h.os,h.tape,h.output⟩
theorem P9 {σ:Type} (Inv:σ→(Nat→Prop)→World→Prop) (M:Nat→Prop) (B tb c:Nat) (set:List (List UInt8)→σ→σ) (W:World) (hB:B≤c) (hc:W.heap[c]?=some (.cells #[.pointer (some ⟨tb,0,none⟩)] 141)) (hM:M tb)
  (hget:∀ s A W',Inv s A W'→∃ v0,W'.heap[tb]?=some (.cells #[v0] 23))
  (hset:∀ s A W' W'' a sc xs,Inv s A W'→W'.grownBy W'' (some tb)→W''.heap[tb]?=some (.cells #[.slice a xs.length sc] 23)→Strs W'' W'.heap.size (.slice a xs.length sc) xs→Inv (set xs s) (fun g=>A g∧g<W'.heap.size) W'') :
  G1 Inv M B (.func (.func 124) #[] #[.pointer (some ⟨c,0,none⟩)]) (fun d s=>(P22.namesE d).map fun n=>set n s) W:=by
 refine ⟨_,_,fun g=>g=c,rfl,enters_of Tryz.func124 (by kernel_rfl) rfl,?_,fun W' hz hC nd s A hin hok hbk hi=>?_⟩
 ·rintro g rfl
  exact ⟨hB,_,_,hc⟩
 obtain ⟨k,t,ka,kc,ks,da,dc,ds,l⟩:=nd
 rw [Nd.val_eq]
 obtain ⟨v0,hb⟩:=hget s A W' hi
 refine (Nb tb c k t ka kc ks da dc ds l v0 W' hin hok (fun h=>hbk _ h hM) ((hC c rfl).trans hc) hb).mono ?_
 rintro e w1 ⟨ec,el,rfl,hg,a,sc,xs,h1,h2,h3⟩
 refine ⟨Ey hg hM,?_⟩
 have hI:=hset s A W' w1 a sc xs hi hg h1 h2
 rcases h3 with ⟨hq,rfl,rfl⟩ | ⟨hq,hne⟩
 ·dsimp only
  rw [hq]
  exact ⟨rfl,hI⟩
 ·dsimp only
  rw [hq]
  exact ⟨rfl,hne,_,hI⟩
theorem Q3 {σ:Type} (Inv:σ→(Nat→Prop)→World→Prop) (M:Nat→Prop) (B tb c:Nat) (set:P22.Try→σ→σ) (W:World) (hB:B≤c) (hc:W.heap[c]?=some (.cells #[.pointer (some ⟨tb,0,none⟩)] 143)) (hM:M tb)
  (hget:∀ s A W',Inv s A W'→∃ z0 z1 z2,W'.heap[tb]?=some (.cells #[z0,z1,z2] 84))
  (hset:∀ s A W' W'' (x:P22.Try),Inv s A W'→W'.grownBy W'' (some tb)→W''.heap[tb]?=some (.cells #[.int .i64 x.most,.int .i64 x.first,.int .i64 x.factor] 84)→Inv (set x s) (fun g=>A g∧g<W'.heap.size) W'') :
  G1 Inv M B (.func (.func 126) #[] #[.pointer (some ⟨c,0,none⟩)]) (fun d s=>(P22.triesE d).map fun n=>set n s) W:=by
 refine ⟨_,_,fun g=>g=c,rfl,enters_of Tryz.func126 (by kernel_rfl) rfl,?_,fun W' hz hC nd s A hin hok hbk hi=>?_⟩
 ·rintro g rfl
  exact ⟨hB,_,_,hc⟩
 obtain ⟨k,t,ka,kc,ks,da,dc,ds,l⟩:=nd
 rw [Nd.val_eq]
 obtain ⟨z0,z1,z2,hb⟩:=hget s A W' hi
 refine (Oz tb c k t ka kc ks da dc ds l z0 z1 z2 W' hin hok (fun h=>hbk _ h hM) ((hC c rfl).trans hc) hb).mono ?_
 rintro e w1 ⟨ec,el,rfl,hg,x,h1,h3⟩
 refine ⟨Ey hg hM,?_⟩
 have hI:=hset s A W' w1 x hi hg h1
 rcases h3 with ⟨hq,rfl,rfl⟩ | ⟨hq,hne⟩
 ·dsimp only
  rw [hq]
  exact ⟨rfl,hI⟩
 ·dsimp only
  rw [hq]
  exact ⟨rfl,hne,_,hI⟩
theorem Sg {σ:Type} (Inv:σ→(Nat→Prop)→World→Prop) (M:Nat→Prop) (B tb c:Nat) (set:P20.T→σ→σ) (W:World) (hB:B≤c) (hc:W.heap[c]?=some (.cells #[.pointer (some ⟨tb,0,none⟩)] 146)) (hM:M tb)
  (hget:∀ s A W',Inv s A W'→∃ z0 z1 z2 z3 z4,W'.heap[tb]?=some (.cells #[z0,z1,z2,z3,z4] 26))
  (hset:∀ s A W' W'' (k:Nat) (t:List UInt8) (ka:Option Addr) (kc:Nat) (ks:List (List UInt8)) (da:Option Addr) (dc:Nat) (ds:List Nd) (l:Int),Inv s A W'→W'.grownBy W'' (some tb)→(Nd.mk k t ka kc ks da dc ds l).In W''→(∀ g,(Nd.mk k t ka kc ks da dc ds l).blk g→W'.heap.size≤g)→W''.heap[tb]?=some (.cells #[.int .u8 k,.string ⟨t.toArray⟩,.slice ka ks.length kc,.slice da ds.length dc,.int .i64 l] 26)→Inv (set (Nd.mk k t ka kc ks da dc ds l).bare s) (fun g=>A g∧g<W'.heap.size) W'') :
  G1 Inv M B (.func (.func 128) #[] #[.pointer (some ⟨c,0,none⟩)]) (fun d s=>(P22.noteE d).map fun n=>set n s) W:=by
 refine ⟨_,_,fun g=>g=c,rfl,enters_of Tryz.func128 (by kernel_rfl) rfl,?_,fun W' hz hC nd s A hin hok hbk hi=>?_⟩
 ·rintro g rfl
  exact ⟨hB,_,_,hc⟩
 obtain ⟨k,t,ka,kc,ks,da,dc,ds,l⟩:=nd
 rw [Nd.val_eq]
 obtain ⟨z0,z1,z2,z3,z4,hb⟩:=hget s A W' hi
 refine (Qr k t ka kc ks da dc ds l c tb z0 z1 z2 z3 z4 W' hin hok (fun h=>hbk _ h hM) ((hC c rfl).trans hc) hb).mono ?_
 rintro e w1 ⟨hg,⟨k',t',ka',kc',ks',da',dc',ds',l',hbr,hin',hblk,hcells⟩,hm⟩
 refine ⟨Ey hg hM,?_⟩
 have hI:=hset s A W' w1 k' t' ka' kc' ks' da' dc' ds' l' hi hg hin' hblk hcells
 rw [hbr] at hI
 cases hq:P22.noteE (Nd.mk k t ka kc ks da dc ds l).bare with
 | ok x=>
  rw [hq] at hm
  have hx:(Nd.mk k t ka kc ks da dc ds l).bare.cut 18=x:=by
   unfold P22.noteE at hq
   split at hq
   ·cases hq
   ·rename_i hch
    split at hq
    ·cases hq
    ·cases hq
     exact P20.T.check_cut _ 1 18 (by simpa using hch) (by omega)
  rw [hx] at hI
  dsimp only
  rw [hq]
  exact ⟨hm,hI⟩
 | error x=>
  rw [hq] at hm
  dsimp only
  rw [hq]
  exact ⟨hm,P22.noteE_bad hq,_,hI⟩
end Go.Proofs.YtnjokdbblmlhhaaGreatDoor
namespace Go.Proofs.YtnjokdbblmlhhaaGreatDoor
set_option linter.unusedVariables false
set_option linter.unusedSimpArgs false
open Go.RowKit
def Li (b:Nat) (xs:List (List UInt8)) (A:Nat→Prop) (W:World):Prop:=∃ a c,W.heap[b+1+1+1]?=some (.cells #[.slice a xs.length c] 23)∧Strs W (b+1+1+1+1+1+1+1) (.slice a xs.length c) xs∧∀ g,(Value.slice a xs.length c).ownBlock=some g→¬ A g
theorem Li.stay {b:Nat} {xs:List (List UInt8)} {A A':Nat→Prop} {W W':World} (h:Li b xs A W) (hz:W.heap.size≤W'.heap.size) (hb:W'.heap[b+1+1+1]?=W.heap[b+1+1+1]?) (hs:∀ g,b+1+1+1+1+1+1+1≤g→g<W.heap.size→¬ A g→W'.heap[g]?=W.heap[g]?) (hA:∀ g,A' g→A g∨W.heap.size≤g):Li b xs A' W':=by
 obtain ⟨a,c,h1,h2,h3⟩:=h
 refine ⟨a,c,hb.trans h1,⟨Ds h2.own (fun g hg=>hs g (Ao h2.own g hg).1 (Ao h2.own g hg).2 (h3 g hg))⟩,fun g hg hq=>?_⟩
 rcases hA g hq with h | h
 ·exact h3 g hg h
 ·have:=(Ao h2.own g hg).2
  omega
def O3 (b:Nat) (x:P20.T) (A:Nat→Prop) (W:World):Prop:=∃ (k:Nat) (t:List UInt8) (ka:Option Addr) (kc:Nat) (ks:List (List UInt8)) (da:Option Addr) (dc:Nat) (ds:List Nd) (l:Int),(Nd.mk k t ka kc ks da dc ds l).bare=x∧(Nd.mk k t ka kc ks da dc ds l).In W∧(∀ g,(Nd.mk k t ka kc ks da dc ds l).blk g→b+1+1+1+1+1+1+1≤g∧¬ A g)∧W.heap[b+1+1+1+1+1+1]?=some (.cells #[.int .u8 k,.string ⟨t.toArray⟩,.slice ka ks.length kc,.slice da ds.length dc,.int .i64 l] 26)
theorem O3.stay {b:Nat} {x:P20.T} {A A':Nat→Prop} {W W':World} (h:O3 b x A W) (hz:W.heap.size≤W'.heap.size) (hb:W'.heap[b+1+1+1+1+1+1]?=W.heap[b+1+1+1+1+1+1]?) (hs:∀ g,b+1+1+1+1+1+1+1≤g→g<W.heap.size→¬ A g→W'.heap[g]?=W.heap[g]?) (hA:∀ g,A' g→A g∨W.heap.size≤g):O3 b x A' W':=by
 obtain ⟨k,t,ka,kc,ks,da,dc,ds,l,h1,h2,h3,h4⟩:=h
 refine ⟨k,t,ka,kc,ks,da,dc,ds,l,h1,h2.keep (fun g hg=>hs g (h3 g hg).1 (h2.lt hg) (h3 g hg).2),fun g hg=>⟨(h3 g hg).1,fun hq=>?_⟩,hb.trans h4⟩
 rcases hA g hq with h | h
 ·exact (h3 g hg).2 h
 ·have:=h2.lt hg
  omega
structure Qa (b:Nat) (s:P22.Step) (A:Nat→Prop) (W:World):Prop where
 b0:W.heap[b]?=some (.cells (Fv s.name) 9)
 b1:W.heap[b+1]?=some (.cells (Fv s.action) 9)
 b2:W.heap[b+1+1]?=some (.cells (Fv s.undo) 9)
 b3:Li b s.after A W
 b4:W.heap[b+1+1+1+1]?=some (.cells #[.int .i64 s.tries.most,.int .i64 s.tries.first,.int .i64 s.tries.factor] 84)
 b5:W.heap[b+1+1+1+1+1]?=some (.cells (Gy s.limit) 3)
 b6:O3 b s.note A W
 n:∀ g,b≤g→g<b+1+1+1+1+1+1+1→¬ A g
 lt:b+1+1+1+1+1+1+1≤W.heap.size
def Jo (b:Nat) (g:Nat):Prop:=b≤g∧g<b+1+1+1+1+1+1+1
theorem O7 (b:Nat):Gf (Qa b) where
 stays:=by
  rintro s A W W' h hz hs
  have hl:=h.lt
  exact ⟨(hs _ (by omega) (h.n _ (by omega) (by omega))).trans h.b0,(hs _ (by omega) (h.n _ (by omega) (by omega))).trans h.b1,(hs _ (by omega) (h.n _ (by omega) (by omega))).trans h.b2,h.b3.stay hz (hs _ (by omega) (h.n _ (by omega) (by omega))) (fun g _ h2 h3=>hs g h2 h3) (fun g hA=>hA),(hs _ (by omega) (h.n _ (by omega) (by omega))).trans h.b4,(hs _ (by omega) (h.n _ (by omega) (by omega))).trans h.b5,h.b6.stay hz (hs _ (by omega) (h.n _ (by omega) (by omega))) (fun g _ h2 h3=>hs g h2 h3) (fun g hA=>hA),fun g h1 h2 h3=>h3.elim (h.n g h1 h2) (fun q=>by omega),Nat.le_trans hl hz⟩
 mono:=fun s A A' W h hA=>⟨h.b0,h.b1,h.b2,h.b3.stay (Nat.le_refl _) rfl (fun _ _ _ _=>rfl) (fun g hg=>.inl (hA g hg)),h.b4,h.b5,h.b6.stay (Nat.le_refl _) rfl (fun _ _ _ _=>rfl) (fun g hg=>.inl (hA g hg)),fun g h1 h2 h3=>h.n g h1 h2 (hA g h3),h.lt⟩
theorem N7 (b:Nat):∀ g,Jo b g→g<b+1+1+1+1+1+1+1:=fun g h=>h.2
theorem Qb {W:World} {B B':Nat} {v:Value} {n:Nat} {xs:List Value} (h:W.ownsRow B 9 1 v n xs) (hB:B'≤B):W.ownsRow B' 9 1 v n xs:=by
 obtain ⟨h1,h2 | ⟨g,cap,cur,e1,e2,e3⟩⟩:=h
 ·exact ⟨h1,.inl h2⟩
 ·exact ⟨h1,.inr ⟨g,cap,cur,e1,Nat.le_trans hB e2,e3⟩⟩
theorem U6 {b c:Nat} {W:World} (hB:b+1+1+1+1+1+1+1≤c) (hc:W.heap[c]?=some (.cells #[.pointer (some ⟨b,0,none⟩)] 94)) (hc1:W.heap[c+1]?=some (.cells #[.int .i64 64] 3)):G1 (Qa b) (Jo b) (b+1+1+1+1+1+1+1) (.func (.func 93) #[] #[.pointer (some ⟨c,0,none⟩),.pointer (some ⟨c+1,0,none⟩)]) (fun (d:P20.T) (s:P22.Step)=>(P22.textE 64 d).map fun x=>{ s with name:=x }) W:=by
 refine F5 (σ:=P22.Step) _ _ _ (b) c 64 (fun (x:List UInt8) (s:P22.Step)=>{ s with name:=x }) W hB hc hc1 (by unfold Jo;omega) (fun s A W' h=>?_) ?_
 ·exact ⟨_,h.b0⟩
 ·intro s A W' W'' x h hg hn
  have hl:=h.lt
  exact ⟨hn,((hg.block _ (by omega) (by simp;try omega)).trans h.b1),((hg.block _ (by omega) (by simp;try omega)).trans h.b2),(h.b3.stay hg.size (hg.block _ (by omega) (by simp;try omega)) (fun g h1 h2 _=>hg.block g h2 (by simp;omega)) (fun g hA=>.inl hA.1)),((hg.block _ (by omega) (by simp;try omega)).trans h.b4),((hg.block _ (by omega) (by simp;try omega)).trans h.b5),(h.b6.stay hg.size (hg.block _ (by omega) (by simp;try omega)) (fun g h1 h2 _=>hg.block g h2 (by simp;omega)) (fun g hA=>.inl hA.1)),fun g h1 h2 h3=>h.n g h1 h2 h3.1,Nat.le_trans hl hg.size⟩
theorem Um {b c:Nat} {W:World} (hB:b+1+1+1+1+1+1+1≤c) (hc:W.heap[c]?=some (.cells #[.pointer (some ⟨b+1,0,none⟩)] 94)) (hc1:W.heap[c+1]?=some (.cells #[.int .i64 64] 3)):G1 (Qa b) (Jo b) (b+1+1+1+1+1+1+1) (.func (.func 93) #[] #[.pointer (some ⟨c,0,none⟩),.pointer (some ⟨c+1,0,none⟩)]) (fun (d:P20.T) (s:P22.Step)=>(P22.textE 64 d).map fun x=>{ s with action:=x }) W:=by
 refine F5 (σ:=P22.Step) _ _ _ (b+1) c 64 (fun (x:List UInt8) (s:P22.Step)=>{ s with action:=x }) W hB hc hc1 (by unfold Jo;omega) (fun s A W' h=>?_) ?_
 ·exact ⟨_,h.b1⟩
 ·intro s A W' W'' x h hg hn
  have hl:=h.lt
  exact ⟨((hg.block _ (by omega) (by simp;try omega)).trans h.b0),hn,((hg.block _ (by omega) (by simp;try omega)).trans h.b2),(h.b3.stay hg.size (hg.block _ (by omega) (by simp;try omega)) (fun g h1 h2 _=>hg.block g h2 (by simp;omega)) (fun g hA=>.inl hA.1)),((hg.block _ (by omega) (by simp;try omega)).trans h.b4),((hg.block _ (by omega) (by simp;try omega)).trans h.b5),(h.b6.stay hg.size (hg.block _ (by omega) (by simp;try omega)) (fun g h1 h2 _=>hg.block g h2 (by simp;omega)) (fun g hA=>.inl hA.1)),fun g h1 h2 h3=>h.n g h1 h2 h3.1,Nat.le_trans hl hg.size⟩
theorem U3 {b c:Nat} {W:World} (hB:b+1+1+1+1+1+1+1≤c) (hc:W.heap[c]?=some (.cells #[.pointer (some ⟨b+1+1,0,none⟩)] 94)) (hc1:W.heap[c+1]?=some (.cells #[.int .i64 64] 3)):G1 (Qa b) (Jo b) (b+1+1+1+1+1+1+1) (.func (.func 93) #[] #[.pointer (some ⟨c,0,none⟩),.pointer (some ⟨c+1,0,none⟩)]) (fun (d:P20.T) (s:P22.Step)=>(P22.textE 64 d).map fun x=>{ s with undo:=x }) W:=by
 refine F5 (σ:=P22.Step) _ _ _ (b+1+1) c 64 (fun (x:List UInt8) (s:P22.Step)=>{ s with undo:=x }) W hB hc hc1 (by unfold Jo;omega) (fun s A W' h=>?_) ?_
 ·exact ⟨_,h.b2⟩
 ·intro s A W' W'' x h hg hn
  have hl:=h.lt
  exact ⟨((hg.block _ (by omega) (by simp;try omega)).trans h.b0),((hg.block _ (by omega) (by simp;try omega)).trans h.b1),hn,(h.b3.stay hg.size (hg.block _ (by omega) (by simp;try omega)) (fun g h1 h2 _=>hg.block g h2 (by simp;omega)) (fun g hA=>.inl hA.1)),((hg.block _ (by omega) (by simp;try omega)).trans h.b4),((hg.block _ (by omega) (by simp;try omega)).trans h.b5),(h.b6.stay hg.size (hg.block _ (by omega) (by simp;try omega)) (fun g h1 h2 _=>hg.block g h2 (by simp;omega)) (fun g hA=>.inl hA.1)),fun g h1 h2 h3=>h.n g h1 h2 h3.1,Nat.le_trans hl hg.size⟩
theorem U8 {b c:Nat} {W:World} (hB:b+1+1+1+1+1+1+1≤c) (hc:W.heap[c]?=some (.cells #[.pointer (some ⟨b+1+1+1,0,none⟩)] 141)):G1 (Qa b) (Jo b) (b+1+1+1+1+1+1+1) (.func (.func 124) #[] #[.pointer (some ⟨c,0,none⟩)]) (fun (d:P20.T) (s:P22.Step)=>(P22.namesE d).map fun x=>{ s with after:=x }) W:=by
 refine P9 (σ:=P22.Step) _ _ _ (b+1+1+1) c (fun (x:List (List UInt8)) (s:P22.Step)=>{ s with after:=x }) W hB hc (by unfold Jo;omega) (fun s A W' h=>?_) ?_
 ·obtain ⟨a,sc,h1,_⟩:=h.b3
  exact ⟨_,h1⟩
 ·intro s A W' W'' a sc xs h hg hn hst
  have hl:=h.lt
  exact ⟨((hg.block _ (by omega) (by simp;try omega)).trans h.b0),((hg.block _ (by omega) (by simp;try omega)).trans h.b1),((hg.block _ (by omega) (by simp;try omega)).trans h.b2),⟨a,sc,hn,⟨Qb hst.own (by omega)⟩,fun g h1 h2=>by have:=(Ao hst.own g h1).1;omega⟩,((hg.block _ (by omega) (by simp;try omega)).trans h.b4),((hg.block _ (by omega) (by simp;try omega)).trans h.b5),(h.b6.stay hg.size (hg.block _ (by omega) (by simp;try omega)) (fun g h1 h2 _=>hg.block g h2 (by simp;omega)) (fun g hA=>.inl hA.1)),fun g h1 h2 h3=>h.n g h1 h2 h3.1,Nat.le_trans hl hg.size⟩
theorem Uv {b c:Nat} {W:World} (hB:b+1+1+1+1+1+1+1≤c) (hc:W.heap[c]?=some (.cells #[.pointer (some ⟨b+1+1+1+1,0,none⟩)] 143)):G1 (Qa b) (Jo b) (b+1+1+1+1+1+1+1) (.func (.func 126) #[] #[.pointer (some ⟨c,0,none⟩)]) (fun (d:P20.T) (s:P22.Step)=>(P22.triesE d).map fun x=>{ s with tries:=x }) W:=by
 refine Q3 (σ:=P22.Step) _ _ _ (b+1+1+1+1) c (fun (x:P22.Try) (s:P22.Step)=>{ s with tries:=x }) W hB hc (by unfold Jo;omega) (fun s A W' h=>?_) ?_
 ·exact ⟨_,_,_,h.b4⟩
 ·intro s A W' W'' x h hg hn
  have hl:=h.lt
  exact ⟨((hg.block _ (by omega) (by simp;try omega)).trans h.b0),((hg.block _ (by omega) (by simp;try omega)).trans h.b1),((hg.block _ (by omega) (by simp;try omega)).trans h.b2),(h.b3.stay hg.size (hg.block _ (by omega) (by simp;try omega)) (fun g h1 h2 _=>hg.block g h2 (by simp;omega)) (fun g hA=>.inl hA.1)),hn,((hg.block _ (by omega) (by simp;try omega)).trans h.b5),(h.b6.stay hg.size (hg.block _ (by omega) (by simp;try omega)) (fun g h1 h2 _=>hg.block g h2 (by simp;omega)) (fun g hA=>.inl hA.1)),fun g h1 h2 h3=>h.n g h1 h2 h3.1,Nat.le_trans hl hg.size⟩
theorem Uy {b c:Nat} {W:World} (hB:b+1+1+1+1+1+1+1≤c) (hc:W.heap[c]?=some (.cells #[.pointer (some ⟨b+1+1+1+1+1,0,none⟩)] 65)):G1 (Qa b) (Jo b) (b+1+1+1+1+1+1+1) (.func (.func 127) #[] #[.pointer (some ⟨c,0,none⟩)]) (fun (d:P20.T) (s:P22.Step)=>(P22.numE d).map fun x=>{ s with limit:=x }) W:=by
 refine Ik (σ:=P22.Step) _ _ _ (b+1+1+1+1+1) c (fun (x:Int) (s:P22.Step)=>{ s with limit:=x }) W hB hc (by unfold Jo;omega) (fun s A W' h=>?_) ?_
 ·exact ⟨_,h.b5⟩
 ·intro s A W' W'' x h hg hn
  have hl:=h.lt
  exact ⟨((hg.block _ (by omega) (by simp;try omega)).trans h.b0),((hg.block _ (by omega) (by simp;try omega)).trans h.b1),((hg.block _ (by omega) (by simp;try omega)).trans h.b2),(h.b3.stay hg.size (hg.block _ (by omega) (by simp;try omega)) (fun g h1 h2 _=>hg.block g h2 (by simp;omega)) (fun g hA=>.inl hA.1)),((hg.block _ (by omega) (by simp;try omega)).trans h.b4),hn,(h.b6.stay hg.size (hg.block _ (by omega) (by simp;try omega)) (fun g h1 h2 _=>hg.block g h2 (by simp;omega)) (fun g hA=>.inl hA.1)),fun g h1 h2 h3=>h.n g h1 h2 h3.1,Nat.le_trans hl hg.size⟩
theorem Us {b c:Nat} {W:World} (hB:b+1+1+1+1+1+1+1≤c) (hc:W.heap[c]?=some (.cells #[.pointer (some ⟨b+1+1+1+1+1+1,0,none⟩)] 146)):G1 (Qa b) (Jo b) (b+1+1+1+1+1+1+1) (.func (.func 128) #[] #[.pointer (some ⟨c,0,none⟩)]) (fun (d:P20.T) (s:P22.Step)=>(P22.noteE d).map fun x=>{ s with note:=x }) W:=by
 refine Sg (σ:=P22.Step) _ _ _ (b+1+1+1+1+1+1) c (fun (x:P20.T) (s:P22.Step)=>{ s with note:=x }) W hB hc (by unfold Jo;omega) (fun s A W' h=>?_) ?_
 ·obtain ⟨k,t,ka,kc,ks,da,dc,ds,l,h1,h2,h3,h4⟩:=h.b6
  exact ⟨_,_,_,_,_,h4⟩
 ·intro s A W' W'' k t ka kc ks da dc ds l h hg hin hbl hn
  have hl:=h.lt
  exact ⟨((hg.block _ (by omega) (by simp;try omega)).trans h.b0),((hg.block _ (by omega) (by simp;try omega)).trans h.b1),((hg.block _ (by omega) (by simp;try omega)).trans h.b2),(h.b3.stay hg.size (hg.block _ (by omega) (by simp;try omega)) (fun g h1 h2 _=>hg.block g h2 (by simp;omega)) (fun g hA=>.inl hA.1)),((hg.block _ (by omega) (by simp;try omega)).trans h.b4),((hg.block _ (by omega) (by simp;try omega)).trans h.b5),⟨k,t,ka,kc,ks,da,dc,ds,l,rfl,hin,fun g h1=>⟨by have:=hbl g h1;omega,fun h2=>by have:=hbl g h1;omega⟩,hn⟩,fun g h1 h2 h3=>h.n g h1 h2 h3.1,Nat.le_trans hl hg.size⟩
def Ed:List (C8 P22.Step):=[([110,97,109,101],2,fun (d:P20.T) (s:P22.Step)=>(P22.textE 64 d).map fun x=>{ s with name:=x }),([97,99,116,105,111,110],4,fun (d:P20.T) (s:P22.Step)=>(P22.textE 64 d).map fun x=>{ s with action:=x }),([117,110,100,111],6,fun (d:P20.T) (s:P22.Step)=>(P22.textE 64 d).map fun x=>{ s with undo:=x }),([97,102,116,101,114],8,fun (d:P20.T) (s:P22.Step)=>(P22.namesE d).map fun x=>{ s with after:=x }),([114,101,116,114,121],10,fun (d:P20.T) (s:P22.Step)=>(P22.triesE d).map fun x=>{ s with tries:=x }),([108,105,109,105,116],12,fun (d:P20.T) (s:P22.Step)=>(P22.numE d).map fun x=>{ s with limit:=x }),([110,111,116,101],14,fun (d:P20.T) (s:P22.Step)=>(P22.noteE d).map fun x=>{ s with note:=x })]
theorem Un:Du Ed=P22.stepRd:=by
 funext k
 rfl
theorem C9:Qz Ed:=by
 intro i q hq
 match i,hq with
 | 0,hq=>cases hq;rfl
 | 1,hq=>cases hq;rfl
 | 2,hq=>cases hq;rfl
 | 3,hq=>cases hq;rfl
 | 4,hq=>cases hq;rfl
 | 5,hq=>cases hq;rfl
 | 6,hq=>cases hq;rfl
 | n+7,hq=>simp [Ed] at hq
theorem Fk:Hh Ed:=by
 unfold Hh Ed
 simp
end Go.Proofs.YtnjokdbblmlhhaaGreatDoor
