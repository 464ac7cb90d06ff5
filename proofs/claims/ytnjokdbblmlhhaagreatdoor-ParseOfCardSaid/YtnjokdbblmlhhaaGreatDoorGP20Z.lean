/- Lemmas of this claim. -/
import Derived.Test.YtnjokdbblmlhhaaGreatDoorGW20Z
import Derived.Tactics2
import Derived.Defers
import Derived.Recover
import Derived.Test.YtnjokdbblmlhhaaGreatDoorG19bcZ
namespace Go.Proofs.YtnjokdbblmlhhaaGreatDoor
set_option linter.unusedVariables false
set_option linter.unusedSimpArgs false
open Go.RowKit
theorem A3 {W:World} {g:Nat} {t:TypeId} {a b:Value} (h:W.heap[g]?=some (.cells #[a,b] t)) (v0 v1:Value):((W.setCell ⟨g,0,none⟩ v0).setCell ⟨g,1,none⟩ v1).heap[g]?=some (.cells #[v0,v1] t):=by
 simp [World.setCell,Array.getElem?_modify,h]
theorem Ar {W:World} {g g':Nat} (h:g'≠g) (v0 v1:Value):((W.setCell ⟨g,0,none⟩ v0).setCell ⟨g,1,none⟩ v1).heap[g']?=W.heap[g']?:=by
 rw [Below.heap_setCell _ _ _ _ h,Below.heap_setCell _ _ _ _ h]
structure Sw (w w':World) (H:Nat) (a b:Obj):Prop where
 h0:w'.heap[H]?=some a
 h1:w'.heap[H+1]?=some b
 size:w.heap.size≤w'.heap.size
 same:∀ g,g≠H→g≠H+1→g<w.heap.size→w'.heap[g]?=w.heap[g]?
 os:w'.os=w.os
 tape:w'.tape=w.tape
 output:w'.output=w.output
theorem T6 (W:World) (a:Addr) (v:Value):(W.setCell a v).os=W.os∧(W.setCell a v).tape=W.tape∧(W.setCell a v).output=W.output:=⟨rfl,rfl,rfl⟩
theorem O2 (W:World) (g:Nat) (v0 v1 v2 v3 v4:Value):∀ V,((((W.setCell ⟨g,0,none⟩ v0).setCell ⟨g,1,none⟩ v1).setCell ⟨g,2,none⟩ v2).setCell ⟨g,3,none⟩ v3).setCell ⟨g,4,none⟩ v4=V→V.os=W.os∧V.tape=W.tape∧V.output=W.output∧V.heap.size=W.heap.size:=by
 rintro V rfl
 refine ⟨?_,?_,?_,by simp⟩<;>simp only [T6]
theorem Ua {w W1 W2:World} (hb:Below w.heap.size w W1) {H:Nat} {a:Obj} {S:TypeId} {d0 d1:Value} (h0:W2.heap[H]?=some a) (h1:W1.heap[H+1]?=some (.cells #[d0,d1] S)) (hs:∀ g,g≠H→W2.heap[g]?=W1.heap[g]?)
  (ho:W2.os=W1.os∧W2.tape=W1.tape∧W2.output=W1.output∧W2.heap.size=W1.heap.size) (u0 u1:Value):Sw w ((W2.setCell ⟨H+1,0,none⟩ u0).setCell ⟨H+1,1,none⟩ u1).drew H a (.cells #[u0,u1] S):=by
 have hz:=hb.size
 have h2:W2.heap[H+1]?=some (.cells #[d0,d1] S):=(hs _ (by omega)).trans h1
 refine ⟨C4 ((Ar (by omega) _ _).trans h0),C4 (A3 h2 _ _),?_,fun g n0 n1 hl=>C4 ((Ar n1 _ _).trans ((hs g n0).trans (hb.block g hl))),?_,?_,?_⟩
 ·simp [World.drew];omega
 ·exact ho.1.trans hb.os
 ·exact ho.2.1.trans hb.tape
 ·exact ho.2.2.1.trans hb.output
theorem Jv {w W1:World} (hb:Below w.heap.size w W1) {H:Nat} {T S:TypeId} {c0 c1 c2 c3 c4 d0 d1:Value} (h0:W1.heap[H]?=some (.cells #[c0,c1,c2,c3,c4] T)) (h1:W1.heap[H+1]?=some (.cells #[d0,d1] S)) (v0 v1 v2 v3 v4 u0 u1:Value) :
  Sw w (((((((W1.setCell ⟨H,0,none⟩ v0).setCell ⟨H,1,none⟩ v1).setCell ⟨H,2,none⟩ v2).setCell ⟨H,3,none⟩ v3).setCell ⟨H,4,none⟩ v4).setCell ⟨H+1,0,none⟩ u0).setCell ⟨H+1,1,none⟩ u1).drew H (.cells #[v0,v1,v2,v3,v4] T) (.cells #[u0,u1] S):=by
 have e0:=B9 h0 v0 v1 v2 v3 v4
 have e1:=fun g (hg:g≠H)=>Az (W:=W1) hg v0 v1 v2 v3 v4
 have e2:=O2 W1 H v0 v1 v2 v3 v4 _ rfl
 obtain ⟨W2,hW2⟩:∃ W2,((((W1.setCell ⟨H,0,none⟩ v0).setCell ⟨H,1,none⟩ v1).setCell ⟨H,2,none⟩ v2).setCell ⟨H,3,none⟩ v3).setCell ⟨H,4,none⟩ v4=W2:=⟨_,rfl⟩
 rw [hW2] at e0 e2 ⊢
 simp only [hW2] at e1
 exact Ua hb e0 h1 e1 e2 u0 u1
theorem Sw.below {w w':World} {a b:Obj} (h:Sw w w' w.heap.size a b):Below w.heap.size w w':=⟨h.os,h.tape,h.output,h.size,fun i hi=>h.same i (by omega) (by omega) hi⟩
theorem Sw.far {w w':World} {H B:Nat} {a b:Obj} (h:Sw w w' H a b) (hB:B≤H) (hs:B≤w.heap.size:=by omega):Below B w w':=⟨h.os,h.tape,h.output,h.size,fun i hi=>h.same i (by omega) (by omega) (by omega)⟩
theorem K9.off {W W':World} {a:Option Addr} {ts:List Tk} (h:K9 W a ts) {H:Nat} {T:TypeId} {v0 v1 v4:Value} {p q:Option Addr} {m n c d:Nat} (hN:W.heap[H]?=some (.cells #[v0,v1,.slice p m c,.slice q n d,v4] T)) (h0:∀ x:ByteArray,v4≠.string x)
  (ho:∀ g,g≠H→W'.heap[g]?=W.heap[g]?):K9 W' a ts:=by
 refine h.keep (fun r hn hr=>ho r ?_)
 rintro rfl
 cases ts with
 | nil=>exact hn rfl
 | cons t ts=>
  obtain ⟨b,o,e,c0,c1,c2,c3⟩:=h 0 t rfl
  obtain ⟨o2,e2⟩:=hr
  rw [e] at e2
  injection e2 with e2
  injection e2 with e2 _
  subst e2
  simp only [World.cell?,hN] at c1 c2
  rw [Nat.zero_mul,Nat.add_zero] at c1 c2
  rcases o with _ | _ | _ | _ | o
  ·simp at c2
  ·simp at c1
  ·simp at c1
  ·simp at c1;exact h0 _ c1
  ·simp at c1
theorem D6.off {W W':World} {B rb:Nat} {all ts:List Tk} (h:D6 W B rb all ts) {H:Nat} {T:TypeId} {v0 v1 v4:Value} {p q:Option Addr} {m n c d:Nat} (hN:W.heap[H]?=some (.cells #[v0,v1,.slice p m c,.slice q n d,v4] T)) (h0:∀ x:ByteArray,v4≠.string x)
  (ho:∀ g,g≠H→W'.heap[g]?=W.heap[g]?) (hr:rb≠H):D6 W' B rb all ts:=by
 obtain ⟨⟨a,a',c,c',hb,hi,hi',h1,h2,h3,h4,h5,h6,h7,h8⟩,hlt,hne,k8,k8'⟩:=h
 exact ⟨⟨a,a',c,c',(ho _ hr).trans hb,hi.off hN h0 ho,hi'.off hN h0 ho,h1,h2,h3,h4,h5,h6,h7,h8⟩,hlt,hne,k8,k8'⟩
theorem T5 (e l:Int) (W:World):(Instr.typeAssert (.iface 29 (.agg #[.int .i64 e,.int .i64 l])) 20 29 true).run Tryz.prog W=.ok (.tuple #[.agg #[.int .i64 e,.int .i64 l],.bool true]) W:=by kernel_rfl
theorem Uw (W:World):(Instr.typeAssert .nilIface 20 29 true).run Tryz.prog W=.ok (.tuple #[.agg #[.int .i64 0,.int .i64 0],.bool false]) W:=by kernel_rfl
set_option maxRecDepth 100000 in
set_option maxHeartbeats 1600000 in
theorem Fp (H:Nat) (e l:Int) (w:World) (c0 c1 c2 c3 c4 d0 d1:Value) (h0:w.heap[H]?=some (.cells #[c0,c1,c2,c3,c4] 26)) (h1:w.heap[H+1]?=some (.cells #[d0,d1] 29)) :
  CallsD Tryz.prog 67 #[.pointer (some ⟨H,0,none⟩),.pointer (some ⟨H+1,0,none⟩)] (.panicking [{ v:=.iface 29 (.agg #[.int .i64 e,.int .i64 l]),recovered:=false }]) w fun x u' w'=>
   x=.returned (.tuple #[])∧u'=.panicking [{ v:=.iface 29 (.agg #[.int .i64 e,.int .i64 l]),recovered:=true }] ∧
   Sw w w' H (.cells #[.int .u8 0,.string ⟨#[]⟩,.slice none 0 0,.slice none 0 0,.int .i64 0] 26) (.cells #[.int .i64 e,.int .i64 l] 29):=by
 refine callsD_of_wpS Tryz.func67 rfl fun c₀ cs hu=>?_
 apply wpS_seq
 apply wpS_region
 simp [wpOpsS,go_sem,recoverD,hu,Tryz.ntmps67,Exit.thenS,T5]
 simp only [Array.replicate_succ,Array.replicate_zero,List.push_toArray,List.append_toArray,List.nil_append,List.cons_append,List.setIfInBounds_toArray,List.set_cons_succ,List.set_cons_zero]
 refine wpS_of_wp ?_
 go_wp2
 obtain ⟨W1,hW1⟩:∃ W1,w.alloc (.cells #[.int .i64 e,.int .i64 l] 29)=W1:=⟨_,rfl⟩
 have hHl:H<w.heap.size:=(Array.getElem?_eq_some_iff.1 h0).1
 have hHl1:H+1<w.heap.size:=(Array.getElem?_eq_some_iff.1 h1).1
 have g0:W1.heap[H]?=some (.cells #[c0,c1,c2,c3,c4] 26):=by rw [← hW1];exact (Below.heap_alloc _ _ _ hHl).trans h0
 have g1:W1.heap[H+1]?=some (.cells #[d0,d1] 29):=by rw [← hW1];exact (Below.heap_alloc _ _ _ hHl1).trans h1
 have g2:W1.heap[w.heap.size]?=some (.cells #[.int .i64 e,.int .i64 l] 29):=by rw [← hW1];exact World.alloc_heap_new w _
 have hB1:Below w.heap.size w W1:=by rw [← hW1];exact (Below.refl _ w).alloc (Nat.le_refl _) _
 rw [hW1]
 clear hW1 h0 h1
 obtain ⟨D,hD⟩:∃ D,w.heap.size=D:=⟨_,rfl⟩
 have HD:=Ab hD
 have HB1:=Ab hB1
 rw [hD] at g2 hHl hHl1 ⊢
 clear hD hB1
 have HU:=Ab hu
 clear hu
 obtain ⟨⟨y0,f0⟩,⟨y1,f1⟩,⟨y2,f2⟩,⟨y3,f3⟩,⟨y4,f4⟩⟩:=Ad g0
 obtain ⟨⟨z0,q0⟩,⟨z1,q1⟩⟩:=Af g1
 obtain ⟨⟨x0,_⟩,⟨x1,_⟩⟩:=Af g2
 have HG0:=Ab g0
 have HG1:=Ab g1
 have hmx:=Dl
 clear g0 g1 g2
 go_region_with_o (fail)
 all_goals go_wp2
 all_goals exact ⟨rfl,_,rfl,.tuple #[],by simp [results,Tryz.results67,go_sem],rfl,rfl,Jv (Aa HB1) (Aa HG0) (Aa HG1) _ _ _ _ _ _ _⟩
set_option maxRecDepth 100000 in
set_option maxHeartbeats 1600000 in
theorem Og (H:Nat) (w:World):CallsD Tryz.prog 67 #[.pointer (some ⟨H,0,none⟩),.pointer (some ⟨H+1,0,none⟩)] .returning w fun x u' w'=>x=.returned (.tuple #[])∧u'=.returning∧Below w.heap.size w w':=by
 refine callsD_of_wpS Tryz.func67 rfl fun c₀ cs hu=>?_
 apply wpS_seq
 apply wpS_region
 simp [wpOpsS,go_sem,recoverD,hu,Tryz.ntmps67,Exit.thenS,Uw]
 simp only [Array.replicate_succ,Array.replicate_zero,List.push_toArray,List.append_toArray,List.nil_append,List.cons_append,List.setIfInBounds_toArray,List.set_cons_succ,List.set_cons_zero]
 refine wpS_of_wp ?_
 go_wp2
 exact ⟨rfl,_,rfl,.tuple #[],by simp [results,Tryz.results67,go_sem],rfl,hu,(Below.refl _ w).alloc (Nat.le_refl _) _⟩
theorem Al {fn:Func} {p q:Tmp} {tp tq:TypeId} (h:fn.results=#[.cell p tp,.cell q tq]) (tmps:Array Value) (P:Program) (w:World) (g1 g2:Nat) (v1 v2:Value)
  (hp:tmps.getD p undef=.pointer (some ⟨g1,0,none⟩)) (hl:(loadVar tp ⟨g1,0,none⟩).run P w=.ok v1 w)
  (hq:tmps.getD q undef=.pointer (some ⟨g2,0,none⟩)) (hm:(loadVar tq ⟨g2,0,none⟩).run P w=.ok v2 w) :
  (results fn tmps).run P w=.ok (.tuple #[v1,v2]) w:=by
 have hp':tmps[p]?.getD undef=.pointer (some ⟨g1,0,none⟩):=by simpa using hp
 have hq':tmps[q]?.getD undef=.pointer (some ⟨g2,0,none⟩):=by simpa using hq
 simp [results,h,hp',hq',asAddr,Sem.run_bind,Result.andThen,hl,hm]
def Mg (w:World):Except (Int × Int) P20.T→Ending→World→Prop
 | .ok d,e,w'=>∃ (k:Nat) (t:List UInt8) (ka:Option Addr) (kc:Nat) (ks:List (List UInt8)) (da:Option Addr) (dc:Nat) (ds:List Nd) (l:Int),
   e=.returned (.tuple #[.agg #[.int .u8 k,.string ⟨t.toArray⟩,.slice ka ks.length kc,.slice da ds.length dc,.int .i64 l],.agg #[.int .i64 0,.int .i64 0]]) ∧
   Hid ((Nd.mk k t ka kc ks da dc ds l).bare=d∧(Nd.mk k t ka kc ks da dc ds l).In w'∧(∀ g,(Nd.mk k t ka kc ks da dc ds l).blk g→w.heap.size≤g))∧Below w.heap.size w w'
 | .error x,e,w'=>e=.returned (.tuple #[.agg #[.int .u8 0,.string ⟨#[]⟩,.slice none 0 0,.slice none 0 0,.int .i64 0],.agg #[.int .i64 x.1,.int .i64 x.2]])∧Below w.heap.size w w'
set_option maxRecDepth 100000 in
set_option maxHeartbeats 4000000 in
theorem Sd (f:Nat) (a:Option Addr) (c:Nat) (ts:List Tk) (o:Except (Int × Int) P20.T) (w:World) (hi:K9 w a ts) (hc1:ts.length≤c) (hc2:c≤maxLen) (hne:ts≠[]) (h8:∀ t∈ts,t.1<256∧t.2.1.length≤maxLen) (hb:∀ g,Bj a g→g<w.heap.size)
  (hn:ts.length≤100000000) (hd:P20.Rd (Fl ts) f ts o) :
  Calls Tryz.prog 33 #[.slice a ts.length c] w (Mg w o):=by
 have hmf:∀ (fn:Fn) (first cap:Array Value) (w:World),(Instr.makeFunc fn first cap).run Tryz.prog w=.ok (.func fn first cap) w:=fun _ _ _ _=>rfl
 have HI:=Ab hi
 clear hi
 obtain ⟨W1,hW1⟩:∃ W1,((w.alloc (.cells #[.int .u8 0,.string ⟨#[]⟩,.slice none 0 0,.slice none 0 0,.int .i64 0] 26)).alloc (.cells #[.int .i64 0,.int .i64 0] 29)).alloc (.cells #[.slice a ts.length c,.slice a ts.length c] 115)=W1:=⟨_,rfl⟩
 have hs1:W1.heap.size=w.heap.size+1+1+1:=by rw [← hW1];simp
 have hb1:Below w.heap.size w W1:=by rw [← hW1];exact (((Below.refl _ w).alloc (Nat.le_refl _) _).alloc (by simp) _).alloc (by simp;omega) _
 have g0:W1.heap[w.heap.size]?=some (.cells #[.int .u8 0,.string ⟨#[]⟩,.slice none 0 0,.slice none 0 0,.int .i64 0] 26):=by
  rw [← hW1];exact (Below.heap_alloc _ _ _ (by simp;omega)).trans ((Below.heap_alloc _ _ _ (by simp)).trans (World.alloc_heap_new w _))
 have g1:W1.heap[w.heap.size+1]?=some (.cells #[.int .i64 0,.int .i64 0] 29):=by
  rw [← hW1];exact (Below.heap_alloc _ _ _ (by simp)).trans (Cy w _ _)
 have g2:W1.heap[w.heap.size+1+1]?=some (.cells #[.slice a ts.length c,.slice a ts.length c] 115):=by
  rw [← hW1]
  have h:=World.alloc_heap_new ((w.alloc (.cells #[.int .u8 0,.string ⟨#[]⟩,.slice none 0 0,.slice none 0 0,.int .i64 0] 26)).alloc (.cells #[.int .i64 0,.int .i64 0] 29)) (.cells #[.slice a ts.length c,.slice a ts.length c] 115)
  rw [World.size_alloc,World.size_alloc] at h
  exact h
 have hiW:K9 W1 a ts:=(Aa HI).keep (fun r _ ho=>hb1.block r (hb r ho))
 have hbb:∀ g,Bj a g→g<W1.heap.size:=fun g h=>by have:=hb g h;omega
 have hR1:D6 W1 W1.heap.size (w.heap.size+1+1) ts ts:=⟨⟨a,a,c,c,g2,hiW,hiW,hc1,hc1,hc2,hc2,fun h=>by have:=hb _ h;omega,fun h=>by have:=hb _ h;omega,hbb,hbb⟩,by omega,hne,h8,h8⟩
 have HW1:=Ab hW1
 have HG0:=Ab g0
 have HG1:=Ab g1
 have HS1:=Ab hs1
 have hVal:=fun o' hv=>(Qe (Fl ts) f).1 1 ts W1.heap.size (w.heap.size+1+1) ts o' W1 hR1 (Nat.le_refl _) rfl (by omega) hn hv
 have HVAL:=Ab hVal
 obtain ⟨H,hH⟩:∃ H,w.heap.size=H:=⟨_,rfl⟩
 have HH:=Ab hH
 clear hW1 g0 g1 g2 hiW hbb hR1 hVal hs1 hH hb HI hc1 hc2 hn
 go_enter_defers Tryz.func33,Tryz.ntmps33
 go_upto_region 3 with fail
 rw [Aa HW1]
 cases hd with
 | @ok d hv=>
  go_upto_region 4 with (go_at_call 68;refine (Aa HVAL _ hv).mono ?_;rintro e w2 ⟨k,t,ka,kc,ks,da,dc,ds,l,rfl,HN⟩;have hg2:=(Aa HN).2.2.2.2;have k0:=(hg2.block w.heap.size (by have:=Aa HS1;omega) (fun e=>by injection e;omega)).trans (Aa HG0);obtain ⟨⟨y0,f0⟩,⟨y1,f1⟩,⟨y2,f2⟩,⟨y3,f3⟩,⟨y4,f4⟩⟩:=Ad k0)
  obtain ⟨hbare,hin,hnew,hR2,_⟩:=Aa HN
  have hs:=Aa HS1
  have hz2:=hg2.size
  have k1:=(hg2.block (w.heap.size+1) (by omega) (fun e=>by injection e;omega)).trans (Aa HG1)
  obtain ⟨⟨p,p',q,q',kr,_⟩,_⟩:=hR2
  simp only [List.length_nil] at kr
  obtain ⟨W3,hW3⟩:∃ W3,((((w2.setCell ⟨w.heap.size,0,none⟩ (.int .u8 k)).setCell ⟨w.heap.size,1,none⟩ (.string ⟨t.toArray⟩)).setCell ⟨w.heap.size,2,none⟩ (.slice ka ks.length kc)).setCell ⟨w.heap.size,3,none⟩ (.slice da ds.length dc)).setCell ⟨w.heap.size,4,none⟩ (.int .i64 l)=W3:=⟨_,rfl⟩
  have l0:W3.heap[w.heap.size]?=some (.cells #[.int .u8 k,.string ⟨t.toArray⟩,.slice ka ks.length kc,.slice da ds.length dc,.int .i64 l] 26):=by rw [← hW3];exact B9 k0 _ _ _ _ _
  have l1:W3.heap[w.heap.size+1]?=some (.cells #[.int .i64 0,.int .i64 0] 29):=by rw [← hW3];exact (Az (by omega) _ _ _ _ _).trans k1
  have lr:=(show W3.heap[w.heap.size+1+1]?=w2.heap[w.heap.size+1+1]? by rw [← hW3];exact Az (by omega) _ _ _ _ _).trans kr
  have hin3:(Nd.mk k t ka kc ks da dc ds l).In W3:=by rw [← hW3];exact hin.keep (fun g hg=>Az (by have:=hnew g hg;omega) _ _ _ _ _)
  have hb3:Below w.heap.size w W3:=by
   rw [← hW3]
   refine ⟨hg2.os.trans hb1.os,hg2.tape.trans hb1.tape,hg2.output.trans hb1.output,by simp;omega,fun i hi=>?_⟩
   rw [Az (by omega)]
   exact (hg2.block i (by omega) (fun e=>by injection e;omega)).trans (hb1.block i hi)
  rw [hW3]
  clear hW3 k0 k1 kr y0 f0 y1 f1 y2 f2 y3 f3 y4 f4 hin hbare
  obtain ⟨⟨y0,f0⟩,⟨y1,f1⟩,⟨y2,f2⟩,⟨y3,f3⟩,⟨y4,f4⟩⟩:=Ad l0
  obtain ⟨⟨z0,q0⟩,⟨z1,q1⟩⟩:=Af l1
  obtain ⟨⟨x0,_⟩,⟨x1,_⟩⟩:=Af lr
  have HL0:=Ab l0
  have HL1:=Ab l1
  have hmx:=Dl
  clear l0 l1 lr hs
  go_upto_region 6 with fail
  go_region_with_o (fail)
  all_goals go_wp2
  all_goals
   have hT:=Jv hb3 (Aa HL0) (Aa HL1) (.int .u8 k) (.string ⟨t.toArray⟩) (.slice ka ks.length kc) (.slice da ds.length dc) (.int .i64 l) (.int .i64 0) (.int .i64 0)
   have hin5:(Nd.mk k t ka kc ks da dc ds l).In (((((((W3.setCell ⟨w.heap.size,0,none⟩ (.int .u8 k)).setCell ⟨w.heap.size,1,none⟩ (.string ⟨t.toArray⟩)).setCell ⟨w.heap.size,2,none⟩ (.slice ka ks.length kc)).setCell ⟨w.heap.size,3,none⟩ (.slice da ds.length dc)).setCell ⟨w.heap.size,4,none⟩ (.int .i64 l)).setCell ⟨w.heap.size+1,0,none⟩ (.int .i64 0)).setCell ⟨w.heap.size+1,1,none⟩ (.int .i64 0)).drew:=
    (hin3.keep (fun g hg=>(Ar (by have:=hnew g hg;have:=Aa HS1;omega) _ _).trans (Az (by have:=hnew g hg;have:=Aa HS1;omega) _ _ _ _ _))).drew
   obtain ⟨W5,hW5⟩:∃ W5,(((((((W3.setCell ⟨w.heap.size,0,none⟩ (.int .u8 k)).setCell ⟨w.heap.size,1,none⟩ (.string ⟨t.toArray⟩)).setCell ⟨w.heap.size,2,none⟩ (.slice ka ks.length kc)).setCell ⟨w.heap.size,3,none⟩ (.slice da ds.length dc)).setCell ⟨w.heap.size,4,none⟩ (.int .i64 l)).setCell ⟨w.heap.size+1,0,none⟩ (.int .i64 0)).setCell ⟨w.heap.size+1,1,none⟩ (.int .i64 0)).drew=W5:=⟨_,rfl⟩
   rw [hW5] at hT hin5 ⊢
   refine leaves_cons (f:=67) (args:=#[.pointer (some ⟨w.heap.size,0,none⟩),.pointer (some ⟨w.heap.size+1,0,none⟩)]) (by simp) (by simp [go_sem]) ?_
   refine (Og _ _).mono ?_
   rintro e u' w'' ⟨rfl,rfl,hb6⟩
   have hz5:=hT.size
   have m0:=(hb6.block w.heap.size (Array.getElem?_eq_some_iff.1 hT.h0).1).trans hT.h0
   have m1:=(hb6.block (w.heap.size+1) (Array.getElem?_eq_some_iff.1 hT.h1).1).trans hT.h1
   exact ⟨_,Al rfl _ _ _ _ _ _ _ rfl (run_loadVar_row _ _ _ _ _ _ _ m0 Tryz.underlying26 rfl (by kernel_rfl)) rfl (run_loadVar_row _ _ _ _ _ _ _ m1 Tryz.underlying29 rfl (by kernel_rfl)),k,t,ka,kc,ks,da,dc,ds,l,rfl,Ab ⟨(Aa HN).1,hin5.below hb6,fun g hg=>by have:=hnew g hg;have:=Aa HS1;omega⟩,hT.below.trans (hb6.mono hz5)⟩
 | @left d tk r hv=>
  go_upto_region 4 with (go_at_call 68;refine (Aa HVAL _ hv).mono ?_;rintro e w2 ⟨k,t,ka,kc,ks,da,dc,ds,l,rfl,HN⟩;have hg2:=(Aa HN).2.2.2.2;have k0:=(hg2.block w.heap.size (by have:=Aa HS1;omega) (fun e=>by injection e;omega)).trans (Aa HG0);obtain ⟨⟨y0,f0⟩,⟨y1,f1⟩,⟨y2,f2⟩,⟨y3,f3⟩,⟨y4,f4⟩⟩:=Ad k0)
  obtain ⟨hbare,hin,hnew,hR2,_⟩:=Aa HN
  have hs:=Aa HS1
  have hz2:=hg2.size
  have k1:=(hg2.block (w.heap.size+1) (by omega) (fun e=>by injection e;omega)).trans (Aa HG1)
  obtain ⟨W3,hW3⟩:∃ W3,((((w2.setCell ⟨w.heap.size,0,none⟩ (.int .u8 k)).setCell ⟨w.heap.size,1,none⟩ (.string ⟨t.toArray⟩)).setCell ⟨w.heap.size,2,none⟩ (.slice ka ks.length kc)).setCell ⟨w.heap.size,3,none⟩ (.slice da ds.length dc)).setCell ⟨w.heap.size,4,none⟩ (.int .i64 l)=W3:=⟨_,rfl⟩
  have l0:W3.heap[w.heap.size]?=some (.cells #[.int .u8 k,.string ⟨t.toArray⟩,.slice ka ks.length kc,.slice da ds.length dc,.int .i64 l] 26):=by rw [← hW3];exact B9 k0 _ _ _ _ _
  have l1:W3.heap[w.heap.size+1]?=some (.cells #[.int .i64 0,.int .i64 0] 29):=by rw [← hW3];exact (Az (by omega) _ _ _ _ _).trans k1
  have hoff:∀ g,g≠w.heap.size→W3.heap[g]?=w2.heap[g]?:=fun g hg=>by rw [← hW3];exact Az hg _ _ _ _ _
  have hR3:D6 W3 W1.heap.size (w.heap.size+1+1) ts (tk :: r):=hR2.off k0 (fun x h=>by cases h) hoff (by omega)
  have hs3:W3.heap.size=w2.heap.size:=by rw [← hW3];simp
  have hb3:Below w.heap.size w W3:=by
   rw [← hW3]
   refine ⟨hg2.os.trans hb1.os,hg2.tape.trans hb1.tape,hg2.output.trans hb1.output,by simp;omega,fun i hi=>?_⟩
   rw [Az (by omega)]
   exact (hg2.block i (by omega) (fun e=>by injection e;omega)).trans (hb1.block i hi)
  have hz3:w.heap.size≤W3.heap.size:=by omega
  have hhere:=F6 ts (tk :: r)
  obtain ⟨⟨p,p',q,q',kr,_⟩,_⟩:=hR3
  simp only [List.length_cons] at kr
  obtain ⟨⟨x0,_⟩,⟨x1,_⟩⟩:=Af kr
  have hR3:D6 W3 W1.heap.size (w.heap.size+1+1) ts (tk :: r):=hR2.off k0 (fun x h=>by cases h) hoff (by omega)
  have hpos:(0:Int)<((r.length+1:Nat):Int):=by omega
  rw [hW3]
  have HL0:=Ab l0
  have HL1:=Ab l1
  have HR3:=Ab hR3
  clear hW3 k0 k1 y0 f0 y1 f1 y2 f2 y3 f3 y4 f4 hin hbare l0 l1 hR3 hR2 hoff kr hhere hnew
  go_wp2_with (go_at_call 69;refine (D0 _ _ _ _ _ _ (Aa HR3)).mono ?_;rintro e w4 ⟨rfl,hb4⟩)
  have m0:=(hb4.block w.heap.size (by omega)).trans (Aa HL0)
  have m1:=(hb4.block (w.heap.size+1) (by omega)).trans (Aa HL1)
  refine leaves_cons (f:=67) (args:=#[.pointer (some ⟨w.heap.size,0,none⟩),.pointer (some ⟨w.heap.size+1,0,none⟩)]) (by simp) (by simp [go_sem]) ?_
  refine (Fp w.heap.size _ _ w4 _ _ _ _ _ _ _ m0 m1).mono ?_
  rintro x u' w'' ⟨rfl,rfl,hT⟩
  exact ⟨_,Al rfl _ _ _ _ _ _ _ rfl (run_loadVar_row _ _ _ _ _ _ _ hT.h0 Tryz.underlying26 rfl (by kernel_rfl)) rfl (run_loadVar_row _ _ _ _ _ _ _ hT.h1 Tryz.underlying29 rfl (by kernel_rfl)),rfl,(hb3.trans (hb4.mono hz3)).trans (hT.far (Nat.le_refl _) (by have:=hb4.size;omega))⟩
 | @bad e l hv=>
  go_wp2_with (go_at_call 68;refine (Aa HVAL _ hv).mono ?_;rintro e2 w2 ⟨rfl,HN⟩)
  have hg2:=Aa HN
  have hs:=Aa HS1
  have hz2:=hg2.size
  have m0:=(hg2.block w.heap.size (by omega) (fun e=>by injection e;omega)).trans (Aa HG0)
  have m1:=(hg2.block (w.heap.size+1) (by omega) (fun e=>by injection e;omega)).trans (Aa HG1)
  have hb2:Below w.heap.size w w2:=⟨hg2.os.trans hb1.os,hg2.tape.trans hb1.tape,hg2.output.trans hb1.output,by omega,fun i hi=>(hg2.block i (by omega) (fun e=>by injection e;omega)).trans (hb1.block i hi)⟩
  refine leaves_cons (f:=67) (args:=#[.pointer (some ⟨w.heap.size,0,none⟩),.pointer (some ⟨w.heap.size+1,0,none⟩)]) (by simp) (by simp [go_sem]) ?_
  refine (Fp w.heap.size _ _ w2 _ _ _ _ _ _ _ m0 m1).mono ?_
  rintro x u' w'' ⟨rfl,rfl,hT⟩
  exact ⟨_,Al rfl _ _ _ _ _ _ _ rfl (run_loadVar_row _ _ _ _ _ _ _ hT.h0 Tryz.underlying26 rfl (by kernel_rfl)) rfl (run_loadVar_row _ _ _ _ _ _ _ hT.h1 Tryz.underlying29 rfl (by kernel_rfl)),rfl,hb2.trans (hT.far (by omega))⟩
end Go.Proofs.YtnjokdbblmlhhaaGreatDoor
namespace Go.Proofs.YtnjokdbblmlhhaaGreatDoor
set_option linter.unusedVariables false
set_option linter.unusedSimpArgs false
open Go.RowKit
theorem Sw.undrew {w W:World} {H:Nat} {a b:Obj} (h:Sw w W.drew H a b):Sw w W H a b:=⟨h.h0,h.h1,h.size,h.same,h.os,h.tape,h.output⟩
theorem Tq {W:World} {B:Nat} {v:Value} {ts:List Tk} (h:Fc W B v ts):∃ a c,v=.slice a ts.length c∧ts.length≤c∧c≤maxLen∧K9 W a ts∧(∀ g,ts≠[]→Bj a g→g<W.heap.size):=by
 unfold Fc at h
 rcases h.2 with ⟨rfl,h0⟩ | ⟨g,cap,cur,rfl,hb,hh,hc,hm,hsz,htk⟩
 ·have:ts=[]:=List.eq_nil_of_length_eq_zero h0
  subst this
  exact ⟨none,0,rfl,Nat.le_refl _,Nat.zero_le _,fun i x hx=>by simp at hx,fun g hn=>absurd rfl hn⟩
 ·refine ⟨_,cap,rfl,hc,hm,fun i t ht=>⟨g,0,rfl,?_⟩,fun g' _ ho=>?_⟩
  ·have hil:=(List.getElem?_eq_some_iff.1 ht).1
   have hcell:∀ j,j<4→W.cell? ⟨g,0+i * 4+j,none⟩=(A5 ts)[i * 4+j]?:=fun j hj=>by
    rw [Nat.zero_add,cell_of_row W g (i * 4+j) cur _ (0,0) hh,← htk,List.getElem?_take_of_lt (by omega)]
    simp
   obtain ⟨q0,q1,q2,q3⟩:=G7 ts i t ht
   refine ⟨(hcell 0 (by omega)).trans q0,(hcell 1 (by omega)).trans q1,(hcell 2 (by omega)).trans q2,(hcell 3 (by omega)).trans q3⟩
  ·obtain ⟨o,e⟩:=ho
   cases e
   exact (Array.getElem?_eq_some_iff.1 hh).1
set_option maxRecDepth 100000 in
set_option maxHeartbeats 4000000 in
theorem Mc (s:ByteArray) (o:Except (Int × Int) P20.T) (w:World) (hs:s.size≤1048576) (ho:P20.PaR s.data.toList o) :
  Calls Tryz.prog 10 #[.string s] w (Mg w o):=by
 have hta:=N8 s
 have hln:=P20.all_len20 s.data.toList
 have hok:=P20.all_ok s.data.toList
 rw [← Lib.size_eq] at hln
 unfold P20.PaR at ho
 obtain ⟨⟨ts,e,l⟩,hp⟩:∃ p,P19.all s.data.toList=p:=⟨_,rfl⟩
 rw [hp] at ho hln hok
 simp only [hp] at hta
 unfold D3 at hta
 simp only at ho hln hok hta
 obtain ⟨W0,hW0⟩:∃ W0,(w.alloc (.cells #[.int .u8 0,.string ⟨#[]⟩,.slice none 0 0,.slice none 0 0,.int .i64 0] 26)).alloc (.cells #[.int .i64 0,.int .i64 0] 29)=W0:=⟨_,rfl⟩
 have hs0:W0.heap.size=w.heap.size+1+1:=by rw [← hW0];simp
 have hb0:Below w.heap.size w W0:=by rw [← hW0];exact ((Below.refl _ w).alloc (Nat.le_refl _) _).alloc (by simp) _
 have g0:W0.heap[w.heap.size]?=some (.cells #[.int .u8 0,.string ⟨#[]⟩,.slice none 0 0,.slice none 0 0,.int .i64 0] 26):=by
  rw [← hW0];exact (Below.heap_alloc _ _ _ (by simp)).trans (World.alloc_heap_new w _)
 have g1:W0.heap[w.heap.size+1]?=some (.cells #[.int .i64 0,.int .i64 0] 29):=by rw [← hW0];exact Cy w _ _
 have hta0:=hta W0 hs
 have HT:=Ab hta0
 have HW0:=Ab hW0
 have HG0:=Ab g0
 have HG1:=Ab g1
 have hmx:=Dl
 clear hta hta0 hW0 g0 g1 hp
 go_enter Tryz.func10,Tryz.ntmps10
 go_upto_region 1 with fail
 rw [Aa HW0]
 go_upto_region 2 with (go_at_call 32;refine (Aa HT).mono ?_;rintro e' w1 ⟨v,rfl,hown,hb1⟩)
 obtain ⟨a,c,rfl,hc1,hc2,hint,hab⟩:=Tq hown
 obtain ⟨W2,hW2⟩:∃ W2,w1.alloc (.cells #[.int .i64 e,.int .i64 l] 29)=W2:=⟨_,rfl⟩
 have hs1:=hb1.size
 have hs2:W2.heap.size=w1.heap.size+1:=by rw [← hW2];simp
 have hb2:Below w.heap.size w W2:=by rw [← hW2];exact (hb0.trans (hb1.mono (by omega))).alloc (by omega) _
 have k0:W2.heap[w.heap.size]?=some (.cells #[.int .u8 0,.string ⟨#[]⟩,.slice none 0 0,.slice none 0 0,.int .i64 0] 26):=by rw [← hW2];exact (Below.heap_alloc _ _ _ (by omega)).trans ((hb1.block _ (by omega)).trans (Aa HG0))
 have k1:W2.heap[w.heap.size+1]?=some (.cells #[.int .i64 0,.int .i64 0] 29):=by rw [← hW2];exact (Below.heap_alloc _ _ _ (by omega)).trans ((hb1.block _ (by omega)).trans (Aa HG1))
 have k2:W2.heap[w1.heap.size]?=some (.cells #[.int .i64 e,.int .i64 l] 29):=by rw [← hW2];exact World.alloc_heap_new w1 _
 have hint2:K9 W2 a ts:=by rw [← hW2];exact hint.keep (fun r hn hr=>Below.heap_alloc _ _ _ (hab r hn hr))
 rw [hW2]
 obtain ⟨⟨y0,f0⟩,⟨y1,f1⟩,⟨y2,f2⟩,⟨y3,f3⟩,⟨y4,f4⟩⟩:=Ad k0
 obtain ⟨⟨z0,q0⟩,⟨z1,q1⟩⟩:=Af k1
 obtain ⟨⟨x0,_⟩,⟨x1,_⟩⟩:=Af k2
 have HK0:=Ab k0
 have HK1:=Ab k1
 have hab2:∀ g,ts≠[]→Bj a g→g<W2.heap.size:=fun g hn hg=>by have:=hab g hn hg;omega
 obtain ⟨D,hD⟩:∃ D,w1.heap.size=D:=⟨_,rfl⟩
 rw [hD] at x0 x1 hs2 ⊢
 have hDw:w.heap.size+1<D:=by omega
 clear hW2 k0 k1 k2 hint hab hown hD hb1 hs1
 by_cases he:e=0
 rotate_left
 ·rw [if_pos he] at ho
  subst ho
  have jn:(e != 0)=true:=by simpa using he
  clear he
  go_upto_region 3 with fail
  go_region_with_o (fail)
  all_goals go_wp2
  all_goals
   have hT:=Jv hb2 (Aa HK0) (Aa HK1) (.int .u8 0) (.string ⟨#[]⟩) (.slice none 0 0) (.slice none 0 0) (.int .i64 0) (.int .i64 e) (.int .i64 l)
   exact bodyPost_ret (Al rfl _ _ _ _ _ _ _ rfl (run_loadVar_row _ _ _ _ _ _ _ hT.h0 Tryz.underlying26 rfl (by kernel_rfl)) rfl (run_loadVar_row _ _ _ _ _ _ _ hT.h1 Tryz.underlying29 rfl (by kernel_rfl))) rfl ⟨rfl,hT.below⟩
 subst he
 rw [if_neg (by simp)] at ho
 by_cases hn:ts=[]
 ·rw [if_pos hn] at ho
  subst ho
  subst hn
  go_wp2
  have hT:=(Jv hb2 (Aa HK0) (Aa HK1) (.int .u8 0) (.string ⟨#[]⟩) (.slice none 0 0) (.slice none 0 0) (.int .i64 0) (.int .i64 17) (.int .i64 0)).undrew
  exact bodyPost_ret (Al rfl _ _ _ _ _ _ _ rfl (run_loadVar_row _ _ _ _ _ _ _ hT.h0 Tryz.underlying26 rfl (by kernel_rfl)) rfl (run_loadVar_row _ _ _ _ _ _ _ hT.h1 Tryz.underlying29 rfl (by kernel_rfl))) rfl ⟨rfl,hT.below⟩
 ·rw [if_neg hn] at ho
  obtain ⟨f,hrd⟩:=ho
  have jn:((ts.length:Int) == 0)=false:=by rw [beq_eq_false_iff_ne];have:=List.length_pos_iff.2 hn;omega
  have hrd2:=Sd f a c ts o W2 hint2 hc1 hc2 hn (fun t ht=>⟨by have:=(hok t ht).1;omega,by have:=(hok t ht).len;unfold maxLen;omega⟩) (fun g hg=>hab2 g hn hg) (by omega) hrd
  have HRD:=Ab hrd2
  clear hrd2 hint2 hab2 hok hrd hn
  cases o with
  | ok d=>
   go_upto_region 6 with fail
   go_wp2_with (go_at_call 33;refine (Aa HRD).mono ?_;rintro e' w3 ⟨k,t,ka,kc,ks,da,dc,ds,ln,rfl,HN,hb3⟩;have m0:=(hb3.block _ (by omega)).trans (Aa HK0);have m1:=(hb3.block _ (by omega)).trans (Aa HK1);obtain ⟨⟨r0,s0⟩,⟨r1,s1⟩,⟨r2,s2⟩,⟨r3,s3⟩,⟨r4,s4⟩⟩:=Ad m0;obtain ⟨⟨t0,u0⟩,⟨t1,u1⟩⟩:=Af m1;have HM0:=Ab m0;have HM1:=Ab m1;clear m0 m1)
   have hb23:Below w.heap.size w w3:=hb2.trans (hb3.mono (by omega))
   have hT:=(Jv hb23 (Aa HM0) (Aa HM1) (.int .u8 k) (.string ⟨t.toArray⟩) (.slice ka ks.length kc) (.slice da ds.length dc) (.int .i64 ln) (.int .i64 0) (.int .i64 0)).undrew
   obtain ⟨n1,n2,n3⟩:=Aa HN
   refine bodyPost_ret (Al rfl _ _ _ _ _ _ _ rfl (run_loadVar_row _ _ _ _ _ _ _ hT.h0 Tryz.underlying26 rfl (by kernel_rfl)) rfl (run_loadVar_row _ _ _ _ _ _ _ hT.h1 Tryz.underlying29 rfl (by kernel_rfl))) rfl ⟨k,t,ka,kc,ks,da,dc,ds,ln,rfl,Ab ⟨n1,?_,fun g hg=>by have:=n3 g hg;omega⟩,hT.below⟩
   exact n2.keep (fun g hg=>(Ar (by have:=n3 g hg;omega) _ _).trans (Az (by have:=n3 g hg;omega) _ _ _ _ _))
  | error x=>
   obtain ⟨x1,x2⟩:=x
   go_upto_region 6 with fail
   go_wp2_with (go_at_call 33;refine (Aa HRD).mono ?_;rintro e' w3 ⟨rfl,hb3⟩;have m0:=(hb3.block _ (by omega)).trans (Aa HK0);have m1:=(hb3.block _ (by omega)).trans (Aa HK1);obtain ⟨⟨r0,s0⟩,⟨r1,s1⟩,⟨r2,s2⟩,⟨r3,s3⟩,⟨r4,s4⟩⟩:=Ad m0;obtain ⟨⟨t0,u0⟩,⟨t1,u1⟩⟩:=Af m1;have HM0:=Ab m0;have HM1:=Ab m1;clear m0 m1)
   have hb23:Below w.heap.size w w3:=hb2.trans (hb3.mono (by omega))
   have hT:=(Jv hb23 (Aa HM0) (Aa HM1) (.int .u8 0) (.string ⟨#[]⟩) (.slice none 0 0) (.slice none 0 0) (.int .i64 0) (.int .i64 x1) (.int .i64 x2)).undrew
   exact bodyPost_ret (Al rfl _ _ _ _ _ _ _ rfl (run_loadVar_row _ _ _ _ _ _ _ hT.h0 Tryz.underlying26 rfl (by kernel_rfl)) rfl (run_loadVar_row _ _ _ _ _ _ _ hT.h1 Tryz.underlying29 rfl (by kernel_rfl))) rfl ⟨rfl,hT.below⟩
end Go.Proofs.YtnjokdbblmlhhaaGreatDoor
