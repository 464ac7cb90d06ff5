/- Lemmas of this claim. -/
import Derived.Test.YtnjokdbblmlhhaaGreatDoorW22bZ
import Derived.Deep.RegionLaw
import Derived.Test.YtnjokdbblmlhhaaGreatDoorInvZ
namespace Go.Proofs.YtnjokdbblmlhhaaGreatDoor
set_option linter.unusedVariables false
set_option linter.unusedSimpArgs false
open Go.RowKit
theorem Jt {w:World} {B:Nat} {v:Value} {ls:List (List UInt8)} {ops:Array Oper} {o:Oper} {a:Act} {K:Act→World→Prop} {Q:Exit→Act→World→Prop} {E:Prop} (hgd:o.guard=none) (s x:Operand)
  (ho:o.op=.call { callee:=.builtin .append,args:=#[s,x],argTypes:=#[23,23] })
  (hs:a.eval s=v) (hk:Strs w B v ls) (l:List UInt8) (g cap:Nat) (hx:a.eval x=.slice (some ⟨g,0,none⟩) 1 cap) (hnew:w.cell? ⟨g,0,none⟩=some (.string ⟨l.toArray⟩))
  (hlen:ls.length+1≤1000000000) (hB:B≤w.heap.size)
  (h:∀ v' w',Strs w' B v' (ls ++ [l])→w.grownBy w' v.ownBlock→(v'.ownBlock=v.ownBlock∨∃ g,v'.ownBlock=some g∧w.heap.size≤g)→K (a.put o.dst v') w') :
  if Region.wanted o (yielded ops a.tmps)=true then Oper.wp Tryz.prog o a w K Q else E:=by
 obtain ⟨i,hi,hz,hsz,hby⟩:=info_parts Pq
 refine step_append_lies (P:=Tryz.prog) w hgd s x 23 ho B 9 i (.string ⟨#[]⟩) 1 16 Tryz.underlying23 hi hz hsz hby rfl (by decide) v ls.length (ls.map C0) hs hk.own
  ⟨g,0,none⟩ 1 cap [.string ⟨l.toArray⟩] hx rfl (by intro j u hj;match j,hj with | 0,hj=>simp at hj;subst hj;exact hnew) (by intro u hu;simp at hu;subst hu;rfl) (by decide) (by unfold maxLen;omega) (by omega) hB _ rfl ?_
 intro g' cap' w' h2 h3 hat _
 refine h _ w' ⟨?_⟩ h3 ?_
 ·rw [List.map_append,List.length_append]
  exact h2
 ·rcases hat with h5 | h5
  ·exact .inl h5.symm
  ·exact .inr ⟨g',rfl,by omega⟩
theorem Bm {L:Array Bool} {i:Nat} (h:L.getD i true=false):(L.setIfInBounds i true).getD i false=true:=by
 obtain ⟨hl,_⟩:=A4 h
 simp [Array.getD,hl]
theorem Ac {L:Array Bool} {i j:Nat} (h:j≠i) (hj:(L.setIfInBounds i true).getD j false=true):L.getD j false=true:=by
 rwa [getD_set_ne false (Ne.symm h)] at hj
theorem Bt {f:FuncId} {args:Array Value} {w:World} {o:Oper} {a:Act} {K:Act→World→Prop} {Q:Exit→Act→World→Prop} {R:Ending→World→Prop}
  (hex:(execOp a.eval o).run Tryz.prog w=.ok (.enter f args) w) (h:Calls Tryz.prog f args w R) (hk:∀ e w',R e w'→∃ v,e=.returned v∧K (a.put o.dst v) w'):Oper.wp Tryz.prog o a w K Q:=by
 unfold Oper.wp
 rw [hex,Oper.upon_enter]
 refine h.mono (fun e w' hr=>?_)
 obtain ⟨v,rfl,hkv⟩:=hk e w' hr
 exact hkv
theorem Nr (w:World) (v:Value) (t:TypeId):(w.alloc (.cells #[v] t)).cell? ⟨w.heap.size,0,none⟩=some v:=(Gs (World.alloc_heap_new w (.cells #[v] t))).1
def Jq (tb B:Nat) (acc:List (List UInt8)) (A:Nat→Prop) (W:World):Prop:=
 (∃ a c,W.heap[tb]?=some (.cells #[.slice a acc.length c] 23)∧Strs W B (.slice a acc.length c) acc∧∀ g,(Value.slice a acc.length c).ownBlock=some g→¬ A g)∧¬ A tb∧tb<B∧B≤W.heap.size
theorem Vl (tb B:Nat):Gf (Jq tb B) where
 stays:=by
  rintro s A W W' ⟨⟨a,c,h1,h2,h3⟩,h4,h5,h6⟩ hz hs
  have hl:=(Array.getElem?_eq_some_iff.1 h1).1
  refine ⟨⟨a,c,(hs tb hl h4).trans h1,⟨Ds h2.own (fun g hg=>hs g (Ao h2.own g hg).2 (h3 g hg))⟩,fun g hg=>?_⟩,?_,h5,by omega⟩
  ·have:=(Ao h2.own g hg).2
   rintro (h7 | h7)
   ·exact h3 g hg h7
   ·omega
  ·rintro (h7 | h7)
   ·exact h4 h7
   ·omega
 mono:=by
  rintro s A A' W ⟨⟨a,c,h1,h2,h3⟩,h4,h5,h6⟩ hA
  exact ⟨⟨a,c,h1,h2,fun g hg h=>h3 g hg (hA g h)⟩,fun h=>h4 (hA _ h),h5,h6⟩
theorem Sa:∀ (args:Array Value) (W:World),(callFunc 125 args).run Tryz.prog W=.ok (.enter 125 args) W:=enters_of Tryz.func125 (by kernel_rfl) rfl
def U0 (R:Except P22.F (List UInt8)) (tb:Nat) (v:Value) (w:World):Prop:=match R with
 | .ok x=>v=fV 0 0∧w.heap[tb]?=some (.cells (Fv x) 9)
 | .error f=>v=fV f.1 f.2∧∃ x,w.heap[tb]?=some (.cells (Fv x) 9)
theorem U0.keep {R:Except P22.F (List UInt8)} {tb:Nat} {v:Value} {w w':World} (h:U0 R tb v w) (hb:w'.heap[tb]?=w.heap[tb]?):U0 R tb v w':=by
 cases R with
 | ok x=>exact ⟨h.1,hb.trans h.2⟩
 | error f=>exact ⟨h.1,h.2.imp fun x hx=>hb.trans hx⟩
def Kq:P22.Rd (List (List UInt8)):=fun d acc=>(P22.textE 64 d).map fun a=>acc ++ [a]
theorem Qg {tb B H fb:Nat} {acc:List (List UInt8)} {x:List UInt8} {A:Nat→Prop} {w V w9:World} {a a9:Option Addr} {c c9:Nat} {e l':Int} {res:Except P22.F (List (List UInt8))} {ob:Obj}
  (hH:w.heap.size=H) (hV:H+1+1<V.heap.size) (hF:Cp A w V) (i4:¬ A tb) (i5:tb<B) (htl:tb<H) (i6:B≤H) (hfb:H+1+1<fb) (hfl:V.heap[fb]?=some (.cells #[.int .i64 e,.int .i64 l'] 29))
  (hI3:∀ g,(Value.slice a acc.length c).ownBlock=some g→¬ A g) (hob:∀ g,(Value.slice a acc.length c).ownBlock=some g→B≤g∧g<H)
  (hT:V.heap[tb]?=some (.cells #[.slice a acc.length c] 23)) (hN:V.heap[H+1]?=some (.cells #[.int .i64 0,.int .i64 0] 29))
  (hg9:(V.alloc ob).drew.grownBy w9 (Value.slice a acc.length c).ownBlock) (hS9:Strs w9 B (.slice a9 (acc.length+1) c9) (acc ++ [x]))
  (hat9:(Value.slice a9 (acc.length+1) c9).ownBlock=(Value.slice a acc.length c).ownBlock∨∃ g,(Value.slice a9 (acc.length+1) c9).ownBlock=some g∧(V.alloc ob).drew.heap.size≤g)
  (hres:(res=.ok (acc ++ [x])∧e=0∧l'=0)∨(res=.error (e,l')∧e≠0)) :
  (w9.setCell ⟨tb,0,none⟩ (.slice a9 (acc.length+1) c9)).heap[fb]?=some (.cells #[.int .i64 e,.int .i64 l'] 29)∧(w9.setCell ⟨tb,0,none⟩ (.slice a9 (acc.length+1) c9)).heap[H+1]?=some (.cells #[.int .i64 0,.int .i64 0] 29) ∧
  (∀ W6,((w9.setCell ⟨tb,0,none⟩ (.slice a9 (acc.length+1) c9)).setCell ⟨H+1,0,none⟩ (.int .i64 e)).setCell ⟨H+1,1,none⟩ (.int .i64 l')=W6→D7 (Jq tb B) A w res (.returned (fV e l')) W6∧(loadVar 29 ⟨H+1,0,none⟩).run Tryz.prog W6=.ok (fV e l') W6):=by
 have hst:∀ g,g<V.heap.size→g≠tb→(Value.slice a acc.length c).ownBlock≠some g→(w9.setCell ⟨tb,0,none⟩ (.slice a9 (acc.length+1) c9)).heap[g]?=V.heap[g]?:=fun g hg hne ho=>
  (Below.heap_setCell _ _ _ _ hne).trans ((hg9.block g (by simp;omega) (fun q=>ho q.symm)).trans (Below.heap_alloc _ _ _ hg))
 have hfl':=(Array.getElem?_eq_some_iff.1 hfl).1
 have e5:=(hst fb hfl' (by omega) (fun q=>by have:=(hob _ q).2;omega)).trans hfl
 have f5:=(hst (H+1) (by omega) (by omega) (fun q=>by have:=(hob _ q).2;omega)).trans hN
 refine ⟨e5,f5,?_⟩
 rintro W6 rfl
 have hsz:=hg9.size
 have hd1:(V.alloc ob).drew.heap.size=V.heap.size+1:=by simp
 rw [hd1] at hsz
 have hT9:=(hg9.block tb (by simp;omega) (fun q=>by have:=(hob _ q.symm).1;omega)).trans ((Below.heap_alloc V ob tb (by omega)).trans hT)
 have hT6:(((w9.setCell ⟨tb,0,none⟩ (.slice a9 (acc.length+1) c9)).setCell ⟨H+1,0,none⟩ (.int .i64 e)).setCell ⟨H+1,1,none⟩ (.int .i64 l')).heap[tb]?=some (.cells #[.slice a9 (acc.length+1) c9] 23):=(Ar (by omega) _ _).trans (Gb hT9 _)
 have hown:∀ g,(Value.slice a9 (acc.length+1) c9).ownBlock=some g→(B≤g∧g<H∧¬ A g)∨H+1+1<g:=by
  intro g hg
  rcases hat9 with h | ⟨g',h1,h2⟩
  ·rw [h] at hg
   exact .inl ⟨(hob g hg).1,(hob g hg).2,hI3 g hg⟩
  ·rw [hg] at h1
   cases h1
   rw [hd1] at h2
   exact .inr (by omega)
 have hinv:Jq tb B (acc ++ [x]) (fun g=>A g∧g<w.heap.size) (((w9.setCell ⟨tb,0,none⟩ (.slice a9 (acc.length+1) c9)).setCell ⟨H+1,0,none⟩ (.int .i64 e)).setCell ⟨H+1,1,none⟩ (.int .i64 l')):=by
  refine ⟨⟨a9,c9,by rw [List.length_append];exact hT6,?_,?_⟩,fun h=>i4 h.1,i5,by simp;omega⟩
  ·rw [List.length_append]
   refine ⟨Ds hS9.own (fun g hg=>?_)⟩
   have:=hown g hg
   refine (Ar (by omega) _ _).trans (Below.heap_setCell _ _ _ _ ?_)
   show g≠tb
   omega
  ·rw [List.length_append]
   intro g hg h
   rcases hown g hg with h1 | h1
   ·exact h1.2.2 h.1
   ·rw [hH] at h;omega
 have hf6:Cp A w (((w9.setCell ⟨tb,0,none⟩ (.slice a9 (acc.length+1) c9)).setCell ⟨H+1,0,none⟩ (.int .i64 e)).setCell ⟨H+1,1,none⟩ (.int .i64 l')):=by
  refine Cp.two ⟨?_,fun g hg hA=>(hst g (by omega) (fun q=>i4 (q ▸ hA)) (fun q=>hI3 g q hA)).trans (hF.same g hg hA),hg9.os.trans hF.os,hg9.tape.trans hF.tape,hg9.output.trans hF.output⟩ (by omega) _ _
  have:=hF.size
  simp
  omega
 refine ⟨⟨hf6,?_⟩,Ai (A3 f5 _ _)⟩
 rcases hres with ⟨rfl,rfl,rfl⟩ | ⟨rfl,h⟩
 ·exact ⟨rfl,hinv⟩
 ·exact ⟨rfl,h,_,hinv⟩
set_option maxRecDepth 100000 in
set_option maxHeartbeats 16000000 in
theorem Q0 (tb B p:Nat) (k:Nat) (t:List UInt8) (ka:Option Addr) (kc:Nat) (ks:List (List UInt8)) (da:Option Addr) (dc:Nat) (ds:List Nd) (l:Int) (acc:List (List UInt8)) (A:Nat→Prop) (w:World) (hok:t.length≤1000000)
  (hp:w.heap[p]?=some (.cells #[.pointer (some ⟨tb,0,none⟩)] 141)) (hpA:A p) (hi:Jq tb B acc A w) (hlen:acc.length+1≤1000000000) :
  Calls Tryz.prog 125 #[.agg #[.int .u8 k,.string ⟨t.toArray⟩,.slice ka ks.length kc,.slice da ds.length dc,.int .i64 l],.pointer (some ⟨p,0,none⟩)] w (D7 (Jq tb B) A w (Kq (Nd.mk k t ka kc ks da dc ds l).bare acc)):=by
 obtain ⟨H,hH⟩:∃ H,w.heap.size=H:=⟨_,rfl⟩
 obtain ⟨W0,hW0,hb0,g0,g1,hs0⟩:=A0 w (.cells #[.int .u8 k,.string ⟨t.toArray⟩,.slice ka ks.length kc,.slice da ds.length dc,.int .i64 l] 26) (.cells #[.int .i64 0,.int .i64 0] 29) H hH
 have x0:=Ad g0
 have y0:=Af g1
 obtain ⟨⟨a,c,i1,i2,i3⟩,i4,i5,i6⟩:=hi
 have hpl:=(Array.getElem?_eq_some_iff.1 hp).1
 have htl:=(Array.getElem?_eq_some_iff.1 i1).1
 have hob:=fun g hg=>(Ao i2.own g hg)
 rw [hH] at hpl htl hob i6
 -- the string's box
 obtain ⟨W1,hW1⟩:∃ W1,W0.alloc (.cells #[.string ⟨#[]⟩] 9)=W1:=⟨_,rfl⟩
 have hb1:Below H w W1:=by rw [← hW1];exact hb0.alloc (by omega) _
 have s1:W1.heap[H+1+1]?=some (.cells (Fv []) 9):=by rw [← hW1,← hs0];exact World.alloc_heap_new _ _
 have hs1:W1.heap.size=H+1+1+1:=by rw [← hW1];simp;omega
 have n0:W1.heap[H]?=some (.cells #[.int .u8 k,.string ⟨t.toArray⟩,.slice ka ks.length kc,.slice da ds.length dc,.int .i64 l] 26):=by rw [← hW1];exact (Below.heap_alloc _ _ _ (by omega)).trans g0
 have n1:W1.heap[H+1]?=some (.cells #[.int .i64 0,.int .i64 0] 29):=by rw [← hW1];exact (Below.heap_alloc _ _ _ (by omega)).trans g1
 have HW0:=Ab hW0
 have HW1:=Ab hW1
 have HB1:=Ab hb1
 have HS1:=Ab s1
 have HN0:=Ab n0
 have HN1:=Ab n1
 have HI1:=Ab i1
 have HI2:=Ab i2
 have HI3:=Ab i3
 have HP:=Ab hp
 have HOB:=Ab hob
 have hmx:=Dl
 clear hW0 hb0 g0 g1 hW1 hb1 s1 n0 n1 i1 i2 i3 hp hob x0 y0
 have x0:=Ad (Aa HN0)
 go_enter Tryz.func125,Tryz.ntmps125
 go_upto_region 1 with fail
 try rw [hH]
 rw [Aa HW0]
 go_upto_region 2 with fail
 try rw [hs0]
 rw [Aa HW1]
 have hmk:=fun W=>D2 (H+1+1) 64 W
 obtain ⟨R,hR⟩:∃ R,P22.textE 64 (Nd.mk k t ka kc ks da dc ds l).bare=R:=⟨_,rfl⟩
 have ht1:=fun c W q1 q2 q3=>J5 k t ka kc ks da dc ds l c (c+1) (H+1+1) 64 [] W hok q1 q2 q3
 rw [hR] at ht1
 refine Cw hmx (fun L a w'=>∃ v5 v6 v7 v8:Value,a=⟨#[.agg #[.int .u8 k,.string ⟨t.toArray⟩,.slice ka ks.length kc,.slice da ds.length dc,.int .i64 l],.pointer (some ⟨p,0,none⟩),.pointer (some ⟨H,0,none⟩),.pointer (some ⟨H+1,0,none⟩),.pointer (some ⟨H+1+1,0,none⟩),v5,v6,v7,v8,undef,undef,undef,undef,undef,undef,undef,undef,undef],[]⟩∧L.size=5∧Below (H+1+1) W1 w' ∧
  (L.getD 2 false=false→w'.heap[H+1+1]?=some (.cells (Fv []) 9)) ∧
  (L.getD 0 false=true→∃ c,v6=.func (.func 93) #[] #[.pointer (some ⟨c,0,none⟩),.pointer (some ⟨c+1,0,none⟩)]∧H+1+1<c∧w'.heap[c]?=some (.cells #[.pointer (some ⟨H+1+1,0,none⟩)] 94)∧w'.heap[c+1]?=some (.cells #[.int .i64 64] 3)) ∧
  (L.getD 1 false=true→v7=.agg #[.int .u8 k,.string ⟨t.toArray⟩,.slice ka ks.length kc,.slice da ds.length dc,.int .i64 l]) ∧
  (L.getD 2 false=true→U0 R (H+1+1) v8 w') ∧
  (L.getD 3 false=true→∃ fb x y,v5=.pointer (some ⟨fb,0,none⟩)∧H+1+1<fb∧w'.heap[fb]?=some (.cells #[x,y] 29)∧(L.getD 4 false=true→v8=.agg #[x,y])) ∧
  (L.getD 4 false=true→L.getD 2 false=true∧L.getD 3 false=true)) (by kernel_rfl) ?_ ?_ ?_
 ·refine ⟨undef,undef,undef,undef,rfl,by kernel_rfl,(Below.refl (H+1+1) W1).drew,fun _=>Aa HS1,?_,?_,?_,?_,?_⟩
  all_goals (intro h;exact absurd h (by decide))
 ·rintro L a' w' i o ⟨v5,v6,v7,v8,rfl,hL5,hB,hS,f0,f1,f2,f3,f4⟩ ho hi hdep
  match i,ho with
  | 0,ho=>
   cases ho
   refine Ak rfl rfl ?_
   have heg:=enters_of Tryz.func58 (by kernel_rfl) rfl
   refine Bt (f:=58) (args:=#[.pointer (some ⟨H+1+1,0,none⟩),.int .i64 64]) (by simp [execOp,go_sem,heg]) (hmk w') ?_
   rintro e2 w2 ⟨c2,rfl,hc2,q1,q2,hb2⟩
   have hz:=hB.size
   have hst:∀ g,g<w'.heap.size→w2.heap[g]?=w'.heap[g]?:=fun g hg=>hb2.block g hg
   refine ⟨_,rfl,v5,_,v7,v8,rfl,by simp [hL5],hB.trans (hb2.mono (by omega)),?_,fun _=>⟨c2,rfl,by omega,q1,q2⟩,fun h=>f1 (Ac (by omega) h),?_,?_,fun h=>⟨by rw [getD_set_ne false (by omega)];exact (f4 (Ac (by omega) h)).1,by rw [getD_set_ne false (by omega)];exact (f4 (Ac (by omega) h)).2⟩⟩
   ·intro h
    exact (hst _ (by omega)).trans (hS (by rwa [getD_set_ne false (by omega)] at h))
   ·intro h
    exact (f2 (Ac (by omega) h)).keep (hst _ (by omega))
   ·intro h
    obtain ⟨fb,x,y,e1,e2,e3,e4⟩:=f3 (Ac (by omega) h)
    exact ⟨fb,x,y,e1,e2,(hst fb (Array.getElem?_eq_some_iff.1 e3).1).trans e3,fun h4=>e4 (Ac (by omega) h4)⟩
  | 1,ho=>
   cases ho
   refine Ak rfl rfl ?_
   have y0:=Ad ((hB.block H (by omega)).trans (Aa HN0))
   refine Oper.wp_mono (K:=fun a2 w2=>a2=⟨#[.agg #[.int .u8 k,.string ⟨t.toArray⟩,.slice ka ks.length kc,.slice da ds.length dc,.int .i64 l],.pointer (some ⟨p,0,none⟩),.pointer (some ⟨H,0,none⟩),.pointer (some ⟨H+1,0,none⟩),.pointer (some ⟨H+1+1,0,none⟩),v5,v6,(.agg #[.int .u8 k,.string ⟨t.toArray⟩,.slice ka ks.length kc,.slice da ds.length dc,.int .i64 l]),v8,undef,undef,undef,undef,undef,undef,undef,undef,undef],[]⟩∧w2=w') (fun a2 w2 he=>?_) (by simp [Oper.wp,go_sem,y0])
   obtain ⟨rfl,rfl⟩:=he
   refine ⟨v5,v6,_,v8,rfl,by simp [hL5],hB,fun h=>hS (by rwa [getD_set_ne false (by omega)] at h),fun h=>f0 (Ac (by omega) h),fun _=>rfl,fun h=>f2 (Ac (by omega) h),fun h=>?_,fun h=>⟨by rw [getD_set_ne false (by omega)];exact (f4 (Ac (by omega) h)).1,by rw [getD_set_ne false (by omega)];exact (f4 (Ac (by omega) h)).2⟩⟩
   obtain ⟨fb,x,y,e1,e2,e3,e4⟩:=f3 (Ac (by omega) h)
   exact ⟨fb,x,y,e1,e2,e3,fun h4=>e4 (Ac (by omega) h4)⟩
  | 2,ho=>
   cases ho
   refine Ak rfl rfl ?_
   have heg:=enters_of Tryz.func93 (by kernel_rfl) rfl
   obtain ⟨c,rfl,hc,q1,q2⟩:=f0 (hdep ⟨0,.data⟩ (by simp) rfl)
   obtain rfl:=f1 (hdep ⟨1,.data⟩ (by simp) rfl)
   have hi2:=(A4 hi).2
   refine Bt (f:=93) (args:=#[.agg #[.int .u8 k,.string ⟨t.toArray⟩,.slice ka ks.length kc,.slice da ds.length dc,.int .i64 l],.pointer (some ⟨c,0,none⟩),.pointer (some ⟨c+1,0,none⟩)]) (by simp [execOp,go_sem,heg]) (ht1 c w' q1 q2 (hS hi2)) ?_
   rintro e3 w3 ⟨hg3,hr3⟩
   have hz:=hB.size
   have hst:∀ g,g<w'.heap.size→g≠H+1+1→w3.heap[g]?=w'.heap[g]?:=fun g hg hne=>hg3.block g hg (fun e=>hne (by injection e))
   have hB3:Below (H+1+1) W1 w3:=⟨hg3.os.trans hB.os,hg3.tape.trans hB.tape,hg3.output.trans hB.output,Nat.le_trans hz hg3.size,fun g hg=>(hst g (by omega) (by omega)).trans (hB.block g hg)⟩
   have hres:∃ v,e3=.returned v∧U0 R (H+1+1) v w3:=by
    cases R with
    | ok x=>exact ⟨_,hr3.1,rfl,hr3.2⟩
    | error f=>
     obtain ⟨e1,cs,⟨x,rfl⟩,e2⟩:=hr3
     exact ⟨_,e1,rfl,x,e2⟩
   obtain ⟨v,rfl,hv⟩:=hres
   refine ⟨v,rfl,v5,_,_,v,rfl,by simp [hL5],hB3,?_,fun _=>⟨c,rfl,hc,(hst c (Array.getElem?_eq_some_iff.1 q1).1 (by omega)).trans q1,(hst (c+1) (Array.getElem?_eq_some_iff.1 q2).1 (by omega)).trans q2⟩,fun _=>rfl,fun _=>hv,fun h=>?_,fun h=>⟨Bm hi,by rw [getD_set_ne false (by omega)];exact (f4 (Ac (by omega) h)).2⟩⟩
   ·intro h
    rw [Bm hi] at h
    cases h
   ·obtain ⟨fb,x,y,e1,e2,e3,e4⟩:=f3 (Ac (by omega) h)
    refine ⟨fb,x,y,e1,e2,(hst fb (Array.getElem?_eq_some_iff.1 e3).1 (by omega)).trans e3,fun h4=>?_⟩
    have:=(f4 (Ac (by omega) h4)).1
    rw [hi2] at this
    cases this
  | 3,ho=>
   cases ho
   refine Ak rfl rfl ?_
   refine Oper.wp_mono (K:=fun a2 w2=>a2=⟨#[.agg #[.int .u8 k,.string ⟨t.toArray⟩,.slice ka ks.length kc,.slice da ds.length dc,.int .i64 l],.pointer (some ⟨p,0,none⟩),.pointer (some ⟨H,0,none⟩),.pointer (some ⟨H+1,0,none⟩),.pointer (some ⟨H+1+1,0,none⟩),(.pointer (some ⟨w'.heap.size,0,none⟩)),v6,v7,v8,undef,undef,undef,undef,undef,undef,undef,undef,undef],[]⟩∧w2=w'.alloc (.cells #[.int .i64 0,.int .i64 0] 29)) (fun a2 w2 he=>?_) (by simp [Oper.wp,go_sem])
   obtain ⟨rfl,rfl⟩:=he
   have hz:=hB.size
   have hst:∀ g,g<w'.heap.size→(w'.alloc (.cells #[.int .i64 0,.int .i64 0] 29)).heap[g]?=w'.heap[g]?:=fun g hg=>Below.heap_alloc _ _ _ hg
   have h40:L.getD 4 false=true→False:=fun h=>by
    have:=(f4 h).2
    rw [(A4 hi).2] at this
    cases this
   refine ⟨_,v6,v7,v8,rfl,by simp [hL5],hB.alloc (by omega) _,?_,fun h=>?_,fun h=>f1 (Ac (by omega) h),fun h=>?_,fun _=>⟨w'.heap.size,_,_,rfl,by omega,World.alloc_heap_new _ _,fun h=>(h40 (Ac (by omega) h)).elim⟩,fun h=>(h40 (Ac (by omega) h)).elim⟩
   ·intro h
    exact (hst _ (by omega)).trans (hS (by rwa [getD_set_ne false (by omega)] at h))
   ·obtain ⟨c,e1,e2,e3,e4⟩:=f0 (Ac (by omega) h)
    exact ⟨c,e1,e2,(hst c (Array.getElem?_eq_some_iff.1 e3).1).trans e3,(hst (c+1) (Array.getElem?_eq_some_iff.1 e4).1).trans e4⟩
   ·exact (f2 (Ac (by omega) h)).keep (hst _ (by omega))
  | 4,ho=>
   cases ho
   refine Ak rfl rfl ?_
   obtain ⟨fb,x,y,rfl,hfb,e3,_⟩:=f3 (hdep ⟨3,.data⟩ (by simp) rfl)
   have h2:=f2 (hdep ⟨2,.data⟩ (by simp) rfl)
   have h2t:=hdep ⟨2,.data⟩ (by simp) rfl
   have h3t:=hdep ⟨3,.data⟩ (by simp) rfl
   obtain ⟨m1,m2,hv8⟩:∃ m1 m2,v8=.agg #[.int .i64 m1,.int .i64 m2]:=by
    cases R with
    | ok x=>exact ⟨_,_,h2.1⟩
    | error f=>exact ⟨_,_,h2.1⟩
   subst hv8
   have z0:=Af e3
   refine Oper.wp_mono (K:=fun a2 w2=>a2=⟨#[.agg #[.int .u8 k,.string ⟨t.toArray⟩,.slice ka ks.length kc,.slice da ds.length dc,.int .i64 l],.pointer (some ⟨p,0,none⟩),.pointer (some ⟨H,0,none⟩),.pointer (some ⟨H+1,0,none⟩),.pointer (some ⟨H+1+1,0,none⟩),(.pointer (some ⟨fb,0,none⟩)),v6,v7,(.agg #[.int .i64 m1,.int .i64 m2]),undef,undef,undef,undef,undef,undef,undef,undef,undef],[]⟩∧w2=(w'.setCell ⟨fb,0,none⟩ (.int .i64 m1)).setCell ⟨fb,1,none⟩ (.int .i64 m2)) (fun a2 w2 he=>?_) (by simp [Oper.wp,go_sem,z0])
   obtain ⟨rfl,rfl⟩:=he
   have hst:∀ g,g≠fb→((w'.setCell ⟨fb,0,none⟩ (.int .i64 m1)).setCell ⟨fb,1,none⟩ (.int .i64 m2)).heap[g]?=w'.heap[g]?:=fun g hg=>Ar hg _ _
   refine ⟨_,v6,v7,_,rfl,by simp [hL5],Ax hB (by omega) _ _,?_,fun h=>?_,fun h=>f1 (Ac (by omega) h),fun h=>(f2 (Ac (by omega) h)).keep (hst _ (by omega)),fun _=>⟨fb,_,_,rfl,hfb,A3 e3 _ _,fun _=>rfl⟩,fun _=>⟨by rw [getD_set_ne false (by omega)];exact h2t,by rw [getD_set_ne false (by omega)];exact h3t⟩⟩
   ·intro h
    rw [getD_set_ne false (by omega),h2t] at h
    cases h
   ·obtain ⟨c,e1,e2,e4,e5⟩:=f0 (Ac (by omega) h)
    refine ⟨c,e1,e2,(hst c (by rintro rfl;rw [e3] at e4;simp at e4)).trans e4,(hst (c+1) (by rintro rfl;rw [e3] at e5;simp at e5)).trans e5⟩
  | n+5,ho=>exact absurd ho (by simp)
 ·rintro L a' V ⟨v5,v6,v7,v8,rfl,hL5,hB,hS,f0,f1,f2,f3,f4⟩ hall
  have hall':∀ i,i<L.size→L.getD i false=true:=fun i hi=>by
   have:=hall i
   simp only [Array.getD,hi,dif_pos] at this ⊢
   exact this
  obtain ⟨fb,x1,y1,rfl,hfb,e3,e8⟩:=f3 (hall' 3 (by omega))
  have h2:=f2 (hall' 2 (by omega))
  obtain rfl:=e8 (hall' 4 (by omega))
  obtain ⟨x,e,l',q1,q2,hx⟩:∃ x e l',Value.agg #[x1,y1]=fV e l'∧V.heap[H+1+1]?=some (.cells (Fv x) 9)∧((R=.ok x∧e=0∧l'=0)∨R=.error (e,l')):=by
   cases R with
   | ok x=>exact ⟨x,0,0,h2.1,h2.2,.inl ⟨rfl,rfl,rfl⟩⟩
   | error f=>
    obtain ⟨x,hx⟩:=h2.2
    exact ⟨x,f.1,f.2,h2.1,hx,.inr rfl⟩
  simp only [fV,Value.agg.injEq,Array.mk.injEq,List.cons.injEq,and_true] at q1
  obtain ⟨rfl,rfl⟩:=q1
  have HX:=Ab (show (Kq (Nd.mk k t ka kc ks da dc ds l).bare acc=.ok (acc ++ [x])∧e=0∧l'=0)∨(Kq (Nd.mk k t ka kc ks da dc ds l).bare acc=.error (e,l')∧e≠0) by
   unfold Kq
   rw [hR]
   rcases hx with ⟨rfl,rfl,rfl⟩ | rfl
   ·exact .inl ⟨rfl,rfl,rfl⟩
   ·exact .inr ⟨rfl,P22.textE_bad hR⟩)
  have hz:=hB.size
  have nT:=(hB.block tb (by omega)).trans (((Aa HB1).block tb htl).trans (Aa HI1))
  have nP:=(hB.block p (by omega)).trans (((Aa HB1).block p hpl).trans (Aa HP))
  have nF:=(hB.block (H+1) (by omega)).trans (Aa HN1)
  have hStr:Strs V B (.slice a acc.length c) acc:=⟨Ds (Aa HI2).own (fun g hg=>(hB.block g (by have:=(Aa HOB g hg).2;omega)).trans ((Aa HB1).block g (Aa HOB g hg).2))⟩
  have hVs:H+1+1<V.heap.size:=by omega
  have HBV:=Ab (show Cp A w V from ⟨by have:=(Aa HB1).size;omega,fun g hg _=>(hB.block g (by omega)).trans ((Aa HB1).block g (by omega)),hB.os.trans (Aa HB1).os,hB.tape.trans (Aa HB1).tape,hB.output.trans (Aa HB1).output⟩)
  have u1:=Aq nP
  have u2:=Aq nT
  have u3:=Aq q2
  have u4:=Af e3
  have hal:=fun g (hg:g<V.heap.size)=>Below.heap_alloc V (.cells #[.string ⟨x.toArray⟩] 9) g hg
  have u1a:=Aq ((hal p (by omega)).trans nP)
  have u2a:=Aq ((hal tb (by omega)).trans nT)
  have u3a:=Aq ((hal (H+1+1) (by omega)).trans q2)
  clear hal
  have HT:=Ab nT
  have HNP:=Ab nP
  have HF:=Ab nF
  have HE3:=Ab e3
  have HSTR:=Ab hStr
  clear f0 f1 f2 f3 f4 hS hall hall' hL5 h2 e8 hx nT nP nF q2 hStr hmk ht1 hR
  go_upto_region 3 with fail
  go_region_law (refine Jt (v:=.slice a acc.length c) (B:=B) (by rfl) _ _ (by rfl) (by rfl) (Strs.mk ((Aa HSTR).alloc (.cells #[.string ⟨x.toArray⟩] 9)).own) x V.heap.size 1 (by rfl) (show (V.alloc (.cells #[.string ⟨x.toArray⟩] 9)).drew.cell? ⟨V.heap.size,0,none⟩=some (.string ⟨x.toArray⟩) from Nr _ _ _) (by omega) (by simp;omega) ?_;intro v9 w9 hS9 hg9 hat9;obtain ⟨a9,c9,hv9,_⟩:=hS9.slice;rw [List.length_append,List.length_singleton] at hv9;subst hv9;have nT9:=(hg9.block tb (by simp;omega) (fun e=>by have:=(Ao (Aa HSTR).own tb e.symm).1;omega)).trans ((Below.heap_alloc V (.cells #[.string ⟨x.toArray⟩] 9) tb (by omega)).trans (Aa HT));have nP9:=(hg9.block p (by simp;omega) (fun e=>(Aa HI3) p e.symm hpA)).trans ((Below.heap_alloc V (.cells #[.string ⟨x.toArray⟩] 9) p (by omega)).trans (Aa HNP));have u9:=Aq nT9;have u9p:=Aq nP9)
  all_goals
   obtain ⟨e5,f5,hend⟩:=Qg (res:=Kq (Nd.mk k t ka kc ks da dc ds l).bare acc) hH hVs (Aa HBV) i4 i5 htl i6 hfb (Aa HE3) (Aa HI3) (Aa HOB) (Aa HT) (Aa HF) hg9 hS9 hat9 (Aa HX)
   have z5:=Af e5
   have z6:=Af f5
   have HEND:=Ab hend
   clear e5 f5 hend hS9 hg9 hat9 nT9 nP9 u9 u9p u1 u2 u3 u4 u1a u2a u3a
   go_wp2
   obtain ⟨h1,h2⟩:=Aa HEND _ rfl
   exact bodyPost_ret (Av rfl _ _ _ (H+1) _ rfl h2) rfl h1
end Go.Proofs.YtnjokdbblmlhhaaGreatDoor
namespace Go.Proofs.YtnjokdbblmlhhaaGreatDoor
set_option linter.unusedVariables false
set_option linter.unusedSimpArgs false
open Go.RowKit
def Tt (w:World) (tb:Nat) (res:Except P22.F (List (List UInt8))) (e l':Int) (w':World):Prop:=
 w.grownBy w' (some tb)∧∃ a c xs,w'.heap[tb]?=some (.cells #[.slice a xs.length c] 23)∧Strs w' w.heap.size (.slice a xs.length c) xs∧((res=.ok xs∧e=0∧l'=0)∨(res=.error (e,l')∧e≠0))
theorem Sp (d:P20.T) (s s':List (List UInt8)) (h:Kq d s=.ok s'):s'.length≤s.length+1:=by
 unfold Kq at h
 cases hq:P22.textE 64 d with
 | error x=>rw [hq] at h;cases h
 | ok x=>rw [hq] at h;cases h;simp
theorem Q1 (tb B p:Nat) (hpt:p≠tb) (w:World) (hp:w.heap[p]?=some (.cells #[.pointer (some ⟨tb,0,none⟩)] 141)):R0 (Jq tb B) (fun g=>g=p) List.length 64 125 #[.pointer (some ⟨p,0,none⟩)] Kq w:=by
 refine ⟨Sa,fun W' hs hC nd s A hin hok hA hCA hi hN=>?_⟩
 obtain ⟨k,t,ka,kc,ks,da,dc,ds,l⟩:=nd
 rw [Nd.val_eq]
 have hp':=(hC p rfl).trans hp
 refine Q0 tb B p k t ka kc ks da dc ds l s A W' ?_ hp' (hCA p rfl) hi (by omega)
 simp only [Nd.bare,E6] at hok
 exact hok.1
theorem Tt.of {tb:Nat} {w W1 w':World} {res:Except P22.F (List (List UInt8))} {e:Ending} (hg1:w.grownBy W1 (some tb)) (h:D7 (Jq tb w.heap.size) (fun g=>g≠tb) W1 res e w') (htb:tb<w.heap.size):∃ c l',e=.returned (fV c l')∧Tt w tb res c l' w'∧(∀ a n c,w'.heap[tb]?=some (.cells #[.slice a n c] 23)→∀ g,(Value.slice a n c).ownBlock=some g→W1.heap.size≤g):=by
 obtain ⟨hf,hm⟩:=h
 have hg:w.grownBy w' (some tb):=⟨hf.os.trans hg1.os,hf.tape.trans hg1.tape,hf.output.trans hg1.output,Nat.le_trans hg1.size hf.size,fun i hi hne=>(hf.same i (Nat.lt_of_lt_of_le hi hg1.size) (fun e=>hne (by rw [e]))).trans (hg1.block i hi hne)⟩
 cases res with
 | ok xs=>
  obtain ⟨he,⟨⟨a,c,h1,h2,h3⟩,_⟩⟩:=hm
  refine ⟨0,0,he,⟨hg,a,c,xs,h1,h2,.inl ⟨rfl,rfl,rfl⟩⟩,fun a' n' c' hq g hgq=>?_⟩
  rw [h1] at hq
  simp only [Option.some.injEq,Obj.cells.injEq,Array.mk.injEq,List.cons.injEq,Value.slice.injEq,and_true] at hq
  obtain ⟨rfl,rfl,rfl⟩:=hq
  have hB:=(Ao h2.own g hgq).1
  exact Nat.le_of_not_lt (fun hlt=>h3 g hgq ⟨by omega,hlt⟩)
 | error f=>
  obtain ⟨he,hne,xs,⟨⟨a,c,h1,h2,h3⟩,_⟩⟩:=hm
  refine ⟨f.1,f.2,he,⟨hg,a,c,xs,h1,h2,.inr ⟨rfl,hne⟩⟩,fun a' n' c' hq g hgq=>?_⟩
  rw [h1] at hq
  simp only [Option.some.injEq,Obj.cells.injEq,Array.mk.injEq,List.cons.injEq,Value.slice.injEq,and_true] at hq
  obtain ⟨rfl,rfl,rfl⟩:=hq
  have hB:=(Ao h2.own g hgq).1
  exact Nat.le_of_not_lt (fun hlt=>h3 g hgq ⟨by omega,hlt⟩)
theorem Tt.two {tb:Nat} {w w':World} {res:Except P22.F (List (List UInt8))} {e l':Int} (h:Tt w tb res e l' w') {g:Nat} (hg:w.heap.size≤g) (ht:tb<w.heap.size) (hob:∀ a n c,w'.heap[tb]?=some (.cells #[.slice a n c] 23)→(Value.slice a n c).ownBlock≠some g) (v0 v1:Value):Tt w tb res e l' ((w'.setCell ⟨g,0,none⟩ v0).setCell ⟨g,1,none⟩ v1):=by
 obtain ⟨hg1,a,c,xs,h1,h2,h3⟩:=h
 refine ⟨B4 hg1 hg _ _,a,c,xs,(Ar (by omega) _ _).trans h1,⟨Ds h2.own (fun i hi=>Ar (fun q=>hob a _ c h1 (by rw [← q];exact hi)) _ _)⟩,h3⟩
set_option maxRecDepth 100000 in
set_option maxHeartbeats 16000000 in
theorem Nb (tb p:Nat) (k:Nat) (t:List UInt8) (ka:Option Addr) (kc:Nat) (ks:List (List UInt8)) (da:Option Addr) (dc:Nat) (ds:List Nd) (l:Int) (v0:Value) (w:World) (hin:(Nd.mk k t ka kc ks da dc ds l).In w) (hok:E6 (Nd.mk k t ka kc ks da dc ds l).bare) (hbk:¬ (Nd.mk k t ka kc ks da dc ds l).blk tb)
  (hp:w.heap[p]?=some (.cells #[.pointer (some ⟨tb,0,none⟩)] 141)) (hb:w.heap[tb]?=some (.cells #[v0] 23)) :
  Calls Tryz.prog 124 #[.agg #[.int .u8 k,.string ⟨t.toArray⟩,.slice ka ks.length kc,.slice da ds.length dc,.int .i64 l],.pointer (some ⟨p,0,none⟩)] w fun e w'=>∃ c l',e=.returned (fV c l')∧Tt w tb (P22.namesE (Nd.mk k t ka kc ks da dc ds l).bare) c l' w':=by
 obtain ⟨H,hH⟩:∃ H,w.heap.size=H:=⟨_,rfl⟩
 obtain ⟨W0,hW0,hb0,g0,g1,hs0⟩:=A0 w (.cells #[.int .u8 k,.string ⟨t.toArray⟩,.slice ka ks.length kc,.slice da ds.length dc,.int .i64 l] 26) (.cells #[.int .i64 0,.int .i64 0] 29) H hH
 have x0:=Ad g0
 have y0:=Af g1
 have hpl:=(Array.getElem?_eq_some_iff.1 hp).1
 have htl:=(Array.getElem?_eq_some_iff.1 hb).1
 have hpt:p≠tb:=by rintro rfl;rw [hb] at hp;simp at hp
 rw [hH] at hpl htl
 have p0:=(hb0.block p (by omega)).trans hp
 have t0:=(hb0.block tb (by omega)).trans hb
 obtain ⟨W1,hW1⟩:∃ W1,W0.setCell ⟨tb,0,none⟩ (.slice none 0 0)=W1:=⟨_,rfl⟩
 have hst1:∀ g,g≠tb→W1.heap[g]?=W0.heap[g]?:=fun g hg=>by rw [← hW1];exact Below.heap_setCell _ _ _ _ hg
 have hs1:W1.heap.size=H+1+1:=by rw [← hW1];simp;omega
 have hg1:w.grownBy W1 (some tb):=by rw [← hW1];exact Gc ⟨hb0.os,hb0.tape,hb0.output,by omega,fun i hi _=>hb0.block i (by omega)⟩ _
 have t1:W1.heap[tb]?=some (.cells #[.slice none 0 0] 23):=by rw [← hW1];exact Gb t0 _
 have p1:=(hst1 p hpt).trans p0
 have n0:=(hst1 H (by omega)).trans g0
 have n1:=(hst1 (H+1) (by omega)).trans g1
 have hin1:(Nd.mk k t ka kc ks da dc ds l).In W1:=hin.keep (fun g hg=>by
  have hlt:=hin.lt hg
  exact (hst1 g (fun q=>hbk (q ▸ hg))).trans (hb0.block g (by omega)))
 have hi1:∀ W',Below (H+1+1) W1 W'→Jq tb w.heap.size [] (fun g=>g≠tb) W':=fun W' h=>by
  have:=h.size
  exact ⟨⟨none,0,(h.block tb (by omega)).trans t1,Strs.nil _ _,fun g hg=>by cases hg⟩,fun h=>h rfl,by omega,by omega⟩
 have hcall:∀ c W',Below (H+1+1) W1 W'→H+1<c→W'.heap[c]?=some (.cells #[.int .i64 64] 3)→W'.heap[c+1]?=some (.cells #[.func (.func 125) #[] #[.pointer (some ⟨p,0,none⟩)]] 89)→Calls Tryz.prog 90 #[.agg #[.int .u8 k,.string ⟨t.toArray⟩,.slice ka ks.length kc,.slice da ds.length dc,.int .i64 l],.pointer (some ⟨c,0,none⟩),.pointer (some ⟨c+1,0,none⟩)] W' (D7 (Jq tb w.heap.size) (fun g=>g≠tb) W' (P22.namesE (Nd.mk k t ka kc ks da dc ds l).bare)):=fun c W' h hc q1 q2=>by
  have hz:=h.size
  have hp1:=(h.block p (by omega)).trans p1
  unfold P22.namesE
  rw [P22.rowE_S]
  refine Mf (Jq tb w.heap.size) (Vl _ _) Kq (fun g=>g=p) List.length 64 Sp 64 125 #[.pointer (some ⟨p,0,none⟩)] c (c+1) k t ka kc ks da dc ds l [] (fun g=>g≠tb) W' ?_ hok (fun g hg q=>hbk (q ▸ hg)) q1 q2 (by omega) (by omega) ?_ (Q1 tb _ p hpt W' hp1) (hi1 W' h) (fun h=>by simp;omega)
  ·exact hin1.keep (fun g hg=>h.block g (by have:=hin1.lt hg;omega))
  ·rintro g rfl
   exact ⟨hpt,by omega⟩
 have u0:=Aq p0
 have u1:=Aq t0
 have x1:=Ad n0
 have hmf:=Ca
 have HW0:=Ab hW0
 have HW1:=Ab hW1
 have HN0:=Ab n0
 have HN1:=Ab n1
 have HCALL:=Ab hcall
 have HG1:=Ab hg1
 have hmx:=Dl
 clear hW0 hb0 g0 g1 hW1 x0 y0 hp hb p0 t0 t1 p1 n0 n1 hin1 hi1 hcall hg1 hst1 hin
 go_enter Tryz.func124,Tryz.ntmps124
 go_upto_region 1 with fail
 try rw [hH]
 rw [Aa HW0]
 go_upto_region 2 with fail
 rw [Aa HW1]
 refine Cw hmx (fun L a w'=>∃ v6 v7 v8 v9:Value,a=⟨#[.agg #[.int .u8 k,.string ⟨t.toArray⟩,.slice ka ks.length kc,.slice da ds.length dc,.int .i64 l],.pointer (some ⟨p,0,none⟩),.pointer (some ⟨H,0,none⟩),.pointer (some ⟨H+1,0,none⟩),.pointer (some ⟨tb,0,none⟩),.pointer (some ⟨tb,0,none⟩),v6,v7,v8,v9],[]⟩∧L.size=5 ∧
  (L.getD 1 false=true→L.getD 0 false=true)∧(L.getD 3 false=true→L.getD 0 false=true∧L.getD 1 false=true∧L.getD 2 false=true)∧(L.getD 4 false=true→L.getD 3 false=true) ∧
  (L.getD 0 false=true→v6=.func (.func 125) #[] #[.pointer (some ⟨p,0,none⟩)])∧(L.getD 2 false=true→v8=.agg #[.int .u8 k,.string ⟨t.toArray⟩,.slice ka ks.length kc,.slice da ds.length dc,.int .i64 l]) ∧
  (L.getD 3 false=false→Below (H+1+1) W1 w'∧(L.getD 1 false=true→∃ c,v7=.func (.func 90) #[] #[.pointer (some ⟨c,0,none⟩),.pointer (some ⟨c+1,0,none⟩)]∧H+1<c∧w'.heap[c]?=some (.cells #[.int .i64 64] 3)∧w'.heap[c+1]?=some (.cells #[.func (.func 125) #[] #[.pointer (some ⟨p,0,none⟩)]] 89))) ∧
  (L.getD 3 false=true→∃ c l',v9=fV c l'∧Tt w tb (P22.namesE (Nd.mk k t ka kc ks da dc ds l).bare) c l' w'∧(∀ a n c,w'.heap[tb]?=some (.cells #[.slice a n c] 23)→∀ g,(Value.slice a n c).ownBlock=some g→H+1<g)∧(L.getD 4 false=false→w'.heap[H+1]?=some (.cells #[.int .i64 0,.int .i64 0] 29))∧(L.getD 4 false=true→w'.heap[H+1]?=some (.cells #[.int .i64 c,.int .i64 l'] 29)))) (by kernel_rfl) ?_ ?_ ?_
 ·refine ⟨undef,undef,undef,undef,rfl,by kernel_rfl,?_,?_,?_,?_,?_,fun _=>⟨(Below.refl (H+1+1) W1).drew,?_⟩,?_⟩
  all_goals (intro h;exact absurd h (by decide))
 ·rintro L a' w' i o ⟨v6,v7,v8,v9,rfl,hL5,j1,j3,j4,f0,f2,fa,fb⟩ ho hi hdep
  have hi2:=(A4 hi).2
  match i,ho with
  | 0,ho=>
   cases ho
   refine Ak rfl rfl ?_
   have n3:L.getD 3 false=false:=by cases hq:L.getD 3 false with | false=>rfl | true=>(have:=(j3 hq).1;rw [hi2] at this;cases this)
   obtain ⟨hB,f1⟩:=fa n3
   refine Oper.wp_mono (K:=fun a2 w2=>a2=⟨#[.agg #[.int .u8 k,.string ⟨t.toArray⟩,.slice ka ks.length kc,.slice da ds.length dc,.int .i64 l],.pointer (some ⟨p,0,none⟩),.pointer (some ⟨H,0,none⟩),.pointer (some ⟨H+1,0,none⟩),.pointer (some ⟨tb,0,none⟩),.pointer (some ⟨tb,0,none⟩),(.func (.func 125) #[] #[.pointer (some ⟨p,0,none⟩)]),v7,v8,v9],[]⟩∧w2=w') (fun a2 w2 he=>?_) (by simp [Oper.wp,go_sem,hmf])
   obtain ⟨rfl,rfl⟩:=he
   refine ⟨_,v7,v8,v9,rfl,by simp [hL5],fun _=>Bm hi,?_,?_,fun _=>rfl,fun h=>f2 (Ac (by omega) h),fun _=>⟨hB,fun h=>f1 (Ac (by omega) h)⟩,?_⟩
   ·intro h;rw [getD_set_ne false (by omega),n3] at h;cases h
   ·intro h;have:=j4 (Ac (by omega) h);rw [n3] at this;cases this
   ·intro h;rw [getD_set_ne false (by omega),n3] at h;cases h
  | 1,ho=>
   cases ho
   refine Ak rfl rfl ?_
   have n3:L.getD 3 false=false:=by cases hq:L.getD 3 false with | false=>rfl | true=>(have:=(j3 hq).2.1;rw [hi2] at this;cases this)
   obtain ⟨hB,f1⟩:=fa n3
   obtain rfl:=f0 (hdep ⟨0,.data⟩ (by simp) rfl)
   have heg:=enters_of Tryz.func56 (by kernel_rfl) rfl
   refine Bt (f:=56) (args:=#[.int .i64 64,.func (.func 125) #[] #[.pointer (some ⟨p,0,none⟩)]]) (by simp [execOp,go_sem,heg]) (Kb 64 125 #[.pointer (some ⟨p,0,none⟩)] w') ?_
   rintro e2 w2 ⟨c2,rfl,hc2,q1,q2,hb2⟩
   have hz:=hB.size
   refine ⟨_,rfl,_,_,v8,v9,rfl,by simp [hL5],fun _=>by rw [getD_set_ne false (by omega)];exact hdep ⟨0,.data⟩ (by simp) rfl,?_,?_,fun _=>rfl,fun h=>f2 (Ac (by omega) h),fun _=>⟨hB.trans (hb2.mono (by omega)),fun _=>⟨c2,rfl,by omega,q1,q2⟩⟩,?_⟩
   ·intro h;rw [getD_set_ne false (by omega),n3] at h;cases h
   ·intro h;have:=j4 (Ac (by omega) h);rw [n3] at this;cases this
   ·intro h;rw [getD_set_ne false (by omega),n3] at h;cases h
  | 2,ho=>
   cases ho
   refine Ak rfl rfl ?_
   have n3:L.getD 3 false=false:=by cases hq:L.getD 3 false with | false=>rfl | true=>(have:=(j3 hq).2.2;rw [hi2] at this;cases this)
   obtain ⟨hB,f1⟩:=fa n3
   have y0:=Ad ((hB.block H (by omega)).trans (Aa HN0))
   refine Oper.wp_mono (K:=fun a2 w2=>a2=⟨#[.agg #[.int .u8 k,.string ⟨t.toArray⟩,.slice ka ks.length kc,.slice da ds.length dc,.int .i64 l],.pointer (some ⟨p,0,none⟩),.pointer (some ⟨H,0,none⟩),.pointer (some ⟨H+1,0,none⟩),.pointer (some ⟨tb,0,none⟩),.pointer (some ⟨tb,0,none⟩),v6,v7,(.agg #[.int .u8 k,.string ⟨t.toArray⟩,.slice ka ks.length kc,.slice da ds.length dc,.int .i64 l]),v9],[]⟩∧w2=w') (fun a2 w2 he=>?_) (by simp [Oper.wp,go_sem,y0])
   obtain ⟨rfl,rfl⟩:=he
   refine ⟨v6,v7,_,v9,rfl,by simp [hL5],fun h=>by rw [getD_set_ne false (by omega)];exact j1 (Ac (by omega) h),?_,?_,fun h=>f0 (Ac (by omega) h),fun _=>rfl,fun _=>⟨hB,fun h=>f1 (Ac (by omega) h)⟩,?_⟩
   ·intro h;rw [getD_set_ne false (by omega),n3] at h;cases h
   ·intro h;have:=j4 (Ac (by omega) h);rw [n3] at this;cases this
   ·intro h;rw [getD_set_ne false (by omega),n3] at h;cases h
  | 3,ho=>
   cases ho
   refine Ak rfl rfl ?_
   obtain ⟨hB,f1⟩:=fa hi2
   have d1:=hdep ⟨1,.data⟩ (by simp) rfl
   have d2:=hdep ⟨2,.data⟩ (by simp) rfl
   obtain ⟨c,rfl,hc,q1,q2⟩:=f1 d1
   obtain rfl:=f2 d2
   have heg:=enters_of Tryz.func90 (by kernel_rfl) rfl
   refine Bt (f:=90) (args:=#[.agg #[.int .u8 k,.string ⟨t.toArray⟩,.slice ka ks.length kc,.slice da ds.length dc,.int .i64 l],.pointer (some ⟨c,0,none⟩),.pointer (some ⟨c+1,0,none⟩)]) (by simp [execOp,go_sem,heg]) (Aa HCALL c w' hB hc q1 q2) ?_
   rintro e3 w3 hr3
   have hg1:=Aa HG1
   have hf3:=(Aa HN1)
   have hz:=hB.size
   have hgB:w.grownBy w' (some tb):=⟨hB.os.trans hg1.os,hB.tape.trans hg1.tape,hB.output.trans hg1.output,Nat.le_trans hg1.size (by omega),fun i hi hne=>(hB.block i (by omega)).trans (hg1.block i hi hne)⟩
   have hN3:=(hr3.1.same (H+1) (by omega) (by omega)).trans ((hB.block (H+1) (by omega)).trans (Aa HN1))
   obtain ⟨ec,el,rfl,hnm,hob3⟩:=Tt.of hgB hr3 (by omega)
   have n4:L.getD 4 false=true→False:=fun h=>by have:=j4 h;rw [hi2] at this;cases this
   refine ⟨_,rfl,v6,_,_,_,rfl,by simp [hL5],fun h=>by rw [getD_set_ne false (by omega)];exact j1 (Ac (by omega) h),fun _=>⟨?_,?_,?_⟩,fun _=>Bm hi,fun h=>f0 (Ac (by omega) h),fun _=>rfl,?_,fun _=>⟨ec,el,rfl,hnm,fun a n c hq g hgq=>by have:=hob3 a n c hq g hgq;omega,fun _=>hN3,fun h=>(n4 (Ac (by omega) h)).elim⟩⟩
   ·rw [getD_set_ne false (by omega)];exact j1 d1
   ·rw [getD_set_ne false (by omega)];exact d1
   ·rw [getD_set_ne false (by omega)];exact d2
   ·intro h;rw [Bm hi] at h;cases h
  | 4,ho=>
   cases ho
   refine Ak rfl rfl ?_
   have d3:=hdep ⟨3,.data⟩ (by simp) rfl
   obtain ⟨ec,el,rfl,hnm,hob4,hn,_⟩:=fb d3
   have hN:=hn hi2
   have z0:=Af hN
   refine Oper.wp_mono (K:=fun a2 w2=>a2=⟨#[.agg #[.int .u8 k,.string ⟨t.toArray⟩,.slice ka ks.length kc,.slice da ds.length dc,.int .i64 l],.pointer (some ⟨p,0,none⟩),.pointer (some ⟨H,0,none⟩),.pointer (some ⟨H+1,0,none⟩),.pointer (some ⟨tb,0,none⟩),.pointer (some ⟨tb,0,none⟩),v6,v7,v8,(.agg #[.int .i64 ec,.int .i64 el])],[]⟩∧w2=(w'.setCell ⟨H+1,0,none⟩ (.int .i64 ec)).setCell ⟨H+1,1,none⟩ (.int .i64 el)) (fun a2 w2 he=>?_) (by simp [Oper.wp,go_sem,z0,fV])
   obtain ⟨rfl,rfl⟩:=he
   refine ⟨v6,v7,v8,_,rfl,by simp [hL5],fun h=>by rw [getD_set_ne false (by omega)];exact j1 (Ac (by omega) h),fun h=>?_,fun _=>by rw [getD_set_ne false (by omega)];exact d3,fun h=>f0 (Ac (by omega) h),fun h=>f2 (Ac (by omega) h),fun h=>?_,fun _=>⟨ec,el,rfl,hnm.two (by omega) (by omega) (fun a n c hq hgq=>by have:=hob4 a n c hq _ hgq;omega) _ _,fun a n c hq=>hob4 a n c ((Ar (by omega) _ _).symm.trans hq),?_,fun _=>A3 hN _ _⟩⟩
   ·have:=j3 (Ac (by omega) h)
    rw [getD_set_ne false (by omega),getD_set_ne false (by omega),getD_set_ne false (by omega)]
    exact this
   ·rw [getD_set_ne false (by omega),d3] at h;cases h
   ·intro h;rw [Bm hi] at h;cases h
  | n+5,ho=>exact absurd ho (by simp)
 ·rintro L a' V ⟨v6,v7,v8,v9,rfl,hL5,j1,j3,j4,f0,f2,fa,fb⟩ hall
  have hall':∀ i,i<L.size→L.getD i false=true:=fun i hi=>by
   have:=hall i
   simp only [Array.getD,hi,dif_pos] at this ⊢
   exact this
  obtain ⟨ec,el,rfl,hnm,_,_,hn⟩:=fb (hall' 3 (by omega))
  have hN:=hn (hall' 4 (by omega))
  clear f0 f2 fa fb j1 j3 j4 hall hall'
  have HNM:=Ab hnm
  have HNN:=Ab hN
  clear hnm hN hn
  go_wp2
  exact bodyPost_ret (Av rfl _ _ _ (H+1) _ rfl (Ai (Aa HNN))) rfl ⟨ec,el,rfl,Aa HNM⟩
end Go.Proofs.YtnjokdbblmlhhaaGreatDoor
namespace Go.Proofs.YtnjokdbblmlhhaaGreatDoor
set_option linter.unusedVariables false
set_option linter.unusedSimpArgs false
open Go.RowKit
def Gz (W:World) (bm:Nat) (f:List UInt8→Option Value):Prop:=
 ∃ es clock,W.heap[bm]?=some (.map es clock)∧∀ k:List UInt8,(f k=none→∀ i,Instr.findNow .string (.string ⟨k.toArray⟩) es.toList i=some none)∧∀ v,f k=some v→∀ i,∃ j,Instr.findNow .string (.string ⟨k.toArray⟩) es.toList i=some (some (j,v))
theorem Dn (kd:TypeDesc) (k:Value) (e:MapEntry):∀ (es:List MapEntry) (i:Nat),(∀ j x,Instr.findNow kd k es i=some (some (j,x))→Instr.findNow kd k (es ++ [e]) i=some (some (j,x)))∧(Instr.findNow kd k es i=some none→Instr.findNow kd k (es ++ [e]) i=Instr.findNow kd k [e] (i+es.length))
 | [],i=>by
  refine ⟨fun j x h=>?_,fun _=>by simp⟩
  simp [Instr.findNow] at h
 | y :: ys,i=>by
  obtain ⟨h1,h2⟩:=Dn kd k e ys (i+1)
  refine ⟨fun j x h=>?_,fun h=>?_⟩
  ·rw [List.cons_append]
   unfold Instr.findNow at h ⊢
   cases hs:Instr.sameNow kd k y.key with
   | none=>rw [hs] at h;cases h
   | some b=>cases b with
    | true=>rw [hs] at h;exact h
    | false=>rw [hs] at h;exact h1 j x h
  ·rw [List.cons_append]
   unfold Instr.findNow at h
   rw [Instr.findNow]
   cases hs:Instr.sameNow kd k y.key with
   | none=>rw [hs] at h;cases h
   | some b=>cases b with
    | true=>rw [hs] at h;simp at h
    | false=>
     rw [hs] at h
     simp only [h2 h,List.length_cons]
     congr 1
     omega
theorem Gz.made (W:World):Gz (W.alloc (.map #[] 0)) W.heap.size fun _=>none:=
 ⟨#[],0,World.alloc_heap_new _ _,fun k=>⟨fun _ i=>rfl,fun v h=>by cases h⟩⟩
theorem Gz.keep {W W':World} {bm:Nat} {f:List UInt8→Option Value} (h:Gz W bm f) (hb:W'.heap[bm]?=W.heap[bm]?):Gz W' bm f:=by
 obtain ⟨es,clock,h1,h2⟩:=h
 exact ⟨es,clock,hb.trans h1,h2⟩
theorem Sv {x y:List UInt8} (h:x≠y):((⟨x.toArray⟩:ByteArray) == ⟨y.toArray⟩)=false:=by
 show (x.toArray == y.toArray)=false
 rw [beq_eq_false_iff_ne]
 intro e
 exact h (by simpa using congrArg Array.toList e)
theorem Ow (x:List UInt8):((⟨x.toArray⟩:ByteArray) == ⟨x.toArray⟩)=true:=by
 show (x.toArray == x.toArray)=true
 simp
theorem Et (k:List UInt8) (e:Bool) (W:World):(Instr.checkKey e 10000 9 (.string ⟨k.toArray⟩)).run Tryz.prog W=.ok () W:=Go.MapKept.run_checkKey Tryz.underlying9 (by simp [Go.MapKept.IsKey]) e 9999
theorem Wq {a:Option (Nat × Value)} (k:List UInt8) (l:List MapEntry) (W:World) (h:Instr.findNow .string (.string ⟨k.toArray⟩) l 0=some a):(Instr.findKey 9 (.string ⟨k.toArray⟩) l).run Tryz.prog W=.ok a W:=Go.MapKept.run_findKey Tryz.underlying9 h
theorem S5:((Tryz.prog.info? 90).bind (·.zero)).isSome=true:=by kernel_rfl
theorem Uc (W:World):∃ z,(zeroValue 90).run Tryz.prog W=.ok z W:=by
 have h:=S5
 cases hi:Tryz.prog.info? 90 with
 | none=>rw [hi] at h;cases h
 | some i=>
  rw [hi] at h
  simp only [Option.bind_some] at h
  cases hz:i.zero with
  | none=>rw [hz] at h;cases h
  | some z=>exact ⟨z,by simp [zeroValue,typeInfo,hi,hz]⟩
theorem Gz.put {W:World} {bm:Nat} {f:List UInt8→Option Value} (h:Gz W bm f) (k:List UInt8) (v:Value) (hk:f k=none) :
  ∃ W',(Instr.mapUpdate 95 (.map (some bm)) (.string ⟨k.toArray⟩) v).run Tryz.prog W=.ok () W'∧Gz W' bm (fun x=>if x=k then some v else f x)∧W'.heap.size=W.heap.size∧(∀ g,g≠bm→W'.heap[g]?=W.heap[g]?)∧W'.os=W.os∧W'.tape=W.tape∧W'.output=W.output:=by
 obtain ⟨es,clock,h1,h2⟩:=h
 have hlt:=(Array.getElem?_eq_some_iff.1 h1).1
 have hf:=(h2 k).1 hk 0
 have hu:=Tryz.underlying95
 have hus:=Tryz.underlying9
 refine ⟨{ W with heap:=W.heap.set bm (.map (es.push { key:=.string ⟨k.toArray⟩,val:=v,born:=clock }) (clock+1)) hlt },?_,⟨es.push { key:=.string ⟨k.toArray⟩,val:=v,born:=clock },clock+1,by simp,?_⟩,by simp,fun g hg=>by simp [Array.getElem?_set,Ne.symm hg],rfl,rfl,rfl⟩
 ·have e1:=Et k false W
  have e2:=Wq (a:=none) k es.toList W hf
  simp [Instr.mapUpdate,run_underlying Tryz.underlying95,Go.MapKept.run_getObj_map h1,e1,e2,Go.MapKept.run_setObj_map _ h1,Result.andThen,Array.setIfInBounds,hlt]
 ·intro x
  by_cases hx:x=k
  ·subst hx
   refine ⟨fun h=>by simp at h,fun v' hv' i=>?_⟩
   simp only [if_true,Option.some.injEq] at hv'
   subst hv'
   rw [Array.toList_push]
   rw [(Dn _ _ _ _ i).2 ((h2 x).1 hk i)]
   exact ⟨i+es.toList.length,by simp [Instr.findNow,Instr.sameNow,Ow]⟩
  ·simp only [if_neg hx]
   rw [Array.toList_push]
   refine ⟨fun h i=>?_,fun v' hv' i=>?_⟩
   ·rw [(Dn _ _ _ _ i).2 ((h2 x).1 h i)]
    simp [Instr.findNow,Instr.sameNow,Sv hx]
   ·obtain ⟨j,hj⟩:=(h2 x).2 v' hv' i
    exact ⟨j,(Dn _ _ _ _ i).1 j v' hj⟩
theorem Gz.look {W:World} {bm:Nat} {f:List UInt8→Option Value} (h:Gz W bm f) (k:List UInt8) :
  ∃ v,(Instr.lookup 95 (.map (some bm)) (.string ⟨k.toArray⟩) true).run Tryz.prog W=.ok (.tuple #[v,.bool (f k).isSome]) W∧∀ v',f k=some v'→v=v':=by
 obtain ⟨es,clock,h1,h2⟩:=h
 have hu:=Tryz.underlying95
 have hus:=Tryz.underlying9
 cases hf:f k with
 | none=>
  have hn:=(h2 k).1 hf 0
  obtain ⟨z,hz⟩:=Uc W
  refine ⟨z,?_,fun v' e=>by cases e⟩
  have e1:=Et k es.isEmpty W
  have e2:=Wq (a:=none) k es.toList W hn
  simp [Instr.lookup,run_underlying Tryz.underlying95,Go.MapKept.run_getObj_map h1,e1,e2,hz,Result.andThen]
 | some v=>
  obtain ⟨j,hn⟩:=(h2 k).2 v hf 0
  refine ⟨v,?_,fun v' e=>by cases e;rfl⟩
  have e1:=Et k es.isEmpty W
  have e2:=Wq k es.toList W hn
  simp [Instr.lookup,run_underlying Tryz.underlying95,Go.MapKept.run_getObj_map h1,e1,e2,Result.andThen]
structure Zt (B:Nat) (W W':World):Prop where
 size:W.heap.size≤W'.heap.size
 same:∀ g x t,B≤g→W.heap[g]?=some (.cells #[x] t)→W'.heap[g]?=some (.cells #[x] t)
theorem Zt.of_below {B:Nat} {W W':World} (h:Below W.heap.size W W'):Zt B W W':=⟨h.size,fun g x t _ hg=>(h.block g (Array.getElem?_eq_some_iff.1 hg).1).trans hg⟩
def G1 {σ:Type} (Inv:σ→(Nat→Prop)→World→Prop) (M:Nat→Prop) (B:Nat) (v:Value) (r:P22.Rd σ) (W:World):Prop:=
 ∃ (f:Nat) (caps:Array Value) (C:Nat→Prop),v=.func (.func f) #[] caps∧(∀ args W,(callFunc f args).run Tryz.prog W=.ok (.enter f args) W)∧(∀ g,C g→B≤g∧∃ x t,W.heap[g]?=some (.cells #[x] t)) ∧
  ∀ W',W.heap.size≤W'.heap.size→(∀ g,C g→W'.heap[g]?=W.heap[g]?)→∀ (nd:Nd) (s:σ) (A:Nat→Prop),nd.In W'→E6 nd.bare→(∀ g,nd.blk g→¬ M g)→Inv s A W' →
   Calls Tryz.prog f (#[nd.val] ++ caps) W' (Gm Inv M A W' (r nd.bare s))
theorem G1.stay {σ:Type} {Inv:σ→(Nat→Prop)→World→Prop} {M:Nat→Prop} {B:Nat} {v:Value} {r:P22.Rd σ} {W W':World} (h:G1 Inv M B v r W) (hs:Zt B W W'):G1 Inv M B v r W':=by
 obtain ⟨f,caps,C,h1,h2,h3,h4⟩:=h
 have hC:∀ g,C g→W'.heap[g]?=W.heap[g]?:=fun g hg=>by
  obtain ⟨hB,x,t,hx⟩:=h3 g hg
  rw [hs.same g x t hB hx,hx]
 exact ⟨f,caps,C,h1,h2,fun g hg=>⟨(h3 g hg).1,by rw [hC g hg];exact (h3 g hg).2⟩,fun W2 hz hC2=>h4 W2 (Nat.le_trans hs.size hz) (fun g hg=>(hC2 g hg).trans (hC g hg))⟩
theorem G1.at {σ:Type} {Inv:σ→(Nat→Prop)→World→Prop} {M:Nat→Prop} {B:Nat} {v:Value} {r:P22.Rd σ} {W:World} (h:G1 Inv M B v r W) (hM:∀ g,M g→g<B):Uq Inv M v r W:=by
 obtain ⟨f,caps,C,h1,h2,h3,h4⟩:=h
 refine ⟨f,caps,h1,h2,fun W' hk=>h4 W' hk.size (fun g hg=>?_)⟩
 obtain ⟨hB,x,t,hx⟩:=h3 g hg
 exact hk.same g (Array.getElem?_eq_some_iff.1 hx).1 (fun hm=>by have:=hM g hm;omega)
theorem Gz.mapC {σ:Type} {Inv:σ→(Nat→Prop)→World→Prop} {M:Nat→Prop} {B bm:Nat} {f:List UInt8→Option Value} {rd:List UInt8→Option (P22.Rd σ)} {W:World} (h:Gz W bm f) (hM:∀ g,M g→g<B)
  (hr:∀ k,match rd k with | none=>f k=none | some r=>∃ v,f k=some v∧G1 Inv M B v r W):N6 Inv M bm rd W:=by
 intro W' hb k
 obtain ⟨v,h1,h2⟩:=(h.keep hb).look k
 refine ⟨v,_,h1,?_⟩
 have:=hr k
 cases hq:rd k with
 | none=>rw [hq] at this;simp only at this;simp [this]
 | some r=>
  rw [hq] at this
  obtain ⟨v',h3,h4⟩:=this
  rw [h2 v' h3]
  exact ⟨by simp [h3],h4.at hM⟩
end Go.Proofs.YtnjokdbblmlhhaaGreatDoor
namespace Go.Proofs.YtnjokdbblmlhhaaGreatDoor
set_option linter.unusedVariables false
set_option linter.unusedSimpArgs false
open Go.RowKit
abbrev C8 (σ:Type):=List UInt8 × Nat × P22.Rd σ
def Ic {σ:Type} (Inv:σ→(Nat→Prop)→World→Prop) (M:Nat→Prop) (B:Nat) (rows:List (C8 σ)) (L:Array Bool) (bm:Nat) (W:World):Prop:=
 ∃ f,Gz W bm f∧(∀ k,(∀ q∈rows,q.1≠k)→f k=none)∧∀ q∈rows,(L.getD q.2.1 false=true→∃ v,f q.1=some v∧G1 Inv M B v q.2.2 W)∧(L.getD q.2.1 false=false→f q.1=none)
def Hh {σ:Type} (rows:List (C8 σ)):Prop:=rows.Pairwise (fun p q=>p.1≠q.1∧p.2.1≠q.2.1)
theorem Ic.made {σ:Type} {Inv:σ→(Nat→Prop)→World→Prop} {M:Nat→Prop} {B:Nat} {rows:List (C8 σ)} {L:Array Bool} (W:World) (hn:∀ q∈rows,L.getD q.2.1 false=false):Ic Inv M B rows L W.heap.size (W.alloc (.map #[] 0)):=by
 refine ⟨_,Gz.made W,fun _ _=>rfl,fun q hq=>⟨fun h=>?_,fun _=>rfl⟩⟩
 rw [hn q hq] at h
 cases h
theorem Ic.stay {σ:Type} {Inv:σ→(Nat→Prop)→World→Prop} {M:Nat→Prop} {B bm:Nat} {rows:List (C8 σ)} {L L':Array Bool} {W W':World} (h:Ic Inv M B rows L bm W) (hs:Zt B W W') (hb:W'.heap[bm]?=W.heap[bm]?) (hL:∀ q∈rows,L'.getD q.2.1 false=L.getD q.2.1 false):Ic Inv M B rows L' bm W':=by
 obtain ⟨f,h1,h2,h3⟩:=h
 refine ⟨f,h1.keep hb,h2,fun q hq=>?_⟩
 rw [hL q hq]
 exact ⟨fun ht=>((h3 q hq).1 ht).imp fun v hv=>⟨hv.1,hv.2.stay hs⟩,(h3 q hq).2⟩
theorem Hp {σ:Type}:∀ {rows:List (C8 σ)},Hh rows→∀ p∈rows,∀ q∈rows,p.1=q.1∨p.2.1=q.2.1→p=q
 | [],_,p,hp,_,_,_=>by cases hp
 | x :: xs,h,p,hp,q,hq,e=>by
  obtain ⟨h1,h2⟩:=List.pairwise_cons.1 h
  rcases List.mem_cons.1 hp with rfl | hp'<;>rcases List.mem_cons.1 hq with rfl | hq'
  ·rfl
  ·rcases e with e | e
   ·exact absurd e (h1 q hq').1
   ·exact absurd e (h1 q hq').2
  ·rcases e with e | e
   ·exact absurd e.symm (h1 p hp').1
   ·exact absurd e.symm (h1 p hp').2
  ·exact Hp h2 p hp' q hq' e
theorem Ic.put {σ:Type} {Inv:σ→(Nat→Prop)→World→Prop} {M:Nat→Prop} {B bm:Nat} {rows:List (C8 σ)} {L:Array Bool} {W:World} (h:Ic Inv M B rows L bm W) (ha:Hh rows) {q:C8 σ} (hq:q∈rows) (hL:L.getD q.2.1 true=false) {v:Value} (hv:G1 Inv M B v q.2.2 W) :
  ∃ W',(Instr.mapUpdate 95 (.map (some bm)) (.string ⟨q.1.toArray⟩) v).run Tryz.prog W=.ok () W'∧Ic Inv M B rows (L.setIfInBounds q.2.1 true) bm W'∧Zt B W W'∧W'.heap.size=W.heap.size∧(∀ g,g≠bm→W'.heap[g]?=W.heap[g]?)∧W'.os=W.os∧W'.tape=W.tape∧W'.output=W.output:=by
 obtain ⟨f,h1,h2,h3⟩:=h
 obtain ⟨W',e1,e2,e3,e4,e5⟩:=h1.put q.1 v ((h3 q hq).2 (A4 hL).2)
 have hst:Zt B W W':=⟨by omega,fun g x t hB hg=>by
  by_cases hgb:g=bm
  ·obtain ⟨es,clock,hm,_⟩:=h1
   rw [hgb,hm] at hg
   cases hg
  ·exact (e4 g hgb).trans hg⟩
 refine ⟨W',e1,⟨_,e2,fun k hk=>?_,fun p hp=>?_⟩,hst,e3,e4,e5⟩
 ·have hne:k≠q.1:=fun e=>hk q hq e.symm
  simp only [if_neg hne]
  exact h2 k hk
 ·by_cases hpq:p=q
  ·subst hpq
   refine ⟨fun _=>⟨v,by simp,hv.stay hst⟩,fun hf=>?_⟩
   rw [Bm hL] at hf
   cases hf
  ·have hk:p.1≠q.1:=fun e=>hpq (Hp ha p hp q hq (.inl e))
   have hi:p.2.1≠q.2.1:=fun e=>hpq (Hp ha p hp q hq (.inr e))
   simp only [if_neg hk]
   rw [getD_set_ne false (Ne.symm hi)]
   exact ⟨fun ht=>((h3 p hp).1 ht).imp fun v hv=>⟨hv.1,hv.2.stay hst⟩,(h3 p hp).2⟩
def Du {σ:Type}:List (C8 σ)→List UInt8→Option (P22.Rd σ)
 | [],_=>none
 | q :: r,k=>if k=q.1 then some q.2.2 else Du r k
theorem Hy {σ:Type}:∀ {rows:List (C8 σ)} {k:List UInt8},Du rows k=none→∀ q∈rows,q.1≠k
 | [],k,_,q,hq=>by cases hq
 | x :: xs,k,h,q,hq=>by
  unfold Du at h
  split at h
  ·cases h
  ·rename_i hne
   rcases List.mem_cons.1 hq with rfl | hq
   ·exact fun e=>hne e.symm
   ·exact Hy h q hq
theorem H6 {σ:Type}:∀ {rows:List (C8 σ)} {k:List UInt8} {r:P22.Rd σ},Du rows k=some r→∃ q∈rows,q.1=k∧q.2.2=r
 | [],k,r,h=>by cases h
 | x :: xs,k,r,h=>by
  unfold Du at h
  split at h
  ·rename_i he
   cases h
   exact ⟨x,List.mem_cons_self,he.symm,rfl⟩
  ·obtain ⟨q,hq,h1⟩:=H6 h
   exact ⟨q,List.mem_cons_of_mem _ hq,h1⟩
theorem Ic.full {σ:Type} {Inv:σ→(Nat→Prop)→World→Prop} {M:Nat→Prop} {B bm:Nat} {rows:List (C8 σ)} {L:Array Bool} {W:World} (h:Ic Inv M B rows L bm W) (hM:∀ g,M g→g<B) (hL:∀ q∈rows,L.getD q.2.1 false=true):N6 Inv M bm (Du rows) W:=by
 obtain ⟨f,h1,h2,h3⟩:=h
 refine h1.mapC hM (fun k=>?_)
 cases hq:Du rows k with
 | none=>exact h2 k (Hy hq)
 | some r=>
  obtain ⟨q,hm,rfl,rfl⟩:=H6 hq
  exact (h3 q hm).1 (hL q hm)
theorem Ik {σ:Type} (Inv:σ→(Nat→Prop)→World→Prop) (M:Nat→Prop) (B tb c:Nat) (set:Int→σ→σ) (W:World) (hB:B≤c) (hc:W.heap[c]?=some (.cells #[.pointer (some ⟨tb,0,none⟩)] 65)) (hM:M tb)
  (hget:∀ s A W',Inv s A W'→∃ n0,W'.heap[tb]?=some (.cells (Gy n0) 3))
  (hset:∀ s A W' W'' n,Inv s A W'→W'.grownBy W'' (some tb)→W''.heap[tb]?=some (.cells (Gy n) 3)→Inv (set n s) (fun g=>A g∧g<W'.heap.size) W'') :
  G1 Inv M B (.func (.func 127) #[] #[.pointer (some ⟨c,0,none⟩)]) (fun d s=>(P22.numE d).map fun n=>set n s) W:=by
 refine ⟨_,_,fun g=>g=c,rfl,enters_of Tryz.func127 (by kernel_rfl) rfl,?_,fun W' hz hC nd s A hin hok hbk hi=>?_⟩
 ·rintro g rfl
  exact ⟨hB,_,_,hc⟩
 obtain ⟨k,t,ka,kc,ks,da,dc,ds,l⟩:=nd
 rw [Nd.val_eq]
 obtain ⟨n0,hb⟩:=hget s A W' hi
 have hok':t.length≤1000000:=by simp only [Nd.bare,E6] at hok;exact hok.1
 refine (Lw k t ka kc ks da dc ds l c tb n0 W' hok' ((hC c rfl).trans hc) hb).mono ?_
 rintro e w1 ⟨hg,hm⟩
 refine ⟨⟨hg.size,fun g hl hn=>hg.block g hl (fun e=>hn (by injection e with e;rw [e];exact hM)),hg.os,hg.tape,hg.output⟩,?_⟩
 cases hq:P22.numE (Nd.mk k t ka kc ks da dc ds l).bare with
 | ok n=>
  rw [hq] at hm
  dsimp only
  rw [hq]
  exact ⟨hm.1,hset s A W' w1 n hi hg hm.2⟩
 | error x=>
  rw [hq] at hm
  obtain ⟨h1,cs,⟨n,rfl⟩,h2⟩:=hm
  dsimp only
  rw [hq]
  exact ⟨h1,P22.numE_bad hq,_,hset s A W' w1 n hi hg h2⟩
theorem F5 {σ:Type} (Inv:σ→(Nat→Prop)→World→Prop) (M:Nat→Prop) (B tb c:Nat) (most:Int) (set:List UInt8→σ→σ) (W:World) (hB:B≤c) (hc:W.heap[c]?=some (.cells #[.pointer (some ⟨tb,0,none⟩)] 94)) (hc1:W.heap[c+1]?=some (.cells #[.int .i64 most] 3)) (hM:M tb)
  (hget:∀ s A W',Inv s A W'→∃ n0,W'.heap[tb]?=some (.cells (Fv n0) 9))
  (hset:∀ s A W' W'' n,Inv s A W'→W'.grownBy W'' (some tb)→W''.heap[tb]?=some (.cells (Fv n) 9)→Inv (set n s) (fun g=>A g∧g<W'.heap.size) W'') :
  G1 Inv M B (.func (.func 93) #[] #[.pointer (some ⟨c,0,none⟩),.pointer (some ⟨c+1,0,none⟩)]) (fun d s=>(P22.textE most d).map fun n=>set n s) W:=by
 refine ⟨_,_,fun g=>g=c∨g=c+1,rfl,enters_of Tryz.func93 (by kernel_rfl) rfl,?_,fun W' hz hC nd s A hin hok hbk hi=>?_⟩
 ·rintro g (rfl | rfl)
  ·exact ⟨hB,_,_,hc⟩
  ·exact ⟨by omega,_,_,hc1⟩
 obtain ⟨k,t,ka,kc,ks,da,dc,ds,l⟩:=nd
 rw [Nd.val_eq]
 obtain ⟨n0,hb⟩:=hget s A W' hi
 have hok':t.length≤1000000:=by simp only [Nd.bare,E6] at hok;exact hok.1
 refine (J5 k t ka kc ks da dc ds l c (c+1) tb most n0 W' hok' ((hC c (.inl rfl)).trans hc) ((hC (c+1) (.inr rfl)).trans hc1) hb).mono ?_
 rintro e w1 ⟨hg,hm⟩
 refine ⟨⟨hg.size,fun g hl hn=>hg.block g hl (fun e=>hn (by injection e with e;rw [e];exact hM)),hg.os,hg.tape,hg.output⟩,?_⟩
 cases hq:P22.textE most (Nd.mk k t ka kc ks da dc ds l).bare with
 | ok n=>
  rw [hq] at hm
  dsimp only
  rw [hq]
  exact ⟨hm.1,hset s A W' w1 n hi hg hm.2⟩
 | error x=>
  rw [hq] at hm
  obtain ⟨h1,cs,⟨n,rfl⟩,h2⟩:=hm
  dsimp only
  rw [hq]
  exact ⟨h1,P22.textE_bad hq,_,hset s A W' w1 n hi hg h2⟩
end Go.Proofs.YtnjokdbblmlhhaaGreatDoor
namespace Go.Proofs.YtnjokdbblmlhhaaGreatDoor
set_option linter.unusedVariables false
set_option linter.unusedSimpArgs false
open Go.RowKit
structure Cl (n d:Nat) (L:Array Bool):Prop where
 size:L.size=2 * n+7+d
 ins:∀ i,i<n→L.getD (2 * i+2) false=true→L.getD 0 false=true∧L.getD (2 * i+1) false=true
 mv:L.getD (2 * n+1) false=true→L.getD 0 false=true∧∀ i,i<n→L.getD (2 * i+1) false=true∧L.getD (2 * i+2) false=true
 ky:L.getD (2 * n+2+d) false=true→L.getD (2 * n+1) false=true
 ca:L.getD (2 * n+4+d) false=true→L.getD (2 * n+2+d) false=true∧L.getD (2 * n+3+d) false=true
 st:L.getD (2 * n+6+d) false=true→L.getD (2 * n+4+d) false=true∧L.getD (2 * n+5+d) false=true
theorem E3 {L:Array Bool} {i j:Nat} (h:L.getD i true=false):(L.setIfInBounds i true).getD j false=true↔j=i∨L.getD j false=true:=by
 by_cases e:j=i
 ·subst e
  simp [Bm h]
 ·rw [getD_set_ne false (Ne.symm e)]
  simp [e]
theorem Cl.start (n d:Nat):Cl n d (Array.replicate (2 * n+7+d) false):=by
 have h0:∀ i,(Array.replicate (2 * n+7+d) false).getD i false=false:=fun i=>by
  simp only [Array.getD]
  split<;>simp
 refine ⟨by simp,?_,?_,?_,?_,?_⟩
 all_goals (intros;rename_i h;rw [h0] at h;cases h)
theorem Cl.set {n d:Nat} {L:Array Bool} (h:Cl n d L) {j:Nat} (hj:L.getD j true=false)
  (h1:∀ i,i<n→j=2 * i+2→L.getD 0 false=true∧L.getD (2 * i+1) false=true)
  (h2:j=2 * n+1→L.getD 0 false=true∧∀ i,i<n→L.getD (2 * i+1) false=true∧L.getD (2 * i+2) false=true)
  (h3:j=2 * n+2+d→L.getD (2 * n+1) false=true)
  (h4:j=2 * n+4+d→L.getD (2 * n+2+d) false=true∧L.getD (2 * n+3+d) false=true)
  (h5:j=2 * n+6+d→L.getD (2 * n+4+d) false=true∧L.getD (2 * n+5+d) false=true):Cl n d (L.setIfInBounds j true):=by
 have up:∀ i,L.getD i false=true→(L.setIfInBounds j true).getD i false=true:=fun i hi=>(E3 hj).2 (.inr hi)
 refine ⟨by simpa using h.size,fun i hi ht=>?_,fun ht=>?_,fun ht=>?_,fun ht=>?_,fun ht=>?_⟩
 ·rcases (E3 hj).1 ht with e | e
  ·exact ⟨up _ (h1 i hi e.symm).1,up _ (h1 i hi e.symm).2⟩
  ·exact ⟨up _ (h.ins i hi e).1,up _ (h.ins i hi e).2⟩
 ·rcases (E3 hj).1 ht with e | e
  ·exact ⟨up _ (h2 e.symm).1,fun i hi=>⟨up _ ((h2 e.symm).2 i hi).1,up _ ((h2 e.symm).2 i hi).2⟩⟩
  ·exact ⟨up _ (h.mv e).1,fun i hi=>⟨up _ ((h.mv e).2 i hi).1,up _ ((h.mv e).2 i hi).2⟩⟩
 ·rcases (E3 hj).1 ht with e | e
  ·exact up _ (h3 e.symm)
  ·exact up _ (h.ky e)
 ·rcases (E3 hj).1 ht with e | e
  ·exact ⟨up _ (h4 e.symm).1,up _ (h4 e.symm).2⟩
  ·exact ⟨up _ (h.ca e).1,up _ (h.ca e).2⟩
 ·rcases (E3 hj).1 ht with e | e
  ·exact ⟨up _ (h5 e.symm).1,up _ (h5 e.symm).2⟩
  ·exact ⟨up _ (h.st e).1,up _ (h.st e).2⟩
structure G2 {σ:Type} (Inv:σ→(Nat→Prop)→World→Prop) (M:Nat→Prop) (B:Nat) (rows:List (C8 σ)) (d:Nat) (W1:World) (sl nd:Value) (L:Array Bool) (vM vV vK vN:Value) (vR:Nat→Value) (w:World):Prop where
 below:Below B W1 w
 size:B≤w.heap.size
 map:L.getD 0 false=true→∃ bm,vM=.map (some bm)∧B≤bm∧Ic Inv M B rows L bm w
 rd:∀ i q,rows[i]?=some q→L.getD (2 * i+1) false=true→G1 Inv M B (vR i) q.2.2 w
 mv:L.getD (2 * rows.length+1) false=true→vV=vM
 ky:L.getD (2 * rows.length+2+d) false=true→∃ c,vK=.func (.func 92) #[] #[.pointer (some ⟨c,0,none⟩),.pointer (some ⟨c+1,0,none⟩)]∧B≤c∧w.heap[c]?=some (.cells #[vV] 95)∧w.heap[c+1]?=some (.cells #[sl] 23)
 ld:L.getD (2 * rows.length+3+d) false=true→vN=nd
variable {σ:Type} {Inv:σ→(Nat→Prop)→World→Prop} {M:Nat→Prop} {B:Nat} {rows:List (C8 σ)} {d:Nat} {W1:World} {sl nd:Value} {L:Array Bool} {vM vV vK vN:Value} {vR:Nat→Value} {w:World}
def Qz (rows:List (C8 σ)):Prop:=∀ i q,rows[i]?=some q→q.2.1=2 * i+2
theorem Qz.mem (h:Qz rows) {q:C8 σ} (hq:q∈rows):∃ i,i<rows.length∧rows[i]?=some q∧q.2.1=2 * i+2:=by
 obtain ⟨i,hi,rfl⟩:=List.getElem_of_mem hq
 exact ⟨i,hi,List.getElem?_eq_getElem hi,h i _ (List.getElem?_eq_getElem hi)⟩
theorem G2.grow (h:G2 Inv M B rows d W1 sl nd L vM vV vK vN vR w) (hI:Qz rows) {L':Array Bool} {w':World} (hb:Below w.heap.size w w') (h0:L'.getD 0 false=L.getD 0 false) (h1:∀ i,i<rows.length→L'.getD (2 * i+1) false=L.getD (2 * i+1) false∧L'.getD (2 * i+2) false=L.getD (2 * i+2) false)
  (h2:L'.getD (2 * rows.length+1) false=L.getD (2 * rows.length+1) false) (h3:L'.getD (2 * rows.length+2+d) false=L.getD (2 * rows.length+2+d) false) (h4:L'.getD (2 * rows.length+3+d) false=L.getD (2 * rows.length+3+d) false):G2 Inv M B rows d W1 sl nd L' vM vV vK vN vR w':=by
 have hst:Zt B w w':=.of_below hb
 refine ⟨h.below.trans (hb.mono h.size),Nat.le_trans h.size hb.size,fun ht=>?_,fun i q hq ht=>?_,fun ht=>h.mv (h2 ▸ ht),fun ht=>?_,fun ht=>h.ld (h4 ▸ ht)⟩
 ·rw [h0] at ht
  obtain ⟨bm,e1,e2,e3⟩:=h.map ht
  refine ⟨bm,e1,e2,e3.stay hst ?_ (fun q hq=>?_)⟩
  ·obtain ⟨f,⟨es,cl,hm,_⟩,_⟩:=e3
   exact hb.block bm (Array.getElem?_eq_some_iff.1 hm).1
  ·obtain ⟨i,hi,_,hq2⟩:=hI.mem hq
   rw [hq2]
   exact (h1 i hi).2
 ·have hi:i<rows.length:=(List.getElem?_eq_some_iff.1 hq).1
  rw [(h1 i hi).1] at ht
  exact (h.rd i q hq ht).stay hst
 ·rw [h3] at ht
  obtain ⟨c,e1,e2,e3,e4⟩:=h.ky ht
  exact ⟨c,e1,e2,(hb.block c (Array.getElem?_eq_some_iff.1 e3).1).trans e3,(hb.block (c+1) (Array.getElem?_eq_some_iff.1 e4).1).trans e4⟩
theorem Ae {L:Array Bool} {i j:Nat} (h:i≠j):(L.setIfInBounds i true).getD j false=L.getD j false:=getD_set_ne false h
theorem G2.make (h:G2 Inv M B rows d W1 sl nd L vM vV vK vN vR w) (hI:Qz rows) (hC:Cl rows.length d L) (h0:L.getD 0 true=false):G2 Inv M B rows d W1 sl nd (L.setIfInBounds 0 true) (.map (some w.heap.size)) vV vK vN vR (w.alloc (.map #[] 0)):=by
 have f0:=(A4 h0).2
 have hb:Below w.heap.size w (w.alloc (.map #[] 0)):=(Below.refl _ w).alloc (Nat.le_refl _) _
 have no:∀ {j:Nat},(L.getD j false=true→L.getD 0 false=true)→(L.setIfInBounds 0 true).getD j false=true→j=0:=fun hj ht=>by
  rcases (E3 h0).1 ht with e | e
  ·exact e
  ·have:=hj e;rw [f0] at this;cases this
 refine ⟨h.below.trans (hb.mono h.size),Nat.le_trans h.size hb.size,fun _=>⟨w.heap.size,rfl,h.size,Ic.made w (fun q hq=>?_)⟩,fun i q hq ht=>?_,fun ht=>?_,fun ht=>?_,fun ht=>?_⟩
 ·obtain ⟨i,hi,_,hq2⟩:=hI.mem hq
  rw [hq2]
  cases hh:(L.setIfInBounds 0 true).getD (2 * i+2) false with
  | false=>rfl
  | true=>have:=no (fun e=>(hC.ins i hi e).1) hh;omega
 ·rw [Ae (by omega)] at ht
  exact (h.rd i q hq ht).stay (.of_below hb)
 ·have:=no (fun e=>(hC.mv e).1) ht;omega
 ·have:=no (fun e=>(hC.mv (hC.ky e)).1) ht;omega
 ·rw [Ae (by omega)] at ht
  exact h.ld ht
theorem G2.call (h:G2 Inv M B rows d W1 sl nd L vM vV vK vN vR w) (hI:Qz rows) {i:Nat} {q:C8 σ} (hq:rows[i]?=some q) (hi:L.getD (2 * i+1) true=false) {w':World} (hb:Below w.heap.size w w') {v:Value} (hv:G1 Inv M B v q.2.2 w'):G2 Inv M B rows d W1 sl nd (L.setIfInBounds (2 * i+1) true) vM vV vK vN (fun j=>if j=i then v else vR j) w':=by
 have hil:i<rows.length:=(List.getElem?_eq_some_iff.1 hq).1
 refine ⟨h.below.trans (hb.mono h.size),Nat.le_trans h.size hb.size,fun ht=>?_,fun j q' hq' ht=>?_,fun ht=>h.mv (by rwa [Ae (by omega)] at ht),fun ht=>?_,fun ht=>h.ld (by rwa [Ae (by omega)] at ht)⟩
 ·rw [Ae (by omega)] at ht
  obtain ⟨bm,e1,e2,e3⟩:=h.map ht
  refine ⟨bm,e1,e2,e3.stay (.of_below hb) ?_ (fun q' hq'=>?_)⟩
  ·obtain ⟨f,⟨es,cl,hm,_⟩,_⟩:=e3
   exact hb.block bm (Array.getElem?_eq_some_iff.1 hm).1
  ·obtain ⟨j,hj,_,hq2⟩:=hI.mem hq'
   rw [hq2]
   exact Ae (by omega)
 ·by_cases e:j=i
  ·subst e
   rw [hq] at hq'
   cases hq'
   simpa using hv
  ·rw [if_neg e]
   rw [Ae (by omega)] at ht
   exact (h.rd j q' hq' ht).stay (.of_below hb)
 ·rw [Ae (by omega)] at ht
  obtain ⟨c,e1,e2,e3,e4⟩:=h.ky ht
  exact ⟨c,e1,e2,(hb.block c (Array.getElem?_eq_some_iff.1 e3).1).trans e3,(hb.block (c+1) (Array.getElem?_eq_some_iff.1 e4).1).trans e4⟩
theorem G2.put (h:G2 Inv M B rows d W1 sl nd L vM vV vK vN vR w) (hI:Qz rows) (hA:Hh rows) (hC:Cl rows.length d L) {i:Nat} {q:C8 σ} (hq:rows[i]?=some q) (hi:L.getD (2 * i+2) true=false) (hd0:L.getD 0 false=true) (hd1:L.getD (2 * i+1) false=true) :
  ∃ bm w',vM=.map (some bm)∧(Instr.mapUpdate 95 (.map (some bm)) (.string ⟨q.1.toArray⟩) (vR i)).run Tryz.prog w=.ok () w'∧G2 Inv M B rows d W1 sl nd (L.setIfInBounds (2 * i+2) true) vM vV vK vN vR w'∧(∀ g,g≠bm→w'.heap[g]?=w.heap[g]?)∧B≤bm∧(∃ es cl,w.heap[bm]?=some (.map es cl)):=by
 have hil:i<rows.length:=(List.getElem?_eq_some_iff.1 hq).1
 have hqi:=hI i q hq
 have f0:=(A4 hi).2
 obtain ⟨bm,e1,e2,e3⟩:=h.map hd0
 obtain ⟨es,cl,hm⟩:∃ es cl,w.heap[bm]?=some (.map es cl):=by
  obtain ⟨f,⟨es,cl,hm,_⟩,_⟩:=e3
  exact ⟨es,cl,hm⟩
 obtain ⟨w',r1,r2,r3,r4,r5,r6,r7,r8⟩:=e3.put hA (List.mem_of_getElem? hq) (by rw [hqi];exact hi) (h.rd i q hq hd1)
 rw [hqi] at r2
 have hbl:Below B W1 w':=⟨r6.trans h.below.os,r7.trans h.below.tape,r8.trans h.below.output,by rw [r4];exact h.below.size,fun g hg=>(r5 g (by omega)).trans (h.below.block g hg)⟩
 refine ⟨bm,w',e1,r1,⟨hbl,by rw [r4];exact h.size,fun _=>⟨bm,e1,e2,r2⟩,fun j q' hq' ht=>?_,fun ht=>?_,fun ht=>?_,fun ht=>h.ld (by rwa [Ae (by omega)] at ht)⟩,r5,e2,es,cl,hm⟩
 ·rw [Ae (by omega)] at ht
  exact (h.rd j q' hq' ht).stay r3
 ·rw [Ae (by omega)] at ht
  exact h.mv ht
 ·rw [Ae (by omega)] at ht
  have:=((hC.mv (hC.ky ht)).2 i hil).2
  rw [f0] at this
  cases this
theorem G2.move (h:G2 Inv M B rows d W1 sl nd L vM vV vK vN vR w) (hI:Qz rows) (hC:Cl rows.length d L) (hi:L.getD (2 * rows.length+1) true=false):G2 Inv M B rows d W1 sl nd (L.setIfInBounds (2 * rows.length+1) true) vM vM vK vN vR w:=by
 have f0:=(A4 hi).2
 refine ⟨h.below,h.size,fun ht=>?_,fun j q' hq' ht=>?_,fun _=>rfl,fun ht=>?_,fun ht=>h.ld (by rwa [Ae (by omega)] at ht)⟩
 ·rw [Ae (by omega)] at ht
  obtain ⟨bm,e1,e2,e3⟩:=h.map ht
  refine ⟨bm,e1,e2,e3.stay ⟨Nat.le_refl _,fun _ _ _ _ hg=>hg⟩ rfl (fun q hq=>?_)⟩
  obtain ⟨j,hj,_,hq2⟩:=hI.mem hq
  rw [hq2]
  exact Ae (by omega)
 ·have:=(List.getElem?_eq_some_iff.1 hq').1
  rw [Ae (by omega)] at ht
  exact h.rd j q' hq' ht
 ·rw [Ae (by omega)] at ht
  have:=hC.ky ht
  rw [f0] at this
  cases this
theorem G2.keys (h:G2 Inv M B rows d W1 sl nd L vM vV vK vN vR w) (hI:Qz rows) {w':World} (hb:Below w.heap.size w w') {c:Nat} (hc:w.heap.size≤c) (h1:w'.heap[c]?=some (.cells #[vV] 95)) (h2:w'.heap[c+1]?=some (.cells #[sl] 23)) :
  G2 Inv M B rows d W1 sl nd (L.setIfInBounds (2 * rows.length+2+d) true) vM vV (.func (.func 92) #[] #[.pointer (some ⟨c,0,none⟩),.pointer (some ⟨c+1,0,none⟩)]) vN vR w':=by
 have hs:=h.size
 refine ⟨h.below.trans (hb.mono h.size),Nat.le_trans h.size hb.size,fun ht=>?_,fun j q' hq' ht=>?_,fun ht=>h.mv (by rwa [Ae (by omega)] at ht),fun ht=>⟨c,rfl,by omega,h1,h2⟩,fun ht=>h.ld (by rwa [Ae (by omega)] at ht)⟩
 ·rw [Ae (by omega)] at ht
  obtain ⟨bm,e1,e2,e3⟩:=h.map ht
  refine ⟨bm,e1,e2,e3.stay (.of_below hb) ?_ (fun q hq=>?_)⟩
  ·obtain ⟨f,⟨es,cl,hm,_⟩,_⟩:=e3
   exact hb.block bm (Array.getElem?_eq_some_iff.1 hm).1
  ·obtain ⟨j,hj,_,hq2⟩:=hI.mem hq
   rw [hq2]
   exact Ae (by omega)
 ·have:=(List.getElem?_eq_some_iff.1 hq').1
  rw [Ae (by omega)] at ht
  exact (h.rd j q' hq' ht).stay (.of_below hb)
theorem G2.load (h:G2 Inv M B rows d W1 sl nd L vM vV vK vN vR w) (hI:Qz rows):G2 Inv M B rows d W1 sl nd (L.setIfInBounds (2 * rows.length+3+d) true) vM vV vK nd vR w:=by
 refine ⟨h.below,h.size,fun ht=>?_,fun j q' hq' ht=>?_,fun ht=>h.mv (by rwa [Ae (by omega)] at ht),fun ht=>h.ky (by rwa [Ae (by omega)] at ht),fun _=>rfl⟩
 ·rw [Ae (by omega)] at ht
  obtain ⟨bm,e1,e2,e3⟩:=h.map ht
  refine ⟨bm,e1,e2,e3.stay ⟨Nat.le_refl _,fun _ _ _ _ hg=>hg⟩ rfl (fun q hq=>?_)⟩
  obtain ⟨j,hj,_,hq2⟩:=hI.mem hq
  rw [hq2]
  exact Ae (by omega)
 ·have:=(List.getElem?_eq_some_iff.1 hq').1
  rw [Ae (by omega)] at ht
  exact h.rd j q' hq' ht
theorem G2.ready (h:G2 Inv M B rows d W1 sl nd L vM vV vK vN vR w) (hI:Qz rows) (hC:Cl rows.length d L) (hM:∀ g,M g→g<B) (h1:L.getD (2 * rows.length+2+d) false=true) (h2:L.getD (2 * rows.length+3+d) false=true) :
  ∃ bm c,vK=.func (.func 92) #[] #[.pointer (some ⟨c,0,none⟩),.pointer (some ⟨c+1,0,none⟩)]∧vN=nd∧B≤c∧B≤bm∧bm<w.heap.size∧w.heap[c]?=some (.cells #[.map (some bm)] 95)∧w.heap[c+1]?=some (.cells #[sl] 23)∧N6 Inv M bm (Du rows) w:=by
 have hm:=hC.ky h1
 obtain ⟨bm,e1,e2,e3⟩:=h.map (hC.mv hm).1
 obtain ⟨c,k1,k2,k3,k4⟩:=h.ky h1
 rw [h.mv hm,e1] at k3
 refine ⟨bm,c,k1,h.ld h2,k2,e2,?_,k3,k4,e3.full hM (fun q hq=>?_)⟩
 ·obtain ⟨f,⟨es,cl,hm,_⟩,_⟩:=e3
  exact (Array.getElem?_eq_some_iff.1 hm).1
 ·obtain ⟨i,hi,_,hq2⟩:=hI.mem hq
  rw [hq2]
  exact ((hC.mv hm).2 i hi).2
end Go.Proofs.YtnjokdbblmlhhaaGreatDoor
namespace Go.Proofs.YtnjokdbblmlhhaaGreatDoor
set_option linter.unusedVariables false
set_option linter.unusedSimpArgs false
open Go.RowKit
theorem Cl.early {n d:Nat} {L:Array Bool} (h:Cl n d L) (hc:L.getD (2 * n+4+d) false=true):L.getD 0 false=true∧(∀ i,i<n→L.getD (2 * i+1) false=true∧L.getD (2 * i+2) false=true)∧L.getD (2 * n+1) false=true∧L.getD (2 * n+2+d) false=true∧L.getD (2 * n+3+d) false=true:=by
 obtain ⟨h1,h2⟩:=h.ca hc
 have h3:=h.ky h1
 exact ⟨(h.mv h3).1,(h.mv h3).2,h3,h1,h2⟩
theorem Cl.not {n d:Nat} {L:Array Bool} (h:Cl n d L) {j:Nat} (hj:L.getD j true=false) (hh:j=0∨(∃ i,i<n∧(j=2 * i+1∨j=2 * i+2))∨j=2 * n+1∨j=2 * n+2+d∨j=2 * n+3+d):L.getD (2 * n+4+d) false=false:=by
 have f:=(A4 hj).2
 cases hc:L.getD (2 * n+4+d) false with
 | false=>rfl
 | true=>
  obtain ⟨h0,h1,h2,h3,h4⟩:=h.early hc
  rcases hh with rfl | ⟨i,hi,rfl | rfl⟩ | rfl | rfl | rfl
  ·rw [h0] at f;cases f
  ·rw [(h1 i hi).1] at f;cases f
  ·rw [(h1 i hi).2] at f;cases f
  ·rw [h2] at f;cases f
  ·rw [h3] at f;cases f
  ·rw [h4] at f;cases f
def Mo (n d B:Nat) (L:Array Bool) (vF vE:Value) (w:World):Prop:=
 L.getD (2 * n+5+d) false=true→∃ fb x y,vF=.pointer (some ⟨fb,0,none⟩)∧B≤fb∧w.heap[fb]?=some (.cells #[x,y] 29)∧(L.getD (2 * n+6+d) false=true→vE=.agg #[x,y])
theorem Mo.keep {n d B:Nat} {L L':Array Bool} {vF vE vE':Value} {w w':World} (h:Mo n d B L vF vE w) (h5:L'.getD (2 * n+5+d) false=L.getD (2 * n+5+d) false) (h6:L'.getD (2 * n+6+d) false=L.getD (2 * n+6+d) false)
  (hE:L.getD (2 * n+6+d) false=true→vE'=vE) (hb:∀ g x y t,B≤g→w.heap[g]?=some (.cells #[x,y] t)→w'.heap[g]?=some (.cells #[x,y] t)):Mo n d B L' vF vE' w':=by
 intro ht
 rw [h5] at ht
 obtain ⟨fb,x,y,e1,e2,e3,e4⟩:=h ht
 refine ⟨fb,x,y,e1,e2,hb fb x y _ e2 e3,fun hs=>?_⟩
 rw [h6] at hs
 rw [hE hs]
 exact e4 hs
theorem Aw {B:Nat} {w w':World} (hb:Below w.heap.size w w'):∀ g x y t,B≤g→w.heap[g]?=some (.cells #[x,y] t)→w'.heap[g]?=some (.cells #[x,y] t):=fun g x y t _ hg=>(hb.block g (Array.getElem?_eq_some_iff.1 hg).1).trans hg
theorem Bw {B bm:Nat} {w w':World} (hm:∃ es cl,w.heap[bm]?=some (.map es cl)) (h:∀ g,g≠bm→w'.heap[g]?=w.heap[g]?):∀ g x y t,B≤g→w.heap[g]?=some (.cells #[x,y] t)→w'.heap[g]?=some (.cells #[x,y] t):=fun g x y t _ hg=>by
 by_cases e:g=bm
 ·obtain ⟨es,cl,hm⟩:=hm
  rw [e,hm] at hg
  cases hg
 ·exact (h g e).trans hg
def Eg {σ:Type} (Inv:σ→(Nat→Prop)→World→Prop) (M:Nat→Prop) (B n d:Nat) (W1:World) (res:Except P22.F σ) (L:Array Bool) (vF vE:Value) (w:World):Prop:=
 Dw M W1 w∧B≤w.heap.size∧∃ e l',vE=fV e l'∧∃ s,((res=.ok s∧e=0∧l'=0)∨(res=.error (e,l')∧e≠0))∧Inv s (fun g=>L.getD (2 * n+5+d) false=true∧vF=.pointer (some ⟨g,0,none⟩)) w
variable {σ:Type} {Inv:σ→(Nat→Prop)→World→Prop} {M:Nat→Prop} {B n d:Nat} {W1:World} {res:Except P22.F σ} {L:Array Bool} {vF vE:Value} {w:World}
theorem Eg.read {w':World} {A:Nat→Prop} {e:Ending} (hP:Gf Inv) (hb:Below B W1 w) (hW:B≤W1.heap.size) (hz:B≤w.heap.size) (hMB:∀ g,M g→g<B) (hM:∀ g,¬ M g→A g) (h:Gm Inv M A w res e w') (hC:Cl n d L) (hA:Mo n d B L vF vE w) (hi:L.getD (2 * n+4+d) true=false)
  (hkeep:∀ g,g<W1.heap.size→B≤g→w.heap[g]?=W1.heap[g]?) :
  ∃ v,e=.returned v∧Eg Inv M B n d W1 res (L.setIfInBounds (2 * n+4+d) true) vF v w'∧Mo n d B (L.setIfInBounds (2 * n+4+d) true) vF v w':=by
 obtain ⟨hk,hm⟩:=h
 have hkB:Dw M W1 w':=⟨Nat.le_trans hb.size hk.size,fun g hg hn=>by
  have hlt:g<w.heap.size:=Nat.lt_of_lt_of_le hg hb.size
  by_cases hgB:g<B
  ·exact (hk.same g hlt hn).trans (hb.block g hgB)
  ·exact (hk.same g hlt hn).trans (hkeep g hg (by omega)),hk.os.trans hb.os,hk.tape.trans hb.tape,hk.output.trans hb.output⟩
 have hin:∀ g,((L.setIfInBounds (2 * n+4+d) true).getD (2 * n+5+d) false=true∧vF=.pointer (some ⟨g,0,none⟩))→A g∧g<w.heap.size:=by
  rintro g ⟨h1,h2⟩
  rw [Ae (by omega)] at h1
  obtain ⟨fb,x,y,e1,e2,e3,_⟩:=hA h1
  rw [e1] at h2
  injection h2 with h2
  injection h2 with h2
  injection h2 with h2
  subst h2
  exact ⟨hM _ (fun hm=>by have:=hMB _ hm;omega),(Array.getElem?_eq_some_iff.1 e3).1⟩
 have hal:∀ v,Mo n d B (L.setIfInBounds (2 * n+4+d) true) vF v w':=fun v=>by
  refine hA.keep (Ae (by omega)) (Ae (by omega)) (fun hs=>?_) (fun g x y t hB hg=>(hk.same g (Array.getElem?_eq_some_iff.1 hg).1 (fun hm=>by have:=hMB _ hm;omega)).trans hg)
  have:=(hC.st hs).1
  rw [(A4 hi).2] at this
  cases this
 cases res with
 | ok s=>
  obtain ⟨rfl,hI⟩:=hm
  exact ⟨_,rfl,⟨hkB,Nat.le_trans hz hk.size,0,0,rfl,s,.inl ⟨rfl,rfl,rfl⟩,hP.mono _ _ _ _ hI hin⟩,hal _⟩
 | error x=>
  obtain ⟨rfl,hne,s,hI⟩:=hm
  exact ⟨_,rfl,⟨hkB,Nat.le_trans hz hk.size,x.1,x.2,rfl,s,.inr ⟨rfl,hne⟩,hP.mono _ _ _ _ hI hin⟩,hal _⟩
theorem Eg.alloc (hP:Gf Inv) (h:Eg Inv M B n d W1 res L vF vE w) (hi:L.getD (2 * n+5+d) true=false) (o:Obj):Eg Inv M B n d W1 res (L.setIfInBounds (2 * n+5+d) true) (.pointer (some ⟨w.heap.size,0,none⟩)) vE (w.alloc o):=by
 obtain ⟨hk,hz,e,l',rfl,s,hr,hI⟩:=h
 have hb:Below w.heap.size w (w.alloc o):=(Below.refl _ w).alloc (Nat.le_refl _) _
 refine ⟨hk.trans (.of_below hb),Nat.le_trans hz hb.size,e,l',rfl,s,hr,?_⟩
 refine hP.mono _ _ _ _ (hP.stays _ _ _ _ hI hb.size (fun g hg _=>hb.block g hg)) (fun g hg=>.inr ?_)
 have h2:=hg.2
 injection h2 with h2
 injection h2 with h2
 injection h2 with h2
 omega
theorem Mo.made (hC:Cl n d L) (hz:B≤w.heap.size) (hi:L.getD (2 * n+5+d) true=false) (vE:Value) (x y:Value):Mo n d B (L.setIfInBounds (2 * n+5+d) true) (.pointer (some ⟨w.heap.size,0,none⟩)) vE (w.alloc (.cells #[x,y] 29)):=by
 intro _
 refine ⟨w.heap.size,x,y,rfl,hz,World.alloc_heap_new _ _,fun hs=>?_⟩
 rw [Ae (by omega)] at hs
 have:=(hC.st hs).2
 rw [(A4 hi).2] at this
 cases this
theorem Eg.store (hP:Gf Inv) (h:Eg Inv M B n d W1 res L vF vE w) (hA:Mo n d B L vF vE w) (hi:L.getD (2 * n+6+d) true=false) (hd:L.getD (2 * n+5+d) false=true) (hMB:∀ g,M g→g<B) (hW:W1.heap.size≤B) :
  ∃ fb x y e l',vF=.pointer (some ⟨fb,0,none⟩)∧vE=.agg #[.int .i64 e,.int .i64 l']∧w.heap[fb]?=some (.cells #[x,y] 29) ∧
   Eg Inv M B n d W1 res (L.setIfInBounds (2 * n+6+d) true) vF vE ((w.setCell ⟨fb,0,none⟩ (.int .i64 e)).setCell ⟨fb,1,none⟩ (.int .i64 l'))∧Mo n d B (L.setIfInBounds (2 * n+6+d) true) vF vE ((w.setCell ⟨fb,0,none⟩ (.int .i64 e)).setCell ⟨fb,1,none⟩ (.int .i64 l')):=by
 obtain ⟨hk,hz,e,l',rfl,s,hr,hI⟩:=h
 obtain ⟨fb,x,y,rfl,e2,e3,_⟩:=hA hd
 refine ⟨fb,x,y,e,l',rfl,rfl,e3,⟨hk.two (by omega) _ _,by simpa using hz,e,l',rfl,s,hr,?_⟩,fun _=>⟨fb,_,_,rfl,e2,A3 e3 _ _,fun _=>rfl⟩⟩
 refine hP.mono _ _ _ _ (hP.stays _ _ _ _ hI (by simp) (fun g hg hn=>Ar (fun q=>hn ⟨hd,by rw [q]⟩) _ _)) (fun g hg=>.inl ?_)
 rw [Ae (by omega)] at hg
 exact hg
theorem Eg.end (h:Eg Inv M B n d W1 res L vF vE w) (hA:Mo n d B L vF vE w) (h5:L.getD (2 * n+5+d) false=true) (h6:L.getD (2 * n+6+d) false=true) :
  ∃ fb e l' s,vF=.pointer (some ⟨fb,0,none⟩)∧B≤fb∧w.heap[fb]?=some (.cells #[.int .i64 e,.int .i64 l'] 29)∧Dw M W1 w∧((res=.ok s∧e=0∧l'=0)∨(res=.error (e,l')∧e≠0))∧Inv s (fun g=>g=fb) w:=by
 obtain ⟨hk,hz,e,l',rfl,s,hr,hI⟩:=h
 obtain ⟨fb,x,y,rfl,e2,e3,e4⟩:=hA h5
 have:=e4 h6
 simp only [fV,Value.agg.injEq,Array.mk.injEq,List.cons.injEq,and_true] at this
 obtain ⟨rfl,rfl⟩:=this
 refine ⟨fb,e,l',s,rfl,e2,e3,hk,hr,?_⟩
 have:(fun g=>L.getD (2 * n+5+d) false=true∧Value.pointer (some ⟨fb,0,none⟩)=.pointer (some ⟨g,0,none⟩))=fun g=>g=fb:=by
  funext g
  simp only [h5,true_and,Value.pointer.injEq,Option.some.injEq,Addr.mk.injEq,and_true]
  exact propext ⟨Eq.symm,Eq.symm⟩
 rw [this] at hI
 exact hI
end Go.Proofs.YtnjokdbblmlhhaaGreatDoor
