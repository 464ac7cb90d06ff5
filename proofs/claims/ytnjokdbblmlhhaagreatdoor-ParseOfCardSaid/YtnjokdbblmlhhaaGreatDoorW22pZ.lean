/- Lemmas of this claim. -/
import Derived.Test.YtnjokdbblmlhhaaGreatDoorW22oZ
import Derived.Test.YtnjokdbblmlhhaaGreatDoorW22fZ
import Derived.Test.YtnjokdbblmlhhaaGreatDoorW22lZ
import Derived.Test.YtnjokdbblmlhhaaGreatDoorGP20Z
import Derived.Test.YtnjokdbblmlhhaaGreatDoorPlain20fZ
namespace Go.Proofs.YtnjokdbblmlhhaaGreatDoor
set_option linter.unusedVariables false
set_option linter.unusedSimpArgs false
open Go.RowKit
def Iq (tb B:Nat) (acc:List P22.Step) (A:Nat→Prop) (W:World):Prop:=
 (∃ ss a c,ss.map Bc.bare=acc∧W.heap[tb]?=some (.cells #[.slice a ss.length c] 48)∧Cx.Own W B (.slice a ss.length c) ss∧∀ g,Cx.ob (.slice a ss.length c) ss g→¬ A g)∧¬ A tb∧tb<B∧B≤W.heap.size
theorem Vi (tb B:Nat):Gf (Iq tb B) where
 stays:=by
  rintro s A W W' ⟨⟨ss,a,c,h0,h1,h2,h3⟩,h4,h5,h6⟩ hz hs
  have hl:=(Array.getElem?_eq_some_iff.1 h1).1
  refine ⟨⟨ss,a,c,h0,(hs tb hl h4).trans h1,h2.stay (fun g hg=>hs g (h2.ob_le hg).2 (h3 g hg)),fun g hg=>?_⟩,?_,h5,by omega⟩
  ·have:=(h2.ob_le hg).2
   rintro (h7 | h7)
   ·exact h3 g hg h7
   ·omega
  ·rintro (h7 | h7)
   ·exact h4 h7
   ·omega
 mono:=by
  rintro s A A' W ⟨⟨ss,a,c,h0,h1,h2,h3⟩,h4,h5,h6⟩ hA
  exact ⟨⟨ss,a,c,h0,h1,h2,fun g hg h=>h3 g hg (hA g h)⟩,fun h=>h4 (hA _ h),h5,h6⟩
theorem T7:∀ (args:Array Value) (W:World),(callFunc 53 args).run Tryz.prog W=.ok (.enter 53 args) W:=enters_of Tryz.func53 (by kernel_rfl) rfl
def Q7:P22.Rd (List P22.Step):=fun d acc=>(P22.stepE d).map fun a=>acc ++ [a]
theorem S6 {tb B H:Nat} {acc:List P22.Step} {ss:List Bc} {x:Bc} {A:Nat→Prop} {w V w9:World} {a a9:Option Addr} {c c9:Nat} {e l':Int} {res:Except P22.F (List P22.Step)}
  (hH:w.heap.size=H) (hV:H+1<V.heap.size) (hF:Cp A w V) (i4:¬ A tb) (i5:tb<B) (htl:tb<H) (i6:B≤H) (hss:ss.map Bc.bare=acc)
  (hI3:∀ g,Cx.ob (.slice a ss.length c) ss g→¬ A g) (hob:∀ g,Cx.ob (.slice a ss.length c) ss g→B≤g∧g<H)
  (hT:V.heap[tb]?=some (.cells #[.slice a ss.length c] 48)) (hN:V.heap[H+1]?=some (.cells #[.int .i64 0,.int .i64 0] 29))
  (hg9:V.grownBy w9 (Value.slice a ss.length c).ownBlock) (hS9:Cx.Own w9 B (.slice a9 (ss.length+1) c9) (ss ++ [x])) (hxb:∀ g,x.blk g→H+1<g)
  (hat9:(Value.slice a9 (ss.length+1) c9).ownBlock=(Value.slice a ss.length c).ownBlock∨∃ g,(Value.slice a9 (ss.length+1) c9).ownBlock=some g∧V.heap.size≤g)
  (hres:(res=.ok (acc ++ [x.bare])∧e=0∧l'=0)∨(res=.error (e,l')∧e≠0)) :
  (w9.setCell ⟨tb,0,none⟩ (.slice a9 (ss.length+1) c9)).heap[H+1]?=some (.cells #[.int .i64 0,.int .i64 0] 29)∧(∀ g,g<V.heap.size→H+1<g→(w9.setCell ⟨tb,0,none⟩ (.slice a9 (ss.length+1) c9)).heap[g]?=V.heap[g]?) ∧
  (∀ W6,((w9.setCell ⟨tb,0,none⟩ (.slice a9 (ss.length+1) c9)).setCell ⟨H+1,0,none⟩ (.int .i64 e)).setCell ⟨H+1,1,none⟩ (.int .i64 l')=W6→D7 (Iq tb B) A w res (.returned (fV e l')) W6∧(loadVar 29 ⟨H+1,0,none⟩).run Tryz.prog W6=.ok (fV e l') W6):=by
 have hob1:∀ g,(Value.slice a ss.length c).ownBlock=some g→B≤g∧g<H:=fun g hg=>hob g (.inl hg)
 have hst:∀ g,g<V.heap.size→g≠tb→(Value.slice a ss.length c).ownBlock≠some g→(w9.setCell ⟨tb,0,none⟩ (.slice a9 (ss.length+1) c9)).heap[g]?=V.heap[g]?:=fun g hg hne ho=>
  (Below.heap_setCell _ _ _ _ hne).trans (hg9.block g hg (fun q=>ho q.symm))
 have f5:=(hst (H+1) (by omega) (by omega) (fun q=>by have:=(hob1 _ q).2;omega)).trans hN
 refine ⟨f5,fun g hg hgH=>hst g hg (by omega) (fun q=>by have:=(hob1 _ q).2;omega),?_⟩
 rintro W6 rfl
 have hsz:=hg9.size
 have hT9:=(hg9.block tb (by omega) (fun q=>by have:=(hob1 _ q.symm).1;omega)).trans hT
 have hT6:(((w9.setCell ⟨tb,0,none⟩ (.slice a9 (ss.length+1) c9)).setCell ⟨H+1,0,none⟩ (.int .i64 e)).setCell ⟨H+1,1,none⟩ (.int .i64 l')).heap[tb]?=some (.cells #[.slice a9 (ss.length+1) c9] 48):=(Ar (by omega) _ _).trans (Gb hT9 _)
 have hown:∀ g,Cx.ob (.slice a9 (ss.length+1) c9) (ss ++ [x]) g→(B≤g∧g<H∧¬ A g)∨H+1<g:=by
  intro g hg
  rcases El.ob_more hat9 hg with h | h | h
  ·exact .inl ⟨(hob g h).1,(hob g h).2,hI3 g h⟩
  ·exact .inr (hxb g h)
  ·exact .inr (by omega)
 have hlen:(ss ++ [x]).length=ss.length+1:=by simp
 have hinv:Iq tb B (acc ++ [x.bare]) (fun g=>A g∧g<w.heap.size) (((w9.setCell ⟨tb,0,none⟩ (.slice a9 (ss.length+1) c9)).setCell ⟨H+1,0,none⟩ (.int .i64 e)).setCell ⟨H+1,1,none⟩ (.int .i64 l')):=by
  refine ⟨⟨ss ++ [x],a9,c9,by simp [hss],by rw [hlen];exact hT6,?_,?_⟩,fun h=>i4 h.1,i5,by simp;omega⟩
  ·rw [hlen]
   refine hS9.stay (fun g hg=>?_)
   have:=hown g hg
   refine (Ar (by omega) _ _).trans (Below.heap_setCell _ _ _ _ ?_)
   show g≠tb
   omega
  ·rw [hlen]
   intro g hg h
   rcases hown g hg with h1 | h1
   ·exact h1.2.2 h.1
   ·rw [hH] at h;omega
 have hf6:Cp A w (((w9.setCell ⟨tb,0,none⟩ (.slice a9 (ss.length+1) c9)).setCell ⟨H+1,0,none⟩ (.int .i64 e)).setCell ⟨H+1,1,none⟩ (.int .i64 l')):=by
  refine Cp.two ⟨?_,fun g hg hA=>(hst g (by omega) (fun q=>i4 (q ▸ hA)) (fun q=>hI3 g (.inl q) hA)).trans (hF.same g hg hA),hg9.os.trans hF.os,hg9.tape.trans hF.tape,hg9.output.trans hF.output⟩ (by omega) _ _
  have:=hF.size
  simp
  omega
 refine ⟨⟨hf6,?_⟩,Ai (A3 f5 _ _)⟩
 rcases hres with ⟨rfl,rfl,rfl⟩ | ⟨rfl,h⟩
 ·exact ⟨rfl,hinv⟩
 ·exact ⟨rfl,h,_,hinv⟩
set_option maxRecDepth 100000 in
set_option maxHeartbeats 16000000 in
theorem Ro (tb B:Nat) (k:Nat) (t:List UInt8) (ka:Option Addr) (kc:Nat) (ks:List (List UInt8)) (da:Option Addr) (dc:Nat) (ds:List Nd) (l:Int) (acc:List P22.Step) (A:Nat→Prop) (w:World) (hin:(Nd.mk k t ka kc ks da dc ds l).In w) (hok:E6 (Nd.mk k t ka kc ks da dc ds l).bare)
  (hi:Iq tb B acc A w) (hlen:acc.length+1≤1000000000) :
  Calls Tryz.prog 53 #[.agg #[.int .u8 k,.string ⟨t.toArray⟩,.slice ka ks.length kc,.slice da ds.length dc,.int .i64 l],.pointer (some ⟨tb,0,none⟩)] w (D7 (Iq tb B) A w (Q7 (Nd.mk k t ka kc ks da dc ds l).bare acc)):=by
 obtain ⟨H,hH⟩:∃ H,w.heap.size=H:=⟨_,rfl⟩
 obtain ⟨W0,hW0,hb0,g0,g1,hs0⟩:=A0 w (.cells #[.int .u8 k,.string ⟨t.toArray⟩,.slice ka ks.length kc,.slice da ds.length dc,.int .i64 l] 26) (.cells #[.int .i64 0,.int .i64 0] 29) H hH
 have x0:=Ad g0
 have y0:=Af g1
 obtain ⟨⟨ss,a,c,i0,i1,i2,i3⟩,i4,i5,i6⟩:=hi
 have htl:=(Array.getElem?_eq_some_iff.1 i1).1
 have hob:=fun g hg=>i2.ob_le (g:=g) hg
 rw [hH] at htl hob i6
 have hcl:=Rn k t ka kc ks da dc ds l W0 (hin.below (by rw [hH];exact hb0)) hok
 have hlen2:ss.length+1≤1000000000:=by rw [← i0] at hlen;simpa using hlen
 obtain ⟨res,hres⟩:∃ res,P22.stepE (Nd.mk k t ka kc ks da dc ds l).bare=res:=⟨_,rfl⟩
 unfold Q7
 rw [hres] at hcl ⊢
 have HW0:=Ab hW0
 have HB0:=Ab hb0
 have HG1:=Ab g1
 have HI0:=Ab i0
 have HI1:=Ab i1
 have HI2:=Ab i2
 have HI3:=Ab i3
 have HOB:=Ab hob
 have HCL:=Ab hcl
 have HRES:=Ab hres
 clear hW0 hb0 g0 g1 i0 i1 i2 i3 hob hcl hres hin hok y0
 go_enter Tryz.func53,Tryz.ntmps53
 go_upto_region 1 with fail
 try rw [hH]
 rw [Aa HW0]
 go_upto_region 2 with (go_at_call 54;refine (Aa HCL).mono ?_;rintro e2 w2 ⟨hb2,⟨n,ac,u,aa,acc_,af,m,fi,fa,li,⟨k2,t2,ka2,kc2,ks2,da2,dc2,ds2,l2⟩⟩,ec,el,rfl,hx1,hx2,hx3⟩;rw [Bc.val_eq];have hbz:=hb2.size;have HB2:=Ab hb2;have HX1:=Ab hx1;have HX2:=Ab hx2;have HX3:=Ab hx3;clear hb2 hx1 hx2 hx3)
 obtain ⟨K,hK⟩:∃ K,w2.heap.size=K:=⟨_,rfl⟩
 obtain ⟨W3,hW3,hb3,p0,p1,hs3⟩:=A0 w2 (.cells #[.string ⟨n.toArray⟩,.string ⟨ac.toArray⟩,.string ⟨u.toArray⟩,.slice aa af.length acc_,.int .i64 m,.int .i64 fi,.int .i64 fa,.int .i64 li,.int .u8 k2,.string ⟨t2.toArray⟩,.slice ka2 ks2.length kc2,.slice da2 ds2.length dc2,.int .i64 l2] 86) (.cells #[.int .i64 ec,.int .i64 el] 29) K hK
 rw [hW3]
 rw [hK]
 rw [hK] at hbz
 have hx2:=Aa HX2
 rw [hs0] at hx2
 have hw0:Below H w W3:=(Aa HB0).trans (((Aa HB2).mono (by omega)).trans (hb3.mono (by omega)))
 have t3:=(hw0.block tb (by omega)).trans (Aa HI1)
 have n3:=(hb3.block (H+1) (by omega)).trans (((Aa HB2).block (H+1) (by omega)).trans (Aa HG1))
 have o3:Cx.Own W3 B (.slice a ss.length c) ss:=(Aa HI2).stay (fun g hg=>hw0.block g (Aa HOB g hg).2)
 have x3:(⟨n,ac,u,aa,acc_,af,m,fi,fa,li,.mk k2 t2 ka2 kc2 ks2 da2 dc2 ds2 l2⟩:Bc).In W3:=(Aa HX1).below (by rw [hK];exact hb3)
 have hxn:∀ g,(⟨n,ac,u,aa,acc_,af,m,fi,fa,li,.mk k2 t2 ka2 kc2 ks2 da2 dc2 ds2 l2⟩:Bc).blk g→B≤g:=fun g hg=>by have:=hx2 g hg;omega
 have hxs:∀ g,(⟨n,ac,u,aa,acc_,af,m,fi,fa,li,.mk k2 t2 ka2 kc2 ks2 da2 dc2 ds2 l2⟩:Bc).blk g→(Value.slice a ss.length c).ownBlock≠some g:=fun g hg hq=>by have:=hx2 g hg;have:=(Aa HOB g (.inl hq)).2;omega
 have hF3:Cp A w W3:=.of_below (by rw [hH];exact hw0)
 have u3:=Aq t3
 have v3:=A2 p0
 have hz3:K+1+1≤W3.heap.size:=by omega
 clear hs3
 have HW0B:=Ab hw0
 have HT3:=Ab t3
 have HN3:=Ab n3
 have HO3:=Ab o3
 have HX3B:=Ab x3
 have HXN:=Ab hxn
 have HXS:=Ab hxs
 have HF3:=Ab hF3
 have HP1:=Ab p1
 have HHX2:=Ab hx2
 clear hW3 hb3 p0 p1 hx2 hw0 t3 n3 o3 x3 hxn hxs hF3 HB0 HB2 HX1 HX2 HI2 x0
 go_upto_region 3 with (at_builtin;refine El.wpList_app Sn (by decide) rfl (.tmp 11) (.tmp 13) rfl rfl (Aa HO3) (x:=(⟨n,ac,u,aa,acc_,af,m,fi,fa,li,.mk k2 t2 ka2 kc2 ks2 da2 dc2 ds2 l2⟩:Bc)) rfl (Aa HX3B) (Aa HXN) (Aa HXS) rfl hlen2 (by omega) ?_;intro a9 c9 w9 hS9 hg9 hat9;have u9:=Aq ((hg9.block tb (by omega) (fun q=>by have:=(Aa HOB _ (.inl q.symm)).1;omega)).trans (Aa HT3));have HS9:=Ab hS9;have HG9:=Ab hg9;have HAT9:=Ab hat9;clear hS9 hg9 hat9)
 obtain ⟨e5,f5,g5⟩:=S6 (x:=(⟨n,ac,u,aa,acc_,af,m,fi,fa,li,.mk k2 t2 ka2 kc2 ks2 da2 dc2 ds2 l2⟩:Bc)) (res:=res.map fun a=>acc ++ [a]) (e:=ec) (l':=el) hH (by omega) (Aa HF3) i4 i5 htl i6 (Aa HI0) (Aa HI3) (Aa HOB) (Aa HT3) (Aa HN3) (Aa HG9) (Aa HS9) (fun g hg=>by have:=Aa HHX2 g hg;omega) (Aa HAT9) (by
  rcases Aa HX3 with ⟨h1,h2,h3⟩ | ⟨h1,h2⟩
  ·rw [h1]
   exact .inl ⟨rfl,h2,h3⟩
  ·rw [h1]
   exact .inr ⟨rfl,h2⟩)
 have k5:=(f5 (K+1) (by omega) (by omega)).trans (Aa HP1)
 obtain ⟨W5,hW5⟩:∃ W5,w9.setCell ⟨tb,0,none⟩ (.slice a9 (ss.length+1) c9)=W5:=⟨_,rfl⟩
 rw [hW5] at e5 k5 g5 ⊢
 have y5:=Af e5
 have z5:=Af k5
 have HE5:=Ab e5
 have HK5:=Ab k5
 have HG5:=Ab g5
 clear e5 k5 g5 f5 hW5 u9 u3 v3
 go_wp2
 have hq:=Aa HG5 _ rfl
 exact bodyPost_ret (Av rfl _ _ _ (H+1) _ rfl hq.2) rfl hq.1
end Go.Proofs.YtnjokdbblmlhhaaGreatDoor
namespace Go.Proofs.YtnjokdbblmlhhaaGreatDoor
set_option linter.unusedVariables false
set_option linter.unusedSimpArgs false
open Go.RowKit
def Iz (w:World) (tb B:Nat) (res:Except P22.F (List P22.Step)) (e l':Int) (w':World):Prop:=
 w.grownBy w' (some tb)∧∃ a c ss,w'.heap[tb]?=some (.cells #[.slice a ss.length c] 48)∧Cx.Own w' B (.slice a ss.length c) ss∧((res=.ok (ss.map Bc.bare)∧e=0∧l'=0)∨(res=.error (e,l')∧e≠0))
theorem G4 (g:Nat):¬ Cx.ob (.slice none 0 0) [] g:=fun hg=>by
 rcases hg with hg | ⟨x,hm,_⟩
 ·cases hg
 ·simp at hm
theorem Rj (d:P20.T) (s s':List P22.Step) (h:Q7 d s=.ok s'):s'.length≤s.length+1:=by
 unfold Q7 at h
 cases hq:P22.stepE d with
 | error x=>rw [hq] at h;cases h
 | ok x=>rw [hq] at h;cases h;simp
theorem Tj (tb B:Nat) (w:World):R0 (Iq tb B) (fun g=>False) List.length 1024 53 #[.pointer (some ⟨tb,0,none⟩)] Q7 w:=by
 refine ⟨T7,fun W' hs hC nd s A hin hok hA hCA hi hN=>?_⟩
 obtain ⟨k,t,ka,kc,ks,da,dc,ds,l⟩:=nd
 rw [Nd.val_eq]
 exact Ro tb B k t ka kc ks da dc ds l s A W' hin hok hi (by omega)
theorem Iz.of {tb:Nat} {w W1 w':World} {res:Except P22.F (List P22.Step)} {e:Ending} (hg1:w.grownBy W1 (some tb)) (h:D7 (Iq tb w.heap.size) (fun g=>g≠tb) W1 res e w') (htb:tb<w.heap.size):∃ c l',e=.returned (fV c l')∧Iz w tb W1.heap.size res c l' w':=by
 obtain ⟨hf,hm⟩:=h
 have hg:w.grownBy w' (some tb):=⟨hf.os.trans hg1.os,hf.tape.trans hg1.tape,hf.output.trans hg1.output,Nat.le_trans hg1.size hf.size,fun i hi hne=>(hf.same i (Nat.lt_of_lt_of_le hi hg1.size) (fun e=>hne (by rw [e]))).trans (hg1.block i hi hne)⟩
 have hr:∀ xs,Iq tb w.heap.size xs (fun g=>g≠tb∧g<W1.heap.size) w'→∃ a c ss,w'.heap[tb]?=some (.cells #[.slice a ss.length c] 48)∧Cx.Own w' W1.heap.size (.slice a ss.length c) ss∧ss.map Bc.bare=xs:=by
  rintro xs ⟨⟨ss,a,c,h0,h1,h2,h3⟩,_⟩
  refine ⟨a,c,ss,h1,h2.raise (fun g hgq=>?_),h0⟩
  have hB:=(h2.ob_le hgq).1
  exact Nat.le_of_not_lt (fun hlt=>h3 g hgq ⟨by omega,hlt⟩)
 cases res with
 | ok xs=>
  obtain ⟨he,hi⟩:=hm
  obtain ⟨a,c,ss,h1,h2,rfl⟩:=hr _ hi
  exact ⟨0,0,he,hg,a,c,ss,h1,h2,.inl ⟨rfl,rfl,rfl⟩⟩
 | error f=>
  obtain ⟨he,hne,xs,hi⟩:=hm
  obtain ⟨a,c,ss,h1,h2,_⟩:=hr _ hi
  exact ⟨f.1,f.2,he,hg,a,c,ss,h1,h2,.inr ⟨rfl,hne⟩⟩
theorem Iz.two {tb B:Nat} {w w':World} {res:Except P22.F (List P22.Step)} {e l':Int} (h:Iz w tb B res e l' w') {g:Nat} (hg:w.heap.size≤g) (hgB:g<B) (ht:tb<w.heap.size) (v0 v1:Value):Iz w tb B res e l' ((w'.setCell ⟨g,0,none⟩ v0).setCell ⟨g,1,none⟩ v1):=by
 obtain ⟨hg1,a,c,xs,h1,h2,h3⟩:=h
 exact ⟨B4 hg1 hg _ _,a,c,xs,(Ar (by omega) _ _).trans h1,h2.stay (fun i hi=>Ar (by have:=(h2.ob_le hi).1;omega) _ _),h3⟩
theorem Iz.base {tb B B':Nat} {w w':World} {res:Except P22.F (List P22.Step)} {e l':Int} (h:Iz w tb B res e l' w') (hB:B'≤B):Iz w tb B' res e l' w':=by
 obtain ⟨hg1,a,c,xs,h1,h2,h3⟩:=h
 exact ⟨hg1,a,c,xs,h1,h2.base hB,h3⟩
set_option maxRecDepth 100000 in
set_option maxHeartbeats 16000000 in
theorem R5 (tb p:Nat) (k:Nat) (t:List UInt8) (ka:Option Addr) (kc:Nat) (ks:List (List UInt8)) (da:Option Addr) (dc:Nat) (ds:List Nd) (l:Int) (v0:Value) (w:World) (hin:(Nd.mk k t ka kc ks da dc ds l).In w) (hok:E6 (Nd.mk k t ka kc ks da dc ds l).bare) (hbk:¬ (Nd.mk k t ka kc ks da dc ds l).blk tb)
  (hp:w.heap[p]?=some (.cells #[.func (.func 53) #[] #[.pointer (some ⟨tb,0,none⟩)]] 89)) (hb:w.heap[tb]?=some (.cells #[v0] 48)) :
  Calls Tryz.prog 55 #[.agg #[.int .u8 k,.string ⟨t.toArray⟩,.slice ka ks.length kc,.slice da ds.length dc,.int .i64 l],.pointer (some ⟨tb,0,none⟩),.pointer (some ⟨p,0,none⟩)] w fun e w'=>∃ c l',e=.returned (fV c l')∧Iz w tb w.heap.size (P22.rowE 1024 P22.stepE (Nd.mk k t ka kc ks da dc ds l).bare) c l' w':=by
 obtain ⟨H,hH⟩:∃ H,w.heap.size=H:=⟨_,rfl⟩
 obtain ⟨W0,hW0,hb0,g0,g1,hs0⟩:=A0 w (.cells #[.int .u8 k,.string ⟨t.toArray⟩,.slice ka ks.length kc,.slice da ds.length dc,.int .i64 l] 26) (.cells #[.int .i64 0,.int .i64 0] 29) H hH
 have x0:=Ad g0
 have y0:=Af g1
 have hpl:=(Array.getElem?_eq_some_iff.1 hp).1
 have htl:=(Array.getElem?_eq_some_iff.1 hb).1
 have hpt:p≠tb:=by rintro rfl;rw [hb] at hp;simp at hp
 rw [hH] at hpl htl
 have p0:=(hb0.block p (by omega)).trans hp
 have t0:=(hb0.block tb (by omega)).trans hb
 obtain ⟨W1,hW1⟩:∃ W1,W0.setCell ⟨tb,0,none⟩ (.slice none 0 0)=W1:=⟨_,rfl⟩
 have hst1:∀ g,g≠tb→W1.heap[g]?=W0.heap[g]?:=fun g hg=>by rw [← hW1];exact Below.heap_setCell _ _ _ _ hg
 have hs1:W1.heap.size=H+1+1:=by rw [← hW1];simp;omega
 have hg1:w.grownBy W1 (some tb):=by rw [← hW1];exact Gc ⟨hb0.os,hb0.tape,hb0.output,by omega,fun i hi _=>hb0.block i (by omega)⟩ _
 have t1:W1.heap[tb]?=some (.cells #[.slice none 0 0] 48):=by rw [← hW1];exact Gb t0 _
 have p1:=(hst1 p hpt).trans p0
 have n0:=(hst1 H (by omega)).trans g0
 have n1:=(hst1 (H+1) (by omega)).trans g1
 have hin1:(Nd.mk k t ka kc ks da dc ds l).In W1:=hin.keep (fun g hg=>by
  have hlt:=hin.lt hg
  exact (hst1 g (fun q=>hbk (q ▸ hg))).trans (hb0.block g (by omega)))
 have hi1:∀ W',Below (H+1+1) W1 W'→Iq tb w.heap.size [] (fun g=>g≠tb) W':=fun W' h=>by
  have:=h.size
  exact ⟨⟨[],none,0,rfl,(h.block tb (by omega)).trans t1,El.OwnC.nil _ _ _,fun g hg=>(G4 g hg).elim⟩,fun h=>h rfl,by omega,by omega⟩
 have hcall:∀ c W',Below (H+1+1) W1 W'→H+1<c→W'.heap[c]?=some (.cells #[.int .i64 1024] 3)→W'.heap[c+1]?=some (.cells #[.func (.func 53) #[] #[.pointer (some ⟨tb,0,none⟩)]] 89)→Calls Tryz.prog 90 #[.agg #[.int .u8 k,.string ⟨t.toArray⟩,.slice ka ks.length kc,.slice da ds.length dc,.int .i64 l],.pointer (some ⟨c,0,none⟩),.pointer (some ⟨c+1,0,none⟩)] W' (D7 (Iq tb w.heap.size) (fun g=>g≠tb) W' (P22.rowE 1024 P22.stepE (Nd.mk k t ka kc ks da dc ds l).bare)):=fun c W' h hc q1 q2=>by
  have hz:=h.size
  have hp1:=(h.block p (by omega)).trans p1
  rw [P22.rowE_S]
  refine Mf (Iq tb w.heap.size) (Vi _ _) Q7 (fun g=>False) List.length 1024 Rj 1024 53 #[.pointer (some ⟨tb,0,none⟩)] c (c+1) k t ka kc ks da dc ds l [] (fun g=>g≠tb) W' ?_ hok (fun g hg q=>hbk (q ▸ hg)) q1 q2 (by omega) (by omega) ?_ (Tj tb _ W') (hi1 W' h) (fun h=>by simp;omega)
  ·exact hin1.keep (fun g hg=>h.block g (by have:=hin1.lt hg;omega))
  ·rintro g hf
   exact hf.elim
 have u0:=Aq p0
 have u1:=Aq t0
 have x1:=Ad n0
 have HP1:=Ab p1
 have HW0:=Ab hW0
 have HW1:=Ab hW1
 have HN0:=Ab n0
 have HN1:=Ab n1
 have HCALL:=Ab hcall
 have HG1:=Ab hg1
 have hmx:=Dl
 clear hW0 hb0 g0 g1 hW1 x0 y0 hp hb p0 t0 t1 p1 n0 n1 hin1 hi1 hcall hg1 hst1 hin
 go_enter Tryz.func55,Tryz.ntmps55
 go_upto_region 1 with fail
 try rw [hH]
 rw [Aa HW0]
 go_upto_region 2 with fail
 rw [Aa HW1]
 refine Cw hmx (fun L a w'=>∃ v6 v7 v8 v9:Value,a=⟨#[.agg #[.int .u8 k,.string ⟨t.toArray⟩,.slice ka ks.length kc,.slice da ds.length dc,.int .i64 l],.pointer (some ⟨tb,0,none⟩),.pointer (some ⟨p,0,none⟩),.pointer (some ⟨H,0,none⟩),.pointer (some ⟨H+1,0,none⟩),v6,v7,v8,v9],[]⟩∧L.size=5 ∧
  (L.getD 1 false=true→L.getD 0 false=true)∧(L.getD 3 false=true→L.getD 0 false=true∧L.getD 1 false=true∧L.getD 2 false=true)∧(L.getD 4 false=true→L.getD 3 false=true) ∧
  (L.getD 0 false=true→v6=.func (.func 53) #[] #[.pointer (some ⟨tb,0,none⟩)])∧(L.getD 2 false=true→v8=.agg #[.int .u8 k,.string ⟨t.toArray⟩,.slice ka ks.length kc,.slice da ds.length dc,.int .i64 l]) ∧
  (L.getD 3 false=false→Below (H+1+1) W1 w'∧(L.getD 1 false=true→∃ c,v7=.func (.func 90) #[] #[.pointer (some ⟨c,0,none⟩),.pointer (some ⟨c+1,0,none⟩)]∧H+1<c∧w'.heap[c]?=some (.cells #[.int .i64 1024] 3)∧w'.heap[c+1]?=some (.cells #[.func (.func 53) #[] #[.pointer (some ⟨tb,0,none⟩)]] 89))) ∧
  (L.getD 3 false=true→∃ c l',v9=fV c l'∧Iz w tb (H+1+1) (P22.rowE 1024 P22.stepE (Nd.mk k t ka kc ks da dc ds l).bare) c l' w'∧(L.getD 4 false=false→w'.heap[H+1]?=some (.cells #[.int .i64 0,.int .i64 0] 29))∧(L.getD 4 false=true→w'.heap[H+1]?=some (.cells #[.int .i64 c,.int .i64 l'] 29)))) (by kernel_rfl) ?_ ?_ ?_
 ·refine ⟨undef,undef,undef,undef,rfl,by kernel_rfl,?_,?_,?_,?_,?_,fun _=>⟨(Below.refl (H+1+1) W1).drew,?_⟩,?_⟩
  all_goals (intro h;exact absurd h (by decide))
 ·rintro L a' w' i o ⟨v6,v7,v8,v9,rfl,hL5,j1,j3,j4,f0,f2,fa,fb⟩ ho hi hdep
  have hi2:=(A4 hi).2
  match i,ho with
  | 0,ho=>
   cases ho
   refine Ak rfl rfl ?_
   have n3:L.getD 3 false=false:=by cases hq:L.getD 3 false with | false=>rfl | true=>(have:=(j3 hq).1;rw [hi2] at this;cases this)
   obtain ⟨hB,f1⟩:=fa n3
   refine Oper.wp_mono (K:=fun a2 w2=>a2=⟨#[.agg #[.int .u8 k,.string ⟨t.toArray⟩,.slice ka ks.length kc,.slice da ds.length dc,.int .i64 l],.pointer (some ⟨tb,0,none⟩),.pointer (some ⟨p,0,none⟩),.pointer (some ⟨H,0,none⟩),.pointer (some ⟨H+1,0,none⟩),(.func (.func 53) #[] #[.pointer (some ⟨tb,0,none⟩)]),v7,v8,v9],[]⟩∧w2=w') (fun a2 w2 he=>?_) (by simp [Oper.wp,go_sem,Aq ((hB.block p (by omega)).trans (Aa HP1))])
   obtain ⟨rfl,rfl⟩:=he
   refine ⟨_,v7,v8,v9,rfl,by simp [hL5],fun _=>Bm hi,?_,?_,fun _=>rfl,fun h=>f2 (Ac (by omega) h),fun _=>⟨hB,fun h=>f1 (Ac (by omega) h)⟩,?_⟩
   ·intro h;rw [getD_set_ne false (by omega),n3] at h;cases h
   ·intro h;have:=j4 (Ac (by omega) h);rw [n3] at this;cases this
   ·intro h;rw [getD_set_ne false (by omega),n3] at h;cases h
  | 1,ho=>
   cases ho
   refine Ak rfl rfl ?_
   have n3:L.getD 3 false=false:=by cases hq:L.getD 3 false with | false=>rfl | true=>(have:=(j3 hq).2.1;rw [hi2] at this;cases this)
   obtain ⟨hB,f1⟩:=fa n3
   obtain rfl:=f0 (hdep ⟨0,.data⟩ (by simp) rfl)
   have heg:=enters_of Tryz.func56 (by kernel_rfl) rfl
   refine Bt (f:=56) (args:=#[.int .i64 1024,.func (.func 53) #[] #[.pointer (some ⟨tb,0,none⟩)]]) (by simp [execOp,go_sem,heg]) (Kb 1024 53 #[.pointer (some ⟨tb,0,none⟩)] w') ?_
   rintro e2 w2 ⟨c2,rfl,hc2,q1,q2,hb2⟩
   have hz:=hB.size
   refine ⟨_,rfl,_,_,v8,v9,rfl,by simp [hL5],fun _=>by rw [getD_set_ne false (by omega)];exact hdep ⟨0,.data⟩ (by simp) rfl,?_,?_,fun _=>rfl,fun h=>f2 (Ac (by omega) h),fun _=>⟨hB.trans (hb2.mono (by omega)),fun _=>⟨c2,rfl,by omega,q1,q2⟩⟩,?_⟩
   ·intro h;rw [getD_set_ne false (by omega),n3] at h;cases h
   ·intro h;have:=j4 (Ac (by omega) h);rw [n3] at this;cases this
   ·intro h;rw [getD_set_ne false (by omega),n3] at h;cases h
  | 2,ho=>
   cases ho
   refine Ak rfl rfl ?_
   have n3:L.getD 3 false=false:=by cases hq:L.getD 3 false with | false=>rfl | true=>(have:=(j3 hq).2.2;rw [hi2] at this;cases this)
   obtain ⟨hB,f1⟩:=fa n3
   have y0:=Ad ((hB.block H (by omega)).trans (Aa HN0))
   refine Oper.wp_mono (K:=fun a2 w2=>a2=⟨#[.agg #[.int .u8 k,.string ⟨t.toArray⟩,.slice ka ks.length kc,.slice da ds.length dc,.int .i64 l],.pointer (some ⟨tb,0,none⟩),.pointer (some ⟨p,0,none⟩),.pointer (some ⟨H,0,none⟩),.pointer (some ⟨H+1,0,none⟩),v6,v7,(.agg #[.int .u8 k,.string ⟨t.toArray⟩,.slice ka ks.length kc,.slice da ds.length dc,.int .i64 l]),v9],[]⟩∧w2=w') (fun a2 w2 he=>?_) (by simp [Oper.wp,go_sem,y0])
   obtain ⟨rfl,rfl⟩:=he
   refine ⟨v6,v7,_,v9,rfl,by simp [hL5],fun h=>by rw [getD_set_ne false (by omega)];exact j1 (Ac (by omega) h),?_,?_,fun h=>f0 (Ac (by omega) h),fun _=>rfl,fun _=>⟨hB,fun h=>f1 (Ac (by omega) h)⟩,?_⟩
   ·intro h;rw [getD_set_ne false (by omega),n3] at h;cases h
   ·intro h;have:=j4 (Ac (by omega) h);rw [n3] at this;cases this
   ·intro h;rw [getD_set_ne false (by omega),n3] at h;cases h
  | 3,ho=>
   cases ho
   refine Ak rfl rfl ?_
   obtain ⟨hB,f1⟩:=fa hi2
   have d1:=hdep ⟨1,.data⟩ (by simp) rfl
   have d2:=hdep ⟨2,.data⟩ (by simp) rfl
   obtain ⟨c,rfl,hc,q1,q2⟩:=f1 d1
   obtain rfl:=f2 d2
   have heg:=enters_of Tryz.func90 (by kernel_rfl) rfl
   refine Bt (f:=90) (args:=#[.agg #[.int .u8 k,.string ⟨t.toArray⟩,.slice ka ks.length kc,.slice da ds.length dc,.int .i64 l],.pointer (some ⟨c,0,none⟩),.pointer (some ⟨c+1,0,none⟩)]) (by simp [execOp,go_sem,heg]) (Aa HCALL c w' hB hc q1 q2) ?_
   rintro e3 w3 hr3
   have hg1:=Aa HG1
   have hf3:=(Aa HN1)
   have hz:=hB.size
   have hgB:w.grownBy w' (some tb):=⟨hB.os.trans hg1.os,hB.tape.trans hg1.tape,hB.output.trans hg1.output,Nat.le_trans hg1.size (by omega),fun i hi hne=>(hB.block i (by omega)).trans (hg1.block i hi hne)⟩
   have hN3:=(hr3.1.same (H+1) (by omega) (by omega)).trans ((hB.block (H+1) (by omega)).trans (Aa HN1))
   obtain ⟨ec,el,rfl,hnm0⟩:=Iz.of hgB hr3 (by omega)
   have hnm:=hnm0.base (B':=H+1+1) (by omega)
   have n4:L.getD 4 false=true→False:=fun h=>by have:=j4 h;rw [hi2] at this;cases this
   refine ⟨_,rfl,v6,_,_,_,rfl,by simp [hL5],fun h=>by rw [getD_set_ne false (by omega)];exact j1 (Ac (by omega) h),fun _=>⟨?_,?_,?_⟩,fun _=>Bm hi,fun h=>f0 (Ac (by omega) h),fun _=>rfl,?_,fun _=>⟨ec,el,rfl,hnm,fun _=>hN3,fun h=>(n4 (Ac (by omega) h)).elim⟩⟩
   ·rw [getD_set_ne false (by omega)];exact j1 d1
   ·rw [getD_set_ne false (by omega)];exact d1
   ·rw [getD_set_ne false (by omega)];exact d2
   ·intro h;rw [Bm hi] at h;cases h
  | 4,ho=>
   cases ho
   refine Ak rfl rfl ?_
   have d3:=hdep ⟨3,.data⟩ (by simp) rfl
   obtain ⟨ec,el,rfl,hnm,hn,_⟩:=fb d3
   have hN:=hn hi2
   have z0:=Af hN
   refine Oper.wp_mono (K:=fun a2 w2=>a2=⟨#[.agg #[.int .u8 k,.string ⟨t.toArray⟩,.slice ka ks.length kc,.slice da ds.length dc,.int .i64 l],.pointer (some ⟨tb,0,none⟩),.pointer (some ⟨p,0,none⟩),.pointer (some ⟨H,0,none⟩),.pointer (some ⟨H+1,0,none⟩),v6,v7,v8,(.agg #[.int .i64 ec,.int .i64 el])],[]⟩∧w2=(w'.setCell ⟨H+1,0,none⟩ (.int .i64 ec)).setCell ⟨H+1,1,none⟩ (.int .i64 el)) (fun a2 w2 he=>?_) (by simp [Oper.wp,go_sem,z0,fV])
   obtain ⟨rfl,rfl⟩:=he
   refine ⟨v6,v7,v8,_,rfl,by simp [hL5],fun h=>by rw [getD_set_ne false (by omega)];exact j1 (Ac (by omega) h),fun h=>?_,fun _=>by rw [getD_set_ne false (by omega)];exact d3,fun h=>f0 (Ac (by omega) h),fun h=>f2 (Ac (by omega) h),fun h=>?_,fun _=>⟨ec,el,rfl,hnm.two (by omega) (by omega) (by omega) _ _,?_,fun _=>A3 hN _ _⟩⟩
   ·have:=j3 (Ac (by omega) h)
    rw [getD_set_ne false (by omega),getD_set_ne false (by omega),getD_set_ne false (by omega)]
    exact this
   ·rw [getD_set_ne false (by omega),d3] at h;cases h
   ·intro h;rw [Bm hi] at h;cases h
  | n+5,ho=>exact absurd ho (by simp)
 ·rintro L a' V ⟨v6,v7,v8,v9,rfl,hL5,j1,j3,j4,f0,f2,fa,fb⟩ hall
  have hall':∀ i,i<L.size→L.getD i false=true:=fun i hi=>by
   have:=hall i
   simp only [Array.getD,hi,dif_pos] at this ⊢
   exact this
  obtain ⟨ec,el,rfl,hnm,_,hn⟩:=fb (hall' 3 (by omega))
  have hN:=hn (hall' 4 (by omega))
  clear f0 f2 fa fb j1 j3 j4 hall hall'
  have HNM:=Ab hnm
  have HNN:=Ab hN
  clear hnm hN hn
  go_wp2
  exact bodyPost_ret (Av rfl _ _ _ (H+1) _ rfl (Ai (Aa HNN))) rfl ⟨ec,el,rfl,(Aa HNM).base (by omega)⟩
end Go.Proofs.YtnjokdbblmlhhaaGreatDoor
namespace Go.Proofs.YtnjokdbblmlhhaaGreatDoor
set_option linter.unusedVariables false
set_option linter.unusedSimpArgs false
open Go.RowKit
theorem Tl {σ:Type} (Inv:σ→(Nat→Prop)→World→Prop) (M:Nat→Prop) (B tb c:Nat) (set:List P22.Step→σ→σ) (W:World) (hB:B≤c) (hc:W.heap[c]?=some (.cells #[.func (.func 53) #[] #[.pointer (some ⟨tb,0,none⟩)]] 89)) (hM:M tb)
  (hget:∀ s A W',Inv s A W'→∃ v0,W'.heap[tb]?=some (.cells #[v0] 48))
  (hset:∀ s A W' W'' a sc ss,Inv s A W'→W'.grownBy W'' (some tb)→W''.heap[tb]?=some (.cells #[.slice a ss.length sc] 48)→Cx.Own W'' W'.heap.size (.slice a ss.length sc) ss→Inv (set (ss.map Bc.bare) s) (fun g=>A g∧g<W'.heap.size) W'') :
  G1 Inv M B (.func (.func 55) #[] #[.pointer (some ⟨tb,0,none⟩),.pointer (some ⟨c,0,none⟩)]) (fun d s=>(P22.rowE 1024 P22.stepE d).map fun n=>set n s) W:=by
 refine ⟨_,_,fun g=>g=c,rfl,enters_of Tryz.func55 (by kernel_rfl) rfl,?_,fun W' hz hC nd s A hin hok hbk hi=>?_⟩
 ·rintro g rfl
  exact ⟨hB,_,_,hc⟩
 obtain ⟨k,t,ka,kc,ks,da,dc,ds,l⟩:=nd
 rw [Nd.val_eq]
 obtain ⟨v0,hb⟩:=hget s A W' hi
 refine (R5 tb c k t ka kc ks da dc ds l v0 W' hin hok (fun h=>hbk _ h hM) ((hC c rfl).trans hc) hb).mono ?_
 rintro e w1 ⟨ec,el,rfl,hg,a,sc,ss,h1,h2,h3⟩
 refine ⟨Ey hg hM,?_⟩
 have hI:=hset s A W' w1 a sc ss hi hg h1 h2
 rcases h3 with ⟨hq,rfl,rfl⟩ | ⟨hq,hne⟩
 ·dsimp only
  rw [hq]
  exact ⟨rfl,hI⟩
 ·dsimp only
  rw [hq]
  exact ⟨rfl,hne,_,hI⟩
def K8 (b:Nat) (xs:List P22.Step) (A:Nat→Prop) (W:World):Prop:=∃ ss a c,ss.map Bc.bare=xs∧W.heap[b+1+1]?=some (.cells #[.slice a ss.length c] 48)∧Cx.Own W (b+1+1+1) (.slice a ss.length c) ss∧∀ g,Cx.ob (.slice a ss.length c) ss g→¬ A g
theorem K8.stay {b:Nat} {xs:List P22.Step} {A A':Nat→Prop} {W W':World} (h:K8 b xs A W) (hz:W.heap.size≤W'.heap.size) (hb:W'.heap[b+1+1]?=W.heap[b+1+1]?) (hs:∀ g,b+1+1+1≤g→g<W.heap.size→¬ A g→W'.heap[g]?=W.heap[g]?) (hA:∀ g,A' g→A g∨W.heap.size≤g):K8 b xs A' W':=by
 obtain ⟨ss,a,c,h0,h1,h2,h3⟩:=h
 refine ⟨ss,a,c,h0,hb.trans h1,h2.stay (fun g hg=>hs g (h2.ob_le hg).1 (h2.ob_le hg).2 (h3 g hg)),fun g hg hq=>?_⟩
 rcases hA g hq with h | h
 ·exact h3 g hg h
 ·have:=(h2.ob_le hg).2
  omega
structure To (b:Nat) (s:P22.Def) (A:Nat→Prop) (W:World):Prop where
 b0:W.heap[b]?=some (.cells (Fv s.name) 9)
 b1:W.heap[b+1]?=some (.cells (Fv s.text) 9)
 b2:K8 b s.steps A W
 n:∀ g,b≤g→g<b+1+1+1→¬ A g
 lt:b+1+1+1≤W.heap.size
def Ps (b:Nat) (g:Nat):Prop:=b≤g∧g<b+1+1+1
theorem Pk (b:Nat):Gf (To b) where
 stays:=by
  rintro s A W W' h hz hs
  have hl:=h.lt
  exact ⟨(hs _ (by omega) (h.n _ (by omega) (by omega))).trans h.b0,(hs _ (by omega) (h.n _ (by omega) (by omega))).trans h.b1,h.b2.stay hz (hs _ (by omega) (h.n _ (by omega) (by omega))) (fun g _ h2 h3=>hs g h2 h3) (fun g hA=>hA),fun g h1 h2 h3=>h3.elim (h.n g h1 h2) (fun q=>by omega),Nat.le_trans hl hz⟩
 mono:=fun s A A' W h hA=>⟨h.b0,h.b1,h.b2.stay (Nat.le_refl _) rfl (fun _ _ _ _=>rfl) (fun g hg=>.inl (hA g hg)),fun g h1 h2 h3=>h.n g h1 h2 (hA g h3),h.lt⟩
theorem Nf (b:Nat):∀ g,Ps b g→g<b+1+1+1:=fun g h=>h.2
theorem Ux {b c:Nat} {W:World} (hB:b+1+1+1≤c) (hc:W.heap[c]?=some (.cells #[.pointer (some ⟨b,0,none⟩)] 94)) (hc1:W.heap[c+1]?=some (.cells #[.int .i64 64] 3)):G1 (To b) (Ps b) (b+1+1+1) (.func (.func 93) #[] #[.pointer (some ⟨c,0,none⟩),.pointer (some ⟨c+1,0,none⟩)]) (fun (d:P20.T) (s:P22.Def)=>(P22.textE 64 d).map fun x=>{ s with name:=x }) W:=by
 refine F5 (σ:=P22.Def) _ _ _ b c 64 (fun (x:List UInt8) (s:P22.Def)=>{ s with name:=x }) W hB hc hc1 (by unfold Ps;omega) (fun s A W' h=>?_) ?_
 ·exact ⟨_,h.b0⟩
 ·intro s A W' W'' x h hg hn
  have hl:=h.lt
  exact ⟨hn,(hg.block _ (by omega) (by simp;try omega)).trans h.b1,h.b2.stay hg.size (hg.block _ (by omega) (by simp;try omega)) (fun g h1 h2 _=>hg.block g h2 (by simp;omega)) (fun g hA=>.inl hA.1),fun g h1 h2 h3=>h.n g h1 h2 h3.1,Nat.le_trans hl hg.size⟩
theorem Uj {b c:Nat} {W:World} (hB:b+1+1+1≤c) (hc:W.heap[c]?=some (.cells #[.pointer (some ⟨b+1,0,none⟩)] 94)) (hc1:W.heap[c+1]?=some (.cells #[.int .i64 4096] 3)):G1 (To b) (Ps b) (b+1+1+1) (.func (.func 93) #[] #[.pointer (some ⟨c,0,none⟩),.pointer (some ⟨c+1,0,none⟩)]) (fun (d:P20.T) (s:P22.Def)=>(P22.textE 4096 d).map fun x=>{ s with text:=x }) W:=by
 refine F5 (σ:=P22.Def) _ _ _ (b+1) c 4096 (fun (x:List UInt8) (s:P22.Def)=>{ s with text:=x }) W hB hc hc1 (by unfold Ps;omega) (fun s A W' h=>?_) ?_
 ·exact ⟨_,h.b1⟩
 ·intro s A W' W'' x h hg hn
  have hl:=h.lt
  exact ⟨(hg.block _ (by omega) (by simp;try omega)).trans h.b0,hn,h.b2.stay hg.size (hg.block _ (by omega) (by simp;try omega)) (fun g h1 h2 _=>hg.block g h2 (by simp;omega)) (fun g hA=>.inl hA.1),fun g h1 h2 h3=>h.n g h1 h2 h3.1,Nat.le_trans hl hg.size⟩
theorem Uk {b c:Nat} {W:World} (hB:b+1+1+1≤c) (hc:W.heap[c]?=some (.cells #[.func (.func 53) #[] #[.pointer (some ⟨b+1+1,0,none⟩)]] 89)):G1 (To b) (Ps b) (b+1+1+1) (.func (.func 55) #[] #[.pointer (some ⟨b+1+1,0,none⟩),.pointer (some ⟨c,0,none⟩)]) (fun (d:P20.T) (s:P22.Def)=>(P22.rowE 1024 P22.stepE d).map fun x=>{ s with steps:=x }) W:=by
 refine Tl (σ:=P22.Def) _ _ _ (b+1+1) c (fun (x:List P22.Step) (s:P22.Def)=>{ s with steps:=x }) W hB hc (by unfold Ps;omega) (fun s A W' h=>?_) ?_
 ·obtain ⟨ss,a,sc,_,h1,_⟩:=h.b2
  exact ⟨_,h1⟩
 ·intro s A W' W'' a sc ss h hg hn hst
  have hl:=h.lt
  exact ⟨(hg.block _ (by omega) (by simp;try omega)).trans h.b0,(hg.block _ (by omega) (by simp;try omega)).trans h.b1,⟨ss,a,sc,rfl,hn,hst.base (by omega),fun g h1 h2=>by have:=(hst.ob_le h1).1;omega⟩,fun g h1 h2 h3=>h.n g h1 h2 h3.1,Nat.le_trans hl hg.size⟩
def Ee:List (C8 P22.Def):=[([115,97,103,97],2,fun (d:P20.T) (s:P22.Def)=>(P22.textE 64 d).map fun x=>{ s with name:=x }),([116,101,120,116],4,fun (d:P20.T) (s:P22.Def)=>(P22.textE 4096 d).map fun x=>{ s with text:=x }),([115,116,101,112,115],6,fun (d:P20.T) (s:P22.Def)=>(P22.rowE 1024 P22.stepE d).map fun x=>{ s with steps:=x })]
theorem Uh:Du Ee=P22.defRd:=by
 funext k
 rfl
theorem Fb:Qz Ee:=by
 intro i q hq
 match i,hq with
 | 0,hq=>cases hq;rfl
 | 1,hq=>cases hq;rfl
 | 2,hq=>cases hq;rfl
 | n+3,hq=>simp [Ee] at hq
theorem Le:Hh Ee:=by
 unfold Hh Ee
 simp
end Go.Proofs.YtnjokdbblmlhhaaGreatDoor
namespace Go.Proofs.YtnjokdbblmlhhaaGreatDoor
set_option linter.unusedVariables false
set_option linter.unusedSimpArgs false
open Go.RowKit
theorem Ej {g:Nat} {v:Value} {t:TypeId} {w w':World} (hb:Below w.heap.size w w') (h:w.heap[g]?=some (.cells #[v] t)):w'.heap[g]?=some (.cells #[v] t):=(hb.block g (Array.getElem?_eq_some_iff.1 h).1).trans h
theorem Ku {bm g:Nat} {v:Value} {t:TypeId} {w w':World} (hm:∃ es cl,w.heap[bm]?=some (.map es cl)) (hs:∀ g,g≠bm→w'.heap[g]?=w.heap[g]?) (h:w.heap[g]?=some (.cells #[v] t)):w'.heap[g]?=some (.cells #[v] t):=by
 refine (hs g ?_).trans h
 rintro rfl
 obtain ⟨es,cl,hm⟩:=hm
 rw [hm] at h
 cases h
theorem Ok {B g1 g2:Nat} {w W:World} {a0 a1 a2 b0 b1:Value} (hb:Below B w W) (h1:W.heap[g1]?=some (.cells #[a0,a1,a2] 50)) (h2:W.heap[g2]?=some (.cells #[b0,b1] 29)) (hB1:B≤g1) (hB2:B≤g2) (hne:g1≠g2) (v0 v1 v2 e l:Value) :
  Below B w (((((W.setCell ⟨g1,0,none⟩ v0).setCell ⟨g1,1,none⟩ v1).setCell ⟨g1,2,none⟩ v2).setCell ⟨g2,0,none⟩ e).setCell ⟨g2,1,none⟩ l)∧(((((W.setCell ⟨g1,0,none⟩ v0).setCell ⟨g1,1,none⟩ v1).setCell ⟨g1,2,none⟩ v2).setCell ⟨g2,0,none⟩ e).setCell ⟨g2,1,none⟩ l).heap[g1]?=some (.cells #[v0,v1,v2] 50)∧(((((W.setCell ⟨g1,0,none⟩ v0).setCell ⟨g1,1,none⟩ v1).setCell ⟨g1,2,none⟩ v2).setCell ⟨g2,0,none⟩ e).setCell ⟨g2,1,none⟩ l).heap[g2]?=some (.cells #[e,l] 29)∧∀ g,g≠g1→g≠g2→(((((W.setCell ⟨g1,0,none⟩ v0).setCell ⟨g1,1,none⟩ v1).setCell ⟨g1,2,none⟩ v2).setCell ⟨g2,0,none⟩ e).setCell ⟨g2,1,none⟩ l).heap[g]?=W.heap[g]?:=by
 have q1:Below B w (((W.setCell ⟨g1,0,none⟩ v0).setCell ⟨g1,1,none⟩ v1).setCell ⟨g1,2,none⟩ v2):=((hb.setCell (p:=⟨g1,0,none⟩) hB1 _).setCell (p:=⟨g1,1,none⟩) hB1 _).setCell (p:=⟨g1,2,none⟩) hB1 _
 have q2:(((W.setCell ⟨g1,0,none⟩ v0).setCell ⟨g1,1,none⟩ v1).setCell ⟨g1,2,none⟩ v2).heap[g1]?=some (.cells #[v0,v1,v2] 50):=by simp [World.setCell,Array.getElem?_modify,h1]
 have q4:∀ g,g≠g1→(((W.setCell ⟨g1,0,none⟩ v0).setCell ⟨g1,1,none⟩ v1).setCell ⟨g1,2,none⟩ v2).heap[g]?=W.heap[g]?:=fun g h=>by rw [Below.heap_setCell _ _ _ _ h,Below.heap_setCell _ _ _ _ h,Below.heap_setCell _ _ _ _ h]
 have q3:=(q4 g2 (Ne.symm hne)).trans h2
 refine ⟨Ax q1 hB2 e l,?_,?_,fun g h3 h4=>?_⟩
 ·exact (Ar hne e l).trans q2
 ·exact A3 q3 e l
 ·exact (Ar h4 e l).trans (q4 g h3)
theorem On (W:World):W.drew.heap=W.heap:=rfl
theorem Pu {B g1 g2:Nat} {w W:World} {a0 a1 a2 b0 b1:Value} (hb:Below B w W) (h1:W.heap[g1]?=some (.cells #[a0,a1,a2] 50)) (h2:W.heap[g2]?=some (.cells #[b0,b1] 29)) (hB1:B≤g1) (hB2:B≤g2) (hne:g1≠g2) (v0 v1 v2 e l:Value) :
  Below B w (((((W.setCell ⟨g1,0,none⟩ v0).setCell ⟨g1,1,none⟩ v1).setCell ⟨g1,2,none⟩ v2).setCell ⟨g2,0,none⟩ e).setCell ⟨g2,1,none⟩ l).drew∧(((((W.setCell ⟨g1,0,none⟩ v0).setCell ⟨g1,1,none⟩ v1).setCell ⟨g1,2,none⟩ v2).setCell ⟨g2,0,none⟩ e).setCell ⟨g2,1,none⟩ l).drew.heap[g1]?=some (.cells #[v0,v1,v2] 50)∧(((((W.setCell ⟨g1,0,none⟩ v0).setCell ⟨g1,1,none⟩ v1).setCell ⟨g1,2,none⟩ v2).setCell ⟨g2,0,none⟩ e).setCell ⟨g2,1,none⟩ l).drew.heap[g2]?=some (.cells #[e,l] 29):=by
 have q:=Ok hb h1 h2 hB1 hB2 hne v0 v1 v2 e l
 rw [On]
 exact ⟨q.1.drew,q.2.1,q.2.2.1⟩
theorem Co (a:Option Addr) (g:Nat):¬ Cx.blkL a [] g:=fun hg=>by
 rcases hg with ⟨h,_⟩ | ⟨x,h,_⟩<;>simp at h
def Vo (w:World) (res:Except P22.F P22.Def) (e:Ending) (w':World):Prop:=
 Below w.heap.size w w'∧∃ (d:Ch) (ec el:Int),e=.returned (.tuple #[d.val,fV ec el])∧d.In w'∧(∀ g,d.blk g→w.heap.size≤g)∧((res=.ok d.bare∧ec=0∧el=0)∨(res=.error (ec,el)∧ec≠0∧d=Ch.zero))
attribute [local go_sem] F4
set_option maxRecDepth 100000 in
set_option maxHeartbeats 32000000 in
theorem Jb (k:Nat) (t:List UInt8) (ka:Option Addr) (kc:Nat) (ks:List (List UInt8)) (da:Option Addr) (dc:Nat) (ds:List Nd) (l:Int) (w:World) (hin:(Nd.mk k t ka kc ks da dc ds l).In w) (hok:E6 (Nd.mk k t ka kc ks da dc ds l).bare) :
  Calls Tryz.prog 27 #[.agg #[.int .u8 k,.string ⟨t.toArray⟩,.slice ka ks.length kc,.slice da ds.length dc,.int .i64 l]] w (Vo w (P22.ofE (Nd.mk k t ka kc ks da dc ds l).bare)):=by
 obtain ⟨H,hH⟩:∃ H,w.heap.size=H:=⟨_,rfl⟩
 obtain ⟨W0,hW0⟩:∃ W0,((w.alloc (.cells #[.int .u8 k,.string ⟨t.toArray⟩,.slice ka ks.length kc,.slice da ds.length dc,.int .i64 l] 26)).alloc (.cells #[.string ⟨#[]⟩,.string ⟨#[]⟩,.slice none 0 0] 50)).alloc (.cells #[.int .i64 0,.int .i64 0] 29)=W0:=⟨_,rfl⟩
 obtain ⟨W1,hW1⟩:∃ W1,((W0.alloc (.cells #[.string ⟨#[]⟩] 9)).alloc (.cells #[.string ⟨#[]⟩] 9)).alloc (.cells #[.slice none 0 0] 48)=W1:=⟨_,rfl⟩
 obtain ⟨W2,hW2⟩:∃ W2,W1.alloc (.cells #[.func (.func 53) #[] #[.pointer (some ⟨H+1+1+1+1+1,0,none⟩)]] 89)=W2:=⟨_,rfl⟩
 obtain ⟨hb0,hs0,ha0⟩:=Cf [.cells #[.int .u8 k,.string ⟨t.toArray⟩,.slice ka ks.length kc,.slice da ds.length dc,.int .i64 l] 26,.cells #[.string ⟨#[]⟩,.string ⟨#[]⟩,.slice none 0 0] 50,.cells #[.int .i64 0,.int .i64 0] 29] w
 rw [show ([.cells #[.int .u8 k,.string ⟨t.toArray⟩,.slice ka ks.length kc,.slice da ds.length dc,.int .i64 l] 26,.cells #[.string ⟨#[]⟩,.string ⟨#[]⟩,.slice none 0 0] 50,.cells #[.int .i64 0,.int .i64 0] 29]:List Obj).foldl World.alloc w=W0 from hW0,hH] at hb0 hs0 ha0
 obtain ⟨hb1,hs1,ha1⟩:=Cf [.cells #[.string ⟨#[]⟩] 9,.cells #[.string ⟨#[]⟩] 9,.cells #[.slice none 0 0] 48] W0
 rw [show ([.cells #[.string ⟨#[]⟩] 9,.cells #[.string ⟨#[]⟩] 9,.cells #[.slice none 0 0] 48]:List Obj).foldl World.alloc W0=W1 from hW1] at hb1 hs1 ha1
 replace hs0:W0.heap.size=H+1+1+1:=hs0
 rw [hs0] at hb1 hs1 ha1
 replace hs1:W1.heap.size=H+1+1+1+1+1+1:=hs1
 have n0:W1.heap[H]?=some (.cells #[.int .u8 k,.string ⟨t.toArray⟩,.slice ka ks.length kc,.slice da ds.length dc,.int .i64 l] 26):=(hb1.block H (by omega)).trans (ha0 0 _ rfl)
 have n1:W1.heap[H+1]?=some (.cells #[.string ⟨#[]⟩,.string ⟨#[]⟩,.slice none 0 0] 50):=(hb1.block (H+1) (by omega)).trans (ha0 1 _ rfl)
 have n2:W1.heap[H+1+1]?=some (.cells #[.int .i64 0,.int .i64 0] 29):=(hb1.block (H+1+1) (by omega)).trans (ha0 2 _ rfl)
 have i0:W1.heap[H+1+1+1]?=some (.cells #[.string ⟨#[]⟩] 9):=ha1 0 _ rfl
 have i1:W1.heap[H+1+1+1+1]?=some (.cells #[.string ⟨#[]⟩] 9):=ha1 1 _ rfl
 have i2:W1.heap[H+1+1+1+1+1]?=some (.cells #[.slice none 0 0] 48):=ha1 2 _ rfl
 have hbW:Below H w W1:=hb0.trans (hb1.mono (by omega))
 have hb2W:Below (H+1+1+1+1+1+1) W1 W2:=by rw [← hW2];exact (Below.refl _ W1).alloc (by omega) _
 have hs2:W2.heap.size=H+1+1+1+1+1+1+1:=by rw [← hW2];simp;omega
 have i6:W2.heap[H+1+1+1+1+1+1]?=some (.cells #[.func (.func 53) #[] #[.pointer (some ⟨H+1+1+1+1+1,0,none⟩)]] 89):=by rw [← hW2,← hs1];exact World.alloc_heap_new _ _
 have hin1:(Nd.mk k t ka kc ks da dc ds l).In W1:=hin.below (by rw [hH];exact hbW)
 have hlt:=fun g hg=>Nd.In.lt hin (r:=g) hg
 rw [hH] at hlt
 have hcall:∀ bm c sg W',Below (H+1+1+1+1+1+1) W1 W'→H+1+1+1+1+1+1≤W'.heap.size→H+1+1+1+1+1+1≤c→H+1+1+1+1+1+1≤bm→bm<W'.heap.size→H+1+1+1+1+1+1≤sg→W'.heap[sg]?=some (.cells #[.string ⟨#[115,97,103,97]⟩,.string ⟨#[115,116,101,112,115]⟩] 9)→W'.heap[c]?=some (.cells #[.map (some bm)] 95)→W'.heap[c+1]?=some (.cells #[.slice (some ⟨sg,0,none⟩) 2 2] 23)→N6 (To (H+1+1+1)) (Ps (H+1+1+1)) bm (Du Ee) W'→Calls Tryz.prog 92 #[.agg #[.int .u8 k,.string ⟨t.toArray⟩,.slice ka ks.length kc,.slice da ds.length dc,.int .i64 l],.pointer (some ⟨c,0,none⟩),.pointer (some ⟨c+1,0,none⟩)] W' (Gm (To (H+1+1+1)) (Ps (H+1+1+1)) (fun g=>¬ (Ps (H+1+1+1)) g) W' (P22.ofE (Nd.mk k t ka kc ks da dc ds l).bare)):=fun bm c sg W' h hz hc hbm hbl hsg hsc q1 q2 hm=>by
  rw [Uh] at hm
  unfold P22.ofE
  have hs2:=Af hsc
  refine Hu (To (H+1+1+1)) (Pk _) (Ps (H+1+1+1)) P22.defRd [[115,97,103,97],[115,116,101,112,115]] c (c+1) bm (some ⟨sg,0,none⟩) 2 k t ka kc ks da dc ds l ⟨[],[],[]⟩ (fun g=>¬ (Ps (H+1+1+1)) g) W' ?_ hok (fun g hg hm=>?_) (fun g hg=>?_) q1 q2 ?_ (by simp) ?_ ?_ ?_ hbl (fun g _ h=>?_) hm ?_
  ·exact hin1.keep (fun g hg=>h.block g (by have:=hlt g hg;omega))
  ·have:=hlt g hg
   have:=hm.1
   omega
  ·have:=hg.2
   omega
  ·intro i x hx
   match i,hx with
   | 0,hx=>cases hx;exact ⟨sg,0,rfl,hs2.1.1⟩
   | 1,hx=>cases hx;exact ⟨sg,0,rfl,hs2.2.1⟩
  ·intro hm;have:=hm.2;omega
  ·intro hm;have:=hm.2;omega
  ·intro hm;have:=hm.2;omega
  ·intro hm
   obtain ⟨o,h⟩:=h
   have:g=sg:=by injection h with h;injection h with h;exact h.symm
   have:=hm.2
   omega
  ·exact ⟨(h.block _ (by omega)).trans i0,(h.block _ (by omega)).trans i1,⟨[],none,0,rfl,(h.block _ (by omega)).trans i2,El.OwnC.nil _ _ _,fun g hg=>(G4 g hg).elim⟩,fun g h1 h2 h3=>h3 ⟨h1,h2⟩,hz⟩
 have hmm:=@run_makeMap Tryz.prog
 have hmf:=Ca
 have HW0:=Ab hW0
 have HW1:=Ab hW1
 have HW2:=Ab hW2
 have HN0:=Ab n0
 have HN1:=Ab n1
 have HN2:=Ab n2
 have HBW:=Ab hbW
 have HB2W:=Ab hb2W
 have HI6:=Ab i6
 have HCALL:=Ab hcall
 have hmx:=Dl
 clear hW0 hb0 hb1 ha0 ha1 hW1 hW2 n0 n1 n2 i0 i1 i2 i6 hin1 hcall hbW hb2W hin
 go_enter Tryz.func27,Tryz.ntmps27
 go_upto_region 1 with fail
 try rw [hH]
 try rw [Aa HW0]
 go_upto_region 3 with fail
 try rw [hs0]
 try rw [Aa HW1]
 go_upto_region 5 with fail
 try rw [hs1]
 try rw [Aa HW2]
 refine Cw hmx (fun L a w1=>∃ (vF vM vV vS vK vN vE:Value) (vR:Nat→Value),a=⟨#[.agg #[.int .u8 k,.string ⟨t.toArray⟩,.slice ka ks.length kc,.slice da ds.length dc,.int .i64 l],.pointer (some ⟨H,0,none⟩),.pointer (some ⟨H+1,0,none⟩),.pointer (some ⟨H+1+1,0,none⟩),.pointer (some ⟨H+1+1+1,0,none⟩),.pointer (some ⟨H+1+1+1+1,0,none⟩),.pointer (some ⟨H+1+1+1+1+1,0,none⟩),.pointer (some ⟨H+1+1+1+1+1+1,0,none⟩),.func (.func 55) #[] #[.pointer (some ⟨H+1+1+1+1+1,0,none⟩),.pointer (some ⟨H+1+1+1+1+1+1,0,none⟩)],vF,.func (.func 53) #[] #[.pointer (some ⟨H+1+1+1+1+1,0,none⟩)],.func (.func 55) #[] #[.pointer (some ⟨H+1+1+1+1+1,0,none⟩),.pointer (some ⟨H+1+1+1+1+1+1,0,none⟩)],vM,(vR 0),(vR 1),(vR 2),vV,vS,vK,vN,vE,undef,undef,undef,undef,undef,undef,undef,undef,undef,undef],[]⟩∧Cl 3 1 L∧(L.getD 9 false=true→L.getD 8 false=true)∧(L.getD 11 false=false→G2 (To (H+1+1+1)) (Ps (H+1+1+1)) (H+1+1+1+1+1+1) Ee 1 W1 vS (.agg #[.int .u8 k,.string ⟨t.toArray⟩,.slice ka ks.length kc,.slice da ds.length dc,.int .i64 l]) L vM vV vK vN vR w1∧(L.getD 8 false=true→∃ g,vS=.slice (some ⟨g,0,none⟩) 2 2∧H+1+1+1+1+1+1≤g∧w1.heap[g]?=some (.cells #[.string ⟨#[115,97,103,97]⟩,.string ⟨#[115,116,101,112,115]⟩] 9))∧w1.heap[H+1+1+1+1+1+1]?=some (.cells #[.func (.func 53) #[] #[.pointer (some ⟨H+1+1+1+1+1,0,none⟩)]] 89))∧(L.getD 11 false=true→Eg (To (H+1+1+1)) (Ps (H+1+1+1)) (H+1+1+1+1+1+1) 3 1 W1 (P22.ofE (Nd.mk k t ka kc ks da dc ds l).bare) L vF vE w1)∧Mo 3 1 (H+1+1+1+1+1+1) L vF vE w1) (by kernel_rfl) ?_ ?_ ?_
 ·exact ⟨undef,undef,undef,undef,undef,undef,undef,fun _=>undef,rfl,Cl.start 3 1,fun h=>absurd h (by decide),fun _=>⟨⟨(Aa HB2W).drew,by show _≤W2.heap.size;omega,fun h=>absurd h (by decide),fun i q hq h=>by
   match i,hq with
   | 0,_=>exact absurd h (by decide)
   | 1,_=>exact absurd h (by decide)
   | 2,_=>exact absurd h (by decide)
   | n+3,hq=>simp [Ee] at hq,fun h=>absurd h (by decide),fun h=>absurd h (by decide),fun h=>absurd h (by decide)⟩,fun h=>absurd h (by decide),Aa HI6⟩,fun h=>absurd h (by decide),fun h=>absurd h (by decide)⟩
 ·rintro L a' w1 i o ⟨vF,vM,vV,vS,vK,vN,vE,vR,rfl,hC,h16,hpre,hpost,hA⟩ ho hi hdep
  match i,ho with
  | 0,ho=>
   cases ho
   refine Ak rfl rfl ?_
   have n10:L.getD 11 false=false:=hC.not (n:=3) (d:=1) hi (.inl rfl)
   obtain ⟨hp,hsl,hbx⟩:=hpre n10
   refine Oper.wp_mono (K:=fun a2 w2=>a2=⟨#[.agg #[.int .u8 k,.string ⟨t.toArray⟩,.slice ka ks.length kc,.slice da ds.length dc,.int .i64 l],.pointer (some ⟨H,0,none⟩),.pointer (some ⟨H+1,0,none⟩),.pointer (some ⟨H+1+1,0,none⟩),.pointer (some ⟨H+1+1+1,0,none⟩),.pointer (some ⟨H+1+1+1+1,0,none⟩),.pointer (some ⟨H+1+1+1+1+1,0,none⟩),.pointer (some ⟨H+1+1+1+1+1+1,0,none⟩),.func (.func 55) #[] #[.pointer (some ⟨H+1+1+1+1+1,0,none⟩),.pointer (some ⟨H+1+1+1+1+1+1,0,none⟩)],vF,.func (.func 53) #[] #[.pointer (some ⟨H+1+1+1+1+1,0,none⟩)],.func (.func 55) #[] #[.pointer (some ⟨H+1+1+1+1+1,0,none⟩),.pointer (some ⟨H+1+1+1+1+1+1,0,none⟩)],(.map (some w1.heap.size)),(vR 0),(vR 1),(vR 2),vV,vS,vK,vN,vE,undef,undef,undef,undef,undef,undef,undef,undef,undef,undef],[]⟩∧w2=w1.alloc (.map #[] 0)) (fun a2 w2 he=>?_) (by simp [Oper.wp,go_sem,hmm])
   obtain ⟨rfl,rfl⟩:=he
   exact ⟨vF,_,vV,vS,vK,vN,vE,vR,rfl,hC.set hi (fun i hi h=>by omega) (by omega) (by omega) (by omega) (by omega),(fun h=>by rw [Ae (by omega)] at h ⊢;exact h16 h),fun _=>⟨hp.make Fb hC hi,(fun h=>Ba (hsl (by rwa [Ae (by omega)] at h)) (Aw ((Below.refl _ w1).alloc (Nat.le_refl _) _))),(Ej ((Below.refl _ w1).alloc (Nat.le_refl _) _) hbx)⟩,fun h=>(Cs n10 (by decide) h).elim,hA.keep (Ae (by omega)) (Ae (by omega)) (fun _=>rfl) (Aw ((Below.refl _ w1).alloc (Nat.le_refl _) _))⟩
  | 1,ho=>
   cases ho
   refine Ak rfl rfl ?_
   have n10:L.getD 11 false=false:=hC.not (n:=3) (d:=1) hi (.inr (.inl ⟨0,by omega,.inl rfl⟩))
   obtain ⟨hp,hsl,hbx⟩:=hpre n10
   have heg:=enters_of Tryz.func58 (by kernel_rfl) rfl
   refine Bt (f:=58) (args:=#[.pointer (some ⟨H+1+1+1,0,none⟩),.int .i64 64]) (by simp [execOp,go_sem,heg]) (D2 (H+1+1+1) 64 w1) ?_
   rintro e2 w2 ⟨c2,rfl,hc2,q1,q2,hb2⟩
   have hz1:=hp.size
   exact ⟨_,rfl,vF,vM,vV,vS,vK,vN,vE,_,rfl,hC.set hi (fun i hi h=>by omega) (by omega) (by omega) (by omega) (by omega),(fun h=>by rw [Ae (by omega)] at h ⊢;exact h16 h),fun _=>⟨hp.call (i:=0) Fb rfl hi hb2 (Ux (b:=H+1+1+1) (by omega) q1 q2),(fun h=>Ba (hsl (by rwa [Ae (by omega)] at h)) (Aw hb2)),(Ej hb2 hbx)⟩,fun h=>(Cs n10 (by decide) h).elim,hA.keep (Ae (by omega)) (Ae (by omega)) (fun _=>rfl) (Aw hb2)⟩
  | 2,ho=>
   cases ho
   refine Ak rfl rfl ?_
   have n10:L.getD 11 false=false:=hC.not (n:=3) (d:=1) hi (.inr (.inl ⟨0,by omega,.inr rfl⟩))
   obtain ⟨hp,hsl,hbx⟩:=hpre n10
   have d0:=hdep ⟨0,.data⟩ (by simp) rfl
   have d1:=hdep ⟨1,.data⟩ (by simp) rfl
   obtain ⟨bm,w2,rfl,r1,hp2,r2,r3,r4⟩:=hp.put (i:=0) Fb Le hC rfl hi d0 d1
   dsimp only at r1
   refine Oper.wp_mono (K:=fun a2 w3=>a2=⟨#[.agg #[.int .u8 k,.string ⟨t.toArray⟩,.slice ka ks.length kc,.slice da ds.length dc,.int .i64 l],.pointer (some ⟨H,0,none⟩),.pointer (some ⟨H+1,0,none⟩),.pointer (some ⟨H+1+1,0,none⟩),.pointer (some ⟨H+1+1+1,0,none⟩),.pointer (some ⟨H+1+1+1+1,0,none⟩),.pointer (some ⟨H+1+1+1+1+1,0,none⟩),.pointer (some ⟨H+1+1+1+1+1+1,0,none⟩),.func (.func 55) #[] #[.pointer (some ⟨H+1+1+1+1+1,0,none⟩),.pointer (some ⟨H+1+1+1+1+1+1,0,none⟩)],vF,.func (.func 53) #[] #[.pointer (some ⟨H+1+1+1+1+1,0,none⟩)],.func (.func 55) #[] #[.pointer (some ⟨H+1+1+1+1+1,0,none⟩),.pointer (some ⟨H+1+1+1+1+1+1,0,none⟩)],(.map (some bm)),(vR 0),(vR 1),(vR 2),vV,vS,vK,vN,vE,undef,undef,undef,undef,undef,undef,undef,undef,undef,undef],[]⟩∧w3=w2) (fun a2 w3 he=>?_) (by simp [Oper.wp,go_sem,r1])
   obtain ⟨rfl,rfl⟩:=he
   exact ⟨vF,_,vV,vS,vK,vN,vE,vR,rfl,hC.set hi (fun i hi h=>by have e:i=0:=(by omega);subst e;exact ⟨d0,d1⟩) (by omega) (by omega) (by omega) (by omega),(fun h=>by rw [Ae (by omega)] at h ⊢;exact h16 h),fun _=>⟨hp2,(fun h=>Ba (hsl (by rwa [Ae (by omega)] at h)) (Bw r4 r2)),(Ku r4 r2 hbx)⟩,fun h=>(Cs n10 (by decide) h).elim,hA.keep (Ae (by omega)) (Ae (by omega)) (fun _=>rfl) (Bw r4 r2)⟩
  | 3,ho=>
   cases ho
   refine Ak rfl rfl ?_
   have n10:L.getD 11 false=false:=hC.not (n:=3) (d:=1) hi (.inr (.inl ⟨1,by omega,.inl rfl⟩))
   obtain ⟨hp,hsl,hbx⟩:=hpre n10
   have heg:=enters_of Tryz.func58 (by kernel_rfl) rfl
   refine Bt (f:=58) (args:=#[.pointer (some ⟨H+1+1+1+1,0,none⟩),.int .i64 4096]) (by simp [execOp,go_sem,heg]) (D2 (H+1+1+1+1) 4096 w1) ?_
   rintro e2 w2 ⟨c2,rfl,hc2,q1,q2,hb2⟩
   have hz1:=hp.size
   exact ⟨_,rfl,vF,vM,vV,vS,vK,vN,vE,_,rfl,hC.set hi (fun i hi h=>by omega) (by omega) (by omega) (by omega) (by omega),(fun h=>by rw [Ae (by omega)] at h ⊢;exact h16 h),fun _=>⟨hp.call (i:=1) Fb rfl hi hb2 (Uj (b:=H+1+1+1) (by omega) q1 q2),(fun h=>Ba (hsl (by rwa [Ae (by omega)] at h)) (Aw hb2)),(Ej hb2 hbx)⟩,fun h=>(Cs n10 (by decide) h).elim,hA.keep (Ae (by omega)) (Ae (by omega)) (fun _=>rfl) (Aw hb2)⟩
  | 4,ho=>
   cases ho
   refine Ak rfl rfl ?_
   have n10:L.getD 11 false=false:=hC.not (n:=3) (d:=1) hi (.inr (.inl ⟨1,by omega,.inr rfl⟩))
   obtain ⟨hp,hsl,hbx⟩:=hpre n10
   have d0:=hdep ⟨0,.data⟩ (by simp) rfl
   have d1:=hdep ⟨3,.data⟩ (by simp) rfl
   obtain ⟨bm,w2,rfl,r1,hp2,r2,r3,r4⟩:=hp.put (i:=1) Fb Le hC rfl hi d0 d1
   dsimp only at r1
   refine Oper.wp_mono (K:=fun a2 w3=>a2=⟨#[.agg #[.int .u8 k,.string ⟨t.toArray⟩,.slice ka ks.length kc,.slice da ds.length dc,.int .i64 l],.pointer (some ⟨H,0,none⟩),.pointer (some ⟨H+1,0,none⟩),.pointer (some ⟨H+1+1,0,none⟩),.pointer (some ⟨H+1+1+1,0,none⟩),.pointer (some ⟨H+1+1+1+1,0,none⟩),.pointer (some ⟨H+1+1+1+1+1,0,none⟩),.pointer (some ⟨H+1+1+1+1+1+1,0,none⟩),.func (.func 55) #[] #[.pointer (some ⟨H+1+1+1+1+1,0,none⟩),.pointer (some ⟨H+1+1+1+1+1+1,0,none⟩)],vF,.func (.func 53) #[] #[.pointer (some ⟨H+1+1+1+1+1,0,none⟩)],.func (.func 55) #[] #[.pointer (some ⟨H+1+1+1+1+1,0,none⟩),.pointer (some ⟨H+1+1+1+1+1+1,0,none⟩)],(.map (some bm)),(vR 0),(vR 1),(vR 2),vV,vS,vK,vN,vE,undef,undef,undef,undef,undef,undef,undef,undef,undef,undef],[]⟩∧w3=w2) (fun a2 w3 he=>?_) (by simp [Oper.wp,go_sem,r1])
   obtain ⟨rfl,rfl⟩:=he
   exact ⟨vF,_,vV,vS,vK,vN,vE,vR,rfl,hC.set hi (fun i hi h=>by have e:i=1:=(by omega);subst e;exact ⟨d0,d1⟩) (by omega) (by omega) (by omega) (by omega),(fun h=>by rw [Ae (by omega)] at h ⊢;exact h16 h),fun _=>⟨hp2,(fun h=>Ba (hsl (by rwa [Ae (by omega)] at h)) (Bw r4 r2)),(Ku r4 r2 hbx)⟩,fun h=>(Cs n10 (by decide) h).elim,hA.keep (Ae (by omega)) (Ae (by omega)) (fun _=>rfl) (Bw r4 r2)⟩
  | 5,ho=>
   cases ho
   refine Ak rfl rfl ?_
   have n10:L.getD 11 false=false:=hC.not (n:=3) (d:=1) hi (.inr (.inl ⟨2,by omega,.inl rfl⟩))
   obtain ⟨hp,hsl,hbx⟩:=hpre n10
   refine Oper.wp_mono (K:=fun a2 w2=>a2=⟨#[.agg #[.int .u8 k,.string ⟨t.toArray⟩,.slice ka ks.length kc,.slice da ds.length dc,.int .i64 l],.pointer (some ⟨H,0,none⟩),.pointer (some ⟨H+1,0,none⟩),.pointer (some ⟨H+1+1,0,none⟩),.pointer (some ⟨H+1+1+1,0,none⟩),.pointer (some ⟨H+1+1+1+1,0,none⟩),.pointer (some ⟨H+1+1+1+1+1,0,none⟩),.pointer (some ⟨H+1+1+1+1+1+1,0,none⟩),.func (.func 55) #[] #[.pointer (some ⟨H+1+1+1+1+1,0,none⟩),.pointer (some ⟨H+1+1+1+1+1+1,0,none⟩)],vF,.func (.func 53) #[] #[.pointer (some ⟨H+1+1+1+1+1,0,none⟩)],.func (.func 55) #[] #[.pointer (some ⟨H+1+1+1+1+1,0,none⟩),.pointer (some ⟨H+1+1+1+1+1+1,0,none⟩)],vM,(vR 0),(vR 1),(.func (.func 55) #[] #[.pointer (some ⟨H+1+1+1+1+1,0,none⟩),.pointer (some ⟨H+1+1+1+1+1+1,0,none⟩)]),vV,vS,vK,vN,vE,undef,undef,undef,undef,undef,undef,undef,undef,undef,undef],[]⟩∧w2=w1) (fun a2 w2 he=>?_) (by simp [Oper.wp,go_sem])
   obtain ⟨rfl,rfl⟩:=he
   have hz1:=hp.size
   exact ⟨vF,vM,vV,vS,vK,vN,vE,(fun j=>if j=2 then .func (.func 55) #[] #[.pointer (some ⟨H+1+1+1+1+1,0,none⟩),.pointer (some ⟨H+1+1+1+1+1+1,0,none⟩)] else vR j),rfl,hC.set hi (fun i hi h=>by omega) (by omega) (by omega) (by omega) (by omega),(fun h=>by rw [Ae (by omega)] at h ⊢;exact h16 h),fun _=>⟨hp.call (i:=2) Fb rfl hi (Below.refl _ _) (Uk (b:=H+1+1+1) (by omega) hbx),(fun h=>Ba (hsl (by rwa [Ae (by omega)] at h)) (fun g x y t _ hg=>hg)),hbx⟩,fun h=>(Cs n10 (by decide) h).elim,hA.keep (Ae (by omega)) (Ae (by omega)) (fun _=>rfl) (fun g x y t _ hg=>hg)⟩
  | 6,ho=>
   cases ho
   refine Ak rfl rfl ?_
   have n10:L.getD 11 false=false:=hC.not (n:=3) (d:=1) hi (.inr (.inl ⟨2,by omega,.inr rfl⟩))
   obtain ⟨hp,hsl,hbx⟩:=hpre n10
   have d0:=hdep ⟨0,.data⟩ (by simp) rfl
   have d1:=hdep ⟨5,.data⟩ (by simp) rfl
   obtain ⟨bm,w2,rfl,r1,hp2,r2,r3,r4⟩:=hp.put (i:=2) Fb Le hC rfl hi d0 d1
   dsimp only at r1
   refine Oper.wp_mono (K:=fun a2 w3=>a2=⟨#[.agg #[.int .u8 k,.string ⟨t.toArray⟩,.slice ka ks.length kc,.slice da ds.length dc,.int .i64 l],.pointer (some ⟨H,0,none⟩),.pointer (some ⟨H+1,0,none⟩),.pointer (some ⟨H+1+1,0,none⟩),.pointer (some ⟨H+1+1+1,0,none⟩),.pointer (some ⟨H+1+1+1+1,0,none⟩),.pointer (some ⟨H+1+1+1+1+1,0,none⟩),.pointer (some ⟨H+1+1+1+1+1+1,0,none⟩),.func (.func 55) #[] #[.pointer (some ⟨H+1+1+1+1+1,0,none⟩),.pointer (some ⟨H+1+1+1+1+1+1,0,none⟩)],vF,.func (.func 53) #[] #[.pointer (some ⟨H+1+1+1+1+1,0,none⟩)],.func (.func 55) #[] #[.pointer (some ⟨H+1+1+1+1+1,0,none⟩),.pointer (some ⟨H+1+1+1+1+1+1,0,none⟩)],(.map (some bm)),(vR 0),(vR 1),(vR 2),vV,vS,vK,vN,vE,undef,undef,undef,undef,undef,undef,undef,undef,undef,undef],[]⟩∧w3=w2) (fun a2 w3 he=>?_) (by simp [Oper.wp,go_sem,r1])
   obtain ⟨rfl,rfl⟩:=he
   exact ⟨vF,_,vV,vS,vK,vN,vE,vR,rfl,hC.set hi (fun i hi h=>by have e:i=2:=(by omega);subst e;exact ⟨d0,d1⟩) (by omega) (by omega) (by omega) (by omega),(fun h=>by rw [Ae (by omega)] at h ⊢;exact h16 h),fun _=>⟨hp2,(fun h=>Ba (hsl (by rwa [Ae (by omega)] at h)) (Bw r4 r2)),(Ku r4 r2 hbx)⟩,fun h=>(Cs n10 (by decide) h).elim,hA.keep (Ae (by omega)) (Ae (by omega)) (fun _=>rfl) (Bw r4 r2)⟩
  | 7,ho=>
   cases ho
   refine Ak rfl rfl ?_
   have n10:L.getD 11 false=false:=hC.not (n:=3) (d:=1) hi (.inr (.inr (.inl rfl)))
   obtain ⟨hp,hsl,hbx⟩:=hpre n10
   refine Oper.wp_mono (K:=fun a2 w2=>a2=⟨#[.agg #[.int .u8 k,.string ⟨t.toArray⟩,.slice ka ks.length kc,.slice da ds.length dc,.int .i64 l],.pointer (some ⟨H,0,none⟩),.pointer (some ⟨H+1,0,none⟩),.pointer (some ⟨H+1+1,0,none⟩),.pointer (some ⟨H+1+1+1,0,none⟩),.pointer (some ⟨H+1+1+1+1,0,none⟩),.pointer (some ⟨H+1+1+1+1+1,0,none⟩),.pointer (some ⟨H+1+1+1+1+1+1,0,none⟩),.func (.func 55) #[] #[.pointer (some ⟨H+1+1+1+1+1,0,none⟩),.pointer (some ⟨H+1+1+1+1+1+1,0,none⟩)],vF,.func (.func 53) #[] #[.pointer (some ⟨H+1+1+1+1+1,0,none⟩)],.func (.func 55) #[] #[.pointer (some ⟨H+1+1+1+1+1,0,none⟩),.pointer (some ⟨H+1+1+1+1+1+1,0,none⟩)],vM,(vR 0),(vR 1),(vR 2),vM,vS,vK,vN,vE,undef,undef,undef,undef,undef,undef,undef,undef,undef,undef],[]⟩∧w2=w1) (fun a2 w2 he=>?_) (by simp [Oper.wp,go_sem])
   obtain ⟨rfl,rfl⟩:=he
   exact ⟨vF,vM,_,vS,vK,vN,vE,vR,rfl,hC.set hi (fun i hi h=>by omega) (fun _=>⟨hdep ⟨0,.data⟩ (by simp) rfl,fun i hi=>by
    match i,hi with
    | 0,_=>exact ⟨hdep ⟨1,.data⟩ (by simp) rfl,hdep ⟨2,.data⟩ (by simp) rfl⟩
    | 1,_=>exact ⟨hdep ⟨3,.data⟩ (by simp) rfl,hdep ⟨4,.data⟩ (by simp) rfl⟩
    | 2,_=>exact ⟨hdep ⟨5,.data⟩ (by simp) rfl,hdep ⟨6,.data⟩ (by simp) rfl⟩⟩) (by omega) (by omega) (by omega),(fun h=>by rw [Ae (by omega)] at h ⊢;exact h16 h),fun _=>⟨hp.move Fb hC hi,(fun h=>Ba (hsl (by rwa [Ae (by omega)] at h)) (fun g x y t _ hg=>hg)),hbx⟩,fun h=>(Cs n10 (by decide) h).elim,hA.keep (Ae (by omega)) (Ae (by omega)) (fun _=>rfl) (fun g x y t _ hg=>hg)⟩
  | 8,ho=>
   cases ho
   refine Ak rfl rfl ?_
   have f16:=(A4 hi).2
   have n17:L.getD 9 false=false:=by
    cases hq:L.getD 9 false with
    | false=>rfl
    | true=>rw [h16 hq] at f16;cases f16
   have n10:L.getD 11 false=false:=by
    cases hq:L.getD 11 false with
    | false=>rfl
    | true=>(have:=(hC.ca hq).1;rw [show L.getD 9 false=true from this] at n17;cases n17)
   obtain ⟨hp,hsl,hbx⟩:=hpre n10
   have hb2:Below w1.heap.size w1 (w1.alloc (.cells #[.string ⟨#[115,97,103,97]⟩,.string ⟨#[115,116,101,112,115]⟩] 9)):=(Below.refl _ w1).alloc (Nat.le_refl _) _
   refine Oper.wp_mono (K:=fun a2 w2=>a2=⟨#[.agg #[.int .u8 k,.string ⟨t.toArray⟩,.slice ka ks.length kc,.slice da ds.length dc,.int .i64 l],.pointer (some ⟨H,0,none⟩),.pointer (some ⟨H+1,0,none⟩),.pointer (some ⟨H+1+1,0,none⟩),.pointer (some ⟨H+1+1+1,0,none⟩),.pointer (some ⟨H+1+1+1+1,0,none⟩),.pointer (some ⟨H+1+1+1+1+1,0,none⟩),.pointer (some ⟨H+1+1+1+1+1+1,0,none⟩),.func (.func 55) #[] #[.pointer (some ⟨H+1+1+1+1+1,0,none⟩),.pointer (some ⟨H+1+1+1+1+1+1,0,none⟩)],vF,.func (.func 53) #[] #[.pointer (some ⟨H+1+1+1+1+1,0,none⟩)],.func (.func 55) #[] #[.pointer (some ⟨H+1+1+1+1+1,0,none⟩),.pointer (some ⟨H+1+1+1+1+1+1,0,none⟩)],vM,(vR 0),(vR 1),(vR 2),vV,(.slice (some ⟨w1.heap.size,0,none⟩) 2 2),vK,vN,vE,undef,undef,undef,undef,undef,undef,undef,undef,undef,undef],[]⟩∧w2=w1.alloc (.cells #[.string ⟨#[115,97,103,97]⟩,.string ⟨#[115,116,101,112,115]⟩] 9)) (fun a2 w2 he=>?_) (by simp [Oper.wp,go_sem])
   obtain ⟨rfl,rfl⟩:=he
   have hzz:=hp.size
   exact ⟨vF,vM,vV,_,vK,vN,vE,vR,rfl,hC.set hi (fun i hi h=>by omega) (by omega) (by omega) (by omega) (by omega),fun _=>Bm hi,fun _=>⟨(hp.grow Fb hb2 (Ae (by omega)) (fun i hi=>⟨Ae (by simp [Ee] at hi;omega),Ae (by simp [Ee] at hi;omega)⟩) (Ae (by decide)) (Ae (by decide)) (Ae (by decide))).sl _ ((Ae (by decide)).trans n17),fun _=>⟨w1.heap.size,rfl,hzz,World.alloc_heap_new _ _⟩,Ej hb2 hbx⟩,fun h=>(Cs n10 (by decide) h).elim,hA.keep (Ae (by omega)) (Ae (by omega)) (fun _=>rfl) (Aw hb2)⟩
  | 9,ho=>
   cases ho
   refine Ak rfl rfl ?_
   have n10:L.getD 11 false=false:=hC.not (n:=3) (d:=1) hi (.inr (.inr (.inr (.inl rfl))))
   obtain ⟨hp,hsl,hbx⟩:=hpre n10
   have d7:=hdep ⟨7,.data⟩ (by simp) rfl
   have d16:=hdep ⟨8,.data⟩ (by simp) rfl
   have hvv:=hp.mv d7
   obtain ⟨bm,rfl,_,_⟩:=hp.map (hC.mv d7).1
   subst hvv
   obtain ⟨sg,rfl,sB,sC⟩:=hsl d16
   have heg:=enters_of Tryz.func57 (by kernel_rfl) rfl
   refine Bt (f:=57) (args:=#[.map (some bm),.slice (some ⟨sg,0,none⟩) 2 2]) (by simp [execOp,go_sem,heg]) (Gt bm (some ⟨sg,0,none⟩) 2 2 w1) ?_
   rintro e2 w2 ⟨c2,rfl,hc2,q1,q2,hb2⟩
   exact ⟨_,rfl,vF,_,_,_,_,vN,vE,vR,rfl,hC.set hi (fun i hi h=>by omega) (by omega) (fun _=>d7) (by omega) (by omega),fun _=>by rw [Ae (by omega)];exact d16,fun _=>⟨hp.keys Fb hb2 (by omega) q1 q2,(fun h=>Ba (hsl (by rwa [Ae (by omega)] at h)) (Aw hb2)),(Ej hb2 hbx)⟩,fun h=>(Cs n10 (by decide) h).elim,hA.keep (Ae (by omega)) (Ae (by omega)) (fun _=>rfl) (Aw hb2)⟩
  | 10,ho=>
   cases ho
   refine Ak rfl rfl ?_
   have n10:L.getD 11 false=false:=hC.not (n:=3) (d:=1) hi (.inr (.inr (.inr (.inr rfl))))
   obtain ⟨hp,hsl,hbx⟩:=hpre n10
   have y0:=Ad ((hp.below.block H (by omega)).trans (Aa HN0))
   refine Oper.wp_mono (K:=fun a2 w2=>a2=⟨#[.agg #[.int .u8 k,.string ⟨t.toArray⟩,.slice ka ks.length kc,.slice da ds.length dc,.int .i64 l],.pointer (some ⟨H,0,none⟩),.pointer (some ⟨H+1,0,none⟩),.pointer (some ⟨H+1+1,0,none⟩),.pointer (some ⟨H+1+1+1,0,none⟩),.pointer (some ⟨H+1+1+1+1,0,none⟩),.pointer (some ⟨H+1+1+1+1+1,0,none⟩),.pointer (some ⟨H+1+1+1+1+1+1,0,none⟩),.func (.func 55) #[] #[.pointer (some ⟨H+1+1+1+1+1,0,none⟩),.pointer (some ⟨H+1+1+1+1+1+1,0,none⟩)],vF,.func (.func 53) #[] #[.pointer (some ⟨H+1+1+1+1+1,0,none⟩)],.func (.func 55) #[] #[.pointer (some ⟨H+1+1+1+1+1,0,none⟩),.pointer (some ⟨H+1+1+1+1+1+1,0,none⟩)],vM,(vR 0),(vR 1),(vR 2),vV,vS,vK,(.agg #[.int .u8 k,.string ⟨t.toArray⟩,.slice ka ks.length kc,.slice da ds.length dc,.int .i64 l]),vE,undef,undef,undef,undef,undef,undef,undef,undef,undef,undef],[]⟩∧w2=w1) (fun a2 w2 he=>?_) (by simp [Oper.wp,go_sem,y0])
   obtain ⟨rfl,rfl⟩:=he
   exact ⟨vF,vM,vV,vS,vK,_,vE,vR,rfl,hC.set hi (fun i hi h=>by omega) (by omega) (by omega) (by omega) (by omega),(fun h=>by rw [Ae (by omega)] at h ⊢;exact h16 h),fun _=>⟨hp.load Fb,(fun h=>Ba (hsl (by rwa [Ae (by omega)] at h)) (fun g x y t _ hg=>hg)),hbx⟩,fun h=>(Cs n10 (by decide) h).elim,hA.keep (Ae (by omega)) (Ae (by omega)) (fun _=>rfl) (fun g x y t _ hg=>hg)⟩
  | 11,ho=>
   cases ho
   refine Ak rfl rfl ?_
   have n10:L.getD 11 false=false:=(A4 hi).2
   obtain ⟨hp,hsl,hbx⟩:=hpre n10
   have d8:=hdep ⟨9,.data⟩ (by simp) rfl
   have d9:=hdep ⟨10,.data⟩ (by simp) rfl
   obtain ⟨sg,rfl,sB,sC⟩:=hsl (h16 d8)
   obtain ⟨bm,c,rfl,rfl,hcB,hbB,hbl,q1,q2,hmc⟩:=hp.ready Fb hC (Nf (H+1+1+1)) d8 d9
   have heg:=enters_of Tryz.func92 (by kernel_rfl) rfl
   refine Bt (f:=92) (args:=#[.agg #[.int .u8 k,.string ⟨t.toArray⟩,.slice ka ks.length kc,.slice da ds.length dc,.int .i64 l],.pointer (some ⟨c,0,none⟩),.pointer (some ⟨c+1,0,none⟩)]) (by simp [execOp,go_sem,heg]) (Aa HCALL bm c sg w1 hp.below hp.size hcB hbB hbl sB sC q1 q2 hmc) ?_
   rintro e3 w3 hr3
   have hzz:=hp.size
   obtain ⟨v,rfl,hpo,hal⟩:=Eg.read (n:=3) (d:=1) (Pk (H+1+1+1)) hp.below (by omega) hp.size (Nf (H+1+1+1)) (fun g hg=>hg) hr3 hC hA hi (fun g h1 h2=>by omega)
   exact ⟨v,rfl,vF,vM,vV,_,_,_,v,vR,rfl,hC.set hi (fun i hi h=>by omega) (by omega) (by omega) (fun _=>⟨d8,d9⟩) (by omega),(fun h=>by rw [Ae (by omega)] at h ⊢;exact h16 h),fun h=>by (have h2:=(E3 hi).2 (.inl rfl) ;rw [h2] at h;cases h),fun _=>hpo,hal⟩
  | 12,ho=>
   cases ho
   refine Ak rfl rfl ?_
   refine Oper.wp_mono (K:=fun a2 w2=>a2=⟨#[.agg #[.int .u8 k,.string ⟨t.toArray⟩,.slice ka ks.length kc,.slice da ds.length dc,.int .i64 l],.pointer (some ⟨H,0,none⟩),.pointer (some ⟨H+1,0,none⟩),.pointer (some ⟨H+1+1,0,none⟩),.pointer (some ⟨H+1+1+1,0,none⟩),.pointer (some ⟨H+1+1+1+1,0,none⟩),.pointer (some ⟨H+1+1+1+1+1,0,none⟩),.pointer (some ⟨H+1+1+1+1+1+1,0,none⟩),.func (.func 55) #[] #[.pointer (some ⟨H+1+1+1+1+1,0,none⟩),.pointer (some ⟨H+1+1+1+1+1+1,0,none⟩)],(.pointer (some ⟨w1.heap.size,0,none⟩)),.func (.func 53) #[] #[.pointer (some ⟨H+1+1+1+1+1,0,none⟩)],.func (.func 55) #[] #[.pointer (some ⟨H+1+1+1+1+1,0,none⟩),.pointer (some ⟨H+1+1+1+1+1+1,0,none⟩)],vM,(vR 0),(vR 1),(vR 2),vV,vS,vK,vN,vE,undef,undef,undef,undef,undef,undef,undef,undef,undef,undef],[]⟩∧w2=w1.alloc (.cells #[.int .i64 0,.int .i64 0] 29)) (fun a2 w2 he=>?_) (by simp [Oper.wp,go_sem])
   obtain ⟨rfl,rfl⟩:=he
   have hzz:H+1+1+1+1+1+1≤w1.heap.size:=by
    cases hq:L.getD 11 false with
    | false=>exact (hpre hq).1.size
    | true=>exact (hpost hq).2.1
   exact ⟨_,vM,vV,vS,vK,vN,vE,vR,rfl,hC.set hi (fun i hi h=>by omega) (by omega) (by omega) (by omega) (by omega),(fun h=>by rw [Ae (by omega)] at h ⊢;exact h16 h),fun h=>⟨(hpre (by rwa [Ae (by omega)] at h)).1.grow Fb ((Below.refl _ w1).alloc (Nat.le_refl _) _) (Ae (by omega)) (fun i hi=>⟨Ae (by simp [Ee] at hi;omega),Ae (by simp [Ee] at hi;omega)⟩) (Ae (by decide)) (Ae (by decide)) (Ae (by decide)),fun h2=>Ba ((hpre (by rwa [Ae (by omega)] at h)).2.1 (by rwa [Ae (by omega)] at h2)) (Aw ((Below.refl _ w1).alloc (Nat.le_refl _) _)),Ej ((Below.refl _ w1).alloc (Nat.le_refl _) _) (hpre (by rwa [Ae (by omega)] at h)).2.2⟩,fun h=>(hpost (by rwa [Ae (by omega)] at h)).alloc (Pk _) hi _,Mo.made hC hzz hi vE _ _⟩
  | 13,ho=>
   cases ho
   refine Ak rfl rfl ?_
   have d10:=hdep ⟨11,.data⟩ (by simp) rfl
   have d11:=hdep ⟨12,.data⟩ (by simp) rfl
   obtain ⟨fb,x,y,ec,el,rfl,rfl,e3,hp2,hA2⟩:=(hpost d10).store (Pk _) hA hi d11 (Nf (H+1+1+1)) (by omega)
   have z0:=Af e3
   refine Oper.wp_mono (K:=fun a2 w2=>a2=⟨#[.agg #[.int .u8 k,.string ⟨t.toArray⟩,.slice ka ks.length kc,.slice da ds.length dc,.int .i64 l],.pointer (some ⟨H,0,none⟩),.pointer (some ⟨H+1,0,none⟩),.pointer (some ⟨H+1+1,0,none⟩),.pointer (some ⟨H+1+1+1,0,none⟩),.pointer (some ⟨H+1+1+1+1,0,none⟩),.pointer (some ⟨H+1+1+1+1+1,0,none⟩),.pointer (some ⟨H+1+1+1+1+1+1,0,none⟩),.func (.func 55) #[] #[.pointer (some ⟨H+1+1+1+1+1,0,none⟩),.pointer (some ⟨H+1+1+1+1+1+1,0,none⟩)],(.pointer (some ⟨fb,0,none⟩)),.func (.func 53) #[] #[.pointer (some ⟨H+1+1+1+1+1,0,none⟩)],.func (.func 55) #[] #[.pointer (some ⟨H+1+1+1+1+1,0,none⟩),.pointer (some ⟨H+1+1+1+1+1+1,0,none⟩)],vM,(vR 0),(vR 1),(vR 2),vV,vS,vK,vN,(.agg #[.int .i64 ec,.int .i64 el]),undef,undef,undef,undef,undef,undef,undef,undef,undef,undef],[]⟩∧w2=(w1.setCell ⟨fb,0,none⟩ (.int .i64 ec)).setCell ⟨fb,1,none⟩ (.int .i64 el)) (fun a2 w2 he=>?_) (by simp [Oper.wp,go_sem,z0])
   obtain ⟨rfl,rfl⟩:=he
   exact ⟨_,vM,vV,vS,vK,vN,_,vR,rfl,hC.set hi (fun i hi h=>by omega) (by omega) (by omega) (by omega) (fun _=>⟨d10,d11⟩),(fun h=>by rw [Ae (by omega)] at h ⊢;exact h16 h),fun h=>by (rw [Ae (by omega)] at h;rw [show L.getD 11 false=true from d10] at h;cases h),fun _=>hp2,hA2⟩
  | n+14,ho=>exact absurd ho (by simp)
 ·rintro L a' V ⟨vF,vM,vV,vS,vK,vN,vE,vR,rfl,hC,h16,hpre,hpost,hA⟩ hall
  have hall':∀ i,i<14→L.getD i false=true:=fun i hi=>by
   have:=hall i
   have hz:=hC.size
   have hi':i<L.size:=by omega
   simp only [Array.getD,hi',dif_pos] at this ⊢
   exact this
  obtain ⟨fb,e,l',s,rfl,hfB,e3,hk,hr,hI⟩:=(hpost (hall' 11 (by omega))).end hA (hall' 12 (by omega)) (hall' 13 (by omega))
  have m1:=(hk.same (H+1) (by omega) (fun q=>by have:=q.1;omega)).trans (Aa HN1)
  have m2:=(hk.same (H+1+1) (by omega) (fun q=>by have:=q.1;omega)).trans (Aa HN2)
  have hBV:Below H w V:=⟨hk.os.trans (Aa HBW).os,hk.tape.trans (Aa HBW).tape,hk.output.trans (Aa HBW).output,Nat.le_trans (Aa HBW).size hk.size,fun g hg=>(hk.same g (by omega) (fun q=>by have:=q.1;omega)).trans ((Aa HBW).block g hg)⟩
  have hVs:=hk.size
  obtain ⟨ss,sa,sc,hss,c2,hst,hso⟩:=hI.b2
  have c0:=hI.b0
  have c1:=hI.b1
  have z0:=Aq c0
  have z1:=Aq c1
  have z2:=Aq c2
  have z3:=Af e3
  have HM1:=Ab m1
  have HM2:=Ab m2
  have HBV:=Ab hBV
  have HST:=Ab hst
  have HSO:=Ab hso
  have HR:=Ab hr
  have HSS:=Ab hss
  clear hpre hpost hA hall hall' hI h16 hC hk c0 c1 c2 m1 m2 hBV hst hso hr hss e3
  have y1:=D9 (Aa HM1)
  have y2:=Af (Aa HM2)
  have hmx:=Dl
  rcases Aa HR with ⟨h1,rfl,rfl⟩ | ⟨h1,h2⟩
  ·have HR1:=Ab h1
   clear h1 HR
   go_wp2
   have HE:=Ok (B:=H) (g1:=H+1) (g2:=H+1+1) (w:=w) (Aa HBV) (Aa HM1) (Aa HM2) (by omega) (by omega) (by omega) (.string ⟨s.name.toArray⟩) (.string ⟨s.text.toArray⟩) (.slice sa ss.length sc) (.int .i64 0) (.int .i64 0)
   obtain ⟨a',c',e0,e1,e2,e3,e4⟩:=(Aa HST).slice
   cases e0
   refine bodyPost_ret (Al rfl _ _ _ (H+1) (H+1+1) _ _ rfl (Cq HE.2.1) rfl (Ai HE.2.2.1)) rfl ⟨by rw [hH];exact HE.1,⟨s.name,s.text,sa,sc,ss⟩,0,0,rfl,⟨e3.keep (fun g hg=>HE.2.2.2 g (by have:=e4 g hg;omega) (by have:=e4 g hg;omega)),e1,e2⟩,fun g hg=>by have:=e4 g hg;omega,.inl ⟨?_,rfl,rfl⟩⟩
   rw [Aa HR1]
   unfold Ch.bare
   dsimp only
   rw [Aa HSS]
  ·have HR1:=Ab h1
   have j1:(e != 0)=true:=by simpa using h2
   have HR2:=Ab h2
   clear h1 h2 HR
   go_upto_region 7 with fail
   go_region_with_o (fail)
   all_goals go_wp2
   all_goals
    have HE:=Pu (B:=H) (g1:=H+1) (g2:=H+1+1) (w:=w) (Aa HBV) (Aa HM1) (Aa HM2) (by omega) (by omega) (by omega) (.string ⟨#[]⟩) (.string ⟨#[]⟩) (.slice none 0 0) (.int .i64 e) (.int .i64 l')
    exact bodyPost_ret (Al rfl _ _ _ (H+1) (H+1+1) _ _ rfl (Cq HE.2.1) rfl (Ai HE.2.2)) rfl ⟨by rw [hH];exact HE.1,Ch.zero,e,l',rfl,Ch.zero_in _,fun g hg=>(Co none g hg).elim,.inr ⟨Aa HR1,Aa HR2,rfl⟩⟩
end Go.Proofs.YtnjokdbblmlhhaaGreatDoor
namespace Go.Proofs.YtnjokdbblmlhhaaGreatDoor
set_option linter.unusedVariables false
set_option linter.unusedSimpArgs false
open Go.RowKit
def P22.defE:Except (Int × Int) P20.T→Except P22.F P22.Def
 | .ok d=>P22.ofE d
 | .error x=>.error x
set_option maxRecDepth 100000 in
set_option maxHeartbeats 16000000 in
theorem Kc (s:ByteArray) (o:Except (Int × Int) P20.T) (w:World) (hs:s.size≤1048576) (ho:P20.PaR s.data.toList o) (hok:∀ d,o=.ok d→E6 d):Calls Tryz.prog 30 #[.string s] w (Vo w (P22.defE o)):=by
 obtain ⟨H,hH⟩:∃ H,w.heap.size=H:=⟨_,rfl⟩
 obtain ⟨W0,hW0,hb0,g0,g1,hs0⟩:=A0 w (.cells #[.string ⟨#[]⟩,.string ⟨#[]⟩,.slice none 0 0] 50) (.cells #[.int .i64 0,.int .i64 0] 29) H hH
 have hpa:=Mc s o W0 hs ho
 have HW0:=Ab hW0
 have HB0:=Ab hb0
 have HG0:=Ab g0
 have HG1:=Ab g1
 cases o with
 | ok d=>
  have HOK:=Ab (hok d rfl)
  have HPA:=Ab hpa
  clear hpa hok hW0 hb0 g0 g1 ho hs
  go_enter Tryz.func30,Tryz.ntmps30
  go_upto_region 1 with fail
  try rw [hH]
  rw [Aa HW0]
  go_upto_region 2 with (go_at_call 10;refine (Aa HPA).mono ?_;rintro e2 w2 ⟨k,t,ka,kc,ks,da,dc,ds,l,rfl,HD,hb2⟩;have hz2:=hb2.size;have HB2:=Ab hb2;clear hb2)
  obtain ⟨K,hK⟩:∃ K,w2.heap.size=K:=⟨_,rfl⟩
  obtain ⟨W3,hW3,hb3,p0,p1,hs3⟩:=A0 w2 (.cells #[.int .u8 k,.string ⟨t.toArray⟩,.slice ka ks.length kc,.slice da ds.length dc,.int .i64 l] 26) (.cells #[.int .i64 0,.int .i64 0] 29) K hK
  rw [hW3]
  rw [hK]
  rw [hK] at hz2
  have hb4:Below H w W3:=(Aa HB0).trans (((Aa HB2).mono (by omega)).trans (hb3.mono (by omega)))
  have q0:=(hb3.block H (by omega)).trans (((Aa HB2).block H (by omega)).trans (Aa HG0))
  have q1:=(hb3.block (H+1) (by omega)).trans (((Aa HB2).block (H+1) (by omega)).trans (Aa HG1))
  have hin3:(Nd.mk k t ka kc ks da dc ds l).In W3:=(Aa HD).2.1.below (by rw [hK];exact hb3)
  have hof:=Jb k t ka kc ks da dc ds l W3 hin3 (by rw [(Aa HD).1];exact Aa HOK)
  rw [(Aa HD).1] at hof
  have x0:=Ad p0
  have x1:=Af p1
  have HOF:=Ab hof
  have HB4:=Ab hb4
  have HQ0:=Ab q0
  have HQ1:=Ab q1
  have hz3:K+1+1≤W3.heap.size:=by omega
  clear hof hb4 q0 q1 hin3 hb3 p0 p1 hW3 hs3
  go_upto_region 4 with fail
  go_wp2_with (go_at_call 27;refine (Aa HOF).mono ?_;rintro e5 w5 ⟨hb5,⟨dn,dt,dsa,dsc,dss⟩,ec,el,rfl,hx2,hx3,hx4⟩;have r0:=(hb5.block H (by omega)).trans (Aa HQ0);have r1:=(hb5.block (H+1) (by omega)).trans (Aa HQ1);have u0:=D9 r0;have u1:=Af r1;have HR0:=Ab r0;have HR1:=Ab r1;have HB5:=Ab hb5;have HX2:=Ab hx2;have HX3:=Ab hx3;have HX4:=Ab hx4;unfold Ch.val;clear r0 r1 hb5 hx2 hx3 hx4)
  have HE:=Ok (B:=H) (g1:=H) (g2:=H+1) (w:=w) ((Aa HB4).trans ((Aa HB5).mono (by omega))) (Aa HR0) (Aa HR1) (by omega) (by omega) (by omega) (.string ⟨dn.toArray⟩) (.string ⟨dt.toArray⟩) (.slice dsa dss.length dsc) (.int .i64 ec) (.int .i64 el)
  have hx3:=Aa HX3
  exact bodyPost_ret (Al rfl _ _ _ H (H+1) _ _ rfl (Cq HE.2.1) rfl (Ai HE.2.2.1)) rfl ⟨by rw [hH];exact HE.1,⟨dn,dt,dsa,dsc,dss⟩,ec,el,rfl,(Aa HX2).keep (fun g hg=>HE.2.2.2 g (by have:=hx3 g hg;omega) (by have:=hx3 g hg;omega)),fun g hg=>(by have:=hx3 g hg;omega),(Aa HX4)⟩
 | error x=>
  obtain ⟨x1,x2⟩:=x
  have hbad:=P20.PaR.bad ho
  have j1:(x1 != 0)=true:=by simpa using hbad
  have HBAD:=Ab hbad
  have hmx:=Dl
  have HPA:=Ab hpa
  clear hpa hok hW0 hb0 g0 g1 ho hs hbad
  go_enter Tryz.func30,Tryz.ntmps30
  go_upto_region 1 with fail
  try rw [hH]
  rw [Aa HW0]
  go_upto_region 2 with (go_at_call 10;refine (Aa HPA).mono ?_;rintro e2 w2 ⟨rfl,hb2⟩;have hz2:=hb2.size;have HB2:=Ab hb2;clear hb2)
  obtain ⟨K,hK⟩:∃ K,w2.heap.size=K:=⟨_,rfl⟩
  obtain ⟨W3,hW3,hb3,p0,p1,hs3⟩:=A0 w2 (.cells #[.int .u8 0,.string ⟨#[]⟩,.slice none 0 0,.slice none 0 0,.int .i64 0] 26) (.cells #[.int .i64 x1,.int .i64 x2] 29) K hK
  rw [hW3]
  rw [hK]
  rw [hK] at hz2
  have hb4:Below H w W3:=(Aa HB0).trans (((Aa HB2).mono (by omega)).trans (hb3.mono (by omega)))
  have q0:=(hb3.block H (by omega)).trans (((Aa HB2).block H (by omega)).trans (Aa HG0))
  have q1:=(hb3.block (H+1) (by omega)).trans (((Aa HB2).block (H+1) (by omega)).trans (Aa HG1))
  have y0:=D9 q0
  have y1:=Af q1
  have y2:=Af p1
  have HB4:=Ab hb4
  have HQ0:=Ab q0
  have HQ1:=Ab q1
  clear hb4 q0 q1 hb3 p0 p1 hW3
  go_upto_region 3 with fail
  go_region_with_o (fail)
  all_goals go_wp2
  all_goals
   have HE:=Pu (B:=H) (g1:=H) (g2:=H+1) (w:=w) (Aa HB4) (Aa HQ0) (Aa HQ1) (by omega) (by omega) (by omega) (.string ⟨#[]⟩) (.string ⟨#[]⟩) (.slice none 0 0) (.int .i64 x1) (.int .i64 x2)
   exact bodyPost_ret (Al rfl _ _ _ H (H+1) _ _ rfl (Cq HE.2.1) rfl (Ai HE.2.2)) rfl ⟨by rw [hH];exact HE.1,Ch.zero,x1,x2,rfl,Ch.zero_in _,fun g hg=>(Co none g hg).elim,.inr ⟨rfl,Aa HBAD,rfl⟩⟩
end Go.Proofs.YtnjokdbblmlhhaaGreatDoor
