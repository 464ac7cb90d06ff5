/- Lemmas of this claim. -/
import Derived.Test.YtnjokdbblmlhhaaGreatDoorR22fZ
import Derived.Test.YtnjokdbblmlhhaaGreatDoorW22pZ
namespace Go.Proofs.YtnjokdbblmlhhaaGreatDoor
set_option linter.unusedVariables false
set_option linter.unusedSimpArgs false
open Go.RowKit
open P20 (okF)
def Ve (P:Nat→Prop) (w:World) (res:Except P22.F P22.Def) (e:Ending) (w':World):Prop:=
 Below w.heap.size w w'∧∃ (d:Ch) (ec el:Int),e=.returned (.tuple #[d.val,fV ec el])∧d.In w'∧(∀ g,d.blk g→P g∨w.heap.size≤g)∧((res=.ok d.bare∧ec=0∧el=0)∨(res=.error (ec,el)∧ec≠0∧d=Ch.zero))
def Mp (r:Except P22.F P22.Def) (ks:List (List UInt8)) (l:Int):Except P22.F P22.Def:=match r with
 | .error x=>.error x
 | .ok s'=>if ([115,97,103,97]∈ks∧[115,116,101,112,115]∈ks) then .ok s' else .error (5,l)
theorem Oc (k:Nat) (t:List UInt8) (ka:Option Addr) (kc:Nat) (ks:List (List UInt8)) (da:Option Addr) (dc:Nat) (ds:List Nd) (l:Int):∃ e l',(∀ w,Calls Tryz.prog 59 #[.agg #[.int .u8 k,.string ⟨t.toArray⟩,.slice ka ks.length kc,.slice da ds.length dc,.int .i64 l],.int .u8 2,.int .i64 1024] w fun x w'=>x=.returned (fV e l')∧Below w.heap.size w w')∧((e≠0∧P22.rowE 1024 P22.stepE (Nd.mk k t ka kc ks da dc ds l).bare=.error (e,l'))∨(e=0∧l'=0∧ds.length≤1024∧P22.rowE 1024 P22.stepE (Nd.mk k t ka kc ks da dc ds l).bare=P22.rowGo P22.stepE (Am ds) [])):=by
 have h:=fun w=>Iy k t ka kc ks da dc ds l 1024 w
 have hsp:P22.rowE 1024 P22.stepE (Nd.mk k t ka kc ks da dc ds l).bare=if k≠2 then .error (7,l) else if (1024:Int)<((Am ds).length:Int) then .error (2,l) else P22.rowGo P22.stepE (Am ds) []:=by
  simp only [Nd.bare]
  rfl
 rw [hsp,Bs]
 by_cases hk:k=2
 ·rw [if_neg (by simpa using hk)]
  by_cases hn:1024<ds.length
  ·rw [if_pos (by omega)]
   refine ⟨2,l,fun w=>?_,.inl ⟨by decide,rfl⟩⟩
   have:=h w
   rw [if_neg (by simpa using hk),if_pos hn] at this
   exact this
  ·rw [if_neg (by omega)]
   refine ⟨0,0,fun w=>?_,.inr ⟨rfl,rfl,by omega,rfl⟩⟩
   have:=h w
   rw [if_neg (by simpa using hk),if_neg hn] at this
   exact this
 ·rw [if_pos hk]
  refine ⟨7,l,fun w=>?_,.inl ⟨by decide,rfl⟩⟩
  have:=h w
  rw [if_pos hk] at this
  exact this
theorem Ol {a:Option Addr} {n c:Nat} {ss:List Bc} {g:Nat} (h:Cx.blkL a ss g):Cx.ob (.slice a n c) ss g:=by
 rcases h with ⟨_,o,rfl⟩ | h
 ·exact .inl rfl
 ·exact .inr h
theorem Q2 {B P F:Nat} {W1 w:World} {u0 u1 u2 u3 u4 u5 u6 u7 u8 u9 u10 u11 u12 x y:Value} (hb:Below B W1 w) (hP:B≤P) (hF:B≤F) (hPF:P≠F) (h1:w.heap[P]?=some (.cells #[u0,u1,u2,u3,u4,u5,u6,u7,u8,u9,u10,u11,u12] 86)) (h2:w.heap[F]?=some (.cells #[x,y] 29)) (v0 v1 v2 v3 v4 v5 v6 v7 v8 v9 v10 v11 v12 e l:Value) :
  ∃ X,(((((((((((((((w.setCell ⟨P,0,none⟩ v0).setCell ⟨P,1,none⟩ v1).setCell ⟨P,2,none⟩ v2).setCell ⟨P,3,none⟩ v3).setCell ⟨P,4,none⟩ v4).setCell ⟨P,5,none⟩ v5).setCell ⟨P,6,none⟩ v6).setCell ⟨P,7,none⟩ v7).setCell ⟨P,8,none⟩ v8).setCell ⟨P,9,none⟩ v9).setCell ⟨P,10,none⟩ v10).setCell ⟨P,11,none⟩ v11).setCell ⟨P,12,none⟩ v12).setCell ⟨F,0,none⟩ e).setCell ⟨F,1,none⟩ l)=X∧Below B W1 X∧X.heap[P]?=some (.cells #[v0,v1,v2,v3,v4,v5,v6,v7,v8,v9,v10,v11,v12] 86)∧X.heap[F]?=some (.cells #[e,l] 29)∧(∀ g,g≠P→g≠F→X.heap[g]?=w.heap[g]?)∧X.heap.size=w.heap.size:=by
 refine ⟨_,rfl,?_⟩
 have q:=Lg (B:=B) (g1:=P) (g2:=F) hb h1 h2 hP hF hPF v0 v1 v2 v3 v4 v5 v6 v7 v8 v9 v10 v11 v12 e l
 exact ⟨q.1,q.2.1,q.2.2.1,q.2.2.2,by simp⟩
set_option maxRecDepth 100000 in
set_option maxHeartbeats 32000000 in
theorem Q6 (k:Nat) (t:List UInt8) (ka:Option Addr) (kc:Nat) (ks:List (List UInt8)) (da:Option Addr) (dc:Nat) (ds:List Nd) (l:Int) (w:World) (hin:(Nd.mk k t ka kc ks da dc ds l).In w) (hok:okF (Nd.mk k t ka kc ks da dc ds l).bare):Calls Tryz.prog 28 #[.agg #[.int .u8 k,.string ⟨t.toArray⟩,.slice ka ks.length kc,.slice da ds.length dc,.int .i64 l]] w (Ve (fun g=>(Nd.mk k t ka kc ks da dc ds l).blk g) w (P22.ofE (Nd.mk k t ka kc ks da dc ds l).bare)):=by
 obtain ⟨q1,q2,q3,q4,q5⟩:=hok.kid
 rw [Bs] at q4
 have hkk:=hin.kids
 have hks:=hin.fit.keys
 simp only [Nd.da,Nd.kids,Nd.ka,Nd.keys] at hkk hks
 have hd5:∀ d∈ds,okF d.bare:=fun d hd=>q5 _ (by rw [Ci];exact List.mem_map_of_mem hd)
 obtain ⟨H,hH⟩:∃ H,w.heap.size=H:=⟨_,rfl⟩
 obtain ⟨PB,hPB⟩:∃ PB:Nat→Prop,PB=fun g=>(Nd.mk k t ka kc ks da dc ds l).blk g:=⟨_,rfl⟩
 have hPH:∀ g,PB g→g<H:=fun g hg=>by rw [hPB] at hg;rw [← hH];exact hin.lt hg
 have hPK:∀ d∈ds,∀ g,d.blk g→PB g:=fun d hd g hg=>by rw [hPB];exact Kx k t ka kc ks da dc ds l hd hg
 rw [← hPB]
 clear hPB
 obtain ⟨M,hM⟩:∃ M,ks.length=M:=⟨_,rfl⟩
 obtain ⟨D,hD⟩:∃ D,ds.length=D:=⟨_,rfl⟩
 obtain ⟨RES,hRES⟩:∃ RES,P22.ofE (Nd.mk k t ka kc ks da dc ds l).bare=RES:=⟨_,rfl⟩
 obtain ⟨RK,hRK⟩:∃ RK,P22.keysGo P22.defRd ks (Am ds) ⟨[],[],[]⟩=RK:=⟨_,rfl⟩
 obtain ⟨e,l',hsh',hres⟩:=Gv P22.defRd [[115,97,103,97],[115,116,101,112,115]] ⟨[],[],[]⟩ k t ka kc ks da dc ds l
 have hres2:(e≠0∧RES=.error (e,l'))∨(e=0∧l'=0∧M=D∧RES=Mp RK ks l):=by
  rw [← hRES]
  unfold P22.ofE
  rcases hres with h | ⟨h1,h2,h3,h4⟩
  ·exact .inl h
  ·refine .inr ⟨h1,h2,by omega,h4.trans ?_⟩
   rw [← hRK]
   unfold Mp
   cases P22.keysGo P22.defRd ks (Am ds) ⟨[],[],[]⟩ with
   | error x=>rfl
   | ok s'=>simp
 rw [hRES]
 clear hres hRES
 rw [hM,hD] at hsh' ⊢
 rw [hM] at q2
 rw [hD] at q4
 have hmw:∀ (os:List Obj),os=[.cells #[.int .u8 k,.string ⟨t.toArray⟩,.slice ka M kc,.slice da D dc,.int .i64 l] 26,.cells #[.string ⟨#[]⟩,.string ⟨#[]⟩,.slice none 0 0] 50,.cells #[.int .i64 0,.int .i64 0] 29,.cells #[.string ⟨#[]⟩,.string ⟨#[]⟩,.slice none 0 0] 50]→Below w.heap.size w (os.foldl World.alloc w)∧(os.foldl World.alloc w).heap.size=w.heap.size+os.length∧∀ i o,os[i]?=some o→(os.foldl World.alloc w).heap[w.heap.size+i]?=some o:=fun os _=>Cf os w
 obtain ⟨hb0,hs0,ha0⟩:=hmw _ rfl
 obtain ⟨W0,hW0⟩:∃ W0,(((w.alloc (.cells #[.int .u8 k,.string ⟨t.toArray⟩,.slice ka M kc,.slice da D dc,.int .i64 l] 26)).alloc (.cells #[.string ⟨#[]⟩,.string ⟨#[]⟩,.slice none 0 0] 50)).alloc (.cells #[.int .i64 0,.int .i64 0] 29)).alloc (.cells #[.string ⟨#[]⟩,.string ⟨#[]⟩,.slice none 0 0] 50)=W0:=⟨_,rfl⟩
 rw [show ([.cells #[.int .u8 k,.string ⟨t.toArray⟩,.slice ka M kc,.slice da D dc,.int .i64 l] 26,.cells #[.string ⟨#[]⟩,.string ⟨#[]⟩,.slice none 0 0] 50,.cells #[.int .i64 0,.int .i64 0] 29,.cells #[.string ⟨#[]⟩,.string ⟨#[]⟩,.slice none 0 0] 50]:List Obj).foldl World.alloc w=W0 from hW0,hH] at hb0 hs0 ha0
 replace hs0:W0.heap.size=H+1+1+1+1:=hs0
 have g0:W0.heap[H]?=some (.cells #[.int .u8 k,.string ⟨t.toArray⟩,.slice ka M kc,.slice da D dc,.int .i64 l] 26):=ha0 0 _ rfl
 have g1:W0.heap[H+1]?=some (.cells #[.string ⟨#[]⟩,.string ⟨#[]⟩,.slice none 0 0] 50):=ha0 1 _ rfl
 have g2:W0.heap[H+1+1]?=some (.cells #[.int .i64 0,.int .i64 0] 29):=ha0 2 _ rfl
 have g3:W0.heap[H+1+1+1]?=some (.cells #[.string ⟨#[]⟩,.string ⟨#[]⟩,.slice none 0 0] 50):=ha0 3 _ rfl
 have x0:=Ad g0
 have hsw:=hsh' W0
 have HW0:=Ab hW0
 have HB0:=Ab hb0
 have HG0:=Ab g0
 have HG1:=Ab g1
 have HG2:=Ab g2
 have HG3:=Ab g3
 have HSW:=Ab hsw
 have HM:=Ab hM
 have HD:=Ab hD
 have HKK:=Ab hkk
 have HKS:=Ab hks
 have HD5:=Ab hd5
 have HRS:=Ab hres2
 have HRK:=Ab hRK
 have HPH:=Ab hPH
 have HPK:=Ab hPK
 have hmx:=Dl
 clear hRK hPH hPK hmw hW0 hb0 ha0 g0 g1 g2 g3 hsh' hsw hres2 hM hD hkk hks hd5 q5 q3 hok hin
 go_enter Tryz.func28,Tryz.ntmps28
 go_upto_region 2 with fail
 try rw [hH]
 rw [Aa HW0]
 go_upto_region 3 with (go_at_call 59;refine (Aa HSW).mono ?_;rintro x2 w2 ⟨rfl,hb2⟩;have hz2:=hb2.size;have HB2:=Ab hb2;clear hb2)
 obtain ⟨K,hK⟩:∃ K,w2.heap.size=K:=⟨_,rfl⟩
 obtain ⟨W2,hW2⟩:∃ W2,w2.alloc (.cells #[.int .i64 e,.int .i64 l'] 29)=W2:=⟨_,rfl⟩
 have hb3:Below K w2 W2:=by rw [← hW2];exact (Below.refl _ w2).alloc (by omega) _
 have p0:W2.heap[K]?=some (.cells #[.int .i64 e,.int .i64 l'] 29):=by rw [← hW2,← hK];exact World.alloc_heap_new _ _
 have hs3:K+1≤W2.heap.size:=by rw [← hW2];simp;omega
 rw [hW2]
 rw [hK]
 rw [hK] at hz2
 have hb4:Below H w W2:=(Aa HB0).trans (((Aa HB2).mono (by omega)).trans (hb3.mono (by omega)))
 have r0:=(hb3.block H (by omega)).trans (((Aa HB2).block H (by omega)).trans (Aa HG0))
 have r1:=(hb3.block (H+1) (by omega)).trans (((Aa HB2).block (H+1) (by omega)).trans (Aa HG1))
 have r2:=(hb3.block (H+1+1) (by omega)).trans (((Aa HB2).block (H+1+1) (by omega)).trans (Aa HG2))
 have r3:=(hb3.block (H+1+1+1) (by omega)).trans (((Aa HB2).block (H+1+1+1) (by omega)).trans (Aa HG3))
 have hkd:=(Aa HKK).below (by rw [hH];exact hb4)
 have hky:=Eu.below (Aa HKS) (by rw [hH];exact hb4)
 have z0:=Ad r0
 have z1:=An r1
 have z2:=Af r2
 have z3:=An r3
 have z4:=Af p0
 have HB4:=Ab hb4
 have HR0:=Ab r0
 have HR1:=Ab r1
 have HR2:=Ab r2
 have HR3:=Ab r3
 have HKD:=Ab hkd
 have HKY:=Ab hky
 clear HW0 hW2 hb3 p0 hb4 r0 r1 r2 r3 x0 hkd hky
 rcases Aa HRS with ⟨hne,hq⟩ | ⟨rfl,rfl,hMD,hq⟩
 ·have j1:(e != 0)=true:=by simpa using hne
  have HNE:=Ab hne
  have HQ:=Ab hq
  clear hne hq HRS
  go_upto_region 4 with fail
  go_region_with_o (fail)
  all_goals go_wp2
  all_goals
   have HE:=C3 (B:=H) (g1:=H+1) (g2:=H+1+1) (w:=w) (Aa HB4) (Aa HR1) (Aa HR2) (by omega) (by omega) (by omega) (.string ⟨#[]⟩) (.string ⟨#[]⟩) (.slice none 0 0) (.int .i64 e) (.int .i64 l')
   exact bodyPost_ret (Al rfl _ _ _ (H+1) (H+1+1) _ _ rfl (Cq HE.2.1) rfl (Ai HE.2.2.1)) rfl ⟨by rw [hH];exact HE.1,Ch.zero,e,l',rfl,Ch.zero_in _,fun g hg=>(Co none g hg).elim,.inr ⟨Aa HQ,Aa HNE,rfl⟩⟩
 ·have HQ:=Ab hq
  have HMD:=Ab hMD
  clear hq HRS hMD
  go_wp2
  go_loopg [6] M (fun g s6 wx=>∃ (i:Nat) (nm tx:List UInt8) (a:Option Addr) (c:Nat) (ss:List Bc),i+g=M∧s6=.int .i64 i∧Hid (P22.keysGo P22.defRd (ks.drop i) (Am (ds.drop i)) ⟨nm,tx,ss.map Bc.bare⟩=RK)∧Hid (Below (H+1+1+1) W2 wx)∧Hid (wx.heap[H+1+1+1]?=some (.cells #[.string ⟨nm.toArray⟩,.string ⟨tx.toArray⟩,.slice a ss.length c] 50)∧Cx.OwnC wx (H+1+1+1+1) 0 (.slice a ss.length c) ss∧∀ g,Cx.ob (.slice a ss.length c) ss g→PB g∨H+1+1+1<g)∧H+1+1+1+1≤wx.heap.size)
  case atStart=>exact ⟨0,[],[],none,0,[],by omega,by go_num,Ab (Aa HRK),Ab (Below.refl _ _),Ab ⟨Aa HR3,El.OwnC.nil _ _ _,fun g hg=>(G4 g hg).elim⟩,by omega⟩
  case round=>
   obtain ⟨i,nm0,tx0,sa0,sc0,ss0,hig,rfl,HE,HBX,HST,hzx⟩:=hrel
   clear z0 z1 z2 z3 z4
   have y0:=((Aa HBX).block H (by omega)).trans (Aa HR0)
   have y1:=((Aa HBX).block (H+1) (by omega)).trans (Aa HR1)
   have y2:=((Aa HBX).block (H+1+1) (by omega)).trans (Aa HR2)
   have hbw:Below H w wr:=(Aa HB4).trans ((Aa HBX).mono (by omega))
   have z0:=Ad y0
   have z1:=An y1
   have z2:=Af y2
   have hbox:wr.heap[H+1+1+1]?=some (.cells #[.string ⟨nm0.toArray⟩,.string ⟨tx0.toArray⟩,.slice sa0 ss0.length sc0] 50):=(Aa HST).1
   have z3:=An hbox
   have HY0:=Ab y0
   have HY1:=Ab y1
   have HY2:=Ab y2
   have HBW:=Ab hbw
   have HBOX:=Ab hbox
   clear y0 y1 y2 hbw hbox
   cases gk with
   | zero=>
    have e1:(M:Int)≤(i:Int):=by omega
    have j1:decide ((i:Int)<(M:Int))=false:=by simp;omega
    have hE:=Aa HE
    rw [List.drop_of_length_le (l:=ds) (by rw [Aa HD,← Aa HMD];omega),List.drop_of_length_le (l:=ks) (by rw [Aa HM];omega)] at hE
    simp only [Am,P22.keysGo] at hE
    have hq:=Aa HQ
    rw [← hE] at hq
    have HQ2:=Ab hq
    clear hE hq HQ HE HRK
    have hik:Eu wr ka ks:=Eu.below (Aa HKS) (by rw [hH];exact Aa HBW)
    have hha:∀ (x:List UInt8) W,Below wr.heap.size wr W→Calls Tryz.prog 62 #[.agg #[.int .u8 k,.string ⟨t.toArray⟩,.slice ka M kc,.slice da D dc,.int .i64 l],.string ⟨x.toArray⟩] W (fun e w'=>e=.returned (.bool (decide (x∈ks)))∧Below W.heap.size W w'):=fun x W hb=>by
     have h:=Ji k t ka kc ks da dc ds l x W (Eu.below hik hb) (by rw [Aa HM];omega)
     rw [Aa HM,Aa HD] at h
     exact h
    have h1w:=hha [115,97,103,97] wr (Below.refl _ _)
    have HHA:=Ab hha
    have hnb:∀ g,(PB g∨H+1+1+1<g)→g≠H+1∧g≠H+1+1∧g≠H+1+1+1:=fun g h1=>by
     have hp:=Aa HPH g
     rcases h1 with h | h
     ·have:=hp h;omega
     ·omega
    have HNB:=Ab hnb
    clear hha hik hnb HKD HKY
    by_cases hm0:[115,97,103,97]∈ks
    ·rw [show decide ([115,97,103,97]∈ks)=true from decide_eq_true hm0] at h1w
     have H1W:=Ab h1w
     clear h1w
     by_cases hm1:[115,116,101,112,115]∈ks
     ·have hq:=Aa HQ2
      have hr:RES=.ok (⟨nm0,tx0,ss0.map Bc.bare⟩:P22.Def):=by
       rw [hq]
       unfold Mp
       simp only [hm0,hm1,and_self,if_true]
      have HR:=Ab hr
      clear hq hr
      go_upto_region 29 with (first
       | (have hqq:=HB7;go_at_call 62;have h2w:=Aa HHA [115,116,101,112,115] w5 (Aa HB7);rw [show decide ([115,116,101,112,115]∈ks)=true from decide_eq_true hm1] at h2w;refine h2w.mono ?_;rintro x6 w6 ⟨rfl,hb6⟩;have hb8:=(Aa HB7).trans (hb6.mono (Aa HB7).size);have y0:=(hb8.block H (by omega)).trans (Aa HY0);have y1:=(hb8.block (H+1) (by omega)).trans (Aa HY1);have y2:=(hb8.block (H+1+1) (by omega)).trans (Aa HY2);have y3:=(hb8.block (H+1+1+1) (by omega)).trans (Aa HBOX);have x0:=Ad y0;have x1:=An y1;have x2:=Af y2;have x3:=An y3;have HB8:=Ab hb8;clear y0 y1 y2 y3 hb6 hb8 h2w)
       | (go_at_call 62;refine (Aa H1W).mono ?_;rintro x5 w5 ⟨rfl,hb5⟩;have w0:=Ad ((hb5.block H (by omega)).trans (Aa HY0));have HB7:=Ab hb5;clear hb5))
      go_wp2
      have HE:=M8 (B:=H) (g1:=H+1) (g2:=H+1+1) (w:=w) ((Aa HBW).trans ((Aa HB8).mono (by omega))) (((Aa HB8).block (H+1) (by omega)).trans (Aa HY1)) (((Aa HB8).block (H+1+1) (by omega)).trans (Aa HY2)) (by omega) (by omega) (by omega) (.string ⟨nm0.toArray⟩) (.string ⟨tx0.toArray⟩) (.slice sa0 ss0.length sc0) (.int .i64 0) (.int .i64 0)
      have hO:=((Aa HST).2.1.stay (fun g hg=>(Aa HB8).block g ((Aa HST).2.1.ob_lt hg).2)).stay (fun g hg=>HE.2.2.2 g (Aa HNB g ((Aa HST).2.2 g hg)).1 (Aa HNB g ((Aa HST).2.2 g hg)).2.1)
      obtain ⟨a',c',e0,e1,e2,e3,e4⟩:=hO.slice
      cases e0
      exact bodyPost_ret (Al rfl _ _ _ (H+1) (H+1+1) _ _ rfl (Cq HE.2.1) rfl (Ai HE.2.2.1)) rfl ⟨by rw [hH];exact HE.1,⟨nm0,tx0,sa0,sc0,ss0⟩,0,0,rfl,⟨e3,e1,e2⟩,fun g hg=>((Aa HST).2.2 g (Ol hg)).imp id (fun h=>by rw [hH];omega),.inl ⟨Aa HR,rfl,rfl⟩⟩
     ·have hq:=Aa HQ2
      have hr:RES=.error (5,l):=by
       rw [hq]
       unfold Mp
       simp only [hm0,hm1,and_false,if_false]
      have HR:=Ab hr
      clear hq hr
      go_upto_region 28 with (first
       | (have hqq:=HB7;go_at_call 62;have h2w:=Aa HHA [115,116,101,112,115] w5 (Aa HB7);rw [show decide ([115,116,101,112,115]∈ks)=false from decide_eq_false hm1] at h2w;refine h2w.mono ?_;rintro x6 w6 ⟨rfl,hb6⟩;have hb8:=(Aa HB7).trans (hb6.mono (Aa HB7).size);have y0:=(hb8.block H (by omega)).trans (Aa HY0);have y1:=(hb8.block (H+1) (by omega)).trans (Aa HY1);have y2:=(hb8.block (H+1+1) (by omega)).trans (Aa HY2);have y3:=(hb8.block (H+1+1+1) (by omega)).trans (Aa HBOX);have x0:=Ad y0;have x1:=An y1;have x2:=Af y2;have x3:=An y3;have HB8:=Ab hb8;clear y0 y1 y2 y3 hb6 hb8 h2w)
       | (go_at_call 62;refine (Aa H1W).mono ?_;rintro x5 w5 ⟨rfl,hb5⟩;have w0:=Ad ((hb5.block H (by omega)).trans (Aa HY0));have HB7:=Ab hb5;clear hb5))
      go_region_with_o (fail)
      all_goals go_wp2
      all_goals
       have HE:=C3 (B:=H) (g1:=H+1) (g2:=H+1+1) (w:=w) ((Aa HBW).trans ((Aa HB8).mono (by omega))) (((Aa HB8).block (H+1) (by omega)).trans (Aa HY1)) (((Aa HB8).block (H+1+1) (by omega)).trans (Aa HY2)) (by omega) (by omega) (by omega) (.string ⟨#[]⟩) (.string ⟨#[]⟩) (.slice none 0 0) (.int .i64 5) (.int .i64 l)
       exact bodyPost_ret (Al rfl _ _ _ (H+1) (H+1+1) _ _ rfl (Cq HE.2.1) rfl (Ai HE.2.2.1)) rfl ⟨by rw [hH];exact HE.1,Ch.zero,5,l,rfl,Ch.zero_in _,fun g hg=>(Co none g hg).elim,.inr ⟨Aa HR,by decide,rfl⟩⟩
    ·have hq:=Aa HQ2
     have hr:RES=.error (5,l):=by
      rw [hq]
      unfold Mp
      simp only [hm0,false_and,if_false]
     have HR:=Ab hr
     rw [show decide ([115,97,103,97]∈ks)=false from decide_eq_false hm0] at h1w
     have H1W:=Ab h1w
     clear h1w hq hr
     go_upto_region 28 with (go_at_call 62;refine (Aa H1W).mono ?_;rintro x6 w6 ⟨rfl,hb8⟩;have y0:=(hb8.block H (by omega)).trans (Aa HY0);have y1:=(hb8.block (H+1) (by omega)).trans (Aa HY1);have y2:=(hb8.block (H+1+1) (by omega)).trans (Aa HY2);have y3:=(hb8.block (H+1+1+1) (by omega)).trans (Aa HBOX);have x0:=Ad y0;have x1:=An y1;have x2:=Af y2;have x3:=An y3;have HB8:=Ab hb8;clear y0 y1 y2 y3 hb8)
     go_region_with_o (fail)
     all_goals go_wp2
     all_goals
      have HE:=C3 (B:=H) (g1:=H+1) (g2:=H+1+1) (w:=w) ((Aa HBW).trans ((Aa HB8).mono (by omega))) (((Aa HB8).block (H+1) (by omega)).trans (Aa HY1)) (((Aa HB8).block (H+1+1) (by omega)).trans (Aa HY2)) (by omega) (by omega) (by omega) (.string ⟨#[]⟩) (.string ⟨#[]⟩) (.slice none 0 0) (.int .i64 5) (.int .i64 l)
      exact bodyPost_ret (Al rfl _ _ _ (H+1) (H+1+1) _ _ rfl (Cq HE.2.1) rfl (Ai HE.2.2.1)) rfl ⟨by rw [hH];exact HE.1,Ch.zero,5,l,rfl,Ch.zero_in _,fun g hg=>(Co none g hg).elim,.inr ⟨Aa HR,by decide,rfl⟩⟩
   | succ g'=>
    have hlt:(i:Int)<(M:Int):=by omega
    have hltD:(i:Int)<(D:Int):=by have:=Aa HMD;omega
    have hki:IntKind.i64.wrap ((i:Int)+1)=(i:Int)+1:=IntWalk.i64_in _ (by omega)
    obtain ⟨d,hg1⟩:=V3 (Aa HD) (show i<D by have:=Aa HMD;omega)
    obtain ⟨y,hgy⟩:=V3 (Aa HM) (show i<M by omega)
    have hkf:=Aa HD5 d (List.mem_of_getElem? hg1)
    have hpk:=Aa HPK d (List.mem_of_getElem? hg1)
    have hdw:d.In w:=(Il (Aa HKK) i d hg1).2
    have hE:=Aa HE
    rw [Cg hg1,show ks.drop i=y :: ks.drop (i+1) by
     obtain ⟨h8,h9⟩:=List.getElem?_eq_some_iff.1 hgy
     rw [List.drop_eq_getElem_cons h8,h9]] at hE
    unfold P22.keysGo at hE
    have HE2:=Ab hE
    clear hE HE HRK
    obtain ⟨b2,o2,k1,t1,ka1,kc1,ks1,da1,dc1,ds1,l1,rfl,rfl,v0,v1,v2,v3,v4,hin1⟩:=Ce ((Aa HKK).below (by rw [hH];exact Aa HBW)) hg1
    obtain ⟨b3,o3,rfl,hky⟩:=Eu.below (Aa HKS) (by rw [hH];exact Aa HBW) i y hgy
    go_upto_region 10 with fail
    obtain ⟨Q,hQ⟩:∃ Q,wr.heap.size=Q:=⟨_,rfl⟩
    obtain ⟨W5,hW5,hb5,p4,p5,hs5⟩:=A0 wr (.cells #[.int .u8 k1,.string ⟨t1.toArray⟩,.slice ka1 ks1.length kc1,.slice da1 ds1.length dc1,.int .i64 l1] 26) (.cells #[.int .i64 0,.int .i64 0] 29) Q hQ
    rw [hW5]
    rw [hQ]
    rw [hQ] at hzx
    have hbw5:Below H w W5:=(Aa HBW).trans (hb5.mono (by omega))
    have hbx5:Below (H+1+1+1) W2 W5:=(Aa HBX).trans (hb5.mono (by omega))
    have hst5:=(hb5.block (H+1+1+1) (by omega)).trans (Aa HBOX)
    have hlt0:∀ g,Cx.ob (.slice sa0 ss0.length sc0) ss0 g→g<Q:=fun g hg=>by rw [← hQ];exact ((Aa HST).2.1.ob_lt hg).2
    have hsi5:Cx.OwnC W5 (H+1+1+1+1) 0 (.slice sa0 ss0.length sc0) ss0:=(Aa HST).2.1.stay (fun g hg=>hb5.block g (hlt0 g hg))
    have hsb5:∀ g,Cx.ob (.slice sa0 ss0.length sc0) ss0 g→(PB g∨H+1+1+1<g)∧g<Q:=fun g hg=>⟨(Aa HST).2.2 g hg,hlt0 g hg⟩
    have y0:=(hb5.block H (by omega)).trans (Aa HY0)
    have y1:=(hb5.block (H+1) (by omega)).trans (Aa HY1)
    have y2:=(hb5.block (H+1+1) (by omega)).trans (Aa HY2)
    have hin5:(Nd.mk k1 t1 ka1 kc1 ks1 da1 dc1 ds1 l1).In W5:=hin1.below (by rw [hQ];exact hb5)
    have hk5:W5.cell? ⟨b3,o3+i,none⟩=some (.string ⟨y.toArray⟩):=(Ag (hb5.block b3 (by rw [← hQ];exact B3 hky)) _).trans hky
    clear z0 z1 z2 z3 v0 v1 v2 v3 v4 hky
    have z0:=Ad y0
    have z3:=An hst5
    have z4:=Ad p4
    have z5:=Af p5
    have hz5:Q+1+1≤W5.heap.size:=by omega
    have HP4:=Ab p4
    have HP5:=Ab p5
    have HBW5:=Ab hbw5
    have HBX5:=Ab hbx5
    have HST5:=Ab hst5
    have HSI5:=Ab hsi5
    have HSB5:=Ab hsb5
    have HIN5:=Ab hin5
    have HY5:=Ab y1
    have HY6:=Ab y2
    have HKF:=Ab hkf
    have HPK1:=Ab hpk
    have HDW:=Ab hdw
    clear hdw hW5 p4 p5 hb5 hs5 hbw5 hbx5 hst5 hsi5 hsb5 hlt0 y0 y1 y2 HY0 HY1 HY2 HBW HBX HST HBOX hkf hpk hgy hg1 hin1 hin5
    by_cases n0n:y=[115,97,103,97]
    ·subst n0n
     have hrd:P22.defRd [115,97,103,97]=some (fun d s=>(P22.textE 64 d).map fun x=>{ s with name:=x }):=rfl
     have hE:=Aa HE2
     rw [hrd] at hE
     have c0:([115,97,103,97] == [115,97,103,97])=true:=by decide
     have HE3:=Ab hE
     clear hE HE2 hrd
     obtain ⟨v,ec,el,hnu,hrn⟩:=Ei k1 t1 ka1 kc1 ks1 da1 dc1 ds1 l1 64 (by have:=(Aa HKF).kid.1;omega)
     have HNU:=Ab (hnu W5)
     clear hnu
     go_upto_region 25 with (go_at_call 60;refine (Aa HNU).mono ?_;rintro x6 w6 ⟨rfl,hb6⟩;have hz6:=hb6.size;have a3:=(hb6.block (H+1+1+1) (by omega)).trans (Aa HST5);have aF:=(hb6.block (Q+1) (by omega)).trans (Aa HP5);have a4:=(hb6.block Q (by omega)).trans (Aa HP4);have zz3:=An a3;have zzF:=Af aF;have zz4:=Ad a4;have HB6:=Ab hb6;have HA3:=Ab a3;have HAF:=Ab aF;have HA4:=Ab a4;clear hb6 a3 aF a4)
     have hb7:Below (H+1+1+1) W2 w6:=(Aa HBX5).trans ((Aa HB6).mono (by omega))
     obtain ⟨e1,e2,e3,e4⟩:=Cr hb7 (Aa HA3) 0 (.string ⟨v.toArray⟩)
     obtain ⟨f1,f2,f3,f4,f5⟩:=C6 (F:=Q+1) e1 e2 ((e3 (Q+1) (by omega)).trans (Aa HAF)) (by omega) (.int .i64 ec) (.int .i64 el)
     obtain ⟨W8,hW8⟩:∃ W8,((w6.setCell ⟨H+1+1+1,0,none⟩ (.string ⟨v.toArray⟩)).setCell ⟨Q+1,0,none⟩ (.int .i64 ec)).setCell ⟨Q+1,1,none⟩ (.int .i64 el)=W8:=⟨_,rfl⟩
     rw [hW8] at f1 f2 f3 f4 f5 ⊢
     have hnb:∀ g,(PB g∨H+1+1+1<g)→g≠H+1∧g≠H+1+1∧g≠H+1+1+1:=fun g h1=>by
      have hp:=Aa HPH g
      rcases h1 with h | h
      ·have:=hp h;omega
      ·omega
     have hold:∀ g,(PB g∨H+1+1+1<g)→g<Q→W8.heap[g]?=W5.heap[g]?:=fun g h1 h2=>((f4 g (by omega)).trans (e3 g (hnb g h1).2.2)).trans ((Aa HB6).block g (by omega))
     have hin8:Cx.OwnC W8 (H+1+1+1+1) 0 (.slice sa0 ss0.length sc0) ss0:=(Aa HSI5).stay (fun g hg=>hold g (Aa HSB5 g hg).1 (Aa HSB5 g hg).2)
     have hbl8:∀ g,Cx.ob (.slice sa0 ss0.length sc0) ss0 g→PB g∨H+1+1+1<g:=fun g hg=>(Aa HSB5 g hg).1
     have f2':W8.heap[H+1+1+1]?=some (.cells #[.string ⟨v.toArray⟩,.string ⟨tx0.toArray⟩,.slice sa0 ss0.length sc0] 50):=f2
     have HRN:=Ab hrn
     have HIN8:=Ab hin8
     have HBL8:=Ab hbl8
     have y0:=(f1.block H (by omega)).trans (Aa HR0)
     have y1:=(f1.block (H+1) (by omega)).trans (Aa HR1)
     have y2:=(f1.block (H+1+1) (by omega)).trans (Aa HR2)
     have hbw8:Below H w W8:=(Aa HB4).trans (f1.mono (by omega))
     clear z0 z3 z4 z5 hk5 zz3 zzF zz4 hrn
     have z0:=Ad y0
     have z1:=An y1
     have z2:=Af y2
     have z3:=An f2'
     have z5:=Af f3
     have HBW8:=Ab hbw8
     have HF1:=Ab f1
     have HF2:=Ab f2'
     have HY1:=Ab y1
     have HY2:=Ab y2
     have HS8:=Ab (show H+1+1+1+1≤W8.heap.size by rw [f5,e4];omega)
     clear hbw8 f1 f2 f2' f3 f4 f5 e1 e2 e3 e4 y0 y1 y2 hW8 hb7 HA3 HAF HA4 HB6 HP4 HP5 HST5 HBX5 HBW5 HY5 HY6 HNU hin8 hbl8 hold hnb HSI5 HSB5 HIN5
     rcases Aa HRN with ⟨hr,rfl,rfl⟩ | ⟨hr,hne⟩
     ·have hE:=Aa HE3
      rw [hr] at hE
      have hE2:P22.keysGo P22.defRd (ks.drop (i+1)) (Am (ds.drop (i+1))) ⟨v,tx0,ss0.map Bc.bare⟩=RK:=hE
      have HE4:=Ab hE2
      clear hE hE2 hr HE3 HRN
      go_wp2
      go_roundg g'
      case measure=>omega
      case rel=>exact ⟨i+1,v,tx0,sa0,sc0,ss0,by omega,by go_num,HE4,HF1,Ab ⟨Aa HF2,Aa HIN8,Aa HBL8⟩,Aa HS8⟩
     ·have j1:(ec != 0)=true:=by simpa using hne
      have hE:=Aa HE3
      rw [hr] at hE
      have hq:=Aa HQ
      rw [show RK=.error (ec,el) from hE.symm] at hq
      have HE4:=Ab (show RES=.error (ec,el) from hq)
      have HNE:=Ab hne
      clear hE hr HE3 HRN hne hq
      go_upto_region 26 with fail
      go_region_with_o (fail)
      all_goals go_wp2
      all_goals
       have HE:=C3 (B:=H) (g1:=H+1) (g2:=H+1+1) (w:=w) (Aa HBW8) (Aa HY1) (Aa HY2) (by omega) (by omega) (by omega) (.string ⟨#[]⟩) (.string ⟨#[]⟩) (.slice none 0 0) (.int .i64 ec) (.int .i64 el)
       exact bodyPost_ret (Al rfl _ _ _ (H+1) (H+1+1) _ _ rfl (Cq HE.2.1) rfl (Ai HE.2.2.1)) rfl ⟨by rw [hH];exact HE.1,Ch.zero,ec,el,rfl,Ch.zero_in _,fun g hg=>(Co none g hg).elim,.inr ⟨Aa HE4,Aa HNE,rfl⟩⟩
    by_cases n1n:y=[116,101,120,116]
    ·subst n1n
     have hrd:P22.defRd [116,101,120,116]=some (fun d s=>(P22.textE 4096 d).map fun x=>{ s with text:=x }):=rfl
     have hE:=Aa HE2
     rw [hrd] at hE
     have c1:([116,101,120,116] == [116,101,120,116])=true:=by decide
     have c0:([116,101,120,116] == [115,97,103,97])=false:=by decide
     have HE3:=Ab hE
     clear hE HE2 hrd
     obtain ⟨v,ec,el,hnu,hrn⟩:=Ei k1 t1 ka1 kc1 ks1 da1 dc1 ds1 l1 4096 (by have:=(Aa HKF).kid.1;omega)
     have HNU:=Ab (hnu W5)
     clear hnu
     go_upto_region 25 with (go_at_call 60;refine (Aa HNU).mono ?_;rintro x6 w6 ⟨rfl,hb6⟩;have hz6:=hb6.size;have a3:=(hb6.block (H+1+1+1) (by omega)).trans (Aa HST5);have aF:=(hb6.block (Q+1) (by omega)).trans (Aa HP5);have a4:=(hb6.block Q (by omega)).trans (Aa HP4);have zz3:=An a3;have zzF:=Af aF;have zz4:=Ad a4;have HB6:=Ab hb6;have HA3:=Ab a3;have HAF:=Ab aF;have HA4:=Ab a4;clear hb6 a3 aF a4)
     have hb7:Below (H+1+1+1) W2 w6:=(Aa HBX5).trans ((Aa HB6).mono (by omega))
     obtain ⟨e1,e2,e3,e4⟩:=Cr hb7 (Aa HA3) 1 (.string ⟨v.toArray⟩)
     obtain ⟨f1,f2,f3,f4,f5⟩:=C6 (F:=Q+1) e1 e2 ((e3 (Q+1) (by omega)).trans (Aa HAF)) (by omega) (.int .i64 ec) (.int .i64 el)
     obtain ⟨W8,hW8⟩:∃ W8,((w6.setCell ⟨H+1+1+1,1,none⟩ (.string ⟨v.toArray⟩)).setCell ⟨Q+1,0,none⟩ (.int .i64 ec)).setCell ⟨Q+1,1,none⟩ (.int .i64 el)=W8:=⟨_,rfl⟩
     rw [hW8] at f1 f2 f3 f4 f5 ⊢
     have hnb:∀ g,(PB g∨H+1+1+1<g)→g≠H+1∧g≠H+1+1∧g≠H+1+1+1:=fun g h1=>by
      have hp:=Aa HPH g
      rcases h1 with h | h
      ·have:=hp h;omega
      ·omega
     have hold:∀ g,(PB g∨H+1+1+1<g)→g<Q→W8.heap[g]?=W5.heap[g]?:=fun g h1 h2=>((f4 g (by omega)).trans (e3 g (hnb g h1).2.2)).trans ((Aa HB6).block g (by omega))
     have hin8:Cx.OwnC W8 (H+1+1+1+1) 0 (.slice sa0 ss0.length sc0) ss0:=(Aa HSI5).stay (fun g hg=>hold g (Aa HSB5 g hg).1 (Aa HSB5 g hg).2)
     have hbl8:∀ g,Cx.ob (.slice sa0 ss0.length sc0) ss0 g→PB g∨H+1+1+1<g:=fun g hg=>(Aa HSB5 g hg).1
     have f2':W8.heap[H+1+1+1]?=some (.cells #[.string ⟨nm0.toArray⟩,.string ⟨v.toArray⟩,.slice sa0 ss0.length sc0] 50):=f2
     have HRN:=Ab hrn
     have HIN8:=Ab hin8
     have HBL8:=Ab hbl8
     have y0:=(f1.block H (by omega)).trans (Aa HR0)
     have y1:=(f1.block (H+1) (by omega)).trans (Aa HR1)
     have y2:=(f1.block (H+1+1) (by omega)).trans (Aa HR2)
     have hbw8:Below H w W8:=(Aa HB4).trans (f1.mono (by omega))
     clear z0 z3 z4 z5 hk5 zz3 zzF zz4 hrn
     have z0:=Ad y0
     have z1:=An y1
     have z2:=Af y2
     have z3:=An f2'
     have z5:=Af f3
     have HBW8:=Ab hbw8
     have HF1:=Ab f1
     have HF2:=Ab f2'
     have HY1:=Ab y1
     have HY2:=Ab y2
     have HS8:=Ab (show H+1+1+1+1≤W8.heap.size by rw [f5,e4];omega)
     clear hbw8 f1 f2 f2' f3 f4 f5 e1 e2 e3 e4 y0 y1 y2 hW8 hb7 HA3 HAF HA4 HB6 HP4 HP5 HST5 HBX5 HBW5 HY5 HY6 HNU hin8 hbl8 hold hnb HSI5 HSB5 HIN5
     rcases Aa HRN with ⟨hr,rfl,rfl⟩ | ⟨hr,hne⟩
     ·have hE:=Aa HE3
      rw [hr] at hE
      have hE2:P22.keysGo P22.defRd (ks.drop (i+1)) (Am (ds.drop (i+1))) ⟨nm0,v,ss0.map Bc.bare⟩=RK:=hE
      have HE4:=Ab hE2
      clear hE hE2 hr HE3 HRN
      go_wp2
      go_roundg g'
      case measure=>omega
      case rel=>exact ⟨i+1,nm0,v,sa0,sc0,ss0,by omega,by go_num,HE4,HF1,Ab ⟨Aa HF2,Aa HIN8,Aa HBL8⟩,Aa HS8⟩
     ·have j1:(ec != 0)=true:=by simpa using hne
      have hE:=Aa HE3
      rw [hr] at hE
      have hq:=Aa HQ
      rw [show RK=.error (ec,el) from hE.symm] at hq
      have HE4:=Ab (show RES=.error (ec,el) from hq)
      have HNE:=Ab hne
      clear hE hr HE3 HRN hne hq
      go_upto_region 26 with fail
      go_region_with_o (fail)
      all_goals go_wp2
      all_goals
       have HE:=C3 (B:=H) (g1:=H+1) (g2:=H+1+1) (w:=w) (Aa HBW8) (Aa HY1) (Aa HY2) (by omega) (by omega) (by omega) (.string ⟨#[]⟩) (.string ⟨#[]⟩) (.slice none 0 0) (.int .i64 ec) (.int .i64 el)
       exact bodyPost_ret (Al rfl _ _ _ (H+1) (H+1+1) _ _ rfl (Cq HE.2.1) rfl (Ai HE.2.2.1)) rfl ⟨by rw [hH];exact HE.1,Ch.zero,ec,el,rfl,Ch.zero_in _,fun g hg=>(Co none g hg).elim,.inr ⟨Aa HE4,Aa HNE,rfl⟩⟩
    by_cases n2n:y=[115,116,101,112,115]
    ·subst n2n
     have hrd:P22.defRd [115,116,101,112,115]=some (fun d s=>(P22.rowE 1024 P22.stepE d).map fun x=>{ s with steps:=x }):=rfl
     have hE:=Aa HE2
     rw [hrd] at hE
     have c2:([115,116,101,112,115] == [115,116,101,112,115])=true:=by decide
     have c0:([115,116,101,112,115] == [115,97,103,97])=false:=by decide
     have c1:([115,116,101,112,115] == [116,101,120,116])=false:=by decide
     have HE3:=Ab hE
     clear hE HE2 hrd
     obtain ⟨ec0,el0,hsh,hrs⟩:=Oc k1 t1 ka1 kc1 ks1 da1 dc1 ds1 l1
     have HNU:=Ab (hsh W5)
     have HRSS:=Ab hrs
     clear hsh hrs
     go_upto_region 19 with (go_at_call 59;refine (Aa HNU).mono ?_;rintro x6 w6 ⟨rfl,hb6⟩;have hz6:=hb6.size;have a3:=(hb6.block (H+1+1+1) (by omega)).trans (Aa HST5);have aF:=(hb6.block (Q+1) (by omega)).trans (Aa HP5);have a4:=(hb6.block Q (by omega)).trans (Aa HP4);have zz3:=An a3;have zzF:=Af aF;have zz4:=Ad a4;have HB6:=Ab hb6;have HA3:=Ab a3;have HAF:=Ab aF;have HA4:=Ab a4;clear hb6 a3 aF a4)
     have hb7:Below (H+1+1+1) W2 w6:=(Aa HBX5).trans ((Aa HB6).mono (by omega))
     obtain ⟨f1,f2,f3,f4,f5⟩:=C6 (F:=Q+1) hb7 (Aa HA3) (Aa HAF) (by omega) (.int .i64 ec0) (.int .i64 el0)
     obtain ⟨e1,e2,e3,e4⟩:=Cr f1 f2 2 (.slice none 0 0)
     obtain ⟨W8,hW8⟩:∃ W8,((w6.setCell ⟨Q+1,0,none⟩ (.int .i64 ec0)).setCell ⟨Q+1,1,none⟩ (.int .i64 el0)).setCell ⟨H+1+1+1,2,none⟩ (.slice none 0 0)=W8:=⟨_,rfl⟩
     rw [hW8] at e1 e2 e3 e4 ⊢
     have e2':W8.heap[H+1+1+1]?=some (.cells #[.string ⟨nm0.toArray⟩,.string ⟨tx0.toArray⟩,.slice none 0 0] 50):=e2
     have f3':=(e3 (Q+1) (by omega)).trans f3
     have f6':=((e3 Q (by omega)).trans (f4 Q (by omega))).trans (Aa HA4)
     have hs8:Q+1+1≤W8.heap.size:=by rw [e4,f5];omega
     have HF1:=Ab e1
     have HF2:=Ab e2'
     have HF3:=Ab f3'
     have HF4:=Ab f6'
     obtain ⟨RJ,hRJ⟩:∃ RJ,P22.rowGo P22.stepE (Am ds1) []=RJ:=⟨_,rfl⟩
     have hrj:(ec0≠0∧P22.rowE 1024 P22.stepE (Nd.mk k1 t1 ka1 kc1 ks1 da1 dc1 ds1 l1).bare=.error (ec0,el0))∨(ec0=0∧el0=0∧ds1.length≤1024∧P22.rowE 1024 P22.stepE (Nd.mk k1 t1 ka1 kc1 ks1 da1 dc1 ds1 l1).bare=RJ):=by rw [← hRJ];exact Aa HRSS
     have HRJ:=Ab hRJ
     have HRSJ:=Ab hrj
     have HINK:=HDW
     have hz0:=An e2'
     have hz1:=Af f3'
     have hz2:=Ad f6'
     have hds:ds1.length≤100000:=by have:=(Aa HKF).kid.2.2.2.1;rw [Bs] at this;exact this
     clear HRSS hrj hRJ e1 e2 e2' e3 e4 f1 f2 f3 f3' f4 f5 f6' hW8 hb7 HA3 HAF HA4 HB6 HP4 HP5 HST5 HBX5 HBW5 HY5 HY6 HNU HSI5 HSB5 HIN5 z0 z3 z4 z5 hk5 zz3 zzF zz4
     go_wp2
     go_loopg [9] ds1.length (fun g s9 wx=>∃ (j:Nat) (a:Option Addr) (c:Nat) (ss:List Bc) (ec el:Int),j+g=ds1.length∧s9=.int .i64 j∧ss.length≤j∧Hid (Below (H+1+1+1) W2 wx)∧Hid (wx.heap[H+1+1+1]?=some (.cells #[.string ⟨nm0.toArray⟩,.string ⟨tx0.toArray⟩,.slice a ss.length c] 50)∧Cx.OwnC wx (H+1+1+1+1) 0 (.slice a ss.length c) ss∧∀ g,Cx.ob (.slice a ss.length c) ss g→PB g∨Q+1<g)∧Hid (wx.heap[Q+1]?=some (.cells #[.int .i64 ec,.int .i64 el] 29)∧wx.heap[Q]?=some (.cells #[.int .u8 k1,.string ⟨t1.toArray⟩,.slice ka1 ks1.length kc1,.slice da1 ds1.length dc1,.int .i64 l1] 26))∧Hid ((ec0=0∧ec=0∧el=0∧P22.rowGo P22.stepE (Am (ds1.drop j)) (ss.map Bc.bare)=RJ)∨(ec≠0∧(ec0=0→RJ=.error (ec,el))∧(ec0≠0→ec=ec0∧el=el0)))∧Q+1+1≤wx.heap.size)
     case atStart=>
      refine ⟨0,none,0,[],ec0,el0,by omega,by go_num,Nat.zero_le _,HF1,Ab ⟨Aa HF2,El.OwnC.nil _ _ _,fun g hg=>(G4 g hg).elim⟩,Ab ⟨Aa HF3,Aa HF4⟩,Ab ?_,hs8⟩
      rcases Aa HRSJ with ⟨h1,h2⟩ | ⟨h1,h2,h3,h4⟩
      ·exact .inr ⟨h1,fun h=>absurd h h1,fun _=>⟨rfl,rfl⟩⟩
      ·exact .inl ⟨h1,h1,h2,Aa HRJ⟩
     case round=>
      obtain ⟨j,sa1,sc1,ss1,ec,el,hjg,rfl,hsl,HBX1,HST1,HFB,HEJ,hzx1⟩:=hrel
      clear hz0 hz1 hz2
      have y0:=((Aa HBX1).block H (by omega)).trans (Aa HR0)
      have y1:=((Aa HBX1).block (H+1) (by omega)).trans (Aa HR1)
      have y2:=((Aa HBX1).block (H+1+1) (by omega)).trans (Aa HR2)
      have hbw1:Below H w wr:=(Aa HB4).trans ((Aa HBX1).mono (by omega))
      have z0:=Ad y0
      have z1:=An y1
      have z2:=Af y2
      have z3:=An (Aa HST1).1
      have z4:=Ad (Aa HFB).2
      have z5:=Af (Aa HFB).1
      have HY1:=Ab y1
      have HY2:=Ab y2
      have HBW1:=Ab hbw1
      clear y0 y1 y2 hbw1
      by_cases hec:ec=0
      ·subst hec
       obtain ⟨h01,h02,hgo⟩:ec0=0∧el=0∧P22.rowGo P22.stepE (Am (ds1.drop j)) (ss1.map Bc.bare)=RJ:=by
        rcases Aa HEJ with ⟨h1,_,h3,h4⟩ | ⟨h1,_⟩
        ·exact ⟨h1,h3,h4⟩
        ·exact absurd rfl h1
       subst h02
       have hre:P22.rowE 1024 P22.stepE (Nd.mk k1 t1 ka1 kc1 ks1 da1 dc1 ds1 l1).bare=RJ:=by
        rcases Aa HRSJ with ⟨h1,_⟩ | ⟨_,_,_,h4⟩
        ·exact absurd h01 h1
        ·exact h4
       have HGO:=Ab hgo
       have HRE:=Ab hre
       have H01:=Ab h01
       clear hgo hre h01 HEJ
       cases gk with
       | zero=>
        have e1:(ds1.length:Int)≤(j:Int):=by omega
        have j1:decide ((j:Int)<(ds1.length:Int))=false:=by simp;omega
        have hgo:=Aa HGO
        rw [List.drop_of_length_le (l:=ds1) (by omega)] at hgo
        simp only [Am,P22.rowGo] at hgo
        have hE:=Aa HE3
        rw [Aa HRE,← hgo] at hE
        have hE2:P22.keysGo P22.defRd (ks.drop (i+1)) (Am (ds.drop (i+1))) ⟨nm0,tx0,ss1.map Bc.bare⟩=RK:=hE
        have HE4:=Ab hE2
        clear hE hE2 hgo HGO
        go_wp2
        go_roundg g'
        case measure=>omega
        case rel=>exact ⟨i+1,nm0,tx0,sa1,sc1,ss1,by omega,by go_num,HE4,HBX1,Ab ⟨(Aa HST1).1,(Aa HST1).2.1,fun g hg=>((Aa HST1).2.2 g hg).imp id (fun h=>by omega)⟩,by omega⟩
       | succ g2=>
        have hlt2:(j:Int)<(ds1.length:Int):=by omega
        have hkj:IntKind.i64.wrap ((j:Int)+1)=(j:Int)+1:=IntWalk.i64_in _ (by omega)
        obtain ⟨d3,hg3⟩:=V3 (rfl:ds1.length=ds1.length) (show j<ds1.length by omega)
        have hk3:okF d3.bare:=(Aa HKF).kid.2.2.2.2 _ (by rw [Ci];exact List.mem_map_of_mem (List.mem_of_getElem? hg3))
        have hp3:∀ g,d3.blk g→PB g:=fun g hg=>Aa HPK1 g (Kx k1 t1 ka1 kc1 ks1 da1 dc1 ds1 l1 (List.mem_of_getElem? hg3) hg)
        have hgo:=Aa HGO
        rw [Cg hg3] at hgo
        unfold P22.rowGo at hgo
        have HGO2:=Ab hgo
        have hkk1:=(Aa HINK).kids
        simp only [Nd.da,Nd.kids] at hkk1
        clear hgo HGO
        go_upto_region 23 with fail
        obtain ⟨P,hP⟩:∃ P,wr.heap.size=P:=⟨_,rfl⟩
        obtain ⟨W9,hW9⟩:∃ W9,wr.alloc (.cells #[.string ⟨#[]⟩,.string ⟨#[]⟩,.string ⟨#[]⟩,.slice none 0 0,.int .i64 0,.int .i64 0,.int .i64 0,.int .i64 0,.int .u8 0,.string ⟨#[]⟩,.slice none 0 0,.slice none 0 0,.int .i64 0] 86)=W9:=⟨_,rfl⟩
        rw [hW9]
        rw [hP]
        rw [hP] at hzx1
        have hb9:Below P wr W9:=by rw [← hW9];exact (Below.refl _ wr).alloc (by omega) _
        have p9:W9.heap[P]?=some (.cells #[.string ⟨#[]⟩,.string ⟨#[]⟩,.string ⟨#[]⟩,.slice none 0 0,.int .i64 0,.int .i64 0,.int .i64 0,.int .i64 0,.int .u8 0,.string ⟨#[]⟩,.slice none 0 0,.slice none 0 0,.int .i64 0] 86):=by rw [← hW9,← hP];exact World.alloc_heap_new _ _
        have hs9:P+1≤W9.heap.size:=by rw [← hW9];simp;omega
        have hbw9:Below H w W9:=(Aa HBW1).trans (hb9.mono (by omega))
        obtain ⟨b4,o4,k3,t3,ka3,kc3,ks3,da3,dc3,ds3,l3,rfl,rfl,v0,v1,v2,v3,v4,hin3⟩:=Ce (hkk1.below (by rw [hH];exact hbw9)) hg3
        have hsc:=Qf k3 t3 ka3 kc3 ks3 da3 dc3 ds3 l3 W9 hin3 hk3
        obtain ⟨RS,hRS⟩:∃ RS,P22.stepE (Nd.mk k3 t3 ka3 kc3 ks3 da3 dc3 ds3 l3).bare=RS:=⟨_,rfl⟩
        rw [hRS] at hsc
        have m0:=(hb9.block H (by omega)).trans ((((Aa HBX1).block H (by omega)).trans (Aa HR0)))
        have m3:=(hb9.block (H+1+1+1) (by omega)).trans (Aa HST1).1
        have m4:=(hb9.block Q (by omega)).trans (Aa HFB).2
        have m5:=(hb9.block (Q+1) (by omega)).trans (Aa HFB).1
        clear z0 z1 z2 z3 z4 z5
        have z4:=Ad m4
        have HSC:=Ab hsc
        have HRS3:=Ab hRS
        have HB9:=Ab hb9
        have HP9:=Ab p9
        have HM3:=Ab m3
        have HM4:=Ab m4
        have HM5:=Ab m5
        have HP3:=Ab hp3
        clear hW9 hb9 p9 hbw9 hsc hRS m0 m3 m4 m5 hp3 hk3 hkk1 hin3 hg3
        go_upto_region 24 with (go_at_call 61;refine (Aa HSC).mono ?_;rintro x6 w6 ⟨hb6,⟨n5,a5,u5,aa5,ac5,af5,q5,fi5,fa5,li5,⟨k5,t5,ka5,kc5,ks5,da5,dc5,ds5,l5⟩⟩,ec5,el5,rfl,hx1,hx2,hx3⟩;rw [Bc.val_eq];have hz6:=hb6.size;have aP:=(hb6.block P (by omega)).trans (Aa HP9);have aF:=(hb6.block (Q+1) (by omega)).trans (Aa HM5);have zzP:=A2 aP;have zzF:=Af aF;have HB6:=Ab hb6;have HAP:=Ab aP;have HAF:=Ab aF;have HX1:=Ab hx1;have HX2:=Ab hx2;have HX3:=Ab hx3;clear hb6 aP aF hx1 hx2 hx3)
        have hb6:=Aa HB6
        have hb7:Below (H+1+1+1) W2 w6:=(Aa HBX1).trans (((Aa HB9).mono (by omega)).trans (hb6.mono (by omega)))
        obtain ⟨W7,hW7,g1,g2',g3,g4,g5⟩:=Q2 (B:=H+1+1+1) (P:=P) (F:=Q+1) hb7 (by omega) (by omega) (by omega) (Aa HAP) (Aa HAF) (.string ⟨n5.toArray⟩) (.string ⟨a5.toArray⟩) (.string ⟨u5.toArray⟩) (.slice aa5 af5.length ac5) (.int .i64 q5) (.int .i64 fi5) (.int .i64 fa5) (.int .i64 li5) (.int .u8 k5) (.string ⟨t5.toArray⟩) (.slice ka5 ks5.length kc5) (.slice da5 ds5.length dc5) (.int .i64 l5) (.int .i64 ec5) (.int .i64 el5)
        rw [hW7]
        have hold:∀ g,g<P→g≠Q+1→W7.heap[g]?=wr.heap[g]?:=fun g h1 h2=>((g4 g (by omega) h2).trans (hb6.block g (by omega))).trans ((Aa HB9).block g h1)
        have hlt1:∀ g,Cx.ob (.slice sa1 ss1.length sc1) ss1 g→g<P:=fun g hg=>by rw [← hP];exact ((Aa HST1).2.1.ob_lt hg).2
        have hob1:∀ g,Cx.ob (.slice sa1 ss1.length sc1) ss1 g→(PB g∨Q+1<g)∧g≠Q+1∧g≠H+1+1+1:=fun g hg=>by
         have hp:=Aa HPH g
         rcases (Aa HST1).2.2 g hg with h | h
         ·have:=hp h;exact ⟨.inl h,by omega,by omega⟩
         ·exact ⟨.inr h,by omega,by omega⟩
        have hown7:Cx.OwnC W7 (H+1+1+1+1) 0 (.slice sa1 ss1.length sc1) ss1:=(Aa HST1).2.1.stay (fun g hg=>hold g (hlt1 g hg) (hob1 g hg).2.1)
        have hx2:=Aa HX2
        have hxn:∀ g,(⟨n5,a5,u5,aa5,ac5,af5,q5,fi5,fa5,li5,.mk k5 t5 ka5 kc5 ks5 da5 dc5 ds5 l5⟩:Bc).blk g→(PB g∨P<g):=fun g hg=>(hx2 g hg).imp (fun h=>Aa HP3 g h) (fun h=>by omega)
        have hxp:∀ g,(⟨n5,a5,u5,aa5,ac5,af5,q5,fi5,fa5,li5,.mk k5 t5 ka5 kc5 ks5 da5 dc5 ds5 l5⟩:Bc).blk g→g≠P∧g≠Q+1:=fun g hg=>by
         have hp:=Aa HPH g
         rcases hxn g hg with h | h
         ·have:=hp h;omega
         ·omega
        have hxi:(⟨n5,a5,u5,aa5,ac5,af5,q5,fi5,fa5,li5,.mk k5 t5 ka5 kc5 ks5 da5 dc5 ds5 l5⟩:Bc).In W7:=(Aa HX1).keep (fun g hg=>g4 g (hxp g hg).1 (hxp g hg).2)
        have hxs:∀ g,(⟨n5,a5,u5,aa5,ac5,af5,q5,fi5,fa5,li5,.mk k5 t5 ka5 kc5 ks5 da5 dc5 ds5 l5⟩:Bc).blk g→(Value.slice sa1 ss1.length sc1).ownBlock≠some g:=fun g hg hq=>by
         have h1:=Ao (Aa HST1).2.1.own g hq
         have hp:=Aa HPH g
         rcases hxn g hg with h | h
         ·have:=hp h;omega
         ·omega
        have r3:=(hold (H+1+1+1) (by omega) (by omega)).trans (Aa HST1).1
        have r4:=(hold Q (by omega) (by omega)).trans (Aa HFB).2
        have w3:=An r3
        have wP:=A2 g2'
        have hz7:P+1≤W7.heap.size:=by rw [g5];omega
        have HG1:=Ab g1
        have HG3:=Ab g3
        have HOW7:=Ab hown7
        have HXI:=Ab hxi
        have HXS:=Ab hxs
        have HXN:=Ab hxn
        have HRB3:=Ab r3
        have HRB4:=Ab r4
        have HLT1:=Ab hlt1
        have HOB1:=Ab hob1
        have hl1:ss1.length+1≤1000000000:=by omega
        clear hb6 hb7 hW7 g1 g2' g3 g4 g5 hold hlt1 hob1 hown7 hx2 hxn hxp hxi hxs r3 r4 zzP zzF z4 v0 v1 v2 v3 v4
        go_upto_region 21 with (at_builtin;refine El.wpList_app Sn (by decide) rfl (.tmp 81) (.tmp 83) rfl rfl (Aa HOW7) (x:=(⟨n5,a5,u5,aa5,ac5,af5,q5,fi5,fa5,li5,.mk k5 t5 ka5 kc5 ks5 da5 dc5 ds5 l5⟩:Bc)) rfl (Aa HXI) (fun _ _=>Nat.zero_le _) (Aa HXS) rfl hl1 (by omega) ?_;intro a9 c9 w9 hS9 hg9 hat9;have u9:=An ((hg9.block (H+1+1+1) (by omega) (fun q=>by have:=(Ao (Aa HOW7).own _ q.symm).1;omega)).trans (Aa HRB3));have HS9:=Ab hS9;have HG9:=Ab hg9;have HAT9:=Ab hat9;clear hS9 hg9 hat9)
        have hg9:=Aa HG9
        have hS9:=Aa HS9
        have hr1:∀ g,(Value.slice sa1 ss1.length sc1).ownBlock=some g→H+1+1+1<g∧g≠Q+1∧g≠Q:=fun g hq=>by
         have h1:=(Ao (Aa HOW7).own g hq).1
         have h2:=Aa HOB1 g (.inl hq)
         have hp:=Aa HPH g
         rcases h2.1 with h | h
         ·have:=hp h;omega
         ·omega
        have hb9':Below (H+1+1+1) W2 w9:=⟨hg9.os.trans (Aa HG1).os,hg9.tape.trans (Aa HG1).tape,hg9.output.trans (Aa HG1).output,Nat.le_trans (Aa HG1).size hg9.size,fun g hg=>(hg9.block g (by omega) (fun q=>by have:=(hr1 g q.symm).1;omega)).trans ((Aa HG1).block g hg)⟩
        have m3:=(hg9.block (H+1+1+1) (by omega) (fun q=>by have:=(hr1 _ q.symm).1;omega)).trans (Aa HRB3)
        have m4:=(hg9.block Q (by omega) (fun q=>(hr1 _ q.symm).2.2 rfl)).trans (Aa HRB4)
        have m5:=(hg9.block (Q+1) (by omega) (fun q=>(hr1 _ q.symm).2.1 rfl)).trans (Aa HG3)
        obtain ⟨e1,e2,e3,e4⟩:=Cr hb9' m3 2 (.slice a9 (ss1.length+1) c9)
        obtain ⟨W10,hW10⟩:∃ W10,w9.setCell ⟨H+1+1+1,2,none⟩ (.slice a9 (ss1.length+1) c9)=W10:=⟨_,rfl⟩
        rw [hW10] at e1 e2 e3 e4 ⊢
        have hobn:∀ g,Cx.ob (.slice a9 (ss1.length+1) c9) (ss1 ++ [(⟨n5,a5,u5,aa5,ac5,af5,q5,fi5,fa5,li5,.mk k5 t5 ka5 kc5 ks5 da5 dc5 ds5 l5⟩:Bc)]) g→(PB g∨Q+1<g)∧g≠H+1+1+1:=fun g hg=>by
         have hp:=Aa HPH g
         rcases El.ob_more (Aa HAT9) hg with h | h | h
         ·have h2:=Aa HOB1 g h
          exact ⟨h2.1,h2.2.2⟩
         ·rcases Aa HXN g h with h2 | h2
          ·have:=hp h2;exact ⟨.inl h2,by omega⟩
          ·exact ⟨.inr (by omega),by omega⟩
         ·exact ⟨.inr (by omega),by omega⟩
        have hlen:(ss1 ++ [(⟨n5,a5,u5,aa5,ac5,af5,q5,fi5,fa5,li5,.mk k5 t5 ka5 kc5 ks5 da5 dc5 ds5 l5⟩:Bc)]).length=ss1.length+1:=by simp
        have hnew:W10.heap[H+1+1+1]?=some (.cells #[.string ⟨nm0.toArray⟩,.string ⟨tx0.toArray⟩,.slice a9 (ss1 ++ [(⟨n5,a5,u5,aa5,ac5,af5,q5,fi5,fa5,li5,.mk k5 t5 ka5 kc5 ks5 da5 dc5 ds5 l5⟩:Bc)]).length c9] 50)∧Cx.OwnC W10 (H+1+1+1+1) 0 (.slice a9 (ss1 ++ [(⟨n5,a5,u5,aa5,ac5,af5,q5,fi5,fa5,li5,.mk k5 t5 ka5 kc5 ks5 da5 dc5 ds5 l5⟩:Bc)]).length c9) (ss1 ++ [(⟨n5,a5,u5,aa5,ac5,af5,q5,fi5,fa5,li5,.mk k5 t5 ka5 kc5 ks5 da5 dc5 ds5 l5⟩:Bc)])∧∀ g,Cx.ob (.slice a9 (ss1 ++ [(⟨n5,a5,u5,aa5,ac5,af5,q5,fi5,fa5,li5,.mk k5 t5 ka5 kc5 ks5 da5 dc5 ds5 l5⟩:Bc)]).length c9) (ss1 ++ [(⟨n5,a5,u5,aa5,ac5,af5,q5,fi5,fa5,li5,.mk k5 t5 ka5 kc5 ks5 da5 dc5 ds5 l5⟩:Bc)]) g→PB g∨Q+1<g:=by
         rw [hlen]
         exact ⟨e2,hS9.stay (fun g hg=>e3 g (hobn g hg).2),fun g hg=>(hobn g hg).1⟩
        have HNEW:=Ab hnew
        have HE1:=Ab e1
        have HFBN:=Ab (show W10.heap[Q+1]?=some (.cells #[.int .i64 ec5,.int .i64 el5] 29)∧W10.heap[Q]?=some (.cells #[.int .u8 k1,.string ⟨t1.toArray⟩,.slice ka1 ks1.length kc1,.slice (some ⟨b4,o4,none⟩) ds1.length dc1,.int .i64 l1] 26) from ⟨(e3 _ (by omega)).trans m5,(e3 _ (by omega)).trans m4⟩)
        have hsN:Q+1+1≤W10.heap.size:=by rw [e4];have:=hg9.size;omega
        clear hg9 hS9 hr1 hb9' m3 m4 m5 e1 e2 e3 e4 hW10 hobn hnew u9 w3 wP HS9 HG9 HAT9 HG1 HG3 HOW7 HXI HXS HXN HRB3 HRB4 HLT1 HOB1
        have hej:(ec0=0∧ec5=0∧el5=0∧P22.rowGo P22.stepE (Am (ds1.drop (j+1))) ((ss1 ++ [(⟨n5,a5,u5,aa5,ac5,af5,q5,fi5,fa5,li5,.mk k5 t5 ka5 kc5 ks5 da5 dc5 ds5 l5⟩:Bc)]).map Bc.bare)=RJ)∨(ec5≠0∧(ec0=0→RJ=.error (ec5,el5))∧(ec0≠0→ec5=ec0∧el5=0)):=by
         have hgo:=Aa HGO2
         rw [Aa HRS3] at hgo
         rcases Aa HX3 with ⟨h1,h2,h3⟩ | ⟨h1,h2⟩
         ·rw [h1] at hgo
          refine .inl ⟨Aa H01,h2,h3,?_⟩
          rw [List.map_append]
          exact hgo
         ·rw [h1] at hgo
          exact .inr ⟨h2,fun _=>hgo.symm,fun h=>absurd (Aa H01) h⟩
        have HEJN:=Ab hej
        clear hej HGO2 HRS3 HX3
        go_wp2
        go_roundg g2
        case measure=>omega
        case rel=>exact ⟨j+1,a9,c9,ss1 ++ [(⟨n5,a5,u5,aa5,ac5,af5,q5,fi5,fa5,li5,.mk k5 t5 ka5 kc5 ks5 da5 dc5 ds5 l5⟩:Bc)],ec5,el5,by omega,by go_num,by rw [hlen];omega,HE1,HNEW,HFBN,Ab ((Aa HEJN).imp id (fun h=>⟨h.1,h.2.1,fun q=>absurd (Aa H01) q⟩)),hsN⟩
      ·have j1:(ec != 0)=true:=by simpa using hec
       have j0:(ec == 0)=false:=by simpa using hec
       have hre:P22.rowE 1024 P22.stepE (Nd.mk k1 t1 ka1 kc1 ks1 da1 dc1 ds1 l1).bare=.error (ec,el):=by
        rcases Aa HEJ with ⟨_,h1,_⟩ | ⟨h1,h2,h3⟩
        ·exact absurd h1 hec
        ·rcases Aa HRSJ with ⟨h4,h5⟩ | ⟨h4,_,_,h5⟩
         ·rw [h5,(h3 h4).1,(h3 h4).2]
         ·rw [h5,h2 h4]
       have hE:=Aa HE3
       rw [hre] at hE
       have hq:=Aa HQ
       rw [show RK=.error (ec,el) from hE.symm] at hq
       have HE4:=Ab (show RES=.error (ec,el) from hq)
       have HNE:=Ab hec
       clear hE hq hre hec HE3 HEJ
       cases gk with
       | zero=>
        have e1:(ds1.length:Int)≤(j:Int):=by omega
        have j2:decide ((j:Int)<(ds1.length:Int))=false:=by simp;omega
        go_upto_region 26 with fail
        go_region_with_o (fail)
        all_goals go_wp2
        all_goals
         have HE:=C3 (B:=H) (g1:=H+1) (g2:=H+1+1) (w:=w) (Aa HBW1) (Aa HY1) (Aa HY2) (by omega) (by omega) (by omega) (.string ⟨#[]⟩) (.string ⟨#[]⟩) (.slice none 0 0) (.int .i64 ec) (.int .i64 el)
         exact bodyPost_ret (Al rfl _ _ _ (H+1) (H+1+1) _ _ rfl (Cq HE.2.1) rfl (Ai HE.2.2.1)) rfl ⟨by rw [hH];exact HE.1,Ch.zero,ec,el,rfl,Ch.zero_in _,fun g hg=>(Co none g hg).elim,.inr ⟨Aa HE4,Aa HNE,rfl⟩⟩
       | succ g2=>
        have hlt2:(j:Int)<(ds1.length:Int):=by omega
        go_upto_region 26 with fail
        go_region_with_o (fail)
        all_goals go_wp2
        all_goals
         have HE:=C3 (B:=H) (g1:=H+1) (g2:=H+1+1) (w:=w) (Aa HBW1) (Aa HY1) (Aa HY2) (by omega) (by omega) (by omega) (.string ⟨#[]⟩) (.string ⟨#[]⟩) (.slice none 0 0) (.int .i64 ec) (.int .i64 el)
         exact bodyPost_ret (Al rfl _ _ _ (H+1) (H+1+1) _ _ rfl (Cq HE.2.1) rfl (Ai HE.2.2.1)) rfl ⟨by rw [hH];exact HE.1,Ch.zero,ec,el,rfl,Ch.zero_in _,fun g hg=>(Co none g hg).elim,.inr ⟨Aa HE4,Aa HNE,rfl⟩⟩
    have hrd:P22.defRd y=none:=by unfold P22.defRd;rw [if_neg n0n,if_neg n1n,if_neg n2n]
    have hE:=Aa HE2
    rw [hrd] at hE
    have hq:=Aa HQ
    rw [show RK=.error (18,l1) from hE.symm] at hq
    have HE4:=Ab (show RES=.error (18,l1) from hq)
    have c0:(y == [115,97,103,97])=false:=by simpa using n0n
    have c1:(y == [116,101,120,116])=false:=by simpa using n1n
    have c2:(y == [115,116,101,112,115])=false:=by simpa using n2n
    clear hE HE2 hrd hq
    go_upto_region 25 with fail
    obtain ⟨f1,f2,f3,f4,f5⟩:=C6 (F:=Q+1) (Aa HBX5) (Aa HST5) (Aa HP5) (by omega) (.int .i64 18) (.int .i64 l1)
    obtain ⟨W8,hW8⟩:∃ W8,(W5.setCell ⟨Q+1,0,none⟩ (.int .i64 18)).setCell ⟨Q+1,1,none⟩ (.int .i64 l1)=W8:=⟨_,rfl⟩
    rw [hW8] at f1 f2 f3 f4 f5 ⊢
    have y0:=(f1.block H (by omega)).trans (Aa HR0)
    have y1:=(f1.block (H+1) (by omega)).trans (Aa HR1)
    have y2:=(f1.block (H+1+1) (by omega)).trans (Aa HR2)
    have hbw8:Below H w W8:=(Aa HB4).trans (f1.mono (by omega))
    clear z0 z3 z4 z5 hk5
    have z0:=Ad y0
    have z1:=An y1
    have z2:=Af y2
    have z5:=Af f3
    have HBW8:=Ab hbw8
    have HY1:=Ab y1
    have HY2:=Ab y2
    clear hbw8 f1 f2 f3 f4 f5 y0 y1 y2 hW8 HP4 HP5 HST5 HBX5 HBW5 HY5 HY6 HSI5 HSB5 HIN5
    go_upto_region 26 with fail
    go_region_with_o (fail)
    all_goals go_wp2
    all_goals
     have HE:=C3 (B:=H) (g1:=H+1) (g2:=H+1+1) (w:=w) (Aa HBW8) (Aa HY1) (Aa HY2) (by omega) (by omega) (by omega) (.string ⟨#[]⟩) (.string ⟨#[]⟩) (.slice none 0 0) (.int .i64 18) (.int .i64 l1)
     exact bodyPost_ret (Al rfl _ _ _ (H+1) (H+1+1) _ _ rfl (Cq HE.2.1) rfl (Ai HE.2.2.1)) rfl ⟨by rw [hH];exact HE.1,Ch.zero,18,l1,rfl,Ch.zero_in _,fun g hg=>(Co none g hg).elim,.inr ⟨Aa HE4,by decide,rfl⟩⟩
end Go.Proofs.YtnjokdbblmlhhaaGreatDoor
