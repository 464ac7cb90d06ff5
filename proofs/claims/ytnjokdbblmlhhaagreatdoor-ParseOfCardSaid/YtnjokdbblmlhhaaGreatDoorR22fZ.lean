/- Lemmas of this claim. -/
import Derived.Test.YtnjokdbblmlhhaaGreatDoorR22aZ
import Derived.Test.YtnjokdbblmlhhaaGreatDoorRetZ
namespace Go.Proofs.YtnjokdbblmlhhaaGreatDoor
set_option linter.unusedVariables false
set_option linter.unusedSimpArgs false
open Go.RowKit
open P20 (okF)
def Vh (P:Nat→Prop) (w:World) (res:Except P22.F P22.Step) (e:Ending) (w':World):Prop:=
 Below w.heap.size w w'∧∃ (x:Bc) (ec el:Int),e=.returned (.tuple #[x.val,fV ec el])∧x.In w'∧(∀ g,x.blk g→P g∨w.heap.size≤g)∧((res=.ok x.bare∧ec=0∧el=0)∨(res=.error (ec,el)∧ec≠0))
def Hg (r:Except P22.F P22.Step) (ks:List (List UInt8)) (l:Int):Except P22.F P22.Step:=match r with
 | .error x=>.error x
 | .ok s'=>if ([110,97,109,101]∈ks∧[97,99,116,105,111,110]∈ks) then .ok s' else .error (5,l)
theorem Kx (k:Nat) (t:List UInt8) (ka:Option Addr) (kc:Nat) (ks:List (List UInt8)) (da:Option Addr) (dc:Nat) (ds:List Nd) (l:Int) {d:Nd} (hd:d∈ds) {g:Nat} (hg:d.blk g):(Nd.mk k t ka kc ks da dc ds l).blk g:=by
 rw [Es]
 exact .inr (.inr ((Eo g ds).2 ⟨d,hd,hg⟩))
theorem Hc (g:Nat):¬ Bc.zero.blk g:=fun h=>by
 rcases h with ⟨h,_⟩ | h
 ·exact h rfl
 ·exact Nd.zero_blk g h
set_option maxRecDepth 100000 in
set_option maxHeartbeats 32000000 in
theorem Qf (k:Nat) (t:List UInt8) (ka:Option Addr) (kc:Nat) (ks:List (List UInt8)) (da:Option Addr) (dc:Nat) (ds:List Nd) (l:Int) (w:World) (hin:(Nd.mk k t ka kc ks da dc ds l).In w) (hok:okF (Nd.mk k t ka kc ks da dc ds l).bare):Calls Tryz.prog 61 #[.agg #[.int .u8 k,.string ⟨t.toArray⟩,.slice ka ks.length kc,.slice da ds.length dc,.int .i64 l]] w (Vh (fun g=>(Nd.mk k t ka kc ks da dc ds l).blk g) w (P22.stepE (Nd.mk k t ka kc ks da dc ds l).bare)):=by
 obtain ⟨q1,q2,q3,q4,q5⟩:=hok.kid
 rw [Bs] at q4
 have hkk:=hin.kids
 have hks:=hin.fit.keys
 simp only [Nd.da,Nd.kids,Nd.ka,Nd.keys] at hkk hks
 have hd5:∀ d∈ds,okF d.bare:=fun d hd=>q5 _ (by rw [Ci];exact List.mem_map_of_mem hd)
 obtain ⟨H,hH⟩:∃ H,w.heap.size=H:=⟨_,rfl⟩
 obtain ⟨PB,hPB⟩:∃ PB:Nat→Prop,PB=fun g=>(Nd.mk k t ka kc ks da dc ds l).blk g:=⟨_,rfl⟩
 have hPH:∀ g,PB g→g<H:=fun g hg=>by rw [hPB] at hg;rw [← hH];exact hin.lt hg
 have hPK:∀ d∈ds,∀ g,d.blk g→PB g:=fun d hd g hg=>by rw [hPB];exact Kx k t ka kc ks da dc ds l hd hg
 rw [← hPB]
 clear hPB
 obtain ⟨M,hM⟩:∃ M,ks.length=M:=⟨_,rfl⟩
 obtain ⟨D,hD⟩:∃ D,ds.length=D:=⟨_,rfl⟩
 obtain ⟨RES,hRES⟩:∃ RES,P22.stepE (Nd.mk k t ka kc ks da dc ds l).bare=RES:=⟨_,rfl⟩
 obtain ⟨RK,hRK⟩:∃ RK,P22.keysGo P22.stepRd ks (Am ds) P22.Step.zero=RK:=⟨_,rfl⟩
 obtain ⟨e,l',hsh',hres⟩:=Gv P22.stepRd [[110,97,109,101],[97,99,116,105,111,110]] P22.Step.zero k t ka kc ks da dc ds l
 have hres2:(e≠0∧RES=.error (e,l'))∨(e=0∧l'=0∧M=D∧RES=Hg RK ks l):=by
  rw [← hRES]
  unfold P22.stepE
  rcases hres with h | ⟨h1,h2,h3,h4⟩
  ·exact .inl h
  ·refine .inr ⟨h1,h2,by omega,h4.trans ?_⟩
   rw [← hRK]
   unfold Hg
   cases P22.keysGo P22.stepRd ks (Am ds) P22.Step.zero with
   | error x=>rfl
   | ok s'=>simp
 rw [hRES]
 clear hres hRES
 rw [hM,hD] at hsh' ⊢
 rw [hM] at q2
 rw [hD] at q4
 have hmw:∀ (os:List Obj),os=[.cells #[.int .u8 k,.string ⟨t.toArray⟩,.slice ka M kc,.slice da D dc,.int .i64 l] 26,.cells #[.string ⟨#[]⟩,.string ⟨#[]⟩,.string ⟨#[]⟩,.slice none 0 0,.int .i64 0,.int .i64 0,.int .i64 0,.int .i64 0,.int .u8 0,.string ⟨#[]⟩,.slice none 0 0,.slice none 0 0,.int .i64 0] 86,.cells #[.int .i64 0,.int .i64 0] 29,.cells #[.string ⟨#[]⟩,.string ⟨#[]⟩,.string ⟨#[]⟩,.slice none 0 0,.int .i64 0,.int .i64 0,.int .i64 0,.int .i64 0,.int .u8 0,.string ⟨#[]⟩,.slice none 0 0,.slice none 0 0,.int .i64 0] 86]→Below w.heap.size w (os.foldl World.alloc w)∧(os.foldl World.alloc w).heap.size=w.heap.size+os.length∧∀ i o,os[i]?=some o→(os.foldl World.alloc w).heap[w.heap.size+i]?=some o:=fun os _=>Cf os w
 obtain ⟨hb0,hs0,ha0⟩:=hmw _ rfl
 obtain ⟨W0,hW0⟩:∃ W0,(((w.alloc (.cells #[.int .u8 k,.string ⟨t.toArray⟩,.slice ka M kc,.slice da D dc,.int .i64 l] 26)).alloc (.cells #[.string ⟨#[]⟩,.string ⟨#[]⟩,.string ⟨#[]⟩,.slice none 0 0,.int .i64 0,.int .i64 0,.int .i64 0,.int .i64 0,.int .u8 0,.string ⟨#[]⟩,.slice none 0 0,.slice none 0 0,.int .i64 0] 86)).alloc (.cells #[.int .i64 0,.int .i64 0] 29)).alloc (.cells #[.string ⟨#[]⟩,.string ⟨#[]⟩,.string ⟨#[]⟩,.slice none 0 0,.int .i64 0,.int .i64 0,.int .i64 0,.int .i64 0,.int .u8 0,.string ⟨#[]⟩,.slice none 0 0,.slice none 0 0,.int .i64 0] 86)=W0:=⟨_,rfl⟩
 rw [show ([.cells #[.int .u8 k,.string ⟨t.toArray⟩,.slice ka M kc,.slice da D dc,.int .i64 l] 26,.cells #[.string ⟨#[]⟩,.string ⟨#[]⟩,.string ⟨#[]⟩,.slice none 0 0,.int .i64 0,.int .i64 0,.int .i64 0,.int .i64 0,.int .u8 0,.string ⟨#[]⟩,.slice none 0 0,.slice none 0 0,.int .i64 0] 86,.cells #[.int .i64 0,.int .i64 0] 29,.cells #[.string ⟨#[]⟩,.string ⟨#[]⟩,.string ⟨#[]⟩,.slice none 0 0,.int .i64 0,.int .i64 0,.int .i64 0,.int .i64 0,.int .u8 0,.string ⟨#[]⟩,.slice none 0 0,.slice none 0 0,.int .i64 0] 86]:List Obj).foldl World.alloc w=W0 from hW0,hH] at hb0 hs0 ha0
 replace hs0:W0.heap.size=H+1+1+1+1:=hs0
 have g0:W0.heap[H]?=some (.cells #[.int .u8 k,.string ⟨t.toArray⟩,.slice ka M kc,.slice da D dc,.int .i64 l] 26):=ha0 0 _ rfl
 have g1:W0.heap[H+1]?=some (.cells #[.string ⟨#[]⟩,.string ⟨#[]⟩,.string ⟨#[]⟩,.slice none 0 0,.int .i64 0,.int .i64 0,.int .i64 0,.int .i64 0,.int .u8 0,.string ⟨#[]⟩,.slice none 0 0,.slice none 0 0,.int .i64 0] 86):=ha0 1 _ rfl
 have g2:W0.heap[H+1+1]?=some (.cells #[.int .i64 0,.int .i64 0] 29):=ha0 2 _ rfl
 have g3:W0.heap[H+1+1+1]?=some (.cells #[.string ⟨#[]⟩,.string ⟨#[]⟩,.string ⟨#[]⟩,.slice none 0 0,.int .i64 0,.int .i64 0,.int .i64 0,.int .i64 0,.int .u8 0,.string ⟨#[]⟩,.slice none 0 0,.slice none 0 0,.int .i64 0] 86):=ha0 3 _ rfl
 have x0:=Ad g0
 have hsw:=hsh' W0
 have HW0:=Ab hW0
 have HB0:=Ab hb0
 have HG0:=Ab g0
 have HG1:=Ab g1
 have HG2:=Ab g2
 have HG3:=Ab g3
 have HSW:=Ab hsw
 have HM:=Ab hM
 have HD:=Ab hD
 have HKK:=Ab hkk
 have HKS:=Ab hks
 have HD5:=Ab hd5
 have HRS:=Ab hres2
 have HRK:=Ab hRK
 have HPH:=Ab hPH
 have HPK:=Ab hPK
 have hmx:=Dl
 clear hRK hPH hPK hmw hW0 hb0 ha0 g0 g1 g2 g3 hsh' hsw hres2 hM hD hkk hks hd5 q5 q3 hok hin
 go_enter Tryz.func61,Tryz.ntmps61
 go_upto_region 2 with fail
 try rw [hH]
 rw [Aa HW0]
 go_upto_region 3 with (go_at_call 59;refine (Aa HSW).mono ?_;rintro x2 w2 ⟨rfl,hb2⟩;have hz2:=hb2.size;have HB2:=Ab hb2;clear hb2)
 obtain ⟨K,hK⟩:∃ K,w2.heap.size=K:=⟨_,rfl⟩
 obtain ⟨W2,hW2⟩:∃ W2,w2.alloc (.cells #[.int .i64 e,.int .i64 l'] 29)=W2:=⟨_,rfl⟩
 have hb3:Below K w2 W2:=by rw [← hW2];exact (Below.refl _ w2).alloc (by omega) _
 have p0:W2.heap[K]?=some (.cells #[.int .i64 e,.int .i64 l'] 29):=by rw [← hW2,← hK];exact World.alloc_heap_new _ _
 have hs3:K+1≤W2.heap.size:=by rw [← hW2];simp;omega
 rw [hW2]
 rw [hK]
 rw [hK] at hz2
 have hb4:Below H w W2:=(Aa HB0).trans (((Aa HB2).mono (by omega)).trans (hb3.mono (by omega)))
 have r0:=(hb3.block H (by omega)).trans (((Aa HB2).block H (by omega)).trans (Aa HG0))
 have r1:=(hb3.block (H+1) (by omega)).trans (((Aa HB2).block (H+1) (by omega)).trans (Aa HG1))
 have r2:=(hb3.block (H+1+1) (by omega)).trans (((Aa HB2).block (H+1+1) (by omega)).trans (Aa HG2))
 have r3:=(hb3.block (H+1+1+1) (by omega)).trans (((Aa HB2).block (H+1+1+1) (by omega)).trans (Aa HG3))
 have hkd:=(Aa HKK).below (by rw [hH];exact hb4)
 have hky:=Eu.below (Aa HKS) (by rw [hH];exact hb4)
 have z0:=Ad r0
 have z1:=A2 r1
 have z2:=Af r2
 have z3:=A2 r3
 have z4:=Af p0
 have HB4:=Ab hb4
 have HR0:=Ab r0
 have HR1:=Ab r1
 have HR2:=Ab r2
 have HR3:=Ab r3
 have HKD:=Ab hkd
 have HKY:=Ab hky
 clear HW0 hW2 hb3 p0 hb4 r0 r1 r2 r3 x0 hkd hky
 rcases Aa HRS with ⟨hne,hq⟩ | ⟨rfl,rfl,hMD,hq⟩
 ·have j1:(e != 0)=true:=by simpa using hne
  have HNE:=Ab hne
  have HQ:=Ab hq
  clear hne hq HRS
  go_upto_region 4 with fail
  go_region_with_o (fail)
  all_goals go_wp2
  all_goals
   have HE:=Dq (B:=H) (g1:=H+1) (g2:=H+1+1) (w:=w) (Aa HB4) (Aa HR1) (Aa HR2) (by omega) (by omega) (by omega) (.string ⟨#[]⟩) (.string ⟨#[]⟩) (.string ⟨#[]⟩) (.slice none 0 0) (.int .i64 0) (.int .i64 0) (.int .i64 0) (.int .i64 0) (.int .u8 0) (.string ⟨#[]⟩) (.slice none 0 0) (.slice none 0 0) (.int .i64 0) (.int .i64 e) (.int .i64 l')
   exact bodyPost_ret (Al rfl _ _ _ (H+1) (H+1+1) _ _ rfl (Cc HE.2.1) rfl (Ai HE.2.2.1)) rfl ⟨by rw [hH];exact HE.1,Bc.zero,e,l',rfl,Bc.zero_in _,fun g hg=>(Hc g hg).elim,.inr ⟨Aa HQ,Aa HNE⟩⟩
 ·have HQ:=Ab hq
  have HMD:=Ab hMD
  clear hq HRS hMD
  go_wp2
  go_loopg [6] M (fun g s6 wx=>∃ (i:Nat) (st:Bc),i+g=M∧s6=.int .i64 i∧Hid (P22.keysGo P22.stepRd (ks.drop i) (Am (ds.drop i)) st.bare=RK)∧Hid (Below (H+1+1+1) W2 wx)∧Hid (wx.heap[H+1+1+1]?=some (.cells st.cs.toArray 86)∧st.In wx∧∀ g,st.blk g→PB g∨H+1+1+1<g)∧H+1+1+1+1≤wx.heap.size)
  case atStart=>exact ⟨0,Bc.zero,by omega,by go_num,Ab (Aa HRK),Ab (Below.refl _ _),Ab ⟨Aa HR3,Bc.zero_in _,fun g hg=>(Hc g hg).elim⟩,by omega⟩
  case round=>
   obtain ⟨i,⟨n0,a0,u0,aa0,ac0,af0,q0,fi0,fa0,li0,⟨k0,t0,ka0,kc0,ks0,da0,dc0,ds0,l0⟩⟩,hig,rfl,HE,HBX,HST,hzx⟩:=hrel
   clear z0 z1 z2 z3 z4
   have y0:=((Aa HBX).block H (by omega)).trans (Aa HR0)
   have y1:=((Aa HBX).block (H+1) (by omega)).trans (Aa HR1)
   have y2:=((Aa HBX).block (H+1+1) (by omega)).trans (Aa HR2)
   have hbw:Below H w wr:=(Aa HB4).trans ((Aa HBX).mono (by omega))
   have z0:=Ad y0
   have z1:=A2 y1
   have z2:=Af y2
   have hbox:wr.heap[H+1+1+1]?=some (.cells #[.string ⟨n0.toArray⟩,.string ⟨a0.toArray⟩,.string ⟨u0.toArray⟩,.slice aa0 af0.length ac0,.int .i64 q0,.int .i64 fi0,.int .i64 fa0,.int .i64 li0,.int .u8 k0,.string ⟨t0.toArray⟩,.slice ka0 ks0.length kc0,.slice da0 ds0.length dc0,.int .i64 l0] 86):=(Aa HST).1
   have z3:=A2 hbox
   have HY0:=Ab y0
   have HY1:=Ab y1
   have HY2:=Ab y2
   have HBW:=Ab hbw
   have HBOX:=Ab hbox
   clear y0 y1 y2 hbw hbox
   cases gk with
   | zero=>
    have e1:(M:Int)≤(i:Int):=by omega
    have j1:decide ((i:Int)<(M:Int))=false:=by simp;omega
    have hE:=Aa HE
    rw [List.drop_of_length_le (l:=ds) (by rw [Aa HD,← Aa HMD];omega),List.drop_of_length_le (l:=ks) (by rw [Aa HM];omega)] at hE
    simp only [Am,P22.keysGo] at hE
    have hq:=Aa HQ
    rw [← hE] at hq
    have HQ2:=Ab hq
    clear hE hq HQ HE HRK
    have hik:Eu wr ka ks:=Eu.below (Aa HKS) (by rw [hH];exact Aa HBW)
    have hha:∀ (x:List UInt8) W,Below wr.heap.size wr W→Calls Tryz.prog 62 #[.agg #[.int .u8 k,.string ⟨t.toArray⟩,.slice ka M kc,.slice da D dc,.int .i64 l],.string ⟨x.toArray⟩] W (fun e w'=>e=.returned (.bool (decide (x∈ks)))∧Below W.heap.size W w'):=fun x W hb=>by
     have h:=Ji k t ka kc ks da dc ds l x W (Eu.below hik hb) (by rw [Aa HM];omega)
     rw [Aa HM,Aa HD] at h
     exact h
    have h1w:=hha [110,97,109,101] wr (Below.refl _ _)
    have HHA:=Ab hha
    have hnb:∀ g,(PB g∨H+1+1+1<g)→g≠H+1∧g≠H+1+1∧g≠H+1+1+1:=fun g h1=>by
     have hp:=Aa HPH g
     rcases h1 with h | h
     ·have:=hp h;omega
     ·omega
    have HNB:=Ab hnb
    clear hha hik hnb HKD HKY
    by_cases m0:[110,97,109,101]∈ks
    ·rw [show decide ([110,97,109,101]∈ks)=true from decide_eq_true m0] at h1w
     have H1W:=Ab h1w
     clear h1w
     by_cases m1:[97,99,116,105,111,110]∈ks
     ·have hq:=Aa HQ2
      have hr:RES=.ok (⟨n0,a0,u0,aa0,ac0,af0,q0,fi0,fa0,li0,.mk k0 t0 ka0 kc0 ks0 da0 dc0 ds0 l0⟩:Bc).bare:=by
       rw [hq]
       unfold Hg
       simp only [m0,m1,and_self,if_true]
      have HR:=Ab hr
      clear hq hr
      go_upto_region 30 with (first
       | (have hqq:=HB7;go_at_call 62;have h2w:=Aa HHA [97,99,116,105,111,110] w5 (Aa HB7);rw [show decide ([97,99,116,105,111,110]∈ks)=true from decide_eq_true m1] at h2w;refine h2w.mono ?_;rintro x6 w6 ⟨rfl,hb6⟩;have hb8:=(Aa HB7).trans (hb6.mono (Aa HB7).size);have y0:=(hb8.block H (by omega)).trans (Aa HY0);have y1:=(hb8.block (H+1) (by omega)).trans (Aa HY1);have y2:=(hb8.block (H+1+1) (by omega)).trans (Aa HY2);have y3:=(hb8.block (H+1+1+1) (by omega)).trans (Aa HBOX);have x0:=Ad y0;have x1:=A2 y1;have x2:=Af y2;have x3:=A2 y3;have HB8:=Ab hb8;clear y0 y1 y2 y3 hb6 hb8 h2w)
       | (go_at_call 62;refine (Aa H1W).mono ?_;rintro x5 w5 ⟨rfl,hb5⟩;have w0:=Ad ((hb5.block H (by omega)).trans (Aa HY0));have HB7:=Ab hb5;clear hb5))
      go_wp2
      have HE:=Lg (B:=H) (g1:=H+1) (g2:=H+1+1) (w:=w) ((Aa HBW).trans ((Aa HB8).mono (by omega))) (((Aa HB8).block (H+1) (by omega)).trans (Aa HY1)) (((Aa HB8).block (H+1+1) (by omega)).trans (Aa HY2)) (by omega) (by omega) (by omega) (.string ⟨n0.toArray⟩) (.string ⟨a0.toArray⟩) (.string ⟨u0.toArray⟩) (.slice aa0 af0.length ac0) (.int .i64 q0) (.int .i64 fi0) (.int .i64 fa0) (.int .i64 li0) (.int .u8 k0) (.string ⟨t0.toArray⟩) (.slice ka0 ks0.length kc0) (.slice da0 ds0.length dc0) (.int .i64 l0) (.int .i64 0) (.int .i64 0)
      have hIN:=((Aa HST).2.1.below (Aa HB8)).keep (fun g hg=>HE.2.2.2 g (Aa HNB g ((Aa HST).2.2 g hg)).1 (Aa HNB g ((Aa HST).2.2 g hg)).2.1)
      exact bodyPost_ret (Al rfl _ _ _ (H+1) (H+1+1) _ _ rfl (Cc HE.2.1) rfl (Ai HE.2.2.1)) rfl ⟨by rw [hH];exact HE.1,(⟨n0,a0,u0,aa0,ac0,af0,q0,fi0,fa0,li0,.mk k0 t0 ka0 kc0 ks0 da0 dc0 ds0 l0⟩:Bc),0,0,rfl,hIN,fun g hg=>((Aa HST).2.2 g hg).imp id (fun h=>by rw [hH];omega),.inl ⟨Aa HR,rfl,rfl⟩⟩
     ·have hq:=Aa HQ2
      have hr:RES=.error (5,l):=by
       rw [hq]
       unfold Hg
       simp only [m0,m1,and_false,if_false]
      have HR:=Ab hr
      clear hq hr
      go_upto_region 29 with (first
       | (have hqq:=HB7;go_at_call 62;have h2w:=Aa HHA [97,99,116,105,111,110] w5 (Aa HB7);rw [show decide ([97,99,116,105,111,110]∈ks)=false from decide_eq_false m1] at h2w;refine h2w.mono ?_;rintro x6 w6 ⟨rfl,hb6⟩;have hb8:=(Aa HB7).trans (hb6.mono (Aa HB7).size);have y0:=(hb8.block H (by omega)).trans (Aa HY0);have y1:=(hb8.block (H+1) (by omega)).trans (Aa HY1);have y2:=(hb8.block (H+1+1) (by omega)).trans (Aa HY2);have y3:=(hb8.block (H+1+1+1) (by omega)).trans (Aa HBOX);have x0:=Ad y0;have x1:=A2 y1;have x2:=Af y2;have x3:=A2 y3;have HB8:=Ab hb8;clear y0 y1 y2 y3 hb6 hb8 h2w)
       | (go_at_call 62;refine (Aa H1W).mono ?_;rintro x5 w5 ⟨rfl,hb5⟩;have w0:=Ad ((hb5.block H (by omega)).trans (Aa HY0));have HB7:=Ab hb5;clear hb5))
      refine Pj (n:=111) (x:=4) (y:=1) (p:=2) (q:=3) (c:=5) (l:=l) (bx:=H+1+1+1) (by':=H) (g1:=H+1) (g2:=H+1+1) (cs:=#[.string ⟨n0.toArray⟩,.string ⟨a0.toArray⟩,.string ⟨u0.toArray⟩,.slice aa0 af0.length ac0,.int .i64 q0,.int .i64 fi0,.int .i64 fa0,.int .i64 li0,.int .u8 k0,.string ⟨t0.toArray⟩,.slice ka0 ks0.length kc0,.slice da0 ds0.length dc0,.int .i64 l0]) rfl (by decide) (by decide) (by decide) (by decide) (by decide) (by decide) (by decide) (by decide) rfl rfl rfl rfl (by omega) (by omega) (by omega) (by omega) (by omega) (((Aa HB8).block (H+1+1+1) (by omega)).trans (Aa HBOX)) (((Aa HB8).block H (by omega)).trans (Aa HY0)) (((Aa HB8).block (H+1) (by omega)).trans (Aa HY1)) (((Aa HB8).block (H+1+1) (by omega)).trans (Aa HY2)) (fun o a w K ho he hg hk=>Pi rfl o a w K ho he hg hk) (by kernel_rfl) rfl (by simp [Value.oneCell']) ?_
      intro a9 w9 hdf kp kq hB9 hx1 hx2
      have hIN:=((Aa HST).2.1.below (Aa HB8)).keep (fun g hg=>hB9.same g (Aa HNB g ((Aa HST).2.2 g hg)).1 (Aa HNB g ((Aa HST).2.2 g hg)).2.1)
      have hbw9:Below H w w6:=(Aa HBW).trans ((Aa HB8).mono (by omega))
      have hbw:Below H w w9:=⟨hB9.os.trans hbw9.os,hB9.tape.trans hbw9.tape,hB9.output.trans hbw9.output,Nat.le_trans hbw9.size hB9.size,fun g hg=>(hB9.same g (by omega) (by omega)).trans (hbw9.block g hg)⟩
      have HX1:=Ab hx1
      have HX2:=Ab hx2
      have HKP:=Ab kp
      have HKQ:=Ab kq
      have HIN9:=Ab hIN
      have HBW9:=Ab hbw
      clear hx1 hx2 kp kq hIN hbw hbw9
      go_wp2
      exact bodyPost_ret (Al rfl _ _ _ (H+1) (H+1+1) _ _ (Aa HKP) (Cc (Aa HX1)) (Aa HKQ) (Ai (Aa HX2))) hdf ⟨by rw [hH];exact Aa HBW9,(⟨n0,a0,u0,aa0,ac0,af0,q0,fi0,fa0,li0,.mk k0 t0 ka0 kc0 ks0 da0 dc0 ds0 l0⟩:Bc),5,l,rfl,Aa HIN9,fun g hg=>((Aa HST).2.2 g hg).imp id (fun h=>by rw [hH];omega),.inr ⟨Aa HR,by decide⟩⟩
    ·have hq:=Aa HQ2
     have hr:RES=.error (5,l):=by
      rw [hq]
      unfold Hg
      simp only [m0,false_and,if_false]
     have HR:=Ab hr
     rw [show decide ([110,97,109,101]∈ks)=false from decide_eq_false m0] at h1w
     have H1W:=Ab h1w
     clear h1w hq hr
     go_upto_region 29 with (go_at_call 62;refine (Aa H1W).mono ?_;rintro x6 w6 ⟨rfl,hb8⟩;have y0:=(hb8.block H (by omega)).trans (Aa HY0);have y1:=(hb8.block (H+1) (by omega)).trans (Aa HY1);have y2:=(hb8.block (H+1+1) (by omega)).trans (Aa HY2);have y3:=(hb8.block (H+1+1+1) (by omega)).trans (Aa HBOX);have x0:=Ad y0;have x1:=A2 y1;have x2:=Af y2;have x3:=A2 y3;have HB8:=Ab hb8;clear y0 y1 y2 y3 hb8)
     refine Pj (n:=111) (x:=4) (y:=1) (p:=2) (q:=3) (c:=5) (l:=l) (bx:=H+1+1+1) (by':=H) (g1:=H+1) (g2:=H+1+1) (cs:=#[.string ⟨n0.toArray⟩,.string ⟨a0.toArray⟩,.string ⟨u0.toArray⟩,.slice aa0 af0.length ac0,.int .i64 q0,.int .i64 fi0,.int .i64 fa0,.int .i64 li0,.int .u8 k0,.string ⟨t0.toArray⟩,.slice ka0 ks0.length kc0,.slice da0 ds0.length dc0,.int .i64 l0]) rfl (by decide) (by decide) (by decide) (by decide) (by decide) (by decide) (by decide) (by decide) rfl rfl rfl rfl (by omega) (by omega) (by omega) (by omega) (by omega) (((Aa HB8).block (H+1+1+1) (by omega)).trans (Aa HBOX)) (((Aa HB8).block H (by omega)).trans (Aa HY0)) (((Aa HB8).block (H+1) (by omega)).trans (Aa HY1)) (((Aa HB8).block (H+1+1) (by omega)).trans (Aa HY2)) (fun o a w K ho he hg hk=>Pi rfl o a w K ho he hg hk) (by kernel_rfl) rfl (by simp [Value.oneCell']) ?_
     intro a9 w9 hdf kp kq hB9 hx1 hx2
     have hIN:=((Aa HST).2.1.below (Aa HB8)).keep (fun g hg=>hB9.same g (Aa HNB g ((Aa HST).2.2 g hg)).1 (Aa HNB g ((Aa HST).2.2 g hg)).2.1)
     have hbw9:Below H w w6:=(Aa HBW).trans ((Aa HB8).mono (by omega))
     have hbw:Below H w w9:=⟨hB9.os.trans hbw9.os,hB9.tape.trans hbw9.tape,hB9.output.trans hbw9.output,Nat.le_trans hbw9.size hB9.size,fun g hg=>(hB9.same g (by omega) (by omega)).trans (hbw9.block g hg)⟩
     have HX1:=Ab hx1
     have HX2:=Ab hx2
     have HKP:=Ab kp
     have HKQ:=Ab kq
     have HIN9:=Ab hIN
     have HBW9:=Ab hbw
     clear hx1 hx2 kp kq hIN hbw hbw9
     go_wp2
     exact bodyPost_ret (Al rfl _ _ _ (H+1) (H+1+1) _ _ (Aa HKP) (Cc (Aa HX1)) (Aa HKQ) (Ai (Aa HX2))) hdf ⟨by rw [hH];exact Aa HBW9,(⟨n0,a0,u0,aa0,ac0,af0,q0,fi0,fa0,li0,.mk k0 t0 ka0 kc0 ks0 da0 dc0 ds0 l0⟩:Bc),5,l,rfl,Aa HIN9,fun g hg=>((Aa HST).2.2 g hg).imp id (fun h=>by rw [hH];omega),.inr ⟨Aa HR,by decide⟩⟩
   | succ g'=>
    have hlt:(i:Int)<(M:Int):=by omega
    have hltD:(i:Int)<(D:Int):=by have:=Aa HMD;omega
    have hki:IntKind.i64.wrap ((i:Int)+1)=(i:Int)+1:=IntWalk.i64_in _ (by omega)
    obtain ⟨d,hg1⟩:=V3 (Aa HD) (show i<D by have:=Aa HMD;omega)
    obtain ⟨y,hgy⟩:=V3 (Aa HM) (show i<M by omega)
    have hkf:=Aa HD5 d (List.mem_of_getElem? hg1)
    have hpk:=Aa HPK d (List.mem_of_getElem? hg1)
    have hE:=Aa HE
    rw [Cg hg1,show ks.drop i=y :: ks.drop (i+1) by
     obtain ⟨h8,h9⟩:=List.getElem?_eq_some_iff.1 hgy
     rw [List.drop_eq_getElem_cons h8,h9]] at hE
    unfold P22.keysGo at hE
    have HE2:=Ab hE
    clear hE HE HRK
    obtain ⟨b2,o2,k1,t1,ka1,kc1,ks1,da1,dc1,ds1,l1,rfl,rfl,v0,v1,v2,v3,v4,hin1⟩:=Ce ((Aa HKK).below (by rw [hH];exact Aa HBW)) hg1
    obtain ⟨b3,o3,rfl,hky⟩:=Eu.below (Aa HKS) (by rw [hH];exact Aa HBW) i y hgy
    go_upto_region 10 with fail
    obtain ⟨Q,hQ⟩:∃ Q,wr.heap.size=Q:=⟨_,rfl⟩
    obtain ⟨W5,hW5,hb5,p4,p5,hs5⟩:=A0 wr (.cells #[.int .u8 k1,.string ⟨t1.toArray⟩,.slice ka1 ks1.length kc1,.slice da1 ds1.length dc1,.int .i64 l1] 26) (.cells #[.int .i64 0,.int .i64 0] 29) Q hQ
    rw [hW5]
    rw [hQ]
    rw [hQ] at hzx
    have hbw5:Below H w W5:=(Aa HBW).trans (hb5.mono (by omega))
    have hbx5:Below (H+1+1+1) W2 W5:=(Aa HBX).trans (hb5.mono (by omega))
    have hst5:=(hb5.block (H+1+1+1) (by omega)).trans (Aa HBOX)
    have hsi5:(⟨n0,a0,u0,aa0,ac0,af0,q0,fi0,fa0,li0,.mk k0 t0 ka0 kc0 ks0 da0 dc0 ds0 l0⟩:Bc).In W5:=(Aa HST).2.1.below (by rw [hQ];exact hb5)
    have hsb5:∀ g,(⟨n0,a0,u0,aa0,ac0,af0,q0,fi0,fa0,li0,.mk k0 t0 ka0 kc0 ks0 da0 dc0 ds0 l0⟩:Bc).blk g→(PB g∨H+1+1+1<g)∧g<Q:=fun g hg=>⟨(Aa HST).2.2 g hg,by rw [← hQ];exact (Aa HST).2.1.lt hg⟩
    have y0:=(hb5.block H (by omega)).trans (Aa HY0)
    have y1:=(hb5.block (H+1) (by omega)).trans (Aa HY1)
    have y2:=(hb5.block (H+1+1) (by omega)).trans (Aa HY2)
    have hin5:(Nd.mk k1 t1 ka1 kc1 ks1 da1 dc1 ds1 l1).In W5:=hin1.below (by rw [hQ];exact hb5)
    have hk5:W5.cell? ⟨b3,o3+i,none⟩=some (.string ⟨y.toArray⟩):=(Ag (hb5.block b3 (by rw [← hQ];exact B3 hky)) _).trans hky
    clear z0 z1 z2 z3 v0 v1 v2 v3 v4 hky
    have z0:=Ad y0
    have z3:=A2 hst5
    have z4:=Ad p4
    have z5:=Af p5
    have hz5:Q+1+1≤W5.heap.size:=by omega
    have HP4:=Ab p4
    have HP5:=Ab p5
    have HBW5:=Ab hbw5
    have HBX5:=Ab hbx5
    have HST5:=Ab hst5
    have HSI5:=Ab hsi5
    have HSB5:=Ab hsb5
    have HIN5:=Ab hin5
    have HY5:=Ab y1
    have HY6:=Ab y2
    have HKF:=Ab hkf
    have HPK1:=Ab hpk
    clear hW5 p4 p5 hb5 hs5 hbw5 hbx5 hst5 hsi5 hsb5 y0 y1 y2 HY0 HY1 HY2 HBW HBX HST HBOX hkf hpk hgy hg1 hin1 hin5
    by_cases n0n:y=[110,97,109,101]
    ·subst n0n
     have hrd:P22.stepRd [110,97,109,101]=some (fun d s=>(P22.textE 64 d).map fun x=>{ s with name:=x }):=rfl
     have hE:=Aa HE2
     rw [hrd] at hE
     have c0:([110,97,109,101] == [110,97,109,101])=true:=by decide
     have HE3:=Ab hE
     clear hE HE2 hrd
     obtain ⟨v,ec,el,hnu,hrn⟩:=Ei k1 t1 ka1 kc1 ks1 da1 dc1 ds1 l1 64 (by have:=(Aa HKF).kid.1;omega)
     have HNU:=Ab (hnu W5)
     clear hnu
     go_upto_region 26 with (go_at_call 60;refine (Aa HNU).mono ?_;rintro x6 w6 ⟨rfl,hb6⟩;have hz6:=hb6.size;have a3:=(hb6.block (H+1+1+1) (by omega)).trans (Aa HST5);have aF:=(hb6.block (Q+1) (by omega)).trans (Aa HP5);have zz3:=A2 a3;have zzF:=Af aF;have HB6:=Ab hb6;have HA3:=Ab a3;have HAF:=Ab aF;clear hb6 a3 aF)
     have hb7:Below (H+1+1+1) W2 w6:=(Aa HBX5).trans ((Aa HB6).mono (by omega))
     obtain ⟨e10,e20,e30,e40⟩:=Cr hb7 (Aa HA3) 0 (.string ⟨v.toArray⟩)
     obtain ⟨f1,f2,f3,f4,f5⟩:=C6 (F:=Q+1) e10 e20 ((e30 (Q+1) (by omega)).trans (Aa HAF)) (by omega) (.int .i64 ec) (.int .i64 el)
     obtain ⟨W8,hW8⟩:∃ W8,((w6.setCell ⟨H+1+1+1,0,none⟩ (.string ⟨v.toArray⟩)).setCell ⟨Q+1,0,none⟩ (.int .i64 ec)).setCell ⟨Q+1,1,none⟩ (.int .i64 el)=W8:=⟨_,rfl⟩
     rw [hW8] at f1 f2 f3 f4 f5 ⊢
     have hsame:∀ g,g≠H+1+1+1→g≠Q+1→W8.heap[g]?=w6.heap[g]?:=fun g h1 h2=>by
      rw [f4 g h2,e30 g h1]
     have hnb:∀ g,(PB g∨H+1+1+1<g)→g≠H+1∧g≠H+1+1∧g≠H+1+1+1:=fun g h1=>by
      have hp:=Aa HPH g
      rcases h1 with h | h
      ·have:=hp h;omega
      ·omega
     have hold:∀ g,(PB g∨H+1+1+1<g)→g<Q→W8.heap[g]?=W5.heap[g]?:=fun g h1 h2=>(hsame g (hnb g h1).2.2 (by omega)).trans ((Aa HB6).block g (by omega))
     have HNB:=Ab hnb
     have hin8:(⟨v,a0,u0,aa0,ac0,af0,q0,fi0,fa0,li0,.mk k0 t0 ka0 kc0 ks0 da0 dc0 ds0 l0⟩:Bc).In W8:=by
      have h0:=(Aa HSI5).keep (fun g hg=>hold g (Aa HSB5 g hg).1 (Aa HSB5 g hg).2)
      exact ⟨h0.keys,h0.len,h0.cap,h0.note⟩
     have hbl8:∀ g,(⟨v,a0,u0,aa0,ac0,af0,q0,fi0,fa0,li0,.mk k0 t0 ka0 kc0 ks0 da0 dc0 ds0 l0⟩:Bc).blk g→PB g∨H+1+1+1<g:=fun g hg=>(Aa HSB5 g hg).1
     have f2':W8.heap[H+1+1+1]?=some (.cells (⟨v,a0,u0,aa0,ac0,af0,q0,fi0,fa0,li0,.mk k0 t0 ka0 kc0 ks0 da0 dc0 ds0 l0⟩:Bc).cs.toArray 86):=f2
     have hE:=Aa HE3
     have HRN:=Ab hrn
     obtain ⟨⟨n2,a2,u2,aa2,ac2,af2,q2,fi2,fa2,li2,⟨k2,t2,ka2,kc2,ks2,da2,dc2,ds2,l2⟩⟩,hst'⟩:∃ st':Bc,(⟨v,a0,u0,aa0,ac0,af0,q0,fi0,fa0,li0,.mk k0 t0 ka0 kc0 ks0 da0 dc0 ds0 l0⟩:Bc)=st':=⟨_,rfl⟩
     have hbe:(⟨v,a0,u0,aa0,ac0,af0,q0,fi0,fa0,li0,.mk k0 t0 ka0 kc0 ks0 da0 dc0 ds0 l0⟩:Bc).bare=(⟨n2,a2,u2,aa2,ac2,af2,q2,fi2,fa2,li2,.mk k2 t2 ka2 kc2 ks2 da2 dc2 ds2 l2⟩:Bc).bare:=by rw [hst']
     rw [hst'] at hin8 hbl8 f2'
     have f2'':W8.heap[H+1+1+1]?=some (.cells #[.string ⟨n2.toArray⟩,.string ⟨a2.toArray⟩,.string ⟨u2.toArray⟩,.slice aa2 af2.length ac2,.int .i64 q2,.int .i64 fi2,.int .i64 fa2,.int .i64 li2,.int .u8 k2,.string ⟨t2.toArray⟩,.slice ka2 ks2.length kc2,.slice da2 ds2.length dc2,.int .i64 l2] 86):=f2'
     have HIN8:=Ab hin8
     have HBL8:=Ab hbl8
     have y0:=(f1.block H (by omega)).trans (Aa HR0)
     have y1:=(f1.block (H+1) (by omega)).trans (Aa HR1)
     have y2:=(f1.block (H+1+1) (by omega)).trans (Aa HR2)
     have hbw8:Below H w W8:=(Aa HB4).trans (f1.mono (by omega))
     clear z0 z3 z4 z5 hk5 zz3 zzF hrn hE
     have z0:=Ad y0
     have z1:=A2 y1
     have z2:=Af y2
     have z3:=A2 f2''
     have z5:=Af f3
     have HBE:=Ab hbe
     have HBW8:=Ab hbw8
     have HF1:=Ab f1
     have HF2:=Ab f2'
     have HY1:=Ab y1
     have HY2:=Ab y2
     have HS8:=Ab (show H+1+1+1+1≤W8.heap.size by rw [f5,e40];omega)
     clear hbw8 f1 f2 f2' f2'' f3 f4 f5 e10 e20 e30 e40 y0 y1 y2 hW8 hb7 HA3 HAF HB6 HP4 HP5 HST5 HBX5 HBW5 HY5 HY6 HNU hin8 hbl8 hst' hbe hsame hold hnb HSI5 HSB5 HIN5
     rcases Aa HRN with ⟨hr,rfl,rfl⟩ | ⟨hr,hne⟩
     ·have hE:=Aa HE3
      rw [hr] at hE
      have hE2:P22.keysGo P22.stepRd (ks.drop (i+1)) (Am (ds.drop (i+1))) (⟨n2,a2,u2,aa2,ac2,af2,q2,fi2,fa2,li2,.mk k2 t2 ka2 kc2 ks2 da2 dc2 ds2 l2⟩:Bc).bare=RK:=by rw [← Aa HBE];exact hE
      have HE4:=Ab hE2
      clear hE hE2 hr HE3 HRN HBE
      go_wp2
      go_roundg g'
      case measure=>omega
      case rel=>exact ⟨i+1,(⟨n2,a2,u2,aa2,ac2,af2,q2,fi2,fa2,li2,.mk k2 t2 ka2 kc2 ks2 da2 dc2 ds2 l2⟩:Bc),by omega,by go_num,HE4,HF1,Ab ⟨Aa HF2,Aa HIN8,Aa HBL8⟩,Aa HS8⟩
     ·have j1:(ec != 0)=true:=by simpa using hne
      have hE:=Aa HE3
      rw [hr] at hE
      have hq:=Aa HQ
      rw [show RK=.error (ec,el) from hE.symm] at hq
      have HE4:=Ab (show RES=.error (ec,el) from hq)
      have HNE:=Ab hne
      clear hE hr HE3 HRN hne hq HBE
      go_upto_region 27 with fail
      go_region_with_o (fail)
      all_goals go_wp2
      all_goals
       have HE:=Dq (B:=H) (g1:=H+1) (g2:=H+1+1) (w:=w) (Aa HBW8) (Aa HY1) (Aa HY2) (by omega) (by omega) (by omega) (.string ⟨n2.toArray⟩) (.string ⟨a2.toArray⟩) (.string ⟨u2.toArray⟩) (.slice aa2 af2.length ac2) (.int .i64 q2) (.int .i64 fi2) (.int .i64 fa2) (.int .i64 li2) (.int .u8 k2) (.string ⟨t2.toArray⟩) (.slice ka2 ks2.length kc2) (.slice da2 ds2.length dc2) (.int .i64 l2) (.int .i64 ec) (.int .i64 el)
       have hIN:=(Aa HIN8).keep (fun g hg=>HE.2.2.2 g (Aa HNB g (Aa HBL8 g hg)).1 (Aa HNB g (Aa HBL8 g hg)).2.1)
       exact bodyPost_ret (Al rfl _ _ _ (H+1) (H+1+1) _ _ rfl (Cc HE.2.1) rfl (Ai HE.2.2.1)) rfl ⟨by rw [hH];exact HE.1,(⟨n2,a2,u2,aa2,ac2,af2,q2,fi2,fa2,li2,.mk k2 t2 ka2 kc2 ks2 da2 dc2 ds2 l2⟩:Bc),ec,el,rfl,hIN,fun g hg=>(Aa HBL8 g hg).imp id (fun h=>by rw [hH];omega),.inr ⟨Aa HE4,Aa HNE⟩⟩
    by_cases n1n:y=[97,99,116,105,111,110]
    ·subst n1n
     have hrd:P22.stepRd [97,99,116,105,111,110]=some (fun d s=>(P22.textE 64 d).map fun x=>{ s with action:=x }):=rfl
     have hE:=Aa HE2
     rw [hrd] at hE
     have c1:([97,99,116,105,111,110] == [97,99,116,105,111,110])=true:=by decide
     have c0:([97,99,116,105,111,110] == [110,97,109,101])=false:=by decide
     have HE3:=Ab hE
     clear hE HE2 hrd
     obtain ⟨v,ec,el,hnu,hrn⟩:=Ei k1 t1 ka1 kc1 ks1 da1 dc1 ds1 l1 64 (by have:=(Aa HKF).kid.1;omega)
     have HNU:=Ab (hnu W5)
     clear hnu
     go_upto_region 26 with (go_at_call 60;refine (Aa HNU).mono ?_;rintro x6 w6 ⟨rfl,hb6⟩;have hz6:=hb6.size;have a3:=(hb6.block (H+1+1+1) (by omega)).trans (Aa HST5);have aF:=(hb6.block (Q+1) (by omega)).trans (Aa HP5);have zz3:=A2 a3;have zzF:=Af aF;have HB6:=Ab hb6;have HA3:=Ab a3;have HAF:=Ab aF;clear hb6 a3 aF)
     have hb7:Below (H+1+1+1) W2 w6:=(Aa HBX5).trans ((Aa HB6).mono (by omega))
     obtain ⟨e10,e20,e30,e40⟩:=Cr hb7 (Aa HA3) 1 (.string ⟨v.toArray⟩)
     obtain ⟨f1,f2,f3,f4,f5⟩:=C6 (F:=Q+1) e10 e20 ((e30 (Q+1) (by omega)).trans (Aa HAF)) (by omega) (.int .i64 ec) (.int .i64 el)
     obtain ⟨W8,hW8⟩:∃ W8,((w6.setCell ⟨H+1+1+1,1,none⟩ (.string ⟨v.toArray⟩)).setCell ⟨Q+1,0,none⟩ (.int .i64 ec)).setCell ⟨Q+1,1,none⟩ (.int .i64 el)=W8:=⟨_,rfl⟩
     rw [hW8] at f1 f2 f3 f4 f5 ⊢
     have hsame:∀ g,g≠H+1+1+1→g≠Q+1→W8.heap[g]?=w6.heap[g]?:=fun g h1 h2=>by
      rw [f4 g h2,e30 g h1]
     have hnb:∀ g,(PB g∨H+1+1+1<g)→g≠H+1∧g≠H+1+1∧g≠H+1+1+1:=fun g h1=>by
      have hp:=Aa HPH g
      rcases h1 with h | h
      ·have:=hp h;omega
      ·omega
     have hold:∀ g,(PB g∨H+1+1+1<g)→g<Q→W8.heap[g]?=W5.heap[g]?:=fun g h1 h2=>(hsame g (hnb g h1).2.2 (by omega)).trans ((Aa HB6).block g (by omega))
     have HNB:=Ab hnb
     have hin8:(⟨n0,v,u0,aa0,ac0,af0,q0,fi0,fa0,li0,.mk k0 t0 ka0 kc0 ks0 da0 dc0 ds0 l0⟩:Bc).In W8:=by
      have h0:=(Aa HSI5).keep (fun g hg=>hold g (Aa HSB5 g hg).1 (Aa HSB5 g hg).2)
      exact ⟨h0.keys,h0.len,h0.cap,h0.note⟩
     have hbl8:∀ g,(⟨n0,v,u0,aa0,ac0,af0,q0,fi0,fa0,li0,.mk k0 t0 ka0 kc0 ks0 da0 dc0 ds0 l0⟩:Bc).blk g→PB g∨H+1+1+1<g:=fun g hg=>(Aa HSB5 g hg).1
     have f2':W8.heap[H+1+1+1]?=some (.cells (⟨n0,v,u0,aa0,ac0,af0,q0,fi0,fa0,li0,.mk k0 t0 ka0 kc0 ks0 da0 dc0 ds0 l0⟩:Bc).cs.toArray 86):=f2
     have hE:=Aa HE3
     have HRN:=Ab hrn
     obtain ⟨⟨n2,a2,u2,aa2,ac2,af2,q2,fi2,fa2,li2,⟨k2,t2,ka2,kc2,ks2,da2,dc2,ds2,l2⟩⟩,hst'⟩:∃ st':Bc,(⟨n0,v,u0,aa0,ac0,af0,q0,fi0,fa0,li0,.mk k0 t0 ka0 kc0 ks0 da0 dc0 ds0 l0⟩:Bc)=st':=⟨_,rfl⟩
     have hbe:(⟨n0,v,u0,aa0,ac0,af0,q0,fi0,fa0,li0,.mk k0 t0 ka0 kc0 ks0 da0 dc0 ds0 l0⟩:Bc).bare=(⟨n2,a2,u2,aa2,ac2,af2,q2,fi2,fa2,li2,.mk k2 t2 ka2 kc2 ks2 da2 dc2 ds2 l2⟩:Bc).bare:=by rw [hst']
     rw [hst'] at hin8 hbl8 f2'
     have f2'':W8.heap[H+1+1+1]?=some (.cells #[.string ⟨n2.toArray⟩,.string ⟨a2.toArray⟩,.string ⟨u2.toArray⟩,.slice aa2 af2.length ac2,.int .i64 q2,.int .i64 fi2,.int .i64 fa2,.int .i64 li2,.int .u8 k2,.string ⟨t2.toArray⟩,.slice ka2 ks2.length kc2,.slice da2 ds2.length dc2,.int .i64 l2] 86):=f2'
     have HIN8:=Ab hin8
     have HBL8:=Ab hbl8
     have y0:=(f1.block H (by omega)).trans (Aa HR0)
     have y1:=(f1.block (H+1) (by omega)).trans (Aa HR1)
     have y2:=(f1.block (H+1+1) (by omega)).trans (Aa HR2)
     have hbw8:Below H w W8:=(Aa HB4).trans (f1.mono (by omega))
     clear z0 z3 z4 z5 hk5 zz3 zzF hrn hE
     have z0:=Ad y0
     have z1:=A2 y1
     have z2:=Af y2
     have z3:=A2 f2''
     have z5:=Af f3
     have HBE:=Ab hbe
     have HBW8:=Ab hbw8
     have HF1:=Ab f1
     have HF2:=Ab f2'
     have HY1:=Ab y1
     have HY2:=Ab y2
     have HS8:=Ab (show H+1+1+1+1≤W8.heap.size by rw [f5,e40];omega)
     clear hbw8 f1 f2 f2' f2'' f3 f4 f5 e10 e20 e30 e40 y0 y1 y2 hW8 hb7 HA3 HAF HB6 HP4 HP5 HST5 HBX5 HBW5 HY5 HY6 HNU hin8 hbl8 hst' hbe hsame hold hnb HSI5 HSB5 HIN5
     rcases Aa HRN with ⟨hr,rfl,rfl⟩ | ⟨hr,hne⟩
     ·have hE:=Aa HE3
      rw [hr] at hE
      have hE2:P22.keysGo P22.stepRd (ks.drop (i+1)) (Am (ds.drop (i+1))) (⟨n2,a2,u2,aa2,ac2,af2,q2,fi2,fa2,li2,.mk k2 t2 ka2 kc2 ks2 da2 dc2 ds2 l2⟩:Bc).bare=RK:=by rw [← Aa HBE];exact hE
      have HE4:=Ab hE2
      clear hE hE2 hr HE3 HRN HBE
      go_wp2
      go_roundg g'
      case measure=>omega
      case rel=>exact ⟨i+1,(⟨n2,a2,u2,aa2,ac2,af2,q2,fi2,fa2,li2,.mk k2 t2 ka2 kc2 ks2 da2 dc2 ds2 l2⟩:Bc),by omega,by go_num,HE4,HF1,Ab ⟨Aa HF2,Aa HIN8,Aa HBL8⟩,Aa HS8⟩
     ·have j1:(ec != 0)=true:=by simpa using hne
      have hE:=Aa HE3
      rw [hr] at hE
      have hq:=Aa HQ
      rw [show RK=.error (ec,el) from hE.symm] at hq
      have HE4:=Ab (show RES=.error (ec,el) from hq)
      have HNE:=Ab hne
      clear hE hr HE3 HRN hne hq HBE
      go_upto_region 27 with fail
      go_region_with_o (fail)
      all_goals go_wp2
      all_goals
       have HE:=Dq (B:=H) (g1:=H+1) (g2:=H+1+1) (w:=w) (Aa HBW8) (Aa HY1) (Aa HY2) (by omega) (by omega) (by omega) (.string ⟨n2.toArray⟩) (.string ⟨a2.toArray⟩) (.string ⟨u2.toArray⟩) (.slice aa2 af2.length ac2) (.int .i64 q2) (.int .i64 fi2) (.int .i64 fa2) (.int .i64 li2) (.int .u8 k2) (.string ⟨t2.toArray⟩) (.slice ka2 ks2.length kc2) (.slice da2 ds2.length dc2) (.int .i64 l2) (.int .i64 ec) (.int .i64 el)
       have hIN:=(Aa HIN8).keep (fun g hg=>HE.2.2.2 g (Aa HNB g (Aa HBL8 g hg)).1 (Aa HNB g (Aa HBL8 g hg)).2.1)
       exact bodyPost_ret (Al rfl _ _ _ (H+1) (H+1+1) _ _ rfl (Cc HE.2.1) rfl (Ai HE.2.2.1)) rfl ⟨by rw [hH];exact HE.1,(⟨n2,a2,u2,aa2,ac2,af2,q2,fi2,fa2,li2,.mk k2 t2 ka2 kc2 ks2 da2 dc2 ds2 l2⟩:Bc),ec,el,rfl,hIN,fun g hg=>(Aa HBL8 g hg).imp id (fun h=>by rw [hH];omega),.inr ⟨Aa HE4,Aa HNE⟩⟩
    by_cases n2n:y=[117,110,100,111]
    ·subst n2n
     have hrd:P22.stepRd [117,110,100,111]=some (fun d s=>(P22.textE 64 d).map fun x=>{ s with undo:=x }):=rfl
     have hE:=Aa HE2
     rw [hrd] at hE
     have c2:([117,110,100,111] == [117,110,100,111])=true:=by decide
     have c0:([117,110,100,111] == [110,97,109,101])=false:=by decide
     have c1:([117,110,100,111] == [97,99,116,105,111,110])=false:=by decide
     have HE3:=Ab hE
     clear hE HE2 hrd
     obtain ⟨v,ec,el,hnu,hrn⟩:=Ei k1 t1 ka1 kc1 ks1 da1 dc1 ds1 l1 64 (by have:=(Aa HKF).kid.1;omega)
     have HNU:=Ab (hnu W5)
     clear hnu
     go_upto_region 26 with (go_at_call 60;refine (Aa HNU).mono ?_;rintro x6 w6 ⟨rfl,hb6⟩;have hz6:=hb6.size;have a3:=(hb6.block (H+1+1+1) (by omega)).trans (Aa HST5);have aF:=(hb6.block (Q+1) (by omega)).trans (Aa HP5);have zz3:=A2 a3;have zzF:=Af aF;have HB6:=Ab hb6;have HA3:=Ab a3;have HAF:=Ab aF;clear hb6 a3 aF)
     have hb7:Below (H+1+1+1) W2 w6:=(Aa HBX5).trans ((Aa HB6).mono (by omega))
     obtain ⟨e10,e20,e30,e40⟩:=Cr hb7 (Aa HA3) 2 (.string ⟨v.toArray⟩)
     obtain ⟨f1,f2,f3,f4,f5⟩:=C6 (F:=Q+1) e10 e20 ((e30 (Q+1) (by omega)).trans (Aa HAF)) (by omega) (.int .i64 ec) (.int .i64 el)
     obtain ⟨W8,hW8⟩:∃ W8,((w6.setCell ⟨H+1+1+1,2,none⟩ (.string ⟨v.toArray⟩)).setCell ⟨Q+1,0,none⟩ (.int .i64 ec)).setCell ⟨Q+1,1,none⟩ (.int .i64 el)=W8:=⟨_,rfl⟩
     rw [hW8] at f1 f2 f3 f4 f5 ⊢
     have hsame:∀ g,g≠H+1+1+1→g≠Q+1→W8.heap[g]?=w6.heap[g]?:=fun g h1 h2=>by
      rw [f4 g h2,e30 g h1]
     have hnb:∀ g,(PB g∨H+1+1+1<g)→g≠H+1∧g≠H+1+1∧g≠H+1+1+1:=fun g h1=>by
      have hp:=Aa HPH g
      rcases h1 with h | h
      ·have:=hp h;omega
      ·omega
     have hold:∀ g,(PB g∨H+1+1+1<g)→g<Q→W8.heap[g]?=W5.heap[g]?:=fun g h1 h2=>(hsame g (hnb g h1).2.2 (by omega)).trans ((Aa HB6).block g (by omega))
     have HNB:=Ab hnb
     have hin8:(⟨n0,a0,v,aa0,ac0,af0,q0,fi0,fa0,li0,.mk k0 t0 ka0 kc0 ks0 da0 dc0 ds0 l0⟩:Bc).In W8:=by
      have h0:=(Aa HSI5).keep (fun g hg=>hold g (Aa HSB5 g hg).1 (Aa HSB5 g hg).2)
      exact ⟨h0.keys,h0.len,h0.cap,h0.note⟩
     have hbl8:∀ g,(⟨n0,a0,v,aa0,ac0,af0,q0,fi0,fa0,li0,.mk k0 t0 ka0 kc0 ks0 da0 dc0 ds0 l0⟩:Bc).blk g→PB g∨H+1+1+1<g:=fun g hg=>(Aa HSB5 g hg).1
     have f2':W8.heap[H+1+1+1]?=some (.cells (⟨n0,a0,v,aa0,ac0,af0,q0,fi0,fa0,li0,.mk k0 t0 ka0 kc0 ks0 da0 dc0 ds0 l0⟩:Bc).cs.toArray 86):=f2
     have hE:=Aa HE3
     have HRN:=Ab hrn
     obtain ⟨⟨n2,a2,u2,aa2,ac2,af2,q2,fi2,fa2,li2,⟨k2,t2,ka2,kc2,ks2,da2,dc2,ds2,l2⟩⟩,hst'⟩:∃ st':Bc,(⟨n0,a0,v,aa0,ac0,af0,q0,fi0,fa0,li0,.mk k0 t0 ka0 kc0 ks0 da0 dc0 ds0 l0⟩:Bc)=st':=⟨_,rfl⟩
     have hbe:(⟨n0,a0,v,aa0,ac0,af0,q0,fi0,fa0,li0,.mk k0 t0 ka0 kc0 ks0 da0 dc0 ds0 l0⟩:Bc).bare=(⟨n2,a2,u2,aa2,ac2,af2,q2,fi2,fa2,li2,.mk k2 t2 ka2 kc2 ks2 da2 dc2 ds2 l2⟩:Bc).bare:=by rw [hst']
     rw [hst'] at hin8 hbl8 f2'
     have f2'':W8.heap[H+1+1+1]?=some (.cells #[.string ⟨n2.toArray⟩,.string ⟨a2.toArray⟩,.string ⟨u2.toArray⟩,.slice aa2 af2.length ac2,.int .i64 q2,.int .i64 fi2,.int .i64 fa2,.int .i64 li2,.int .u8 k2,.string ⟨t2.toArray⟩,.slice ka2 ks2.length kc2,.slice da2 ds2.length dc2,.int .i64 l2] 86):=f2'
     have HIN8:=Ab hin8
     have HBL8:=Ab hbl8
     have y0:=(f1.block H (by omega)).trans (Aa HR0)
     have y1:=(f1.block (H+1) (by omega)).trans (Aa HR1)
     have y2:=(f1.block (H+1+1) (by omega)).trans (Aa HR2)
     have hbw8:Below H w W8:=(Aa HB4).trans (f1.mono (by omega))
     clear z0 z3 z4 z5 hk5 zz3 zzF hrn hE
     have z0:=Ad y0
     have z1:=A2 y1
     have z2:=Af y2
     have z3:=A2 f2''
     have z5:=Af f3
     have HBE:=Ab hbe
     have HBW8:=Ab hbw8
     have HF1:=Ab f1
     have HF2:=Ab f2'
     have HY1:=Ab y1
     have HY2:=Ab y2
     have HS8:=Ab (show H+1+1+1+1≤W8.heap.size by rw [f5,e40];omega)
     clear hbw8 f1 f2 f2' f2'' f3 f4 f5 e10 e20 e30 e40 y0 y1 y2 hW8 hb7 HA3 HAF HB6 HP4 HP5 HST5 HBX5 HBW5 HY5 HY6 HNU hin8 hbl8 hst' hbe hsame hold hnb HSI5 HSB5 HIN5
     rcases Aa HRN with ⟨hr,rfl,rfl⟩ | ⟨hr,hne⟩
     ·have hE:=Aa HE3
      rw [hr] at hE
      have hE2:P22.keysGo P22.stepRd (ks.drop (i+1)) (Am (ds.drop (i+1))) (⟨n2,a2,u2,aa2,ac2,af2,q2,fi2,fa2,li2,.mk k2 t2 ka2 kc2 ks2 da2 dc2 ds2 l2⟩:Bc).bare=RK:=by rw [← Aa HBE];exact hE
      have HE4:=Ab hE2
      clear hE hE2 hr HE3 HRN HBE
      go_wp2
      go_roundg g'
      case measure=>omega
      case rel=>exact ⟨i+1,(⟨n2,a2,u2,aa2,ac2,af2,q2,fi2,fa2,li2,.mk k2 t2 ka2 kc2 ks2 da2 dc2 ds2 l2⟩:Bc),by omega,by go_num,HE4,HF1,Ab ⟨Aa HF2,Aa HIN8,Aa HBL8⟩,Aa HS8⟩
     ·have j1:(ec != 0)=true:=by simpa using hne
      have hE:=Aa HE3
      rw [hr] at hE
      have hq:=Aa HQ
      rw [show RK=.error (ec,el) from hE.symm] at hq
      have HE4:=Ab (show RES=.error (ec,el) from hq)
      have HNE:=Ab hne
      clear hE hr HE3 HRN hne hq HBE
      go_upto_region 27 with fail
      go_region_with_o (fail)
      all_goals go_wp2
      all_goals
       have HE:=Dq (B:=H) (g1:=H+1) (g2:=H+1+1) (w:=w) (Aa HBW8) (Aa HY1) (Aa HY2) (by omega) (by omega) (by omega) (.string ⟨n2.toArray⟩) (.string ⟨a2.toArray⟩) (.string ⟨u2.toArray⟩) (.slice aa2 af2.length ac2) (.int .i64 q2) (.int .i64 fi2) (.int .i64 fa2) (.int .i64 li2) (.int .u8 k2) (.string ⟨t2.toArray⟩) (.slice ka2 ks2.length kc2) (.slice da2 ds2.length dc2) (.int .i64 l2) (.int .i64 ec) (.int .i64 el)
       have hIN:=(Aa HIN8).keep (fun g hg=>HE.2.2.2 g (Aa HNB g (Aa HBL8 g hg)).1 (Aa HNB g (Aa HBL8 g hg)).2.1)
       exact bodyPost_ret (Al rfl _ _ _ (H+1) (H+1+1) _ _ rfl (Cc HE.2.1) rfl (Ai HE.2.2.1)) rfl ⟨by rw [hH];exact HE.1,(⟨n2,a2,u2,aa2,ac2,af2,q2,fi2,fa2,li2,.mk k2 t2 ka2 kc2 ks2 da2 dc2 ds2 l2⟩:Bc),ec,el,rfl,hIN,fun g hg=>(Aa HBL8 g hg).imp id (fun h=>by rw [hH];omega),.inr ⟨Aa HE4,Aa HNE⟩⟩
    by_cases n3n:y=[97,102,116,101,114]
    ·subst n3n
     have hrd:P22.stepRd [97,102,116,101,114]=some (fun d s=>(P22.namesE d).map fun x=>{ s with after:=x }):=rfl
     have hE:=Aa HE2
     rw [hrd] at hE
     have c3:([97,102,116,101,114] == [97,102,116,101,114])=true:=by decide
     have c0:([97,102,116,101,114] == [110,97,109,101])=false:=by decide
     have c1:([97,102,116,101,114] == [97,99,116,105,111,110])=false:=by decide
     have c2:([97,102,116,101,114] == [117,110,100,111])=false:=by decide
     have HE3:=Ab hE
     clear hE HE2 hrd
     have HNU:=Ab (M7 k1 t1 ka1 kc1 ks1 da1 dc1 ds1 l1 W5 (Aa HIN5) (Aa HKF))
     go_upto_region 26 with (go_at_call 94;refine (Aa HNU).mono ?_;rintro x6 w6 ⟨hb6,a6,c6,xs,ec,el,rfl,hs6,hrn⟩;have hz6:=hb6.size;have a3:=(hb6.block (H+1+1+1) (by omega)).trans (Aa HST5);have aF:=(hb6.block (Q+1) (by omega)).trans (Aa HP5);have zz3:=A2 a3;have zzF:=Af aF;have HB6:=Ab hb6;have HA3:=Ab a3;have HAF:=Ab aF;clear hb6 a3 aF;have HS6:=Ab hs6;clear hs6)
     have hb7:Below (H+1+1+1) W2 w6:=(Aa HBX5).trans ((Aa HB6).mono (by omega))
     obtain ⟨e10,e20,e30,e40⟩:=Cr hb7 (Aa HA3) 3 (.slice a6 xs.length c6)
     obtain ⟨f1,f2,f3,f4,f5⟩:=C6 (F:=Q+1) e10 e20 ((e30 (Q+1) (by omega)).trans (Aa HAF)) (by omega) (.int .i64 ec) (.int .i64 el)
     obtain ⟨W8,hW8⟩:∃ W8,((w6.setCell ⟨H+1+1+1,3,none⟩ (.slice a6 xs.length c6)).setCell ⟨Q+1,0,none⟩ (.int .i64 ec)).setCell ⟨Q+1,1,none⟩ (.int .i64 el)=W8:=⟨_,rfl⟩
     rw [hW8] at f1 f2 f3 f4 f5 ⊢
     have hsame:∀ g,g≠H+1+1+1→g≠Q+1→W8.heap[g]?=w6.heap[g]?:=fun g h1 h2=>by
      rw [f4 g h2,e30 g h1]
     have hnb:∀ g,(PB g∨H+1+1+1<g)→g≠H+1∧g≠H+1+1∧g≠H+1+1+1:=fun g h1=>by
      have hp:=Aa HPH g
      rcases h1 with h | h
      ·have:=hp h;omega
      ·omega
     have hold:∀ g,(PB g∨H+1+1+1<g)→g<Q→W8.heap[g]?=W5.heap[g]?:=fun g h1 h2=>(hsame g (hnb g h1).2.2 (by omega)).trans ((Aa HB6).block g (by omega))
     have HNB:=Ab hnb
     have hin8:(⟨n0,a0,u0,a6,c6,xs,q0,fi0,fa0,li0,.mk k0 t0 ka0 kc0 ks0 da0 dc0 ds0 l0⟩:Bc).In W8:=by
      obtain ⟨s1,s2,s3,s4⟩:=Hb (Aa HS6)
      have h0:=(Aa HSI5).keep (fun g hg=>hold g (Aa HSB5 g hg).1 (Aa HSB5 g hg).2)
      exact ⟨s1.keep (fun g hn hg=>by have:=s4 g hn hg;exact hsame g (by omega) (by omega)),s2,s3,h0.note⟩
     have hbl8:∀ g,(⟨n0,a0,u0,a6,c6,xs,q0,fi0,fa0,li0,.mk k0 t0 ka0 kc0 ks0 da0 dc0 ds0 l0⟩:Bc).blk g→PB g∨H+1+1+1<g:=by
      obtain ⟨s1,s2,s3,s4⟩:=Hb (Aa HS6)
      rintro g (⟨hn,hg⟩ | hg)
      ·have:=s4 g hn hg;right;omega
      ·exact (Aa HSB5 g (.inr hg)).1
     have f2':W8.heap[H+1+1+1]?=some (.cells (⟨n0,a0,u0,a6,c6,xs,q0,fi0,fa0,li0,.mk k0 t0 ka0 kc0 ks0 da0 dc0 ds0 l0⟩:Bc).cs.toArray 86):=f2
     have hE:=Aa HE3
     have HRN:=Ab hrn
     obtain ⟨⟨n2,a2,u2,aa2,ac2,af2,q2,fi2,fa2,li2,⟨k2,t2,ka2,kc2,ks2,da2,dc2,ds2,l2⟩⟩,hst'⟩:∃ st':Bc,(⟨n0,a0,u0,a6,c6,xs,q0,fi0,fa0,li0,.mk k0 t0 ka0 kc0 ks0 da0 dc0 ds0 l0⟩:Bc)=st':=⟨_,rfl⟩
     have hbe:(⟨n0,a0,u0,a6,c6,xs,q0,fi0,fa0,li0,.mk k0 t0 ka0 kc0 ks0 da0 dc0 ds0 l0⟩:Bc).bare=(⟨n2,a2,u2,aa2,ac2,af2,q2,fi2,fa2,li2,.mk k2 t2 ka2 kc2 ks2 da2 dc2 ds2 l2⟩:Bc).bare:=by rw [hst']
     rw [hst'] at hin8 hbl8 f2'
     have f2'':W8.heap[H+1+1+1]?=some (.cells #[.string ⟨n2.toArray⟩,.string ⟨a2.toArray⟩,.string ⟨u2.toArray⟩,.slice aa2 af2.length ac2,.int .i64 q2,.int .i64 fi2,.int .i64 fa2,.int .i64 li2,.int .u8 k2,.string ⟨t2.toArray⟩,.slice ka2 ks2.length kc2,.slice da2 ds2.length dc2,.int .i64 l2] 86):=f2'
     have HIN8:=Ab hin8
     have HBL8:=Ab hbl8
     have y0:=(f1.block H (by omega)).trans (Aa HR0)
     have y1:=(f1.block (H+1) (by omega)).trans (Aa HR1)
     have y2:=(f1.block (H+1+1) (by omega)).trans (Aa HR2)
     have hbw8:Below H w W8:=(Aa HB4).trans (f1.mono (by omega))
     clear z0 z3 z4 z5 hk5 zz3 zzF hrn hE
     have z0:=Ad y0
     have z1:=A2 y1
     have z2:=Af y2
     have z3:=A2 f2''
     have z5:=Af f3
     have HBE:=Ab hbe
     have HBW8:=Ab hbw8
     have HF1:=Ab f1
     have HF2:=Ab f2'
     have HY1:=Ab y1
     have HY2:=Ab y2
     have HS8:=Ab (show H+1+1+1+1≤W8.heap.size by rw [f5,e40];omega)
     clear hbw8 f1 f2 f2' f2'' f3 f4 f5 e10 e20 e30 e40 y0 y1 y2 hW8 hb7 HA3 HAF HB6 HP4 HP5 HST5 HBX5 HBW5 HY5 HY6 HNU hin8 hbl8 hst' hbe hsame hold hnb HSI5 HSB5 HIN5
     rcases Aa HRN with ⟨hr,rfl,rfl⟩ | ⟨hr,hne⟩
     ·have hE:=Aa HE3
      rw [hr] at hE
      have hE2:P22.keysGo P22.stepRd (ks.drop (i+1)) (Am (ds.drop (i+1))) (⟨n2,a2,u2,aa2,ac2,af2,q2,fi2,fa2,li2,.mk k2 t2 ka2 kc2 ks2 da2 dc2 ds2 l2⟩:Bc).bare=RK:=by rw [← Aa HBE];exact hE
      have HE4:=Ab hE2
      clear hE hE2 hr HE3 HRN HBE
      go_wp2
      go_roundg g'
      case measure=>omega
      case rel=>exact ⟨i+1,(⟨n2,a2,u2,aa2,ac2,af2,q2,fi2,fa2,li2,.mk k2 t2 ka2 kc2 ks2 da2 dc2 ds2 l2⟩:Bc),by omega,by go_num,HE4,HF1,Ab ⟨Aa HF2,Aa HIN8,Aa HBL8⟩,Aa HS8⟩
     ·have j1:(ec != 0)=true:=by simpa using hne
      have hE:=Aa HE3
      rw [hr] at hE
      have hq:=Aa HQ
      rw [show RK=.error (ec,el) from hE.symm] at hq
      have HE4:=Ab (show RES=.error (ec,el) from hq)
      have HNE:=Ab hne
      clear hE hr HE3 HRN hne hq HBE
      go_upto_region 27 with fail
      go_region_with_o (fail)
      all_goals go_wp2
      all_goals
       have HE:=Dq (B:=H) (g1:=H+1) (g2:=H+1+1) (w:=w) (Aa HBW8) (Aa HY1) (Aa HY2) (by omega) (by omega) (by omega) (.string ⟨n2.toArray⟩) (.string ⟨a2.toArray⟩) (.string ⟨u2.toArray⟩) (.slice aa2 af2.length ac2) (.int .i64 q2) (.int .i64 fi2) (.int .i64 fa2) (.int .i64 li2) (.int .u8 k2) (.string ⟨t2.toArray⟩) (.slice ka2 ks2.length kc2) (.slice da2 ds2.length dc2) (.int .i64 l2) (.int .i64 ec) (.int .i64 el)
       have hIN:=(Aa HIN8).keep (fun g hg=>HE.2.2.2 g (Aa HNB g (Aa HBL8 g hg)).1 (Aa HNB g (Aa HBL8 g hg)).2.1)
       exact bodyPost_ret (Al rfl _ _ _ (H+1) (H+1+1) _ _ rfl (Cc HE.2.1) rfl (Ai HE.2.2.1)) rfl ⟨by rw [hH];exact HE.1,(⟨n2,a2,u2,aa2,ac2,af2,q2,fi2,fa2,li2,.mk k2 t2 ka2 kc2 ks2 da2 dc2 ds2 l2⟩:Bc),ec,el,rfl,hIN,fun g hg=>(Aa HBL8 g hg).imp id (fun h=>by rw [hH];omega),.inr ⟨Aa HE4,Aa HNE⟩⟩
    by_cases n4n:y=[114,101,116,114,121]
    ·subst n4n
     have hrd:P22.stepRd [114,101,116,114,121]=some (fun d s=>(P22.triesE d).map fun x=>{ s with tries:=x }):=rfl
     have hE:=Aa HE2
     rw [hrd] at hE
     have c4:([114,101,116,114,121] == [114,101,116,114,121])=true:=by decide
     have c0:([114,101,116,114,121] == [110,97,109,101])=false:=by decide
     have c1:([114,101,116,114,121] == [97,99,116,105,111,110])=false:=by decide
     have c2:([114,101,116,114,121] == [117,110,100,111])=false:=by decide
     have c3:([114,101,116,114,121] == [97,102,116,101,114])=false:=by decide
     have HE3:=Ab hE
     clear hE HE2 hrd
     have HNU:=Ab (N1 k1 t1 ka1 kc1 ks1 da1 dc1 ds1 l1 W5 (Aa HIN5) (Aa HKF))
     go_upto_region 26 with (go_at_call 95;refine (Aa HNU).mono ?_;rintro x6 w6 ⟨hb6,⟨vm,vf,vg⟩,ec,el,rfl,hrn⟩;have hz6:=hb6.size;have a3:=(hb6.block (H+1+1+1) (by omega)).trans (Aa HST5);have aF:=(hb6.block (Q+1) (by omega)).trans (Aa HP5);have zz3:=A2 a3;have zzF:=Af aF;have HB6:=Ab hb6;have HA3:=Ab a3;have HAF:=Ab aF;clear hb6 a3 aF)
     have hb7:Below (H+1+1+1) W2 w6:=(Aa HBX5).trans ((Aa HB6).mono (by omega))
     obtain ⟨e10,e20,e30,e40⟩:=Cr hb7 (Aa HA3) 4 (.int .i64 vm)
     obtain ⟨e11,e21,e31,e41⟩:=Cr e10 e20 5 (.int .i64 vf)
     obtain ⟨e12,e22,e32,e42⟩:=Cr e11 e21 6 (.int .i64 vg)
     obtain ⟨f1,f2,f3,f4,f5⟩:=C6 (F:=Q+1) e12 e22 ((e32 (Q+1) (by omega)).trans ((e31 (Q+1) (by omega)).trans ((e30 (Q+1) (by omega)).trans (Aa HAF)))) (by omega) (.int .i64 ec) (.int .i64 el)
     obtain ⟨W8,hW8⟩:∃ W8,((((w6.setCell ⟨H+1+1+1,4,none⟩ (.int .i64 vm)).setCell ⟨H+1+1+1,5,none⟩ (.int .i64 vf)).setCell ⟨H+1+1+1,6,none⟩ (.int .i64 vg)).setCell ⟨Q+1,0,none⟩ (.int .i64 ec)).setCell ⟨Q+1,1,none⟩ (.int .i64 el)=W8:=⟨_,rfl⟩
     rw [hW8] at f1 f2 f3 f4 f5 ⊢
     have hsame:∀ g,g≠H+1+1+1→g≠Q+1→W8.heap[g]?=w6.heap[g]?:=fun g h1 h2=>by
      rw [f4 g h2,e32 g h1,e31 g h1,e30 g h1]
     have hnb:∀ g,(PB g∨H+1+1+1<g)→g≠H+1∧g≠H+1+1∧g≠H+1+1+1:=fun g h1=>by
      have hp:=Aa HPH g
      rcases h1 with h | h
      ·have:=hp h;omega
      ·omega
     have hold:∀ g,(PB g∨H+1+1+1<g)→g<Q→W8.heap[g]?=W5.heap[g]?:=fun g h1 h2=>(hsame g (hnb g h1).2.2 (by omega)).trans ((Aa HB6).block g (by omega))
     have HNB:=Ab hnb
     have hin8:(⟨n0,a0,u0,aa0,ac0,af0,vm,vf,vg,li0,.mk k0 t0 ka0 kc0 ks0 da0 dc0 ds0 l0⟩:Bc).In W8:=by
      have h0:=(Aa HSI5).keep (fun g hg=>hold g (Aa HSB5 g hg).1 (Aa HSB5 g hg).2)
      exact ⟨h0.keys,h0.len,h0.cap,h0.note⟩
     have hbl8:∀ g,(⟨n0,a0,u0,aa0,ac0,af0,vm,vf,vg,li0,.mk k0 t0 ka0 kc0 ks0 da0 dc0 ds0 l0⟩:Bc).blk g→PB g∨H+1+1+1<g:=fun g hg=>(Aa HSB5 g hg).1
     have f2':W8.heap[H+1+1+1]?=some (.cells (⟨n0,a0,u0,aa0,ac0,af0,vm,vf,vg,li0,.mk k0 t0 ka0 kc0 ks0 da0 dc0 ds0 l0⟩:Bc).cs.toArray 86):=f2
     have hE:=Aa HE3
     have HRN:=Ab hrn
     obtain ⟨⟨n2,a2,u2,aa2,ac2,af2,q2,fi2,fa2,li2,⟨k2,t2,ka2,kc2,ks2,da2,dc2,ds2,l2⟩⟩,hst'⟩:∃ st':Bc,(⟨n0,a0,u0,aa0,ac0,af0,vm,vf,vg,li0,.mk k0 t0 ka0 kc0 ks0 da0 dc0 ds0 l0⟩:Bc)=st':=⟨_,rfl⟩
     have hbe:(⟨n0,a0,u0,aa0,ac0,af0,vm,vf,vg,li0,.mk k0 t0 ka0 kc0 ks0 da0 dc0 ds0 l0⟩:Bc).bare=(⟨n2,a2,u2,aa2,ac2,af2,q2,fi2,fa2,li2,.mk k2 t2 ka2 kc2 ks2 da2 dc2 ds2 l2⟩:Bc).bare:=by rw [hst']
     rw [hst'] at hin8 hbl8 f2'
     have f2'':W8.heap[H+1+1+1]?=some (.cells #[.string ⟨n2.toArray⟩,.string ⟨a2.toArray⟩,.string ⟨u2.toArray⟩,.slice aa2 af2.length ac2,.int .i64 q2,.int .i64 fi2,.int .i64 fa2,.int .i64 li2,.int .u8 k2,.string ⟨t2.toArray⟩,.slice ka2 ks2.length kc2,.slice da2 ds2.length dc2,.int .i64 l2] 86):=f2'
     have HIN8:=Ab hin8
     have HBL8:=Ab hbl8
     have y0:=(f1.block H (by omega)).trans (Aa HR0)
     have y1:=(f1.block (H+1) (by omega)).trans (Aa HR1)
     have y2:=(f1.block (H+1+1) (by omega)).trans (Aa HR2)
     have hbw8:Below H w W8:=(Aa HB4).trans (f1.mono (by omega))
     clear z0 z3 z4 z5 hk5 zz3 zzF hrn hE
     have z0:=Ad y0
     have z1:=A2 y1
     have z2:=Af y2
     have z3:=A2 f2''
     have z5:=Af f3
     have HBE:=Ab hbe
     have HBW8:=Ab hbw8
     have HF1:=Ab f1
     have HF2:=Ab f2'
     have HY1:=Ab y1
     have HY2:=Ab y2
     have HS8:=Ab (show H+1+1+1+1≤W8.heap.size by rw [f5,e42,e41,e40];omega)
     clear hbw8 f1 f2 f2' f2'' f3 f4 f5 e10 e20 e30 e40 e11 e21 e31 e41 e12 e22 e32 e42 y0 y1 y2 hW8 hb7 HA3 HAF HB6 HP4 HP5 HST5 HBX5 HBW5 HY5 HY6 HNU hin8 hbl8 hst' hbe hsame hold hnb HSI5 HSB5 HIN5
     rcases Aa HRN with ⟨hr,rfl,rfl⟩ | ⟨hr,hne⟩
     ·have hE:=Aa HE3
      rw [hr] at hE
      have hE2:P22.keysGo P22.stepRd (ks.drop (i+1)) (Am (ds.drop (i+1))) (⟨n2,a2,u2,aa2,ac2,af2,q2,fi2,fa2,li2,.mk k2 t2 ka2 kc2 ks2 da2 dc2 ds2 l2⟩:Bc).bare=RK:=by rw [← Aa HBE];exact hE
      have HE4:=Ab hE2
      clear hE hE2 hr HE3 HRN HBE
      go_wp2
      go_roundg g'
      case measure=>omega
      case rel=>exact ⟨i+1,(⟨n2,a2,u2,aa2,ac2,af2,q2,fi2,fa2,li2,.mk k2 t2 ka2 kc2 ks2 da2 dc2 ds2 l2⟩:Bc),by omega,by go_num,HE4,HF1,Ab ⟨Aa HF2,Aa HIN8,Aa HBL8⟩,Aa HS8⟩
     ·have j1:(ec != 0)=true:=by simpa using hne
      have hE:=Aa HE3
      rw [hr] at hE
      have hq:=Aa HQ
      rw [show RK=.error (ec,el) from hE.symm] at hq
      have HE4:=Ab (show RES=.error (ec,el) from hq)
      have HNE:=Ab hne
      clear hE hr HE3 HRN hne hq HBE
      go_upto_region 27 with fail
      go_region_with_o (fail)
      all_goals go_wp2
      all_goals
       have HE:=Dq (B:=H) (g1:=H+1) (g2:=H+1+1) (w:=w) (Aa HBW8) (Aa HY1) (Aa HY2) (by omega) (by omega) (by omega) (.string ⟨n2.toArray⟩) (.string ⟨a2.toArray⟩) (.string ⟨u2.toArray⟩) (.slice aa2 af2.length ac2) (.int .i64 q2) (.int .i64 fi2) (.int .i64 fa2) (.int .i64 li2) (.int .u8 k2) (.string ⟨t2.toArray⟩) (.slice ka2 ks2.length kc2) (.slice da2 ds2.length dc2) (.int .i64 l2) (.int .i64 ec) (.int .i64 el)
       have hIN:=(Aa HIN8).keep (fun g hg=>HE.2.2.2 g (Aa HNB g (Aa HBL8 g hg)).1 (Aa HNB g (Aa HBL8 g hg)).2.1)
       exact bodyPost_ret (Al rfl _ _ _ (H+1) (H+1+1) _ _ rfl (Cc HE.2.1) rfl (Ai HE.2.2.1)) rfl ⟨by rw [hH];exact HE.1,(⟨n2,a2,u2,aa2,ac2,af2,q2,fi2,fa2,li2,.mk k2 t2 ka2 kc2 ks2 da2 dc2 ds2 l2⟩:Bc),ec,el,rfl,hIN,fun g hg=>(Aa HBL8 g hg).imp id (fun h=>by rw [hH];omega),.inr ⟨Aa HE4,Aa HNE⟩⟩
    by_cases n5n:y=[108,105,109,105,116]
    ·subst n5n
     have hrd:P22.stepRd [108,105,109,105,116]=some (fun d s=>(P22.numE d).map fun x=>{ s with limit:=x }):=rfl
     have hE:=Aa HE2
     rw [hrd] at hE
     have c5:([108,105,109,105,116] == [108,105,109,105,116])=true:=by decide
     have c0:([108,105,109,105,116] == [110,97,109,101])=false:=by decide
     have c1:([108,105,109,105,116] == [97,99,116,105,111,110])=false:=by decide
     have c2:([108,105,109,105,116] == [117,110,100,111])=false:=by decide
     have c3:([108,105,109,105,116] == [97,102,116,101,114])=false:=by decide
     have c4:([108,105,109,105,116] == [114,101,116,114,121])=false:=by decide
     have HE3:=Ab hE
     clear hE HE2 hrd
     obtain ⟨v,ec,el,hnu,hrn⟩:=Ex k1 t1 ka1 kc1 ks1 da1 dc1 ds1 l1 (Aa HKF).kid.1
     have HNU:=Ab (hnu W5)
     clear hnu
     go_upto_region 26 with (go_at_call 96;refine (Aa HNU).mono ?_;rintro x6 w6 ⟨rfl,hb6⟩;have hz6:=hb6.size;have a3:=(hb6.block (H+1+1+1) (by omega)).trans (Aa HST5);have aF:=(hb6.block (Q+1) (by omega)).trans (Aa HP5);have zz3:=A2 a3;have zzF:=Af aF;have HB6:=Ab hb6;have HA3:=Ab a3;have HAF:=Ab aF;clear hb6 a3 aF)
     have hb7:Below (H+1+1+1) W2 w6:=(Aa HBX5).trans ((Aa HB6).mono (by omega))
     obtain ⟨e10,e20,e30,e40⟩:=Cr hb7 (Aa HA3) 7 (.int .i64 v)
     obtain ⟨f1,f2,f3,f4,f5⟩:=C6 (F:=Q+1) e10 e20 ((e30 (Q+1) (by omega)).trans (Aa HAF)) (by omega) (.int .i64 ec) (.int .i64 el)
     obtain ⟨W8,hW8⟩:∃ W8,((w6.setCell ⟨H+1+1+1,7,none⟩ (.int .i64 v)).setCell ⟨Q+1,0,none⟩ (.int .i64 ec)).setCell ⟨Q+1,1,none⟩ (.int .i64 el)=W8:=⟨_,rfl⟩
     rw [hW8] at f1 f2 f3 f4 f5 ⊢
     have hsame:∀ g,g≠H+1+1+1→g≠Q+1→W8.heap[g]?=w6.heap[g]?:=fun g h1 h2=>by
      rw [f4 g h2,e30 g h1]
     have hnb:∀ g,(PB g∨H+1+1+1<g)→g≠H+1∧g≠H+1+1∧g≠H+1+1+1:=fun g h1=>by
      have hp:=Aa HPH g
      rcases h1 with h | h
      ·have:=hp h;omega
      ·omega
     have hold:∀ g,(PB g∨H+1+1+1<g)→g<Q→W8.heap[g]?=W5.heap[g]?:=fun g h1 h2=>(hsame g (hnb g h1).2.2 (by omega)).trans ((Aa HB6).block g (by omega))
     have HNB:=Ab hnb
     have hin8:(⟨n0,a0,u0,aa0,ac0,af0,q0,fi0,fa0,v,.mk k0 t0 ka0 kc0 ks0 da0 dc0 ds0 l0⟩:Bc).In W8:=by
      have h0:=(Aa HSI5).keep (fun g hg=>hold g (Aa HSB5 g hg).1 (Aa HSB5 g hg).2)
      exact ⟨h0.keys,h0.len,h0.cap,h0.note⟩
     have hbl8:∀ g,(⟨n0,a0,u0,aa0,ac0,af0,q0,fi0,fa0,v,.mk k0 t0 ka0 kc0 ks0 da0 dc0 ds0 l0⟩:Bc).blk g→PB g∨H+1+1+1<g:=fun g hg=>(Aa HSB5 g hg).1
     have f2':W8.heap[H+1+1+1]?=some (.cells (⟨n0,a0,u0,aa0,ac0,af0,q0,fi0,fa0,v,.mk k0 t0 ka0 kc0 ks0 da0 dc0 ds0 l0⟩:Bc).cs.toArray 86):=f2
     have hE:=Aa HE3
     have HRN:=Ab hrn
     obtain ⟨⟨n2,a2,u2,aa2,ac2,af2,q2,fi2,fa2,li2,⟨k2,t2,ka2,kc2,ks2,da2,dc2,ds2,l2⟩⟩,hst'⟩:∃ st':Bc,(⟨n0,a0,u0,aa0,ac0,af0,q0,fi0,fa0,v,.mk k0 t0 ka0 kc0 ks0 da0 dc0 ds0 l0⟩:Bc)=st':=⟨_,rfl⟩
     have hbe:(⟨n0,a0,u0,aa0,ac0,af0,q0,fi0,fa0,v,.mk k0 t0 ka0 kc0 ks0 da0 dc0 ds0 l0⟩:Bc).bare=(⟨n2,a2,u2,aa2,ac2,af2,q2,fi2,fa2,li2,.mk k2 t2 ka2 kc2 ks2 da2 dc2 ds2 l2⟩:Bc).bare:=by rw [hst']
     rw [hst'] at hin8 hbl8 f2'
     have f2'':W8.heap[H+1+1+1]?=some (.cells #[.string ⟨n2.toArray⟩,.string ⟨a2.toArray⟩,.string ⟨u2.toArray⟩,.slice aa2 af2.length ac2,.int .i64 q2,.int .i64 fi2,.int .i64 fa2,.int .i64 li2,.int .u8 k2,.string ⟨t2.toArray⟩,.slice ka2 ks2.length kc2,.slice da2 ds2.length dc2,.int .i64 l2] 86):=f2'
     have HIN8:=Ab hin8
     have HBL8:=Ab hbl8
     have y0:=(f1.block H (by omega)).trans (Aa HR0)
     have y1:=(f1.block (H+1) (by omega)).trans (Aa HR1)
     have y2:=(f1.block (H+1+1) (by omega)).trans (Aa HR2)
     have hbw8:Below H w W8:=(Aa HB4).trans (f1.mono (by omega))
     clear z0 z3 z4 z5 hk5 zz3 zzF hrn hE
     have z0:=Ad y0
     have z1:=A2 y1
     have z2:=Af y2
     have z3:=A2 f2''
     have z5:=Af f3
     have HBE:=Ab hbe
     have HBW8:=Ab hbw8
     have HF1:=Ab f1
     have HF2:=Ab f2'
     have HY1:=Ab y1
     have HY2:=Ab y2
     have HS8:=Ab (show H+1+1+1+1≤W8.heap.size by rw [f5,e40];omega)
     clear hbw8 f1 f2 f2' f2'' f3 f4 f5 e10 e20 e30 e40 y0 y1 y2 hW8 hb7 HA3 HAF HB6 HP4 HP5 HST5 HBX5 HBW5 HY5 HY6 HNU hin8 hbl8 hst' hbe hsame hold hnb HSI5 HSB5 HIN5
     rcases Aa HRN with ⟨hr,rfl,rfl⟩ | ⟨hr,hne⟩
     ·have hE:=Aa HE3
      rw [hr] at hE
      have hE2:P22.keysGo P22.stepRd (ks.drop (i+1)) (Am (ds.drop (i+1))) (⟨n2,a2,u2,aa2,ac2,af2,q2,fi2,fa2,li2,.mk k2 t2 ka2 kc2 ks2 da2 dc2 ds2 l2⟩:Bc).bare=RK:=by rw [← Aa HBE];exact hE
      have HE4:=Ab hE2
      clear hE hE2 hr HE3 HRN HBE
      go_wp2
      go_roundg g'
      case measure=>omega
      case rel=>exact ⟨i+1,(⟨n2,a2,u2,aa2,ac2,af2,q2,fi2,fa2,li2,.mk k2 t2 ka2 kc2 ks2 da2 dc2 ds2 l2⟩:Bc),by omega,by go_num,HE4,HF1,Ab ⟨Aa HF2,Aa HIN8,Aa HBL8⟩,Aa HS8⟩
     ·have j1:(ec != 0)=true:=by simpa using hne
      have hE:=Aa HE3
      rw [hr] at hE
      have hq:=Aa HQ
      rw [show RK=.error (ec,el) from hE.symm] at hq
      have HE4:=Ab (show RES=.error (ec,el) from hq)
      have HNE:=Ab hne
      clear hE hr HE3 HRN hne hq HBE
      go_upto_region 27 with fail
      go_region_with_o (fail)
      all_goals go_wp2
      all_goals
       have HE:=Dq (B:=H) (g1:=H+1) (g2:=H+1+1) (w:=w) (Aa HBW8) (Aa HY1) (Aa HY2) (by omega) (by omega) (by omega) (.string ⟨n2.toArray⟩) (.string ⟨a2.toArray⟩) (.string ⟨u2.toArray⟩) (.slice aa2 af2.length ac2) (.int .i64 q2) (.int .i64 fi2) (.int .i64 fa2) (.int .i64 li2) (.int .u8 k2) (.string ⟨t2.toArray⟩) (.slice ka2 ks2.length kc2) (.slice da2 ds2.length dc2) (.int .i64 l2) (.int .i64 ec) (.int .i64 el)
       have hIN:=(Aa HIN8).keep (fun g hg=>HE.2.2.2 g (Aa HNB g (Aa HBL8 g hg)).1 (Aa HNB g (Aa HBL8 g hg)).2.1)
       exact bodyPost_ret (Al rfl _ _ _ (H+1) (H+1+1) _ _ rfl (Cc HE.2.1) rfl (Ai HE.2.2.1)) rfl ⟨by rw [hH];exact HE.1,(⟨n2,a2,u2,aa2,ac2,af2,q2,fi2,fa2,li2,.mk k2 t2 ka2 kc2 ks2 da2 dc2 ds2 l2⟩:Bc),ec,el,rfl,hIN,fun g hg=>(Aa HBL8 g hg).imp id (fun h=>by rw [hH];omega),.inr ⟨Aa HE4,Aa HNE⟩⟩
    by_cases n6n:y=[110,111,116,101]
    ·subst n6n
     have hrd:P22.stepRd [110,111,116,101]=some (fun d s=>(P22.noteE d).map fun x=>{ s with note:=x }):=rfl
     have hE:=Aa HE2
     rw [hrd] at hE
     have c6:([110,111,116,101] == [110,111,116,101])=true:=by decide
     have c0:([110,111,116,101] == [110,97,109,101])=false:=by decide
     have c1:([110,111,116,101] == [97,99,116,105,111,110])=false:=by decide
     have c2:([110,111,116,101] == [117,110,100,111])=false:=by decide
     have c3:([110,111,116,101] == [97,102,116,101,114])=false:=by decide
     have c4:([110,111,116,101] == [114,101,116,114,121])=false:=by decide
     have c5:([110,111,116,101] == [108,105,109,105,116])=false:=by decide
     have HE3:=Ab hE
     clear hE HE2 hrd
     obtain ⟨ec,el,hnu,hrn⟩:=Ra k1 t1 ka1 kc1 ks1 da1 dc1 ds1 l1 (P20.okF.sk (Aa HKF)) ((Aa HKF).size 18)
     have HNU:=Ab (hnu W5 (Aa HIN5))
     clear hnu
     go_upto_region 26 with (go_at_call 97;refine (Aa HNU).mono ?_;rintro x6 w6 ⟨rfl,hb6⟩;have hz6:=hb6.size;have a3:=(hb6.block (H+1+1+1) (by omega)).trans (Aa HST5);have aF:=(hb6.block (Q+1) (by omega)).trans (Aa HP5);have zz3:=A2 a3;have zzF:=Af aF;have HB6:=Ab hb6;have HA3:=Ab a3;have HAF:=Ab aF;clear hb6 a3 aF)
     have hb7:Below (H+1+1+1) W2 w6:=(Aa HBX5).trans ((Aa HB6).mono (by omega))
     obtain ⟨e10,e20,e30,e40⟩:=Cr hb7 (Aa HA3) 8 (.int .u8 k1)
     obtain ⟨e11,e21,e31,e41⟩:=Cr e10 e20 9 (.string ⟨t1.toArray⟩)
     obtain ⟨e12,e22,e32,e42⟩:=Cr e11 e21 10 (.slice ka1 ks1.length kc1)
     obtain ⟨e13,e23,e33,e43⟩:=Cr e12 e22 11 (.slice da1 ds1.length dc1)
     obtain ⟨e14,e24,e34,e44⟩:=Cr e13 e23 12 (.int .i64 l1)
     obtain ⟨f1,f2,f3,f4,f5⟩:=C6 (F:=Q+1) e14 e24 ((e34 (Q+1) (by omega)).trans ((e33 (Q+1) (by omega)).trans ((e32 (Q+1) (by omega)).trans ((e31 (Q+1) (by omega)).trans ((e30 (Q+1) (by omega)).trans (Aa HAF)))))) (by omega) (.int .i64 ec) (.int .i64 el)
     obtain ⟨W8,hW8⟩:∃ W8,((((((w6.setCell ⟨H+1+1+1,8,none⟩ (.int .u8 k1)).setCell ⟨H+1+1+1,9,none⟩ (.string ⟨t1.toArray⟩)).setCell ⟨H+1+1+1,10,none⟩ (.slice ka1 ks1.length kc1)).setCell ⟨H+1+1+1,11,none⟩ (.slice da1 ds1.length dc1)).setCell ⟨H+1+1+1,12,none⟩ (.int .i64 l1)).setCell ⟨Q+1,0,none⟩ (.int .i64 ec)).setCell ⟨Q+1,1,none⟩ (.int .i64 el)=W8:=⟨_,rfl⟩
     rw [hW8] at f1 f2 f3 f4 f5 ⊢
     have hsame:∀ g,g≠H+1+1+1→g≠Q+1→W8.heap[g]?=w6.heap[g]?:=fun g h1 h2=>by
      rw [f4 g h2,e34 g h1,e33 g h1,e32 g h1,e31 g h1,e30 g h1]
     have hnb:∀ g,(PB g∨H+1+1+1<g)→g≠H+1∧g≠H+1+1∧g≠H+1+1+1:=fun g h1=>by
      have hp:=Aa HPH g
      rcases h1 with h | h
      ·have:=hp h;omega
      ·omega
     have hold:∀ g,(PB g∨H+1+1+1<g)→g<Q→W8.heap[g]?=W5.heap[g]?:=fun g h1 h2=>(hsame g (hnb g h1).2.2 (by omega)).trans ((Aa HB6).block g (by omega))
     have HNB:=Ab hnb
     have hin8:(⟨n0,a0,u0,aa0,ac0,af0,q0,fi0,fa0,li0,.mk k1 t1 ka1 kc1 ks1 da1 dc1 ds1 l1⟩:Bc).In W8:=by
      have h0:=(Aa HSI5).keep (fun g hg=>hold g (Aa HSB5 g hg).1 (Aa HSB5 g hg).2)
      exact ⟨h0.keys,h0.len,h0.cap,(Aa HIN5).keep (fun g hg=>hold g (.inl (Aa HPK1 g hg)) (by have:=Aa HPH g (Aa HPK1 g hg);omega))⟩
     have hbl8:∀ g,(⟨n0,a0,u0,aa0,ac0,af0,q0,fi0,fa0,li0,.mk k1 t1 ka1 kc1 ks1 da1 dc1 ds1 l1⟩:Bc).blk g→PB g∨H+1+1+1<g:=by
      rintro g (hg | hg)
      ·exact (Aa HSB5 g (.inl hg)).1
      ·exact .inl (Aa HPK1 g hg)
     have f2':W8.heap[H+1+1+1]?=some (.cells (⟨n0,a0,u0,aa0,ac0,af0,q0,fi0,fa0,li0,.mk k1 t1 ka1 kc1 ks1 da1 dc1 ds1 l1⟩:Bc).cs.toArray 86):=f2
     have hE:=Aa HE3
     have HRN:=Ab hrn
     obtain ⟨⟨n2,a2,u2,aa2,ac2,af2,q2,fi2,fa2,li2,⟨k2,t2,ka2,kc2,ks2,da2,dc2,ds2,l2⟩⟩,hst'⟩:∃ st':Bc,(⟨n0,a0,u0,aa0,ac0,af0,q0,fi0,fa0,li0,.mk k1 t1 ka1 kc1 ks1 da1 dc1 ds1 l1⟩:Bc)=st':=⟨_,rfl⟩
     have hbe:(⟨n0,a0,u0,aa0,ac0,af0,q0,fi0,fa0,li0,.mk k1 t1 ka1 kc1 ks1 da1 dc1 ds1 l1⟩:Bc).bare=(⟨n2,a2,u2,aa2,ac2,af2,q2,fi2,fa2,li2,.mk k2 t2 ka2 kc2 ks2 da2 dc2 ds2 l2⟩:Bc).bare:=by rw [hst']
     rw [hst'] at hin8 hbl8 f2'
     have f2'':W8.heap[H+1+1+1]?=some (.cells #[.string ⟨n2.toArray⟩,.string ⟨a2.toArray⟩,.string ⟨u2.toArray⟩,.slice aa2 af2.length ac2,.int .i64 q2,.int .i64 fi2,.int .i64 fa2,.int .i64 li2,.int .u8 k2,.string ⟨t2.toArray⟩,.slice ka2 ks2.length kc2,.slice da2 ds2.length dc2,.int .i64 l2] 86):=f2'
     have HIN8:=Ab hin8
     have HBL8:=Ab hbl8
     have y0:=(f1.block H (by omega)).trans (Aa HR0)
     have y1:=(f1.block (H+1) (by omega)).trans (Aa HR1)
     have y2:=(f1.block (H+1+1) (by omega)).trans (Aa HR2)
     have hbw8:Below H w W8:=(Aa HB4).trans (f1.mono (by omega))
     clear z0 z3 z4 z5 hk5 zz3 zzF hrn hE
     have z0:=Ad y0
     have z1:=A2 y1
     have z2:=Af y2
     have z3:=A2 f2''
     have z5:=Af f3
     have HBE:=Ab hbe
     have HBW8:=Ab hbw8
     have HF1:=Ab f1
     have HF2:=Ab f2'
     have HY1:=Ab y1
     have HY2:=Ab y2
     have HS8:=Ab (show H+1+1+1+1≤W8.heap.size by rw [f5,e44,e43,e42,e41,e40];omega)
     clear hbw8 f1 f2 f2' f2'' f3 f4 f5 e10 e20 e30 e40 e11 e21 e31 e41 e12 e22 e32 e42 e13 e23 e33 e43 e14 e24 e34 e44 y0 y1 y2 hW8 hb7 HA3 HAF HB6 HP4 HP5 HST5 HBX5 HBW5 HY5 HY6 HNU hin8 hbl8 hst' hbe hsame hold hnb HSI5 HSB5 HIN5
     rcases Aa HRN with ⟨hr,rfl,rfl⟩ | ⟨hr,hne⟩
     ·have hE:=Aa HE3
      rw [hr] at hE
      have hE2:P22.keysGo P22.stepRd (ks.drop (i+1)) (Am (ds.drop (i+1))) (⟨n2,a2,u2,aa2,ac2,af2,q2,fi2,fa2,li2,.mk k2 t2 ka2 kc2 ks2 da2 dc2 ds2 l2⟩:Bc).bare=RK:=by rw [← Aa HBE];exact hE
      have HE4:=Ab hE2
      clear hE hE2 hr HE3 HRN HBE
      go_wp2
      go_roundg g'
      case measure=>omega
      case rel=>exact ⟨i+1,(⟨n2,a2,u2,aa2,ac2,af2,q2,fi2,fa2,li2,.mk k2 t2 ka2 kc2 ks2 da2 dc2 ds2 l2⟩:Bc),by omega,by go_num,HE4,HF1,Ab ⟨Aa HF2,Aa HIN8,Aa HBL8⟩,Aa HS8⟩
     ·have j1:(ec != 0)=true:=by simpa using hne
      have hE:=Aa HE3
      rw [hr] at hE
      have hq:=Aa HQ
      rw [show RK=.error (ec,el) from hE.symm] at hq
      have HE4:=Ab (show RES=.error (ec,el) from hq)
      have HNE:=Ab hne
      clear hE hr HE3 HRN hne hq HBE
      go_upto_region 27 with fail
      go_region_with_o (fail)
      all_goals go_wp2
      all_goals
       have HE:=Dq (B:=H) (g1:=H+1) (g2:=H+1+1) (w:=w) (Aa HBW8) (Aa HY1) (Aa HY2) (by omega) (by omega) (by omega) (.string ⟨n2.toArray⟩) (.string ⟨a2.toArray⟩) (.string ⟨u2.toArray⟩) (.slice aa2 af2.length ac2) (.int .i64 q2) (.int .i64 fi2) (.int .i64 fa2) (.int .i64 li2) (.int .u8 k2) (.string ⟨t2.toArray⟩) (.slice ka2 ks2.length kc2) (.slice da2 ds2.length dc2) (.int .i64 l2) (.int .i64 ec) (.int .i64 el)
       have hIN:=(Aa HIN8).keep (fun g hg=>HE.2.2.2 g (Aa HNB g (Aa HBL8 g hg)).1 (Aa HNB g (Aa HBL8 g hg)).2.1)
       exact bodyPost_ret (Al rfl _ _ _ (H+1) (H+1+1) _ _ rfl (Cc HE.2.1) rfl (Ai HE.2.2.1)) rfl ⟨by rw [hH];exact HE.1,(⟨n2,a2,u2,aa2,ac2,af2,q2,fi2,fa2,li2,.mk k2 t2 ka2 kc2 ks2 da2 dc2 ds2 l2⟩:Bc),ec,el,rfl,hIN,fun g hg=>(Aa HBL8 g hg).imp id (fun h=>by rw [hH];omega),.inr ⟨Aa HE4,Aa HNE⟩⟩
    have hrd:P22.stepRd y=none:=by unfold P22.stepRd;rw [if_neg n0n,if_neg n1n,if_neg n2n,if_neg n3n,if_neg n4n,if_neg n5n,if_neg n6n]
    have hE:=Aa HE2
    rw [hrd] at hE
    have hq:=Aa HQ
    rw [show RK=.error (18,l1) from hE.symm] at hq
    have HE4:=Ab (show RES=.error (18,l1) from hq)
    have c0:(y == [110,97,109,101])=false:=by simpa using n0n
    have c1:(y == [97,99,116,105,111,110])=false:=by simpa using n1n
    have c2:(y == [117,110,100,111])=false:=by simpa using n2n
    have c3:(y == [97,102,116,101,114])=false:=by simpa using n3n
    have c4:(y == [114,101,116,114,121])=false:=by simpa using n4n
    have c5:(y == [108,105,109,105,116])=false:=by simpa using n5n
    have c6:(y == [110,111,116,101])=false:=by simpa using n6n
    clear hE HE2 hrd hq
    go_upto_region 26 with fail
    obtain ⟨f1,f2,f3,f4,f5⟩:=C6 (F:=Q+1) (Aa HBX5) (Aa HST5) (Aa HP5) (by omega) (.int .i64 18) (.int .i64 l1)
    obtain ⟨W8,hW8⟩:∃ W8,(W5.setCell ⟨Q+1,0,none⟩ (.int .i64 18)).setCell ⟨Q+1,1,none⟩ (.int .i64 l1)=W8:=⟨_,rfl⟩
    rw [hW8] at f1 f2 f3 f4 f5 ⊢
    have hin8:(⟨n0,a0,u0,aa0,ac0,af0,q0,fi0,fa0,li0,.mk k0 t0 ka0 kc0 ks0 da0 dc0 ds0 l0⟩:Bc).In W8:=(Aa HSI5).keep (fun g hg=>f4 g (by have:=(Aa HSB5 g hg).2;omega))
    have hbl8:∀ g,(⟨n0,a0,u0,aa0,ac0,af0,q0,fi0,fa0,li0,.mk k0 t0 ka0 kc0 ks0 da0 dc0 ds0 l0⟩:Bc).blk g→PB g∨H+1+1+1<g:=fun g hg=>(Aa HSB5 g hg).1
    have hnb:∀ g,(PB g∨H+1+1+1<g)→g≠H+1∧g≠H+1+1∧g≠H+1+1+1:=fun g h1=>by
     have hp:=Aa HPH g
     rcases h1 with h | h
     ·have:=hp h;omega
     ·omega
    have y0:=(f1.block H (by omega)).trans (Aa HR0)
    have y1:=(f1.block (H+1) (by omega)).trans (Aa HR1)
    have y2:=(f1.block (H+1+1) (by omega)).trans (Aa HR2)
    have hbw8:Below H w W8:=(Aa HB4).trans (f1.mono (by omega))
    clear z0 z3 z4 z5 hk5
    have z0:=Ad y0
    have z1:=A2 y1
    have z2:=Af y2
    have z3:=A2 f2
    have z5:=Af f3
    have HBW8:=Ab hbw8
    have HY1:=Ab y1
    have HY2:=Ab y2
    have HIN8:=Ab hin8
    have HBL8:=Ab hbl8
    have HNB:=Ab hnb
    clear hbw8 f1 f2 f3 f4 f5 y0 y1 y2 hW8 HP4 HP5 HST5 HBX5 HBW5 HY5 HY6 hin8 hbl8 hnb HSI5 HSB5 HIN5
    go_upto_region 27 with fail
    go_region_with_o (fail)
    all_goals go_wp2
    all_goals
     have HE:=Dq (B:=H) (g1:=H+1) (g2:=H+1+1) (w:=w) (Aa HBW8) (Aa HY1) (Aa HY2) (by omega) (by omega) (by omega) (.string ⟨n0.toArray⟩) (.string ⟨a0.toArray⟩) (.string ⟨u0.toArray⟩) (.slice aa0 af0.length ac0) (.int .i64 q0) (.int .i64 fi0) (.int .i64 fa0) (.int .i64 li0) (.int .u8 k0) (.string ⟨t0.toArray⟩) (.slice ka0 ks0.length kc0) (.slice da0 ds0.length dc0) (.int .i64 l0) (.int .i64 18) (.int .i64 l1)
     have hIN:=(Aa HIN8).keep (fun g hg=>HE.2.2.2 g (Aa HNB g (Aa HBL8 g hg)).1 (Aa HNB g (Aa HBL8 g hg)).2.1)
     exact bodyPost_ret (Al rfl _ _ _ (H+1) (H+1+1) _ _ rfl (Cc HE.2.1) rfl (Ai HE.2.2.1)) rfl ⟨by rw [hH];exact HE.1,(⟨n0,a0,u0,aa0,ac0,af0,q0,fi0,fa0,li0,.mk k0 t0 ka0 kc0 ks0 da0 dc0 ds0 l0⟩:Bc),18,l1,rfl,hIN,fun g hg=>(Aa HBL8 g hg).imp id (fun h=>by rw [hH];omega),.inr ⟨Aa HE4,by decide⟩⟩
end Go.Proofs.YtnjokdbblmlhhaaGreatDoor
