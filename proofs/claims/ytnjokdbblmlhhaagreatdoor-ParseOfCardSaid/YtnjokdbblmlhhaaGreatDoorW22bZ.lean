/- Lemmas of this claim. -/
import Derived.Test.YtnjokdbblmlhhaaGreatDoorW22aZ
namespace Go.Proofs.YtnjokdbblmlhhaaGreatDoor
set_option linter.unusedVariables false
set_option linter.unusedSimpArgs false
open Go.RowKit
namespace P20
mutual
theorem T.check_cut:∀ (d:T) (lv k:Nat),d.check lv=0→18≤lv+k→d.cut k=d
 | .mk k0 t ks ds l,lv,k,h,hk=>by
  have h1:lv≤16∧checkL (lv+1) ds=0:=by
   unfold T.check at h
   by_cases hn:nodeE lv (.mk k0 t ks ds l)=0
   ·rw [if_neg (by simpa using hn)] at h
    refine ⟨?_,h⟩
    simp only [nodeE] at hn
    split at hn
    ·exact absurd hn (by decide)
    ·omega
   ·rw [if_pos hn] at h;exact absurd h hn
  unfold T.cut
  rw [if_pos (by omega),It ds (lv+1) (k - 1) h1.2 (by omega)]
theorem It:∀ (ds:List T) (lv k:Nat),checkL lv ds=0→18≤lv+k→cutL k ds=ds
 | [],lv,k,h,hk=>rfl
 | d :: ds,lv,k,h,hk=>by
  unfold checkL at h
  by_cases hd:d.check lv=0
  ·rw [if_neg (by simpa using hd)] at h
   unfold cutL
   rw [T.check_cut d lv k hd hk,It ds lv k h hk]
  ·rw [if_pos hd] at h;exact absurd h hd
end
end P20
def Vk (w:World) (tb:Nat) (d:P20.T) (e:Ending) (w':World):Prop:=
 w.grownBy w' (some tb)∧(∃ (k:Nat) (t:List UInt8) (ka:Option Addr) (kc:Nat) (ks:List (List UInt8)) (da:Option Addr) (dc:Nat) (ds:List Nd) (l:Int),(Nd.mk k t ka kc ks da dc ds l).bare=d.cut 18∧(Nd.mk k t ka kc ks da dc ds l).In w'∧(∀ g,(Nd.mk k t ka kc ks da dc ds l).blk g→w.heap.size≤g)∧w'.heap[tb]?=some (.cells #[.int .u8 k,.string ⟨t.toArray⟩,.slice ka ks.length kc,.slice da ds.length dc,.int .i64 l] 26)) ∧
 match P22.noteE d with
 | .ok _=>e=.returned (fV 0 0)
 | .error f=>e=.returned (fV f.1 f.2)
theorem Gp {w W:World} {tb:Nat} (h:w.grownBy W (some tb)) (v0 v1 v2 v3 v4:Value):w.grownBy (((((W.setCell ⟨tb,0,none⟩ v0).setCell ⟨tb,1,none⟩ v1).setCell ⟨tb,2,none⟩ v2).setCell ⟨tb,3,none⟩ v3).setCell ⟨tb,4,none⟩ v4) (some tb):=by
 obtain ⟨o1,o2,o3,o4⟩:=O2 W tb v0 v1 v2 v3 v4 _ rfl
 exact ⟨o1.trans h.os,o2.trans h.tape,o3.trans h.output,by rw [o4];exact h.size,fun i hi hne=>(Az (by rintro rfl;exact hne rfl) _ _ _ _ _).trans (h.block i hi hne)⟩
set_option maxRecDepth 100000 in
set_option maxHeartbeats 8000000 in
theorem Qr (k:Nat) (t:List UInt8) (ka:Option Addr) (kc:Nat) (ks:List (List UInt8)) (da:Option Addr) (dc:Nat) (ds:List Nd) (l:Int) (c1 tb:Nat) (z0 z1 z2 z3 z4:Value) (w:World) (hin:(Nd.mk k t ka kc ks da dc ds l).In w) (hok:E6 (Nd.mk k t ka kc ks da dc ds l).bare) (hbk:¬ (Nd.mk k t ka kc ks da dc ds l).blk tb)
  (h1:w.heap[c1]?=some (.cells #[.pointer (some ⟨tb,0,none⟩)] 146)) (hb:w.heap[tb]?=some (.cells #[z0,z1,z2,z3,z4] 26)) :
  Calls Tryz.prog 128 #[.agg #[.int .u8 k,.string ⟨t.toArray⟩,.slice ka ks.length kc,.slice da ds.length dc,.int .i64 l],.pointer (some ⟨c1,0,none⟩)] w (Vk w tb (Nd.mk k t ka kc ks da dc ds l).bare):=by
 obtain ⟨H,hH⟩:∃ H,w.heap.size=H:=⟨_,rfl⟩
 obtain ⟨W0,hW0,hb0,g0,g1,hs0⟩:=A0 w (.cells #[.int .u8 k,.string ⟨t.toArray⟩,.slice ka ks.length kc,.slice da ds.length dc,.int .i64 l] 26) (.cells #[.int .i64 0,.int .i64 0] 29) H hH
 have x0:=Ad g0
 have y0:=Af g1
 have p1:=(hb0.block c1 (by have:=(Array.getElem?_eq_some_iff.1 h1).1;omega)).trans h1
 have p3:=(hb0.block tb (by have:=(Array.getElem?_eq_some_iff.1 hb).1;omega)).trans hb
 have c12:c1≠tb:=by rintro rfl;rw [h1] at hb;simp at hb
 have htl:tb<H:=by have:=(Array.getElem?_eq_some_iff.1 hb).1;omega
 have hc1:c1<H:=by have:=(Array.getElem?_eq_some_iff.1 h1).1;omega
 have u1:=Aq p1
 have u3:=Ad p3
 have hin0:=hin.below (by rw [hH];exact hb0)
 have hlt:=fun g (hg:(Nd.mk k t ka kc ks da dc ds l).blk g)=>hin.lt hg
 rw [hH] at hlt
 have hcp:=Mz (Nd.mk k t ka kc ks da dc ds l) W0.drew hin0.drew hok
 have hck:=fun W (hi:(Nd.mk k t ka kc ks da dc ds l).In W)=>Lv (Nd.mk k t ka kc ks da dc ds l) W hi hok
 have hdp:=fun W (hi:(Nd.mk k t ka kc ks da dc ds l).In W)=>Qo (Nd.mk k t ka kc ks da dc ds l) W hi
 simp only [Sr] at hdp
 obtain ⟨T,hT⟩:∃ T,(Nd.mk k t ka kc ks da dc ds l).bare=T:=⟨_,rfl⟩
 simp only [hT,Nd.val_eq] at hcp hck hdp ⊢
 obtain ⟨e,he⟩:∃ e,T.check 1=e:=⟨_,rfl⟩
 obtain ⟨dd,hdd⟩:∃ dd,(T.size 18).1=dd:=⟨_,rfl⟩
 simp only [he] at hck
 simp only [hdd] at hdp
 have hln:T.line=l:=by rw [← hT];simp only [Nd.bare,P20.T.line]
 have HW0:=Ab hW0
 have HB0:=Ab (show w.grownBy W0 (some tb) from Aj (hb0.mono (by omega)) _)
 have HG0:=Ab g0
 have HG1:=Ab g1
 have HP1:=Ab p1
 have HP3:=Ab p3
 have HCP:=Ab hcp
 have HCK:=Ab hck
 have HDP:=Ab hdp
 have HIN:=Ab hin0
 have HE:=Ab he
 have HDD:=Ab hdd
 have HLN:=Ab hln
 have HLT:=Ab hlt
 have hmx:=Dl
 have S0:=Vd (W:=W0) x0 u1
 clear hW0 hb0 g0 g1 h1 hb p1 p3 hcp hck hdp hin hin0 he hdd hT hln hlt hok
 by_cases hz:e=0
 ·subst hz
  by_cases hd13:13<dd
  ·obtain ⟨e',l',hwe,hel⟩:=Ct k t ka kc ks da dc ds l 11
   have HWE:=Ab hwe
   have hel2:=hel.resolve_left (fun h=>by exact absurd h.1 (by decide))
   obtain ⟨_,q1,q2⟩:=hel2
   have q1:=q1.symm
   have q2:=q2.symm
   subst q1
   subst q2
   have j13:(13:Int)<(dd:Int):=by omega
   have HZ:=Ab hd13
   clear hwe hel hd13
   go_enter Tryz.func128,Tryz.ntmps128
   go_upto_region 1 with fail
   try rw [hH]
   rw [Aa HW0]
   go_region_with_o (go_at_call 23;refine (Aa HCP).mono ?_;rintro x2 w2 ⟨k2,t2,ka2,kc2,ks2,da2,dc2,ds2,l2,rfl,HN2,hb2⟩;have hb2:Below W0.heap.size W0 w2:=⟨hb2.os,hb2.tape,hb2.output,hb2.size,hb2.block⟩;have u32:=Ad ((hb2.block H (by omega)).trans (Aa HG0));have u31:=Aq ((hb2.block c1 (by omega)).trans (Aa HP1));have u33:=Ad ((hb2.block tb (by omega)).trans (Aa HP3));have HB2:=Ab hb2;clear hb2)
   all_goals
    obtain ⟨W1,hW1⟩:∃ W1,(((((w2.setCell ⟨tb,0,none⟩ (.int .u8 k2)).setCell ⟨tb,1,none⟩ (.string ⟨t2.toArray⟩)).setCell ⟨tb,2,none⟩ (.slice ka2 ks2.length kc2)).setCell ⟨tb,3,none⟩ (.slice da2 ds2.length dc2)).setCell ⟨tb,4,none⟩ (.int .i64 l2))=W1:=⟨_,rfl⟩
    have hl2:=(Aa HB2).size
    have n0:=(show W1.heap[H]?=w2.heap[H]? by rw [← hW1];exact Az (by omega) _ _ _ _ _).trans (((Aa HB2).block H (by omega)).trans (Aa HG0))
    have n1:=(show W1.heap[H+1]?=w2.heap[H+1]? by rw [← hW1];exact Az (by omega) _ _ _ _ _).trans (((Aa HB2).block (H+1) (by omega)).trans (Aa HG1))
    have n2:W1.heap[tb]?=some (.cells #[.int .u8 k2,.string ⟨t2.toArray⟩,.slice ka2 ks2.length kc2,.slice da2 ds2.length dc2,.int .i64 l2] 26):=by rw [← hW1];exact B9 (((Aa HB2).block tb (by omega)).trans (Aa HP3)) _ _ _ _ _
    have hs1:W1.heap.size=w2.heap.size:=by rw [← hW1];simp
    have hg1:w.grownBy W1 (some tb):=by rw [← hW1];exact Gp (Ah (Aa HB0) (Aj (Aa HB2) _)) _ _ _ _ _
    have hnew2:=(Aa HN2).2.2
    have hinN:(Nd.mk k2 t2 ka2 kc2 ks2 da2 dc2 ds2 l2).In W1:=by rw [← hW1];exact (Aa HN2).2.1.keep (fun g hg=>Az (by have:=hnew2 g hg;simp only [World.drew] at this;omega) _ _ _ _ _)
    have hi1:(Nd.mk k t ka kc ks da dc ds l).In W1:=by rw [← hW1];exact ((Aa HIN).below (Aa HB2)).keep (fun g hg=>Az (by rintro rfl;exact hbk hg) _ _ _ _ _)
    have hnewN:∀ g,(Nd.mk k2 t2 ka2 kc2 ks2 da2 dc2 ds2 l2).blk g→H+1+1≤g:=fun g hg=>by have:=hnew2 g hg;simp only [World.drew] at this;omega
    have HI1:=Ab hi1
    have HH1:=Ab n0
    have HF1:=Ab n1
    have HT2:=Ab n2
    have HGW:=Ab hg1
    have HNN:=Ab (show (Nd.mk k2 t2 ka2 kc2 ks2 da2 dc2 ds2 l2).bare=T.cut 18∧(Nd.mk k2 t2 ka2 kc2 ks2 da2 dc2 ds2 l2).In W1∧(∀ g,(Nd.mk k2 t2 ka2 kc2 ks2 da2 dc2 ds2 l2).blk g→H+1+1≤g) from ⟨(Aa HN2).1,hinN,hnewN⟩)
    have xx0:=Ad n0
    try rw [hW1]
    clear hW1 u32 u31 u33 n0 n1 n2 hg1 hnew2 hinN hnewN hi1 HB2 HN2
   all_goals go_wp2_with (first
    | (go_at_call 16;refine (Aa HCK W1 (Aa HI1)).mono ?_;rintro x3 w3 ⟨rfl,hb3⟩;have hI3:=Ab ((Aa HI1).below hb3);have q0:=Ad ((hb3.block H (by omega)).trans (Aa HH1));have HB3:=Ab hb3;have hl3:=hb3.size;clear hb3)
    | (go_at_call 21;refine (Aa HDP w3 (Aa hI3)).mono ?_;rintro x4 w4 ⟨rfl,hb4⟩;have qq0:=Ad ((hb4.block H (by omega)).trans (((Aa HB3).block H (by omega)).trans (Aa HH1)));have HB4:=Ab hb4;have hl4:=hb4.size;clear hb4)
    | (go_at_call 91;refine (Aa HWE w4).mono ?_;rintro x5 w5 ⟨rfl,hb5⟩;have t1:=(hb5.block (H+1) (by omega)).trans ((Aa HB4).block (H+1) (by omega) |>.trans ((Aa HB3).block (H+1) (by omega) |>.trans (Aa HF1)));have tt1:=Af t1;have HT1:=Ab t1;have HB5:=Ab hb5;clear t1 hb5))
   all_goals
    have h15:Below W1.heap.size W1 w5:=(Aa HB3).trans (((Aa HB4).trans ((Aa HB5).mono hl4)).mono hl3)
    have hk:=(Aa HNN).2.1.below h15
    have hq:=(h15.block tb (by omega)).trans (Aa HT2)
    have hq2:=(Ar (W:=w5) (g:=H+1) (g':=tb) (by omega) (.int .i64 11) (.int .i64 l)).trans hq
    refine bodyPost_ret (Av rfl _ _ _ (H+1) _ rfl (Ai (A3 (Aa HT1) _ _))) rfl ⟨B4 (Ah (Aa HGW) (Aj h15 _)) (by omega) _ _,⟨k2,t2,ka2,kc2,ks2,da2,dc2,ds2,l2,(Aa HNN).1,hk.keep (fun g hg=>Ar (by have:=(Aa HNN).2.2 g hg;omega) _ _),fun g hg=>by have:=(Aa HNN).2.2 g hg;omega,hq2⟩,?_⟩
    unfold P22.noteE;rw [Aa HE,if_neg (by simp),Aa HDD,if_pos (Aa HZ)];simp only;rw [Aa HLN]
  ·obtain ⟨e',l',hwe,hel⟩:=Ct k t ka kc ks da dc ds l 0
   have HWE:=Ab hwe
   have hel2:=hel.resolve_right (fun h=>h.1 rfl)
   obtain ⟨_,q1,q2⟩:=hel2
   subst q1
   subst q2
   have j13:(dd:Int)≤13:=by omega
   have HZ:=Ab hd13
   clear hwe hel hd13
   go_enter Tryz.func128,Tryz.ntmps128
   go_upto_region 1 with fail
   try rw [hH]
   rw [Aa HW0]
   go_region_with_o (go_at_call 23;refine (Aa HCP).mono ?_;rintro x2 w2 ⟨k2,t2,ka2,kc2,ks2,da2,dc2,ds2,l2,rfl,HN2,hb2⟩;have hb2:Below W0.heap.size W0 w2:=⟨hb2.os,hb2.tape,hb2.output,hb2.size,hb2.block⟩;have u32:=Ad ((hb2.block H (by omega)).trans (Aa HG0));have u31:=Aq ((hb2.block c1 (by omega)).trans (Aa HP1));have u33:=Ad ((hb2.block tb (by omega)).trans (Aa HP3));have HB2:=Ab hb2;clear hb2)
   all_goals
    obtain ⟨W1,hW1⟩:∃ W1,(((((w2.setCell ⟨tb,0,none⟩ (.int .u8 k2)).setCell ⟨tb,1,none⟩ (.string ⟨t2.toArray⟩)).setCell ⟨tb,2,none⟩ (.slice ka2 ks2.length kc2)).setCell ⟨tb,3,none⟩ (.slice da2 ds2.length dc2)).setCell ⟨tb,4,none⟩ (.int .i64 l2))=W1:=⟨_,rfl⟩
    have hl2:=(Aa HB2).size
    have n0:=(show W1.heap[H]?=w2.heap[H]? by rw [← hW1];exact Az (by omega) _ _ _ _ _).trans (((Aa HB2).block H (by omega)).trans (Aa HG0))
    have n1:=(show W1.heap[H+1]?=w2.heap[H+1]? by rw [← hW1];exact Az (by omega) _ _ _ _ _).trans (((Aa HB2).block (H+1) (by omega)).trans (Aa HG1))
    have n2:W1.heap[tb]?=some (.cells #[.int .u8 k2,.string ⟨t2.toArray⟩,.slice ka2 ks2.length kc2,.slice da2 ds2.length dc2,.int .i64 l2] 26):=by rw [← hW1];exact B9 (((Aa HB2).block tb (by omega)).trans (Aa HP3)) _ _ _ _ _
    have hs1:W1.heap.size=w2.heap.size:=by rw [← hW1];simp
    have hg1:w.grownBy W1 (some tb):=by rw [← hW1];exact Gp (Ah (Aa HB0) (Aj (Aa HB2) _)) _ _ _ _ _
    have hnew2:=(Aa HN2).2.2
    have hinN:(Nd.mk k2 t2 ka2 kc2 ks2 da2 dc2 ds2 l2).In W1:=by rw [← hW1];exact (Aa HN2).2.1.keep (fun g hg=>Az (by have:=hnew2 g hg;simp only [World.drew] at this;omega) _ _ _ _ _)
    have hi1:(Nd.mk k t ka kc ks da dc ds l).In W1:=by rw [← hW1];exact ((Aa HIN).below (Aa HB2)).keep (fun g hg=>Az (by rintro rfl;exact hbk hg) _ _ _ _ _)
    have hnewN:∀ g,(Nd.mk k2 t2 ka2 kc2 ks2 da2 dc2 ds2 l2).blk g→H+1+1≤g:=fun g hg=>by have:=hnew2 g hg;simp only [World.drew] at this;omega
    have HI1:=Ab hi1
    have HH1:=Ab n0
    have HF1:=Ab n1
    have HT2:=Ab n2
    have HGW:=Ab hg1
    have HNN:=Ab (show (Nd.mk k2 t2 ka2 kc2 ks2 da2 dc2 ds2 l2).bare=T.cut 18∧(Nd.mk k2 t2 ka2 kc2 ks2 da2 dc2 ds2 l2).In W1∧(∀ g,(Nd.mk k2 t2 ka2 kc2 ks2 da2 dc2 ds2 l2).blk g→H+1+1≤g) from ⟨(Aa HN2).1,hinN,hnewN⟩)
    have xx0:=Ad n0
    try rw [hW1]
    clear hW1 u32 u31 u33 n0 n1 n2 hg1 hnew2 hinN hnewN hi1 HB2 HN2
   all_goals go_wp2_with (first
    | (go_at_call 16;refine (Aa HCK W1 (Aa HI1)).mono ?_;rintro x3 w3 ⟨rfl,hb3⟩;have hI3:=Ab ((Aa HI1).below hb3);have q0:=Ad ((hb3.block H (by omega)).trans (Aa HH1));have HB3:=Ab hb3;have hl3:=hb3.size;clear hb3)
    | (go_at_call 21;refine (Aa HDP w3 (Aa hI3)).mono ?_;rintro x4 w4 ⟨rfl,hb4⟩;have qq0:=Ad ((hb4.block H (by omega)).trans (((Aa HB3).block H (by omega)).trans (Aa HH1)));have HB4:=Ab hb4;have hl4:=hb4.size;clear hb4)
    | (go_at_call 91;refine (Aa HWE w4).mono ?_;rintro x5 w5 ⟨rfl,hb5⟩;have t1:=(hb5.block (H+1) (by omega)).trans ((Aa HB4).block (H+1) (by omega) |>.trans ((Aa HB3).block (H+1) (by omega) |>.trans (Aa HF1)));have tt1:=Af t1;have HT1:=Ab t1;have HB5:=Ab hb5;clear t1 hb5))
   all_goals
    have h15:Below W1.heap.size W1 w5:=(Aa HB3).trans (((Aa HB4).trans ((Aa HB5).mono hl4)).mono hl3)
    have hk:=(Aa HNN).2.1.below h15
    have hq:=(h15.block tb (by omega)).trans (Aa HT2)
    have hq2:=(Ar (W:=w5) (g:=H+1) (g':=tb) (by omega) (.int .i64 0) (.int .i64 0)).trans hq
    refine bodyPost_ret (Av rfl _ _ _ (H+1) _ rfl (Ai (A3 (Aa HT1) _ _))) rfl ⟨B4 (Ah (Aa HGW) (Aj h15 _)) (by omega) _ _,⟨k2,t2,ka2,kc2,ks2,da2,dc2,ds2,l2,(Aa HNN).1,hk.keep (fun g hg=>Ar (by have:=(Aa HNN).2.2 g hg;omega) _ _),fun g hg=>by have:=(Aa HNN).2.2 g hg;omega,hq2⟩,?_⟩
    unfold P22.noteE;rw [Aa HE,if_neg (by simp),Aa HDD,if_neg (Aa HZ)]
 ·have jz:(e == 0)=false:=by rw [beq_eq_false_iff_ne];exact hz
  obtain ⟨e',l',hwe,hel⟩:=Ct k t ka kc ks da dc ds l e
  have HWE:=Ab hwe
  have hel2:=hel.resolve_left (fun h=>hz h.1)
  obtain ⟨_,q1,q2⟩:=hel2
  have q1:=q1.symm
  have q2:=q2.symm
  subst q1
  subst q2
  have HZ:=Ab hz
  clear hwe hel hz
  go_enter Tryz.func128,Tryz.ntmps128
  go_upto_region 1 with fail
  try rw [hH]
  rw [Aa HW0]
  go_region_with_o (go_at_call 23;refine (Aa HCP).mono ?_;rintro x2 w2 ⟨k2,t2,ka2,kc2,ks2,da2,dc2,ds2,l2,rfl,HN2,hb2⟩;have hb2:Below W0.heap.size W0 w2:=⟨hb2.os,hb2.tape,hb2.output,hb2.size,hb2.block⟩;have u32:=Ad ((hb2.block H (by omega)).trans (Aa HG0));have u31:=Aq ((hb2.block c1 (by omega)).trans (Aa HP1));have u33:=Ad ((hb2.block tb (by omega)).trans (Aa HP3));have HB2:=Ab hb2;clear hb2)
  all_goals
   obtain ⟨W1,hW1⟩:∃ W1,(((((w2.setCell ⟨tb,0,none⟩ (.int .u8 k2)).setCell ⟨tb,1,none⟩ (.string ⟨t2.toArray⟩)).setCell ⟨tb,2,none⟩ (.slice ka2 ks2.length kc2)).setCell ⟨tb,3,none⟩ (.slice da2 ds2.length dc2)).setCell ⟨tb,4,none⟩ (.int .i64 l2))=W1:=⟨_,rfl⟩
   have hl2:=(Aa HB2).size
   have n0:=(show W1.heap[H]?=w2.heap[H]? by rw [← hW1];exact Az (by omega) _ _ _ _ _).trans (((Aa HB2).block H (by omega)).trans (Aa HG0))
   have n1:=(show W1.heap[H+1]?=w2.heap[H+1]? by rw [← hW1];exact Az (by omega) _ _ _ _ _).trans (((Aa HB2).block (H+1) (by omega)).trans (Aa HG1))
   have n2:W1.heap[tb]?=some (.cells #[.int .u8 k2,.string ⟨t2.toArray⟩,.slice ka2 ks2.length kc2,.slice da2 ds2.length dc2,.int .i64 l2] 26):=by rw [← hW1];exact B9 (((Aa HB2).block tb (by omega)).trans (Aa HP3)) _ _ _ _ _
   have hs1:W1.heap.size=w2.heap.size:=by rw [← hW1];simp
   have hg1:w.grownBy W1 (some tb):=by rw [← hW1];exact Gp (Ah (Aa HB0) (Aj (Aa HB2) _)) _ _ _ _ _
   have hnew2:=(Aa HN2).2.2
   have hinN:(Nd.mk k2 t2 ka2 kc2 ks2 da2 dc2 ds2 l2).In W1:=by rw [← hW1];exact (Aa HN2).2.1.keep (fun g hg=>Az (by have:=hnew2 g hg;simp only [World.drew] at this;omega) _ _ _ _ _)
   have hi1:(Nd.mk k t ka kc ks da dc ds l).In W1:=by rw [← hW1];exact ((Aa HIN).below (Aa HB2)).keep (fun g hg=>Az (by rintro rfl;exact hbk hg) _ _ _ _ _)
   have hnewN:∀ g,(Nd.mk k2 t2 ka2 kc2 ks2 da2 dc2 ds2 l2).blk g→H+1+1≤g:=fun g hg=>by have:=hnew2 g hg;simp only [World.drew] at this;omega
   have HI1:=Ab hi1
   have HH1:=Ab n0
   have HF1:=Ab n1
   have HT2:=Ab n2
   have HGW:=Ab hg1
   have HNN:=Ab (show (Nd.mk k2 t2 ka2 kc2 ks2 da2 dc2 ds2 l2).bare=T.cut 18∧(Nd.mk k2 t2 ka2 kc2 ks2 da2 dc2 ds2 l2).In W1∧(∀ g,(Nd.mk k2 t2 ka2 kc2 ks2 da2 dc2 ds2 l2).blk g→H+1+1≤g) from ⟨(Aa HN2).1,hinN,hnewN⟩)
   have xx0:=Ad n0
   try rw [hW1]
   clear hW1 u32 u31 u33 n0 n1 n2 hg1 hnew2 hinN hnewN hi1 HB2 HN2
  all_goals go_wp2_with (first
   | (go_at_call 16;refine (Aa HCK W1 (Aa HI1)).mono ?_;rintro x3 w3 ⟨rfl,hb3⟩;have hI3:=Ab ((Aa HI1).below hb3);have q0:=Ad ((hb3.block H (by omega)).trans (Aa HH1));have HB3:=Ab hb3;have hl3:=hb3.size;clear hb3)
   | (go_at_call 91;refine (Aa HWE w3).mono ?_;rintro x5 w5 ⟨rfl,hb5⟩;have t1:=(hb5.block (H+1) (by omega)).trans ((Aa HB3).block (H+1) (by omega) |>.trans (Aa HF1));have tt1:=Af t1;have HT1:=Ab t1;have HB5:=Ab hb5;clear t1 hb5))
  all_goals
   have h15:Below W1.heap.size W1 w5:=(Aa HB3).trans ((Aa HB5).mono hl3)
   have hk:=(Aa HNN).2.1.below h15
   have hq:=(h15.block tb (by omega)).trans (Aa HT2)
   have hq2:=(Ar (W:=w5) (g:=H+1) (g':=tb) (by omega) (.int .i64 e) (.int .i64 l)).trans hq
   refine bodyPost_ret (Av rfl _ _ _ (H+1) _ rfl (Ai (A3 (Aa HT1) _ _))) rfl ⟨B4 (Ah (Aa HGW) (Aj h15 _)) (by omega) _ _,⟨k2,t2,ka2,kc2,ks2,da2,dc2,ds2,l2,(Aa HNN).1,hk.keep (fun g hg=>Ar (by have:=(Aa HNN).2.2 g hg;omega) _ _),fun g hg=>by have:=(Aa HNN).2.2 g hg;omega,hq2⟩,?_⟩
   unfold P22.noteE;rw [Aa HE,if_pos (Aa HZ)];simp only;rw [Aa HLN]
end Go.Proofs.YtnjokdbblmlhhaaGreatDoor
namespace Go.Proofs.YtnjokdbblmlhhaaGreatDoor
set_option linter.unusedVariables false
set_option linter.unusedSimpArgs false
open Go.RowKit
structure Dw (M:Nat→Prop) (W W':World):Prop where
 size:W.heap.size≤W'.heap.size
 same:∀ g,g<W.heap.size→¬ M g→W'.heap[g]?=W.heap[g]?
 os:W'.os=W.os
 tape:W'.tape=W.tape
 output:W'.output=W.output
theorem Dw.trans {M:Nat→Prop} {A B C:World} (h:Dw M A B) (k:Dw M B C):Dw M A C:=
 ⟨Nat.le_trans h.size k.size,fun g hl hM=>(k.same g (Nat.lt_of_lt_of_le hl h.size) hM).trans (h.same g hl hM),k.os.trans h.os,k.tape.trans h.tape,k.output.trans h.output⟩
theorem Dw.of_below {M:Nat→Prop} {W W':World} (h:Below W.heap.size W W'):Dw M W W':=⟨h.size,fun g hl _=>h.block g hl,h.os,h.tape,h.output⟩
theorem Dw.two {M:Nat→Prop} {W W':World} (h:Dw M W W') {g:Nat} (hg:W.heap.size≤g) (v0 v1:Value):Dw M W ((W'.setCell ⟨g,0,none⟩ v0).setCell ⟨g,1,none⟩ v1):=
 ⟨by simpa using h.size,fun i hi hM=>(Ar (by omega) _ _).trans (h.same i hi hM),h.os,h.tape,h.output⟩
structure Gf {σ:Type} (Inv:σ→(Nat→Prop)→World→Prop):Prop where
 stays:∀ s A W W',Inv s A W→W.heap.size≤W'.heap.size→(∀ g,g<W.heap.size→¬ A g→W'.heap[g]?=W.heap[g]?)→Inv s (fun g=>A g∨W.heap.size≤g) W'
 mono:∀ s (A A':Nat→Prop) W,Inv s A W→(∀ g,A' g→A g)→Inv s A' W
def Gm {σ:Type} (Inv:σ→(Nat→Prop)→World→Prop) (M A:Nat→Prop) (W:World) (o:Except P22.F σ) (e:Ending) (W':World):Prop:=
 Dw M W W'∧match o with
 | .ok s'=>e=.returned (fV 0 0)∧Inv s' (fun g=>A g∧g<W.heap.size) W'
 | .error x=>e=.returned (fV x.1 x.2)∧x.1≠0∧∃ s',Inv s' (fun g=>A g∧g<W.heap.size) W'
def Uq {σ:Type} (Inv:σ→(Nat→Prop)→World→Prop) (M:Nat→Prop) (v:Value) (r:P22.Rd σ) (W:World):Prop:=
 ∃ (f:Nat) (caps:Array Value),v=.func (.func f) #[] caps∧(∀ args W,(callFunc f args).run Tryz.prog W=.ok (.enter f args) W)∧∀ W',Dw M W W'→∀ (nd:Nd) (s:σ) (A:Nat→Prop),nd.In W'→E6 nd.bare→(∀ g,nd.blk g→¬ M g)→Inv s A W' →
  Calls Tryz.prog f (#[nd.val] ++ caps) W' (Gm Inv M A W' (r nd.bare s))
def N6 {σ:Type} (Inv:σ→(Nat→Prop)→World→Prop) (M:Nat→Prop) (bm:Nat) (rd:List UInt8→Option (P22.Rd σ)) (W:World):Prop:=
 ∀ W',W'.heap[bm]?=W.heap[bm]?→∀ k:List UInt8,∃ v b,(Instr.lookup 95 (.map (some bm)) (.string ⟨k.toArray⟩) true).run Tryz.prog W'=.ok (.tuple #[v,.bool b]) W' ∧
  match rd k with
  | none=>b=false
  | some r=>b=true∧Uq Inv M v r W
structure LI {σ:Type} (Inv:σ→(Nat→Prop)→World→Prop) (M A:Nat→Prop) (W:World) (H:Nat) (cs:Array Value) (s:σ) (V:World):Prop where
 keep:Dw M W V
 inv:Inv s (fun g=>(A g∧g<H)∨g=H∨g=H+1) V
 b0:V.heap[H]?=some (.cells cs 26)
 b1:V.heap[H+1]?=some (.cells #[.int .i64 0,.int .i64 0] 29)
theorem LI.below {σ:Type} {Inv:σ→(Nat→Prop)→World→Prop} (hP:Gf Inv) {M A:Nat→Prop} {W:World} {H:Nat} {cs:Array Value} {s:σ} {V V':World} (h:LI Inv M A W H cs s V) (hb:Below V.heap.size V V'):LI Inv M A W H cs s V':=by
 have hl0:=(Array.getElem?_eq_some_iff.1 h.b0).1
 have hl1:=(Array.getElem?_eq_some_iff.1 h.b1).1
 exact ⟨h.keep.trans (.of_below hb),hP.mono _ _ _ _ (hP.stays _ _ _ _ h.inv hb.size (fun g hg _=>hb.block g hg)) (fun g hg=>.inl hg),(hb.block _ hl0).trans h.b0,(hb.block _ hl1).trans h.b1⟩
theorem LI.next {σ:Type} {Inv:σ→(Nat→Prop)→World→Prop} (hP:Gf Inv) {M A:Nat→Prop} {W:World} {H:Nat} {cs:Array Value} {s s':σ} {V V':World} (h:LI Inv M A W H cs s V) (hH:W.heap.size=H) (hM:∀ g,M g→g<H) (hk:Dw M V V') (hi:Inv s' (fun g=>((A g∧g<H)∨g=H∨g=H+1)∧g<V.heap.size) V'):LI Inv M A W H cs s' V':=by
 have hl0:=(Array.getElem?_eq_some_iff.1 h.b0).1
 have hl1:=(Array.getElem?_eq_some_iff.1 h.b1).1
 exact ⟨h.keep.trans hk,hP.mono _ _ _ _ hi (fun g hg=>⟨hg,by omega⟩),(hk.same _ hl0 (fun hm=>by have:=hM _ hm;omega)).trans h.b0,(hk.same _ hl1 (fun hm=>by have:=hM _ hm;omega)).trans h.b1⟩
theorem LI.done {σ:Type} {Inv:σ→(Nat→Prop)→World→Prop} (hP:Gf Inv) {M A:Nat→Prop} {W:World} {H:Nat} {cs:Array Value} {s:σ} {V:World} (h:LI Inv M A W H cs s V) (hH:W.heap.size=H) (v0 v1:Value) :
  Dw M W ((V.setCell ⟨H+1,0,none⟩ v0).setCell ⟨H+1,1,none⟩ v1)∧Inv s (fun g=>A g∧g<W.heap.size) ((V.setCell ⟨H+1,0,none⟩ v0).setCell ⟨H+1,1,none⟩ v1)∧(loadVar 29 ⟨H+1,0,none⟩).run Tryz.prog ((V.setCell ⟨H+1,0,none⟩ v0).setCell ⟨H+1,1,none⟩ v1)=.ok (.agg #[v0,v1]) ((V.setCell ⟨H+1,0,none⟩ v0).setCell ⟨H+1,1,none⟩ v1):=by
 refine ⟨h.keep.two (by omega) _ _,?_,Ai (A3 h.b1 _ _)⟩
 have h1:=hP.stays _ _ _ ((V.setCell ⟨H+1,0,none⟩ v0).setCell ⟨H+1,1,none⟩ v1) h.inv (by simp) (fun g hg hA=>Ar (fun e=>hA (.inr (.inr e))) _ _)
 exact hP.mono _ _ _ _ h1 (fun g hg=>.inl (.inl (by rw [← hH];exact hg)))
set_option maxRecDepth 100000 in
set_option maxHeartbeats 16000000 in
theorem Hu {σ:Type} (Inv:σ→(Nat→Prop)→World→Prop) (hP:Gf Inv) (M:Nat→Prop) (rd:List UInt8→Option (P22.Rd σ)) (must:List (List UInt8)) (p1 p2 bm:Nat) (sa:Option Addr) (sc:Nat) (k:Nat) (t:List UInt8) (ka:Option Addr) (kc:Nat) (ks:List (List UInt8)) (da:Option Addr) (dc:Nat) (ds:List Nd) (l:Int) (s:σ) (A:Nat→Prop) (w:World)
  (hin:(Nd.mk k t ka kc ks da dc ds l).In w) (hok:E6 (Nd.mk k t ka kc ks da dc ds l).bare) (hnb:∀ g,(Nd.mk k t ka kc ks da dc ds l).blk g→¬ M g) (hM:∀ g,M g→g<w.heap.size) (h1:w.heap[p1]?=some (.cells #[.map (some bm)] 95)) (h2:w.heap[p2]?=some (.cells #[.slice sa must.length sc] 23)) (hs:Eu w sa must) (hsl:must.length≤1000000)
  (hn1:¬ M p1) (hn2:¬ M p2) (hn3:¬ M bm) (hbm:bm<w.heap.size) (hns:∀ g,must≠[]→Bj sa g→¬ M g) (hmap:N6 Inv M bm rd w) (hi:Inv s A w) :
  Calls Tryz.prog 92 #[.agg #[.int .u8 k,.string ⟨t.toArray⟩,.slice ka ks.length kc,.slice da ds.length dc,.int .i64 l],.pointer (some ⟨p1,0,none⟩),.pointer (some ⟨p2,0,none⟩)] w (Gm Inv M A w (P22.keysE rd must (Nd.mk k t ka kc ks da dc ds l).bare s)):=by
 obtain ⟨H,hH⟩:∃ H,w.heap.size=H:=⟨_,rfl⟩
 obtain ⟨W0,hW0,hb0,g0,g1,hs0⟩:=A0 w (.cells #[.int .u8 k,.string ⟨t.toArray⟩,.slice ka ks.length kc,.slice da ds.length dc,.int .i64 l] 26) (.cells #[.int .i64 0,.int .i64 0] 29) H hH
 have x0:=Ad g0
 have y0:=Af g1
 rw [hH] at hM hbm
 have hin0:=hin.below (by rw [hH];exact hb0)
 have hli:LI Inv M A w H #[.int .u8 k,.string ⟨t.toArray⟩,.slice ka ks.length kc,.slice da ds.length dc,.int .i64 l] s W0:=by
  refine ⟨.of_below (by rw [hH];exact hb0),?_,g0,g1⟩
  exact hP.mono _ _ _ _ (hP.stays _ _ _ _ hi hb0.size (fun g hg _=>hb0.block g (by omega))) (fun g hg=>by
   rcases hg with hg | hg | hg
   ·exact .inl hg.1
   ·exact .inr (by omega)
   ·exact .inr (by omega))
 have hf:=hin.fit
 have hwr:=fun e=>Ct k t ka kc ks da dc ds l e
 have hkl:=hf.keysL
 have hdl:=hf.kidsL
 simp only [Nd.keys,Nd.kids] at hkl hdl
 have hsp:P22.keysE rd must (Nd.mk k t ka kc ks da dc ds l).bare s=(if k≠3 then .error (7,l) else if ks.length≠(Am ds).length then .error (3,l) else match P22.keysGo rd ks (Am ds) s with | .error x=>.error x | .ok s'=>if ∀ m∈must,m∈ks then .ok s' else .error (5,l)):=by
  simp only [Nd.bare]
  rfl
 rw [hsp,Bs]
 have HW0:=Ab hW0
 have HLI:=Ab hli
 have HIN:=Ab hin
 have HOK:=Ab hok
 have HNB:=Ab hnb
 have HWR:=Ab hwr
 have HMAP:=Ab hmap
 have HS:=Ab hs
 have HNS:=Ab hns
 have HP1:=Ab h1
 have HP2:=Ab h2
 have hmx:=Dl
 clear hW0 hb0 g0 g1 hli hin hok hnb hwr hmap hs hns h1 h2 hin0 hf hsp hi
 by_cases hk:k=3
 rotate_left
 ·rw [if_pos hk]
  have jk:((k:Int) != 3)=true:=by simp;omega
  obtain ⟨e',l',hwe,hel⟩:=Aa HWR 7
  have hel2:=hel.resolve_left (fun h=>absurd h.1 (by decide))
  obtain ⟨_,q1,q2⟩:=hel2
  have q1:=q1.symm
  have q2:=q2.symm
  subst q1
  subst q2
  have HWE:=Ab hwe
  clear hk hwe hel
  go_enter Tryz.func92,Tryz.ntmps92
  go_wp2
  try rw [hH]
  rw [Aa HW0]
  go_step3
  go_wp2_with (go_at_call 91;refine (Aa HWE _).mono ?_;rintro x3 w3 ⟨rfl,hb3⟩;have HL3:=Ab ((Aa HLI).below hP hb3);have rr1:=Af (Aa HL3).b1;clear hb3)
  obtain ⟨d1,d2,d3⟩:=(Aa HL3).done hP hH (.int .i64 7) (.int .i64 l)
  rw [Exit.noGoto_ret]
  exact bodyPost_ret (Av rfl _ _ _ (H+1) _ rfl d3) rfl ⟨d1,rfl,by simp,s,d2⟩
 rw [if_neg (by simpa using hk)]
 have jk:((k:Int) != 3)=false:=by simp;omega
 clear hk
 by_cases hl:ks.length=ds.length
 rotate_left
 ·rw [if_pos hl]
  have jl:((ks.length:Int) != (ds.length:Int))=true:=by simp;omega
  obtain ⟨e',l',hwe,hel⟩:=Aa HWR 3
  have hel2:=hel.resolve_left (fun h=>absurd h.1 (by decide))
  obtain ⟨_,q1,q2⟩:=hel2
  have q1:=q1.symm
  have q2:=q2.symm
  subst q1
  subst q2
  have HWE:=Ab hwe
  clear hl hwe hel
  go_enter Tryz.func92,Tryz.ntmps92
  go_wp2
  try rw [hH]
  rw [Aa HW0]
  go_step3
  go_wp2_with (go_at_call 91;refine (Aa HWE _).mono ?_;rintro x3 w3 ⟨rfl,hb3⟩;have HL3:=Ab ((Aa HLI).below hP hb3);have rr1:=Af (Aa HL3).b1;clear hb3)
  obtain ⟨d1,d2,d3⟩:=(Aa HL3).done hP hH (.int .i64 3) (.int .i64 l)
  rw [Exit.noGoto_ret]
  exact bodyPost_ret (Av rfl _ _ _ (H+1) _ rfl d3) rfl ⟨d1,rfl,by simp,s,d2⟩
 rw [if_neg (by simpa using hl)]
 have jl:((ks.length:Int) != (ds.length:Int))=false:=by simp;omega
 have HL:=Ab hl
 have hnl:(ds.length:Int)≤9223372036854775807:=by unfold maxLen at hdl;omega
 clear hl
 go_enter Tryz.func92,Tryz.ntmps92
 go_wp2
 try rw [hH]
 rw [Aa HW0]
 go_step3
 go_wp2
 go_step3
 go_wp2
 go_loopg [31] (ds.length) (fun g s31 wx=>∃ (i:Nat) (s1:σ),i+g=ds.length∧s31=.int .i64 i∧Hid (P22.keysGo rd ks (Am ds) s=P22.keysGo rd (ks.drop i) (Am (ds.drop i)) s1)∧Hid (LI Inv M A w H #[.int .u8 k,.string ⟨t.toArray⟩,.slice ka ks.length kc,.slice da ds.length dc,.int .i64 l] s1 wx))
 case atStart=>exact ⟨0,s,by omega,by go_num,Ab rfl,HLI⟩
 case round=>
  obtain ⟨i,s1,hig,rfl,HG,HLR⟩:=hrel
  clear x0 y0
  have x0:=Ad (Aa HLR).b0
  have y0:=Af (Aa HLR).b1
  cases gk with
  | zero=>
   have hil:i=ds.length:=by omega
   have hfin:P22.keysGo rd ks (Am ds) s=.ok s1:=by
    rw [Aa HG,List.drop_of_length_le (by have:=Aa HL;omega)]
    rfl
   have HGF:=Ab hfin
   have e1:(ds.length:Int)≤(i:Int):=by omega
   have jd0:decide (i<ds.length)=false:=by simp;omega
   have hp2:=(Aa HLR).keep.same p2 (Array.getElem?_eq_some_iff.1 (Aa HP2)).1 hn2
   have v0:=Aq (hp2.trans (Aa HP2))
   have hkin:Eu wr ka ks:=by
    have h1:=(Aa HIN).fit.keys
    simp only [Nd.ka,Nd.keys] at h1
    exact h1.keep (fun r hn hr=>by
     have hbr:(Nd.mk k t ka kc ks da dc ds l).blk r:=by rw [Es];exact .inl ⟨hn,hr⟩
     exact (Aa HLR).keep.same r ((Aa HIN).lt hbr) (Aa HNB _ hbr))
   have hct:=fun m=>Eh ka kc ks m wr hkin (by unfold maxLen at hkl ⊢;omega)
   have hmn:(must.length:Int)≤9223372036854775807:=by omega
   have HCT:=Ab hct
   have HIL:=Ab hil
   clear hfin HG hp2 hkin hct hil
   go_wp2
   go_loopg [60] (must.length) (fun g s60 wx=>∃ j:Nat,j+g=must.length∧s60=.int .i64 j∧Hid (∀ y m,y<j→must[y]?=some m→m∈ks)∧wr=wx)
   case atStart=>exact ⟨0,by omega,by go_num,Ab (fun y m hy=>by omega),rfl⟩
   case round=>
    obtain ⟨j,hjg,rfl,HJ,hwx⟩:=hrel
    subst hwx
    cases gk with
    | zero=>
     have e2:(must.length:Int)≤(j:Int):=by omega
     have hall:∀ m∈must,m∈ks:=fun m hm=>by
      obtain ⟨y,hy⟩:=List.mem_iff_getElem?.1 hm
      exact Aa HJ y m (by have:=(List.getElem?_eq_some_iff.1 hy).1;omega) hy
     have HALL:=Ab hall
     clear hall
     go_wp2
     obtain ⟨d1,d2,d3⟩:=(Aa HLR).done hP hH (.int .i64 0) (.int .i64 0)
     try rw [Exit.noGoto_ret]
     refine bodyPost_ret (Av rfl _ _ _ (H+1) _ rfl d3) rfl ⟨d1,?_⟩
     rw [Aa HGF]
     dsimp only
     rw [if_pos (Aa HALL)]
     exact ⟨rfl,d2⟩
    | succ g2=>
    have hjl:(j:Int)<(must.length:Int):=by omega
    have hkj:IntKind.i64.wrap ((j:Int)+1)=(j:Int)+1:=IntWalk.i64_in _ (by omega)
    have hjn:j<must.length:=by omega
    obtain ⟨m,hgm⟩:=V3 (ds:=must) rfl hjn
    obtain ⟨bs,os,hsa,hcm⟩:=Aa HS j m hgm
    subst hsa
    have hbs:=B3 hcm
    have hcm2:=(Ag ((Aa HLR).keep.same bs hbs (Aa HNS bs (by rintro rfl;simp at hjn) ⟨os,rfl⟩)) _).trans hcm
    have hbsr:=B3 hcm2
    have hcq:=Aa HCT m
    have HGM:=Ab hgm
    clear hcm hgm
    by_cases hmk:m∈ks
    ·rw [decide_eq_true hmk] at hcq
     have HCQ:=Ab hcq
     have HMK:=Ab hmk
     clear hcq hmk
     go_wp2_with (go_at_call 83;refine (Aa HCQ).mono ?_;rintro e' w' ⟨rfl,rfl⟩)
     go_roundg g2
     case measure=>omega
     case rel=>exact ⟨j+1,by omega,by go_num,Ab (fun y m' hy hm'=>by
      by_cases hyj:y<j
      ·exact Aa HJ y m' hyj hm'
      ·obtain rfl:y=j:=by omega
       rw [Aa HGM] at hm'
       injection hm' with hm'
       subst hm'
       exact Aa HMK),rfl⟩
    ·rw [decide_eq_false hmk] at hcq
     have HCQ:=Ab hcq
     have HMK:=Ab hmk
     obtain ⟨e',l',hwe,hel⟩:=Aa HWR 5
     have hel2:=hel.resolve_left (fun h=>absurd h.1 (by decide))
     obtain ⟨_,q1,q2⟩:=hel2
     have q1:=q1.symm
     have q2:=q2.symm
     subst q1
     subst q2
     have HWE:=Ab hwe
     clear hcq hmk hwe hel
     go_wp2_with (first
      | (go_at_call 83;refine (Aa HCQ).mono ?_;rintro e' w' ⟨rfl,rfl⟩)
      | (go_at_call 91;refine (Aa HWE _).mono ?_;rintro x3 w3 ⟨rfl,hb3⟩;have HL3:=Ab ((Aa HLR).below hP hb3);have rr1:=Af (Aa HL3).b1;clear hb3))
     obtain ⟨d1,d2,d3⟩:=(Aa HL3).done hP hH (.int .i64 5) (.int .i64 l)
     try rw [Exit.noGoto_ret]
     refine bodyPost_ret (Av rfl _ _ _ (H+1) _ rfl d3) rfl ⟨d1,?_⟩
     rw [Aa HGF]
     dsimp only
     rw [if_neg (fun h=>Aa HMK (h m (List.mem_of_getElem? (Aa HGM))))]
     exact ⟨rfl,by simp,s1,d2⟩
  | succ g'=>
  have hlt:(i:Int)<(ds.length:Int):=by omega
  have hki:IntKind.i64.wrap ((i:Int)+1)=(i:Int)+1:=IntWalk.i64_in _ (by omega)
  have hil:i<ds.length:=by omega
  have hltk:(i:Int)<(ks.length:Int):=by have:=Aa HL;omega
  obtain ⟨d,hge⟩:∃ d,ds[i]?=some d:=⟨_,List.getElem?_eq_getElem hil⟩
  obtain ⟨x,hgx⟩:=V3 (Aa HL) hil
  have hkd:=(Aa HIN).kids
  simp only [Nd.da,Nd.kids] at hkd
  obtain ⟨b3,o3,k3,t3,ka3,kc3,ks3,da3,dc3,ds3,l3,rfl,rfl,e0,e1,e2,e3,e4,hin3⟩:=Ce hkd hge
  have hds0:ds≠[]:=by rintro rfl;simp at hil
  have hb3k:(Nd.mk k t ka kc ks (some ⟨b3,o3,none⟩) dc ds l).blk b3:=by rw [Es];exact .inr (.inl ⟨hds0,o3,rfl⟩)
  have hsub:∀ g,(Nd.mk k3 t3 ka3 kc3 ks3 da3 dc3 ds3 l3).blk g→(Nd.mk k t ka kc ks (some ⟨b3,o3,none⟩) dc ds l).blk g:=fun g hg=>by rw [Es];exact .inr (.inr ((Eo g _).2 ⟨_,List.mem_of_getElem? hge,hg⟩))
  have hbb:=(Aa HLR).keep.same b3 ((Aa HIN).lt hb3k) (Aa HNB _ hb3k)
  replace e0:=(Ag hbb _).trans e0
  replace e1:=(Ag hbb _).trans e1
  replace e2:=(Ag hbb _).trans e2
  replace e3:=(Ag hbb _).trans e3
  replace e4:=(Ag hbb _).trans e4
  have hbl3:=B3 e0
  have hinr:=hin3.keep (fun g hg=>(Aa HLR).keep.same g ((Aa HIN).lt (hsub g hg)) (Aa HNB _ (hsub g hg)))
  have hnbk:∀ g,(Nd.mk k3 t3 ka3 kc3 ks3 da3 dc3 ds3 l3).blk g→¬ M g:=fun g hg=>Aa HNB _ (hsub g hg)
  have hokk:E6 (Nd.mk k3 t3 ka3 kc3 ks3 da3 dc3 ds3 l3).bare:=by
   have h0:=Aa HOK
   unfold Nd.bare E6 at h0
   exact (Hf _).1 h0.2.2.2.2 _ (by rw [Ci];exact List.mem_map.2 ⟨_,List.mem_of_getElem? hge,rfl⟩)
  have hkk:=(Aa HIN).fit.keys
  simp only [Nd.ka,Nd.keys] at hkk
  obtain ⟨bk,okk,hka,hcx⟩:=hkk i x hgx
  subst hka
  have hbkk:(Nd.mk k t (some ⟨bk,okk,none⟩) kc ks (some ⟨b3,o3,none⟩) dc ds l).blk bk:=by rw [Es];exact .inl ⟨by rintro e;simp only [Nd.keys] at e;rw [e] at hgx;simp at hgx,okk,rfl⟩
  have hbkb:=(Aa HLR).keep.same bk ((Aa HIN).lt hbkk) (Aa HNB _ hbkk)
  replace hcx:=(Ag hbkb _).trans hcx
  have hstep:P22.keysGo rd (ks.drop i) (Am (ds.drop i)) s1=(match rd x with | none=>.error (18,l3) | some r=>match r (Nd.mk k3 t3 ka3 kc3 ks3 da3 dc3 ds3 l3).bare s1 with | .error x=>.error x | .ok s'=>P22.keysGo rd (ks.drop (i+1)) (Am (ds.drop (i+1))) s'):=by
   obtain ⟨hl2,rfl⟩:=List.getElem?_eq_some_iff.1 hgx
   rw [List.drop_eq_getElem_cons hl2,Cg hge]
   rfl
  have HST:=Ab hstep
  obtain ⟨KB,hKB⟩:∃ KB,wr.heap.size=KB:=⟨_,rfl⟩
  obtain ⟨W1,hW1⟩:∃ W1,wr.alloc (.cells #[.int .u8 k3,.string ⟨t3.toArray⟩,.slice ka3 ks3.length kc3,.slice da3 ds3.length dc3,.int .i64 l3] 26)=W1:=⟨_,rfl⟩
  have hbW:Below wr.heap.size wr W1:=by rw [← hW1];exact (Below.refl _ _).alloc (Nat.le_refl _) _
  have gk:=(show W1.heap[KB]?=some (.cells #[.int .u8 k3,.string ⟨t3.toArray⟩,.slice ka3 ks3.length kc3,.slice da3 ds3.length dc3,.int .i64 l3] 26) by rw [← hW1,← hKB];exact World.alloc_heap_new _ _)
  have HL1:=Ab ((Aa HLR).below hP hbW)
  have HINK:=Ab (hinr.below hbW)
  have HX:=Ab hcx
  have hp1:=(Aa HL1).keep.same p1 (Array.getElem?_eq_some_iff.1 (Aa HP1)).1 hn1
  have v0:=Aq (hp1.trans (Aa HP1))
  have x1:=Ad (Aa HL1).b0
  have hcx1:=(Ag (hbW.block bk (by have:=B3 hcx;exact this)) _).trans hcx
  have hbkl:=B3 hcx1
  have v1:=Ad gk
  obtain ⟨v,bb,hrun,hrd⟩:=Aa HMAP W1.drew ((show W1.drew.heap[bm]?=W1.heap[bm]? from rfl).trans ((Aa HL1).keep.same bm (by omega) hn3)) x
  have HGK:=Ab gk
  have HW1:=Ab hW1
  have HRD:=Ab hrd
  have HNBK:=Ab hnbk
  have HOKK:=Ab hokk
  clear hbb hbkb hkd hge hgx hds0 hb3k hsub hin3 hinr hnbk hokk hkk hbkk hstep hW1 hbW hp1 gk hrd hcx
  go_upto_region 8 with fail
  try rw [hKB]
  try rw [Aa HW1]
  clear x0 y0 e0 e1 e2 e3 e4
  go_region
  obtain ⟨X,hX⟩:∃ X,W1.drew=X:=⟨_,rfl⟩
  have hbX:Below W1.heap.size W1 X:=by rw [← hX];exact (Below.refl _ _).drew
  have HLX:=Ab ((Aa HL1).below hP hbX)
  have HINX:=Ab ((Aa HINK).below hbX)
  have gX:=(show X.heap[KB]?=W1.heap[KB]? by rw [← hX];rfl).trans (Aa HGK)
  rw [hX]
  clear x1 v0 v1 hcx1 hX hbX hrun
  have v1:=Ad gX
  have y1:=Af (Aa HLX).b1
  have HGX:=Ab gX
  have hKX:KB<X.heap.size:=(Array.getElem?_eq_some_iff.1 gX).1
  have hHX:=(Array.getElem?_eq_some_iff.1 (Aa HLX).b1).1
  clear gX HGK HINK
  cases hrx:rd x with
  | none=>
   have hrd:=Aa HRD
   rw [hrx] at hrd
   simp only at hrd
   subst hrd
   have hst:=Aa HST
   rw [hrx] at hst
   simp only at hst
   have HFIN:=Ab ((Aa HG).trans hst)
   obtain ⟨e',l',hwe,hel⟩:=Ct k3 t3 ka3 kc3 ks3 da3 dc3 ds3 l3 18
   have hel2:=hel.resolve_left (fun h=>absurd h.1 (by decide))
   obtain ⟨_,q1,q2⟩:=hel2
   have q1:=q1.symm
   have q2:=q2.symm
   subst q1
   subst q2
   have HWE:=Ab hwe
   clear hst hwe hel hrx HRD HST HG
   go_wp2_with (go_at_call 91;refine (Aa HWE _).mono ?_;rintro x3 w3 ⟨rfl,hb3⟩;have HL3:=Ab ((Aa HLX).below hP hb3);have rr1:=Af (Aa HL3).b1;clear hb3)
   obtain ⟨d1,d2,d3⟩:=(Aa HL3).done hP hH (.int .i64 18) (.int .i64 l3)
   try rw [Exit.noGoto_ret]
   refine bodyPost_ret (Av rfl _ _ _ (H+1) _ rfl d3) rfl ⟨d1,?_⟩
   rw [Aa HFIN]
   exact ⟨rfl,by simp,s1,d2⟩
  | some r=>
   have hrd:=Aa HRD
   rw [hrx] at hrd
   simp only at hrd
   obtain ⟨hbb,f,caps,hv,heg,hcall⟩:=hrd
   subst hbb
   subst hv
   have hst:=Aa HST
   rw [hrx] at hst
   simp only at hst
   have hcl:=hcall X (Aa HLX).keep _ s1 _ (Aa HINX) (Aa HOKK) (Aa HNBK) (Aa HLX).inv
   rw [Nd.val_eq] at hcl
   cases hro:r (Nd.mk k3 t3 ka3 kc3 ks3 da3 dc3 ds3 l3).bare s1 with
   | error xe=>
    rw [hro] at hcl hst
    simp only at hst
    have HFIN:=Ab ((Aa HG).trans hst)
    have HCL:=Ab hcl
    clear hst hcl hcall hro hrx HRD HST HG
    obtain ⟨xe1,xe2⟩:=xe
    go_upto_region 12 with (refine (Aa HCL).mono ?_;rintro x3 w3 ⟨hk3,rfl,hx3,s3,hi3⟩;have HL3:=Ab ((Aa HLX).next hP hH hM hk3 hi3);have hw3:=hk3.size)
    obtain ⟨W4,hW4⟩:∃ W4,w3.alloc (.cells #[.int .i64 xe1,.int .i64 xe2] 29)=W4:=⟨_,rfl⟩
    obtain ⟨FB,hFB⟩:∃ FB,w3.heap.size=FB:=⟨_,rfl⟩
    have gf:W4.heap[FB]?=some (.cells #[.int .i64 xe1,.int .i64 xe2] 29):=by rw [← hW4,← hFB];exact World.alloc_heap_new _ _
    have HL4:=Ab ((Aa HL3).below hP (show Below w3.heap.size w3 W4 by rw [← hW4];exact (Below.refl _ _).alloc (Nat.le_refl _) _))
    rw [hW4]
    try rw [hFB]
    have z0:=Af gf
    have y2:=Af (Aa HL4).b1
    have jx:(xe1 == 0)=false:=by rw [beq_eq_false_iff_ne];exact hx3
    have HX3:=Ab hx3
    clear hW4 gf v1 y1 HL3 hk3 hi3 hx3
    go_wp2
    obtain ⟨d1,d2,d3⟩:=(Aa HL4).done hP hH (.int .i64 xe1) (.int .i64 xe2)
    try rw [Exit.noGoto_ret]
    refine bodyPost_ret (Av rfl _ _ _ (H+1) _ rfl d3) rfl ⟨d1,?_⟩
    rw [Aa HFIN]
    exact ⟨rfl,Aa HX3,s3,d2⟩
   | ok s2=>
    rw [hro] at hcl hst
    simp only at hst
    have HG2:=Ab ((Aa HG).trans hst)
    have HCL:=Ab hcl
    clear hst hcl hcall hro hrx HRD HST HG
    go_upto_region 12 with (refine (Aa HCL).mono ?_;rintro x3 w3 ⟨hk3,rfl,hi3⟩;have HL3:=Ab ((Aa HLX).next hP hH hM hk3 hi3);have hw3:=hk3.size)
    obtain ⟨W4,hW4⟩:∃ W4,w3.alloc (.cells #[.int .i64 0,.int .i64 0] 29)=W4:=⟨_,rfl⟩
    obtain ⟨FB,hFB⟩:∃ FB,w3.heap.size=FB:=⟨_,rfl⟩
    have gf:W4.heap[FB]?=some (.cells #[.int .i64 0,.int .i64 0] 29):=by rw [← hW4,← hFB];exact World.alloc_heap_new _ _
    have HL4:=Ab ((Aa HL3).below hP (show Below w3.heap.size w3 W4 by rw [← hW4];exact (Below.refl _ _).alloc (Nat.le_refl _) _))
    rw [hW4]
    try rw [hFB]
    have z0:=Af gf
    clear hW4 gf v1 y1 HL3 hk3 hi3
    go_wp2
    go_roundg g'
    case measure=>omega
    case rel=>exact ⟨i+1,s2,by omega,by go_num,HG2,HL4⟩
end Go.Proofs.YtnjokdbblmlhhaaGreatDoor
namespace Go.Proofs.YtnjokdbblmlhhaaGreatDoor
set_option linter.unusedVariables false
set_option linter.unusedSimpArgs false
open Go.RowKit
namespace P22
def foldE {τ:Type} (r:Rd τ):List P20.T→τ→Except F τ
 | [],t=>.ok t
 | d :: ds,t=>match r d t with
  | .error x=>.error x
  | .ok t'=>foldE r ds t'
theorem I1 {α:Type} (f:P20.T→Except F α):∀ (ds:List P20.T) (acc:List α),rowGo f ds acc=foldE (fun d acc=>(f d).map fun a=>acc ++ [a]) ds acc
 | [],acc=>rfl
 | d :: ds,acc=>by
  unfold rowGo foldE
  cases f d with
  | error x=>rfl
  | ok a=>exact I1 f ds (acc ++ [a])
def rowS {τ:Type} (most:Int) (r:Rd τ) (d:P20.T) (t:τ):Except F τ:=
 if d.kind≠2 then .error (7,d.line) else if most<(d.kids.length:Int) then .error (2,d.line) else foldE r d.kids t
theorem rowE_S {α:Type} (most:Int) (f:P20.T→Except F α) (d:P20.T):rowE most f d=rowS most (fun d acc=>(f d).map fun a=>acc ++ [a]) d []:=by
 unfold rowE rowS
 rw [I1]
end P22
structure Cp (A:Nat→Prop) (W W':World):Prop where
 size:W.heap.size≤W'.heap.size
 same:∀ g,g<W.heap.size→A g→W'.heap[g]?=W.heap[g]?
 os:W'.os=W.os
 tape:W'.tape=W.tape
 output:W'.output=W.output
theorem Cp.trans {A:Nat→Prop} {X Y Z:World} (h:Cp A X Y) (k:Cp A Y Z):Cp A X Z:=
 ⟨Nat.le_trans h.size k.size,fun g hl hM=>(k.same g (Nat.lt_of_lt_of_le hl h.size) hM).trans (h.same g hl hM),k.os.trans h.os,k.tape.trans h.tape,k.output.trans h.output⟩
theorem Cp.of_below {A:Nat→Prop} {W W':World} (h:Below W.heap.size W W'):Cp A W W':=⟨h.size,fun g hl _=>h.block g hl,h.os,h.tape,h.output⟩
theorem Cp.two {A:Nat→Prop} {W W':World} (h:Cp A W W') {g:Nat} (hg:W.heap.size≤g) (v0 v1:Value):Cp A W ((W'.setCell ⟨g,0,none⟩ v0).setCell ⟨g,1,none⟩ v1):=
 ⟨by simpa using h.size,fun i hi hM=>(Ar (by omega) _ _).trans (h.same i hi hM),h.os,h.tape,h.output⟩
def D7 {σ:Type} (Inv:σ→(Nat→Prop)→World→Prop) (A:Nat→Prop) (W:World) (o:Except P22.F σ) (e:Ending) (W':World):Prop:=
 Cp A W W'∧match o with
 | .ok s'=>e=.returned (fV 0 0)∧Inv s' (fun g=>A g∧g<W.heap.size) W'
 | .error x=>e=.returned (fV x.1 x.2)∧x.1≠0∧∃ s',Inv s' (fun g=>A g∧g<W.heap.size) W'
def R0 {σ:Type} (Inv:σ→(Nat→Prop)→World→Prop) (C:Nat→Prop) (sz:σ→Nat) (N:Nat) (f:Nat) (caps:Array Value) (r:P22.Rd σ) (W:World):Prop:=
 (∀ args W,(callFunc f args).run Tryz.prog W=.ok (.enter f args) W)∧∀ W',W.heap.size≤W'.heap.size→(∀ g,C g→W'.heap[g]?=W.heap[g]?)→∀ (nd:Nd) (s:σ) (A:Nat→Prop),nd.In W'→E6 nd.bare→(∀ g,nd.blk g→A g)→(∀ g,C g→A g)→Inv s A W'→sz s<N →
  Calls Tryz.prog f (#[nd.val] ++ caps) W' (D7 Inv A W' (r nd.bare s))
structure LR {σ:Type} (Inv:σ→(Nat→Prop)→World→Prop) (A:Nat→Prop) (W:World) (H:Nat) (cs:Array Value) (s:σ) (V:World):Prop where
 keep:Cp A W V
 inv:Inv s (fun g=>(A g∧g<H)∨g=H∨g=H+1) V
 b0:V.heap[H]?=some (.cells cs 26)
 b1:V.heap[H+1]?=some (.cells #[.int .i64 0,.int .i64 0] 29)
theorem LR.below {σ:Type} {Inv:σ→(Nat→Prop)→World→Prop} (hP:Gf Inv) {A:Nat→Prop} {W:World} {H:Nat} {cs:Array Value} {s:σ} {V V':World} (h:LR Inv A W H cs s V) (hb:Below V.heap.size V V'):LR Inv A W H cs s V':=by
 have hl0:=(Array.getElem?_eq_some_iff.1 h.b0).1
 have hl1:=(Array.getElem?_eq_some_iff.1 h.b1).1
 exact ⟨h.keep.trans (.of_below hb),hP.mono _ _ _ _ (hP.stays _ _ _ _ h.inv hb.size (fun g hg _=>hb.block g hg)) (fun g hg=>.inl hg),(hb.block _ hl0).trans h.b0,(hb.block _ hl1).trans h.b1⟩
theorem LR.next {σ:Type} {Inv:σ→(Nat→Prop)→World→Prop} (hP:Gf Inv) {A:Nat→Prop} {W:World} {H:Nat} {cs:Array Value} {s s':σ} {V V':World} (h:LR Inv A W H cs s V) (hH:W.heap.size=H) (hk:Cp (fun g=>(A g∧g<H)∨g=H∨g=H+1) V V') (hi:Inv s' (fun g=>((A g∧g<H)∨g=H∨g=H+1)∧g<V.heap.size) V'):LR Inv A W H cs s' V':=by
 have hl0:=(Array.getElem?_eq_some_iff.1 h.b0).1
 have hl1:=(Array.getElem?_eq_some_iff.1 h.b1).1
 refine ⟨⟨Nat.le_trans h.keep.size hk.size,fun g hl hg=>(hk.same g (Nat.lt_of_lt_of_le hl h.keep.size) (.inl ⟨hg,by omega⟩)).trans (h.keep.same g hl hg),hk.os.trans h.keep.os,hk.tape.trans h.keep.tape,hk.output.trans h.keep.output⟩,hP.mono _ _ _ _ hi (fun g hg=>⟨hg,by omega⟩),(hk.same _ hl0 (.inr (.inl rfl))).trans h.b0,(hk.same _ hl1 (.inr (.inr rfl))).trans h.b1⟩
theorem LR.done {σ:Type} {Inv:σ→(Nat→Prop)→World→Prop} (hP:Gf Inv) {A:Nat→Prop} {W:World} {H:Nat} {cs:Array Value} {s:σ} {V:World} (h:LR Inv A W H cs s V) (hH:W.heap.size=H) (v0 v1:Value) :
  Cp A W ((V.setCell ⟨H+1,0,none⟩ v0).setCell ⟨H+1,1,none⟩ v1)∧Inv s (fun g=>A g∧g<W.heap.size) ((V.setCell ⟨H+1,0,none⟩ v0).setCell ⟨H+1,1,none⟩ v1)∧(loadVar 29 ⟨H+1,0,none⟩).run Tryz.prog ((V.setCell ⟨H+1,0,none⟩ v0).setCell ⟨H+1,1,none⟩ v1)=.ok (.agg #[v0,v1]) ((V.setCell ⟨H+1,0,none⟩ v0).setCell ⟨H+1,1,none⟩ v1):=by
 refine ⟨h.keep.two (by omega) _ _,?_,Ai (A3 h.b1 _ _)⟩
 have h1:=hP.stays _ _ _ ((V.setCell ⟨H+1,0,none⟩ v0).setCell ⟨H+1,1,none⟩ v1) h.inv (by simp) (fun g hg hA=>Ar (fun e=>hA (.inr (.inr e))) _ _)
 exact hP.mono _ _ _ _ h1 (fun g hg=>.inl (.inl (by rw [← hH];exact hg)))
set_option maxRecDepth 100000 in
set_option maxHeartbeats 16000000 in
theorem Mf {σ:Type} (Inv:σ→(Nat→Prop)→World→Prop) (hP:Gf Inv) (r:P22.Rd σ) (C:Nat→Prop) (sz:σ→Nat) (N:Nat) (hsz:∀ d s s',r d s=.ok s'→sz s'≤sz s+1) (most:Int) (f:Nat) (caps:Array Value) (p1 p2:Nat) (k:Nat) (t:List UInt8) (ka:Option Addr) (kc:Nat) (ks:List (List UInt8)) (da:Option Addr) (dc:Nat) (ds:List Nd) (l:Int) (s:σ) (A:Nat→Prop) (w:World)
  (hin:(Nd.mk k t ka kc ks da dc ds l).In w) (hok:E6 (Nd.mk k t ka kc ks da dc ds l).bare) (hnb:∀ g,(Nd.mk k t ka kc ks da dc ds l).blk g→A g) (h1:w.heap[p1]?=some (.cells #[.int .i64 most] 3)) (h2:w.heap[p2]?=some (.cells #[.func (.func f) #[] caps] 89))
  (hA1:A p1) (hA2:A p2) (hCA:∀ g,C g→A g∧g<w.heap.size) (hkid:R0 Inv C sz N f caps r w) (hi:Inv s A w) (hN:(ds.length:Int)≤most→sz s+ds.length≤N) :
  Calls Tryz.prog 90 #[.agg #[.int .u8 k,.string ⟨t.toArray⟩,.slice ka ks.length kc,.slice da ds.length dc,.int .i64 l],.pointer (some ⟨p1,0,none⟩),.pointer (some ⟨p2,0,none⟩)] w (D7 Inv A w (P22.rowS most r (Nd.mk k t ka kc ks da dc ds l).bare s)):=by
 obtain ⟨H,hH⟩:∃ H,w.heap.size=H:=⟨_,rfl⟩
 obtain ⟨W0,hW0,hb0,g0,g1,hs0⟩:=A0 w (.cells #[.int .u8 k,.string ⟨t.toArray⟩,.slice ka ks.length kc,.slice da ds.length dc,.int .i64 l] 26) (.cells #[.int .i64 0,.int .i64 0] 29) H hH
 have x0:=Ad g0
 have y0:=Af g1
 rw [hH] at hCA
 obtain ⟨heg,hcall⟩:=hkid
 have hli:LR Inv A w H #[.int .u8 k,.string ⟨t.toArray⟩,.slice ka ks.length kc,.slice da ds.length dc,.int .i64 l] s W0:=by
  refine ⟨.of_below (by rw [hH];exact hb0),?_,g0,g1⟩
  exact hP.mono _ _ _ _ (hP.stays _ _ _ _ hi hb0.size (fun g hg _=>hb0.block g (by omega))) (fun g hg=>by
   rcases hg with hg | hg | hg
   ·exact .inl hg.1
   ·exact .inr (by omega)
   ·exact .inr (by omega))
 have hwr:=fun e=>Ct k t ka kc ks da dc ds l e
 have hdl:=hin.fit.kidsL
 simp only [Nd.kids] at hdl
 have hsp:P22.rowS most r (Nd.mk k t ka kc ks da dc ds l).bare s=(if k≠2 then .error (7,l) else if most<(((Am ds).length:Nat):Int) then .error (2,l) else P22.foldE r (Am ds) s):=by
  simp only [Nd.bare]
  rfl
 rw [hsp,Bs]
 have q1:=Aq ((hb0.block p1 (by have:=(Array.getElem?_eq_some_iff.1 h1).1;omega)).trans h1)
 have HW0:=Ab hW0
 have HLI:=Ab hli
 have HIN:=Ab hin
 have HOK:=Ab hok
 have HNB:=Ab hnb
 have HWR:=Ab hwr
 have HCALL:=Ab hcall
 have HCA:=Ab hCA
 have HP1:=Ab h1
 have HP2:=Ab h2
 have hmx:=Dl
 clear hW0 hb0 g0 g1 hli hin hok hnb hwr hcall hCA h1 h2 hsp hi
 by_cases hk:k=2
 rotate_left
 ·rw [if_pos hk]
  have jk:((k:Int) != 2)=true:=by simp;omega
  obtain ⟨e',l',hwe,hel⟩:=Aa HWR 7
  have hel2:=hel.resolve_left (fun h=>absurd h.1 (by decide))
  obtain ⟨_,u1,u2⟩:=hel2
  have u1:=u1.symm
  have u2:=u2.symm
  subst u1
  subst u2
  have HWE:=Ab hwe
  clear hk hwe hel heg
  go_enter Tryz.func90,Tryz.ntmps90
  go_upto_region 1 with fail
  try rw [hH]
  rw [Aa HW0]
  go_wp2_with (go_at_call 91;refine (Aa HWE _).mono ?_;rintro x3 w3 ⟨rfl,hb3⟩;have HL3:=Ab ((Aa HLI).below hP hb3);have rr1:=Af (Aa HL3).b1;clear hb3)
  obtain ⟨d1,d2,d3⟩:=(Aa HL3).done hP hH (.int .i64 7) (.int .i64 l)
  exact bodyPost_ret (Av rfl _ _ _ (H+1) _ rfl d3) rfl ⟨d1,rfl,by simp,s,d2⟩
 rw [if_neg (by simpa using hk)]
 have jk:((k:Int) != 2)=false:=by simp;omega
 clear hk
 by_cases hl:most<(ds.length:Int)
 ·rw [if_pos hl]
  obtain ⟨e',l',hwe,hel⟩:=Aa HWR 2
  have hel2:=hel.resolve_left (fun h=>absurd h.1 (by decide))
  obtain ⟨_,u1,u2⟩:=hel2
  have u1:=u1.symm
  have u2:=u2.symm
  subst u1
  subst u2
  have HWE:=Ab hwe
  clear hwe hel heg
  go_enter Tryz.func90,Tryz.ntmps90
  go_upto_region 1 with fail
  try rw [hH]
  rw [Aa HW0]
  go_wp2_with (go_at_call 91;refine (Aa HWE _).mono ?_;rintro x3 w3 ⟨rfl,hb3⟩;have HL3:=Ab ((Aa HLI).below hP hb3);have rr1:=Af (Aa HL3).b1;clear hb3)
  obtain ⟨d1,d2,d3⟩:=(Aa HL3).done hP hH (.int .i64 2) (.int .i64 l)
  exact bodyPost_ret (Av rfl _ _ _ (H+1) _ rfl d3) rfl ⟨d1,rfl,by simp,s,d2⟩
 rw [if_neg hl]
 have hml:(ds.length:Int)≤most:=by omega
 have hNN:=hN hml
 have HSZ:=Ab hsz
 clear hsz hN
 have hnl:(ds.length:Int)≤9223372036854775807:=by unfold maxLen at hdl;omega
 clear hl
 go_enter Tryz.func90,Tryz.ntmps90
 go_upto_region 1 with fail
 try rw [hH]
 rw [Aa HW0]
 go_wp2
 go_loopg [25] (ds.length) (fun g s25 wx=>∃ (i:Nat) (s1:σ),i+g=ds.length∧s25=.int .i64 i∧Hid (P22.foldE r (Am ds) s=P22.foldE r (Am (ds.drop i)) s1)∧Hid (LR Inv A w H #[.int .u8 k,.string ⟨t.toArray⟩,.slice ka ks.length kc,.slice da ds.length dc,.int .i64 l] s1 wx)∧sz s1≤sz s+i)
 case atStart=>exact ⟨0,s,by omega,by go_num,Ab rfl,HLI,Nat.le_refl _⟩
 case round=>
  obtain ⟨i,s1,hig,rfl,HG,HLR,hzi⟩:=hrel
  clear x0 y0 q1
  have x0:=Ad (Aa HLR).b0
  have y0:=Af (Aa HLR).b1
  cases gk with
  | zero=>
   have hfin:P22.foldE r (Am ds) s=.ok s1:=by
    rw [Aa HG,List.drop_of_length_le (by omega)]
    rfl
   have HGF:=Ab hfin
   have e1:(ds.length:Int)≤(i:Int):=by omega
   clear hfin HG
   go_wp2
   obtain ⟨d1,d2,d3⟩:=(Aa HLR).done hP hH (.int .i64 0) (.int .i64 0)
   refine bodyPost_ret (Av rfl _ _ _ (H+1) _ rfl d3) rfl ⟨d1,?_⟩
   rw [Aa HGF]
   exact ⟨rfl,d2⟩
  | succ g'=>
  have hlt:(i:Int)<(ds.length:Int):=by omega
  have hki:IntKind.i64.wrap ((i:Int)+1)=(i:Int)+1:=IntWalk.i64_in _ (by omega)
  have hil:i<ds.length:=by omega
  obtain ⟨d,hge⟩:∃ d,ds[i]?=some d:=⟨_,List.getElem?_eq_getElem hil⟩
  have hkd:=(Aa HIN).kids
  simp only [Nd.da,Nd.kids] at hkd
  obtain ⟨b3,o3,k3,t3,ka3,kc3,ks3,da3,dc3,ds3,l3,rfl,rfl,e0,e1,e2,e3,e4,hin3⟩:=Ce hkd hge
  have hds0:ds≠[]:=by rintro rfl;simp at hil
  have hb3k:(Nd.mk k t ka kc ks (some ⟨b3,o3,none⟩) dc ds l).blk b3:=by rw [Es];exact .inr (.inl ⟨hds0,o3,rfl⟩)
  have hsub:∀ g,(Nd.mk k3 t3 ka3 kc3 ks3 da3 dc3 ds3 l3).blk g→(Nd.mk k t ka kc ks (some ⟨b3,o3,none⟩) dc ds l).blk g:=fun g hg=>by rw [Es];exact .inr (.inr ((Eo g _).2 ⟨_,List.mem_of_getElem? hge,hg⟩))
  have hbb:=(Aa HLR).keep.same b3 ((Aa HIN).lt hb3k) (Aa HNB _ hb3k)
  replace e0:=(Ag hbb _).trans e0
  replace e1:=(Ag hbb _).trans e1
  replace e2:=(Ag hbb _).trans e2
  replace e3:=(Ag hbb _).trans e3
  replace e4:=(Ag hbb _).trans e4
  have hbl3:=B3 e0
  have hinr:=hin3.keep (fun g hg=>(Aa HLR).keep.same g ((Aa HIN).lt (hsub g hg)) (Aa HNB _ (hsub g hg)))
  have hnbk:∀ g,(Nd.mk k3 t3 ka3 kc3 ks3 da3 dc3 ds3 l3).blk g→(A g∧g<H)∨g=H∨g=H+1:=fun g hg=>.inl ⟨Aa HNB _ (hsub g hg),by have:=(Aa HIN).lt (hsub g hg);omega⟩
  have hokk:E6 (Nd.mk k3 t3 ka3 kc3 ks3 da3 dc3 ds3 l3).bare:=by
   have h0:=Aa HOK
   unfold Nd.bare E6 at h0
   exact (Hf _).1 h0.2.2.2.2 _ (by rw [Ci];exact List.mem_map.2 ⟨_,List.mem_of_getElem? hge,rfl⟩)
  have hstep:P22.foldE r (Am (ds.drop i)) s1=(match r (Nd.mk k3 t3 ka3 kc3 ks3 da3 dc3 ds3 l3).bare s1 with | .error x=>.error x | .ok s'=>P22.foldE r (Am (ds.drop (i+1))) s'):=by
   rw [Cg hge]
   rfl
  have HST:=Ab hstep
  obtain ⟨KB,hKB⟩:∃ KB,wr.heap.size=KB:=⟨_,rfl⟩
  obtain ⟨W1,hW1⟩:∃ W1,wr.alloc (.cells #[.int .u8 k3,.string ⟨t3.toArray⟩,.slice ka3 ks3.length kc3,.slice da3 ds3.length dc3,.int .i64 l3] 26)=W1:=⟨_,rfl⟩
  have hbW:Below wr.heap.size wr W1:=by rw [← hW1];exact (Below.refl _ _).alloc (Nat.le_refl _) _
  have gk:=(show W1.heap[KB]?=some (.cells #[.int .u8 k3,.string ⟨t3.toArray⟩,.slice ka3 ks3.length kc3,.slice da3 ds3.length dc3,.int .i64 l3] 26) by rw [← hW1,← hKB];exact World.alloc_heap_new _ _)
  have HL1:=Ab ((Aa HLR).below hP hbW)
  have hinK:=hinr.below hbW
  have hp2:=(Aa HL1).keep.same p2 (Array.getElem?_eq_some_iff.1 (Aa HP2)).1 hA2
  have v0:=Aq (hp2.trans (Aa HP2))
  have v1:=Ad gk
  have hcl:=Aa HCALL W1 (Aa HL1).keep.size (fun g hg=>(Aa HL1).keep.same g (by have:=(Aa HCA g hg).2;omega) (Aa HCA g hg).1) _ s1 _ hinK hokk hnbk (fun g hg=>.inl (Aa HCA g hg)) (Aa HL1).inv (by omega)
  rw [Nd.val_eq] at hcl
  have HW1:=Ab hW1
  have hst:=Aa HST
  cases hro:r (Nd.mk k3 t3 ka3 kc3 ks3 da3 dc3 ds3 l3).bare s1 with
  | error xe=>
   rw [hro] at hcl hst
   simp only at hst
   have HFIN:=Ab ((Aa HG).trans hst)
   have HCL:=Ab hcl
   obtain ⟨xe1,xe2⟩:=xe
   clear hst hcl hro HST HG hbb hkd hge hds0 hb3k hsub hin3 hinr hnbk hokk hstep hW1 hbW gk hinK hp2
   go_upto_region 8 with fail
   try rw [hKB]
   try rw [Aa HW1]
   go_upto_region 9 with (refine (Aa HCL).mono ?_;rintro x3 w3 ⟨hk3,rfl,hx3,s3,hi3⟩;have HL3:=Ab ((Aa HL1).next hP hH hk3 hi3))
   obtain ⟨W4,hW4⟩:∃ W4,w3.alloc (.cells #[.int .i64 xe1,.int .i64 xe2] 29)=W4:=⟨_,rfl⟩
   obtain ⟨FB,hFB⟩:∃ FB,w3.heap.size=FB:=⟨_,rfl⟩
   have gf:W4.heap[FB]?=some (.cells #[.int .i64 xe1,.int .i64 xe2] 29):=by rw [← hW4,← hFB];exact World.alloc_heap_new _ _
   have HL4:=Ab ((Aa HL3).below hP (show Below w3.heap.size w3 W4 by rw [← hW4];exact (Below.refl _ _).alloc (Nat.le_refl _) _))
   rw [hW4]
   try rw [hFB]
   have z0:=Af gf
   have y2:=Af (Aa HL4).b1
   have jx:(xe1 != 0)=true:=by simpa using hx3
   have HX3:=Ab hx3
   clear hW4 gf v0 v1 x0 y0 HL3 hk3 hi3 hx3
   go_wp2
   obtain ⟨d1,d2,d3⟩:=(Aa HL4).done hP hH (.int .i64 xe1) (.int .i64 xe2)
   refine bodyPost_ret (Av rfl _ _ _ (H+1) _ rfl d3) rfl ⟨d1,?_⟩
   rw [Aa HFIN]
   exact ⟨rfl,Aa HX3,s3,d2⟩
  | ok s2=>
   rw [hro] at hcl hst
   simp only at hst
   have HG2:=Ab ((Aa HG).trans hst)
   have hz2:=Aa HSZ _ _ _ hro
   have HCL:=Ab hcl
   clear hst hcl hro HST HG hbb hkd hge hds0 hb3k hsub hin3 hinr hnbk hokk hstep hW1 hbW gk hinK hp2
   go_upto_region 8 with fail
   try rw [hKB]
   try rw [Aa HW1]
   go_upto_region 9 with (refine (Aa HCL).mono ?_;rintro x3 w3 ⟨hk3,rfl,hi3⟩;have HL3:=Ab ((Aa HL1).next hP hH hk3 hi3))
   obtain ⟨W4,hW4⟩:∃ W4,w3.alloc (.cells #[.int .i64 0,.int .i64 0] 29)=W4:=⟨_,rfl⟩
   obtain ⟨FB,hFB⟩:∃ FB,w3.heap.size=FB:=⟨_,rfl⟩
   have gf:W4.heap[FB]?=some (.cells #[.int .i64 0,.int .i64 0] 29):=by rw [← hW4,← hFB];exact World.alloc_heap_new _ _
   have HL4:=Ab ((Aa HL3).below hP (show Below w3.heap.size w3 W4 by rw [← hW4];exact (Below.refl _ _).alloc (Nat.le_refl _) _))
   rw [hW4]
   try rw [hFB]
   have z0:=Af gf
   clear hW4 gf v0 v1 x0 y0 HL3 hk3 hi3
   go_wp2
   go_roundg g'
   case measure=>omega
   case rel=>exact ⟨i+1,s2,by omega,by go_num,HG2,HL4,by omega⟩
end Go.Proofs.YtnjokdbblmlhhaaGreatDoor
namespace Go.Proofs.YtnjokdbblmlhhaaGreatDoor
set_option linter.unusedVariables false
set_option linter.unusedSimpArgs false
open Go.RowKit
theorem Ca:∀ (fn:Fn) (first cap:Array Value) (w:World),(Instr.makeFunc fn first cap).run Tryz.prog w=.ok (.func fn first cap) w:=fun _ _ _ _=>rfl
set_option maxRecDepth 100000 in
set_option maxHeartbeats 2000000 in
theorem D2 (tb:Nat) (most:Int) (w:World):Calls Tryz.prog 58 #[.pointer (some ⟨tb,0,none⟩),.int .i64 most] w fun e w'=>∃ c,e=.returned (.func (.func 93) #[] #[.pointer (some ⟨c,0,none⟩),.pointer (some ⟨c+1,0,none⟩)])∧c=w.heap.size∧w'.heap[c]?=some (.cells #[.pointer (some ⟨tb,0,none⟩)] 94)∧w'.heap[c+1]?=some (.cells #[.int .i64 most] 3)∧Below w.heap.size w w':=by
 obtain ⟨H,hH⟩:∃ H,w.heap.size=H:=⟨_,rfl⟩
 obtain ⟨W0,hW0,hb0,g0,g1,hs0⟩:=A0 w (.cells #[.pointer (some ⟨tb,0,none⟩)] 94) (.cells #[.int .i64 most] 3) H hH
 have hmf:=Ca
 have HW0:=Ab hW0
 have HB0:=Ab hb0
 have HG0:=Ab g0
 have HG1:=Ab g1
 clear hW0 hb0 g0 g1
 go_enter Tryz.func58,Tryz.ntmps58
 go_upto_region 1 with fail
 try rw [hH]
 rw [Aa HW0]
 go_wp2
 refine bodyPost_ret (results_tmp rfl _ _ _) rfl ⟨H,rfl,hH.symm,Aa HG0,Aa HG1,by rw [hH];exact Aa HB0⟩
set_option maxRecDepth 100000 in
set_option maxHeartbeats 2000000 in
theorem Kb (most:Int) (f:Nat) (caps:Array Value) (w:World):Calls Tryz.prog 56 #[.int .i64 most,.func (.func f) #[] caps] w fun e w'=>∃ c,e=.returned (.func (.func 90) #[] #[.pointer (some ⟨c,0,none⟩),.pointer (some ⟨c+1,0,none⟩)])∧c=w.heap.size∧w'.heap[c]?=some (.cells #[.int .i64 most] 3)∧w'.heap[c+1]?=some (.cells #[.func (.func f) #[] caps] 89)∧Below w.heap.size w w':=by
 obtain ⟨H,hH⟩:∃ H,w.heap.size=H:=⟨_,rfl⟩
 obtain ⟨W0,hW0,hb0,g0,g1,hs0⟩:=A0 w (.cells #[.int .i64 most] 3) (.cells #[.func (.func f) #[] caps] 89) H hH
 have hmf:=Ca
 have HW0:=Ab hW0
 have HB0:=Ab hb0
 have HG0:=Ab g0
 have HG1:=Ab g1
 clear hW0 hb0 g0 g1
 go_enter Tryz.func56,Tryz.ntmps56
 go_upto_region 1 with fail
 try rw [hH]
 rw [Aa HW0]
 go_wp2
 refine bodyPost_ret (results_tmp rfl _ _ _) rfl ⟨H,rfl,hH.symm,Aa HG0,Aa HG1,by rw [hH];exact Aa HB0⟩
set_option maxRecDepth 100000 in
set_option maxHeartbeats 2000000 in
theorem Gt (bm:Nat) (sa:Option Addr) (n sc:Nat) (w:World):Calls Tryz.prog 57 #[.map (some bm),.slice sa n sc] w fun e w'=>∃ c,e=.returned (.func (.func 92) #[] #[.pointer (some ⟨c,0,none⟩),.pointer (some ⟨c+1,0,none⟩)])∧c=w.heap.size∧w'.heap[c]?=some (.cells #[.map (some bm)] 95)∧w'.heap[c+1]?=some (.cells #[.slice sa n sc] 23)∧Below w.heap.size w w':=by
 obtain ⟨H,hH⟩:∃ H,w.heap.size=H:=⟨_,rfl⟩
 obtain ⟨W0,hW0,hb0,g0,g1,hs0⟩:=A0 w (.cells #[.map (some bm)] 95) (.cells #[.slice sa n sc] 23) H hH
 have hmf:=Ca
 have HW0:=Ab hW0
 have HB0:=Ab hb0
 have HG0:=Ab g0
 have HG1:=Ab g1
 clear hW0 hb0 g0 g1
 go_enter Tryz.func57,Tryz.ntmps57
 go_upto_region 1 with fail
 try rw [hH]
 rw [Aa HW0]
 go_wp2
 refine bodyPost_ret (results_tmp rfl _ _ _) rfl ⟨H,rfl,hH.symm,Aa HG0,Aa HG1,by rw [hH];exact Aa HB0⟩
set_option maxRecDepth 100000 in
set_option maxHeartbeats 2000000 in
theorem F7 (tb:Nat) (w:World):Calls Tryz.prog 88 #[.pointer (some ⟨tb,0,none⟩)] w fun e w'=>∃ c,e=.returned (.func (.func 127) #[] #[.pointer (some ⟨c,0,none⟩)])∧c=w.heap.size∧w'.heap[c]?=some (.cells #[.pointer (some ⟨tb,0,none⟩)] 65)∧Below w.heap.size w w':=by
 obtain ⟨H,hH⟩:∃ H,w.heap.size=H:=⟨_,rfl⟩
 obtain ⟨W0,hW0⟩:∃ W0,w.alloc (.cells #[.pointer (some ⟨tb,0,none⟩)] 65)=W0:=⟨_,rfl⟩
 have g0:W0.heap[H]?=some (.cells #[.pointer (some ⟨tb,0,none⟩)] 65):=by rw [← hW0,← hH];exact World.alloc_heap_new _ _
 have hb0:Below H w W0:=by rw [← hW0];exact (Below.refl _ w).alloc (by omega) _
 have hmf:=Ca
 have HW0:=Ab hW0
 have HB0:=Ab hb0
 have HG0:=Ab g0
 clear hW0 hb0 g0
 go_enter Tryz.func88,Tryz.ntmps88
 go_upto_region 1 with fail
 try rw [hH]
 rw [Aa HW0]
 go_wp2
 refine bodyPost_ret (results_tmp rfl _ _ _) rfl ⟨H,rfl,hH.symm,Aa HG0,by rw [hH];exact Aa HB0⟩
set_option maxRecDepth 100000 in
set_option maxHeartbeats 2000000 in
theorem Lp (tb:Nat) (w:World):Calls Tryz.prog 86 #[.pointer (some ⟨tb,0,none⟩)] w fun e w'=>∃ c,e=.returned (.func (.func 124) #[] #[.pointer (some ⟨c,0,none⟩)])∧c=w.heap.size∧w'.heap[c]?=some (.cells #[.pointer (some ⟨tb,0,none⟩)] 141)∧Below w.heap.size w w':=by
 obtain ⟨H,hH⟩:∃ H,w.heap.size=H:=⟨_,rfl⟩
 obtain ⟨W0,hW0⟩:∃ W0,w.alloc (.cells #[.pointer (some ⟨tb,0,none⟩)] 141)=W0:=⟨_,rfl⟩
 have g0:W0.heap[H]?=some (.cells #[.pointer (some ⟨tb,0,none⟩)] 141):=by rw [← hW0,← hH];exact World.alloc_heap_new _ _
 have hb0:Below H w W0:=by rw [← hW0];exact (Below.refl _ w).alloc (by omega) _
 have hmf:=Ca
 have HW0:=Ab hW0
 have HB0:=Ab hb0
 have HG0:=Ab g0
 clear hW0 hb0 g0
 go_enter Tryz.func86,Tryz.ntmps86
 go_upto_region 1 with fail
 try rw [hH]
 rw [Aa HW0]
 go_wp2
 refine bodyPost_ret (results_tmp rfl _ _ _) rfl ⟨H,rfl,hH.symm,Aa HG0,by rw [hH];exact Aa HB0⟩
set_option maxRecDepth 100000 in
set_option maxHeartbeats 2000000 in
theorem Ma (tb:Nat) (w:World):Calls Tryz.prog 87 #[.pointer (some ⟨tb,0,none⟩)] w fun e w'=>∃ c,e=.returned (.func (.func 126) #[] #[.pointer (some ⟨c,0,none⟩)])∧c=w.heap.size∧w'.heap[c]?=some (.cells #[.pointer (some ⟨tb,0,none⟩)] 143)∧Below w.heap.size w w':=by
 obtain ⟨H,hH⟩:∃ H,w.heap.size=H:=⟨_,rfl⟩
 obtain ⟨W0,hW0⟩:∃ W0,w.alloc (.cells #[.pointer (some ⟨tb,0,none⟩)] 143)=W0:=⟨_,rfl⟩
 have g0:W0.heap[H]?=some (.cells #[.pointer (some ⟨tb,0,none⟩)] 143):=by rw [← hW0,← hH];exact World.alloc_heap_new _ _
 have hb0:Below H w W0:=by rw [← hW0];exact (Below.refl _ w).alloc (by omega) _
 have hmf:=Ca
 have HW0:=Ab hW0
 have HB0:=Ab hb0
 have HG0:=Ab g0
 clear hW0 hb0 g0
 go_enter Tryz.func87,Tryz.ntmps87
 go_upto_region 1 with fail
 try rw [hH]
 rw [Aa HW0]
 go_wp2
 refine bodyPost_ret (results_tmp rfl _ _ _) rfl ⟨H,rfl,hH.symm,Aa HG0,by rw [hH];exact Aa HB0⟩
set_option maxRecDepth 100000 in
set_option maxHeartbeats 2000000 in
theorem Nx (tb:Nat) (w:World):Calls Tryz.prog 89 #[.pointer (some ⟨tb,0,none⟩)] w fun e w'=>∃ c,e=.returned (.func (.func 128) #[] #[.pointer (some ⟨c,0,none⟩)])∧c=w.heap.size∧w'.heap[c]?=some (.cells #[.pointer (some ⟨tb,0,none⟩)] 146)∧Below w.heap.size w w':=by
 obtain ⟨H,hH⟩:∃ H,w.heap.size=H:=⟨_,rfl⟩
 obtain ⟨W0,hW0⟩:∃ W0,w.alloc (.cells #[.pointer (some ⟨tb,0,none⟩)] 146)=W0:=⟨_,rfl⟩
 have g0:W0.heap[H]?=some (.cells #[.pointer (some ⟨tb,0,none⟩)] 146):=by rw [← hW0,← hH];exact World.alloc_heap_new _ _
 have hb0:Below H w W0:=by rw [← hW0];exact (Below.refl _ w).alloc (by omega) _
 have hmf:=Ca
 have HW0:=Ab hW0
 have HB0:=Ab hb0
 have HG0:=Ab g0
 clear hW0 hb0 g0
 go_enter Tryz.func89,Tryz.ntmps89
 go_upto_region 1 with fail
 try rw [hH]
 rw [Aa HW0]
 go_wp2
 refine bodyPost_ret (results_tmp rfl _ _ _) rfl ⟨H,rfl,hH.symm,Aa HG0,by rw [hH];exact Aa HB0⟩
end Go.Proofs.YtnjokdbblmlhhaaGreatDoor
