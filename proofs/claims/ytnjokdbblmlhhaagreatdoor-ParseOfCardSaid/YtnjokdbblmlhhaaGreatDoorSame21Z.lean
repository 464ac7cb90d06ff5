/- Lemmas of this claim. -/
import Derived.Test.YtnjokdbblmlhhaaGreatDoorW22sZ
import Derived.Test.YtnjokdbblmlhhaaGreatDoorGR20Z
import Derived.Test.YtnjokdbblmlhhaaGreatDoorInvZ
import Derived.Test.YtnjokdbblmlhhaaGreatDoorW22fZ
namespace Go.Proofs.YtnjokdbblmlhhaaGreatDoor
set_option linter.unusedVariables false
set_option linter.unusedSimpArgs false
open Go.RowKit
theorem Kw {d e:P20.T} (h:d=e):d.same e=true:=by subst h;exact P20.T.same_refl d
theorem Dk {W:World} {g:Nat} {T:TypeId} {a b c:Value} (h:W.heap[g]?=some (.cells #[a,b,c] T)):(W.cell? ⟨g,0,none⟩=some a∧W.frozen? ⟨g,0,none⟩=false)∧(W.cell? ⟨g,1,none⟩=some b∧W.frozen? ⟨g,1,none⟩=false)∧(W.cell? ⟨g,2,none⟩=some c∧W.frozen? ⟨g,2,none⟩=false):=by
 simp [World.cell?,World.frozen?,h]
theorem Ez {W:World} {g:Nat} {cs:Array Value} {T:TypeId} {o:Obj} (h:W.heap[g]?=some (.cells cs T)):(W.alloc o).heap[g]?=some (.cells cs T):=(Below.heap_alloc _ _ _ (Array.getElem?_eq_some_iff.1 h).1).trans h
theorem Ml {L:Array Bool} {b:Nat} {W:World} {g:Nat} {c1 c2:Array Value} {T:TypeId} (h1:L.getD b false=false→W.heap[g]?=some (.cells c1 T)) (h2:L.getD b false=true→W.heap[g]?=some (.cells c2 T)):g<W.heap.size:=by
 cases h:L.getD b false with
 | false=>exact (Array.getElem?_eq_some_iff.1 (h1 h)).1
 | true=>exact (Array.getElem?_eq_some_iff.1 (h2 h)).1
theorem Kh {B g:Nat} {w W:World} {cs:Array Value} (h:Below B w W) (hg:B≤g):Below B w (W.setRow g cs):=
 ⟨h.os,h.tape,h.output,by simpa [World.setRow] using h.size,fun i hi=>(Br (by omega)).trans (h.block i hi)⟩
set_option maxRecDepth 100000 in
set_option maxHeartbeats 16000000 in
theorem Pw (a b:Ch) (w:World) (ha:a.In w) (hb:b.In w) (hab:a.bare=b.bare):Calls Tryz.prog 29 #[a.val,b.val] w fun e w'=>e=.returned (.bool true)∧Below w.heap.size w w':=by
 obtain ⟨nm,tx,sa,sc,ss⟩:=a
 obtain ⟨nm',tx',sa',sc',ss'⟩:=b
 obtain ⟨hsa,hla,hca⟩:=ha
 obtain ⟨hsb,hlb,hcb⟩:=hb
 unfold Ch.bare at hab
 simp only [P22.Def.mk.injEq] at hab
 obtain ⟨rfl,rfl,hss⟩:=hab
 obtain ⟨M,hM⟩:∃ M,ss.length=M:=⟨_,rfl⟩
 have hM':ss'.length=M:=by have:=congrArg List.length hss;simpa [hM] using this.symm
 simp only at hsa hla hca hsb hlb hcb
 unfold Ch.val
 simp only
 rw [hM,hM']
 rw [hM] at hla
 obtain ⟨H,hH⟩:∃ H,w.heap.size=H:=⟨_,rfl⟩
 obtain ⟨W0,hW0,hb0,g0,g1,hs0⟩:=A0 w (.cells #[.string ⟨nm.toArray⟩,.string ⟨tx.toArray⟩,.slice sa M sc] 50) (.cells #[.string ⟨nm.toArray⟩,.string ⟨tx.toArray⟩,.slice sa' M sc'] 50) H hH
 have x0:=Dk g0
 have x1:=Dk g1
 have hmx:=Dl
 have hM9:M≤maxLen:=by omega
 have HW0:=Ab hW0
 have HB0:=Ab hb0
 have HG0:=Ab g0
 have HG1:=Ab g1
 have HSA:=Ab hsa
 have HSB:=Ab hsb
 have HSS:=Ab hss
 have HM:=Ab hM
 have HM':=Ab hM'
 clear hW0 hb0 g0 g1 hsa hsb hss hM hM' hla hca hlb hcb
 go_enter Tryz.func29,Tryz.ntmps29
 go_upto_region 1 with fail
 try rw [hH]
 rw [Aa HW0]
 go_wp2
 go_loopg [5] M (fun g s5 wx=>∃ i:Nat,i+g=M∧s5=.int .i64 i∧Hid (Below (H+1+1) W0 wx))
 case atStart=>exact ⟨0,by omega,by go_num,Ab (Below.refl _ _)⟩
 case round=>
  obtain ⟨i,hig,rfl,HBX⟩:=hrel
  clear x0 x1
  have y0:=((Aa HBX).block H (by omega)).trans (Aa HG0)
  have y1:=((Aa HBX).block (H+1) (by omega)).trans (Aa HG1)
  have x0:=Dk y0
  have x1:=Dk y1
  have HY0:=Ab y0
  have HY1:=Ab y1
  have hbw:Below H w wr:=(Aa HB0).trans ((Aa HBX).mono (by omega))
  have hzx:H+1+1≤wr.heap.size:=by have:=(Aa HBX).size;omega
  have HBW:=Ab hbw
  clear y0 y1 hbw
  cases gk with
  | zero=>
   have e1:(M:Int)≤(i:Int):=by omega
   have j1:decide ((i:Int)<(M:Int))=false:=by simp;omega
   go_wp2
   go_ret
   exact ⟨rfl,by rw [hH];exact Aa HBW⟩
  | succ g'=>
   have hlt:(i:Int)<(M:Int):=by omega
   have hki:IntKind.i64.wrap ((i:Int)+1)=(i:Int)+1:=IntWalk.i64_in _ (by unfold maxLen at hM9;omega)
   obtain ⟨s1,hg1⟩:=V3 (Aa HM) (show i<M by omega)
   obtain ⟨s2,hg2⟩:=V3 (Aa HM') (show i<M by omega)
   have hse:s1.bare=s2.bare:=by
    have h1:(ss.map Bc.bare)[i]?=some s1.bare:=by rw [List.getElem?_map,hg1];rfl
    have h2:(ss'.map Bc.bare)[i]?=some s2.bare:=by rw [List.getElem?_map,hg2];rfl
    rw [Aa HSS,h2] at h1
    injection h1 with h1
    exact h1.symm
   have hwa:=(Aa HSA).below (by rw [hH];exact Aa HBW)
   have hwb:=(Aa HSB).below (by rw [hH];exact Aa HBW)
   obtain ⟨b1,o1,rfl,c1,hi1⟩:=hwa.get hg1
   obtain ⟨b2,o2,rfl,c2,hi2⟩:=hwb.get hg2
   obtain ⟨n1,a1,u1,aa1,ac1,af1,q1,fi1,fa1,li1,⟨k1,t1,ka1,kc1,ks1,da1,dc1,ds1,l1⟩⟩:=s1
   obtain ⟨n2,a2,u2,aa2,ac2,af2,q2,fi2,fa2,li2,⟨k2,t2,ka2,kc2,ks2,da2,dc2,ds2,l2⟩⟩:=s2
   unfold Bc.bare at hse
   simp only [P22.Step.mk.injEq] at hse
   obtain ⟨rfl,rfl,rfl,rfl,htr,rfl,hnd⟩:=hse
   injection htr with ht1 ht2 ht3
   subst ht1 ht2 ht3
   have c1_0:wr.cell? ⟨b1,o1+i * 13,none⟩=some (.string ⟨n1.toArray⟩):=c1 0 _ rfl
   have c1_1:wr.cell? ⟨b1,o1+i * 13+1,none⟩=some (.string ⟨a1.toArray⟩):=c1 1 _ rfl
   have c1_2:wr.cell? ⟨b1,o1+i * 13+2,none⟩=some (.string ⟨u1.toArray⟩):=c1 2 _ rfl
   have c1_3:wr.cell? ⟨b1,o1+i * 13+3,none⟩=some (.slice aa1 af1.length ac1):=c1 3 _ rfl
   have c1_4:wr.cell? ⟨b1,o1+i * 13+4,none⟩=some (.int .i64 q1):=c1 4 _ rfl
   have c1_5:wr.cell? ⟨b1,o1+i * 13+5,none⟩=some (.int .i64 fi1):=c1 5 _ rfl
   have c1_6:wr.cell? ⟨b1,o1+i * 13+6,none⟩=some (.int .i64 fa1):=c1 6 _ rfl
   have c1_7:wr.cell? ⟨b1,o1+i * 13+7,none⟩=some (.int .i64 li1):=c1 7 _ rfl
   have c1_8:wr.cell? ⟨b1,o1+i * 13+8,none⟩=some (.int .u8 k1):=c1 8 _ rfl
   have c1_9:wr.cell? ⟨b1,o1+i * 13+9,none⟩=some (.string ⟨t1.toArray⟩):=c1 9 _ rfl
   have c1_10:wr.cell? ⟨b1,o1+i * 13+10,none⟩=some (.slice ka1 ks1.length kc1):=c1 10 _ rfl
   have c1_11:wr.cell? ⟨b1,o1+i * 13+11,none⟩=some (.slice da1 ds1.length dc1):=c1 11 _ rfl
   have c1_12:wr.cell? ⟨b1,o1+i * 13+12,none⟩=some (.int .i64 l1):=c1 12 _ rfl
   have c2_0:wr.cell? ⟨b2,o2+i * 13,none⟩=some (.string ⟨n1.toArray⟩):=c2 0 _ rfl
   have c2_1:wr.cell? ⟨b2,o2+i * 13+1,none⟩=some (.string ⟨a1.toArray⟩):=c2 1 _ rfl
   have c2_2:wr.cell? ⟨b2,o2+i * 13+2,none⟩=some (.string ⟨u1.toArray⟩):=c2 2 _ rfl
   have c2_3:wr.cell? ⟨b2,o2+i * 13+3,none⟩=some (.slice aa2 af1.length ac2):=c2 3 _ rfl
   have c2_4:wr.cell? ⟨b2,o2+i * 13+4,none⟩=some (.int .i64 q1):=c2 4 _ rfl
   have c2_5:wr.cell? ⟨b2,o2+i * 13+5,none⟩=some (.int .i64 fi1):=c2 5 _ rfl
   have c2_6:wr.cell? ⟨b2,o2+i * 13+6,none⟩=some (.int .i64 fa1):=c2 6 _ rfl
   have c2_7:wr.cell? ⟨b2,o2+i * 13+7,none⟩=some (.int .i64 li1):=c2 7 _ rfl
   have c2_8:wr.cell? ⟨b2,o2+i * 13+8,none⟩=some (.int .u8 k2):=c2 8 _ rfl
   have c2_9:wr.cell? ⟨b2,o2+i * 13+9,none⟩=some (.string ⟨t2.toArray⟩):=c2 9 _ rfl
   have c2_10:wr.cell? ⟨b2,o2+i * 13+10,none⟩=some (.slice ka2 ks2.length kc2):=c2 10 _ rfl
   have c2_11:wr.cell? ⟨b2,o2+i * 13+11,none⟩=some (.slice da2 ds2.length dc2):=c2 11 _ rfl
   have c2_12:wr.cell? ⟨b2,o2+i * 13+12,none⟩=some (.int .i64 l2):=c2 12 _ rfl
   have HI1:=Ab hi1
   have HI2:=Ab hi2
   have HND:=Ab hnd
   clear c1 c2 hi1 hi2 hnd hwa hwb hg1 hg2
   go_upto_region 6 with fail
   obtain ⟨P,hP⟩:∃ P,wr.heap.size=P:=⟨_,rfl⟩
   have hbl1:b1<P:=by rw [← hP];exact B3 c1_0
   have hbl2:b2<P:=by rw [← hP];exact B3 c2_0
   have hHP:H+1+1≤P:=by omega
   have hpos:(0:Int)≤(i:Int):=by omega
   refine Em hmx (fun L a w1=>∃ v6 v7 v36 v37 v38 v39 v40 v41 v42 v43 v44 v45:Value,a=⟨#[(.agg #[.string ⟨nm.toArray⟩,.string ⟨tx.toArray⟩,.slice (some ⟨b1,o1,none⟩) M sc]),(.agg #[.string ⟨nm.toArray⟩,.string ⟨tx.toArray⟩,.slice (some ⟨b2,o2,none⟩) M sc']),(.pointer (some ⟨H,0,none⟩)),(.pointer (some ⟨H+1,0,none⟩)),u4,(.int .i64 i),v6,v7,(.pointer (some ⟨H,0,none⟩)),(.string ⟨nm.toArray⟩),(.pointer (some ⟨H+1,0,none⟩)),(.string ⟨nm.toArray⟩),(.bool false),(.bool false),(.pointer (some ⟨H,1,none⟩)),(.string ⟨tx.toArray⟩),(.pointer (some ⟨H+1,1,none⟩)),(.string ⟨tx.toArray⟩),(.bool false),(.bool false),(.bool false),(.pointer (some ⟨H,2,none⟩)),(.slice (some ⟨b1,o1,none⟩) M sc),(.int .i64 M),(.pointer (some ⟨H+1,2,none⟩)),(.slice (some ⟨b2,o2,none⟩) M sc'),(.int .i64 M),(.bool false),(.bool false),(.int .i64 i),(.pointer (some ⟨H,2,none⟩)),(.slice (some ⟨b1,o1,none⟩) M sc),(.int .i64 M),(.bool true),u34,u35,v36,v37,v38,v39,v40,v41,v42,v43,v44,v45,u46,u47,u48,u49,u50,u51,u52,u53,u54,u55,u56,u57,u58,u59,u60,u61,u62,u63,u64,u65,u66,u67,u68,u69,u70,u71,u72,u73,u74,u75,u76,u77,u78,u79,u80,u81,u82,u83,u84,u85,u86,u87,u88,u89,u90,u91,u92,u93,u94],[]⟩∧L.size=14∧(L.getD 0 false=true→v36=.pointer (some ⟨H,2,none⟩))∧(L.getD 1 false=true→v37=.slice (some ⟨b1,o1,none⟩) M sc)∧(L.getD 2 false=true→v38=.int .i64 i)∧(L.getD 3 false=true→v39=.pointer (some ⟨b1,o1+i * 13,none⟩))∧(L.getD 4 false=true→v40=.agg #[.string ⟨n1.toArray⟩,.string ⟨a1.toArray⟩,.string ⟨u1.toArray⟩,.slice aa1 af1.length ac1,.int .i64 q1,.int .i64 fi1,.int .i64 fa1,.int .i64 li1,.int .u8 k1,.string ⟨t1.toArray⟩,.slice ka1 ks1.length kc1,.slice da1 ds1.length dc1,.int .i64 l1])∧(L.getD 5 false=true→v41=.pointer (some ⟨H+1,2,none⟩))∧(L.getD 6 false=true→v42=.slice (some ⟨b2,o2,none⟩) M sc')∧(L.getD 7 false=true→v43=.int .i64 i)∧(L.getD 8 false=true→v44=.pointer (some ⟨b2,o2+i * 13,none⟩))∧(L.getD 9 false=true→v45=.agg #[.string ⟨n1.toArray⟩,.string ⟨a1.toArray⟩,.string ⟨u1.toArray⟩,.slice aa2 af1.length ac2,.int .i64 q1,.int .i64 fi1,.int .i64 fa1,.int .i64 li1,.int .u8 k2,.string ⟨t2.toArray⟩,.slice ka2 ks2.length kc2,.slice da2 ds2.length dc2,.int .i64 l2])∧Below P wr w1∧P≤w1.heap.size∧(L.getD 10 false=true→∃ p1,v6=.pointer (some ⟨p1,0,none⟩)∧P≤p1∧(L.getD 12 false=false→w1.heap[p1]?=some (.cells #[.string ⟨#[]⟩,.string ⟨#[]⟩,.string ⟨#[]⟩,.slice none 0 0,.int .i64 0,.int .i64 0,.int .i64 0,.int .i64 0,.int .u8 0,.string ⟨#[]⟩,.slice none 0 0,.slice none 0 0,.int .i64 0] 86))∧(L.getD 12 false=true→w1.heap[p1]?=some (.cells #[.string ⟨n1.toArray⟩,.string ⟨a1.toArray⟩,.string ⟨u1.toArray⟩,.slice aa1 af1.length ac1,.int .i64 q1,.int .i64 fi1,.int .i64 fa1,.int .i64 li1,.int .u8 k1,.string ⟨t1.toArray⟩,.slice ka1 ks1.length kc1,.slice da1 ds1.length dc1,.int .i64 l1] 86)))∧(L.getD 11 false=true→∃ p2,v7=.pointer (some ⟨p2,0,none⟩)∧P≤p2∧(L.getD 13 false=false→w1.heap[p2]?=some (.cells #[.string ⟨#[]⟩,.string ⟨#[]⟩,.string ⟨#[]⟩,.slice none 0 0,.int .i64 0,.int .i64 0,.int .i64 0,.int .i64 0,.int .u8 0,.string ⟨#[]⟩,.slice none 0 0,.slice none 0 0,.int .i64 0] 86))∧(L.getD 13 false=true→w1.heap[p2]?=some (.cells #[.string ⟨n1.toArray⟩,.string ⟨a1.toArray⟩,.string ⟨u1.toArray⟩,.slice aa2 af1.length ac2,.int .i64 q1,.int .i64 fi1,.int .i64 fa1,.int .i64 li1,.int .u8 k2,.string ⟨t2.toArray⟩,.slice ka2 ks2.length kc2,.slice da2 ds2.length dc2,.int .i64 l2] 86)))∧(∀ q,L.getD 10 false=true→L.getD 11 false=true→v6=.pointer (some ⟨q,0,none⟩)→v7=.pointer (some ⟨q,0,none⟩)→False)∧(L.getD 12 false=true→L.getD 10 false=true)∧(L.getD 13 false=true→L.getD 11 false=true)) (by kernel_rfl) ?_ ?_ ?_
   ·refine ⟨u6,u7,u36,u37,u38,u39,u40,u41,u42,u43,u44,u45,rfl,by kernel_rfl,?_,?_,?_,?_,?_,?_,?_,?_,?_,?_,(Below.refl P wr).drew,Nat.le_of_eq hP.symm,?_,?_,fun q h=>absurd h (by decide),?_,?_⟩
    all_goals (intro h;exact absurd h (by decide))
   ·rintro L a' w1 i' o ⟨v6,v7,v36,v37,v38,v39,v40,v41,v42,v43,v44,v45,rfl,hL,f0,f1,f2,f3,f4,f5,f6,f7,f8,f9,hB,hPw,f10,f11,hap,k12,k13⟩ ho hi hdep
    match i',ho with
  | 0,ho=>
   cases ho
   refine Ak rfl rfl ?_
   refine Oper.wp_mono (K:=fun a2 w2=>a2=⟨#[(.agg #[.string ⟨nm.toArray⟩,.string ⟨tx.toArray⟩,.slice (some ⟨b1,o1,none⟩) M sc]),(.agg #[.string ⟨nm.toArray⟩,.string ⟨tx.toArray⟩,.slice (some ⟨b2,o2,none⟩) M sc']),(.pointer (some ⟨H,0,none⟩)),(.pointer (some ⟨H+1,0,none⟩)),u4,(.int .i64 i),v6,v7,(.pointer (some ⟨H,0,none⟩)),(.string ⟨nm.toArray⟩),(.pointer (some ⟨H+1,0,none⟩)),(.string ⟨nm.toArray⟩),(.bool false),(.bool false),(.pointer (some ⟨H,1,none⟩)),(.string ⟨tx.toArray⟩),(.pointer (some ⟨H+1,1,none⟩)),(.string ⟨tx.toArray⟩),(.bool false),(.bool false),(.bool false),(.pointer (some ⟨H,2,none⟩)),(.slice (some ⟨b1,o1,none⟩) M sc),(.int .i64 M),(.pointer (some ⟨H+1,2,none⟩)),(.slice (some ⟨b2,o2,none⟩) M sc'),(.int .i64 M),(.bool false),(.bool false),(.int .i64 i),(.pointer (some ⟨H,2,none⟩)),(.slice (some ⟨b1,o1,none⟩) M sc),(.int .i64 M),(.bool true),u34,u35,(.pointer (some ⟨H,2,none⟩)),v37,v38,v39,v40,v41,v42,v43,v44,v45,u46,u47,u48,u49,u50,u51,u52,u53,u54,u55,u56,u57,u58,u59,u60,u61,u62,u63,u64,u65,u66,u67,u68,u69,u70,u71,u72,u73,u74,u75,u76,u77,u78,u79,u80,u81,u82,u83,u84,u85,u86,u87,u88,u89,u90,u91,u92,u93,u94],[]⟩∧w2=w1) (fun a2 w2 he=>?_) (by simp [Oper.wp,go_sem])
   obtain ⟨rfl,rfl⟩:=he
   exact ⟨v6,v7,_,v37,v38,v39,v40,v41,v42,v43,v44,v45,rfl,by simp [hL],(fun _=>rfl),(fun h=>f1 (Ac (by omega) h)),(fun h=>f2 (Ac (by omega) h)),(fun h=>f3 (Ac (by omega) h)),(fun h=>f4 (Ac (by omega) h)),(fun h=>f5 (Ac (by omega) h)),(fun h=>f6 (Ac (by omega) h)),(fun h=>f7 (Ac (by omega) h)),(fun h=>f8 (Ac (by omega) h)),(fun h=>f9 (Ac (by omega) h)),hB,hPw,(fun h=>by obtain ⟨p,e1,e2,e3,e4⟩:=f10 (Ac (by omega) h);exact ⟨p,e1,e2,fun h=>(e3 (by rwa [getD_set_ne false (by omega)] at h)),fun h=>(e4 (Ac (by omega) h))⟩),(fun h=>by obtain ⟨p,e1,e2,e3,e4⟩:=f11 (Ac (by omega) h);exact ⟨p,e1,e2,fun h=>(e3 (by rwa [getD_set_ne false (by omega)] at h)),fun h=>(e4 (Ac (by omega) h))⟩),(fun q h1 h2=>hap q (Ac (by omega) h1) (Ac (by omega) h2)),(fun h=>by rw [getD_set_ne false (by omega)];exact k12 (Ac (by omega) h)),(fun h=>by rw [getD_set_ne false (by omega)];exact k13 (Ac (by omega) h))⟩
  | 1,ho=>
   cases ho
   refine Ak rfl rfl ?_
   have z0:=Dk ((hB.block H (by omega)).trans (Aa HY0))
   obtain rfl:=f0 (hdep ⟨0,.data⟩ (by simp) rfl)
   refine Oper.wp_mono (K:=fun a2 w2=>a2=⟨#[(.agg #[.string ⟨nm.toArray⟩,.string ⟨tx.toArray⟩,.slice (some ⟨b1,o1,none⟩) M sc]),(.agg #[.string ⟨nm.toArray⟩,.string ⟨tx.toArray⟩,.slice (some ⟨b2,o2,none⟩) M sc']),(.pointer (some ⟨H,0,none⟩)),(.pointer (some ⟨H+1,0,none⟩)),u4,(.int .i64 i),v6,v7,(.pointer (some ⟨H,0,none⟩)),(.string ⟨nm.toArray⟩),(.pointer (some ⟨H+1,0,none⟩)),(.string ⟨nm.toArray⟩),(.bool false),(.bool false),(.pointer (some ⟨H,1,none⟩)),(.string ⟨tx.toArray⟩),(.pointer (some ⟨H+1,1,none⟩)),(.string ⟨tx.toArray⟩),(.bool false),(.bool false),(.bool false),(.pointer (some ⟨H,2,none⟩)),(.slice (some ⟨b1,o1,none⟩) M sc),(.int .i64 M),(.pointer (some ⟨H+1,2,none⟩)),(.slice (some ⟨b2,o2,none⟩) M sc'),(.int .i64 M),(.bool false),(.bool false),(.int .i64 i),(.pointer (some ⟨H,2,none⟩)),(.slice (some ⟨b1,o1,none⟩) M sc),(.int .i64 M),(.bool true),u34,u35,(.pointer (some ⟨H,2,none⟩)),(.slice (some ⟨b1,o1,none⟩) M sc),v38,v39,v40,v41,v42,v43,v44,v45,u46,u47,u48,u49,u50,u51,u52,u53,u54,u55,u56,u57,u58,u59,u60,u61,u62,u63,u64,u65,u66,u67,u68,u69,u70,u71,u72,u73,u74,u75,u76,u77,u78,u79,u80,u81,u82,u83,u84,u85,u86,u87,u88,u89,u90,u91,u92,u93,u94],[]⟩∧w2=w1) (fun a2 w2 he=>?_) (by simp [Oper.wp,go_sem,z0])
   obtain ⟨rfl,rfl⟩:=he
   exact ⟨v6,v7,_,_,v38,v39,v40,v41,v42,v43,v44,v45,rfl,by simp [hL],(fun _=>rfl),(fun _=>rfl),(fun h=>f2 (Ac (by omega) h)),(fun h=>f3 (Ac (by omega) h)),(fun h=>f4 (Ac (by omega) h)),(fun h=>f5 (Ac (by omega) h)),(fun h=>f6 (Ac (by omega) h)),(fun h=>f7 (Ac (by omega) h)),(fun h=>f8 (Ac (by omega) h)),(fun h=>f9 (Ac (by omega) h)),hB,hPw,(fun h=>by obtain ⟨p,e1,e2,e3,e4⟩:=f10 (Ac (by omega) h);exact ⟨p,e1,e2,fun h=>(e3 (by rwa [getD_set_ne false (by omega)] at h)),fun h=>(e4 (Ac (by omega) h))⟩),(fun h=>by obtain ⟨p,e1,e2,e3,e4⟩:=f11 (Ac (by omega) h);exact ⟨p,e1,e2,fun h=>(e3 (by rwa [getD_set_ne false (by omega)] at h)),fun h=>(e4 (Ac (by omega) h))⟩),(fun q h1 h2=>hap q (Ac (by omega) h1) (Ac (by omega) h2)),(fun h=>by rw [getD_set_ne false (by omega)];exact k12 (Ac (by omega) h)),(fun h=>by rw [getD_set_ne false (by omega)];exact k13 (Ac (by omega) h))⟩
  | 2,ho=>
   cases ho
   refine Ak rfl rfl ?_
   refine Oper.wp_mono (K:=fun a2 w2=>a2=⟨#[(.agg #[.string ⟨nm.toArray⟩,.string ⟨tx.toArray⟩,.slice (some ⟨b1,o1,none⟩) M sc]),(.agg #[.string ⟨nm.toArray⟩,.string ⟨tx.toArray⟩,.slice (some ⟨b2,o2,none⟩) M sc']),(.pointer (some ⟨H,0,none⟩)),(.pointer (some ⟨H+1,0,none⟩)),u4,(.int .i64 i),v6,v7,(.pointer (some ⟨H,0,none⟩)),(.string ⟨nm.toArray⟩),(.pointer (some ⟨H+1,0,none⟩)),(.string ⟨nm.toArray⟩),(.bool false),(.bool false),(.pointer (some ⟨H,1,none⟩)),(.string ⟨tx.toArray⟩),(.pointer (some ⟨H+1,1,none⟩)),(.string ⟨tx.toArray⟩),(.bool false),(.bool false),(.bool false),(.pointer (some ⟨H,2,none⟩)),(.slice (some ⟨b1,o1,none⟩) M sc),(.int .i64 M),(.pointer (some ⟨H+1,2,none⟩)),(.slice (some ⟨b2,o2,none⟩) M sc'),(.int .i64 M),(.bool false),(.bool false),(.int .i64 i),(.pointer (some ⟨H,2,none⟩)),(.slice (some ⟨b1,o1,none⟩) M sc),(.int .i64 M),(.bool true),u34,u35,v36,v37,(.int .i64 i),v39,v40,v41,v42,v43,v44,v45,u46,u47,u48,u49,u50,u51,u52,u53,u54,u55,u56,u57,u58,u59,u60,u61,u62,u63,u64,u65,u66,u67,u68,u69,u70,u71,u72,u73,u74,u75,u76,u77,u78,u79,u80,u81,u82,u83,u84,u85,u86,u87,u88,u89,u90,u91,u92,u93,u94],[]⟩∧w2=w1) (fun a2 w2 he=>?_) (by simp [Oper.wp,go_sem])
   obtain ⟨rfl,rfl⟩:=he
   exact ⟨v6,v7,v36,v37,_,v39,v40,v41,v42,v43,v44,v45,rfl,by simp [hL],(fun h=>f0 (Ac (by omega) h)),(fun h=>f1 (Ac (by omega) h)),(fun _=>rfl),(fun h=>f3 (Ac (by omega) h)),(fun h=>f4 (Ac (by omega) h)),(fun h=>f5 (Ac (by omega) h)),(fun h=>f6 (Ac (by omega) h)),(fun h=>f7 (Ac (by omega) h)),(fun h=>f8 (Ac (by omega) h)),(fun h=>f9 (Ac (by omega) h)),hB,hPw,(fun h=>by obtain ⟨p,e1,e2,e3,e4⟩:=f10 (Ac (by omega) h);exact ⟨p,e1,e2,fun h=>(e3 (by rwa [getD_set_ne false (by omega)] at h)),fun h=>(e4 (Ac (by omega) h))⟩),(fun h=>by obtain ⟨p,e1,e2,e3,e4⟩:=f11 (Ac (by omega) h);exact ⟨p,e1,e2,fun h=>(e3 (by rwa [getD_set_ne false (by omega)] at h)),fun h=>(e4 (Ac (by omega) h))⟩),(fun q h1 h2=>hap q (Ac (by omega) h1) (Ac (by omega) h2)),(fun h=>by rw [getD_set_ne false (by omega)];exact k12 (Ac (by omega) h)),(fun h=>by rw [getD_set_ne false (by omega)];exact k13 (Ac (by omega) h))⟩
  | 3,ho=>
   cases ho
   refine Ak rfl rfl ?_
   obtain rfl:=f1 (hdep ⟨1,.data⟩ (by simp) rfl)
   obtain rfl:=f2 (hdep ⟨2,.data⟩ (by simp) rfl)
   refine Oper.wp_mono (K:=fun a2 w2=>a2=⟨#[(.agg #[.string ⟨nm.toArray⟩,.string ⟨tx.toArray⟩,.slice (some ⟨b1,o1,none⟩) M sc]),(.agg #[.string ⟨nm.toArray⟩,.string ⟨tx.toArray⟩,.slice (some ⟨b2,o2,none⟩) M sc']),(.pointer (some ⟨H,0,none⟩)),(.pointer (some ⟨H+1,0,none⟩)),u4,(.int .i64 i),v6,v7,(.pointer (some ⟨H,0,none⟩)),(.string ⟨nm.toArray⟩),(.pointer (some ⟨H+1,0,none⟩)),(.string ⟨nm.toArray⟩),(.bool false),(.bool false),(.pointer (some ⟨H,1,none⟩)),(.string ⟨tx.toArray⟩),(.pointer (some ⟨H+1,1,none⟩)),(.string ⟨tx.toArray⟩),(.bool false),(.bool false),(.bool false),(.pointer (some ⟨H,2,none⟩)),(.slice (some ⟨b1,o1,none⟩) M sc),(.int .i64 M),(.pointer (some ⟨H+1,2,none⟩)),(.slice (some ⟨b2,o2,none⟩) M sc'),(.int .i64 M),(.bool false),(.bool false),(.int .i64 i),(.pointer (some ⟨H,2,none⟩)),(.slice (some ⟨b1,o1,none⟩) M sc),(.int .i64 M),(.bool true),u34,u35,v36,(.slice (some ⟨b1,o1,none⟩) M sc),(.int .i64 i),(.pointer (some ⟨b1,o1+i * 13,none⟩)),v40,v41,v42,v43,v44,v45,u46,u47,u48,u49,u50,u51,u52,u53,u54,u55,u56,u57,u58,u59,u60,u61,u62,u63,u64,u65,u66,u67,u68,u69,u70,u71,u72,u73,u74,u75,u76,u77,u78,u79,u80,u81,u82,u83,u84,u85,u86,u87,u88,u89,u90,u91,u92,u93,u94],[]⟩∧w2=w1) (fun a2 w2 he=>?_) (by simp [Oper.wp,go_sem,hlt,hpos])
   obtain ⟨rfl,rfl⟩:=he
   exact ⟨v6,v7,v36,_,_,_,v40,v41,v42,v43,v44,v45,rfl,by simp [hL],(fun h=>f0 (Ac (by omega) h)),(fun _=>rfl),(fun _=>rfl),(fun _=>rfl),(fun h=>f4 (Ac (by omega) h)),(fun h=>f5 (Ac (by omega) h)),(fun h=>f6 (Ac (by omega) h)),(fun h=>f7 (Ac (by omega) h)),(fun h=>f8 (Ac (by omega) h)),(fun h=>f9 (Ac (by omega) h)),hB,hPw,(fun h=>by obtain ⟨p,e1,e2,e3,e4⟩:=f10 (Ac (by omega) h);exact ⟨p,e1,e2,fun h=>(e3 (by rwa [getD_set_ne false (by omega)] at h)),fun h=>(e4 (Ac (by omega) h))⟩),(fun h=>by obtain ⟨p,e1,e2,e3,e4⟩:=f11 (Ac (by omega) h);exact ⟨p,e1,e2,fun h=>(e3 (by rwa [getD_set_ne false (by omega)] at h)),fun h=>(e4 (Ac (by omega) h))⟩),(fun q h1 h2=>hap q (Ac (by omega) h1) (Ac (by omega) h2)),(fun h=>by rw [getD_set_ne false (by omega)];exact k12 (Ac (by omega) h)),(fun h=>by rw [getD_set_ne false (by omega)];exact k13 (Ac (by omega) h))⟩
  | 4,ho=>
   cases ho
   refine Ak rfl rfl ?_
   obtain rfl:=f3 (hdep ⟨3,.data⟩ (by simp) rfl)
   have d0:=(Ag (hB.block b1 hbl1) _).trans c1_0
   have d1:=(Ag (hB.block b1 hbl1) _).trans c1_1
   have d2:=(Ag (hB.block b1 hbl1) _).trans c1_2
   have d3:=(Ag (hB.block b1 hbl1) _).trans c1_3
   have d4:=(Ag (hB.block b1 hbl1) _).trans c1_4
   have d5:=(Ag (hB.block b1 hbl1) _).trans c1_5
   have d6:=(Ag (hB.block b1 hbl1) _).trans c1_6
   have d7:=(Ag (hB.block b1 hbl1) _).trans c1_7
   have d8:=(Ag (hB.block b1 hbl1) _).trans c1_8
   have d9:=(Ag (hB.block b1 hbl1) _).trans c1_9
   have d10:=(Ag (hB.block b1 hbl1) _).trans c1_10
   have d11:=(Ag (hB.block b1 hbl1) _).trans c1_11
   have d12:=(Ag (hB.block b1 hbl1) _).trans c1_12
   refine Oper.wp_mono (K:=fun a2 w2=>a2=⟨#[(.agg #[.string ⟨nm.toArray⟩,.string ⟨tx.toArray⟩,.slice (some ⟨b1,o1,none⟩) M sc]),(.agg #[.string ⟨nm.toArray⟩,.string ⟨tx.toArray⟩,.slice (some ⟨b2,o2,none⟩) M sc']),(.pointer (some ⟨H,0,none⟩)),(.pointer (some ⟨H+1,0,none⟩)),u4,(.int .i64 i),v6,v7,(.pointer (some ⟨H,0,none⟩)),(.string ⟨nm.toArray⟩),(.pointer (some ⟨H+1,0,none⟩)),(.string ⟨nm.toArray⟩),(.bool false),(.bool false),(.pointer (some ⟨H,1,none⟩)),(.string ⟨tx.toArray⟩),(.pointer (some ⟨H+1,1,none⟩)),(.string ⟨tx.toArray⟩),(.bool false),(.bool false),(.bool false),(.pointer (some ⟨H,2,none⟩)),(.slice (some ⟨b1,o1,none⟩) M sc),(.int .i64 M),(.pointer (some ⟨H+1,2,none⟩)),(.slice (some ⟨b2,o2,none⟩) M sc'),(.int .i64 M),(.bool false),(.bool false),(.int .i64 i),(.pointer (some ⟨H,2,none⟩)),(.slice (some ⟨b1,o1,none⟩) M sc),(.int .i64 M),(.bool true),u34,u35,v36,v37,v38,(.pointer (some ⟨b1,o1+i * 13,none⟩)),(.agg #[.string ⟨n1.toArray⟩,.string ⟨a1.toArray⟩,.string ⟨u1.toArray⟩,.slice aa1 af1.length ac1,.int .i64 q1,.int .i64 fi1,.int .i64 fa1,.int .i64 li1,.int .u8 k1,.string ⟨t1.toArray⟩,.slice ka1 ks1.length kc1,.slice da1 ds1.length dc1,.int .i64 l1]),v41,v42,v43,v44,v45,u46,u47,u48,u49,u50,u51,u52,u53,u54,u55,u56,u57,u58,u59,u60,u61,u62,u63,u64,u65,u66,u67,u68,u69,u70,u71,u72,u73,u74,u75,u76,u77,u78,u79,u80,u81,u82,u83,u84,u85,u86,u87,u88,u89,u90,u91,u92,u93,u94],[]⟩∧w2=w1) (fun a2 w2 he=>?_) (by simp [Oper.wp,go_sem,d0,d1,d2,d3,d4,d5,d6,d7,d8,d9,d10,d11,d12])
   obtain ⟨rfl,rfl⟩:=he
   exact ⟨v6,v7,v36,v37,v38,_,_,v41,v42,v43,v44,v45,rfl,by simp [hL],(fun h=>f0 (Ac (by omega) h)),(fun h=>f1 (Ac (by omega) h)),(fun h=>f2 (Ac (by omega) h)),(fun _=>rfl),(fun _=>rfl),(fun h=>f5 (Ac (by omega) h)),(fun h=>f6 (Ac (by omega) h)),(fun h=>f7 (Ac (by omega) h)),(fun h=>f8 (Ac (by omega) h)),(fun h=>f9 (Ac (by omega) h)),hB,hPw,(fun h=>by obtain ⟨p,e1,e2,e3,e4⟩:=f10 (Ac (by omega) h);exact ⟨p,e1,e2,fun h=>(e3 (by rwa [getD_set_ne false (by omega)] at h)),fun h=>(e4 (Ac (by omega) h))⟩),(fun h=>by obtain ⟨p,e1,e2,e3,e4⟩:=f11 (Ac (by omega) h);exact ⟨p,e1,e2,fun h=>(e3 (by rwa [getD_set_ne false (by omega)] at h)),fun h=>(e4 (Ac (by omega) h))⟩),(fun q h1 h2=>hap q (Ac (by omega) h1) (Ac (by omega) h2)),(fun h=>by rw [getD_set_ne false (by omega)];exact k12 (Ac (by omega) h)),(fun h=>by rw [getD_set_ne false (by omega)];exact k13 (Ac (by omega) h))⟩
  | 5,ho=>
   cases ho
   refine Ak rfl rfl ?_
   refine Oper.wp_mono (K:=fun a2 w2=>a2=⟨#[(.agg #[.string ⟨nm.toArray⟩,.string ⟨tx.toArray⟩,.slice (some ⟨b1,o1,none⟩) M sc]),(.agg #[.string ⟨nm.toArray⟩,.string ⟨tx.toArray⟩,.slice (some ⟨b2,o2,none⟩) M sc']),(.pointer (some ⟨H,0,none⟩)),(.pointer (some ⟨H+1,0,none⟩)),u4,(.int .i64 i),v6,v7,(.pointer (some ⟨H,0,none⟩)),(.string ⟨nm.toArray⟩),(.pointer (some ⟨H+1,0,none⟩)),(.string ⟨nm.toArray⟩),(.bool false),(.bool false),(.pointer (some ⟨H,1,none⟩)),(.string ⟨tx.toArray⟩),(.pointer (some ⟨H+1,1,none⟩)),(.string ⟨tx.toArray⟩),(.bool false),(.bool false),(.bool false),(.pointer (some ⟨H,2,none⟩)),(.slice (some ⟨b1,o1,none⟩) M sc),(.int .i64 M),(.pointer (some ⟨H+1,2,none⟩)),(.slice (some ⟨b2,o2,none⟩) M sc'),(.int .i64 M),(.bool false),(.bool false),(.int .i64 i),(.pointer (some ⟨H,2,none⟩)),(.slice (some ⟨b1,o1,none⟩) M sc),(.int .i64 M),(.bool true),u34,u35,v36,v37,v38,v39,v40,(.pointer (some ⟨H+1,2,none⟩)),v42,v43,v44,v45,u46,u47,u48,u49,u50,u51,u52,u53,u54,u55,u56,u57,u58,u59,u60,u61,u62,u63,u64,u65,u66,u67,u68,u69,u70,u71,u72,u73,u74,u75,u76,u77,u78,u79,u80,u81,u82,u83,u84,u85,u86,u87,u88,u89,u90,u91,u92,u93,u94],[]⟩∧w2=w1) (fun a2 w2 he=>?_) (by simp [Oper.wp,go_sem])
   obtain ⟨rfl,rfl⟩:=he
   exact ⟨v6,v7,v36,v37,v38,v39,v40,_,v42,v43,v44,v45,rfl,by simp [hL],(fun h=>f0 (Ac (by omega) h)),(fun h=>f1 (Ac (by omega) h)),(fun h=>f2 (Ac (by omega) h)),(fun h=>f3 (Ac (by omega) h)),(fun h=>f4 (Ac (by omega) h)),(fun _=>rfl),(fun h=>f6 (Ac (by omega) h)),(fun h=>f7 (Ac (by omega) h)),(fun h=>f8 (Ac (by omega) h)),(fun h=>f9 (Ac (by omega) h)),hB,hPw,(fun h=>by obtain ⟨p,e1,e2,e3,e4⟩:=f10 (Ac (by omega) h);exact ⟨p,e1,e2,fun h=>(e3 (by rwa [getD_set_ne false (by omega)] at h)),fun h=>(e4 (Ac (by omega) h))⟩),(fun h=>by obtain ⟨p,e1,e2,e3,e4⟩:=f11 (Ac (by omega) h);exact ⟨p,e1,e2,fun h=>(e3 (by rwa [getD_set_ne false (by omega)] at h)),fun h=>(e4 (Ac (by omega) h))⟩),(fun q h1 h2=>hap q (Ac (by omega) h1) (Ac (by omega) h2)),(fun h=>by rw [getD_set_ne false (by omega)];exact k12 (Ac (by omega) h)),(fun h=>by rw [getD_set_ne false (by omega)];exact k13 (Ac (by omega) h))⟩
  | 6,ho=>
   cases ho
   refine Ak rfl rfl ?_
   have z0:=Dk ((hB.block (H+1) (by omega)).trans (Aa HY1))
   obtain rfl:=f5 (hdep ⟨5,.data⟩ (by simp) rfl)
   refine Oper.wp_mono (K:=fun a2 w2=>a2=⟨#[(.agg #[.string ⟨nm.toArray⟩,.string ⟨tx.toArray⟩,.slice (some ⟨b1,o1,none⟩) M sc]),(.agg #[.string ⟨nm.toArray⟩,.string ⟨tx.toArray⟩,.slice (some ⟨b2,o2,none⟩) M sc']),(.pointer (some ⟨H,0,none⟩)),(.pointer (some ⟨H+1,0,none⟩)),u4,(.int .i64 i),v6,v7,(.pointer (some ⟨H,0,none⟩)),(.string ⟨nm.toArray⟩),(.pointer (some ⟨H+1,0,none⟩)),(.string ⟨nm.toArray⟩),(.bool false),(.bool false),(.pointer (some ⟨H,1,none⟩)),(.string ⟨tx.toArray⟩),(.pointer (some ⟨H+1,1,none⟩)),(.string ⟨tx.toArray⟩),(.bool false),(.bool false),(.bool false),(.pointer (some ⟨H,2,none⟩)),(.slice (some ⟨b1,o1,none⟩) M sc),(.int .i64 M),(.pointer (some ⟨H+1,2,none⟩)),(.slice (some ⟨b2,o2,none⟩) M sc'),(.int .i64 M),(.bool false),(.bool false),(.int .i64 i),(.pointer (some ⟨H,2,none⟩)),(.slice (some ⟨b1,o1,none⟩) M sc),(.int .i64 M),(.bool true),u34,u35,v36,v37,v38,v39,v40,(.pointer (some ⟨H+1,2,none⟩)),(.slice (some ⟨b2,o2,none⟩) M sc'),v43,v44,v45,u46,u47,u48,u49,u50,u51,u52,u53,u54,u55,u56,u57,u58,u59,u60,u61,u62,u63,u64,u65,u66,u67,u68,u69,u70,u71,u72,u73,u74,u75,u76,u77,u78,u79,u80,u81,u82,u83,u84,u85,u86,u87,u88,u89,u90,u91,u92,u93,u94],[]⟩∧w2=w1) (fun a2 w2 he=>?_) (by simp [Oper.wp,go_sem,z0])
   obtain ⟨rfl,rfl⟩:=he
   exact ⟨v6,v7,v36,v37,v38,v39,v40,_,_,v43,v44,v45,rfl,by simp [hL],(fun h=>f0 (Ac (by omega) h)),(fun h=>f1 (Ac (by omega) h)),(fun h=>f2 (Ac (by omega) h)),(fun h=>f3 (Ac (by omega) h)),(fun h=>f4 (Ac (by omega) h)),(fun _=>rfl),(fun _=>rfl),(fun h=>f7 (Ac (by omega) h)),(fun h=>f8 (Ac (by omega) h)),(fun h=>f9 (Ac (by omega) h)),hB,hPw,(fun h=>by obtain ⟨p,e1,e2,e3,e4⟩:=f10 (Ac (by omega) h);exact ⟨p,e1,e2,fun h=>(e3 (by rwa [getD_set_ne false (by omega)] at h)),fun h=>(e4 (Ac (by omega) h))⟩),(fun h=>by obtain ⟨p,e1,e2,e3,e4⟩:=f11 (Ac (by omega) h);exact ⟨p,e1,e2,fun h=>(e3 (by rwa [getD_set_ne false (by omega)] at h)),fun h=>(e4 (Ac (by omega) h))⟩),(fun q h1 h2=>hap q (Ac (by omega) h1) (Ac (by omega) h2)),(fun h=>by rw [getD_set_ne false (by omega)];exact k12 (Ac (by omega) h)),(fun h=>by rw [getD_set_ne false (by omega)];exact k13 (Ac (by omega) h))⟩
  | 7,ho=>
   cases ho
   refine Ak rfl rfl ?_
   refine Oper.wp_mono (K:=fun a2 w2=>a2=⟨#[(.agg #[.string ⟨nm.toArray⟩,.string ⟨tx.toArray⟩,.slice (some ⟨b1,o1,none⟩) M sc]),(.agg #[.string ⟨nm.toArray⟩,.string ⟨tx.toArray⟩,.slice (some ⟨b2,o2,none⟩) M sc']),(.pointer (some ⟨H,0,none⟩)),(.pointer (some ⟨H+1,0,none⟩)),u4,(.int .i64 i),v6,v7,(.pointer (some ⟨H,0,none⟩)),(.string ⟨nm.toArray⟩),(.pointer (some ⟨H+1,0,none⟩)),(.string ⟨nm.toArray⟩),(.bool false),(.bool false),(.pointer (some ⟨H,1,none⟩)),(.string ⟨tx.toArray⟩),(.pointer (some ⟨H+1,1,none⟩)),(.string ⟨tx.toArray⟩),(.bool false),(.bool false),(.bool false),(.pointer (some ⟨H,2,none⟩)),(.slice (some ⟨b1,o1,none⟩) M sc),(.int .i64 M),(.pointer (some ⟨H+1,2,none⟩)),(.slice (some ⟨b2,o2,none⟩) M sc'),(.int .i64 M),(.bool false),(.bool false),(.int .i64 i),(.pointer (some ⟨H,2,none⟩)),(.slice (some ⟨b1,o1,none⟩) M sc),(.int .i64 M),(.bool true),u34,u35,v36,v37,v38,v39,v40,v41,v42,(.int .i64 i),v44,v45,u46,u47,u48,u49,u50,u51,u52,u53,u54,u55,u56,u57,u58,u59,u60,u61,u62,u63,u64,u65,u66,u67,u68,u69,u70,u71,u72,u73,u74,u75,u76,u77,u78,u79,u80,u81,u82,u83,u84,u85,u86,u87,u88,u89,u90,u91,u92,u93,u94],[]⟩∧w2=w1) (fun a2 w2 he=>?_) (by simp [Oper.wp,go_sem])
   obtain ⟨rfl,rfl⟩:=he
   exact ⟨v6,v7,v36,v37,v38,v39,v40,v41,v42,_,v44,v45,rfl,by simp [hL],(fun h=>f0 (Ac (by omega) h)),(fun h=>f1 (Ac (by omega) h)),(fun h=>f2 (Ac (by omega) h)),(fun h=>f3 (Ac (by omega) h)),(fun h=>f4 (Ac (by omega) h)),(fun h=>f5 (Ac (by omega) h)),(fun h=>f6 (Ac (by omega) h)),(fun _=>rfl),(fun h=>f8 (Ac (by omega) h)),(fun h=>f9 (Ac (by omega) h)),hB,hPw,(fun h=>by obtain ⟨p,e1,e2,e3,e4⟩:=f10 (Ac (by omega) h);exact ⟨p,e1,e2,fun h=>(e3 (by rwa [getD_set_ne false (by omega)] at h)),fun h=>(e4 (Ac (by omega) h))⟩),(fun h=>by obtain ⟨p,e1,e2,e3,e4⟩:=f11 (Ac (by omega) h);exact ⟨p,e1,e2,fun h=>(e3 (by rwa [getD_set_ne false (by omega)] at h)),fun h=>(e4 (Ac (by omega) h))⟩),(fun q h1 h2=>hap q (Ac (by omega) h1) (Ac (by omega) h2)),(fun h=>by rw [getD_set_ne false (by omega)];exact k12 (Ac (by omega) h)),(fun h=>by rw [getD_set_ne false (by omega)];exact k13 (Ac (by omega) h))⟩
  | 8,ho=>
   cases ho
   refine Ak rfl rfl ?_
   obtain rfl:=f6 (hdep ⟨6,.data⟩ (by simp) rfl)
   obtain rfl:=f7 (hdep ⟨7,.data⟩ (by simp) rfl)
   refine Oper.wp_mono (K:=fun a2 w2=>a2=⟨#[(.agg #[.string ⟨nm.toArray⟩,.string ⟨tx.toArray⟩,.slice (some ⟨b1,o1,none⟩) M sc]),(.agg #[.string ⟨nm.toArray⟩,.string ⟨tx.toArray⟩,.slice (some ⟨b2,o2,none⟩) M sc']),(.pointer (some ⟨H,0,none⟩)),(.pointer (some ⟨H+1,0,none⟩)),u4,(.int .i64 i),v6,v7,(.pointer (some ⟨H,0,none⟩)),(.string ⟨nm.toArray⟩),(.pointer (some ⟨H+1,0,none⟩)),(.string ⟨nm.toArray⟩),(.bool false),(.bool false),(.pointer (some ⟨H,1,none⟩)),(.string ⟨tx.toArray⟩),(.pointer (some ⟨H+1,1,none⟩)),(.string ⟨tx.toArray⟩),(.bool false),(.bool false),(.bool false),(.pointer (some ⟨H,2,none⟩)),(.slice (some ⟨b1,o1,none⟩) M sc),(.int .i64 M),(.pointer (some ⟨H+1,2,none⟩)),(.slice (some ⟨b2,o2,none⟩) M sc'),(.int .i64 M),(.bool false),(.bool false),(.int .i64 i),(.pointer (some ⟨H,2,none⟩)),(.slice (some ⟨b1,o1,none⟩) M sc),(.int .i64 M),(.bool true),u34,u35,v36,v37,v38,v39,v40,v41,(.slice (some ⟨b2,o2,none⟩) M sc'),(.int .i64 i),(.pointer (some ⟨b2,o2+i * 13,none⟩)),v45,u46,u47,u48,u49,u50,u51,u52,u53,u54,u55,u56,u57,u58,u59,u60,u61,u62,u63,u64,u65,u66,u67,u68,u69,u70,u71,u72,u73,u74,u75,u76,u77,u78,u79,u80,u81,u82,u83,u84,u85,u86,u87,u88,u89,u90,u91,u92,u93,u94],[]⟩∧w2=w1) (fun a2 w2 he=>?_) (by simp [Oper.wp,go_sem,hlt,hpos])
   obtain ⟨rfl,rfl⟩:=he
   exact ⟨v6,v7,v36,v37,v38,v39,v40,v41,_,_,_,v45,rfl,by simp [hL],(fun h=>f0 (Ac (by omega) h)),(fun h=>f1 (Ac (by omega) h)),(fun h=>f2 (Ac (by omega) h)),(fun h=>f3 (Ac (by omega) h)),(fun h=>f4 (Ac (by omega) h)),(fun h=>f5 (Ac (by omega) h)),(fun _=>rfl),(fun _=>rfl),(fun _=>rfl),(fun h=>f9 (Ac (by omega) h)),hB,hPw,(fun h=>by obtain ⟨p,e1,e2,e3,e4⟩:=f10 (Ac (by omega) h);exact ⟨p,e1,e2,fun h=>(e3 (by rwa [getD_set_ne false (by omega)] at h)),fun h=>(e4 (Ac (by omega) h))⟩),(fun h=>by obtain ⟨p,e1,e2,e3,e4⟩:=f11 (Ac (by omega) h);exact ⟨p,e1,e2,fun h=>(e3 (by rwa [getD_set_ne false (by omega)] at h)),fun h=>(e4 (Ac (by omega) h))⟩),(fun q h1 h2=>hap q (Ac (by omega) h1) (Ac (by omega) h2)),(fun h=>by rw [getD_set_ne false (by omega)];exact k12 (Ac (by omega) h)),(fun h=>by rw [getD_set_ne false (by omega)];exact k13 (Ac (by omega) h))⟩
  | 9,ho=>
   cases ho
   refine Ak rfl rfl ?_
   obtain rfl:=f8 (hdep ⟨8,.data⟩ (by simp) rfl)
   have d0:=(Ag (hB.block b2 hbl2) _).trans c2_0
   have d1:=(Ag (hB.block b2 hbl2) _).trans c2_1
   have d2:=(Ag (hB.block b2 hbl2) _).trans c2_2
   have d3:=(Ag (hB.block b2 hbl2) _).trans c2_3
   have d4:=(Ag (hB.block b2 hbl2) _).trans c2_4
   have d5:=(Ag (hB.block b2 hbl2) _).trans c2_5
   have d6:=(Ag (hB.block b2 hbl2) _).trans c2_6
   have d7:=(Ag (hB.block b2 hbl2) _).trans c2_7
   have d8:=(Ag (hB.block b2 hbl2) _).trans c2_8
   have d9:=(Ag (hB.block b2 hbl2) _).trans c2_9
   have d10:=(Ag (hB.block b2 hbl2) _).trans c2_10
   have d11:=(Ag (hB.block b2 hbl2) _).trans c2_11
   have d12:=(Ag (hB.block b2 hbl2) _).trans c2_12
   refine Oper.wp_mono (K:=fun a2 w2=>a2=⟨#[(.agg #[.string ⟨nm.toArray⟩,.string ⟨tx.toArray⟩,.slice (some ⟨b1,o1,none⟩) M sc]),(.agg #[.string ⟨nm.toArray⟩,.string ⟨tx.toArray⟩,.slice (some ⟨b2,o2,none⟩) M sc']),(.pointer (some ⟨H,0,none⟩)),(.pointer (some ⟨H+1,0,none⟩)),u4,(.int .i64 i),v6,v7,(.pointer (some ⟨H,0,none⟩)),(.string ⟨nm.toArray⟩),(.pointer (some ⟨H+1,0,none⟩)),(.string ⟨nm.toArray⟩),(.bool false),(.bool false),(.pointer (some ⟨H,1,none⟩)),(.string ⟨tx.toArray⟩),(.pointer (some ⟨H+1,1,none⟩)),(.string ⟨tx.toArray⟩),(.bool false),(.bool false),(.bool false),(.pointer (some ⟨H,2,none⟩)),(.slice (some ⟨b1,o1,none⟩) M sc),(.int .i64 M),(.pointer (some ⟨H+1,2,none⟩)),(.slice (some ⟨b2,o2,none⟩) M sc'),(.int .i64 M),(.bool false),(.bool false),(.int .i64 i),(.pointer (some ⟨H,2,none⟩)),(.slice (some ⟨b1,o1,none⟩) M sc),(.int .i64 M),(.bool true),u34,u35,v36,v37,v38,v39,v40,v41,v42,v43,(.pointer (some ⟨b2,o2+i * 13,none⟩)),(.agg #[.string ⟨n1.toArray⟩,.string ⟨a1.toArray⟩,.string ⟨u1.toArray⟩,.slice aa2 af1.length ac2,.int .i64 q1,.int .i64 fi1,.int .i64 fa1,.int .i64 li1,.int .u8 k2,.string ⟨t2.toArray⟩,.slice ka2 ks2.length kc2,.slice da2 ds2.length dc2,.int .i64 l2]),u46,u47,u48,u49,u50,u51,u52,u53,u54,u55,u56,u57,u58,u59,u60,u61,u62,u63,u64,u65,u66,u67,u68,u69,u70,u71,u72,u73,u74,u75,u76,u77,u78,u79,u80,u81,u82,u83,u84,u85,u86,u87,u88,u89,u90,u91,u92,u93,u94],[]⟩∧w2=w1) (fun a2 w2 he=>?_) (by simp [Oper.wp,go_sem,d0,d1,d2,d3,d4,d5,d6,d7,d8,d9,d10,d11,d12])
   obtain ⟨rfl,rfl⟩:=he
   exact ⟨v6,v7,v36,v37,v38,v39,v40,v41,v42,v43,_,_,rfl,by simp [hL],(fun h=>f0 (Ac (by omega) h)),(fun h=>f1 (Ac (by omega) h)),(fun h=>f2 (Ac (by omega) h)),(fun h=>f3 (Ac (by omega) h)),(fun h=>f4 (Ac (by omega) h)),(fun h=>f5 (Ac (by omega) h)),(fun h=>f6 (Ac (by omega) h)),(fun h=>f7 (Ac (by omega) h)),(fun _=>rfl),(fun _=>rfl),hB,hPw,(fun h=>by obtain ⟨p,e1,e2,e3,e4⟩:=f10 (Ac (by omega) h);exact ⟨p,e1,e2,fun h=>(e3 (by rwa [getD_set_ne false (by omega)] at h)),fun h=>(e4 (Ac (by omega) h))⟩),(fun h=>by obtain ⟨p,e1,e2,e3,e4⟩:=f11 (Ac (by omega) h);exact ⟨p,e1,e2,fun h=>(e3 (by rwa [getD_set_ne false (by omega)] at h)),fun h=>(e4 (Ac (by omega) h))⟩),(fun q h1 h2=>hap q (Ac (by omega) h1) (Ac (by omega) h2)),(fun h=>by rw [getD_set_ne false (by omega)];exact k12 (Ac (by omega) h)),(fun h=>by rw [getD_set_ne false (by omega)];exact k13 (Ac (by omega) h))⟩
  | 10,ho=>
   cases ho
   refine Ak rfl rfl ?_
   refine Oper.wp_mono (K:=fun a2 w2=>a2=⟨#[(.agg #[.string ⟨nm.toArray⟩,.string ⟨tx.toArray⟩,.slice (some ⟨b1,o1,none⟩) M sc]),(.agg #[.string ⟨nm.toArray⟩,.string ⟨tx.toArray⟩,.slice (some ⟨b2,o2,none⟩) M sc']),(.pointer (some ⟨H,0,none⟩)),(.pointer (some ⟨H+1,0,none⟩)),u4,(.int .i64 i),(.pointer (some ⟨w1.heap.size,0,none⟩)),v7,(.pointer (some ⟨H,0,none⟩)),(.string ⟨nm.toArray⟩),(.pointer (some ⟨H+1,0,none⟩)),(.string ⟨nm.toArray⟩),(.bool false),(.bool false),(.pointer (some ⟨H,1,none⟩)),(.string ⟨tx.toArray⟩),(.pointer (some ⟨H+1,1,none⟩)),(.string ⟨tx.toArray⟩),(.bool false),(.bool false),(.bool false),(.pointer (some ⟨H,2,none⟩)),(.slice (some ⟨b1,o1,none⟩) M sc),(.int .i64 M),(.pointer (some ⟨H+1,2,none⟩)),(.slice (some ⟨b2,o2,none⟩) M sc'),(.int .i64 M),(.bool false),(.bool false),(.int .i64 i),(.pointer (some ⟨H,2,none⟩)),(.slice (some ⟨b1,o1,none⟩) M sc),(.int .i64 M),(.bool true),u34,u35,v36,v37,v38,v39,v40,v41,v42,v43,v44,v45,u46,u47,u48,u49,u50,u51,u52,u53,u54,u55,u56,u57,u58,u59,u60,u61,u62,u63,u64,u65,u66,u67,u68,u69,u70,u71,u72,u73,u74,u75,u76,u77,u78,u79,u80,u81,u82,u83,u84,u85,u86,u87,u88,u89,u90,u91,u92,u93,u94],[]⟩∧w2=w1.alloc (.cells #[.string ⟨#[]⟩,.string ⟨#[]⟩,.string ⟨#[]⟩,.slice none 0 0,.int .i64 0,.int .i64 0,.int .i64 0,.int .i64 0,.int .u8 0,.string ⟨#[]⟩,.slice none 0 0,.slice none 0 0,.int .i64 0] 86)) (fun a2 w2 he=>?_) (by simp [Oper.wp,go_sem])
   obtain ⟨rfl,rfl⟩:=he
   exact ⟨_,v7,v36,v37,v38,v39,v40,v41,v42,v43,v44,v45,rfl,by simp [hL],(fun h=>f0 (Ac (by omega) h)),(fun h=>f1 (Ac (by omega) h)),(fun h=>f2 (Ac (by omega) h)),(fun h=>f3 (Ac (by omega) h)),(fun h=>f4 (Ac (by omega) h)),(fun h=>f5 (Ac (by omega) h)),(fun h=>f6 (Ac (by omega) h)),(fun h=>f7 (Ac (by omega) h)),(fun h=>f8 (Ac (by omega) h)),(fun h=>f9 (Ac (by omega) h)),hB.alloc hPw _,by simp;omega,(fun _=>⟨w1.heap.size,rfl,hPw,fun _=>World.alloc_heap_new _ _,fun h=>by have h5:=k12 (Ac (by omega) h);rw [(A4 hi).2] at h5;cases h5⟩),(fun h=>by obtain ⟨p,e1,e2,e3,e4⟩:=f11 (Ac (by omega) h);exact ⟨p,e1,e2,fun h=>Ez (e3 (by rwa [getD_set_ne false (by omega)] at h)),fun h=>Ez (e4 (Ac (by omega) h))⟩),(fun q h1 h2 h3 h4=>by obtain ⟨p,e1,e2,e3,e4⟩:=f11 (Ac (by omega) h2);rw [e1] at h4;injection h4 with h5;injection h5 with h5;injection h5 with h5;injection h3 with h6;injection h6 with h6;injection h6 with h6;have:=Ml e3 e4;omega),(fun _=>Bm hi),(fun h=>by rw [getD_set_ne false (by omega)];exact k13 (Ac (by omega) h))⟩
  | 11,ho=>
   cases ho
   refine Ak rfl rfl ?_
   refine Oper.wp_mono (K:=fun a2 w2=>a2=⟨#[(.agg #[.string ⟨nm.toArray⟩,.string ⟨tx.toArray⟩,.slice (some ⟨b1,o1,none⟩) M sc]),(.agg #[.string ⟨nm.toArray⟩,.string ⟨tx.toArray⟩,.slice (some ⟨b2,o2,none⟩) M sc']),(.pointer (some ⟨H,0,none⟩)),(.pointer (some ⟨H+1,0,none⟩)),u4,(.int .i64 i),v6,(.pointer (some ⟨w1.heap.size,0,none⟩)),(.pointer (some ⟨H,0,none⟩)),(.string ⟨nm.toArray⟩),(.pointer (some ⟨H+1,0,none⟩)),(.string ⟨nm.toArray⟩),(.bool false),(.bool false),(.pointer (some ⟨H,1,none⟩)),(.string ⟨tx.toArray⟩),(.pointer (some ⟨H+1,1,none⟩)),(.string ⟨tx.toArray⟩),(.bool false),(.bool false),(.bool false),(.pointer (some ⟨H,2,none⟩)),(.slice (some ⟨b1,o1,none⟩) M sc),(.int .i64 M),(.pointer (some ⟨H+1,2,none⟩)),(.slice (some ⟨b2,o2,none⟩) M sc'),(.int .i64 M),(.bool false),(.bool false),(.int .i64 i),(.pointer (some ⟨H,2,none⟩)),(.slice (some ⟨b1,o1,none⟩) M sc),(.int .i64 M),(.bool true),u34,u35,v36,v37,v38,v39,v40,v41,v42,v43,v44,v45,u46,u47,u48,u49,u50,u51,u52,u53,u54,u55,u56,u57,u58,u59,u60,u61,u62,u63,u64,u65,u66,u67,u68,u69,u70,u71,u72,u73,u74,u75,u76,u77,u78,u79,u80,u81,u82,u83,u84,u85,u86,u87,u88,u89,u90,u91,u92,u93,u94],[]⟩∧w2=w1.alloc (.cells #[.string ⟨#[]⟩,.string ⟨#[]⟩,.string ⟨#[]⟩,.slice none 0 0,.int .i64 0,.int .i64 0,.int .i64 0,.int .i64 0,.int .u8 0,.string ⟨#[]⟩,.slice none 0 0,.slice none 0 0,.int .i64 0] 86)) (fun a2 w2 he=>?_) (by simp [Oper.wp,go_sem])
   obtain ⟨rfl,rfl⟩:=he
   exact ⟨v6,_,v36,v37,v38,v39,v40,v41,v42,v43,v44,v45,rfl,by simp [hL],(fun h=>f0 (Ac (by omega) h)),(fun h=>f1 (Ac (by omega) h)),(fun h=>f2 (Ac (by omega) h)),(fun h=>f3 (Ac (by omega) h)),(fun h=>f4 (Ac (by omega) h)),(fun h=>f5 (Ac (by omega) h)),(fun h=>f6 (Ac (by omega) h)),(fun h=>f7 (Ac (by omega) h)),(fun h=>f8 (Ac (by omega) h)),(fun h=>f9 (Ac (by omega) h)),hB.alloc hPw _,by simp;omega,(fun h=>by obtain ⟨p,e1,e2,e3,e4⟩:=f10 (Ac (by omega) h);exact ⟨p,e1,e2,fun h=>Ez (e3 (by rwa [getD_set_ne false (by omega)] at h)),fun h=>Ez (e4 (Ac (by omega) h))⟩),(fun _=>⟨w1.heap.size,rfl,hPw,fun _=>World.alloc_heap_new _ _,fun h=>by have h5:=k13 (Ac (by omega) h);rw [(A4 hi).2] at h5;cases h5⟩),(fun q h1 h2 h3 h4=>by obtain ⟨p,e1,e2,e3,e4⟩:=f10 (Ac (by omega) h1);rw [e1] at h3;injection h3 with h5;injection h5 with h5;injection h5 with h5;injection h4 with h6;injection h6 with h6;injection h6 with h6;have:=Ml e3 e4;omega),(fun h=>by rw [getD_set_ne false (by omega)];exact k12 (Ac (by omega) h)),(fun _=>Bm hi)⟩
  | 12,ho=>
   cases ho
   refine Ak rfl rfl ?_
   have hd10:=hdep ⟨10,.data⟩ (by simp) rfl
   obtain ⟨p,rfl,e2,e3,e4⟩:=f10 hd10
   obtain rfl:=f4 (hdep ⟨4,.data⟩ (by simp) rfl)
   refine Oper.wp_mono (K:=fun a2 w2=>a2=⟨#[(.agg #[.string ⟨nm.toArray⟩,.string ⟨tx.toArray⟩,.slice (some ⟨b1,o1,none⟩) M sc]),(.agg #[.string ⟨nm.toArray⟩,.string ⟨tx.toArray⟩,.slice (some ⟨b2,o2,none⟩) M sc']),(.pointer (some ⟨H,0,none⟩)),(.pointer (some ⟨H+1,0,none⟩)),u4,(.int .i64 i),(.pointer (some ⟨p,0,none⟩)),v7,(.pointer (some ⟨H,0,none⟩)),(.string ⟨nm.toArray⟩),(.pointer (some ⟨H+1,0,none⟩)),(.string ⟨nm.toArray⟩),(.bool false),(.bool false),(.pointer (some ⟨H,1,none⟩)),(.string ⟨tx.toArray⟩),(.pointer (some ⟨H+1,1,none⟩)),(.string ⟨tx.toArray⟩),(.bool false),(.bool false),(.bool false),(.pointer (some ⟨H,2,none⟩)),(.slice (some ⟨b1,o1,none⟩) M sc),(.int .i64 M),(.pointer (some ⟨H+1,2,none⟩)),(.slice (some ⟨b2,o2,none⟩) M sc'),(.int .i64 M),(.bool false),(.bool false),(.int .i64 i),(.pointer (some ⟨H,2,none⟩)),(.slice (some ⟨b1,o1,none⟩) M sc),(.int .i64 M),(.bool true),u34,u35,v36,v37,v38,v39,(.agg #[.string ⟨n1.toArray⟩,.string ⟨a1.toArray⟩,.string ⟨u1.toArray⟩,.slice aa1 af1.length ac1,.int .i64 q1,.int .i64 fi1,.int .i64 fa1,.int .i64 li1,.int .u8 k1,.string ⟨t1.toArray⟩,.slice ka1 ks1.length kc1,.slice da1 ds1.length dc1,.int .i64 l1]),v41,v42,v43,v44,v45,u46,u47,u48,u49,u50,u51,u52,u53,u54,u55,u56,u57,u58,u59,u60,u61,u62,u63,u64,u65,u66,u67,u68,u69,u70,u71,u72,u73,u74,u75,u76,u77,u78,u79,u80,u81,u82,u83,u84,u85,u86,u87,u88,u89,u90,u91,u92,u93,u94],[]⟩∧w2=w1.setRow p #[.string ⟨n1.toArray⟩,.string ⟨a1.toArray⟩,.string ⟨u1.toArray⟩,.slice aa1 af1.length ac1,.int .i64 q1,.int .i64 fi1,.int .i64 fa1,.int .i64 li1,.int .u8 k1,.string ⟨t1.toArray⟩,.slice ka1 ks1.length kc1,.slice da1 ds1.length dc1,.int .i64 l1]) (fun a2 w2 he=>?_) (wp_store_row 86 _ _ rfl p #[.string ⟨n1.toArray⟩,.string ⟨a1.toArray⟩,.string ⟨u1.toArray⟩,.slice aa1 af1.length ac1,.int .i64 q1,.int .i64 fi1,.int .i64 fa1,.int .i64 li1,.int .u8 k1,.string ⟨t1.toArray⟩,.slice ka1 ks1.length kc1,.slice da1 ds1.length dc1,.int .i64 l1] rfl rfl 86 #[.string ⟨#[]⟩,.string ⟨#[]⟩,.string ⟨#[]⟩,.slice none 0 0,.int .i64 0,.int .i64 0,.int .i64 0,.int .i64 0,.int .u8 0,.string ⟨#[]⟩,.slice none 0 0,.slice none 0 0,.int .i64 0] (e3 (A4 hi).2) (by kernel_rfl) rfl (by simp [Value.oneCell']) ⟨rfl,rfl⟩)
   obtain ⟨rfl,rfl⟩:=he
   exact ⟨_,v7,v36,v37,v38,v39,_,v41,v42,v43,v44,v45,rfl,by simp [hL],(fun h=>f0 (Ac (by omega) h)),(fun h=>f1 (Ac (by omega) h)),(fun h=>f2 (Ac (by omega) h)),(fun h=>f3 (Ac (by omega) h)),(fun _=>rfl),(fun h=>f5 (Ac (by omega) h)),(fun h=>f6 (Ac (by omega) h)),(fun h=>f7 (Ac (by omega) h)),(fun h=>f8 (Ac (by omega) h)),(fun h=>f9 (Ac (by omega) h)),Kh hB e2,by simpa [World.setRow] using hPw,(fun _=>⟨p,rfl,e2,fun h=>by (rw [Bm hi] at h;cases h),fun _=>setRow_heap _ _ _ _ _ _ (e3 (A4 hi).2)⟩),(fun h=>by obtain ⟨p',g1,g2,g3,g4⟩:=f11 (Ac (by omega) h);have hne:p'≠p:=(by rintro rfl;exact hap p' hd10 (Ac (by omega) h) rfl g1);exact ⟨p',g1,g2,fun h=>(Br hne).trans (g3 (by rwa [getD_set_ne false (by omega)] at h)),fun h=>(Br hne).trans (g4 (Ac (by omega) h))⟩),(fun q h1 h2=>hap q (Ac (by omega) h1) (Ac (by omega) h2)),(fun _=>by rw [getD_set_ne false (by omega)];exact hd10),(fun h=>by rw [getD_set_ne false (by omega)];exact k13 (Ac (by omega) h))⟩
  | 13,ho=>
   cases ho
   refine Ak rfl rfl ?_
   have hd10:=hdep ⟨11,.data⟩ (by simp) rfl
   obtain ⟨p,rfl,e2,e3,e4⟩:=f11 hd10
   obtain rfl:=f9 (hdep ⟨9,.data⟩ (by simp) rfl)
   refine Oper.wp_mono (K:=fun a2 w2=>a2=⟨#[(.agg #[.string ⟨nm.toArray⟩,.string ⟨tx.toArray⟩,.slice (some ⟨b1,o1,none⟩) M sc]),(.agg #[.string ⟨nm.toArray⟩,.string ⟨tx.toArray⟩,.slice (some ⟨b2,o2,none⟩) M sc']),(.pointer (some ⟨H,0,none⟩)),(.pointer (some ⟨H+1,0,none⟩)),u4,(.int .i64 i),v6,(.pointer (some ⟨p,0,none⟩)),(.pointer (some ⟨H,0,none⟩)),(.string ⟨nm.toArray⟩),(.pointer (some ⟨H+1,0,none⟩)),(.string ⟨nm.toArray⟩),(.bool false),(.bool false),(.pointer (some ⟨H,1,none⟩)),(.string ⟨tx.toArray⟩),(.pointer (some ⟨H+1,1,none⟩)),(.string ⟨tx.toArray⟩),(.bool false),(.bool false),(.bool false),(.pointer (some ⟨H,2,none⟩)),(.slice (some ⟨b1,o1,none⟩) M sc),(.int .i64 M),(.pointer (some ⟨H+1,2,none⟩)),(.slice (some ⟨b2,o2,none⟩) M sc'),(.int .i64 M),(.bool false),(.bool false),(.int .i64 i),(.pointer (some ⟨H,2,none⟩)),(.slice (some ⟨b1,o1,none⟩) M sc),(.int .i64 M),(.bool true),u34,u35,v36,v37,v38,v39,v40,v41,v42,v43,v44,(.agg #[.string ⟨n1.toArray⟩,.string ⟨a1.toArray⟩,.string ⟨u1.toArray⟩,.slice aa2 af1.length ac2,.int .i64 q1,.int .i64 fi1,.int .i64 fa1,.int .i64 li1,.int .u8 k2,.string ⟨t2.toArray⟩,.slice ka2 ks2.length kc2,.slice da2 ds2.length dc2,.int .i64 l2]),u46,u47,u48,u49,u50,u51,u52,u53,u54,u55,u56,u57,u58,u59,u60,u61,u62,u63,u64,u65,u66,u67,u68,u69,u70,u71,u72,u73,u74,u75,u76,u77,u78,u79,u80,u81,u82,u83,u84,u85,u86,u87,u88,u89,u90,u91,u92,u93,u94],[]⟩∧w2=w1.setRow p #[.string ⟨n1.toArray⟩,.string ⟨a1.toArray⟩,.string ⟨u1.toArray⟩,.slice aa2 af1.length ac2,.int .i64 q1,.int .i64 fi1,.int .i64 fa1,.int .i64 li1,.int .u8 k2,.string ⟨t2.toArray⟩,.slice ka2 ks2.length kc2,.slice da2 ds2.length dc2,.int .i64 l2]) (fun a2 w2 he=>?_) (wp_store_row 86 _ _ rfl p #[.string ⟨n1.toArray⟩,.string ⟨a1.toArray⟩,.string ⟨u1.toArray⟩,.slice aa2 af1.length ac2,.int .i64 q1,.int .i64 fi1,.int .i64 fa1,.int .i64 li1,.int .u8 k2,.string ⟨t2.toArray⟩,.slice ka2 ks2.length kc2,.slice da2 ds2.length dc2,.int .i64 l2] rfl rfl 86 #[.string ⟨#[]⟩,.string ⟨#[]⟩,.string ⟨#[]⟩,.slice none 0 0,.int .i64 0,.int .i64 0,.int .i64 0,.int .i64 0,.int .u8 0,.string ⟨#[]⟩,.slice none 0 0,.slice none 0 0,.int .i64 0] (e3 (A4 hi).2) (by kernel_rfl) rfl (by simp [Value.oneCell']) ⟨rfl,rfl⟩)
   obtain ⟨rfl,rfl⟩:=he
   exact ⟨v6,_,v36,v37,v38,v39,v40,v41,v42,v43,v44,_,rfl,by simp [hL],(fun h=>f0 (Ac (by omega) h)),(fun h=>f1 (Ac (by omega) h)),(fun h=>f2 (Ac (by omega) h)),(fun h=>f3 (Ac (by omega) h)),(fun h=>f4 (Ac (by omega) h)),(fun h=>f5 (Ac (by omega) h)),(fun h=>f6 (Ac (by omega) h)),(fun h=>f7 (Ac (by omega) h)),(fun h=>f8 (Ac (by omega) h)),(fun _=>rfl),Kh hB e2,by simpa [World.setRow] using hPw,(fun h=>by obtain ⟨p',g1,g2,g3,g4⟩:=f10 (Ac (by omega) h);have hne:p'≠p:=(by rintro rfl;exact hap p' (Ac (by omega) h) hd10 g1 rfl);exact ⟨p',g1,g2,fun h=>(Br hne).trans (g3 (by rwa [getD_set_ne false (by omega)] at h)),fun h=>(Br hne).trans (g4 (Ac (by omega) h))⟩),(fun _=>⟨p,rfl,e2,fun h=>by (rw [Bm hi] at h;cases h),fun _=>setRow_heap _ _ _ _ _ _ (e3 (A4 hi).2)⟩),(fun q h1 h2=>hap q (Ac (by omega) h1) (Ac (by omega) h2)),(fun h=>by rw [getD_set_ne false (by omega)];exact k12 (Ac (by omega) h)),(fun _=>by rw [getD_set_ne false (by omega)];exact hd10)⟩
    | n+14,ho=>exact absurd ho (by simp)
   ·rintro L a' V ⟨v6,v7,v36,v37,v38,v39,v40,v41,v42,v43,v44,v45,rfl,hL,f0,f1,f2,f3,f4,f5,f6,f7,f8,f9,hB,hPw,f10,f11,hap,k12,k13⟩ hall
    have hall':∀ i,i<14→L.getD i false=true:=fun i hi=>by
     have:=hall i
     have hi':i<L.size:=by omega
     simp only [Array.getD,hi',dif_pos] at this ⊢
     exact this
    obtain ⟨p1,rfl,hp1,_,b1x⟩:=f10 (hall' 10 (by omega))
    obtain ⟨p2,rfl,hp2,_,b2x⟩:=f11 (hall' 11 (by omega))
    have B1X:=Ab (b1x (hall' 12 (by omega)))
    have B2X:=Ab (b2x (hall' 13 (by omega)))
    have HBV:=Ab hB
    clear f0 f1 f2 f3 f4 f5 f6 f7 f8 f9 f10 f11 hap k12 k13 hall hall' b1x b2x hB
    clear c1_0 c1_1 c1_2 c1_3 c1_4 c1_5 c1_6 c1_7 c1_8 c1_9 c1_10 c1_11 c1_12 c2_0 c2_1 c2_2 c2_3 c2_4 c2_5 c2_6 c2_7 c2_8 c2_9 c2_10 c2_11 c2_12 x0 x1
    have hi1:=Aa HI1
    have hi2:=Aa HI2
    have hbv:=Aa HBV
    have hk1:(Nd.mk k1 t1 ka1 kc1 ks1 da1 dc1 ds1 l1).In wr:=hi1.note
    have hk2:(Nd.mk k2 t2 ka2 kc2 ks2 da2 dc2 ds2 l2).In wr:=hi2.note
    have htx:Calls Tryz.prog 49 #[.slice aa1 af1.length ac1,.slice aa2 af1.length ac2] V fun e w'=>e=.returned (.bool true)∧Below V.heap.size V w':=by
     refine (G3 aa1 aa2 ac1 ac2 af1 af1 V (Eu.below hi1.keys (by rw [hP];exact hbv)) (Eu.below hi2.keys (by rw [hP];exact hbv)) (Nat.le_trans hi1.len hi1.cap) (Nat.le_trans hi1.len hi1.cap)).mono ?_
     rintro e w' ⟨rfl,q2,rfl⟩
     exact ⟨by rw [decide_eq_true rfl],rfl,rfl,rfl,Nat.le_refl _,fun _ _=>rfl⟩
    have HTX:=Ab htx
    have HND1:=Ab (hk1.below (by rw [hP];exact hbv))
    have HND2:=Ab (hk2.below (by rw [hP];exact hbv))
    have z1:=A2 (Aa B1X)
    have z2:=A2 (Aa B2X)
    have hl1:p1<V.heap.size:=(Array.getElem?_eq_some_iff.1 (Aa B1X)).1
    have hl2:p2<V.heap.size:=(Array.getElem?_eq_some_iff.1 (Aa B2X)).1
    clear hi1 hi2 hbv hk1 hk2 htx
    have hsm:∀ W',Below V.heap.size V W'→Calls Tryz.prog 20 #[.agg #[.int .u8 k1,.string ⟨t1.toArray⟩,.slice ka1 ks1.length kc1,.slice da1 ds1.length dc1,.int .i64 l1],.agg #[.int .u8 k2,.string ⟨t2.toArray⟩,.slice ka2 ks2.length kc2,.slice da2 ds2.length dc2,.int .i64 l2]] W' fun e w'=>e=.returned (.bool true)∧Below W'.heap.size W' w':=fun W' h=>by
     have h9:=Qd (.mk k1 t1 ka1 kc1 ks1 da1 dc1 ds1 l1) (.mk k2 t2 ka2 kc2 ks2 da2 dc2 ds2 l2) W' ((Aa HND1).below h) ((Aa HND2).below h)
     rw [Kw (Aa HND)] at h9
     exact h9
    have HSM:=Ab hsm
    clear hsm
    go_wp2_with (first
     | (go_at_call 49;refine (Aa HTX).mono ?_;rintro x3 w3 ⟨rfl,hb3⟩;have v1:=A2 ((hb3.block p1 hl1).trans (Aa B1X));have v2:=A2 ((hb3.block p2 hl2).trans (Aa B2X));have HB3:=Ab hb3;clear hb3)
     | (go_at_call 20;refine (Aa HSM w3 (Aa HB3)).mono ?_;rintro x4 w4 ⟨rfl,hb4⟩;have HB4:=Ab hb4;clear hb4))
    go_roundg g'
    case measure=>omega
    case rel=>
     refine ⟨i+1,by omega,by go_num,Ab ?_⟩
     have h3:=(Aa HBV).mono hHP
     have h4:=Aa HB3
     have h5:=Aa HB4
     have hz1:=(Aa HBV).size
     have hz3:=h4.size
     exact (Aa HBX).trans ((h3.trans (h4.mono (by omega))).trans (h5.mono (by omega)))
end Go.Proofs.YtnjokdbblmlhhaaGreatDoor
