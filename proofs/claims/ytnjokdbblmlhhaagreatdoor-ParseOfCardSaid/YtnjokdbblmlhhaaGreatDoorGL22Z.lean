/- Lemmas of this claim. -/
import Derived.Test.YtnjokdbblmlhhaaGreatDoorGL20Z
import Derived.Test.YtnjokdbblmlhhaaGreatDoorW22pZ
import Derived.Test.YtnjokdbblmlhhaaGreatDoorR22gZ
import Derived.Test.YtnjokdbblmlhhaaGreatDoorWR20aZ
import Derived.Test.YtnjokdbblmlhhaaGreatDoorGT19Z
import Derived.Test.YtnjokdbblmlhhaaGreatDoorGR17Z
import Derived.Deep.CutRange
import Derived.Deep.CutBlock
import Derived.Deep.RegionWith
import Derived.Shelf.RegionOpenPlain
import Derived.Test.YtnjokdbblmlhhaaGreatDoorG19bcZ
import Derived.Test.YtnjokdbblmlhhaaGreatDoorPlain20fZ
import Derived.Test.YtnjokdbblmlhhaaGreatDoorSame21Z
namespace Go.Proofs.YtnjokdbblmlhhaaGreatDoor
set_option linter.unusedVariables false
set_option linter.unusedSimpArgs false
namespace P20
def T1:T:=.mk 3 [] [[115,116,101,112,115],[115,97,103,97]] [.mk 2 [] [] [.mk 3 [] [[97,99,116,105,111,110],[110,97,109,101],[108,105,109,105,116]] [.mk 1 [100,111] [] [] 2,.mk 1 [97] [] [] 3,.mk 1 [53] [] [] 4] 2] 2,.mk 1 [120] [] [] 5] 1
theorem par_T1:PaR [115,116,101,112,115,58,10,32,32,45,32,97,99,116,105,111,110,58,32,100,111,10,32,32,32,32,110,97,109,101,58,32,97,10,32,32,32,32,108,105,109,105,116,58,32,53,10,115,97,103,97,58,32,120] (.ok T1):=by
 have h:P19.all [115,116,101,112,115,58,10,32,32,45,32,97,99,116,105,111,110,58,32,100,111,10,32,32,32,32,110,97,109,101,58,32,97,10,32,32,32,32,108,105,109,105,116,58,32,53,10,115,97,103,97,58,32,120]=([(4,[115,116,101,112,115],1,0),(1,[],2,2),(3,[],2,2),(1,[],2,4),(4,[97,99,116,105,111,110],2,4),(5,[100,111],2,12),(4,[110,97,109,101],3,4),(5,[97],3,10),(4,[108,105,109,105,116],4,4),(5,[53],4,11),(2,[],5,0),(2,[],5,0),(4,[115,97,103,97],5,0),(5,[120],5,6)],0,0):=by decide +kernel
 unfold PaR
 rw [h]
 simp only
 rw [if_neg (by decide),if_neg (by simp)]
 have k1:∀ last:Int,Ky last 6 4 [] [] [(4,[97,99,116,105,111,110],2,4),(5,[100,111],2,12),(4,[110,97,109,101],3,4),(5,[97],3,10),(4,[108,105,109,105,116],4,4),(5,[53],4,11),(2,[],5,0),(2,[],5,0),(4,[115,97,103,97],5,0),(5,[120],5,6)] (.ok ([[97,99,116,105,111,110],[110,97,109,101],[108,105,109,105,116]],[.mk 1 [100,111] [] [] 2,.mk 1 [97] [] [] 3,.mk 1 [53] [] [] 4]) [(2,[],5,0),(2,[],5,0),(4,[115,97,103,97],5,0),(5,[120],5,6)]):=fun last=>
  .inl (by decide) (by simp) (by simp [kindOf,hereL]) (.word (by omega)) (.inl (by decide) (by simp) (by simp [kindOf,hereL]) (.word (by omega)) (.inl (by decide) (by simp) (by simp [kindOf,hereL]) (.word (by omega)) (.done (by simp [kindOf]))))
 exact ⟨13,.ok (.keys (by omega) (.wi (by decide) (by simp) (by simp [kindOf]) (.ok (.seq (by omega) (.next (.ok (.keys (by omega) (k1 _))) (.done (by simp [kindOf]))))) (.inl (by decide) (by simp) (by simp [kindOf,hereL]) (.word (by omega)) (.done (by simp [kindOf])))))⟩
def T2:T:=.mk 3 [] [[115,97,103,97]] [.mk 1 [120] [] [] 1] 1
theorem par_T2:PaR [115,97,103,97,58,32,120] (.ok T2):=by
 have h:P19.all [115,97,103,97,58,32,120]=([(4,[115,97,103,97],1,0),(5,[120],1,6)],0,0):=by decide +kernel
 unfold PaR
 rw [h]
 simp only
 rw [if_neg (by decide),if_neg (by simp)]
 exact ⟨10,.ok (.keys (by omega) (.inl (by decide) (by simp) (by simp [kindOf,hereL]) (.word (by omega)) (.done (by simp [kindOf]))))⟩
def T3:T:=.mk 3 [] [[115,97,103,97],[115,116,101,112,115],[109,111,114,101]] [.mk 1 [120] [] [] 1,.mk 2 [] [] [] 2,.mk 1 [49] [] [] 3] 1
theorem par_T3:PaR [115,97,103,97,58,32,120,10,115,116,101,112,115,58,32,91,93,10,109,111,114,101,58,32,49] (.ok T3):=by
 have h:P19.all [115,97,103,97,58,32,120,10,115,116,101,112,115,58,32,91,93,10,109,111,114,101,58,32,49]=([(4,[115,97,103,97],1,0),(5,[120],1,6),(4,[115,116,101,112,115],2,0),(6,[],2,7),(4,[109,111,114,101],3,0),(5,[49],3,6)],0,0):=by decide +kernel
 unfold PaR
 rw [h]
 simp only
 rw [if_neg (by decide),if_neg (by simp)]
 exact ⟨10,.ok (.keys (by omega) (.inl (by decide) (by simp) (by simp [kindOf,hereL]) (.word (by omega)) (.inl (by decide) (by simp) (by simp [kindOf,hereL]) (.noseq (by omega)) (.inl (by decide) (by simp) (by simp [kindOf,hereL]) (.word (by omega)) (.done (by simp [kindOf]))))))⟩
theorem okT_T1:E6 T1:=by simp [T1,E6,Hn]
theorem okT_T2:E6 T2:=by simp [T2,E6,Hn]
theorem okT_T3:E6 T3:=by simp [T3,E6,Hn]
end P20
namespace P22
theorem of_T1:ofE P20.T1=.ok ⟨[120],[],[⟨[97],[100,111],[],[],⟨0,0,0⟩,5,.mk 0 [] [] [] 0⟩]⟩:=by rfl
theorem of_T2:ofE P20.T2=.error (5,1):=by rfl
theorem of_T3:ofE P20.T3=.error (18,3):=by rfl
theorem of_T4:ofE (.mk 2 [] [] [] 4)=.error (7,4):=by rfl
end P22
end Go.Proofs.YtnjokdbblmlhhaaGreatDoor
namespace Go.Proofs.YtnjokdbblmlhhaaGreatDoor
set_option linter.unusedVariables false
set_option linter.unusedSimpArgs false
open Go.RowKit
theorem U4 (w:World):Calls Tryz.prog 30 #[.string ⟨#[115,116,101,112,115,58,10,32,32,45,32,97,99,116,105,111,110,58,32,100,111,10,32,32,32,32,110,97,109,101,58,32,97,10,32,32,32,32,108,105,109,105,116,58,32,53,10,115,97,103,97,58,32,120]⟩] w fun e w'=>∃ (b o sc:Nat),e=.returned (.tuple #[.agg #[.string ⟨#[120]⟩,.string ⟨#[]⟩,.slice (some ⟨b,o,none⟩) 1 sc],.agg #[.int .i64 0,.int .i64 0]]) ∧
  Hid (w'.cell? ⟨b,o,none⟩=some (.string ⟨#[97]⟩)∧w'.cell? ⟨b,o+7,none⟩=some (.int .i64 5))∧Below w.heap.size w w':=by
 refine (Kc _ (.ok P20.T1) w (by decide) P20.par_T1 (fun d h=>by cases h;exact P20.okT_T1)).mono ?_
 rintro e w' ⟨hb,⟨nm,tx,sa,sc,ss⟩,ec,el,rfl,hin,_,hr⟩
 have h1:P22.defE (.ok P20.T1)=.ok ⟨[120],[],[⟨[97],[100,111],[],[],⟨0,0,0⟩,5,.mk 0 [] [] [] 0⟩]⟩:=P22.of_T1
 rw [h1] at hr
 rcases hr with ⟨hr,rfl,rfl⟩ | ⟨hr,_⟩
 ·unfold Ch.bare at hr
  injection hr with hr
  injection hr with e1 e2 e3
  simp only at e1 e2 e3
  subst e1 e2
  obtain ⟨s,rfl,hs⟩:∃ s,ss=[s]∧s.bare=⟨[97],[100,111],[],[],⟨0,0,0⟩,5,.mk 0 [] [] [] 0⟩:=by
   cases ss with
   | nil=>simp at e3
   | cons s r=>
    cases r with
    | nil=>simp only [List.map_cons,List.map_nil,List.cons.injEq,and_true] at e3;exact ⟨s,rfl,e3.symm⟩
    | cons t r=>simp at e3
  obtain ⟨b,o,hsa,hc,_⟩:=hin.steps.get (j:=0) rfl
  simp only at hsa
  subst hsa
  unfold Bc.bare at hs
  injection hs with f1 f2 f3 f4 f5 f6 f7
  refine ⟨b,o,sc,rfl,Ab ⟨?_,?_⟩,hb⟩
  ·have:=hc 0 _ rfl
   rw [f1] at this
   simpa using this
  ·have:=hc 7 _ rfl
   rw [f6] at this
   simpa using this
 ·cases hr
theorem Ts (s:ByteArray) (d:P20.T) (x:Int × Int) (w:World) (hs:s.size≤1048576) (hp:P20.PaR s.data.toList (.ok d)) (hk:E6 d) (hx:P22.ofE d=.error x):Calls Tryz.prog 30 #[.string s] w fun e w'=>e=.returned (.tuple #[.agg #[.string ⟨#[]⟩,.string ⟨#[]⟩,.slice none 0 0],.agg #[.int .i64 x.1,.int .i64 x.2]])∧Below w.heap.size w w':=by
 refine (Kc s (.ok d) w hs hp (fun d' h=>by cases h;exact hk)).mono ?_
 rintro e w' ⟨hb,dd,ec,el,rfl,hin,_,hr⟩
 have h1:P22.defE (.ok d)=.error x:=hx
 rw [h1] at hr
 rcases hr with ⟨hr,_⟩ | ⟨hr,_,rfl⟩
 ·cases hr
 ·injection hr with hr
  subst hr
  exact ⟨rfl,hb⟩
theorem Vf (w:World):Calls Tryz.prog 27 #[.agg #[.int .u8 2,.string ⟨#[]⟩,.slice none 0 0,.slice none 0 0,.int .i64 4]] w fun e w'=>e=.returned (.tuple #[.agg #[.string ⟨#[]⟩,.string ⟨#[]⟩,.slice none 0 0],.agg #[.int .i64 7,.int .i64 4]])∧Below w.heap.size w w':=by
 have hin:(Nd.mk 2 [] none 0 [] none 0 [] 4).In w:=by
  refine .mk ⟨by decide,by simp [Nd.text],by simp [Nd.keys],by simp [Nd.kids],by simp [Nd.keys,Nd.kc],by simp [Nd.kids,Nd.dc],by simp [Nd.keys],?_⟩ trivial
  intro i x hx
  simp [Nd.keys] at hx
 have h:=Jb 2 [] none 0 [] none 0 [] 4 w hin (by simp [Nd.bare,Am,E6,Hn])
 refine h.mono ?_
 rintro e w' ⟨hb,dd,ec,el,rfl,_,_,hr⟩
 have h1:P22.ofE (Nd.mk 2 [] none 0 [] none 0 [] 4).bare=.error (7,4):=P22.of_T4
 rw [h1] at hr
 rcases hr with ⟨hr,_⟩ | ⟨hr,_,rfl⟩
 ·cases hr
 ·injection hr with hr
  injection hr with e1 e2
  subst e1 e2
  exact ⟨rfl,hb⟩
theorem F1 {W:World} {g:Nat} {T:TypeId} {a b c:Value} (h:W.heap[g]?=some (.cells #[a,b,c] T)):(W.cell? ⟨g,0,none⟩=some a∧W.frozen? ⟨g,0,none⟩=false)∧(W.cell? ⟨g,1,none⟩=some b∧W.frozen? ⟨g,1,none⟩=false)∧(W.cell? ⟨g,2,none⟩=some c∧W.frozen? ⟨g,2,none⟩=false):=by
 simp [World.cell?,World.frozen?,h]
set_option maxRecDepth 100000 in
set_option maxHeartbeats 16000000 in
theorem Op (w:World):Calls Tryz.prog 26 #[] w fun e w'=>e=.returned (.bool true)∧Below w.heap.size w w':=by
 obtain ⟨H,hH⟩:∃ H,w.heap.size=H:=⟨_,rfl⟩
 have hA:=U4 w
 rw [hH] at hA
 have HA:=Ab hA
 clear hA
 go_enter Tryz.func26,Tryz.ntmps26
 go_upto_region 2 with (go_at_call 30;refine (Aa HA).mono ?_;rintro e w1 ⟨b,o,sc,rfl,HC,hb1⟩)
 obtain ⟨K1,hK1⟩:∃ K,w1.heap.size=K:=⟨_,rfl⟩
 obtain ⟨W1,hW1,hc1,p10,p11,hs1⟩:=A0 w1 (.cells #[.string ⟨#[120]⟩,.string ⟨#[]⟩,.slice (some ⟨b,o,none⟩) 1 sc] 50) (.cells #[.int .i64 0,.int .i64 0] 29) K1 hK1
 rw [hW1]
 rw [hK1]
 have hbK:b<K1:=by rw [← hK1];exact B3 (Aa HC).1
 have c0:=(Ag (hc1.block b hbK) _).trans (Aa HC).1
 have c7:=(Ag (hc1.block b hbK) _).trans (Aa HC).2
 have hf1:Below H w W1:=hb1.trans (hc1.mono (by have:=hb1.size;omega))
 have hz1:K1+1+1≤W1.heap.size:=by omega
 have HP10:=Ab p10
 have HP11:=Ab p11
 have HC0:=Ab c0
 have HC7:=Ab c7
 have HF1:=Ab hf1
 have HE2:=Ab (Ts ⟨#[115,97,103,97,58,32,120]⟩ P20.T2 (5,1) W1 (by decide) P20.par_T2 P20.okT_T2 P22.of_T2)
 clear hs1 hW1 hc1 p10 p11 c0 c7 hf1 hb1 HC
 go_upto_region 3 with (go_at_call 30;refine (Aa HE2).mono ?_;rintro e w2 ⟨rfl,hb2⟩)
 obtain ⟨K2,hK2⟩:∃ K,w2.heap.size=K:=⟨_,rfl⟩
 obtain ⟨W2,hW2,hc2,p20,p21,hs2⟩:=A0 w2 (.cells #[.string ⟨#[]⟩,.string ⟨#[]⟩,.slice none 0 0] 50) (.cells #[.int .i64 5,.int .i64 1] 29) K2 hK2
 rw [hW2]
 rw [hK2]
 have hz2':=hb2.size
 rw [hK2] at hz2'
 have hf2:Below W1.heap.size W1 W2:=hb2.trans (hc2.mono hz2')
 have hz2:K2+1+1≤W2.heap.size:=by omega
 have HP21:=Ab p21
 have HF2:=Ab hf2
 have HE3:=Ab (Ts ⟨#[115,97,103,97,58,32,120,10,115,116,101,112,115,58,32,91,93,10,109,111,114,101,58,32,49]⟩ P20.T3 (18,3) W2 (by decide) P20.par_T3 P20.okT_T3 P22.of_T3)
 clear hs2 hW2 hc2 p20 p21 hf2 hb2
 go_upto_region 4 with (go_at_call 30;refine (Aa HE3).mono ?_;rintro e w3 ⟨rfl,hb3⟩)
 obtain ⟨K3,hK3⟩:∃ K,w3.heap.size=K:=⟨_,rfl⟩
 obtain ⟨W3,hW3,hc3,p30,p31,hs3⟩:=A0 w3 (.cells #[.string ⟨#[]⟩,.string ⟨#[]⟩,.slice none 0 0] 50) (.cells #[.int .i64 18,.int .i64 3] 29) K3 hK3
 rw [hW3]
 rw [hK3]
 have hz3':=hb3.size
 rw [hK3] at hz3'
 have hf3:Below W2.heap.size W2 W3:=hb3.trans (hc3.mono hz3')
 have hz3:K3+1+1≤W3.heap.size:=by omega
 have HP31:=Ab p31
 have HF3:=Ab hf3
 have HE4:=Ab (Vf W3)
 clear hs3 hW3 hc3 p30 p31 hf3 hb3
 go_upto_region 5 with (go_at_call 27;refine (Aa HE4).mono ?_;rintro e w4 ⟨rfl,hb4⟩)
 obtain ⟨K4,hK4⟩:∃ K,w4.heap.size=K:=⟨_,rfl⟩
 obtain ⟨W4,hW4,hc4,p40,p41,hs4⟩:=A0 w4 (.cells #[.string ⟨#[]⟩,.string ⟨#[]⟩,.slice none 0 0] 50) (.cells #[.int .i64 7,.int .i64 4] 29) K4 hK4
 rw [hW4]
 rw [hK4]
 have hz4':=hb4.size
 rw [hK4] at hz4'
 have hf4:Below W3.heap.size W3 W4:=hb4.trans (hc4.mono hz4')
 have h32:Below W2.heap.size W2 W4:=(Aa HF3).trans (hf4.mono (Aa HF3).size)
 have h21:Below W1.heap.size W1 W4:=(Aa HF2).trans (h32.mono (Aa HF2).size)
 have q10:=F1 ((h21.block K1 (by omega)).trans (Aa HP10))
 have q11:=Af ((h21.block (K1+1) (by omega)).trans (Aa HP11))
 have q21:=Af ((h32.block (K2+1) (by omega)).trans (Aa HP21))
 have q31:=Af ((hf4.block (K3+1) (by omega)).trans (Aa HP31))
 have q41:=Af p41
 have c0:=(Ag (h21.block b (by omega)) _).trans (Aa HC0)
 have c7:=(Ag (h21.block b (by omega)) _).trans (Aa HC7)
 have HFF:=Ab (show Below w.heap.size w W4 by rw [hH];exact (Aa HF1).trans (h21.mono (by have:=(Aa HF1).size;rw [hH] at this;exact this)))
 clear hs4 hW4 hc4 p40 p41 hf4 hb4 h32 h21
 go_wp2
 go_ret
 exact ⟨rfl,Aa HFF⟩
theorem Tr {P:Nat→Prop} {r:Except P22.F P22.Def} {d1 d2:Ch} {e1 l1 e2 l2:Int} (h1:(r=.ok d1.bare∧e1=0∧l1=0)∨(r=.error (e1,l1)∧e1≠0∧d1=Ch.zero)) (h2:(r=.ok d2.bare∧e2=0∧l2=0)∨(r=.error (e2,l2)∧e2≠0∧d2=Ch.zero)):e1=e2∧l1=l2∧d1.bare=d2.bare:=by
 rcases h1 with ⟨a1,rfl,rfl⟩ | ⟨a1,a2,rfl⟩
 ·rcases h2 with ⟨b1,rfl,rfl⟩ | ⟨b1,_,_⟩
  ·rw [a1] at b1
   injection b1 with b1
   exact ⟨rfl,rfl,b1⟩
  ·rw [a1] at b1;cases b1
 ·rcases h2 with ⟨b1,_,_⟩ | ⟨b1,b2,rfl⟩
  ·rw [a1] at b1;cases b1
  ·rw [a1] at b1
   injection b1 with b1
   injection b1 with b1 b2
   exact ⟨b1,b2,rfl⟩
set_option maxRecDepth 100000 in
set_option maxHeartbeats 16000000 in
theorem L8 (d:Nd) (w:World) (hin:d.In w):Calls Tryz.prog 7 #[d.val] w fun e w'=>e=.returned (.bool true)∧Below w.heap.size w w':=by
 obtain ⟨k,t,ka,kc,ks,da,dc,ds,l⟩:=d
 obtain ⟨H,hH⟩:∃ H,w.heap.size=H:=⟨_,rfl⟩
 obtain ⟨W0,hW0⟩:∃ W0,w.alloc (.cells #[.int .u8 k,.string ⟨t.toArray⟩,.slice ka ks.length kc,.slice da ds.length dc,.int .i64 l] 26)=W0:=⟨_,rfl⟩
 have hb0:Below w.heap.size w W0:=by rw [← hW0];exact (Below.refl _ w).alloc (Nat.le_refl _) _
 have g0:W0.heap[H]?=some (.cells #[.int .u8 k,.string ⟨t.toArray⟩,.slice ka ks.length kc,.slice da ds.length dc,.int .i64 l] 26):=by rw [← hW0,← hH];exact World.alloc_heap_new _ _
 have hsm:=fun W hi=>Px (Nd.mk k t ka kc ks da dc ds l) W hi
 rw [Nd.val_eq] at hsm ⊢
 have x0:=Ad g0
 have hHl:H<W0.heap.size:=(Array.getElem?_eq_some_iff.1 g0).1
 have HW0:=Ab hW0
 have HB0:=Ab hb0
 have HG0:=Ab g0
 have HIN:=Ab hin
 have HSMA:=Ab hsm
 clear hW0 hb0 g0 hsm
 go_enter Tryz.func7,Tryz.ntmps7
 go_upto_region 1 with fail
 try rw [hH]
 rw [Aa HW0]
 go_upto_region 3 with (go_at_call 26;refine (Op _).mono ?_;rintro e w4 ⟨rfl,hb4⟩;have hz4:=hb4.size;have HB4:=Ab hb4;clear hb4)
 have y0:=((Aa HB4).block H hHl).trans (Aa HG0)
 have hin4:=((Aa HIN).below (Aa HB0)).below (Aa HB4)
 have hsm4:=Aa HSMA w4 hin4
 have x4:=Ad y0
 have HY0:=Ab y0
 have HIN4:=Ab hin4
 clear x0 y0 hin4 hin
 cases hq:((Nd.mk k t ka kc ks da dc ds l).bare.small 18 150).isSome with
 | false=>
  rw [hq] at hsm4
  have HS4:=Ab hsm4
  clear hsm4 hq
  go_wp2_with (go_at_call 13;refine (Aa HS4).mono ?_;rintro e w5 ⟨rfl,hb5⟩)
  go_ret
  exact ⟨rfl,(Aa HB0).trans (((Aa HB4).trans (hb5.mono hz4)).mono (by have:=(Aa HB0).size;omega))⟩
 | true=>
  obtain ⟨m,hm⟩:=Option.isSome_iff_exists.1 hq
  have hokT:E6 (Nd.mk k t ka kc ks da dc ds l).bare:=(P20.T.small_ok _ _ _ _ hm (by omega)).2.2.2.1
  have hokF:P20.okF (Nd.mk k t ka kc ks da dc ds l).bare:=(P20.T.small_okF _ _ _ _ hm (by omega)).1
  rw [hq] at hsm4
  have HS4:=Ab hsm4
  have HOT:=Ab hokT
  have HOF:=Ab hokF
  clear hsm4 hq hm hokT hokF
  go_upto_region 5 with (go_at_call 13;refine (Aa HS4).mono ?_;rintro e w5 ⟨rfl,hb5⟩;have hz5:=hb5.size;have HB5:=Ab hb5;clear hb5)
  have y5:=((Aa HB5).block H (by omega)).trans (Aa HY0)
  have hin5:=(Aa HIN4).below (Aa HB5)
  clear x4
  have x5:=Ad y5
  have HY5:=Ab y5
  have HPA1:=Ab (Jb k t ka kc ks da dc ds l w5 hin5 (Aa HOT))
  have HIN5:=Ab hin5
  clear y5 hin5
  go_upto_region 6 with (go_at_call 27;refine (Aa HPA1).mono ?_;rintro e1 w1 ⟨hb1,⟨nm1,tx1,sa1,sc1,ss1⟩,ec,el,rfl,hi1,_,hr1⟩;unfold Ch.val;have hz1:=hb1.size;have HB1:=Ab hb1;have HI1:=Ab hi1;have HR1:=Ab hr1;clear hb1 hi1 hr1)
  obtain ⟨K1,hK1⟩:∃ K,w1.heap.size=K:=⟨_,rfl⟩
  obtain ⟨W1,hW1,hc1,p10,p11,hs1⟩:=A0 w1 (.cells #[.string ⟨nm1.toArray⟩,.string ⟨tx1.toArray⟩,.slice sa1 ss1.length sc1] 50) (.cells #[.int .i64 ec,.int .i64 el] 29) K1 hK1
  rw [hW1]
  rw [hK1]
  rw [hK1] at hz1
  have hf1:Below w5.heap.size w5 W1:=(Aa HB1).trans (hc1.mono hz1)
  have hzz1:K1+1+1≤W1.heap.size:=by omega
  have HII1:=Ab ((Aa HI1).below (by rw [hK1];exact hc1))
  have HP10:=Ab p10
  have HP11:=Ab p11
  have HF1:=Ab hf1
  have HW1:=Ab hW1
  have y6:=((Aa HF1).block H (by omega)).trans (Aa HY5)
  clear x5
  have x6:=Ad y6
  clear y6
  have HPB1:=Ab (Q6 k t ka kc ks da dc ds l W1 ((Aa HIN5).below (Aa HF1)) (Aa HOF))
  clear hs1 hW1 hc1 p10 p11 hf1 HI1 HB1
  go_upto_region 7 with (go_at_call 28;refine (Aa HPB1).mono ?_;rintro e2 w2 ⟨hb2,⟨nm2,tx2,sa2,sc2,ss2⟩,ec2,el2,rfl,hi2,_,hr2⟩;unfold Ch.val;have hz2:=hb2.size;have HB2:=Ab hb2;have HI2:=Ab hi2;have HR2:=Ab hr2;clear hb2 hi2 hr2)
  obtain ⟨q1,q2,q3⟩:=Tr (P:=fun _=>True) (Aa HR1) (Aa HR2)
  subst q1 q2
  have HQ3:=Ab q3
  clear q3 HR1 HR2
  obtain ⟨K2,hK2⟩:∃ K,w2.heap.size=K:=⟨_,rfl⟩
  obtain ⟨W2,hW2,hc2,p20,p21,hs2⟩:=A0 w2 (.cells #[.string ⟨nm2.toArray⟩,.string ⟨tx2.toArray⟩,.slice sa2 ss2.length sc2] 50) (.cells #[.int .i64 ec,.int .i64 el] 29) K2 hK2
  rw [hW2]
  rw [hK2]
  rw [hK2] at hz2
  have hf2:Below W1.heap.size W1 W2:=(Aa HB2).trans (hc2.mono hz2)
  have hzz2:K2+1+1≤W2.heap.size:=by omega
  have u10:=F1 ((hf2.block K1 (by omega)).trans (Aa HP10))
  have u11:=Af ((hf2.block (K1+1) (by omega)).trans (Aa HP11))
  have u20:=F1 p20
  have u21:=Af p21
  have hsm:=Pw ⟨nm1,tx1,sa1,sc1,ss1⟩ ⟨nm2,tx2,sa2,sc2,ss2⟩ W2 ((Aa HII1).below hf2) ((Aa HI2).below (by rw [hK2];exact hc2)) (Aa HQ3)
  unfold Ch.val at hsm
  simp only at hsm
  have HSM:=Ab hsm
  have HF2:=Ab hf2
  clear hs2 hW2 hc2 p20 p21 hf2 hsm HI2 HB2 HII1 HP10 HP11
  go_wp2_with (go_at_call 29;refine (Aa HSM).mono ?_;rintro e3 w3 ⟨rfl,hb3⟩)
  go_ret
  have h0:=Aa HB0
  have h4:=Aa HB4
  have h5:=Aa HB5
  have h1:=Aa HF1
  have h2:=Aa HF2
  have s0:=h0.size
  have s1:=h1.size
  have s2:=h2.size
  exact ⟨rfl,(((((h0.trans (h4.mono s0)).trans (h5.mono (by omega))).trans (h1.mono (by omega))).trans (h2.mono (by omega))).trans (hb3.mono (by omega)))⟩
end Go.Proofs.YtnjokdbblmlhhaaGreatDoor
