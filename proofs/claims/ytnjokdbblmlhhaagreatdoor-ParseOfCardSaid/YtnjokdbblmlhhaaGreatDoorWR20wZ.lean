/- Lemmas of this claim. -/
import Derived.Test.YtnjokdbblmlhhaaGreatDoorGR20Z
import Derived.Test.YtnjokdbblmlhhaaGreatDoorWR20aZ
namespace Go.Proofs.YtnjokdbblmlhhaaGreatDoor
set_option linter.unusedVariables false
set_option linter.unusedSimpArgs false
open Go.RowKit
mutual
def Sk:P20.T→Prop
 | .mk k t ks ds l=>t.length≤1000000∧ks.length≤100000000∧(∀ x∈ks,x.length≤1000000)∧ds.length≤1000000000∧Tu ds
def Tu:List P20.T→Prop
 | []=>True
 | d :: ds=>Sk d∧Tu ds
end
theorem O1:∀ ds:List P20.T,Tu ds↔∀ d∈ds,Sk d
 | []=>by simp [Tu]
 | d :: ds=>by simp [Tu,O1 ds]
theorem Sk.kid {k:Nat} {t:List UInt8} {ks:List (List UInt8)} {ds:List P20.T} {l:Int} (h:Sk (.mk k t ks ds l)):t.length≤1000000∧ks.length≤100000000∧(∀ x∈ks,x.length≤1000000)∧ds.length≤1000000000∧∀ d∈ds,Sk d:=by
 unfold Sk at h
 exact ⟨h.1,h.2.1,h.2.2.1,h.2.2.2.1,(O1 _).1 h.2.2.2.2⟩
def Pr (d:Nd):Prop:=∀ (lv:Nat) (w:World),d.In w→Sk d.bare→lv≤1000→Calls Tryz.prog 46 #[d.val,.int .i64 lv] w fun e w'=>e=.returned (.int .i64 (d.bare.check lv))∧Below w.heap.size w w'
theorem H5 {lv:Nat} {ds:List Nd} {i:Nat} {d:Nd} (h:ds[i]?=some d):P20.checkL lv (Am (ds.drop i))=if d.bare.check lv≠0 then d.bare.check lv else P20.checkL lv (Am (ds.drop (i+1))):=by
 rw [Cg h]
 rfl
set_option maxRecDepth 100000 in
set_option maxHeartbeats 8000000 in
theorem Qj (k:Nat) (t:List UInt8) (ka:Option Addr) (kc:Nat) (ks:List (List UInt8)) (da:Option Addr) (dc:Nat) (ds:List Nd) (l:Int) (hds:∀ d∈ds,Pr d):Pr (.mk k t ka kc ks da dc ds l):=by
 intro lv w hin hok hlv
 obtain ⟨q1,q2,q3,q4,q5⟩:=Sk.kid hok
 rw [Bs] at q4
 have hf:=hin.fit
 have hcc:=hf.keysC
 have hkk:=hin.kids
 have hkf:=hf.keys
 simp only [Nd.keys,Nd.kc,Nd.da,Nd.kids,Nd.ka] at hcc hkk hkf
 obtain ⟨N,hN⟩:∃ N,ds.length=N:=⟨_,rfl⟩
 obtain ⟨M,hM⟩:∃ M,ks.length=M:=⟨_,rfl⟩
 obtain ⟨H,hH⟩:∃ H,w.heap.size=H:=⟨_,rfl⟩
 obtain ⟨W,hW⟩:∃ W,w.alloc (.cells #[.int .u8 k,.string ⟨t.toArray⟩,.slice ka M kc,.slice da N dc,.int .i64 l] 26)=W:=⟨_,rfl⟩
 have hbw:Below w.heap.size w W:=by rw [← hW];exact (Below.refl _ w).alloc (Nat.le_refl _) _
 have g0:W.heap[H]?=some (.cells #[.int .u8 k,.string ⟨t.toArray⟩,.slice ka M kc,.slice da N dc,.int .i64 l] 26):=by rw [← hW,← hH];exact World.alloc_heap_new _ _
 have hl0:H<W.heap.size:=(Array.getElem?_eq_some_iff.1 g0).1
 obtain ⟨⟨x0,_⟩,⟨x1,_⟩,⟨x2,_⟩,⟨x3,_⟩,⟨x4,_⟩⟩:=Ad g0
 have hkW:=Eu.below hkf hbw
 have hdW:=hkk.below hbw
 have hmx:Tryz.prog.follows .mixedOrders=true:=by kernel_rfl
 rw [Nd.val_eq,hN,hM]
 obtain ⟨C,hC⟩:∃ C,(Nd.mk k t ka kc ks da dc ds l).bare.check lv=C:=⟨_,rfl⟩
 rw [hC]
 simp only [Nd.bare,P20.T.check,P20.nodeE,Bs,hN,hM] at hC
 rw [hM] at hcc q2
 rw [hN] at q4
 have hd5:∀ d∈ds,Sk d.bare:=fun d hd=>q5 _ (by rw [Ci];exact List.mem_map_of_mem hd)
 have HW:=Ab hW
 have HB:=Ab hbw
 have HH:=Ab hH
 have HG0:=Ab g0
 have HKW:=Ab hkW
 have HDW:=Ab hdW
 have HDS:=Ab hds
 have HN:=Ab hN
 have HM:=Ab hM
 have HQ3:=Ab q3
 have HD5:=Ab hd5
 clear hin hok hf hkf hkk hN hM hH hW hbw g0 hkW hdW hds q3 q5 hd5
 by_cases hv:16<lv
 ·have j1:(16:Int)<(lv:Int):=by omega
  rw [if_pos hv,if_pos (by decide)] at hC
  subst hC
  clear hv x0 x1 x2 x3 x4
  go_enter Tryz.func46,Tryz.ntmps46
  go_upto_region 1 with fail
  try rw [Aa HH]
  rw [Aa HW]
  go_wp2
  go_ret
  exact ⟨rfl,Aa HB⟩
 have j1:(lv:Int)≤16:=by omega
 rw [if_neg hv] at hC
 by_cases hk:k<1∨3<k
 ·rw [if_pos hk,if_pos (by decide)] at hC
  subst hC
  by_cases h0:k<1
  ·have j2:(k:Int)<1:=by omega
   clear hk h0 hv
   go_enter Tryz.func46,Tryz.ntmps46
   go_upto_region 1 with fail
   try rw [Aa HH]
   rw [Aa HW]
   go_wp2
   go_ret
   exact ⟨rfl,Aa HB⟩
  ·have j2:(1:Int)≤(k:Int):=by omega
   have j3:(3:Int)<(k:Int):=by omega
   clear hk h0 hv
   go_enter Tryz.func46,Tryz.ntmps46
   go_upto_region 1 with fail
   try rw [Aa HH]
   rw [Aa HW]
   go_wp2
   go_ret
   exact ⟨rfl,Aa HB⟩
 rw [if_neg hk] at hC
 have hk1:(1:Int)≤(k:Int):=by omega
 have hk3:(k:Int)≤3:=by omega
 have hk4:k=1∨k=2∨k=3:=by omega
 rcases hk4 with h | h | h
 ·have j1e:((k:Int) == 1)=true:=by simp;omega
  have j1n:((k:Int) != 1)=false:=by simp;omega
  have j3e:((k:Int) == 3)=false:=by simp;omega
  have j3n:((k:Int) != 3)=true:=by simp;omega
  by_cases hd0:0<N
  ·have jd:(0:Int)<(N:Int):=by omega
   rw [if_pos (show P20.oddB k t M N=true by simp [P20.oddB,h];omega),if_pos (by decide)] at hC
   subst hC
   clear hv hk h
   go_enter Tryz.func46,Tryz.ntmps46
   go_upto_region 1 with fail
   try rw [Aa HH]
   rw [Aa HW]
   go_wp2
   go_ret
   exact ⟨rfl,Aa HB⟩
  ·have jd:(N:Int)≤0:=by omega
   by_cases hm0:0<M
   ·have jm:(0:Int)<(M:Int):=by omega
    rw [if_pos (show P20.oddB k t M N=true by simp [P20.oddB,h];omega),if_pos (by decide)] at hC
    subst hC
    clear hv hk h
    go_enter Tryz.func46,Tryz.ntmps46
    go_upto_region 1 with fail
    try rw [Aa HH]
    rw [Aa HW]
    go_wp2
    go_ret
    exact ⟨rfl,Aa HB⟩
   ·have jm:(M:Int)≤0:=by omega
    rw [if_neg (show ¬ P20.oddB k t M N=true by simp [P20.oddB,h];omega)] at hC
    have hlw:IntKind.i64.wrap ((lv:Int)+1)=(lv:Int)+1:=IntWalk.i64_in _ (by omega)
    have hck:=Dm ⟨t.toArray⟩ 4096 W (by rw [Lib.size_eq];show t.length≤1100000;omega)
    simp only [Vv] at hck
    by_cases hc0:P03.check t 4096=0
    rotate_left
    ·rw [if_pos hc0,if_pos hc0] at hC
     obtain ⟨e,he⟩:∃ e,P03.check t 4096=e:=⟨_,rfl⟩
     rw [he] at hC hc0 hck
     subst hC
     have jne:(e != 0)=true:=by simpa using hc0
     have HCK:=Ab hck
     clear hck hc0 he hv hk h
     go_enter Tryz.func46,Tryz.ntmps46
     go_upto_region 1 with fail
     try rw [Aa HH]
     rw [Aa HW]
     go_wp2_with (go_at_call 84;refine (Aa HCK).mono ?_;rintro e' w1 ⟨rfl,rfl⟩)
     go_ret
     exact ⟨rfl,Aa HB⟩
    rw [if_neg (show ¬ P03.check t 4096≠0 by simpa using hc0)] at hC
    rw [hc0] at hck
    have HCK:=Ab hck
    have HC:=Ab hC
    clear hck hc0 hv hk hC h
    go_enter Tryz.func46,Tryz.ntmps46
    go_upto_region 1 with fail
    try rw [Aa HH]
    rw [Aa HW]
    go_wp2_with (go_at_call 84;refine (Aa HCK).mono ?_;rintro e' w1 ⟨rfl,hw1⟩;rw [hw1];clear hw1)
    go_loopg [6] M (fun g s6 wx=>∃ i:Nat,i+g=M∧s6=.int .i64 i∧Hid ((if P20.keysE (ks.take i) (ks.drop i)≠0 then P20.keysE (ks.take i) (ks.drop i) else P20.checkL (lv+1) (Am ds))=C)∧Hid (Below W.heap.size W wx))
    case atStart=>exact ⟨0,by omega,by go_num,HC,Ab (Below.refl _ _)⟩
    case round=>
     obtain ⟨i,hig,rfl,HD,HBX⟩:=hrel
     clear x0 x1 x2 x3 x4
     obtain ⟨⟨x0,_⟩,⟨x1,_⟩,⟨x2,_⟩,⟨x3,_⟩,⟨x4,_⟩⟩:=Ad (((Aa HBX).block H hl0).trans (Aa HG0))
     cases gk with
     | succ g'=>
      exact absurd hig (by omega)
     | zero=>
      have e1:(M:Int)=(i:Int):=by omega
      have hD:=Aa HD
      rw [List.drop_of_length_le (by rw [Aa HM];omega)] at hD
      simp only [P20.keysE] at hD
      have hD:P20.checkL (lv+1) (Am ds)=C:=hD
      have HD2:=Ab hD
      clear hD HD HC
      go_wp2
      clear x0 x1 x2 x3 x4 e1
      have HBW:=HBX
      go_loopg [8] N (fun g s8 wx=>∃ i:Nat,i+g=N∧s8=.int .i64 i∧Hid (P20.checkL (lv+1) (Am (ds.drop i))=C)∧Hid (Below W.heap.size W wx))
      case atStart=>exact ⟨0,by omega,by go_num,HD2,HBW⟩
      case round=>
       obtain ⟨i2,hig2,rfl,HS,HBX⟩:=hrel
       have hbx:=Aa HBX
       obtain ⟨⟨x0,_⟩,⟨x1,_⟩,⟨x2,_⟩,⟨x3,_⟩,⟨x4,_⟩⟩:=Ad ((hbx.block H hl0).trans (Aa HG0))
       have hbw:Below w.heap.size w wr:=(Aa HB).trans (hbx.mono (Aa HB).size)
       have HBR:=Ab hbw
       clear hbx hbw
       cases gk with
       | zero=>
        have e1:(N:Int)=(i2:Int):=by omega
        have hS:=Aa HS
        rw [List.drop_of_length_le (by rw [Aa HN];omega)] at hS
        simp only [Am,P20.checkL] at hS
        subst hS
        go_wp2
        go_ret
        exact ⟨rfl,Aa HBR⟩
       | succ g'=>
        exact absurd hig2 (by omega)
 ·have j1e:((k:Int) == 1)=false:=by simp;omega
  have j1n:((k:Int) != 1)=true:=by simp;omega
  have j3e:((k:Int) == 3)=false:=by simp;omega
  have j3n:((k:Int) != 3)=true:=by simp;omega
  cases hte:t.isEmpty
  ·have jt:(⟨t.toArray⟩:ByteArray).toList.isEmpty=false:=(Ck t).trans hte
   rw [if_pos (show P20.oddB k t M N=true by simp [P20.oddB,h,hte]),if_pos (by decide)] at hC
   subst hC
   clear hv hk h
   go_enter Tryz.func46,Tryz.ntmps46
   go_upto_region 1 with fail
   try rw [Aa HH]
   rw [Aa HW]
   go_wp2
   go_ret
   exact ⟨rfl,Aa HB⟩
  ·have jt:(⟨t.toArray⟩:ByteArray).toList.isEmpty=true:=(Ck t).trans hte
   by_cases hm0:0<M
   ·have jm:(0:Int)<(M:Int):=by omega
    rw [if_pos (show P20.oddB k t M N=true by simp [P20.oddB,h];omega),if_pos (by decide)] at hC
    subst hC
    clear hv hk h
    go_enter Tryz.func46,Tryz.ntmps46
    go_upto_region 1 with fail
    try rw [Aa HH]
    rw [Aa HW]
    go_wp2
    go_ret
    exact ⟨rfl,Aa HB⟩
   ·have jm:(M:Int)≤0:=by omega
    rw [if_neg (show ¬ P20.oddB k t M N=true by simp [P20.oddB,h,hte];omega)] at hC
    have hlw:IntKind.i64.wrap ((lv:Int)+1)=(lv:Int)+1:=IntWalk.i64_in _ (by omega)
    have hck:=Dm ⟨t.toArray⟩ 4096 W (by rw [Lib.size_eq];show t.length≤1100000;omega)
    simp only [Vv] at hck
    by_cases hc0:P03.check t 4096=0
    rotate_left
    ·rw [if_pos hc0,if_pos hc0] at hC
     obtain ⟨e,he⟩:∃ e,P03.check t 4096=e:=⟨_,rfl⟩
     rw [he] at hC hc0 hck
     subst hC
     have jne:(e != 0)=true:=by simpa using hc0
     have HCK:=Ab hck
     clear hck hc0 he hv hk h
     go_enter Tryz.func46,Tryz.ntmps46
     go_upto_region 1 with fail
     try rw [Aa HH]
     rw [Aa HW]
     go_wp2_with (go_at_call 84;refine (Aa HCK).mono ?_;rintro e' w1 ⟨rfl,rfl⟩)
     go_ret
     exact ⟨rfl,Aa HB⟩
    rw [if_neg (show ¬ P03.check t 4096≠0 by simpa using hc0)] at hC
    rw [hc0] at hck
    have HCK:=Ab hck
    have HC:=Ab hC
    clear hck hc0 hv hk hC h
    go_enter Tryz.func46,Tryz.ntmps46
    go_upto_region 1 with fail
    try rw [Aa HH]
    rw [Aa HW]
    go_wp2_with (go_at_call 84;refine (Aa HCK).mono ?_;rintro e' w1 ⟨rfl,hw1⟩;rw [hw1];clear hw1)
    go_loopg [6] M (fun g s6 wx=>∃ i:Nat,i+g=M∧s6=.int .i64 i∧Hid ((if P20.keysE (ks.take i) (ks.drop i)≠0 then P20.keysE (ks.take i) (ks.drop i) else P20.checkL (lv+1) (Am ds))=C)∧Hid (Below W.heap.size W wx))
    case atStart=>exact ⟨0,by omega,by go_num,HC,Ab (Below.refl _ _)⟩
    case round=>
     obtain ⟨i,hig,rfl,HD,HBX⟩:=hrel
     clear x0 x1 x2 x3 x4
     obtain ⟨⟨x0,_⟩,⟨x1,_⟩,⟨x2,_⟩,⟨x3,_⟩,⟨x4,_⟩⟩:=Ad (((Aa HBX).block H hl0).trans (Aa HG0))
     cases gk with
     | succ g'=>
      exact absurd hig (by omega)
     | zero=>
      have e1:(M:Int)=(i:Int):=by omega
      have hD:=Aa HD
      rw [List.drop_of_length_le (by rw [Aa HM];omega)] at hD
      simp only [P20.keysE] at hD
      have hD:P20.checkL (lv+1) (Am ds)=C:=hD
      have HD2:=Ab hD
      clear hD HD HC
      go_wp2
      clear x0 x1 x2 x3 x4 e1
      have HBW:=HBX
      go_loopg [8] N (fun g s8 wx=>∃ i:Nat,i+g=N∧s8=.int .i64 i∧Hid (P20.checkL (lv+1) (Am (ds.drop i))=C)∧Hid (Below W.heap.size W wx))
      case atStart=>exact ⟨0,by omega,by go_num,HD2,HBW⟩
      case round=>
       obtain ⟨i2,hig2,rfl,HS,HBX⟩:=hrel
       have hbx:=Aa HBX
       obtain ⟨⟨x0,_⟩,⟨x1,_⟩,⟨x2,_⟩,⟨x3,_⟩,⟨x4,_⟩⟩:=Ad ((hbx.block H hl0).trans (Aa HG0))
       have hbw:Below w.heap.size w wr:=(Aa HB).trans (hbx.mono (Aa HB).size)
       have HBR:=Ab hbw
       clear hbx hbw
       cases gk with
       | zero=>
        have e1:(N:Int)=(i2:Int):=by omega
        have hS:=Aa HS
        rw [List.drop_of_length_le (by rw [Aa HN];omega)] at hS
        simp only [Am,P20.checkL] at hS
        subst hS
        go_wp2
        go_ret
        exact ⟨rfl,Aa HBR⟩
       | succ g'=>
        have hlt:(i2:Int)<(N:Int):=by omega
        have hki:IntKind.i64.wrap ((i2:Int)+1)=(i2:Int)+1:=IntWalk.i64_in _ (by omega)
        obtain ⟨d,hg1⟩:=V3 (Aa HN) (show i2<N by omega)
        have hS:=Aa HS
        rw [H5 hg1] at hS
        have hmem:=List.mem_of_getElem? hg1
        have hcl0:=Aa HDS d hmem
        have hsm:=Aa HD5 d hmem
        obtain ⟨b2,o2,k1,t1,ka1,kc1,ks1,da1,dc1,ds1,l1,rfl,rfl,y0,y1,y2,y3,y4,hin⟩:=Ce ((Aa HDW).below (Aa HBX)) hg1
        have hcl:=hcl0 (lv+1) wr hin hsm (by omega)
        rw [show (((lv+1:Nat)):Int)=(lv:Int)+1 from by omega,Nd.val_eq] at hcl
        obtain ⟨e,he⟩:∃ e,(Nd.mk k1 t1 ka1 kc1 ks1 da1 dc1 ds1 l1).bare.check (lv+1)=e:=⟨_,rfl⟩
        rw [he] at hcl hS
        have HCL:=Ab hcl
        clear hcl0 hcl he hin hg1 hmem hsm HS
        by_cases h0:e=0
        ·subst h0
         rw [if_neg (by simp)] at hS
         have HS:=Ab hS
         clear hS
         go_wp2_with (go_at_call 46;refine (Aa HCL).mono ?_;rintro x' w2 ⟨rfl,hb2⟩)
         go_roundg g'
         case measure=>omega
         case rel=>exact ⟨i2+1,by omega,by go_num,HS,Ab ((Aa HBX).trans (hb2.mono (Aa HBX).size))⟩
        ·rw [if_pos h0] at hS
         subst hS
         have jne:(e != 0)=true:=by simpa using h0
         clear h0
         go_wp2_with (go_at_call 46;refine (Aa HCL).mono ?_;rintro x' w2 ⟨rfl,hb2⟩)
         go_ret
         exact ⟨rfl,(Aa HBR).trans (hb2.mono (Aa HBR).size)⟩
 ·have j1e:((k:Int) == 1)=false:=by simp;omega
  have j1n:((k:Int) != 1)=true:=by simp;omega
  have j3e:((k:Int) == 3)=true:=by simp;omega
  have j3n:((k:Int) != 3)=false:=by simp;omega
  cases hte:t.isEmpty
  ·have jt:(⟨t.toArray⟩:ByteArray).toList.isEmpty=false:=(Ck t).trans hte
   rw [if_pos (show P20.oddB k t M N=true by simp [P20.oddB,h,hte]),if_pos (by decide)] at hC
   subst hC
   clear hv hk h
   go_enter Tryz.func46,Tryz.ntmps46
   go_upto_region 1 with fail
   try rw [Aa HH]
   rw [Aa HW]
   go_wp2
   go_ret
   exact ⟨rfl,Aa HB⟩
  ·have jt:(⟨t.toArray⟩:ByteArray).toList.isEmpty=true:=(Ck t).trans hte
   by_cases hm0:M=N
   rotate_left
   ·have jm:((M:Int) != (N:Int))=true:=by simp;omega
    rw [if_pos (show P20.oddB k t M N=true by simp [P20.oddB,h];exact .inr hm0),if_pos (by decide)] at hC
    subst hC
    clear hv hk h
    go_enter Tryz.func46,Tryz.ntmps46
    go_upto_region 1 with fail
    try rw [Aa HH]
    rw [Aa HW]
    go_wp2
    go_ret
    exact ⟨rfl,Aa HB⟩
   ·have jm:((M:Int) != (N:Int))=false:=by simp;omega
    rw [if_neg (show ¬ P20.oddB k t M N=true by simp [P20.oddB,h,hte,hm0])] at hC
    clear hm0
    have hlw:IntKind.i64.wrap ((lv:Int)+1)=(lv:Int)+1:=IntWalk.i64_in _ (by omega)
    have hck:=Dm ⟨t.toArray⟩ 4096 W (by rw [Lib.size_eq];show t.length≤1100000;omega)
    simp only [Vv] at hck
    by_cases hc0:P03.check t 4096=0
    rotate_left
    ·rw [if_pos hc0,if_pos hc0] at hC
     obtain ⟨e,he⟩:∃ e,P03.check t 4096=e:=⟨_,rfl⟩
     rw [he] at hC hc0 hck
     subst hC
     have jne:(e != 0)=true:=by simpa using hc0
     have HCK:=Ab hck
     clear hck hc0 he hv hk h
     go_enter Tryz.func46,Tryz.ntmps46
     go_upto_region 1 with fail
     try rw [Aa HH]
     rw [Aa HW]
     go_wp2_with (go_at_call 84;refine (Aa HCK).mono ?_;rintro e' w1 ⟨rfl,rfl⟩)
     go_ret
     exact ⟨rfl,Aa HB⟩
    rw [if_neg (show ¬ P03.check t 4096≠0 by simpa using hc0)] at hC
    rw [hc0] at hck
    have HCK:=Ab hck
    have HC:=Ab hC
    clear hck hc0 hv hk hC h
    go_enter Tryz.func46,Tryz.ntmps46
    go_upto_region 1 with fail
    try rw [Aa HH]
    rw [Aa HW]
    go_wp2_with (go_at_call 84;refine (Aa HCK).mono ?_;rintro e' w1 ⟨rfl,hw1⟩;rw [hw1];clear hw1)
    go_loopg [6] M (fun g s6 wx=>∃ i:Nat,i+g=M∧s6=.int .i64 i∧Hid ((if P20.keysE (ks.take i) (ks.drop i)≠0 then P20.keysE (ks.take i) (ks.drop i) else P20.checkL (lv+1) (Am ds))=C)∧Hid (Below W.heap.size W wx))
    case atStart=>exact ⟨0,by omega,by go_num,HC,Ab (Below.refl _ _)⟩
    case round=>
     obtain ⟨i,hig,rfl,HD,HBX⟩:=hrel
     clear x0 x1 x2 x3 x4
     obtain ⟨⟨x0,_⟩,⟨x1,_⟩,⟨x2,_⟩,⟨x3,_⟩,⟨x4,_⟩⟩:=Ad (((Aa HBX).block H hl0).trans (Aa HG0))
     cases gk with
     | succ g'=>
      have hlt:(i:Int)<(M:Int):=by omega
      have hic:(i:Int)≤(kc:Int):=by omega
      have hc00:kc≠0:=by omega
      have hki:IntKind.i64.wrap ((i:Int)+1)=(i:Int)+1:=IntWalk.i64_in _ (by omega)
      obtain ⟨x,hgx⟩:=V3 (Aa HM) (show i<M by omega)
      have hxl:=Aa HQ3 x (List.mem_of_getElem? hgx)
      have hd:ks.drop i=x :: ks.drop (i+1):=by
       obtain ⟨hl2,rfl⟩:=List.getElem?_eq_some_iff.1 hgx
       exact List.drop_eq_getElem_cons hl2
      have ht:ks.take (i+1)=ks.take i ++ [x]:=by rw [List.take_add_one,hgx];rfl
      have hD:=Aa HD
      rw [hd,P20.keysE] at hD
      obtain ⟨b,o,rfl,hc⟩:=Eu.below (Aa HKW) (Aa HBX) i x hgx
      have hck:=fun V=>Dm ⟨x.toArray⟩ 64 V (by rw [Lib.size_eq];show x.length≤1100000;omega)
      have hil:(ks.take i).length=i:=by rw [List.length_take,Aa HM];omega
      have hcn:=Rt (some ⟨b,o,none⟩) kc (ks.take i) x wr.drew (fun j y hy=>by
       rw [List.getElem?_take] at hy
       split at hy
       ·exact Eu.below (Aa HKW) (Aa HBX) j y hy
       ·cases hy) (by rw [hil];omega)
      rw [hil] at hcn
      simp only [Vv] at hck
      rw [← ht] at hD
      have HCN:=Ab hcn
      clear hcn hd ht hgx hxl hil HD
      by_cases hc0:P03.check x 64=0
      ·rw [if_neg (show ¬ P03.check x 64≠0 by simpa using hc0)] at hD
       rw [hc0] at hck
       have HCK2:=Ab hck
       clear hck
       by_cases hm:x∈ks.take i
       ·rw [if_pos hm,if_pos (by decide)] at hD
        subst hD
        have HM2:=Ab hm
        clear hm hc0
        go_wp2_with (go_at_call 84;refine (Aa HCK2 _).mono ?_;rintro e w2 ⟨rfl,rfl⟩)
        go_region_with_o (go_at_call 75;refine (Aa HCN).mono ?_;rintro e w3 ⟨rfl,rfl⟩;rw [decide_eq_true (Aa HM2)])
        all_goals go_wp2
        all_goals go_ret
        all_goals exact ⟨rfl,Cm (n:=1) ((Aa HB).trans ((Aa HBX).mono (Aa HB).size))⟩
       ·rw [if_neg hm] at hD
        have HDD:=Ab hD
        have HM2:=Ab hm
        clear hD hm hc0
        go_wp2_with (go_at_call 84;refine (Aa HCK2 _).mono ?_;rintro e w2 ⟨rfl,rfl⟩)
        go_region_with_o (go_at_call 75;refine (Aa HCN).mono ?_;rintro e w3 ⟨rfl,rfl⟩;rw [decide_eq_false (Aa HM2)])
        all_goals go_wp2
        all_goals go_roundg g'
        all_goals first
         | (case measure=>omega)
         | skip
        all_goals exact ⟨i+1,by omega,by go_num,HDD,Ab (Cm (n:=1) (Aa HBX))⟩
      ·rw [if_pos hc0,if_pos hc0] at hD
       obtain ⟨e,he⟩:∃ e,P03.check x 64=e:=⟨_,rfl⟩
       rw [he] at hD hc0 hck
       have jne:(e != 0)=true:=by simpa using hc0
       subst hD
       have HCK2:=Ab hck
       clear hck hc0 he
       go_wp2_with (go_at_call 84;refine (Aa HCK2 _).mono ?_;rintro e' w2 ⟨rfl,rfl⟩)
       go_ret
       exact ⟨rfl,(Aa HB).trans ((Aa HBX).mono (Aa HB).size)⟩
     | zero=>
      have e1:(M:Int)=(i:Int):=by omega
      have hD:=Aa HD
      rw [List.drop_of_length_le (by rw [Aa HM];omega)] at hD
      simp only [P20.keysE] at hD
      have hD:P20.checkL (lv+1) (Am ds)=C:=hD
      have HD2:=Ab hD
      clear hD HD HC
      go_wp2
      clear x0 x1 x2 x3 x4 e1
      have HBW:=HBX
      go_loopg [8] N (fun g s8 wx=>∃ i:Nat,i+g=N∧s8=.int .i64 i∧Hid (P20.checkL (lv+1) (Am (ds.drop i))=C)∧Hid (Below W.heap.size W wx))
      case atStart=>exact ⟨0,by omega,by go_num,HD2,HBW⟩
      case round=>
       obtain ⟨i2,hig2,rfl,HS,HBX⟩:=hrel
       have hbx:=Aa HBX
       obtain ⟨⟨x0,_⟩,⟨x1,_⟩,⟨x2,_⟩,⟨x3,_⟩,⟨x4,_⟩⟩:=Ad ((hbx.block H hl0).trans (Aa HG0))
       have hbw:Below w.heap.size w wr:=(Aa HB).trans (hbx.mono (Aa HB).size)
       have HBR:=Ab hbw
       clear hbx hbw
       cases gk with
       | zero=>
        have e1:(N:Int)=(i2:Int):=by omega
        have hS:=Aa HS
        rw [List.drop_of_length_le (by rw [Aa HN];omega)] at hS
        simp only [Am,P20.checkL] at hS
        subst hS
        go_wp2
        go_ret
        exact ⟨rfl,Aa HBR⟩
       | succ g'=>
        have hlt:(i2:Int)<(N:Int):=by omega
        have hki:IntKind.i64.wrap ((i2:Int)+1)=(i2:Int)+1:=IntWalk.i64_in _ (by omega)
        obtain ⟨d,hg1⟩:=V3 (Aa HN) (show i2<N by omega)
        have hS:=Aa HS
        rw [H5 hg1] at hS
        have hmem:=List.mem_of_getElem? hg1
        have hcl0:=Aa HDS d hmem
        have hsm:=Aa HD5 d hmem
        obtain ⟨b2,o2,k1,t1,ka1,kc1,ks1,da1,dc1,ds1,l1,rfl,rfl,y0,y1,y2,y3,y4,hin⟩:=Ce ((Aa HDW).below (Aa HBX)) hg1
        have hcl:=hcl0 (lv+1) wr hin hsm (by omega)
        rw [show (((lv+1:Nat)):Int)=(lv:Int)+1 from by omega,Nd.val_eq] at hcl
        obtain ⟨e,he⟩:∃ e,(Nd.mk k1 t1 ka1 kc1 ks1 da1 dc1 ds1 l1).bare.check (lv+1)=e:=⟨_,rfl⟩
        rw [he] at hcl hS
        have HCL:=Ab hcl
        clear hcl0 hcl he hin hg1 hmem hsm HS
        by_cases h0:e=0
        ·subst h0
         rw [if_neg (by simp)] at hS
         have HS:=Ab hS
         clear hS
         go_wp2_with (go_at_call 46;refine (Aa HCL).mono ?_;rintro x' w2 ⟨rfl,hb2⟩)
         go_roundg g'
         case measure=>omega
         case rel=>exact ⟨i2+1,by omega,by go_num,HS,Ab ((Aa HBX).trans (hb2.mono (Aa HBX).size))⟩
        ·rw [if_pos h0] at hS
         subst hS
         have jne:(e != 0)=true:=by simpa using h0
         clear h0
         go_wp2_with (go_at_call 46;refine (Aa HCL).mono ?_;rintro x' w2 ⟨rfl,hb2⟩)
         go_ret
         exact ⟨rfl,(Aa HBR).trans (hb2.mono (Aa HBR).size)⟩
theorem So (d:Nd):Pr d:=Nd.ind (p:=Pr) Qj d
set_option maxRecDepth 100000 in
theorem L7 (d:Nd) (w:World) (hin:d.In w) (hs:Sk d.bare):Calls Tryz.prog 17 #[d.val] w fun e w'=>e=.returned (.int .i64 (d.bare.check 1))∧Below w.heap.size w w':=by
 obtain ⟨k,t,ka,kc,ks,da,dc,ds,l⟩:=d
 obtain ⟨H,hH⟩:∃ H,w.heap.size=H:=⟨_,rfl⟩
 obtain ⟨W,hW⟩:∃ W,w.alloc (.cells #[.int .u8 k,.string ⟨t.toArray⟩,.slice ka ks.length kc,.slice da ds.length dc,.int .i64 l] 26)=W:=⟨_,rfl⟩
 have hbw:Below w.heap.size w W:=by rw [← hW];exact (Below.refl _ w).alloc (Nat.le_refl _) _
 have g0:W.heap[H]?=some (.cells #[.int .u8 k,.string ⟨t.toArray⟩,.slice ka ks.length kc,.slice da ds.length dc,.int .i64 l] 26):=by rw [← hW,← hH];exact World.alloc_heap_new _ _
 obtain ⟨⟨x0,_⟩,⟨x1,_⟩,⟨x2,_⟩,⟨x3,_⟩,⟨x4,_⟩⟩:=Ad g0
 have hc:=So (.mk k t ka kc ks da dc ds l) 1 W (hin.below hbw) hs (by omega)
 rw [Nd.val_eq] at hc
 have HC:=Ab hc
 have HW:=Ab hW
 have HB:=Ab hbw
 have HH:=Ab hH
 rw [Nd.val_eq]
 clear hc hW hbw g0 hin hH
 go_enter Tryz.func17,Tryz.ntmps17
 go_upto_region 1 with fail
 try rw [Aa HH]
 rw [Aa HW]
 go_wp2_with (go_at_call 46;refine (Aa HC).mono ?_;rintro x w' ⟨rfl,hg⟩)
 go_ret
 exact ⟨rfl,(Aa HB).trans (hg.mono (Aa HB).size)⟩
end Go.Proofs.YtnjokdbblmlhhaaGreatDoor
