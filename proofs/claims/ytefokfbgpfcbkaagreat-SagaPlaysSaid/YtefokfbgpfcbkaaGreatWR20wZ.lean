import Derived.Test.YtefokfbgpfcbkaaGreatShelfDZ
import Derived.Test.YtefokfbgpfcbkaaGreatWR20aZ
set_option maxRecDepth 100000
set_option maxHeartbeats 8000000
set_option linter.unusedVariables false
set_option linter.unusedSimpArgs false
namespace Go.Proofs.YtefokfbgpfcbkaaGreat
open Go.RowKit
def Sm(d:P20.T):Prop:=∃q n m,d.small q n=some m∧n≤100000000∧q≤1000
theorem Sm.kid{k:Nat}{t:List UInt8}{ks:List (List UInt8)}{ds:List P20.T}{l:Int}(h:Sm (.mk k t ks ds l)):t.length≤5000∧ks.length≤200∧(∀x∈ks,x.length≤200)∧ds.length≤1000000000∧∀d∈ds,Sm d:=by
 obtain⟨q,n,m,hs,hn,hq⟩:=h;unfold P20.T.small at hs;split at hs
 ·cases hs
 ·rename_i h0
  simp only[not_or]at h0;obtain⟨h1,h2,h3,h4,I⟩:=h0
  have hk:∀(es:List P20.T) (q n m:Nat),P20.smallL q es n=some m→n≤100000000→q≤1000→∀d∈es,Sm d:=by
   intro es
   induction es with
   |nil=>intro q n m h hn hq d hd;simp at hd
   |cons e es ih=>
    intro q n m h hn hq d hd;unfold P20.smallL at h;split at h
    ·cases h
    ·rename_i m1 hm1
     rcases zW.1 hd with rfl|hd
     ·exact⟨_,_,_,hm1,hn,hq⟩
     ·exact ih q m1 m h (by have:=P20.T.small_ok _ _ _ _ hm1 (by omega);omega) hq d hd
  exact⟨by omega,by omega,P20.short_all I,by have:=P20.smallL_ok _ _ _ _ hs (by omega);omega,hk ds _ _ _ hs (by omega) (by omega)⟩
mutual
def Sk:P20.T→Prop
 | .mk k t ks ds l=>t.length≤1000000∧ks.length≤100000000∧(∀x∈ks,x.length≤1000000)∧ds.length≤1000000000∧Sks ds
def Sks:List P20.T→Prop
 | []=>True
 |d::ds=>Sk d∧Sks ds
end
theorem O5:∀ds:List P20.T,Sks ds↔∀d∈ds,Sk d
 | []=>by simp[Sks]
 |d::ds=>by simp[Sks,O5 ds]
theorem Sk.kid{k:Nat}{t:List UInt8}{ks:List (List UInt8)}{ds:List P20.T}{l:Int}(h:Sk (.mk k t ks ds l)):t.length≤1000000∧ks.length≤100000000∧(∀x∈ks,x.length≤1000000)∧ds.length≤1000000000∧∀d∈ds,Sk d:=by
 unfold Sk at h;exact⟨h.1,h.2.1,h.2.2.1,h.2.2.2.1,(O5 _).1 h.2.2.2.2⟩
theorem Sm.sk(d:P20.T)(h:Sm d):Sk d:=by
 have hm:∀n:Nat,∀d:P20.T,SizeOf.sizeOf d≤n→Sm d→Sk d:=by
  intro n
  induction n with
  |zero=>intro d hd;cases d;simp at hd
  |succ n ih=>
   intro d hd h;obtain⟨k,t,ks,ds,l⟩:=d;obtain⟨q1,q2,J,Z,q5⟩:=Sm.kid h;unfold Sk;refine⟨by omega,by omega,fun x hx=>by have:=J x hx;omega,Z,(O5 _).2 (fun e I=>ih e ?_ (q5 e I))⟩;have:=List.sizeOf_lt_of_mem I;simp only[P20.T.mk.sizeOf_spec]at hd;omega
 exact hm _ d (qJ _) h
def T8(d:Nd):Prop:=∀(lv:Nat) (w:World),d.In w→Sk d.bare→lv≤1000→Calls Tryz.prog 191 #[d.val,.int .i64 lv] w fun e w'=>e=.returned (.int .i64 (d.bare.check lv))∧Below w.heap.size w w'
theorem Pr{lv:Nat}{ds:List Nd}{i:Nat}{d:Nd}(h:ds[i]?=some d):P20.checkL lv (Ay (ds.drop i))=if d.bare.check lv≠0 then d.bare.check lv else P20.checkL lv (Ay (ds.drop (i+1))):=by
 rw[Ev h];rfl
theorem Wc(k:Nat)(t:List UInt8)(ka:Option Addr)(kc:Nat)(ks:List (List UInt8))(da:Option Addr)(dc:Nat)(ds:List Nd)(l:Int)(aX:∀d∈ds,T8 d):T8 (.mk k t ka kc ks da dc ds l):=by
 intro lv w aD bE cT;obtain⟨q1,q2,q3,q4,q5⟩:=Sk.kid bE;rw[Cp]at q4;have hf:=aD.fit;have bG:=hf.keysC;have aS:=aD.kids;have aN:=hf.keys;simp only[Nd.keys,Nd.kc,Nd.da,Nd.kids,Nd.ka]at bG aS aN;obtain⟨N,hN⟩:=qeX ds.length;obtain⟨M,hM⟩:=qeX ks.length;obtain⟨H,hH⟩:=qeX w.heap.size;obtain⟨W,hW⟩:=qeX (w.alloc (.cells #[.int .u8 k,.string ⟨t.toArray⟩,.slice ka M kc,.slice da N dc,.int .i64 l] 61));have aB:Below w.heap.size w W:=by rw[←hW];exact(qU _ w).alloc (qJ _) _
 have g0:W.heap[H]?=some (.cells #[.int .u8 k,.string ⟨t.toArray⟩,.slice ka M kc,.slice da N dc,.int .i64 l] 61):=by rw[←hW,←hH];exact qB _ _
 have aU:H<W.heap.size:=(qA.1 g0).1;obtain⟨⟨x0,_⟩,⟨x1,_⟩,⟨x2,_⟩,⟨x3,_⟩,⟨x4,_⟩⟩:=Al g0;have bC:=Ft.below aN aB;have aY:=aS.below aB;have cW:Tryz.prog.follows .mixedOrders=true:=by kernel_rfl
 rw[Nd.val_eq,hN,hM];obtain⟨C,Z⟩:=qeX ((Nd.mk k t ka kc ks da dc ds l).bare.check lv);rw[Z];simp only[Nd.bare,P20.T.check,P20.nodeE,Cp,hN,hM]at Z;rw[hM]at bG q2;rw[hN]at q4;have bU:∀d∈ds,Sk d.bare:=fun d hd=>q5 _ (by rw[Ed];exact List.mem_map_of_mem hd);have HW:=Ab hW;have HB:=Ab aB;have HH:=Ab hH;have bM:=Ab g0;have aW:=Ab bC;have cF:=Ab aY;have cJ:=Ab aX;have HN:=Ab hN;have HM:=Ab hM;have cN:=Ab q3;have cH:=Ab bU;clear aD bE hf aN aS hN hM hH hW aB g0 bC aY aX q3 q5 bU;by_cases hv:16<lv
 ·have j1:(16:Int)<(lv:Int):=by omega
  rw[if_pos hv,if_pos (by decide)]at Z;subst Z;clear hv x0 x1 x2 x3 x4;go_enter Tryz.func191,Tryz.ntmps191
  go_upto_region 1 with fail
  try rw[Aa HH]
  rw[Aa HW];go_wp2;go_ret;exact⟨rfl,Aa HB⟩
 have j1:(lv:Int)≤16:=by omega
 rw[if_neg hv]at Z;by_cases hk:k<1∨3<k
 ·rw[if_pos hk,if_pos (by decide)]at Z;subst Z;by_cases h0:k<1
  ·have j2:(k:Int)<1:=by omega
   clear hk h0 hv;go_enter Tryz.func191,Tryz.ntmps191
   go_upto_region 1 with fail
   try rw[Aa HH]
   rw[Aa HW];go_wp2;go_ret;exact⟨rfl,Aa HB⟩
  ·have j2:(1:Int)≤(k:Int):=by omega
   have j3:(3:Int)<(k:Int):=by omega
   clear hk h0 hv;go_enter Tryz.func191,Tryz.ntmps191
   go_upto_region 1 with fail
   try rw[Aa HH]
   rw[Aa HW];go_wp2;go_ret;exact⟨rfl,Aa HB⟩
 rw[if_neg hk]at Z;have cU:(1:Int)≤(k:Int):=by omega
 have cS:(k:Int)≤3:=by omega
 have cL:k=1∨k=2∨k=3:=by omega
 rcases cL with h|h|h;have bL:((k:Int)==1)=true:=by simp;omega
 have bI:((k:Int) != 1)=false:=by simp;omega
 have bJ:((k:Int)==3)=false:=by simp;omega
 have bK:((k:Int) != 3)=true:=by simp;omega
 by_cases cV:0<N
 ·have jd:(0:Int)<(N:Int):=by omega
  rw[if_pos (show P20.oddB k t M N=true by simp[P20.oddB,h];omega),if_pos (by decide)]at Z;subst Z;clear hv hk h;go_enter Tryz.func191,Tryz.ntmps191
  go_upto_region 1 with fail
  try rw[Aa HH]
  rw[Aa HW];go_wp2;go_ret;exact⟨rfl,Aa HB⟩
 have jd:(N:Int)≤0:=by omega
 by_cases aE:0<M
 ·have jm:(0:Int)<(M:Int):=by omega
  rw[if_pos (show P20.oddB k t M N=true by simp[P20.oddB,h];omega),if_pos (by decide)]at Z;subst Z;clear hv hk h;go_enter Tryz.func191,Tryz.ntmps191
  go_upto_region 1 with fail
  try rw[Aa HH]
  rw[Aa HW];go_wp2;go_ret;exact⟨rfl,Aa HB⟩
 have jm:(M:Int)≤0:=by omega
 rw[if_neg (show ¬P20.oddB k t M N=true by simp[P20.oddB,h];omega)]at Z
 rotate_left
 have bL:((k:Int)==1)=false:=by simp;omega
 have bI:((k:Int) != 1)=true:=by simp;omega
 have bJ:((k:Int)==3)=false:=by simp;omega
 have bK:((k:Int) != 3)=true:=by simp;omega
 cases hte:t.isEmpty
 ·have jt:(⟨t.toArray⟩:ByteArray).toList.isEmpty=false:=(Bp t).trans hte;rw[if_pos (show P20.oddB k t M N=true by simp[P20.oddB,h,hte]),if_pos (by decide)]at Z;subst Z;clear hv hk h;go_enter Tryz.func191,Tryz.ntmps191
  go_upto_region 1 with fail
  try rw[Aa HH]
  rw[Aa HW];go_wp2;go_ret;exact⟨rfl,Aa HB⟩
 have jt:(⟨t.toArray⟩:ByteArray).toList.isEmpty=true:=(Bp t).trans hte;by_cases aE:0<M
 ·have jm:(0:Int)<(M:Int):=by omega
  rw[if_pos (show P20.oddB k t M N=true by simp[P20.oddB,h];omega),if_pos (by decide)]at Z;subst Z;clear hv hk h;go_enter Tryz.func191,Tryz.ntmps191
  go_upto_region 1 with fail
  try rw[Aa HH]
  rw[Aa HW];go_wp2;go_ret;exact⟨rfl,Aa HB⟩
 have jm:(M:Int)≤0:=by omega
 rw[if_neg (show ¬P20.oddB k t M N=true by simp[P20.oddB,h,hte];omega)]at Z
 rotate_left
 have bL:((k:Int)==1)=false:=by simp;omega
 have bI:((k:Int) != 1)=true:=by simp;omega
 have bJ:((k:Int)==3)=true:=by simp;omega
 have bK:((k:Int) != 3)=false:=by simp;omega
 cases hte:t.isEmpty
 ·have jt:(⟨t.toArray⟩:ByteArray).toList.isEmpty=false:=(Bp t).trans hte;rw[if_pos (show P20.oddB k t M N=true by simp[P20.oddB,h,hte]),if_pos (by decide)]at Z;subst Z;clear hv hk h;go_enter Tryz.func191,Tryz.ntmps191
  go_upto_region 1 with fail
  try rw[Aa HH]
  rw[Aa HW];go_wp2;go_ret;exact⟨rfl,Aa HB⟩
 have jt:(⟨t.toArray⟩:ByteArray).toList.isEmpty=true:=(Bp t).trans hte;by_cases aE:M≠N
 ·have jm:((M:Int) != (N:Int))=true:=by simp;omega
  rw[if_pos (show P20.oddB k t M N=true by simp[P20.oddB,h];exact .inr aE),if_pos (by decide)]at Z;subst Z;clear hv hk h;go_enter Tryz.func191,Tryz.ntmps191
  go_upto_region 1 with fail
  try rw[Aa HH]
  rw[Aa HW];go_wp2;go_ret;exact⟨rfl,Aa HB⟩
 have aE:M=N:=by omega
 have jm:((M:Int) != (N:Int))=false:=by simp;omega
 rw[if_neg (show ¬P20.oddB k t M N=true by simp[P20.oddB,h,hte,aE])]at Z;clear aE
 rotate_left
 all_goals
  have cR:IntKind.i64.wrap ((lv:Int)+1)=(lv:Int)+1:=qG _ (by omega);have J:=Cv ⟨t.toArray⟩ 4096 W (by rw[zY];show t.length≤1100000;omega);simp only[Do]at J;by_cases I:P03.check t 4096=0
  rotate_left
  ·rw[if_pos I,if_pos I]at Z;obtain⟨e,he⟩:=qeX (P03.check t 4096);rw[he]at Z I J;subst Z;have aZ:(e != 0)=true:=by simpa using I
   have aO:=Ab J;clear J I he hv hk h;go_enter Tryz.func191,Tryz.ntmps191
   go_upto_region 1 with fail
   try rw[Aa HH]
   rw[Aa HW];go_wp2_with (go_at_call 116;refine(Aa aO).mono ?_;rintro e' w1 ⟨rfl,rfl⟩)
   go_ret;exact⟨rfl,Aa HB⟩
  rw[if_neg (show ¬P03.check t 4096≠0 by simpa using I)]at Z;rw[I]at J;have aO:=Ab J;have HC:=Ab Z;clear J I hv hk Z h;go_enter Tryz.func191,Tryz.ntmps191
  go_upto_region 1 with fail
  try rw[Aa HH]
  rw[Aa HW];go_wp2_with (go_at_call 116;refine(Aa aO).mono ?_;rintro e' w1 ⟨rfl,bQ⟩;rw[bQ];clear bQ)
  go_loopg [6] M (fun g s6 wx=>∃i:Nat,i+g=M∧s6=.int .i64 i∧Hid ((if P20.keysE (ks.take i) (ks.drop i)≠0 then P20.keysE (ks.take i) (ks.drop i) else P20.checkL (lv+1) (Ay ds))=C)∧Hid (Below W.heap.size W wx))
  case atStart=>exact⟨0,by omega,by go_num,HC,Ab (qU _ _)⟩
  case round=>
   obtain⟨i,bY,rfl,HD,aA⟩:=hrel;clear x0 x1 x2 x3 x4;obtain⟨⟨x0,_⟩,⟨x1,_⟩,⟨x2,_⟩,⟨x3,_⟩,⟨x4,_⟩⟩:=Al (((Aa aA).block H aU).trans (Aa bM));cases gk with
   |succ g'=>
    first
    |exact absurd bY (by omega)
    |have cD:(i:Int)<(M:Int):=by omega
     have cQ:(i:Int)≤(kc:Int):=by omega
     have cP:kc≠0:=by omega
     have cM:IntKind.i64.wrap ((i:Int)+1)=(i:Int)+1:=qG _ (by omega);obtain⟨x,aH⟩:=Ap (Aa HM) (show i<M by omega);have bZ:=Aa cN x (qN aH)
     have hd:ks.drop i=x::ks.drop (i+1):=by
      obtain⟨cA,rfl⟩:=qI.1 aH;exact qL cA
     have ht:ks.take (i+1)=ks.take i++[x]:=by rw[List.take_add_one,aH];rfl
     have hD:=Aa HD;rw[hd,P20.keysE]at hD;obtain⟨b,o,rfl,hc⟩:=Ft.below (Aa aW) (Aa aA) i x aH;have J:=fun V=>Cv ⟨x.toArray⟩ 64 V (by rw[zY];show x.length≤1100000;omega);have aR:(ks.take i).length=i:=by rw[qY,Aa HM];omega
     have aL:=Yx (some ⟨b,o,none⟩) kc (ks.take i) x wr.drew (fun j y hy=>by
      rw[List.getElem?_take]at hy;split at hy
      ·exact Ft.below (Aa aW) (Aa aA) j y hy
      ·cases hy) (by rw[aR];omega)
     rw[aR]at aL;simp only[Do]at J;rw[←ht]at hD;have bO:=Ab aL;clear aL hd ht aH bZ aR HD;by_cases I:P03.check x 64=0
     ·rw[if_neg (show ¬P03.check x 64≠0 by simpa using I)]at hD;rw[I]at J;have aC:=Ab J;clear J;by_cases hm:x∈ks.take i
      ·rw[if_pos hm,if_pos (by decide)]at hD;subst hD;have aP:=Ab hm;clear hm I;go_wp2_with (go_at_call 116;refine(Aa aC _).mono ?_;rintro e w2 ⟨rfl,rfl⟩)
       go_region_with_o (go_at_call 215;refine(Aa bO).mono ?_;rintro e w3 ⟨rfl,rfl⟩;rw[decide_eq_true (Aa aP)])
       all_goals go_wp2
       all_goals go_ret
       all_goals exact⟨rfl,Ac (n:=1) ((Aa HB).trans ((Aa aA).mono (Aa HB).size))⟩
      ·rw[if_neg hm]at hD;have cK:=Ab hD;have aP:=Ab hm;clear hD hm I;go_wp2_with (go_at_call 116;refine(Aa aC _).mono ?_;rintro e w2 ⟨rfl,rfl⟩)
       go_region_with_o (go_at_call 215;refine(Aa bO).mono ?_;rintro e w3 ⟨rfl,rfl⟩;rw[decide_eq_false (Aa aP)])
       all_goals go_wp2
       all_goals go_roundg g'
       all_goals first
        |(case measure=>omega)
        |skip
       all_goals exact⟨i+1,by omega,by go_num,cK,Ab (Ac (n:=1) (Aa aA))⟩
     ·rw[if_pos I,if_pos I]at hD;obtain⟨e,he⟩:=qeX (P03.check x 64);rw[he]at hD I J;have aZ:(e != 0)=true:=by simpa using I
      subst hD;have aC:=Ab J;clear J I he;go_wp2_with (go_at_call 116;refine(Aa aC _).mono ?_;rintro e' w2 ⟨rfl,rfl⟩)
      go_ret;exact⟨rfl,(Aa HB).trans ((Aa aA).mono (Aa HB).size)⟩
   |zero=>
    have e1:(M:Int)=(i:Int):=by omega
    have hD:=Aa HD;rw[qM (by rw[Aa HM];omega)]at hD;simp only[P20.keysE]at hD;have hD:P20.checkL (lv+1) (Ay ds)=C:=hD;have cI:=Ab hD;clear hD HD HC;go_wp2;clear x0 x1 x2 x3 x4 e1;have cO:=aA
    go_loopg [8] N (fun g s8 wx=>∃i:Nat,i+g=N∧s8=.int .i64 i∧Hid (P20.checkL (lv+1) (Ay (ds.drop i))=C)∧Hid (Below W.heap.size W wx))
    case atStart=>exact⟨0,by omega,by go_num,cI,cO⟩
    case round=>
     obtain⟨i2,bD,rfl,HS,aA⟩:=hrel;have aM:=Aa aA;obtain⟨⟨x0,_⟩,⟨x1,_⟩,⟨x2,_⟩,⟨x3,_⟩,⟨x4,_⟩⟩:=Al ((aM.block H aU).trans (Aa bM));have aB:Below w.heap.size w wr:=(Aa HB).trans (aM.mono (Aa HB).size);have aT:=Ab aB;clear aM aB;cases gk with
     |zero=>
      have e1:(N:Int)=(i2:Int):=by omega
      have hS:=Aa HS;rw[qM (by rw[Aa HN];omega)]at hS;simp only[Ay,P20.checkL]at hS;subst hS;go_wp2;go_ret;exact⟨rfl,Aa aT⟩
     |succ g'=>
      first
      |exact absurd bD (by omega)
      |have cD:(i2:Int)<(N:Int):=by omega
       have cM:IntKind.i64.wrap ((i2:Int)+1)=(i2:Int)+1:=qG _ (by omega);obtain⟨d,aJ⟩:=Ap (Aa HN) (show i2<N by omega);have hS:=Aa HS;rw[Pr aJ]at hS;have aG:=qN aJ;have aK:=Aa cJ d aG;have bF:=Aa cH d aG;obtain⟨b2,o2,k1,t1,bV,cG,bW,bX,cC,cB,l1,rfl,rfl,y0,y1,y2,y3,y4,aD⟩:=Ds ((Aa cF).below (Aa aA)) aJ;have aI:=aK (lv+1) wr aD bF (by omega);rw[show (((lv+1:Nat)):Int)=(lv:Int)+1 from by omega,Nd.val_eq]at aI;obtain⟨e,he⟩:=qeX ((Nd.mk k1 t1 bV cG bW bX cC cB l1).bare.check (lv+1));rw[he]at aI hS;have bT:=Ab aI;clear aK aI he aD aJ aG bF HS;by_cases h0:e=0
       ·subst h0;rw[if_neg (by simp)]at hS;have HS:=Ab hS;clear hS;go_wp2_with (go_at_call 191;refine(Aa bT).mono ?_;rintro x' w2 ⟨rfl,aQ⟩)
        go_roundg g'
        case measure=>omega
        case rel=>exact⟨i2+1,by omega,by go_num,HS,Ab ((Aa aA).trans (aQ.mono (Aa aA).size))⟩
       ·rw[if_pos h0]at hS;subst hS;have aZ:(e != 0)=true:=by simpa using h0
        clear h0;go_wp2_with (go_at_call 191;refine(Aa bT).mono ?_;rintro x' w2 ⟨rfl,aQ⟩)
        go_ret;exact⟨rfl,(Aa aT).trans (aQ.mono (Aa aT).size)⟩
theorem Yu(d:Nd):T8 d:=Nd.ind (p:=T8) Wc d
theorem Pe(d:Nd)(w:World)(J:d.In w)(hs:Sk d.bare):Calls Tryz.prog 159 #[d.val] w fun e w'=>e=.returned (.int .i64 (d.bare.check 1))∧Below w.heap.size w w':=by
 obtain⟨k,t,ka,kc,ks,da,dc,ds,l⟩:=d;obtain⟨H,hH⟩:=qeX w.heap.size;obtain⟨W,Z⟩:=qeX (w.alloc (.cells #[.int .u8 k,.string ⟨t.toArray⟩,.slice ka ks.length kc,.slice da ds.length dc,.int .i64 l] 61));have I:Below w.heap.size w W:=by rw[←Z];exact(qU _ w).alloc (qJ _) _
 have g0:W.heap[H]?=some (.cells #[.int .u8 k,.string ⟨t.toArray⟩,.slice ka ks.length kc,.slice da ds.length dc,.int .i64 l] 61):=by rw[←Z,←hH];exact qB _ _
 obtain⟨⟨x0,_⟩,⟨x1,_⟩,⟨x2,_⟩,⟨x3,_⟩,⟨x4,_⟩⟩:=Al g0;have hc:=Yu (.mk k t ka kc ks da dc ds l) 1 W (J.below I) hs (by omega);rw[Nd.val_eq]at hc;have HC:=Ab hc;have HW:=Ab Z;have HB:=Ab I;have HH:=Ab hH;rw[Nd.val_eq];clear hc Z I g0 J hH;go_enter Tryz.func159,Tryz.ntmps159
 go_upto_region 1 with fail
 try rw[Aa HH]
 rw[Aa HW];go_wp2_with (go_at_call 191;refine(Aa HC).mono ?_;rintro x w' ⟨rfl,hg⟩)
 go_ret;exact⟨rfl,(Aa HB).trans (hg.mono (Aa HB).size)⟩
theorem Rm(d:Nd)(w:World)(I:d.In w)(hs:Sm d.bare):Calls Tryz.prog 159 #[d.val] w fun e w'=>e=.returned (.int .i64 (d.bare.check 1))∧Below w.heap.size w w':=Pe d w I (Sm.sk _ hs)
end Go.Proofs.YtefokfbgpfcbkaaGreat
