import Derived.Test.YtefokfbgpfcbkaaGreatPlain32Z
set_option maxRecDepth 100000
set_option maxHeartbeats 8000000
set_option linter.unusedVariables false
set_option linter.unusedSimpArgs false
namespace Go.Proofs.YtefokfbgpfcbkaaGreat
open Go.RowKit
attribute [local go_sem] Oper.semAt_some
theorem Nu(n:Int)(w:World):Calls Tryz.prog 150 #[.int .i64 n] w fun e w'=>e=.returned (.int .i64 (P31.now n))∧w'=w:=by
 go_enter Tryz.func150,Tryz.ntmps150
 go_wp2;go_ret;exact⟨rfl,rfl⟩
theorem Wr(m f k:Int)(w:World):Calls Tryz.prog 212 #[.agg #[.int .i64 m,.int .i64 f,.int .i64 k]] w fun e w'=>e=.returned (.func (.func 240) #[] #[.pointer (some ⟨w.heap.size,0,none⟩)])∧w'=w.alloc (.cells #[.int .i64 m,.int .i64 f,.int .i64 k] 58):=by
 go_enter Tryz.func212,Tryz.ntmps212
 go_wp2;go_ret;exact⟨rfl,rfl⟩
def Fq(t:P22.Try)(k:Nat):List Int:=(List.range k).map (P31.waitN t)
theorem Nm{t:P22.Try}{k j:Nat}{x:Int}(h:(Fq t k)[j]?=some x):j<k∧x=P31.waitN t j:=by
 unfold Fq at h;rw[zJ]at h;by_cases hj:j<k
 ·rw[List.getElem?_range hj]at h;exact⟨hj,by simpa using h.symm⟩
 ·rw[List.getElem?_eq_none (by simpa using hj)]at h;cases h
theorem Nn(t:P22.Try)(k:Nat):(Fq t k).length=k:=by simp[Fq]
def Ud(x:Int):Array Value:=#[.int .i64 x]
theorem Mf(n bx k:Nat)(m f c:Int)(R T:Nat→Prop)(W:World)(aT:W.heap[bx]?=some (.cells #[.int .i64 m,.int .i64 f,.int .i64 c] 58))(aX:R bx)(hR:∀r,R r→r<W.heap.size) :
  Qad Fence.wide n Tryz.prog 240 #[qP0 bx] Ud (Fq ⟨m,f,c⟩ k) (fun i _=>i<k) R T W:=by
 intro ly J Jx hJ aQ hM hY hz M0 bQ h0;have aZ:∀r,M0 r→r<W.heap.size∧¬R r:=hM 0 M0 W h0
 have aD:∀d q x M V,(Fq ⟨m,f,c⟩ k)[q]?=some x→J q M V→W.heap.size≤V.heap.size→YieldAt Fence.wide d Tryz.prog ly (Ud x) V fun e W'=>
   ∃M',Aj M V M' W'∧((e=.returned (.bool true)∧J (q+1) M' W')∨(e=.returned (.bool false)∧Jx (q+1) M' W')):=
  fun d q x M V hx hj hs=>YieldAt.anyD rfl d (hY q x M V hx hj hs)
 obtain⟨⟨x0,_⟩,⟨x1,_⟩,⟨x2,_⟩⟩:=Ag aT;have Z:=Jo m f c W;obtain⟨mo,aS⟩:∃x,min (max (P28.meant m 1) 0) 10=x:=⟨_,rfl⟩;have aY:min (max f 0) 1000=P31.first ⟨m,f,c⟩:=rfl
 have aP:min (max (P28.meant c 1) 0) 1000=P31.factor ⟨m,f,c⟩:=rfl;rw[aS,aY,aP]at Z;have aM:P31.waitN ⟨m,f,c⟩ 0=P31.first ⟨m,f,c⟩:=rfl
 have aI:∀j,P31.waitN ⟨m,f,c⟩ (j+1)=min (P31.waitN ⟨m,f,c⟩ j*P31.factor ⟨m,f,c⟩) 1000:=fun _=>rfl;have aH:=P31.waitN_le ⟨m,f,c⟩;have aA:=P31.factor_le ⟨m,f,c⟩;have bY:=fun j x (h:(Fq ⟨m,f,c⟩ k)[j]?=some x)=>Nm h
 have aC:∀j,j<k→(Fq ⟨m,f,c⟩ k)[j]?=some (P31.waitN ⟨m,f,c⟩ j):=fun j hj=>by
  unfold Fq;rw[zJ,List.getElem?_range hj];rfl
 have aK:(Fq ⟨m,f,c⟩ k).length=k:=Nn _ _;obtain⟨WN,aJ⟩:∃F,P31.waitN ⟨m,f,c⟩=F:=⟨_,rfl⟩;obtain⟨FI,aE⟩:∃F,P31.first ⟨m,f,c⟩=F:=⟨_,rfl⟩
 obtain⟨FC,aB⟩:∃F,P31.factor ⟨m,f,c⟩=F:=⟨_,rfl⟩;rw[aJ]at aH aC;simp only[aJ,aE,aB]at aM aI;rw[aE,aB]at Z;rw[aB]at aA;obtain⟨L,hL⟩:=qeX (Fq ⟨m,f,c⟩ k);rw[hL]at aD aC aK ⊢;have bX:=Ab Z;have cG:=Ab aX;have cD:=Ab hR;have bL:=Ab aZ;have HM:=Ab hM;have HJ:=Ab hJ;have cA:=Ab aQ;have HY:=Ab aD;have HZ:=Ab hz;have H0:=Ab h0;have bO:=Ab aI;have bM:=Ab aH;have bJ:=Ab aC;have bU:=Ab aM;have bE:=Ab aK;clear aT aX hR aZ hM hJ aQ hY aD hz bQ h0 Z aI aH aC aM aK bY aJ aE aB hL aY aP aS;refine callsIn_of_wp Tryz.func240 rfl trivial ?_ rfl;simp only[Tryz.ntmps240,zE,qE,qP,Nat.reduceAdd,Nat.reduceSub,Array.replicate_succ,Array.replicate_zero,List.push_toArray,List.append_toArray,zR,zQ]
 gi_wp2
 refine⟨trivial,fun h=>(by cases h),(callsIn_wide.2 (Aa bX)).mono ?_⟩;rintro e w2 ⟨rfl,b2⟩;obtain⟨K,hK⟩:=qeX w2.heap.size;obtain⟨W3,aL,b3,g3,cB⟩:=As w2 (.cells #[.int .i64 mo,.int .i64 FI,.int .i64 FC] 58) K hK;have cC:=b2.size;have bC:W.grownBy W3 none:=(A4 b2 none).trans (by rw[←aL];exact qQ _ _ none);have h3:J 0 M0 W3:=(Aa HJ) 0 M0 W W3 none (Aa H0) bC (fun r e=>by cases e);have I:¬M0 K:=fun h=>by have:=((Aa bL) K h).1;omega
 have H3:=Ab h3;have bD:=Ab I;have aW:=Ab g3;have bI:=Ab aL;have aU:=Ab (show W.heap.size≤W3.heap.size by omega);clear h3 I g3 aL bC b3 b2
 gi_upto_region 1 with fail
 try rw[hK]
 rw[Aa bI];obtain⟨⟨y0,_⟩,⟨y1,_⟩,⟨y2,_⟩⟩:=Ag (Aa aW);clear x0 x1 x2
 gi_wp2
 gi_loopg [4] k (fun g s4 wx=>∃(j:Nat) (M:Nat→Prop),j+g=k∧s4=.int .i64 (WN j)∧Hid (Aj M0 W3 M wx)∧Hid (J j M wx))
 case atStart=>exact⟨0,M0,by omega,by rw[Aa bU],Ab (Aj.refl _ _),H3⟩
 case round=>
  obtain⟨j,M,cH,rfl,HK,aO⟩:=hrel;clear y0 y1 y2;have hk:=Aa HK;have bZ:=hk.size;cases gk with
  |zero=>
   have hfin:=Aa aO;rw[show j=L.length by rw[Aa bE];omega]at hfin;exact absurd (Aa HZ _ _ _ hfin) (by rw[Aa bE];omega)
  |succ g'=>
   have hx:=Aa bJ j (by omega);have g3:=(hk.same K (Aa bD) (by omega)).trans (Aa aW);obtain⟨⟨y0,_⟩,⟨y1,_⟩,⟨y2,_⟩⟩:=Ag g3
   have bF:=((Aa HY) (n-1) _ _ M wr hx (Aa aO) (by have:=Aa aU;omega)).mono
    (R':=fun e W'=>∃bb,e=.returned (.bool bb)∧Hid (∃M',Aj M wr M' W'∧((bb=true∧J (j+1) M' W')∨(bb=false∧Jx (j+1) M' W')))) (by
     rintro e W' ⟨M',hk,(⟨rfl,h⟩|⟨rfl,h⟩)⟩
     ·exact⟨true,rfl,Ab ⟨M',hk,.inl ⟨rfl,h⟩⟩⟩
     ·exact⟨false,rfl,Ab ⟨M',hk,.inr ⟨rfl,h⟩⟩⟩)
   obtain⟨fn,tmps,assign,body,hy,hR⟩:=bF;replace hy:(Instr.yield ly #[.int .i64 (WN j)]).run Tryz.prog wr=.ok (.round ly fn tmps assign body) wr:=hy;have bT:j+1≤L.length:=by have:=(qI.1 hx).1;omega
   have bK:∀r,M r→r<wr.heap.size:=fun r hr=>((Aa HM) j M wr (Aa aO) r hr).1;have I:¬M K:=fun h=>((hk.more K h).elim (Aa bD) (by omega));have aR:=Ab I;have bW:=Ab g3;clear hk hx g3 bK I
   gi_wp2
   refine⟨fun h=>(by cases h),hR.mono ?_⟩;rintro e W4 ⟨bb,rfl,HB⟩;clear hy hR;cases bb
   ·gi_wp2
    go_end0;obtain⟨M',hk,(⟨h,_⟩|⟨_,h⟩)⟩:=Aa HB
    ·cases h
    ·exact⟨⟨_,rfl⟩,M',.inr ⟨_,bT,h⟩⟩
   ·have aN:∃M',Aj M wr M' W4∧J (j+1) M' W4:=by
     obtain⟨M',hk,(⟨_,h⟩|⟨h,_⟩)⟩:=Aa HB
     ·exact⟨M',hk,h⟩
     ·cases h
    have g4:W4.heap[K]?=some (.cells #[.int .i64 mo,.int .i64 FI,.int .i64 FC] 58):=by
     obtain⟨M',hk,_⟩:=aN;exact(hk.same K (Aa aR) (by omega)).trans (Aa bW)
    have bV:=Ab aN;clear y0 y1 y2;obtain⟨⟨y0,_⟩,⟨y1,_⟩,⟨y2,_⟩⟩:=Ag g4;have aG:=Aa bM j
    have cF:IntKind.i64.wrap (WN j*FC)=WN j*FC:=qG _ (by
     have a:0≤WN j*FC:=Int.mul_nonneg aG.1 aA.1;have b:WN j*FC≤1000*1000:=Int.mul_le_mul aG.2 aA.2 aA.1 (by omega)
     omega)
    have bG:=Aa bO j;clear aN HB g4 aG
    gi_wp2
    go_roundg g'
    case measure=>omega
    case rel=>
     obtain⟨M',hk,h⟩:=Aa bV;exact⟨j+1,M',by omega,by rw[bG],Ab ((Aa HK).trans hk),Ab h⟩
end Go.Proofs.YtefokfbgpfcbkaaGreat
namespace Go.Proofs.YtefokfbgpfcbkaaGreat
open Go.RowKit
attribute [local go_sem] Oper.semAt_some
structure Z3 (w:World) (H:Nat) (rc:Array Value) (o k:Int) (M:Nat→Prop) (V:World):Prop where
 m:∀r,M r↔r=H+1∨r=H+2
 bx:V.heap[H]?=some (.cells rc 58)
 r1:V.heap[H+1]?=some (.cells #[.int .i64 o] 3)
 r2:V.heap[H+2]?=some (.cells #[.int .i64 k] 3)
 below:Below H w V
 size:H+4≤V.heap.size
theorem Z3.abides{w V V':World}{H:Nat}{rc:Array Value}{o k:Int}{M:Nat→Prop}{row:Option Nat}(h:Z3 w H rc o k M V)(hg:V.grownBy V' row)(hr:∀r,row=some r→¬M r∧¬(r≤H∨r=H+3)):Z3 w H rc o k M V':=by
 have I:=h.size;refine⟨h.m,(hg.block _ (by omega) (fun e=>?_)).trans h.bx,(hg.block _ (by omega) (fun e=>?_)).trans h.r1,(hg.block _ (by omega) (fun e=>?_)).trans h.r2,h.below.grown hg (by omega) (fun k e=>?_),qK h.size hg.size⟩
 ·exact(hr _ e.symm).2 (.inl (qJ _))
 ·exact(hr _ e.symm).1 ((h.m _).2 (.inl rfl))
 ·exact(hr _ e.symm).1 ((h.m _).2 (.inr rfl))
 ·have:=(hr k e).2;omega
theorem Xo(m f c t:Int)(w:World):Calls Tryz.prog 186 #[.agg #[.int .i64 m,.int .i64 f,.int .i64 c],.int .i64 t] w fun e w'=>e=.returned (.int .i64 (P31.wait ⟨m,f,c⟩ t))∧Below w.heap.size w w':=by
 obtain⟨H,hH⟩:=qeX w.heap.size;rw[hH];by_cases h1:t<1
 ·have e:P31.wait ⟨m,f,c⟩ t=0:=by unfold P31.wait;rw[if_pos h1]
  rw[e];have hb:Below H w (w.alloc (.cells #[.int .i64 m,.int .i64 f,.int .i64 c] 58)):=(qU _ _).alloc (by omega) _;have HB:=Ab hb;clear hb e;refine(callsIn_wide (n:=40)).1 ?_;refine callsIn_of_wp_marks Tryz.func186 rfl trivial ?_ rfl;simp only[Tryz.ntmps186,zE,qE,qP,Nat.reduceAdd,Nat.reduceSub,Array.replicate_succ,Array.replicate_zero,List.push_toArray,List.append_toArray,zR,zQ];refine wpIn_wide.2 ?_;go_wp2;go_step3;go_wp2;rw[Exit.noGoto_ret];exact⟨_,results_tmp rfl _ _ _,rfl,Aa HB⟩
 have d1:decide (t<1)=false:=by simp;omega
 obtain⟨W1,aD,aG,g0,g1,g2,aN⟩:=I5 w (.cells #[.int .i64 m,.int .i64 f,.int .i64 c] 58) (.cells #[.int .i64 0] 3) (.cells #[.int .i64 (min t 20)] 3) H hH;obtain⟨W2,aL,J,g3,aZ⟩:=As W1 (.cells #[.int .i64 m,.int .i64 f,.int .i64 c] 58) (H+1+1+1) aN;have aE:=Wr m f c W1;rw[aN,aL]at aE;obtain⟨I,Z⟩:∃k:Nat,min t 20=(k:Int):=⟨(min t 20).toNat,by omega⟩;have aY:1≤I:=by omega
 have aU:I≤20:=by omega
 have hw:P31.wait ⟨m,f,c⟩ t=P31.waitN ⟨m,f,c⟩ (I-1):=by
  unfold P31.wait;rw[if_neg h1,Z];rfl
 rw[hw];rw[Z]at aD g2;have aK:Below H w W2:=aG.trans (J.mono (by omega));have aH:=fun V (aC:W2.grownBy V none)=>Mf (40-1) (H+1+1+1) I m f c (fun r=>r≤H∨r=H+3) (fun _=>False) V ((aC.block _ (by omega) (by simp)).trans g3) (.inr rfl) (fun r hr=>by have:=aC.size;omega);have aM:Z3 w H #[.int .i64 m,.int .i64 f,.int .i64 c] 0 (I:Int) (fun r=>r=H+1∨r=H+2) W2:=⟨fun r=>Iff.rfl,(J.block _ (by omega)).trans g0,(J.block _ (by omega)).trans g1,(J.block _ (by omega)).trans g2,aK,by omega⟩;obtain⟨⟨x0,_⟩,⟨x1,_⟩,⟨x2,_⟩⟩:=Ag g0;have aO:∀(x:Int),x=t→min x 20=(I:Int):=fun x e=>by rw[e];exact Z
 have aS:=Ab aD;have aT:=Ab aE;have aR:=Ab aH;have aP:=Ab aM;have aQ:=Ab Z;clear aD aL aG J g0 g1 g2 g3 aE aK aH aM hw h1 aO Z;refine(callsIn_wide (n:=40)).1 ?_;refine callsIn_of_wp_marks Tryz.func186 rfl trivial ?_ rfl;simp only[Tryz.ntmps186,zE,qE,qP,Nat.reduceAdd,Nat.reduceSub,Array.replicate_succ,Array.replicate_zero,List.push_toArray,List.append_toArray,zR,zQ];refine wpIn_wide.2 ?_;go_wp2;go_step3;go_upto_region 5 with fail
 rw[Aa aQ];try rw[hH]
 rw[Aa aS];go_step3;go_wp2_with (go_at_call 212;refine(Aa aT).mono ?_;rintro e w' ⟨rfl,hw⟩;obtain rfl:=hw.symm)
 refine(wpIn_wide (n:=40)).1 ?_;generalize hA:({ tmps:=_,defers:=_ }:Act)=A'
 refine C3 rfl (by omega) (gf:=240) (lb:=#[.pointer (some ⟨H+1+1+1,0,none⟩)]) (by rw[←hA];rfl) trivial (enters_of Tryz.func240 (by kernel_rfl) rfl)
  (encs:=Ud) (Fq ⟨m,f,c⟩ I) (fun i _=>i<I) (fun r=>r≤H∨r=H+3) (fun _=>False) (fun r hr=>by omega)
  (fun V aC _=>Aa aR V aC) (fun _=>rfl)
  (fun j M V=>j<I∧∃o,Z3 w H #[.int .i64 m,.int .i64 f,.int .i64 c] o ((I:Int)-(j:Int)) M V)
  (fun c' j M V=>c'=.exit 0∧Z3 w H #[.int .i64 m,.int .i64 f,.int .i64 c] (P31.waitN ⟨m,f,c⟩ (I-1)) 0 M V)
  (fun j M V V' row hi hg hr=>⟨hi.1,hi.2.choose,hi.2.choose_spec.abides hg hr⟩) (fun c j M V V' row hi hg hr=>⟨hi.1,hi.2.abides hg hr⟩)
  (fun j M V hi r hr=>⟨by have:=(hi.2.choose_spec.m r).1 hr;have:=hi.2.choose_spec.size;omega,by have:=(hi.2.choose_spec.m r).1 hr;omega⟩)
  (fun r=>r=H+1∨r=H+2) (fun r hr=>hr.elim)
  ⟨by omega,0,by simpa using Aa aP⟩
  (fun j x M a' V=>j<I∧x=P31.waitN ⟨m,f,c⟩ j∧(∃o,Z3 w H #[.int .i64 m,.int .i64 f,.int .i64 c] o ((I:Int)-(j:Int)) M V)∧a'=(A'.put (some 14) (.int .i64 x)).put (some 7) (.int .i64 x))
  ?hB ?assign ?body (fun i M V h=>h.1) (fun D M V _ _ h _=>absurd h.1 (by rw[Nn];omega)) ?stop
 case hB=>
  rintro j x M a' V V' row ⟨hj,hx,⟨o,hi⟩,rfl⟩ hg hr;exact⟨hj,hx,⟨o,hi.abides hg hr⟩,rfl⟩
 case assign=>
  rintro l2 j x M V K hx ⟨hj,o,hi⟩ hV hK;subst hA;unfold Ud;have aJ:=hK M _ V ⟨rfl,rfl,rfl,qJ _,fun _ _ _=>rfl⟩ (fun r hr=>.inl hr) ⟨hj,(Nm hx).2,⟨o,hi⟩,rfl⟩;have HK:=Ab aJ;clear aJ hK
  gi_wp2
  exact Aa HK
 case body=>
  rintro l2 j x M a' V _ ⟨hj,hx,⟨o,hi⟩,rfl⟩ hV;subst hA;obtain⟨c1,f1⟩:=A1 hi.r1;obtain⟨c2,f2⟩:=A1 hi.r2;have aW:IntKind.i64.wrap ((I:Int)-(j:Int)-1)=(I:Int)-(j:Int)-1:=qG _ (by omega);have aA:=grownBy_setCell' V (H+1) (.int .i64 x);have aB:=grownBy_setCell' (V.setCell ⟨H+1,0,none⟩ (.int .i64 x)) (H+2) (.int .i64 ((I:Int)-(j:Int)-1));have hz:=hi.size;have hm:=hi.m;have hk:Aj M V M ((V.setCell ⟨H+1,0,none⟩ (.int .i64 x)).setCell ⟨H+2,0,none⟩ (.int .i64 ((I:Int)-(j:Int)-1))):=(Aj.grown aA (fun r e=>by cases e;exact .inl ((hi.m _).2 (.inl rfl)))).trans (.grown aB (fun r e=>by cases e;exact .inl ((hi.m _).2 (.inr rfl))))
  have aI:Z3 w H #[.int .i64 m,.int .i64 f,.int .i64 c] x ((I:Int)-(j:Int)-1) M ((V.setCell ⟨H+1,0,none⟩ (.int .i64 x)).setCell ⟨H+2,0,none⟩ (.int .i64 ((I:Int)-(j:Int)-1))):=by
   refine⟨hi.m,?_,?_,?_,?_,?_⟩
   ·exact(aB.block _ (by simp;omega) (by simp)).trans ((aA.block _ (by omega) (by simp)).trans hi.bx)
   ·exact(aB.block _ (by simp;omega) (by simp)).trans (Wb hi.r1 _)
   ·exact Wb ((aA.block _ (by omega) (by simp)).trans hi.r2) _
   ·exact(hi.below.grown aA (by omega) (fun k e=>by cases e;omega)).grown aB (by simp;omega) (fun k e=>by cases e;omega)
   ·simp;omega
  have HE:=Ab (And.intro hk aI);clear aA aB hk aI hm hi;rcases Nat.lt_or_ge (j+1) I with h1|h1
  ·have e0:((I:Int)-(j:Int)-1==0)=false:=by simp;omega
   have HX:=Ab hx;clear hx
   gi_wp2
   exact⟨M,(Aa HE).1,h1,x,by rw[show (I:Int)-((j+1:Nat):Int)=(I:Int)-(j:Int)-1 by omega];exact(Aa HE).2⟩
  ·have e0:((I:Int)-(j:Int)-1==0)=true:=by simp;omega
   have HX:=Ab hx;clear hx
   gi_wp2
   refine⟨M,(Aa HE).1,rfl,?_⟩;have h:=(Aa HE).2;rw[show (I:Int)-(j:Int)-1=0 by omega]at h ⊢;rw[show I-1=j by omega,←Aa HX];exact h
 case stop=>
  rintro D c' j M V rfl aX hj ⟨rfl,hi⟩ hK;subst hA;obtain⟨c1,f1⟩:=A1 hi.r1;have HI:=Ab hi;clear hi
  gi_wp2
  go_wp2;rw[Exit.noGoto_ret];refine⟨by simp,.inl ⟨_,_,rfl,run_takeDeferred hK,_,results_tmp rfl _ _ _,rfl,?_⟩⟩;have hz:=(Aa HI).size;exact(Aa HI).below.grown (grownBy_putObj' _ W2.heap.size (.deferred none)) (by omega) (fun k e=>by cases e;omega)
end Go.Proofs.YtefokfbgpfcbkaaGreat
namespace Go.Proofs.YtefokfbgpfcbkaaGreat
open Go.RowKit
def Au(r:P31.Run):Value:=.agg #[.int .u8 (r.phase:Int),.int .i64 r.att,.int .i64 r.til,.bool r.last]
structure R2 (w:World) (B H K:Nat) (a c:P31.Run) (V:World):Prop where
 r:V.heap[H]?=some (.cells #[.int .u8 (a.phase:Int),.int .i64 a.att,.int .i64 a.til,.bool a.last] 159)
 o:V.heap[K]?=some (.cells #[.int .u8 (c.phase:Int),.int .i64 c.att,.int .i64 c.til,.bool c.last] 159)
 bel:Below B w V
 ne:H≠K
 low:B≤H∧B≤K
namespace R2
variable {w V:World} {B H K:Nat} {a c:P31.Run}
theorem cells(h:R2 w B H K a c V):((V.cell? ⟨H,0,none⟩=some (.int .u8 (a.phase:Int))∧V.frozen? ⟨H,0,none⟩=false)∧(V.cell? ⟨H,1,none⟩=some (.int .i64 a.att)∧V.frozen? ⟨H,1,none⟩=false)∧(V.cell? ⟨H,2,none⟩=some (.int .i64 a.til)∧V.frozen? ⟨H,2,none⟩=false)∧(V.cell? ⟨H,3,none⟩=some (.bool a.last)∧V.frozen? ⟨H,3,none⟩=false)) ∧
  ((V.cell? ⟨K,0,none⟩=some (.int .u8 (c.phase:Int))∧V.frozen? ⟨K,0,none⟩=false)∧(V.cell? ⟨K,1,none⟩=some (.int .i64 c.att)∧V.frozen? ⟨K,1,none⟩=false)∧(V.cell? ⟨K,2,none⟩=some (.int .i64 c.til)∧V.frozen? ⟨K,2,none⟩=false)∧(V.cell? ⟨K,3,none⟩=some (.bool c.last)∧V.frozen? ⟨K,3,none⟩=false)):=by
 have h1:=h.r;have h2:=h.o;constructor<;>simp[World.cell?,World.frozen?,h1,h2]
theorem put4{V:World}{g:Nat}{T:TypeId}{I Z J u3:Value}(h:V.heap[g]?=some (.cells #[I,Z,J,u3] T))(x:Value) :
  (V.setCell ⟨g,0,none⟩ x).heap[g]?=some (.cells #[x,Z,J,u3] T)∧(V.setCell ⟨g,1,none⟩ x).heap[g]?=some (.cells #[I,x,J,u3] T)∧(V.setCell ⟨g,2,none⟩ x).heap[g]?=some (.cells #[I,Z,x,u3] T)∧(V.setCell ⟨g,3,none⟩ x).heap[g]?=some (.cells #[I,Z,J,x] T):=by
 refine⟨?_,?_,?_,?_⟩<;>simp[World.setCell,Array.getElem?_modify,h]
theorem setR{I:P31.Run}(h:R2 w B H K a c V)(k:Nat)(x:Value)(hx:(V.setCell ⟨H,k,none⟩ x).heap[H]?=some (.cells #[.int .u8 (I.phase:Int),.int .i64 I.att,.int .i64 I.til,.bool I.last] 159)):R2 w B H K I c (V.setCell ⟨H,k,none⟩ x):=
 ⟨hx,(qC _ _ _ _ (Ne.symm h.ne)).trans h.o,h.bel.setCell (p:=⟨H,k,none⟩) h.low.1 _,h.ne,h.low⟩
theorem setPhase(h:R2 w B H K a c V)(p:Nat):R2 w B H K ⟨p,a.att,a.til,a.last⟩ c (V.setCell ⟨H,0,none⟩ (.int .u8 (p:Int))):=h.setR 0 _ (put4 h.r _).1
theorem setAtt(h:R2 w B H K a c V)(n:Int):R2 w B H K ⟨a.phase,n,a.til,a.last⟩ c (V.setCell ⟨H,1,none⟩ (.int .i64 n)):=h.setR 1 _ (put4 h.r _).2.1
theorem setTil(h:R2 w B H K a c V)(n:Int):R2 w B H K ⟨a.phase,a.att,n,a.last⟩ c (V.setCell ⟨H,2,none⟩ (.int .i64 n)):=h.setR 2 _ (put4 h.r _).2.2.1
theorem setLast(h:R2 w B H K a c V)(b:Bool):R2 w B H K ⟨a.phase,a.att,a.til,b⟩ c (V.setCell ⟨H,3,none⟩ (.bool b)):=h.setR 3 _ (put4 h.r _).2.2.2
theorem out(h:R2 w B H K a c V)(x:P31.Run):R2 w B H K a x ((((V.setCell ⟨K,0,none⟩ (.int .u8 (x.phase:Int))).setCell ⟨K,1,none⟩ (.int .i64 x.att)).setCell ⟨K,2,none⟩ (.int .i64 x.til)).setCell ⟨K,3,none⟩ (.bool x.last)):=by
 have hb:=fun(V:World) (o:Nat) (v:Value)=>qC V ⟨K,o,none⟩ v H h.ne;refine⟨?_,?_,?_,h.ne,h.low⟩
 ·rw[hb,hb,hb,hb];exact h.r
 ·exact(put4 (put4 (put4 (put4 h.o _).1 _).2.1 _).2.2.1 _).2.2.2
 ·exact(((h.bel.setCell (p:=⟨K,0,none⟩) h.low.2 _).setCell (p:=⟨K,1,none⟩) h.low.2 _).setCell (p:=⟨K,2,none⟩) h.low.2 _).setCell (p:=⟨K,3,none⟩) h.low.2 _
theorem load(h:R2 w B H K a c V):(loadVar 159 ⟨K,0,none⟩).run Tryz.prog V=.ok (Au c) V:=qW _ _ _ _ _ _ _ h.o Tryz.underlying159 rfl (by kernel_rfl)
theorem below{V':World}(h:R2 w B H K a c V)(hb:Below V.heap.size V V'):R2 w B H K a c V':=by
 have h1:=(qA.1 h.r).1;exact⟨(hb.block _ h1).trans h.r,(hb.block _ (qA.1 h.o).1).trans h.o,h.bel.trans (hb.mono (by have:=h.low.1;omega)),h.ne,h.low⟩
end R2
def Bd(V:World)(K:Nat)(c:P31.Run):Prop:=V.heap[K]?=some (.cells #[.int .u8 (c.phase:Int),.int .i64 c.att,.int .i64 c.til,.bool c.last] 159)
namespace Bd
variable {V:World} {K:Nat} {c:P31.Run}
theorem cells(h:Bd V K c):(V.cell? ⟨K,0,none⟩=some (.int .u8 (c.phase:Int))∧V.frozen? ⟨K,0,none⟩=false)∧(V.cell? ⟨K,1,none⟩=some (.int .i64 c.att)∧V.frozen? ⟨K,1,none⟩=false)∧(V.cell? ⟨K,2,none⟩=some (.int .i64 c.til)∧V.frozen? ⟨K,2,none⟩=false)∧(V.cell? ⟨K,3,none⟩=some (.bool c.last)∧V.frozen? ⟨K,3,none⟩=false):=by
 unfold Bd at h;simp[World.cell?,World.frozen?,h]
theorem out(h:Bd V K c)(x:P31.Run):Bd ((((V.setCell ⟨K,0,none⟩ (.int .u8 (x.phase:Int))).setCell ⟨K,1,none⟩ (.int .i64 x.att)).setCell ⟨K,2,none⟩ (.int .i64 x.til)).setCell ⟨K,3,none⟩ (.bool x.last)) K x:=
 (R2.put4 (R2.put4 (R2.put4 (R2.put4 h _).1 _).2.1 _).2.2.1 _).2.2.2
theorem load(h:Bd V K c):(loadVar 159 ⟨K,0,none⟩).run Tryz.prog V=.ok (Au c) V:=qW _ _ _ _ _ _ _ h Tryz.underlying159 rfl (by kernel_rfl)
theorem below{V':World}(h:Bd V K c)(hb:Below V.heap.size V V'):Bd V' K c:=(hb.block _ (qA.1 h).1).trans h
end Bd
theorem Below.set4{w V:World}{B K:Nat}(h:Below B w V)(hK:B≤K)(a b c d:Value):Below B w ((((V.setCell ⟨K,0,none⟩ a).setCell ⟨K,1,none⟩ b).setCell ⟨K,2,none⟩ c).setCell ⟨K,3,none⟩ d):=
 (((h.setCell (p:=⟨K,0,none⟩) hK _).setCell (p:=⟨K,1,none⟩) hK _).setCell (p:=⟨K,2,none⟩) hK _).setCell (p:=⟨K,3,none⟩) hK _
theorem Kd(r:P31.Run)(p:Nat)(w:World):Calls Tryz.prog 144 #[Au r,.int .u8 (p:Int)] w fun e w'=>e=.returned (Au (P31.end_ r p))∧Below w.heap.size w w':=by
 obtain⟨H,hH⟩:=qeX w.heap.size;rw[hH];obtain⟨W1,J,I,g0,g1,aA⟩:=Dt w (.cells #[.int .u8 (r.phase:Int),.int .i64 r.att,.int .i64 r.til,.bool r.last] 159) (.cells #[.int .u8 0,.int .i64 0,.int .i64 0,.bool false] 159) H hH;have h1:R2 w H H (H+1) r P31.Run.zero W1:=⟨g0,g1,I,by omega,by omega⟩;obtain⟨⟨⟨a0,b0⟩,⟨a1,b1⟩,⟨a2,b2⟩,⟨a3,b3⟩⟩,⟨⟨c0,d0⟩,⟨c1,d1⟩,⟨c2,d2⟩,⟨c3,d3⟩⟩⟩:=h1.cells;have Z:=Ab J;have H1:=Ab h1;clear J I g0 g1 h1;unfold Au;go_enter Tryz.func144,Tryz.ntmps144
 go_upto_region 1 with fail
 try rw[hH]
 rw[Aa Z];go_wp2;have h2:=(((Aa H1).setPhase p).setTil 0).out (P31.end_ r p);exact qV (Ah rfl _ _ _ (H+1) _ rfl h2.load) rfl ⟨rfl,h2.bel⟩
open Go.RowKit
theorem Fm(w:World)(a0 a1 a2 a3 a4 a5 a6 a7 a8 a9 Z I J:Value):(Instr.field 63 (.agg #[a0,a1,a2,a3,a4,a5,a6,a7,a8,a9,Z,I,J]) 5).run Tryz.prog w=.ok a7 w:=by kernel_rfl
attribute [local go_sem] Fm
theorem O8(r:P31.Run)(s:Ai)(n:Int)(w:World)(hr:-1000000≤r.att∧r.att≤1000000):Calls Tryz.prog 151 #[Au r,s.val,.int .i64 n] w fun e w'=>e=.returned (Au (P31.next s.bare n r))∧Below w.heap.size w w':=by
 obtain⟨H,hH⟩:=qeX w.heap.size;rw[hH];have J:=fun V=>Kn s V;have I:min (max s.real.limit 0) 10000=P31.limit s.bare:=rfl;have aP:=P31.limit_le s.bare;obtain⟨LI,aA⟩:∃x,P31.limit s.bare=x:=⟨_,rfl⟩;have aG:P31.next s.bare n r=⟨1,r.att+1,P31.now n+LI,r.last⟩:=by rw[←aA];rfl
 rw[aA]at I aP;rw[aG];have Z:=fun V=>Nu n V;have aR:=P31.now_le n;obtain⟨NW,aB⟩:∃x,P31.now n=x:=⟨_,rfl⟩;rw[aB]at aR ⊢;simp only[aB]at Z;obtain⟨⟨sn,sa,su,bF,aQ,aZ,sm,sf,sc,sl,⟨k,t,ka,kc,ks,da,dc,ds,l⟩⟩,hs⟩:∃s',s=s':=⟨_,rfl⟩;rw[hs]at J I ⊢;unfold Ai.real at J I;simp only[Ai.val_eqn]at J I ⊢;obtain⟨M1,aE⟩:∃x,P28.meant sm 1=x:=⟨_,rfl⟩;obtain⟨M2,aM⟩:∃x,P28.meant sc 1=x:=⟨_,rfl⟩;obtain⟨M3,aD⟩:∃x,P28.meant sl 100=x:=⟨_,rfl⟩;rw[aD]at I;rw[aE,aM,aD]at J;obtain⟨N1,aL⟩:=qeX aZ.length;obtain⟨N2,aN⟩:=qeX ks.length;obtain⟨N3,aK⟩:=qeX ds.length;rw[aL,aN,aK]at J ⊢;obtain⟨W1,aC,aH,g0,g1,g2,bG⟩:=I5 w (.cells #[.int .u8 (r.phase:Int),.int .i64 r.att,.int .i64 r.til,.bool r.last] 159) (.cells #[.string ⟨sn.toArray⟩,.string ⟨sa.toArray⟩,.string ⟨su.toArray⟩,.slice bF N1 aQ,.int .i64 sm,.int .i64 sf,.int .i64 sc,.int .i64 sl,.int .u8 k,.string ⟨t.toArray⟩,.slice ka N2 kc,.slice da N3 dc,.int .i64 l] 63) (.cells #[.int .u8 0,.int .i64 0,.int .i64 0,.bool false] 159) H hH;have h1:R2 w H H (H+1+1) r P31.Run.zero W1:=⟨g0,g2,aH,by omega,by omega⟩;obtain⟨⟨a0,b0⟩,⟨a1,b1⟩,⟨a2,b2⟩,⟨a3,b3⟩,⟨a4,b4⟩,⟨a5,b5⟩,⟨a6,b6⟩,⟨a7,b7⟩,⟨a8,b8⟩,⟨a9,b9⟩,⟨aS,aW⟩,⟨aX,aY⟩,⟨aO,aT⟩⟩:=Am g1;have bE:IntKind.i64.wrap (r.att+1)=r.att+1:=qG _ (by omega);have bI:IntKind.i64.wrap (NW+LI)=NW+LI:=qG _ (by omega);obtain⟨ph,aJ,ti,la⟩:=r;simp only at bE h1 aC;have bC:=Ab J;have bD:=Ab aC;have H1:=Ab h1;have aU:=Ab Z;clear aC aH g0 g1 g2 h1 J Z aA aB aG aE aM aD aL aN aK hs;unfold Au;go_enter Tryz.func151,Tryz.ntmps151
 go_upto_region 1 with fail
 try rw[hH]
 rw[Aa bD];go_upto_region 2 with(go_at_call 166;with_reducible refine(Aa bC _).mono ?_;rintro e w2 ⟨rfl,aI⟩)
 have h2:=(Aa H1).below aI;obtain⟨⟨⟨x0,y0⟩,⟨x1,y1⟩,⟨x2,y2⟩,⟨x3,y3⟩⟩,⟨⟨c0,d0⟩,⟨c1,d1⟩,⟨c2,d2⟩,⟨c3,d3⟩⟩⟩:=h2.cells;simp only at x0 x1 x2 x3;have H2:=Ab h2;clear h2 a0 b0 a1 b1 a2 b2 a3 b3 a4 b4 a5 b5 a6 b6 a7 b7 a8 b8 a9 b9 aS aW aX aY aO aT aI;go_wp2_with (go_at_call 150;refine(Aa aU _).mono ?_;rintro e w' ⟨rfl,hw⟩;obtain rfl:=hw.symm)
 have h3:=((((Aa H2).setPhase 1).setAtt (aJ+1)).setTil (NW+LI)).out ⟨1,aJ+1,NW+LI,la⟩;exact qV (Ah rfl _ _ _ (H+1+1) _ rfl h3.load) rfl ⟨rfl,h3.bel⟩
theorem Mi(s:Ai)(n:Int)(w:World):Calls Tryz.prog 189 #[s.val,.int .i64 n] w fun e w'=>e=.returned (Au (P31.begin_ s.bare n))∧Below w.heap.size w w':=by
 obtain⟨H,hH⟩:=qeX w.heap.size;rw[hH];have I:=fun V=>O8 P31.Run.zero s n V ⟨by decide,by decide⟩;have aH:P31.next s.bare n P31.Run.zero=P31.begin_ s.bare n:=rfl
 rw[aH]at I;obtain⟨B,hB⟩:∃x,P31.begin_ s.bare n=x:=⟨_,rfl⟩;rw[hB]at I ⊢;obtain⟨⟨sn,sa,su,aG,aA,aL,sm,sf,sc,sl,⟨k,t,ka,kc,ks,da,dc,ds,l⟩⟩,hs⟩:∃s',s=s':=⟨_,rfl⟩;rw[hs]at I ⊢;simp only[Ai.val_eqn]at I ⊢;obtain⟨N1,aD⟩:=qeX aL.length;obtain⟨N2,aI⟩:=qeX ks.length;obtain⟨N3,aC⟩:=qeX ds.length;rw[aD,aI,aC]at I ⊢;obtain⟨W1,aB,Z,g1,g2,aU⟩:=Dt w (.cells #[.string ⟨sn.toArray⟩,.string ⟨sa.toArray⟩,.string ⟨su.toArray⟩,.slice aG N1 aA,.int .i64 sm,.int .i64 sf,.int .i64 sc,.int .i64 sl,.int .u8 k,.string ⟨t.toArray⟩,.slice ka N2 kc,.slice da N3 dc,.int .i64 l] 63) (.cells #[.int .u8 0,.int .i64 0,.int .i64 0,.bool false] 159) H hH;obtain⟨⟨a0,b0⟩,⟨a1,b1⟩,⟨a2,b2⟩,⟨a3,b3⟩,⟨a4,b4⟩,⟨a5,b5⟩,⟨a6,b6⟩,⟨a7,b7⟩,⟨a8,b8⟩,⟨a9,b9⟩,⟨aQ,aS⟩,⟨aT,aW⟩,⟨aP,aR⟩⟩:=Am g1;have I:∀V,Calls Tryz.prog 151 #[.agg #[.int .u8 0,.int .i64 0,.int .i64 0,.bool false],.agg #[.string ⟨sn.toArray⟩,.string ⟨sa.toArray⟩,.string ⟨su.toArray⟩,.slice aG N1 aA,.int .i64 sm,.int .i64 sf,.int .i64 sc,.int .i64 sl,.int .u8 k,.string ⟨t.toArray⟩,.slice ka N2 kc,.slice da N3 dc,.int .i64 l],.int .i64 n] V fun e w'=>e=.returned (Au B)∧Below V.heap.size V w':=I;have aE:=Ab I;have aO:=Ab aB;have aM:=Ab Z;have aN:=Ab g2;clear aB Z g1 g2 I hs aD aI aC hB aH;go_enter Tryz.func189,Tryz.ntmps189
 go_upto_region 1 with fail
 try rw[hH]
 rw[Aa aO];obtain⟨bp,ba,bt,bl⟩:=B;unfold Au at aE;go_wp2_with (go_at_call 151;refine(Aa aE _).mono ?_;rintro e w2 ⟨rfl,J⟩;have g3:=Bd.below (c:=P31.Run.zero) (Aa aN) J;obtain⟨⟨x0,y0⟩,⟨x1,y1⟩,⟨x2,y2⟩,⟨x3,y3⟩⟩:=g3.cells;have aK:=Ab g3;have aJ:=Ab ((Aa aM).trans (J.mono (by omega)));clear g3 J)
 have h3:=(Aa aK).out ⟨bp,ba,bt,bl⟩;exact qV (Ah rfl _ _ _ (H+1) _ rfl h3.load) rfl ⟨rfl,Below.set4 (Aa aJ) (Nat.le_succ H) _ _ _ _⟩
end Go.Proofs.YtefokfbgpfcbkaaGreat
namespace Go.Proofs.YtefokfbgpfcbkaaGreat
open Go.RowKit
theorem Aw{fn:Func}{p q:Tmp}{t:TypeId}(h:fn.results=#[.cell p t,.tmp q])(tmps:Array Value)(P:Program)(w:World)(g:Nat)(v:Value)
  (hp:tmps.getD p undef=.pointer (some ⟨g,0,none⟩)) (hl:(loadVar t ⟨g,0,none⟩).run P w=.ok v w):(results fn tmps).run P w=.ok (.tuple #[v,tmps.getD q undef]) w:=by
 have I:tmps[p]?.getD undef=.pointer (some ⟨g,0,none⟩):=by simpa using hp
 simp[results,h,I,asAddr,Sem.run_bind,Result.andThen,hl]
theorem Py(r:P31.Run)(s:Ai)(n:Int)(w:World)(hr:-1000000≤r.att∧r.att≤1000000):Calls Tryz.prog 145 #[Au r,s.val,.int .i64 n] w fun e w'=>e=.returned (Au (P31.fail s.bare n r))∧Below w.heap.size w w':=by
 obtain⟨H,hH⟩:=qeX w.heap.size;rw[hH];have aE:=fun V=>O8 r s n V hr;have aG:=fun V=>Xa s.most s.first s.factor r.att V
 have aH:=fun V=>Xo s.most s.first s.factor r.att V
 have aL:=fun V=>Kd r 4 V;have bK:=fun V=>Nu n V;have cD:=P31.now_le n;have bX:=P31.wait_le s.bare.tries r.att;have aM:s.bare.tries=⟨s.most,s.first,s.factor⟩:=rfl;obtain⟨MO,aZ⟩:∃x,P33.more s.bare.tries r.att=x:=⟨_,rfl⟩;obtain⟨WT,aN⟩:∃x,P31.wait s.bare.tries r.att=x:=⟨_,rfl⟩;obtain⟨NX,bI⟩:∃x,P31.next s.bare n r=x:=⟨_,rfl⟩
 obtain⟨EN,bJ⟩:∃x,P31.end_ r 4=x:=⟨_,rfl⟩;obtain⟨NW,aW⟩:∃x,P31.now n=x:=⟨_,rfl⟩;obtain⟨FA,bG⟩:∃x,P31.fail s.bare n r=x:=⟨_,rfl⟩;have bL:(if r.last=true∨MO=false then EN else if WT=0 then NX else ⟨2,r.att,NW+WT,r.last⟩)=FA:=by rw[←bG,←aZ,←aN,←bI,←bJ,←aW];rfl
 rw[aM]at aZ aN;rw[aZ]at aG;rw[aM,aN]at bX;rw[aN]at aH;rw[bI]at aE;rw[bJ]at aL;rw[aW]at cD;simp only[aW]at bK;rw[bG];clear aZ aN bI bJ aW bG aM;obtain⟨⟨sn,sa,su,cH,cC,bZ,sm,sf,sc,sl,⟨k,t,ka,kc,ks,da,dc,ds,l⟩⟩,hs⟩:∃s',s=s':=⟨_,rfl⟩;rw[hs]at aE aG aH ⊢;simp only[Ai.val_eqn]at aE aG aH ⊢;obtain⟨N1,bW⟩:=qeX bZ.length;obtain⟨N2,bU⟩:=qeX ks.length;obtain⟨N3,bT⟩:=qeX ds.length;rw[bW,bU,bT]at aE ⊢;clear hs bW bU bT;obtain⟨ph,aJ,ti,la⟩:=r;obtain⟨ep,ea,et,el⟩:=EN;obtain⟨np,na,nt,nl⟩:=NX;obtain⟨fp,fa,ft,fl⟩:=FA;unfold Au at aE aL;simp only at aE aG aH aL bL;obtain⟨W1,bV,bM,g0,g1,g2,cK⟩:=I5 w (.cells #[.int .u8 (ph:Int),.int .i64 aJ,.int .i64 ti,.bool la] 159) (.cells #[.string ⟨sn.toArray⟩,.string ⟨sa.toArray⟩,.string ⟨su.toArray⟩,.slice cH N1 cC,.int .i64 sm,.int .i64 sf,.int .i64 sc,.int .i64 sl,.int .u8 k,.string ⟨t.toArray⟩,.slice ka N2 kc,.slice da N3 dc,.int .i64 l] 63) (.cells #[.int .u8 0,.int .i64 0,.int .i64 0,.bool false] 159) H hH;obtain⟨⟨a0,b0⟩,⟨a1,b1⟩,⟨a2,b2⟩,⟨a3,b3⟩,⟨a4,b4⟩,⟨a5,b5⟩,⟨a6,b6⟩,⟨a7,b7⟩,⟨a8,b8⟩,⟨a9,b9⟩,⟨aR,aS⟩,⟨aT,aX⟩,⟨aQ,aY⟩⟩:=Am g1;obtain⟨⟨x0,y0⟩,⟨x1,y1⟩,⟨x2,y2⟩,⟨x3,y3⟩⟩:=Bd.cells (c:=⟨ph,aJ,ti,la⟩) g0;simp only at x0 x1 x2 x3;have cL:IntKind.i64.wrap (NW+WT)=NW+WT:=qG _ (by omega);have cB:=Ab aE;have bO:=Ab aG;have cI:=Ab aH;have bQ:=Ab aL;have cF:=Ab bK;have aU:=Ab bL;have bD:=Ab bV;have Z:=Ab bM;have aD:=Ab g0;have aP:=Ab g1;have J:=Ab g2;clear aE aG aH aL bK bL bV bM g0 g1 g2;unfold Au
 have fin:∀(V:World) (q:P31.Run) (c:P31.Run),Bd V (H+1+1) c→Below H w V→Bd ((((V.setCell ⟨H+1+1,0,none⟩ (.int .u8 (q.phase:Int))).setCell ⟨H+1+1,1,none⟩ (.int .i64 q.att)).setCell ⟨H+1+1,2,none⟩ (.int .i64 q.til)).setCell ⟨H+1+1,3,none⟩ (.bool q.last)) (H+1+1) q∧Below H w ((((V.setCell ⟨H+1+1,0,none⟩ (.int .u8 (q.phase:Int))).setCell ⟨H+1+1,1,none⟩ (.int .i64 q.att)).setCell ⟨H+1+1,2,none⟩ (.int .i64 q.til)).setCell ⟨H+1+1,3,none⟩ (.bool q.last)):=
  fun V q c h hb=>⟨h.out q,Below.set4 hb (by omega) _ _ _ _⟩
 have bF:=Ab fin;clear fin;cases la with
 |true=>
  have hf:=Aa aU;rw[if_pos (.inl rfl)]at hf;cases hf;go_enter Tryz.func145,Tryz.ntmps145
  go_upto_region 1 with fail
  try rw[hH]
  rw[Aa bD];go_wp2_with (go_at_call 144;refine(Aa bQ _).mono ?_;rintro e w2 ⟨rfl,I⟩;have g3:=Bd.below (c:=P31.Run.zero) (Aa J) I;obtain⟨⟨z0,z1⟩,⟨z2,z3⟩,⟨z4,z5⟩,⟨z6,z7⟩⟩:=g3.cells;have aO:=Ab g3;have aK:=Ab ((Aa Z).trans (I.mono (by omega)));clear g3 I)
  obtain⟨h3,h4⟩:=Aa bF _ ⟨ep,ea,et,el⟩ _ (Aa aO) (Aa aK);exact qV (Ah rfl _ _ _ (H+1+1) _ rfl h3.load) rfl ⟨rfl,h4⟩
 |false=>
  cases MO with
  |false=>
   have hf:=Aa aU;rw[if_pos (.inr rfl)]at hf;cases hf;go_enter Tryz.func145,Tryz.ntmps145
   go_upto_region 1 with fail
   try rw[hH]
   rw[Aa bD];go_upto_region 2 with(go_at_call 119;refine(Aa bO _).mono ?_;rintro e w2 ⟨rfl,I⟩)
   have aB:=Bd.below (c:=⟨ph,aJ,ti,false⟩) (Aa aD) I;have g2':=Bd.below (c:=P31.Run.zero) (Aa J) I;have aC:=(Aa Z).trans (I.mono (by omega));clear x0 y0 x1 y1 x2 y2 x3 y3;obtain⟨⟨x0,y0⟩,⟨x1,y1⟩,⟨x2,y2⟩,⟨x3,y3⟩⟩:=aB.cells;have cA:=I.size;have bY:=Ab g2';have cG:=Ab aC;clear aB g2' aC I;go_wp2_with (go_at_call 144;refine(Aa bQ _).mono ?_;rintro e w3 ⟨rfl,aA⟩;have g3:=Bd.below (c:=P31.Run.zero) (Aa bY) aA;obtain⟨⟨z0,z1⟩,⟨z2,z3⟩,⟨z4,z5⟩,⟨z6,z7⟩⟩:=g3.cells;have aO:=Ab g3;have aK:=Ab ((Aa cG).trans (aA.mono (by omega)));clear g3 aA)
   obtain⟨h3,h4⟩:=Aa bF _ ⟨ep,ea,et,el⟩ _ (Aa aO) (Aa aK);exact qV (Ah rfl _ _ _ (H+1+1) _ rfl h3.load) rfl ⟨rfl,h4⟩
  |true=>
   have hf:=Aa aU;rw[if_neg (by simp)]at hf;have HF:=Ab hf;clear hf aU;go_enter Tryz.func145,Tryz.ntmps145
   go_upto_region 1 with fail
   try rw[hH]
   rw[Aa bD];go_upto_region 3 with(go_at_call 119;refine(Aa bO _).mono ?_;rintro e w2 ⟨rfl,I⟩)
   have aB:=Bd.below (c:=⟨ph,aJ,ti,false⟩) (Aa aD) I;have aI:=(I.block (H+1) (by omega)).trans (Aa aP);have g2':=Bd.below (c:=P31.Run.zero) (Aa J) I;have aC:=(Aa Z).trans (I.mono (by omega));have cA:=I.size;clear x0 y0 x1 y1 x2 y2 x3 y3 a0 b0 a1 b1 a2 b2 a3 b3 a4 b4 a5 b5 a6 b6 a7 b7 a8 b8 a9 b9 aR aS aT aX aQ aY aD aP J Z bD;obtain⟨⟨x0,y0⟩,⟨x1,y1⟩,⟨x2,y2⟩,⟨x3,y3⟩⟩:=aB.cells;obtain⟨⟨a0,b0⟩,⟨a1,b1⟩,⟨a2,b2⟩,⟨a3,b3⟩,⟨a4,b4⟩,⟨a5,b5⟩,⟨a6,b6⟩,⟨a7,b7⟩,⟨a8,b8⟩,⟨a9,b9⟩,⟨aR,aS⟩,⟨aT,aX⟩,⟨aQ,aY⟩⟩:=Am aI;have aD:=Ab aB;have aP:=Ab aI;have J:=Ab g2';have Z:=Ab aC;clear aB aI g2' aC I;go_upto_region 4 with(go_at_call 186;refine(Aa cI _).mono ?_;rintro e w3 ⟨rfl,aA⟩)
   have aB:=Bd.below (Aa aD) aA;have aI:=(aA.block (H+1) (by omega)).trans (Aa aP);have g2':=Bd.below (Aa J) aA;have aC:=(Aa Z).trans (aA.mono (by omega));have cJ:=aA.size;clear x0 y0 x1 y1 x2 y2 x3 y3 a0 b0 a1 b1 a2 b2 a3 b3 a4 b4 a5 b5 a6 b6 a7 b7 a8 b8 a9 b9 aR aS aT aX aQ aY aD aP J Z;obtain⟨⟨x0,y0⟩,⟨x1,y1⟩,⟨x2,y2⟩,⟨x3,y3⟩⟩:=aB.cells;obtain⟨⟨a0,b0⟩,⟨a1,b1⟩,⟨a2,b2⟩,⟨a3,b3⟩,⟨a4,b4⟩,⟨a5,b5⟩,⟨a6,b6⟩,⟨a7,b7⟩,⟨a8,b8⟩,⟨a9,b9⟩,⟨aR,aS⟩,⟨aT,aX⟩,⟨aQ,aY⟩⟩:=Am aI;have aD:=Ab aB;have J:=Ab g2';have Z:=Ab aC;clear aB aI g2' aC aA;by_cases bC:WT=0
   ·subst bC;have hf:=Aa HF;rw[if_pos rfl]at hf;cases hf;go_wp2_with (go_at_call 151;refine(Aa cB _).mono ?_;rintro e w4 ⟨rfl,bE⟩;have g3:=Bd.below (Aa J) bE;obtain⟨⟨z0,z1⟩,⟨z2,z3⟩,⟨z4,z5⟩,⟨z6,z7⟩⟩:=g3.cells;have aO:=Ab g3;have aK:=Ab ((Aa Z).trans (bE.mono (by omega)));clear g3 bE)
    obtain⟨h3,h4⟩:=Aa bF _ ⟨np,na,nt,nl⟩ _ (Aa aO) (Aa aK);exact qV (Ah rfl _ _ _ (H+1+1) _ rfl h3.load) rfl ⟨rfl,h4⟩
   ·have cM:(WT==0)=false:=by simpa using bC
    have hf:=Aa HF;rw[if_neg bC]at hf;cases hf;have hR:R2 w H H (H+1+1) ⟨ph,aJ,ti,false⟩ P31.Run.zero w3:=⟨Aa aD,Aa J,Aa Z,by omega,by omega⟩;obtain⟨⟨z0,z1⟩,⟨z2,z3⟩,⟨z4,z5⟩,⟨z6,z7⟩⟩:=(Bd.cells (Aa J));have HR:=Ab hR;clear hR bC;go_wp2_with (go_at_call 150;refine(Aa cF _).mono ?_;rintro e w' ⟨rfl,hw⟩;obtain rfl:=hw.symm)
    have h3:=(((Aa HR).setPhase 2).setTil (NW+WT)).out ⟨2,aJ,NW+WT,false⟩;exact qV (Ah rfl _ _ _ (H+1+1) _ rfl h3.load) rfl ⟨rfl,h3.bel⟩
theorem Q7(r:P31.Run)(s:Ai)(n tr:Int)(oc:Nat)(w:World)(hr:-1000000≤r.att∧r.att≤1000000):Calls Tryz.prog 103 #[Au r,s.val,.int .i64 n,.int .i64 tr,.int .u8 (oc:Int)] w fun e w'=>e=.returned (.tuple #[Au (P31.answer s.bare n r tr oc).1,.bool (P31.answer s.bare n r tr oc).2])∧Below w.heap.size w w':=by
 obtain⟨H,hH⟩:=qeX w.heap.size;rw[hH];have Z:=fun V=>Py r s n V hr;have aH:=fun V=>Kd r 3 V;have aI:=fun V=>Kd r 4 V;obtain⟨E3,aM⟩:∃x,P31.end_ r 3=x:=⟨_,rfl⟩;obtain⟨E4,aK⟩:∃x,P31.end_ r 4=x:=⟨_,rfl⟩;obtain⟨FA,aJ⟩:∃x,P31.fail s.bare n r=x:=⟨_,rfl⟩;obtain⟨AN,aO⟩:∃x,P31.answer s.bare n r tr oc=x:=⟨_,rfl⟩;have aL:(if r.phase≠1∨r.att≠tr then (r,false) else if oc=0 then (E3,true) else if oc=1 then (FA,true) else if oc=2 then (E4,true) else (r,false))=AN:=by rw[←aO,←aM,←aK,←aJ];rfl
 rw[aJ]at Z;rw[aM]at aH;rw[aK]at aI;rw[aO];clear aJ aM aK aO;obtain⟨⟨sn,sa,su,bG,aZ,aX,sm,sf,sc,sl,⟨k,t,ka,kc,ks,da,dc,ds,l⟩⟩,hs⟩:∃s',s=s':=⟨_,rfl⟩;rw[hs]at Z ⊢;simp only[Ai.val_eqn]at Z ⊢;obtain⟨N1,aU⟩:=qeX aX.length;obtain⟨N2,aS⟩:=qeX ks.length;obtain⟨N3,aR⟩:=qeX ds.length;rw[aU,aS,aR]at Z ⊢;clear hs aU aS aR;obtain⟨ph,J,ti,la⟩:=r;obtain⟨ep,ea,et,el⟩:=E3;obtain⟨fp,fa,ft,fl⟩:=E4;obtain⟨np,na,nt,nl⟩:=FA;unfold Au at Z aH aI;simp only at Z aH aI aL;obtain⟨W1,aT,aP,g0,g1,g2,bM⟩:=I5 w (.cells #[.int .u8 (ph:Int),.int .i64 J,.int .i64 ti,.bool la] 159) (.cells #[.string ⟨sn.toArray⟩,.string ⟨sa.toArray⟩,.string ⟨su.toArray⟩,.slice bG N1 aZ,.int .i64 sm,.int .i64 sf,.int .i64 sc,.int .i64 sl,.int .u8 k,.string ⟨t.toArray⟩,.slice ka N2 kc,.slice da N3 dc,.int .i64 l] 63) (.cells #[.int .u8 0,.int .i64 0,.int .i64 0,.bool false] 159) H hH;obtain⟨⟨a0,b0⟩,⟨a1,b1⟩,⟨a2,b2⟩,⟨a3,b3⟩,⟨a4,b4⟩,⟨a5,b5⟩,⟨a6,b6⟩,⟨a7,b7⟩,⟨a8,b8⟩,⟨a9,b9⟩,⟨bJ,bK⟩,⟨bL,bO⟩,⟨bI,bQ⟩⟩:=Am g1;obtain⟨⟨x0,y0⟩,⟨x1,y1⟩,⟨x2,y2⟩,⟨x3,y3⟩⟩:=Bd.cells (c:=⟨ph,J,ti,la⟩) g0;simp only at x0 x1 x2 x3;obtain⟨⟨z0,z1⟩,⟨z2,z3⟩,⟨z4,z5⟩,⟨z6,z7⟩⟩:=Bd.cells (c:=P31.Run.zero) g2;have bE:=Ab Z;have bF:=Ab aH;have aW:=Ab aI;have aN:=Ab aL;have aD:=Ab aT;have aB:=Ab aP;have aC:Hid (Bd W1 (H+1+1) P31.Run.zero):=Ab g2;clear Z aH aI aL aT aP g0 g1 g2;unfold Au
 have fin:∀(V:World) (q:P31.Run) (c:P31.Run),Bd V (H+1+1) c→Below H w V→Bd ((((V.setCell ⟨H+1+1,0,none⟩ (.int .u8 (q.phase:Int))).setCell ⟨H+1+1,1,none⟩ (.int .i64 q.att)).setCell ⟨H+1+1,2,none⟩ (.int .i64 q.til)).setCell ⟨H+1+1,3,none⟩ (.bool q.last)) (H+1+1) q∧Below H w ((((V.setCell ⟨H+1+1,0,none⟩ (.int .u8 (q.phase:Int))).setCell ⟨H+1+1,1,none⟩ (.int .i64 q.att)).setCell ⟨H+1+1,2,none⟩ (.int .i64 q.til)).setCell ⟨H+1+1,3,none⟩ (.bool q.last)):=
  fun V q c h hb=>⟨h.out q,Below.set4 hb (by omega) _ _ _ _⟩
 have aA:=Ab fin;clear fin;by_cases h1:ph≠1∨J≠tr
 ·have ha:=Aa aN;rw[if_pos h1]at ha;subst ha;by_cases h2:ph=1
  ·have h3:J≠tr:=h1.elim (fun h=>absurd h2 h) id;have aY:(J != tr)=true:=by simpa using h3
   have bC:((ph:Int) != 1)=false:=by rw[h2];rfl
   clear h1 h3 h2;go_enter Tryz.func103,Tryz.ntmps103
   go_upto_region 1 with fail
   try rw[hH]
   rw[Aa aD];go_wp2
   (try simp only[Exit.inBlock,Exit.then])
   obtain⟨h3,h4⟩:=Aa aA _ ⟨ph,J,ti,la⟩ _ (Aa aC) (Aa aB);exact qV (Aw rfl _ _ _ (H+1+1) _ rfl h3.load) rfl ⟨rfl,h4⟩
  ·have aY:((ph:Int) != 1)=true:=by simp;omega
   clear h1 h2;go_enter Tryz.func103,Tryz.ntmps103
   go_upto_region 1 with fail
   try rw[hH]
   rw[Aa aD];go_wp2
   (try simp only[Exit.inBlock,Exit.then])
   obtain⟨h3,h4⟩:=Aa aA _ ⟨ph,J,ti,la⟩ _ (Aa aC) (Aa aB);exact qV (Aw rfl _ _ _ (H+1+1) _ rfl h3.load) rfl ⟨rfl,h4⟩
 ·obtain⟨aQ,rfl⟩:ph=1∧J=tr:=by
   refine⟨?_,?_⟩
   ·by_cases h:ph=1
    ·exact h
    ·exact absurd (.inl h) h1
   ·by_cases h:J=tr
    ·exact h
    ·exact absurd (.inr h) h1
  have ha:=Aa aN;rw[if_neg h1]at ha;have HA:=Ab ha;have bC:((ph:Int) != 1)=false:=by rw[aQ];rfl
  clear ha aN h1 aQ;have bD:oc=0∨oc=1∨oc=2∨(oc≠0∧oc≠1∧oc≠2):=by omega
  rcases bD with rfl|rfl|rfl|⟨n0,n1,n2⟩
  ·have ha:=Aa HA;rw[if_pos rfl]at ha;subst ha;go_enter Tryz.func103,Tryz.ntmps103
   go_upto_region 1 with fail
   try rw[hH]
   rw[Aa aD];go_wp2_with (go_at_call 144;refine(Aa bF _).mono ?_;rintro e w2 ⟨rfl,I⟩;have g3:=Bd.below (c:=P31.Run.zero) (Aa aC) I;obtain⟨⟨z0,z1⟩,⟨z2,z3⟩,⟨z4,z5⟩,⟨z6,z7⟩⟩:=g3.cells;have aG:=Ab g3;have aE:=Ab ((Aa aB).trans (I.mono (by omega)));clear g3 I)
   (try simp only[Exit.inBlock,Exit.then])
   obtain⟨h3,h4⟩:=Aa aA _ ⟨ep,ea,et,el⟩ _ (Aa aG) (Aa aE);exact qV (Aw rfl _ _ _ (H+1+1) _ rfl h3.load) rfl ⟨rfl,h4⟩
  ·have ha:=Aa HA;rw[if_neg (by decide),if_pos rfl]at ha;subst ha;go_enter Tryz.func103,Tryz.ntmps103
   go_upto_region 1 with fail
   try rw[hH]
   rw[Aa aD];go_wp2_with (go_at_call 145;refine(Aa bE _).mono ?_;rintro e w2 ⟨rfl,I⟩;have g3:=Bd.below (c:=P31.Run.zero) (Aa aC) I;obtain⟨⟨z0,z1⟩,⟨z2,z3⟩,⟨z4,z5⟩,⟨z6,z7⟩⟩:=g3.cells;have aG:=Ab g3;have aE:=Ab ((Aa aB).trans (I.mono (by omega)));clear g3 I)
   (try simp only[Exit.inBlock,Exit.then])
   obtain⟨h3,h4⟩:=Aa aA _ ⟨np,na,nt,nl⟩ _ (Aa aG) (Aa aE);exact qV (Aw rfl _ _ _ (H+1+1) _ rfl h3.load) rfl ⟨rfl,h4⟩
  ·have ha:=Aa HA;rw[if_neg (by decide),if_neg (by decide),if_pos rfl]at ha;subst ha;go_enter Tryz.func103,Tryz.ntmps103
   go_upto_region 1 with fail
   try rw[hH]
   rw[Aa aD];go_wp2_with (go_at_call 144;refine(Aa aW _).mono ?_;rintro e w2 ⟨rfl,I⟩;have g3:=Bd.below (c:=P31.Run.zero) (Aa aC) I;obtain⟨⟨z0,z1⟩,⟨z2,z3⟩,⟨z4,z5⟩,⟨z6,z7⟩⟩:=g3.cells;have aG:=Ab g3;have aE:=Ab ((Aa aB).trans (I.mono (by omega)));clear g3 I)
   (try simp only[Exit.inBlock,Exit.then])
   obtain⟨h3,h4⟩:=Aa aA _ ⟨fp,fa,ft,fl⟩ _ (Aa aG) (Aa aE);exact qV (Aw rfl _ _ _ (H+1+1) _ rfl h3.load) rfl ⟨rfl,h4⟩
  ·have ha:=Aa HA;rw[if_neg n0,if_neg n1,if_neg n2]at ha;subst ha;have m0:((oc:Int)==0)=false:=by simp;omega
   have m1:((oc:Int)==1)=false:=by simp;omega
   have m2:((oc:Int)==2)=false:=by simp;omega
   clear n0 n1 n2;go_enter Tryz.func103,Tryz.ntmps103
   go_upto_region 1 with fail
   try rw[hH]
   rw[Aa aD];go_wp2
   (try simp only[Exit.inBlock,Exit.then])
   obtain⟨h3,h4⟩:=Aa aA _ ⟨ph,J,ti,la⟩ _ (Aa aC) (Aa aB);exact qV (Aw rfl _ _ _ (H+1+1) _ rfl h3.load) rfl ⟨rfl,h4⟩
theorem Wi(r:P31.Run)(s:Ai)(n:Int)(w:World)(hr:-1000000≤r.att∧r.att≤1000000):Calls Tryz.prog 107 #[Au r,s.val,.int .i64 n] w fun e w'=>e=.returned (.tuple #[Au (P31.tick s.bare n r).1,.bool (P31.tick s.bare n r).2])∧Below w.heap.size w w':=by
 obtain⟨H,hH⟩:=qeX w.heap.size;rw[hH];have I:=fun V=>Py r s n V hr;have J:=fun V=>O8 r s n V hr;have aP:=fun V=>Nu n V;obtain⟨NX,aI⟩:∃x,P31.next s.bare n r=x:=⟨_,rfl⟩
 obtain⟨FA,aH⟩:∃x,P31.fail s.bare n r=x:=⟨_,rfl⟩;obtain⟨NW,aL⟩:∃x,P31.now n=x:=⟨_,rfl⟩;obtain⟨AN,aN⟩:∃x,P31.tick s.bare n r=x:=⟨_,rfl⟩;have aJ:(if NW<r.til then (r,false) else if r.phase=1 then (FA,true) else if r.phase=2 then (NX,true) else (r,false))=AN:=by rw[←aN,←aI,←aL,←aH];rfl
 rw[aH]at I;rw[aI]at J;simp only[aL]at aP;rw[aN];clear aH aI aL aN;obtain⟨⟨sn,sa,su,bO,bG,bD,sm,sf,sc,sl,⟨k,t,ka,kc,ks,da,dc,ds,l⟩⟩,hs⟩:∃s',s=s':=⟨_,rfl⟩;rw[hs]at I J ⊢;simp only[Ai.val_eqn]at I J ⊢;obtain⟨N1,aZ⟩:=qeX bD.length;obtain⟨N2,aT⟩:=qeX ks.length;obtain⟨N3,aR⟩:=qeX ds.length;rw[aZ,aT,aR]at I J ⊢;clear hs aZ aT aR;obtain⟨ph,aB,ti,la⟩:=r;obtain⟨fp,fa,ft,fl⟩:=NX;obtain⟨np,na,nt,nl⟩:=FA;unfold Au at I J;simp only at I J aJ;obtain⟨W1,aW,aA,g0,g1,g2,bE⟩:=I5 w (.cells #[.int .u8 (ph:Int),.int .i64 aB,.int .i64 ti,.bool la] 159) (.cells #[.string ⟨sn.toArray⟩,.string ⟨sa.toArray⟩,.string ⟨su.toArray⟩,.slice bO N1 bG,.int .i64 sm,.int .i64 sf,.int .i64 sc,.int .i64 sl,.int .u8 k,.string ⟨t.toArray⟩,.slice ka N2 kc,.slice da N3 dc,.int .i64 l] 63) (.cells #[.int .u8 0,.int .i64 0,.int .i64 0,.bool false] 159) H hH;have aS:=fun q=>aP (W1.drewN q);obtain⟨W0,bL⟩:=qeX W1;have bK:=Ab I;have bF:=Ab J;have bJ:=Ab aS;have aM:=Ab aJ;have bM:=Ab aW;have aX:=Ab aA;have bC:=Ab g0;have aQ:=Ab g1;have aU:=Ab g2;obtain⟨⟨x0,y0⟩,⟨x1,y1⟩,⟨x2,y2⟩,⟨x3,y3⟩⟩:=Bd.cells (c:=⟨ph,aB,ti,la⟩) g0;simp only at x0 x1 x2 x3;clear I J aP aS aJ aW aA g0 g1 g2 bL;unfold Au
 have fin:∀(V:World) (q:P31.Run) (c:P31.Run),Bd V (H+1+1) c→Below H w V→Bd ((((V.setCell ⟨H+1+1,0,none⟩ (.int .u8 (q.phase:Int))).setCell ⟨H+1+1,1,none⟩ (.int .i64 q.att)).setCell ⟨H+1+1,2,none⟩ (.int .i64 q.til)).setCell ⟨H+1+1,3,none⟩ (.bool q.last)) (H+1+1) q∧Below H w ((((V.setCell ⟨H+1+1,0,none⟩ (.int .u8 (q.phase:Int))).setCell ⟨H+1+1,1,none⟩ (.int .i64 q.att)).setCell ⟨H+1+1,2,none⟩ (.int .i64 q.til)).setCell ⟨H+1+1,3,none⟩ (.bool q.last)):=
  fun V q c h hb=>⟨h.out q,Below.set4 hb (by omega) _ _ _ _⟩
 have aC:=Ab fin;clear fin;go_enter Tryz.func107,Tryz.ntmps107
 go_upto_region 1 with fail
 try rw[hH]
 rw[Aa bM];refine wp_region_quiet_lit (by kernel_rfl) (by kernel_rfl) ?_
 repeat (go_big_quiet_step (exact Calls.quiet_of_same (Aa bJ _)))
 refine wpQuiet_nil ?_;rintro _ ⟨nq,rfl⟩;have g0:(W1.drewN nq).heap[H]?=_:=Aa bC;have g1:(W1.drewN nq).heap[H+1]?=_:=Aa aQ;have g2:Bd (W1.drewN nq) (H+1+1) P31.Run.zero:=Aa aU;have aA:Below H w (W1.drewN nq):=(Aa aX).trans (Ac (qU _ _));have aY:(W1.drewN nq).heap.size=H+1+1+1:=bE;obtain⟨V,hV⟩:=qeX (W1.drewN nq);rw[hV]at g0 g1 g2 aA aY ⊢;clear hV x0 y0 x1 y1 x2 y2 x3 y3;obtain⟨⟨a0,b0⟩,⟨a1,b1⟩,⟨a2,b2⟩,⟨a3,b3⟩,⟨a4,b4⟩,⟨a5,b5⟩,⟨a6,b6⟩,⟨a7,b7⟩,⟨a8,b8⟩,⟨a9,b9⟩,⟨bT,bU⟩,⟨bV,bW⟩,⟨bQ,bX⟩⟩:=Am g1;obtain⟨⟨x0,y0⟩,⟨x1,y1⟩,⟨x2,y2⟩,⟨x3,y3⟩⟩:=Bd.cells (c:=⟨ph,aB,ti,la⟩) g0;simp only at x0 x1 x2 x3;obtain⟨⟨z0,z1⟩,⟨z2,z3⟩,⟨z4,z5⟩,⟨z6,z7⟩⟩:=Bd.cells (c:=P31.Run.zero) g2;have aE:=Ab g2;have aD:=Ab aA;clear g0 g1 g2 aA;by_cases aK:NW<ti
 ·have ha:=Aa aM;rw[if_pos aK]at ha;subst ha;have d1:decide (ti≤NW)=false:=by simp;omega
  have d2:¬ti≤NW:=by omega
  go_wp2
  (try simp only[Exit.inBlock,Exit.then])
  obtain⟨h3,h4⟩:=Aa aC _ ⟨ph,aB,ti,la⟩ _ (Aa aE) (Aa aD);exact qV (Aw rfl _ _ _ (H+1+1) _ rfl h3.load) rfl ⟨rfl,h4⟩
 ·have d1:decide (ti≤NW)=true:=by simp;omega
  have d2:ti≤NW:=by omega
  have ha:=Aa aM;rw[if_neg aK]at ha;have HA:=Ab ha;clear ha aM aK;have bI:ph=1∨ph=2∨(ph≠1∧ph≠2):=by omega
  rcases bI with e1|e2|⟨n1,n2⟩
  ·have ha:=Aa HA;rw[if_pos e1]at ha;subst ha;have m1:((ph:Int)==1)=true:=by rw[e1];rfl
   clear e1;go_wp2_with (go_at_call 145;refine(Aa bK _).mono ?_;rintro e w2 ⟨rfl,Z⟩;have g3:=Bd.below (c:=P31.Run.zero) (Aa aE) Z;obtain⟨⟨z0,z1⟩,⟨z2,z3⟩,⟨z4,z5⟩,⟨z6,z7⟩⟩:=g3.cells;have aO:=Ab g3;have aG:=Ab ((Aa aD).trans (Z.mono (by omega)));clear g3 Z)
   (try simp only[Exit.inBlock,Exit.then])
   obtain⟨h3,h4⟩:=Aa aC _ ⟨np,na,nt,nl⟩ _ (Aa aO) (Aa aG);exact qV (Aw rfl _ _ _ (H+1+1) _ rfl h3.load) rfl ⟨rfl,h4⟩
  ·have ha:=Aa HA;rw[if_neg (by omega),if_pos e2]at ha;subst ha;have m1:((ph:Int)==1)=false:=by rw[e2];rfl
   have m2:((ph:Int)==2)=true:=by rw[e2];rfl
   clear e2;go_wp2_with (go_at_call 151;refine(Aa bF _).mono ?_;rintro e w2 ⟨rfl,Z⟩;have g3:=Bd.below (c:=P31.Run.zero) (Aa aE) Z;obtain⟨⟨z0,z1⟩,⟨z2,z3⟩,⟨z4,z5⟩,⟨z6,z7⟩⟩:=g3.cells;have aO:=Ab g3;have aG:=Ab ((Aa aD).trans (Z.mono (by omega)));clear g3 Z)
   (try simp only[Exit.inBlock,Exit.then])
   obtain⟨h3,h4⟩:=Aa aC _ ⟨fp,fa,ft,fl⟩ _ (Aa aO) (Aa aG);exact qV (Aw rfl _ _ _ (H+1+1) _ rfl h3.load) rfl ⟨rfl,h4⟩
  ·have ha:=Aa HA;rw[if_neg n1,if_neg n2]at ha;subst ha;have m1:((ph:Int)==1)=false:=by simp;omega
   have m2:((ph:Int)==2)=false:=by simp;omega
   clear n1 n2;go_wp2
   (try simp only[Exit.inBlock,Exit.then])
   obtain⟨h3,h4⟩:=Aa aC _ ⟨ph,aB,ti,la⟩ _ (Aa aE) (Aa aD);exact qV (Aw rfl _ _ _ (H+1+1) _ rfl h3.load) rfl ⟨rfl,h4⟩
theorem Xm(r:P31.Run)(w:World):Calls Tryz.prog 149 #[Au r] w fun e w'=>e=.returned (Au (P31.stop r))∧Below w.heap.size w w':=by
 obtain⟨H,hH⟩:=qeX w.heap.size;rw[hH];have Z:=fun V=>Kd r 4 V;obtain⟨ph,I,ti,J⟩:=r;have hE:P31.end_ ⟨ph,I,ti,J⟩ 4=⟨4,I,0,J⟩:=rfl;rw[hE]at Z;have aE:P31.stop ⟨ph,I,ti,J⟩=if ph=0∨ph=2 then ⟨4,I,0,true⟩ else if ph=1 then ⟨1,I,ti,true⟩ else ⟨ph,I,ti,J⟩:=rfl;rw[aE];unfold Au at Z;simp only at Z;obtain⟨W1,aG,aD,g0,g1,aL⟩:=Dt w (.cells #[.int .u8 (ph:Int),.int .i64 I,.int .i64 ti,.bool J] 159) (.cells #[.int .u8 0,.int .i64 0,.int .i64 0,.bool false] 159) H hH;have h1:R2 w H H (H+1) ⟨ph,I,ti,J⟩ P31.Run.zero W1:=⟨g0,g1,aD,by omega,by omega⟩;obtain⟨⟨⟨a0,b0⟩,⟨a1,b1⟩,⟨a2,b2⟩,⟨a3,b3⟩⟩,⟨⟨c0,d0⟩,⟨c1,d1⟩,⟨c2,d2⟩,⟨c3,d3⟩⟩⟩:=h1.cells;simp only at a0 a1 a2 a3;have aK:=Ab Z;have aC:=Ab aG;have H1:=Ab h1;clear Z aG aD g0 g1 h1 aE hE;have aH:(ph=0∨ph=2)∨ph=1∨(ph≠0∧ph≠1∧ph≠2):=by omega
 rcases aH with h0|h1|⟨n0,n1,n2⟩
 ·rw[if_pos h0];have fin:∀V,R2 w H H (H+1) ⟨4,I,0,J⟩ P31.Run.zero V→R2 w H H (H+1) ⟨4,I,0,true⟩ ⟨4,I,0,true⟩ (((((V.setCell ⟨H,3,none⟩ (.bool true)).setCell ⟨H+1,0,none⟩ (.int .u8 4)).setCell ⟨H+1,1,none⟩ (.int .i64 I)).setCell ⟨H+1,2,none⟩ (.int .i64 0)).setCell ⟨H+1,3,none⟩ (.bool true)):=fun V h=>(h.setLast true).out ⟨4,I,0,true⟩;have aI:=Ab fin;clear fin;unfold Au;rcases h0 with e0|e2
  case' inl=>
   have m0:((ph:Int)==0)=true:=by rw[e0];rfl
   clear e0
  case' inr=>
   have m0:((ph:Int)==0)=false:=by rw[e2];rfl
   have m2:((ph:Int)==2)=true:=by rw[e2];rfl
   clear e2
  all_goals
   go_enter Tryz.func149,Tryz.ntmps149
   go_upto_region 1 with fail
   try rw[hH]
   rw[Aa aC];go_upto_region 6 with(go_at_call 144;refine(Aa aK _).mono ?_;rintro e w2 ⟨rfl,aJ⟩;have h2:=(Aa H1).below aJ;obtain⟨⟨⟨x0,y0⟩,⟨x1,y1⟩,⟨x2,y2⟩,⟨x3,y3⟩⟩,⟨⟨z0,z1⟩,⟨z2,z3⟩,⟨z4,z5⟩,⟨z6,z7⟩⟩⟩:=h2.cells;have H2:=Ab h2;clear h2)
   have h3:=(((((Aa H2).setPhase 4).setAtt I).setTil 0).setLast J);obtain⟨W3,aB⟩:=qeX ((((w2.setCell ⟨H,0,none⟩ (.int .u8 4)).setCell ⟨H,1,none⟩ (.int .i64 I)).setCell ⟨H,2,none⟩ (.int .i64 0)).setCell ⟨H,3,none⟩ (.bool J));have aA:R2 w H H (H+1) ⟨4,I,0,J⟩ P31.Run.zero W3:=by rw[←aB];exact h3
   rw[aB];clear h3 aB x0 y0 x1 y1 x2 y2 x3 y3 z0 z1 z2 z3 z4 z5 z6 z7 a0 b0 a1 b1 a2 b2 a3 b3 c0 d0 c1 d1 c2 d2 c3 d3;obtain⟨⟨⟨x0,y0⟩,⟨x1,y1⟩,⟨x2,y2⟩,⟨x3,y3⟩⟩,⟨⟨z0,z1⟩,⟨z2,z3⟩,⟨z4,z5⟩,⟨z6,z7⟩⟩⟩:=aA.cells;simp only at x0 x1 x2 x3;have H3:=Ab aA;clear aA;go_wp2
   (try simp only[Exit.inBlock,Exit.then])
   have h4:=Aa aI _ (Aa H3);exact qV (Ah rfl _ _ _ (H+1) _ rfl h4.load) rfl ⟨rfl,h4.bel⟩
 ·rw[if_neg (by omega),if_pos h1,show (⟨1,I,ti,true⟩:P31.Run)=⟨ph,I,ti,true⟩ by rw[h1]];have m0:((ph:Int)==0)=false:=by rw[h1];rfl
  have m2:((ph:Int)==2)=false:=by rw[h1];rfl
  have m1:((ph:Int)==1)=true:=by rw[h1];rfl
  clear h1;unfold Au;go_enter Tryz.func149,Tryz.ntmps149
  go_upto_region 1 with fail
  try rw[hH]
  rw[Aa aC];go_wp2
  (try simp only[Exit.inBlock,Exit.then])
  have h4:=((Aa H1).setLast true).out ⟨ph,I,ti,true⟩;exact qV (Ah rfl _ _ _ (H+1) _ rfl h4.load) rfl ⟨rfl,h4.bel⟩
 ·rw[if_neg (by omega),if_neg n1];have m0:((ph:Int)==0)=false:=by simp;omega
  have m1:((ph:Int)==1)=false:=by simp;omega
  have m2:((ph:Int)==2)=false:=by simp;omega
  clear n0 n1 n2;unfold Au;go_enter Tryz.func149,Tryz.ntmps149
  go_upto_region 1 with fail
  try rw[hH]
  rw[Aa aC];go_wp2
  (try simp only[Exit.inBlock,Exit.then])
  have h4:=(Aa H1).out ⟨ph,I,ti,J⟩;exact qV (Ah rfl _ _ _ (H+1) _ rfl h4.load) rfl ⟨rfl,h4.bel⟩
end Go.Proofs.YtefokfbgpfcbkaaGreat
