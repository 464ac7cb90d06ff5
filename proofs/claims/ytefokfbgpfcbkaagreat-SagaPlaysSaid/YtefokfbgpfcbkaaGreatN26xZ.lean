import Derived.Test.YtefokfbgpfcbkaaGreatN27xZ
set_option maxRecDepth 100000
set_option maxHeartbeats 8000000
set_option linter.unusedVariables false
set_option linter.unusedSimpArgs false
namespace Go.Proofs.YtefokfbgpfcbkaaGreat
open Go.RowKit
attribute [local go_sem] Oper.semAt_some
def Zj(x:Nat):Array Value:=#[.int .i64 x]
theorem P5(n B b bx bi N i:Nat)(vs:Nat→Value)(RS:List (List Nat))(l:List Nat)(R T:Nat→Prop)(W:World)(aI:W.heap[bx]?=some (.cells #[.slice (some ⟨b,0,none⟩) N N] 47))(aH:W.heap[bi]?=some (.cells #[.int .i64 i] 3))
  (hg:C0 W B b vs RS) (hN:RS.length=N) (hi:RS[i]?=some l) (aJ:∀x∈l,x<N) (aD:∀g,Ce b vs N g→R g) (aR:R bx) (aC:R bi) (hR:∀r,R r→r<W.heap.size) (bY:N≤100000) :
  Xl Fence.wide n Tryz.prog 265 #[qP0 bx,qP0 bi] Zj l R T W:=by
 intro ly J Jx hJ aL hM hY M0 bE h0;have aU:∀r,M0 r→r<W.heap.size∧¬R r:=hM 0 M0 W h0
 have aK:∀m q x M V,l[q]?=some x→J q M V→W.heap.size≤V.heap.size→YieldAt Fence.wide m Tryz.prog ly (Zj x) V fun e W'=>
   ∃M',Aj M V M' W'∧((e=.returned (.bool true)∧J (q+1) M' W')∨(e=.returned (.bool false)∧Jx (q+1) M' W')):=
  fun m q x M V hx hj hs=>YieldAt.anyD rfl m (hY q x M V hx hj hs)
 have bJ:i<N:=by rw[←hN];exact(qI.1 hi).1
 obtain⟨x0,_⟩:=A1 aI;obtain⟨x1,_⟩:=A1 aH;obtain⟨ra,rc,Z,aB,aP,aM⟩:=(hg.own i l hi).slice;have I:=hg.row.cell (i:=i) (by rw[hN];exact bJ);rw[Z]at I;obtain⟨A,hA⟩:=qeX l.length;rw[hA]at I Z aB;have bI:A≤maxLen:=by omega
 unfold maxLen at bI;have bD:=Ab aI;have bW:=Ab aH;have HG:=Ab hg;have bO:=Ab hN;have HI:=Ab hi;have bF:=Ab aJ;have aN:=Ab aD;have bM:=Ab aR;have bQ:=Ab aC;have bZ:=Ab hR;have aZ:=Ab aU;have HM:=Ab hM;have HJ:=Ab hJ;have bV:=Ab aL;have HY:=Ab aK;have bC:=Ab Z;have HA:=Ab hA;have H0:=Ab h0;clear aI aH hg hN hi aJ aD aR aC hR aU hM hJ aL hY aK Z hA aM bE h0 aB aP;refine callsIn_of_wp Tryz.func265 rfl trivial ?_ rfl;simp only[Tryz.ntmps265,zE,qE,qP,Nat.reduceAdd,Nat.reduceSub,Array.replicate_succ,Array.replicate_zero,List.push_toArray,List.append_toArray,zR,zQ]
 gi_wp2
 gi_loopg [11] A (fun g bL wx=>∃(j:Nat) (M:Nat→Prop),j+g=A∧bL=.int .i64 j∧Hid (Aj M0 W M wx)∧Hid (J j M wx))
 case atStart=>exact⟨0,M0,by omega,by go_num,Ab (Aj.refl _ _),H0⟩
 case round=>
  obtain⟨j,M,cA,rfl,HK,aW⟩:=hrel;clear x0 x1 I;have hk:=Aa HK;have aE:∀r,R r→¬M0 r:=fun r h1 h2=>(Aa aZ r h2).2 h1;have bT:=hk.size;cases gk with
  |zero=>
   have e1:(A:Int)≤(j:Int):=by omega
   have j1:decide ((j:Int)<(A:Int))=false:=by simp;omega
   have hfin:=Aa aW;rw[show j=l.length by rw[Aa HA];omega]at hfin;have aO:=Ab hfin;clear hfin hk
   gi_wp2
   go_end0;exact⟨⟨_,rfl⟩,M,.inl (Aa aO)⟩
  |succ g'=>
   have aJ:(j:Int)<(A:Int):=by omega
   have hkj:IntKind.i64.wrap ((j:Int)+1)=(j:Int)+1:=qG _ (by omega);obtain⟨x,hx⟩:=Ap (Aa HA) (show j<A by omega);have bU:=Aa bF x (qN hx);have d1:decide ((x:Int)≥0)=true:=by simp
   have d2:decide ((x:Int)<(N:Int))=true:=by simp;omega
   have aS:=(Aa HG).keep (W':=wr) (fun g aQ=>hk.same g (aE g (Aa aN g (by rw[←Aa bO];exact aQ))) ((Aa HG).lt aQ).2);have aG:=hk.at (aE bx (Aa bM)) (Aa bD);obtain⟨aY,bX,e,_,_,aA⟩:=(aS.own i l (Aa HI)).slice;rw[Aa bC]at e;have e1:aY=ra:=by injection e with e1 _ _;exact e1.symm
   clear e;subst e1;obtain⟨rb,ro,rfl,cj⟩:=aA j x hx;unfold iv at cj;obtain⟨y0,_⟩:=A1 aG
   have aX:=((Aa HY) (n-1) _ _ M wr hx (Aa aW) (by omega)).mono
    (R':=fun e W'=>∃bb,e=.returned (.bool bb)∧Hid (∃M',Aj M wr M' W'∧((bb=true∧J (j+1) M' W')∨(bb=false∧Jx (j+1) M' W')))) (by
     rintro e W' ⟨M',hk,(⟨rfl,h⟩|⟨rfl,h⟩)⟩
     ·exact⟨true,rfl,Ab ⟨M',hk,.inl ⟨rfl,h⟩⟩⟩
     ·exact⟨false,rfl,Ab ⟨M',hk,.inr ⟨rfl,h⟩⟩⟩)
   obtain⟨fn,tmps,assign,body,hy,hR⟩:=aX;replace hy:(Instr.yield ly #[.int .i64 x]).run Tryz.prog wr=.ok (.round ly fn tmps assign body) wr:=hy;have bG:j<l.length:=(qI.1 hx).1;clear hk aS aG aA hx
   gi_wp2
   refine⟨fun h=>(by cases h),hR.mono ?_⟩;rintro e W3 ⟨bb,rfl,HB⟩;clear hy hR;cases bb
   ·gi_wp2
    refine qV (results_none rfl _ _ _) rfl ?_;obtain⟨M',hk,(⟨h,_⟩|⟨_,h⟩)⟩:=Aa HB
    ·cases h
    ·exact⟨⟨_,rfl⟩,M',.inr ⟨_,bG,h⟩⟩
   ·have aT:∃M',Aj M wr M' W3∧J (j+1) M' W3:=by
     obtain⟨M',hk,(⟨_,h⟩|⟨h,_⟩)⟩:=Aa HB
     ·exact⟨M',hk,h⟩
     ·cases h
    have bK:=Ab aT;clear aT HB
    gi_wp2
    go_roundg g'
    case measure=>omega
    case rel=>
     obtain⟨M',hk,h⟩:=Aa bK;exact⟨j+1,M',by omega,by go_num,Ab ((Aa HK).trans hk),Ab h⟩
theorem Zn(b N i:Nat)(W:World):Calls Tryz.prog 251 #[.slice (some ⟨b,0,none⟩) N N,.int .i64 i] W fun e w'=>
  e=.returned (.func (.func 265) #[] #[.pointer (some ⟨W.heap.size,0,none⟩),.pointer (some ⟨W.heap.size+1,0,none⟩)])∧w'=(W.alloc (.cells #[.slice (some ⟨b,0,none⟩) N N] 47)).alloc (.cells #[.int .i64 i] 3):=by
 go_enter Tryz.func251,Tryz.ntmps251
 go_wp2;go_ret;exact⟨by simp,rfl⟩
end Go.Proofs.YtefokfbgpfcbkaaGreat
namespace Go.Proofs.YtefokfbgpfcbkaaGreat
open Go.RowKit
attribute [local go_sem] Oper.semAt_some
structure Rl (w:World) (H:Nat) (tv:Value) (M:Nat→Prop) (V:World):Prop where
 m:∀r,M r↔r=H+1
 bx:V.heap[H]?=some (.cells #[tv] 49)
 res:V.heap[H+1]?=some (.cells #[.bool false] 4)
 below:Below H w V
 size:H+4≤V.heap.size
theorem Rl.abides{w V V':World}{H:Nat}{tv:Value}{M:Nat→Prop}{row:Option Nat}(h:Rl w H tv M V)(hg:V.grownBy V' row)(hr:∀r,row=some r→¬M r∧¬(r≤H∨r=H+2∨r=H+3)):Rl w H tv M V':=by
 have I:=h.size;refine⟨h.m,(hg.block _ (by omega) (fun e=>?_)).trans h.bx,(hg.block _ (by omega) (fun e=>?_)).trans h.res,h.below.grown hg (by omega) (fun k e=>?_),qK h.size hg.size⟩
 ·exact(hr _ e.symm).2 (.inl (qJ _))
 ·exact(hr _ e.symm).1 ((h.m _).2 rfl)
 ·have:=(hr k e).2;omega
theorem Zq(B b tb N i:Nat)(vs:Nat→Value)(RS:List (List Nat))(l:List Nat)(th:Nat→Bool)(w:World)(hg:C0 w B b vs RS)(hN:RS.length=N)(hi:RS[i]?=some l)(aH:∀x∈l,x<N)
  (aC:w.rowIs tb 4 N (fun j=>.bool (th j))) (bC:N≤100000) :
  Calls Tryz.prog 220 #[.slice (some ⟨b,0,none⟩) N N,.slice (some ⟨tb,0,none⟩) N N,.int .i64 i] w fun e w'=>e=.returned (.bool (l.all th))∧Below w.heap.size w w':=by
 obtain⟨H,hH⟩:=qeX w.heap.size;rw[hH];obtain⟨W1,aL,aJ,g0,g1,aQ⟩:=Dt w (.cells #[.slice (some ⟨tb,0,none⟩) N N] 49) (.cells #[.bool false] 4) H hH;obtain⟨W2,aO,aA,g2,g3,bF⟩:=Dt W1 (.cells #[.slice (some ⟨b,0,none⟩) N N] 47) (.cells #[.int .i64 i] 3) (H+1+1) aQ;have hh:=Zn b N i W1;rw[aQ,aO]at hh;have aE:Below H w W2:=aJ.trans (aA.mono (by omega));have aG:C0 W2 B b vs RS:=hg.below (by rw[hH];exact aE);have aN:∀g,Ce b vs N g→g<H:=fun g h=>by rw[←hN]at h;rw[←hH];exact(hg.lt h).2
 have aX:tb<H:=by rw[←hH];exact aC.lt
 have aK:=fun V (J:W2.grownBy V none)=>P5 (40-1) B b (H+1+1) (H+1+1+1) N i vs RS l (fun r=>r≤H∨r=H+2∨r=H+3) (fun _=>False) V ((J.block _ (by omega) (by simp)).trans g2) ((J.block _ (by omega) (by simp)).trans g3)
  (aG.keep (fun g aW=>J.block g (aG.lt aW).2 (by simp))) hN hi aH (fun g h=>.inl (Nat.le_of_lt (aN g h))) (.inr (.inl rfl)) (.inr (.inr rfl)) (fun r hr=>by have:=J.size;omega) bC
 have aP:Rl w H (.slice (some ⟨tb,0,none⟩) N N) (fun r=>r=H+1) W2:=⟨fun r=>Iff.rfl,(aA.block _ (by omega)).trans g0,(aA.block _ (by omega)).trans g1,aE,by omega⟩;have bD:=Ab aL;have HH:=Ab hh;have aZ:=Ab aK;have aU:=Ab aP;have bE:=Ab aC;have aY:=Ab aH;clear aL aO aJ aA g0 g1 g2 g3 hh aE aG aN aK aP aC hg hi aH hN;refine(callsIn_wide (n:=40)).1 ?_;refine callsIn_of_wp_marks Tryz.func220 rfl trivial ?_ rfl;simp only[Tryz.ntmps220,zE,qE,qP,Nat.reduceAdd,Nat.reduceSub,Array.replicate_succ,Array.replicate_zero,List.push_toArray,List.append_toArray,zR,zQ]
 gi_upto_region 1 with fail
 try rw[hH]
 rw[Aa bD]
 gi_wp2_with (refine⟨trivial,?_⟩;gi_at_call 251;refine(callsIn_wide.2 (Aa HH)).mono ?_;rintro e w' ⟨rfl,hw⟩;obtain rfl:=hw.symm)
 generalize hA:({ tmps:=_,defers:=_ }:Act)=A
 refine Bu rfl (by omega) (gf:=265) (lb:=#[.pointer (some ⟨H+1+1,0,none⟩),.pointer (some ⟨H+1+1+1,0,none⟩)]) (by rw[←hA];rfl) trivial (enters_of Tryz.func265 (by kernel_rfl) rfl)
  (encs:=Zj) l (fun r=>r≤H∨r=H+2∨r=H+3) (fun _=>False) (fun r hr=>by omega)
  (fun V J _=>Aa aZ V J) (fun _=>rfl)
  (fun j M V=>Rl w H (.slice (some ⟨tb,0,none⟩) N N) M V∧(l.take j).all th=true)
  (fun c j M V=>c=.ret∧Rl w H (.slice (some ⟨tb,0,none⟩) N N) M V∧l.all th=false)
  (fun j M V V' row hi hg hr=>⟨hi.1.abides hg hr,hi.2⟩) (fun c j M V V' row hi hg hr=>⟨hi.1,hi.2.1.abides hg hr,hi.2.2⟩)
  (fun j M V hi r hr=>⟨by have:=(hi.1.m r).1 hr;have:=hi.1.size;omega,by have:=(hi.1.m r).1 hr;omega⟩)
  (fun r=>r=H+1) (fun r hr=>hr.elim)
  ⟨Aa aU,by simp⟩
  (fun j x M a' V=>Rl w H (.slice (some ⟨tb,0,none⟩) N N) M V∧(l.take j).all th=true∧a'=(A.put (some 11) (.int .i64 x)).put (some 7) (.int .i64 x))
  ?hB ?assign ?body ?done ?stop
 case hB=>
  rintro j x M a' V V' row ⟨hi,h0,rfl⟩ hg hr;exact⟨hi.abides hg hr,h0,rfl⟩
 case assign=>
  rintro l2 j x M V K hx ⟨hi,h0⟩ hV hK;subst hA;unfold Zj;have aM:=hK M _ V ⟨rfl,rfl,rfl,qJ _,fun _ _ _=>rfl⟩ (fun r hr=>.inl hr) ⟨hi,h0,rfl⟩;have HK:=Ab aM;clear aM hK
  gi_wp2
  exact Aa HK
 case body=>
  rintro l2 j x M a' V hx ⟨hi,h0,rfl⟩ hV;subst hA;obtain⟨c0,_⟩:=A1 hi.bx;obtain⟨c1,f1⟩:=A1 hi.res;have aT:=Aa aY x (qN hx);have ht:=((Aa bE).of_block (hi.below.block tb aX)).cell aT;have d1:decide ((x:Int)≥(N:Int))=false:=by simp;omega
  have HI:=Ab hi;cases hq:th x with
  |true=>
   rw[hq]at ht;have Z:(l.take (j+1)).all th=true:=by rw[List.take_add_one,hx];simp[List.all_append,h0,hq]
   have aD:=Ab Z;clear hi Z h0 hq
   gi_wp2
   exact⟨M,Aj.refl _ _,Aa HI,Aa aD⟩
  |false=>
   rw[hq]at ht
   have Z:l.all th=false:=by
    rw[Bool.eq_false_iff];intro h;have:=List.all_eq_true.1 h x (qN hx);rw[hq]at this;cases this
   have aD:=Ab Z;clear hi Z h0 hq
   gi_wp2
   have hi:=Aa HI;have aI:=grownBy_setCell' V (H+1) (.bool false);refine⟨M,.grown aI (fun r e=>by cases e;exact .inl ((hi.m _).2 rfl)),rfl,⟨hi.m,(aI.block _ (by have:=hi.size;omega) (by simp)).trans hi.bx,Wb hi.res _,hi.below.grown aI (by have:=hi.size;omega) (fun k e=>by cases e;omega),by have:=hi.size;simpa using this⟩,Aa aD⟩
 case done=>
  rintro D M V rfl aS ⟨hi,h0⟩ hK;subst hA;rw[List.take_of_length_le (qJ _)]at h0;obtain⟨c1,f1⟩:=A1 hi.res;have HI:=Ab hi;have H0:=Ab h0;clear hi h0
  gi_wp2
  have hi:=Aa HI;have hz:=hi.size;have aR:(V.setCell ⟨H+1,0,none⟩ (.bool true)).heap[W2.heap.size]?=some (.deferred (some [])):=(qC _ _ _ _ (by show W2.heap.size≠H+1;omega)).trans hK;refine⟨by simp,.inl ⟨_,_,rfl,run_takeDeferred aR,?_⟩⟩;have I:=(World.putObj_heap_other (o:=.deferred none) (show H+1≠W2.heap.size by omega)).trans (Wb hi.res (.bool true));refine⟨_,Ah rfl _ _ _ (H+1) _ rfl (C4 _ _ _ _ _ Tryz.underlying4 rfl (A1 I).1),by rw[Aa H0],?_⟩;exact(hi.below.grown (grownBy_setCell' V (H+1) (.bool true)) (by omega) (fun k e=>by cases e;omega)).grown (grownBy_putObj' _ W2.heap.size (.deferred none)) (by simp;omega) (fun k e=>by cases e;omega)
 case stop=>
  rintro D c j M V rfl aS hj ⟨rfl,hi,aB⟩ hK;subst hA;have HI:=Ab hi;have HA:=Ab aB;clear hi aB
  gi_wp2
  have hi:=Aa HI;have hz:=hi.size;refine⟨by simp,.inl ⟨_,_,rfl,run_takeDeferred hK,?_⟩⟩;have I:=(World.putObj_heap_other (o:=.deferred none) (show H+1≠W2.heap.size by omega)).trans hi.res;refine⟨_,Ah rfl _ _ _ (H+1) _ rfl (C4 _ _ _ _ _ Tryz.underlying4 rfl (A1 I).1),by rw[Aa HA],?_⟩;exact hi.below.grown (grownBy_putObj' _ W2.heap.size (.deferred none)) (by omega) (fun k e=>by cases e;omega)
end Go.Proofs.YtefokfbgpfcbkaaGreat
namespace Go.Proofs.YtefokfbgpfcbkaaGreat
open Go.RowKit
theorem Bf{w:World}{B:Nat}{v:Value}{l:List Nat}{j:Nat}{ops:Array Oper}{rest:List Oper}{o:Oper}{a:Act}{Q:Exit→Act→World→Prop}(aB:o.guard=none)(s x:Operand)
  (ho:o.op=.call { callee:=.builtin .append,args:=#[s,x],argTypes:=#[48,48] })
  (hs:a.eval s=v) (J:A5 w B v l) (g cap:Nat) (hx:a.eval x=.slice (some ⟨g,0,none⟩) 1 cap) (Z:w.heap[g]?=some (.cells #[.int .i64 j] 3))
  (m:Nat) (hm:l.length=m) (aE:m+1≤1000000000000) (hB:B≤w.heap.size)
  (h:∀g' I w',A5 w' B (.slice (some ⟨g',0,none⟩) (m+1) I) (l++[j])→w.grownBy w' v.ownBlock→(v.ownBlock=some g'∨g'=w.heap.size)→g'<w'.heap.size→wpList Tryz.prog ops Q rest (a.put o.dst (.slice (some ⟨g',0,none⟩) (m+1) I)) w') :
  wpList Tryz.prog ops Q (o::rest) a w:=by
 subst hm;obtain⟨i,hi,hz,hsz,aC⟩:=info_parts Oo
 refine wpList_append_lies (P:=Tryz.prog) w aB s x 48 ho B 3 i (.int .i64 0) 1 8 Tryz.underlying48 hi hz hsz aC rfl (by decide) v l.length (l.map iv) hs J
  ⟨g,0,none⟩ 1 cap [.int .i64 j] hx rfl (World.news_of_block (fr:=(0,0)) Z) (by intro u hu;simp at hu;subst hu;rfl) (by decide) (by unfold maxLen;omega) (by omega) hB _ rfl ?_
 intro g' I w' h2 h3 aA aD;refine h g' I w' ?_ h3 aA aD;unfold A5;rw[qH,List.map_append];exact h2
theorem P8:(Tryz.prog.info? 4).map (fun i=>(i.zero,i.size,i.bytes))=some (some (.bool false),1,1):=by kernel_rfl
structure Wv (w V:World) (H N:Nat) (th:List Bool) (out:List Nat) (v:Value):Prop where
 own:A5 V (H+1) v out
 row:V.rowIs H 4 N (fun j=>.bool (th.getD j false))
 len:th.length=N
 bel:Below H w V
 size:H+1≤V.heap.size
theorem Wv.below{w V V':World}{H N:Nat}{th:List Bool}{out:List Nat}{v:Value}(h:Wv w V H N th out v)(hb:Below V.heap.size V V'):Wv w V' H N th out v:=by
 have I:=h.size;exact⟨h.own.keep (fun g hg=>hb.block g (h.own.lt hg).2),h.row.of_block (hb.block _ (by omega)),h.len,h.bel.trans (hb.mono (by omega)),qK h.size hb.size⟩
theorem Wv.next{w V V2:World}{H N i:Nat}{th:List Bool}{out:List Nat}{v v2:Value}(h:Wv w V H N th out v)(hi:i<N)(J:A5 V2 (H+1) v2 (out++[i]))(Z:(V.setCell ⟨H,i,none⟩ (.bool true)).heap.size≤V2.heap.size)(I:V2.heap[H]?=(V.setCell ⟨H,i,none⟩ (.bool true)).heap[H]?)(hb:Below H w V2):Wv w V2 H N (th.set i true) (out++[i]) v2:=by
 refine⟨J,((h.row.set i (.bool true)).congr (fun j hj=>?_)).of_block I,by rw[List.length_set];exact h.len,hb,by have:=h.size;simp at Z;omega⟩;have hl:=h.len;by_cases e:j=i
 ·subst e;rw[if_pos rfl];simp[List.getD_eq_getElem?_getD,List.getElem?_set,hl,hj]
 ·rw[if_neg e];simp[List.getD_eq_getElem?_getD,List.getElem?_set,Ne.symm e]
theorem Gz(I:List (List Nat))(th:List Bool)(n i:Nat):P28.nextFrom I th (n+1) i=if th.getD i false=false∧P28.mayB I th i=true then some i else P28.nextFrom I th n (i+1):=rfl
theorem Dk(I:List (List Nat))(f:Nat)(th:List Bool)(out:List Nat):P28.orderGo I (f+1) th out=match P28.next I th with|none=>out|some i=>P28.orderGo I f (th.set i true) (out++[i]):=rfl
theorem Uq(B b N:Nat)(vs:Nat→Value)(RS:List (List Nat))(w:World)(hg:C0 w B b vs RS)(hN:RS.length=N)(bC:∀l∈RS,∀x∈l,x<N)(cK:N≤100000) :
  Calls Tryz.prog 196 #[.slice (some ⟨b,0,none⟩) N N] w fun e w'=>∃v bb,e=.returned (.tuple #[v,.bool bb])∧A5 w' w.heap.size v (P28.order RS)∧Below w.heap.size w w':=by
 obtain⟨H,hH⟩:=qeX w.heap.size;have cU:=fun V=>run_make_row' (P:=Tryz.prog) 49 4 (.bool false) 1 Tryz.underlying49 P8 rfl .i64 .i64 N (by omega) (by omega) V;obtain⟨W1,bM,bF,g0,cX⟩:=As w (.cells (madeCells #[.bool false] N) 4) H hH;have aE:P28.orderGo RS N (List.replicate N false) []=P28.order RS:=by unfold P28.order;rw[hN]
 obtain⟨aB,aG⟩:=qeX (P28.order RS);rw[aG]at aE;have bU:Wv w W1 H N (List.replicate N false) [] (.slice none 0 0):=⟨A5.nil _ _,⟨_,g0,size_madeCells _ _,fun i hi=>by simp[madeCells,hi,Nat.mod_one,List.getD_eq_getElem?_getD]⟩,by simp,bF,by omega⟩;have aO:=fun(V:World) (hV:Below H w V) (i:Nat) (l:List Nat) (hi:RS[i]?=some l) (th:List Bool) (hr:V.rowIs H 4 N (fun j=>.bool (th.getD j false)))=>Zq B b H N i vs RS l (fun j=>th.getD j false) V (hg.below (by rw[hH];exact hV)) hN hi (bC l (qN hi)) hr cK;have bD:∀th:List Bool,P28.nextFrom RS th N 0=P28.next RS th:=fun th=>by unfold P28.next;rw[hN]
 have aA:∀(th:List Bool) (i:Nat) (l:List Nat),RS[i]?=some l→P28.mayB RS th i=l.all (fun j=>th.getD j false):=fun th i l h=>by unfold P28.mayB;rw[List.getD_eq_getElem?_getD,h];rfl
 rw[aG,hH];have cM:=Ab bM;have bW:=Ab aE;have cI:=Ab bU;have bT:=Ab aO;have cH:=Ab bD;have cJ:=Ab aA;have HN:=Ab hN;clear bM aE bU aO bD aA hg bC bF g0 hN aG;go_enter Tryz.func196,Tryz.ntmps196
 go_wp2;go_step3;go_upto_region 2 with fail
 try rw[hH]
 rw[Aa cM];go_wp2;go_step3;go_wp2
 go_loopg [5] N (fun g s5 wx=>∃(th:List Bool) (out:List Nat) (v:Value),out.length+g=N∧s5=v∧Hid (Wv w wx H N th out v)∧Hid (P28.orderGo RS g th out=aB))
 case atStart=>exact⟨_,[],_,by simp,rfl,cI,bW⟩
 case round=>
  obtain⟨th,out,v,cR,rfl,HO,HG⟩:=hrel;obtain⟨va,vc,rfl,bY,bE,_⟩:=(Aa HO).own.slice;cases gk with
  |zero=>
   have e1:(N:Int)≤(out.length:Int):=by omega
   have j1:decide ((out.length:Int)<(N:Int))=false:=by simp;omega
   have hfin:out=aB:=Aa HG;have aH:=Ab hfin;clear hfin bY bE;go_wp2
   (try rw[Exit.noGoto_ret])
   (try simp only[Exit.inBlock,Exit.then])
   refine qV (results_tmp2 rfl _ _ _) rfl ?_;have ho:=Aa HO;exact⟨_,_,rfl,by rw[←Aa aH];exact ho.own.base (by omega),ho.bel⟩
  |succ g'=>
   have bC:(out.length:Int)<(N:Int):=by omega
   obtain⟨NX,aW⟩:=qeX (P28.next RS th)
   have aT:=Aa HG;rw[Dk,aW]at aT;have bG:P28.nextFrom RS th N 0=NX:=by rw[Aa cH,aW]
   have bQ:=Ab aT;have cF:=Ab bG;clear aT bG aW HG;go_wp2
   go_loopg [5,17] N (fun g2 s5 cA wy=>∃(i:Nat),i+g2=N∧cA=.int .i64 i∧s5=.slice va out.length vc∧Hid (Wv w wy H N th out (.slice va out.length vc))∧Hid (P28.nextFrom RS th g2 i=NX))
   case atStart=>exact⟨0,by omega,by go_num,rfl,HO,cF⟩
   case round=>
    obtain⟨i,cT,rfl,rfl,aC,HF⟩:=hrel;cases gk with
    |zero=>
     have e2:(N:Int)≤(i:Int):=by omega
     have j2:decide ((i:Int)<(N:Int))=false:=by simp;omega
     have cG:none=NX:=Aa HF;subst cG;have hfin:out=aB:=Aa bQ;have aH:=Ab hfin;clear hfin bY bE;go_wp2
     (try rw[Exit.noGoto_ret])
     (try simp only[Exit.inBlock,Exit.then])
     refine qV (results_tmp2 rfl _ _ _) rfl ?_;have ho:=Aa aC;exact⟨_,_,rfl,by rw[←Aa aH];exact ho.own.base (by omega),ho.bel⟩
    |succ g2=>
     have cO:(i:Int)<(N:Int):=by omega
     have cW:IntKind.i64.wrap ((i:Int)+1)=(i:Int)+1:=qG _ (by omega);have hf:=Aa HF;rw[Gz]at hf;obtain⟨l,hl⟩:∃l,RS[i]?=some l:=Ap (Aa HN) (by omega);have aA:=Aa cJ th i l hl;have ho:=Aa aC;have Z:=ho.row.cell (i:=i) (by omega);have aY:=ho.row.frozen i;cases ht:th.getD i false with
     |true=>
      rw[ht]at Z hf;rw[if_neg (by simp)]at hf;have aX:=Ab hf;clear hf aA ho hl aY ht;go_wp2;go_roundg g2
      case measure=>omega
      case rel=>exact⟨i+1,by omega,by go_num,rfl,aC,aX⟩
     |false=>
      rw[ht]at Z hf;have hm:=Aa bT wr ho.bel i l hl th ho.row;rw[←aA]at hm;obtain⟨mb,aD⟩:=qeX (P28.mayB RS th i);rw[aD]at hm hf;have bK:=Ab hm;cases mb with
      |false=>
       rw[if_neg (by simp)]at hf;have aX:=Ab hf;clear hf aA ho hl aY ht hm aD;go_wp2_with (go_at_call 220;refine(Aa bK).mono ?_;rintro e w2 ⟨rfl,aU⟩)
       go_roundg g2
       case measure=>omega
       case rel=>exact⟨i+1,by omega,by go_num,rfl,Ab ((Aa aC).below aU),aX⟩
      |true=>
       rw[if_pos ⟨rfl,rfl⟩]at hf;subst hf;have aP:P28.orderGo RS g' (th.set i true) (out++[i])=aB:=Aa bQ;have bI:=Ab aP;clear aA ho hl aY ht hm aD aP;go_upto_region 8 with(go_at_call 220;refine(Aa bK).mono ?_;rintro e w2 ⟨rfl,aU⟩)
       have J:=(Aa aC).below aU;have aN:=J.row.cell (i:=i) (by omega);have bL:=J.row.frozen i;have cV:=J.size;obtain⟨W3,aJ⟩:=qeX (w2.setCell ⟨H,i,none⟩ (.bool true));have cD:W3.heap.size=w2.heap.size:=by rw[←aJ];simp
       have aQ:∀g,g≠H→W3.heap[g]?=w2.heap[g]?:=fun g hg=>by rw[←aJ];exact qC _ _ _ _ hg
       have bJ:Below H w W3:=by rw[←aJ];exact J.bel.setCell (p:=⟨H,i,none⟩) (qJ H) _
       obtain⟨W4,bV,aR,g4,cS⟩:=As W3 (.cells #[.int .i64 i] 3) w2.heap.size cD;have aL:A5 W4 (H+1) (.slice va out.length vc) out:=(J.own.keep (fun g hg=>aQ g (by have:=(J.own.lt hg).1;omega))).keep (fun g hg=>aR.block g (J.own.lt hg).2);have cB:(Value.slice va out.length vc).ownBlock≠some H:=fun e=>by have:=(J.own.lt e).1;omega
       have bO:=Ab J;have aS:=Ab aJ;have cN:=Ab bV;have cC:=Ab bJ;have bX:=Ab aR;have cL:=Ab g4;have aI:=Ab aL;clear J aJ bV aQ bJ aR g4 aL Z aC HO;go_upto_region 9 with fail
       rw[Aa aS];clear aN bL;go_wp2_with (rw[Aa cN];refine Bf (j:=i) (by rfl) _ _ (by rfl) (by rfl) (Aa aI) w2.heap.size 1 (by rfl) (Aa cL) out.length rfl (by omega) (by omega) ?_;intro g5 cP w5 aM I bZ cQ)
       have aK:=(Aa bO).next (i:=i) (V2:=w5) (by omega) aM (by rw[Aa aS];have:=I.size;omega) (by rw[Aa aS];exact(I.block H (by omega) (fun e=>cB e.symm)).trans ((Aa bX).block H (by omega)))
        ((((Aa cC).trans ((Aa bX).mono (by omega)))).grown I (by omega) (fun k e=>by have:=((Aa aI).lt e).1;omega))
       have aZ:=Ab aK;clear aK aM I bZ;go_roundg g'
       case measure=>omega
       case rel=>exact⟨_,_,_,by simp;omega,rfl,aZ,bI⟩
open Go.RowKit
theorem Cw(o:List Nat)(n i:Nat):P28.roundFrom o (n+1) i=(if i∈o then [] else [i])++P28.roundFrom o n (i+1):=rfl
theorem Ih(o:List Nat):∀(n i x:Nat),x∈P28.roundFrom o n i→x<i+n
 |0,i,x,h=>by simp[P28.roundFrom]at h
 |n+1,i,x,h=>by
  rw[Cw]at h;rcases zG.1 h with h|h
  ·split at h
   ·simp at h
   ·simp at h;omega
  ·have:=Ih o n (i+1) x h;omega
theorem D8(o:List Nat):∀(n i:Nat),(P28.roundFrom o n i).length≤n
 |0,i=>by simp[P28.roundFrom]
 |n+1,i=>by
  rw[Cw,qH];have:=D8 o n (i+1);split<;>simp<;>omega
structure RoI (w V:World) (H:Nat) (o out:List Nat) (vo v:Value):Prop where
 ow:A5 V H vo o
 own:A5 V H v out
 ne:∀g,v.ownBlock=some g→vo.ownBlock≠some g
 bel:Below H w V
theorem Ux(B b N:Nat)(vs:Nat→Value)(RS:List (List Nat))(w:World)(hg:C0 w B b vs RS)(hN:RS.length=N)(aQ:∀l∈RS,∀x∈l,x<N)(bJ:N≤100000) :
  Calls Tryz.prog 167 #[.slice (some ⟨b,0,none⟩) N N] w fun e w'=>∃v,e=.returned v∧A5 w' w.heap.size v (P28.round RS)∧Below w.heap.size w w':=by
 have J:=Uq B b N vs RS w hg hN aQ bJ;obtain⟨H,hH⟩:=qeX w.heap.size;rw[hH]at J ⊢;obtain⟨O,hO⟩:=qeX (P28.order RS);have hrd:P28.roundFrom O N 0=P28.round RS:=by unfold P28.round;rw[hO,hN]
 rw[hO]at J;obtain⟨aP,aM⟩:∃R,P28.round RS=R:=⟨_,rfl⟩;rw[aM]at hrd ⊢;have aZ:=Ab J;have bO:=Ab hrd;clear J hrd aM hO hg aQ hN;go_enter Tryz.func167,Tryz.ntmps167
 go_upto_region 2 with(go_at_call 196;refine(Aa aZ).mono ?_;rintro e w1 ⟨vo,bb,rfl,aO,aN⟩;obtain⟨oa,oc,rfl,cB,cC,_⟩:=aO.slice)
 have bC:=aN.size;rw[hH]at bC;have bD:RoI w w1 H O [] (.slice oa O.length oc) (.slice none 0 0):=⟨aO,A5.nil _ _,(fun g e=>by cases e),aN⟩;have bF:=Ab bD;clear aO aN bD;go_wp2
 go_loopg [5,14] N (fun g s5 bM wx=>∃(i:Nat) (out:List Nat) (v:Value),i+g=N∧bM=.int .i64 i∧s5=v∧out.length≤i∧H≤wx.heap.size∧Hid (RoI w wx H O out (.slice oa O.length oc) v)∧Hid (out++P28.roundFrom O g i=aP))
 case atStart=>exact⟨0,[],_,by omega,by go_num,rfl,by simp,bC,bF,by simpa using bO⟩
 case round=>
  obtain⟨i,out,v,bW,rfl,rfl,bU,aT,HI,HR⟩:=hrel;cases gk with
  |zero=>
   have e1:(N:Int)≤(i:Int):=by omega
   have j1:decide ((i:Int)<(N:Int))=false:=by simp;omega
   have hfin:out=aP:=by have h:=Aa HR;simpa[P28.roundFrom]using h
   have aU:=Ab hfin;clear hfin;go_wp2;go_ret;have hi:=Aa HI;exact⟨_,rfl,by rw[←Aa aU];exact hi.own,hi.bel⟩
  |succ g'=>
   have aQ:(i:Int)<(N:Int):=by omega
   have bZ:IntKind.i64.wrap ((i:Int)+1)=(i:Int)+1:=qG _ (by omega);obtain⟨va,vc,rfl,bY,bV,_⟩:=(Aa HI).own.slice;obtain⟨aH,bX,e,_,_,aX⟩:=(Aa HI).ow.slice;have e1:aH=oa:=by injection e with e1 _ _;exact e1.symm
   clear e;subst e1;have aA:=Gy aH oc O (i:Int) wr aX (by omega)
   have aK:decide ((i:Int)∈O.map (fun y:Nat=>(y:Int)))=decide (i∈O):=by
    rw[Bool.eq_iff_iff,decide_eq_true_eq,decide_eq_true_eq,List.mem_map];constructor
    ·rintro⟨y,hy,e⟩;rw[←show y=i by omega];exact hy
    ·intro h;exact⟨i,h,rfl⟩
   rw[aK]at aA;have hr:=Aa HR;rw[Cw]at hr;have HC:=Ab aA;clear aX aA aK;by_cases Z:i∈O
   ·have d1:decide (i∈O)=true:=by simpa using Z
    rw[if_pos Z,zR]at hr;have aR:=Ab hr;clear hr Z;go_wp2_with (go_at_call 77;refine(Aa HC).mono ?_;rintro e w2 ⟨rfl,hw⟩;obtain rfl:=hw.symm)
    go_roundg g'
    case measure=>omega
    case rel=>exact⟨i+1,out,_,by omega,by go_num,rfl,by omega,aT,HI,aR⟩
   ·have d1:decide (i∈O)=false:=by simpa using Z
    rw[if_neg Z]at hr;have aW:(out++[i])++P28.roundFrom O g' (i+1)=aP:=by rw[zH];exact hr
    have hi:=Aa HI;obtain⟨W4,aY,aG,g4,bG⟩:=As wr (.cells #[.int .i64 i] 3) wr.heap.size rfl;have aD:A5 W4 H (.slice va out.length vc) out:=hi.own.keep (fun g hg=>aG.block g (hi.own.lt hg).2);have aI:A5 W4 H (.slice aH O.length oc) O:=hi.ow.keep (fun g hg=>aG.block g (hi.ow.lt hg).2);have aR:=Ab aW;have bQ:=Ab aY;have bI:=Ab aG;have bL:=Ab g4;have aB:=Ab aD;have aJ:=Ab aI;clear hr Z aW hi aY aG g4 aD aI;go_wp2_with (first|(go_at_call 77;refine(Aa HC).mono ?_;rintro e w2 ⟨rfl,hw⟩;obtain rfl:=hw.symm)|(rw[Aa bQ];refine Bf (j:=i) (by rfl) _ _ (by rfl) (by rfl) (Aa aB) wr.heap.size 1 (by rfl) (Aa bL) out.length rfl (by omega) (by omega) ?_;intro g5 bE w5 aE I aL bT))
    have hi:=Aa HI
    have aC:RoI w w5 H O (out++[i]) (.slice aH O.length oc) (.slice (some ⟨g5,0,none⟩) (out.length+1) bE):=⟨(Aa aJ).keep (fun g hg=>I.block g ((Aa aJ).lt hg).2 (fun e=>hi.ne g e.symm hg)),aE,fun g e=>by
     cases e;rcases aL with h|h
     ·exact hi.ne _ h
     ·intro h2;have h3:g5<wr.heap.size:=(hi.ow.lt h2).2;rw[bG]at h;omega,(hi.bel.trans ((Aa bI).mono aT)).grown I (by omega) (fun k e=>((Aa aB).lt e).1)⟩
    have aS:=Ab aC;have cA:=I.size;have bK:H≤w5.heap.size:=by omega
    clear aC aE I aL hi;go_roundg g'
    case measure=>omega
    case rel=>exact⟨i+1,_,_,by omega,by go_num,rfl,by simp;omega,bK,aS,aR⟩
open Go.RowKit
theorem O4{W:World}{B:Nat}{v:Value}{ns:List P28.Note}(I:A0 W B v ns)(ty:TypeId):(Builtin.append_ #[124,124] ty #[v,.slice none 0 0]).run Tryz.prog W=.ok v W:=by
 obtain⟨i,hi,hz,hsz,aC⟩:=info_parts Kz;have ht:=Tryz.underlying124;rcases I.2 with⟨rfl,h0⟩|⟨g,cap,aB,rfl,aD,hg,Z,aE,aA,J⟩
 ·simp[Builtin.append_,run_underlying ht,sizeOf,typeInfo,hi,Builtin.lenOf,Builtin.firstCells,loadCells,loadCellsFrom]
 ·simp[Builtin.append_,run_underlying ht,sizeOf,typeInfo,hi,Builtin.lenOf,Builtin.firstCells,loadCells,loadCellsFrom];rw[if_pos Z];simp[storeCells]
theorem Q5{W:World}{B B2:Nat}{v u:Value}{ns ms:List P28.Note}(I:A0 W B v ns)(hu:A0 W B2 u ms)(ty:TypeId)(aC:ns.length+ms.length≤1000000000000)(hB:B≤W.heap.size) :
  ∃J w',(Builtin.append_ #[124,124] ty #[v,u]).run Tryz.prog W=.ok J w'∧A0 w' B J (ns++ms)∧W.grownBy w' v.ownBlock:=by
 have aB:=hu;rcases hu.2 with⟨rfl,h0⟩|⟨g,cap,aE,rfl,aH,hg,aD,aI,aG,aA⟩
 ·have e:ms=[]:=qT h0;subst e;exact⟨v,W,O4 I ty,by simpa using I,⟨rfl,rfl,rfl,qJ _,fun _ _ _=>rfl⟩⟩
 ·obtain⟨i,hi,hz,hsz,Z⟩:=info_parts Kz
  obtain⟨J,w',h1,h2,h3,_⟩:=run_append_own (P:=Tryz.prog) W B 124 ty 183 i (.agg #[.int .i64 0,.int .i64 0,.string ⟨#[]⟩]) 3 32 Tryz.underlying124 hi hz hsz Z rfl (by decide) v ns.length (B5 ns) I
   ⟨g,0,none⟩ ms.length cap (B5 ms) (Hh ms) (fun j x hj=>(aB.cells (g:=g) rfl) j x hj) (fun x hx=>by
    unfold B5 at hx;obtain⟨n,_,hx⟩:=List.mem_flatMap.1 hx;simp[Bq]at hx
    rcases hx with rfl|rfl|rfl<;>rfl) (by unfold maxLen;omega) (by omega) hB
  refine⟨J,w',h1,?_,h3⟩;unfold A0;rw[qH];have e:B5 (ns++ms)=B5 ns++B5 ms:=by unfold B5;rw[List.flatMap_append]
  rw[e];exact h2
theorem Gh{w:World}{B B2:Nat}{v u:Value}{ns ms:List P28.Note}{ops:Array Oper}{rest:List Oper}{o:Oper}{a:Act}{Q:Exit→Act→World→Prop}(aA:o.guard=none)(s x:Operand)
  (ho:o.op=.call { callee:=.builtin .append,args:=#[s,x],argTypes:=#[124,124] })
  (hs:a.eval s=v) (J:A0 w B v ns) (hx:a.eval x=u) (hu:A0 w B2 u ms) (I:ns.length+ms.length≤1000000000000) (hB:B≤w.heap.size)
  (h:∀Z w',A0 w' B Z (ns++ms)→w.grownBy w' v.ownBlock→wpList Tryz.prog ops Q rest (a.put o.dst Z) w') :
  wpList Tryz.prog ops Q (o::rest) a w:=by
 obtain⟨Z,w',hr,h2,h3⟩:=Q5 J hu o.type I hB;refine wpList_plain aA fun K hK=>?_;unfold Oper.wp execOp;simp only[ho,resolve,invoke,builtin,Sem.run_bind,Sem.run_pure,Result.andThen_ok,List.map_toArray,List.map_cons,List.map_nil,hs,hx,hr];exact hK _ _ (h Z w' h2 h3)
theorem P28.sort_len(l:List P28.Note):(P28.sortN l).length≤l.length:=by
 unfold P28.sortN;rw[List.length_mergeSort];exact P28.once_len l
theorem Su(d:P22.Def)(hl:d.steps.length≤100000)(I:∀s∈d.steps,s.after.length≤1000000):(P28.namesP d).length≤400000000000:=by
 have h1:=P28.nt_le d.steps.isEmpty (-1) 17 [];have h2:=P28.nt_le (!P28.right d.name) (-1) 18 d.name;have h3:=Fa (P28.names d) d.steps 0;have h4:=Gt (P28.names d) (P28.refL (P28.names d) 0 (P28.afters d)) []
 have J:=D2 (P28.names d) 1000000 (P28.afters d) 0 (fun x hx=>by
  obtain⟨s,hs,rfl⟩:=List.mem_map.1 hx
  exact I s hs)
 have Z:(P28.afters d).length=d.steps.length:=by simp[P28.afters]
 rw[Z]at J;have h7:d.steps.length*1000000≤100000*1000000:=Nat.mul_le_mul_right _ hl;unfold P28.namesP;simp only[qH];omega
theorem Pp(d:P22.Def)(hl:d.steps.length≤100000)(I:∀s∈d.steps,s.after.length≤1000000):(P28.boundsP d).length≤400000000000:=by
 have h1:=E9 d.steps 0
 have h2:=Fc (P28.undos d) (P28.names d) 1000000 (P28.refs d) 0 (Ii _ 1000000 _ 0 (fun a ha=>by
  obtain⟨s,hs,rfl⟩:=List.mem_map.1 ha
  exact I s hs))
 rw[P28.refs_len]at h2;have J:d.steps.length*1000000≤100000*1000000:=Nat.mul_le_mul_right _ hl;unfold P28.boundsP;simp only[qH];omega
theorem Zi(d:P22.Def):(P28.cyc d).length≤d.steps.length:=by
 unfold P28.cyc P28.round;rw[qX];have:=D8 (P28.order (P28.refs d)) (P28.refs d).length 0;rw[P28.refs_len]at this ⊢;exact this
structure RdI (w V:World) (H:Nat) (d:Af) (rs:List Nat) (ns:List P28.Note) (vr v:Value):Prop where
 df:V.heap[H]?=some (Be d)
 rw_:A5 V (H+1) vr rs
 own:A0 V (H+1) v ns
 ne:∀g,v.ownBlock=some g→vr.ownBlock≠some g
 bel:Below H w V
 size:H+1≤V.heap.size
theorem Te(d:Af)(w:World)(aS:d.In w)(hl:d.steps.length≤100000)(bY:∀s∈d.steps,s.after.length≤1000000) :
  Calls Tryz.prog 126 #[d.val] w fun e w'=>∃v,e=.returned v∧A0 w' w.heap.size v (P28.cyc d.bare)∧Below w.heap.size w w':=by
 have aE:=fun r (hr:d.blk r)=>aS.lt hr;obtain⟨H,hH⟩:=qeX w.heap.size;rw[hH]at aE ⊢;obtain⟨W1,bX,aZ,g0,cT⟩:=As w (Be d) H hH;have aX:=aS.below (by rw[hH];exact aZ);have aH:=Ko d W1 aX hl bY
 have bF:∀l∈P28.refs d.bare,∀x∈l,x<d.steps.length:=fun l h x hx=>by
  have:=P28.refs_lt h hx;simpa[Af.bare]using this
 have aR:(P28.refs d.bare).length=d.steps.length:=by rw[P28.refs_len];simp[Af.bare]
 have aA:=fun B b vs V (hg:C0 V B b vs (P28.refs d.bare))=>Ux B b d.steps.length vs (P28.refs d.bare) V hg aR bF hl
 have aK:P28.cyc d.bare=(P28.round (P28.refs d.bare)).map fun(i:Nat)=>((i:Int),(16:Int),(d.steps.map Ai.name).getD i []):=by
  unfold P28.cyc;simp[P28.names,Af.bare,Ai.bare,Function.comp_def]
 have aJ:∀x∈P28.round (P28.refs d.bare),x<d.steps.length:=fun x hx=>by
  have:=Ih _ _ _ _ hx;omega
 have aD:(P28.round (P28.refs d.bare)).length≤d.steps.length:=by
  have:=D8 (P28.order (P28.refs d.bare)) (P28.refs d.bare).length 0;rw[aR]at this;unfold P28.round;rw[aR];exact this
 obtain⟨RR,bK⟩:=qeX (P28.round (P28.refs d.bare));rw[bK]at aA aK aJ aD;rw[aK];obtain⟨⟨k0,_⟩,⟨k1,_⟩,⟨k2,_⟩⟩:=Ag g0;have aT:=Ab bX;have bW:=Ab g0;have bQ:=Ab aZ;have cM:=Ab aS;have cP:=Ab aE;have Z:=Ab aH;have J:=Ab aA;have aI:=Ab aJ;clear bX aZ g0 aS aX aE aH aA bF aR aK aJ bK bY;unfold Be at aT;obtain⟨nm,tx,sa,sc,ss⟩:=d;obtain⟨M,hM⟩:=qeX ss.length;unfold Af.val at Z ⊢;simp only at hl k0 k1 k2 aT Z J aI aD ⊢;rw[hM]at hl k2 aT Z J aI aD ⊢;have HM:=Ab hM;clear hM;go_enter Tryz.func126,Tryz.ntmps126
 go_upto_region 2 with fail
 try rw[hH]
 rw[Aa aT];go_upto_region 3 with(first|(go_at_call 59;refine(Aa Z).mono ?_;rintro e w2 ⟨bR,vs,rfl,bL,aO⟩)|(go_at_call 167;refine(Aa J _ _ _ _ bL).mono ?_;rintro e w3 ⟨vr,rfl,bD,aP⟩;obtain⟨ra,rc,rfl,cC,cV,_⟩:=bD.slice))
 have cS:=aO.size;have cR:=aP.size;have hI:RdI w w3 H ⟨nm,tx,sa,sc,ss⟩ RR [] (.slice ra RR.length rc) (.slice none 0 0):=⟨(aP.block H (by omega)).trans ((aO.block H (by omega)).trans (Aa bW)),bD.base (by omega),A0.nil _ _,(fun g e=>by cases e),((Aa bQ).trans (aO.mono (by omega))).trans (aP.mono (by omega)),by omega⟩;have HI:=Ab hI;clear hI aO aP bL bD k0 k1 k2 bW bQ;obtain⟨NR,bC⟩:=qeX RR.length;rw[bC]at HI aD cC ⊢;have cA:=Ab bC;clear bC;go_wp2
 go_loopg [3,10] NR (fun g s3 cG wx=>∃(i:Nat) (v:Value),i+g=NR∧cG=.int .i64 i∧s3=v∧Hid (RdI w wx H ⟨nm,tx,sa,sc,ss⟩ RR ((RR.take i).map fun(i:Nat)=>((i:Int),(16:Int),(ss.map Ai.name).getD i [])) (.slice ra NR rc) v))
 case atStart=>exact⟨0,_,by omega,by go_num,rfl,by simpa using HI⟩
 case round=>
  obtain⟨i,v,cQ,rfl,rfl,bV⟩:=hrel;cases gk with
  |zero=>
   have e1:(NR:Int)≤(i:Int):=by omega
   have j1:decide ((i:Int)<(NR:Int))=false:=by simp;omega
   have cB:RR.take i=RR:=List.take_of_length_le (by rw[Aa cA];omega);have hi:=Aa bV;rw[cB]at hi;have aM:=Ab hi;clear hi cB;go_wp2;go_ret;exact⟨_,rfl,(Aa aM).own.base (by omega),(Aa aM).bel⟩
  |succ g'=>
   have bF:(i:Int)<(NR:Int):=by omega
   have cX:IntKind.i64.wrap ((i:Int)+1)=(i:Int)+1:=qG _ (by omega);have hi:=Aa bV;obtain⟨x,hx⟩:=Ap (Aa cA) (show i<NR by omega);have cK:=Aa aI x (qN hx);obtain⟨cD,cW,e,_,_,aY⟩:=hi.rw_.slice;have e1:cD=ra:=by injection e with e1 _ _;exact e1.symm
   clear e;subst e1;obtain⟨rb,ro,rfl,cj⟩:=aY i x hx;unfold iv at cj;obtain⟨s2,bJ⟩:=Ap (Aa HM) cK;have bT:=((Aa cM).below (by rw[hH];exact hi.bel)).steps;obtain⟨b2,o2,rfl,c1,cF⟩:=bT.get bJ;obtain⟨⟨c0,_,_,_⟩,_,_⟩:=Ar c1;obtain⟨⟨k0,_⟩,⟨k1,_⟩,⟨k2,_⟩⟩:=Ag hi.df;simp only[Aa HM]at k0 k1 k2;have bG:(ss.map Ai.name).getD x []=s2.name:=by rw[List.getD_eq_getElem?_getD,zJ,bJ];rfl
   obtain⟨aQ,aU⟩:∃a,s2.name=a:=⟨_,rfl⟩;rw[aU]at c0 bG;obtain⟨L1,aN⟩:=qeX (((RR.take i).map fun(i:Nat)=>((i:Int),(16:Int),(ss.map Ai.name).getD i [])))
   have bO:((RR.take (i+1)).map fun(i:Nat)=>((i:Int),(16:Int),(ss.map Ai.name).getD i []))=L1++[((x:Int),(16:Int),aQ)]:=by
    rw[List.take_add_one,hx,List.map_append,aN];show L1++[((x:Int),(16:Int),(ss.map Ai.name).getD x [])]=_;rw[bG]
   have cN:L1.length≤100000:=by rw[←aN,qX,qY];omega
   rw[aN]at hi;obtain⟨va,vc,rfl⟩:=hi.own.form;have hsz:=hi.size;obtain⟨W4,bZ,aB,g4,cU⟩:=As wr (.cells #[.int .i64 x,.int .i64 16,.string ⟨aQ.toArray⟩] 183) wr.heap.size rfl;have aL:A0 W4 (H+1) (.slice va L1.length vc) L1:=hi.own.keep (fun g hg=>aB.block g (hi.own.lt hg).2);have aM:=Ab hi;have cJ:=Ab bO;have cL:=Ab bZ;have cH:=Ab aB;have cI:=Ab g4;have bI:=Ab aL;clear hi aN bO bZ aB g4 aL aY hx bT cF bG aU bJ c1;go_wp2_with (rw[Aa cL];refine An (p:=((x:Int),(16:Int),aQ)) (by rfl) _ _ (by rfl) (by rfl) (Aa bI) wr.heap.size 1 (by rfl) (Aa cI) L1.length rfl (by omega) (by omega) ?_;intro g5 bU w5 aG I aW cO)
   have hi:=Aa aM;have aB:=Aa cH;have bM:∀g,(Value.slice va L1.length vc).ownBlock=some g→H+1≤g∧g<wr.heap.size:=fun g e=>hi.own.lt e
   have aC:RdI w w5 H ⟨nm,tx,some ⟨b2,o2,none⟩,sc,ss⟩ RR (L1++[((x:Int),(16:Int),aQ)]) (.slice (some ⟨rb,ro,none⟩) NR rc) (.slice (some ⟨g5,0,none⟩) (L1.length+1) bU):=by
    refine⟨(I.block H (by omega) (fun e=>by have:=(bM H e.symm).1;omega)).trans ((aB.block H (by omega)).trans hi.df),(hi.rw_.keep (fun g hg=>aB.block g (hi.rw_.lt hg).2)).keep (fun g hg=>I.block g (by have:=(hi.rw_.lt hg).2;omega) (fun e=>hi.ne g e.symm hg)),aG,fun g e=>?_,(hi.bel.trans (aB.mono (by omega))).grown I (by omega) (fun k e=>by have:=(bM k e).1;omega),by have:=I.size;omega⟩;cases e;rcases aW with h|h
    ·exact hi.ne _ h
    ·intro h2;have h3:g5<wr.heap.size:=(hi.rw_.lt h2).2;omega
   rw[←Aa cJ]at aC;have bE:=Ab aC;clear aC aG I aW hi aB;go_roundg g'
   case measure=>omega
   case rel=>exact⟨i+1,_,by omega,by go_num,rfl,bE⟩
open Go.RowKit
def P28.allP(d:P22.Def):List P28.Note:=P28.sortN (P28.sortN (P28.namesP d)++P28.sortN (P28.boundsP d)++P28.cyc d)
theorem P28.allP_nil(d:P22.Def):P28.allP d=[]↔P28.namesP d=[]∧P28.boundsP d=[]∧P28.cyc d=[]:=by
 unfold P28.allP;rw[P28.sort_nil,List.append_eq_nil_iff,List.append_eq_nil_iff,P28.sort_nil,P28.sort_nil,and_assoc]
structure Af.fit (d:Af):Prop where
 len:d.steps.length≤100000
 name:d.name.length≤maxLen
 st:∀s∈d.steps,s.name.length≤maxLen∧s.action.length≤maxLen∧s.undo.length≤maxLen
 af:∀s∈d.steps,s.after.length≤1000000
theorem Si(d:Af)(w:World)(g:Nat)(cG:d.In w)(hf:d.fit)(hg:w.heap[g]?=some (.cells #[.func (.func 124) #[] #[],.func (.func 125) #[] #[],.func (.func 126) #[] #[]] 125)) :
  Calls Tryz.prog 123 #[d.val,.slice (some ⟨g,0,none⟩) 3 3] w fun e w'=>∃v,e=.returned v∧A0 w' w.heap.size v (P28.allP d.bare)∧Below w.heap.size w w':=by
 obtain⟨H,hH⟩:=qeX w.heap.size;rw[hH]
 have aI:∀s∈d.bare.steps,s.after.length≤1000000:=fun s hs=>by
  simp only[Af.bare,List.mem_map]at hs;obtain⟨x,hx,rfl⟩:=hs;exact hf.af x hx
 have aL:d.bare.steps.length≤100000:=by simpa[Af.bare]using hf.len
 have cT:=qK (P28.sort_len (P28.namesP d.bare)) (Su d.bare aL aI);have cP:=qK (P28.sort_len (P28.boundsP d.bare)) (Pp d.bare aL aI);have cU:=qK (Zi d.bare) aL;obtain⟨W1,cC,bJ,g0,dC⟩:=As w (Be d) H hH;have aB:g<H:=by rw[←hH];exact(qA.1 hg).1
 have aC:∀V,Below H w V→d.In V:=fun V hV=>cG.below (by rw[hH];exact hV);have bG:=fun V (hV:Below H w V)=>K7 d V (aC V hV) hf.name hf.st hf.len hf.af;have bF:=fun V (hV:Below H w V)=>J5 d V (aC V hV) hf.len hf.af (fun s hs=>(hf.st s hs).1);have bE:=fun V (hV:Below H w V)=>Te d V (aC V hV) hf.len hf.af;have I:P28.sortN (P28.sortN (P28.namesP d.bare)++P28.sortN (P28.boundsP d.bare)++P28.cyc d.bare)=P28.allP d.bare:=rfl;obtain⟨dE,bC⟩:∃A,P28.allP d.bare=A:=⟨_,rfl⟩;rw[bC]at I ⊢;obtain⟨L1,bX⟩:∃L,P28.sortN (P28.namesP d.bare)=L:=⟨_,rfl⟩;obtain⟨L2,cH⟩:∃L,P28.sortN (P28.boundsP d.bare)=L:=⟨_,rfl⟩;obtain⟨L3,cF⟩:∃L,P28.cyc d.bare=L:=⟨_,rfl⟩;rw[bX]at cT bG I;rw[cH]at cP bF I;rw[cF]at cU bE I;obtain⟨bD,aA⟩:∃L,L1++L2=L:=⟨_,rfl⟩;obtain⟨cB,J⟩:∃L,bD++L3=L:=⟨_,rfl⟩;rw[aA,J]at I;have cW:bD.length≤800000000000:=by rw[←aA,qH];omega
 have cS:cB.length≤900000000000:=by rw[←J,qH];omega
 have cJ:=Ab aA;have bM:=Ab J;have aM:=Ab bG;have aT:=Ab bF;have aP:=Ab bE;have cD:=Ab I;have aR:=Ab cC;have aN:=Ab g0;have cI:=Ab bJ;have HG:=Ab hg;obtain⟨⟨k0,_⟩,⟨k1,_⟩,⟨k2,_⟩⟩:=Ag g0;obtain⟨⟨f0,_⟩,⟨f1,_⟩,⟨f2,_⟩⟩:=Ag ((bJ.block g aB).trans hg);clear bG bF bE I bC bX cH cF aA J cC g0 bJ hg cG aC hf aI aL;unfold Be at aR aN;obtain⟨nm,tx,sa,sc,ss⟩:=d;obtain⟨M,hM⟩:=qeX ss.length;unfold Af.val at aM aT aP ⊢;simp only at k0 k1 k2 aR aN aM aT aP ⊢;rw[hM]at k2 aR aN aM aT aP ⊢;clear hM;go_enter Tryz.func123,Tryz.ntmps123
 go_upto_region 1 with fail
 try rw[hH]
 rw[Aa aR];go_wp2;refine wp_loop_rounds 4 ?_;rw[rounds_succ];go_wp2_with (first|(go_at_call 124;refine(Aa aM _ (Aa cI)).mono ?_;rintro e w2 ⟨v2,rfl,bI,aE⟩;obtain⟨a2,c2,rfl⟩:=bI.form)|(refine Gh (B:=H+1) (by rfl) _ _ (by rfl) (by rfl) (A0.nil w2 (H+1)) (by rfl) bI (by(try simp only[qH,qP]);omega) (by have:=aE.size;omega) ?_;intro v3 w3 aX aW;obtain⟨a3,c3,rfl⟩:=aX.form))
 rw[zR]at aX;have aH:Below H w w3:=((Aa cI).trans (aE.mono (by omega))).grown aW (by have:=aE.size;omega) (fun k e=>by cases e);have cZ:=aE.size;have cX:=aW.size;have bO:=(aW.block H (by omega) (by simp[Value.ownBlock])).trans ((aE.block H (by omega)).trans (Aa aN));have bY:=(aH.block g aB).trans (Aa HG);clear k0 k1 k2 f0 f1 f2;obtain⟨⟨k0,_⟩,⟨k1,_⟩,⟨k2,_⟩⟩:=Ag bO;obtain⟨⟨f0,_⟩,⟨f1,_⟩,⟨f2,_⟩⟩:=Ag bY;have bU:=Ab aX;have aZ:=Ab aH;have cR:=Ab bO;clear bI aX aE aW aH bO bY;rw[rounds_succ];go_wp2_with (first|(go_at_call 125;refine(Aa aT _ (Aa aZ)).mono ?_;rintro e w4 ⟨v4,rfl,bQ,aD⟩;obtain⟨a4,c4,rfl⟩:=bQ.form)|(refine Gh (B:=H+1) (by rfl) _ _ (by rfl) (by rfl) ((Aa bU).keep (fun k hk=>aD.block k ((Aa bU).lt hk).2)) (by rfl) bQ (by(try simp only[qH,qP]);omega) (by have:=aD.size;omega) ?_;intro v5 w5 aQ aU;rw[Aa cJ]at aQ;obtain⟨a5,c5,rfl⟩:=aQ.form))
 have cK:∀k,(Value.slice a3 L1.length c3).ownBlock=some k→H+1≤k:=fun k e=>((Aa bU).lt e).1;have dF:=aD.size;have dD:=aU.size;have aJ:Below H w w5:=((Aa aZ).trans (aD.mono (by omega))).grown aU (by omega) (fun k e=>by have:=cK k e;omega);have bT:=(aU.block H (by omega) (fun e=>by have:=cK H e.symm;omega)).trans ((aD.block H (by omega)).trans (Aa cR));have cA:=(aJ.block g aB).trans (Aa HG);clear k0 k1 k2 f0 f1 f2;obtain⟨⟨k0,_⟩,⟨k1,_⟩,⟨k2,_⟩⟩:=Ag bT;obtain⟨⟨f0,_⟩,⟨f1,_⟩,⟨f2,_⟩⟩:=Ag cA;have bW:=Ab aQ;have aY:=Ab aJ;have cQ:=Ab bT;clear bQ aQ aD aU aJ bT cA;rw[rounds_succ];go_wp2_with (first|(go_at_call 126;refine(Aa aP _ (Aa aY)).mono ?_;rintro e w6 ⟨v6,rfl,bV,aG⟩;obtain⟨a6,c6,rfl⟩:=bV.form)|(refine Gh (B:=H+1) (by rfl) _ _ (by rfl) (by rfl) ((Aa bW).keep (fun k hk=>aG.block k ((Aa bW).lt hk).2)) (by rfl) bV (by(try simp only[qH,qP]);omega) (by have:=aG.size;omega) ?_;intro v7 w7 aS aO;rw[Aa bM]at aS;obtain⟨a7,c7,rfl⟩:=aS.form))
 have cL:∀k,(Value.slice a5 bD.length c5).ownBlock=some k→H+1≤k:=fun k e=>((Aa bW).lt e).1;have dA:=aG.size;have cY:=aO.size;have aK:Below H w w7:=((Aa aY).trans (aG.mono (by omega))).grown aO (by omega) (fun k e=>by have:=cL k e;omega);have bL:=(aO.block H (by omega) (fun e=>by have:=cL H e.symm;omega)).trans ((aG.block H (by omega)).trans (Aa cQ));have bZ:=(aK.block g aB).trans (Aa HG);clear k0 k1 k2 f0 f1 f2;obtain⟨⟨k0,_⟩,⟨k1,_⟩,⟨k2,_⟩⟩:=Ag bL;obtain⟨⟨f0,_⟩,⟨f1,_⟩,⟨f2,_⟩⟩:=Ag bZ;have cN:=Ab aS;have cM:=Ab aK;have dB:=Ab bL;clear bV aS aG aO aK bL bZ;rw[rounds_succ];have Z:=Kr _ _ w7 _ (Aa cN) (by omega);rw[Aa cD]at Z;have bK:=Ab Z;clear Z;go_wp2_with (go_at_call 162;refine(Aa bK).mono ?_;rintro e w8 ⟨v8,rfl,cO,cV⟩)
 go_ret;exact⟨_,rfl,cO.base (by omega),(Aa cM).trans (cV.mono (by omega))⟩
theorem Y9(d:Af)(w:World)(aA:d.In w)(hf:d.fit) :
  Calls Tryz.prog 79 #[d.val] w fun e w'=>∃v,e=.returned v∧A0 w' w.heap.size v (P28.allP d.bare)∧Below w.heap.size w w':=by
 obtain⟨H,hH⟩:=qeX w.heap.size;rw[hH];obtain⟨W1,aH,aB,g0,aJ⟩:=As w (Be d) H hH;obtain⟨W2,aD,aE,g1,aM⟩:=As W1 (.cells #[.func (.func 124) #[] #[],.func (.func 125) #[] #[],.func (.func 126) #[] #[]] 125) (H+1) aJ;have I:Below H w W2:=aB.trans (aE.mono (by omega));have aC:=Si d W2 (H+1) (aA.below (by rw[hH];exact I)) hf g1;obtain⟨⟨k0,_⟩,⟨k1,_⟩,⟨k2,_⟩⟩:=Ag g0;have J:=Ab aC;have Z:=Ab aH;have aK:=Ab aD;have aG:=Ab I;clear aC aH aD aB aE I g0 g1 aA hf;unfold Be at Z;obtain⟨nm,tx,sa,sc,ss⟩:=d;obtain⟨M,hM⟩:=qeX ss.length;unfold Af.val at J ⊢;simp only at k0 k1 k2 Z J ⊢;rw[hM]at k2 Z J ⊢;clear hM;go_enter Tryz.func79,Tryz.ntmps79
 go_upto_region 1 with fail
 try rw[hH]
 rw[Aa Z];go_wp2_with (go_at_call 123;rw[Aa aK];refine(Aa J).mono ?_;rintro e w3 ⟨v3,rfl,aL,aI⟩)
 go_ret;exact⟨_,rfl,aL.base (by omega),(Aa aG).trans (aI.mono (by omega))⟩
open Go.RowKit
theorem Fl(w:World)(a b:Value):(Instr.field 127 (.agg #[a,b]) 0).run Tryz.prog w=.ok a w:=by kernel_rfl
attribute [local go_sem] Fl
structure Af.ok (d:Af):Prop where
 fit:d.fit
 short:d.short
theorem U4(d:P22.Def):P28.clean d=(decide ((P28.allP d).length=0)&&decide ((P28.defE d).1=0)):=by
 rw[Bool.eq_iff_iff];unfold P28.clean;simp only[Bool.and_eq_true,List.isEmpty_iff,decide_eq_true_eq,beq_iff_eq,List.length_eq_zero_iff,P28.allP_nil];constructor
 ·rintro⟨a,b,c,e⟩;exact⟨⟨a,b,c⟩,e⟩
 ·rintro⟨⟨a,b,c⟩,e⟩;exact⟨a,b,c,e⟩
theorem Mj(d:Af)(w:World)(aK:d.In w)(aN:d.ok) :
  Calls Tryz.prog 30 #[d.val] w fun e w'=>e=.returned (.bool (P28.clean d.bare))∧Below w.heap.size w w':=by
 obtain⟨H,hH⟩:=qeX w.heap.size;rw[hH];obtain⟨W1,aP,aL,g0,aQ⟩:=As w (Be d) H hH;have aH:=Y9 d W1 (aK.below (by rw[hH];exact aL)) aN.fit;have aD:=fun V (hV:Below H w V)=>Oh d V (aK.below (by rw[hH];exact hV)) aN.short;rw[U4];obtain⟨L,hL⟩:=qeX (P28.allP d.bare);obtain⟨⟨E,EL⟩,hE⟩:∃E,P28.defE d.bare=E:=⟨_,rfl⟩;rw[hL]at aH ⊢;rw[hE]at aD ⊢;simp only at aD ⊢;obtain⟨⟨k0,_⟩,⟨k1,_⟩,⟨k2,_⟩⟩:=Ag g0;have aB:=Ab aH;have aA:=Ab aD;have aE:=Ab aP;have aM:=Ab aL;have aG:=Ab g0;clear aH aD aP aL g0 aK aN hL hE;unfold Be at aE aG;obtain⟨nm,tx,sa,sc,ss⟩:=d;obtain⟨M,hM⟩:=qeX ss.length;unfold Af.val at aB aA ⊢;simp only at k0 k1 k2 aE aG aB aA ⊢;rw[hM]at k2 aE aG aB aA ⊢;clear hM;obtain⟨N,hN⟩:=qeX L.length;rw[hN];have HN:=Ab hN;clear hN;cases N with
 |zero=>
  by_cases hE:E=0
  ·subst hE;go_enter Tryz.func30,Tryz.ntmps30
   go_upto_region 1 with fail
   try rw[hH]
   rw[Aa aE];go_wp2_with (first|(go_at_call 79;refine(Aa aB).mono ?_;rintro e w2 ⟨v2,rfl,aC,I⟩;obtain⟨a2,c2,rfl⟩:=aC.form;rw[Aa HN];obtain⟨⟨q0,_⟩,⟨q1,_⟩,⟨q2,_⟩⟩:=Ag ((I.block H (by omega)).trans (Aa aG));have J:=(Aa aM).trans (I.mono (by omega));have Z:=Ab J;have aJ:=I.size;clear J aC I)|(go_at_call 80;refine(Aa aA _ (Aa Z)).mono ?_;rintro e w3 ⟨rfl,aI⟩))
   go_ret;exact⟨Ao (by simp),(Aa Z).trans (aI.mono (by omega))⟩
  ·have d2:(E==0)=false:=by simpa using hE
   have aO:decide (E=0)=false:=by simpa using hE
   rw[aO];clear hE aO;go_enter Tryz.func30,Tryz.ntmps30
   go_upto_region 1 with fail
   try rw[hH]
   rw[Aa aE];go_wp2_with (first|(go_at_call 79;refine(Aa aB).mono ?_;rintro e w2 ⟨v2,rfl,aC,I⟩;obtain⟨a2,c2,rfl⟩:=aC.form;rw[Aa HN];obtain⟨⟨q0,_⟩,⟨q1,_⟩,⟨q2,_⟩⟩:=Ag ((I.block H (by omega)).trans (Aa aG));have J:=(Aa aM).trans (I.mono (by omega));have Z:=Ab J;have aJ:=I.size;clear J aC I)|(go_at_call 80;refine(Aa aA _ (Aa Z)).mono ?_;rintro e w3 ⟨rfl,aI⟩))
   go_ret;exact⟨Ao (by simp),(Aa Z).trans (aI.mono (by omega))⟩
 |succ n=>
  have d1:(((n:Int)+1)==0)=false:=by simp;omega
  have hd:decide (n+1=0)=false:=by simp
  rw[hd];clear hd;go_enter Tryz.func30,Tryz.ntmps30
  go_upto_region 1 with fail
  try rw[hH]
  rw[Aa aE];go_wp2_with (first|(go_at_call 79;refine(Aa aB).mono ?_;rintro e w2 ⟨v2,rfl,aC,I⟩;obtain⟨a2,c2,rfl⟩:=aC.form;rw[Aa HN];obtain⟨⟨q0,_⟩,⟨q1,_⟩,⟨q2,_⟩⟩:=Ag ((I.block H (by omega)).trans (Aa aG));have J:=(Aa aM).trans (I.mono (by omega));have Z:=Ab J;have aJ:=I.size;clear J aC I)|(go_at_call 80;refine(Aa aA _ (Aa Z)).mono ?_;rintro e w3 ⟨rfl,aI⟩))
  go_ret;exact⟨Ao (by simp),Aa Z⟩
end Go.Proofs.YtefokfbgpfcbkaaGreat
