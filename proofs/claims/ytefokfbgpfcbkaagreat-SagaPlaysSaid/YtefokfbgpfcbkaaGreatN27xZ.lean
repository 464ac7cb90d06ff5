import Derived.Test.YtefokfbgpfcbkaaGreatN21xZ
set_option maxRecDepth 100000
set_option maxHeartbeats 8000000
set_option linter.unusedVariables false
set_option linter.unusedSimpArgs false
namespace Go.Proofs.YtefokfbgpfcbkaaGreat
open Go.RowKit
attribute [local go_sem] Cx Oper.semAt_some
theorem K7(d:Af)(w:World)(eA:d.In w)(fZ:d.name.length≤maxLen)(gD:∀s∈d.steps,s.name.length≤maxLen∧s.action.length≤maxLen∧s.undo.length≤maxLen)(hl:d.steps.length≤100000)(fC:∀s∈d.steps,s.after.length≤1000000) :
  Calls Tryz.prog 124 #[d.val] w fun e w'=>∃v,e=.returned v∧A0 w' w.heap.size v (P28.sortN (P28.namesP d.bare))∧Below w.heap.size w w':=by
 obtain⟨D,hD⟩:=qeX d;have cD:=fun r (hr:d.blk r)=>eA.lt hr;obtain⟨H,hH⟩:=qeX w.heap.size;rw[hH]at cD ⊢;obtain⟨W1,bC,cB,g0,g1,g2,gY⟩:=I5 w (Be d) (.cells #[.slice none 0 0] 124) (.cells #[.func (.func 163) #[] #[.pointer (some ⟨H+1,0,none⟩)]] 221) H hH;have aO:NS w W1 H 163 d [] (.slice none 0 0):=⟨⟨g1,A0.nil _ _,by omega⟩,g0,g2,cB,by omega⟩;have cP:=Sy (H+1);have x0:=Ag (qB w (Be d));rw[hH]at x0;obtain⟨k0,k1,k2,k3⟩:=aO.cells;obtain⟨V2,cW⟩:=qeX ((w.alloc (Be d)).alloc (.cells #[.slice none 0 0] 124));have iQ:V2.heap.size=H+1+1:=by rw[←cW];simp[hH]
 have y1:=A1 (qB V2 (.cells #[.nilFunc] 221));rw[iQ]at y1;obtain⟨y1,y2⟩:=y1;have hq:V2.alloc (.cells #[.func (.func 163) #[] #[.pointer (some ⟨H+1,0,none⟩)]] 221)=W1:=by rw[←bC,cW]
 have cJ:=Ab cW;have HQ:=Ab hq;clear cW hq;have cX:=Ab eA;have dP:=Ab cD;have gP:=Ab gD;have gF:=Ab fC;have cA:=Ab aO;have I:=Ab cP;have HD:=Ab hD;clear bC eA cD gD fC aO cP cB g0 g1 g2 hD;unfold Be at cJ;obtain⟨nm,tx,sa,sc,ss⟩:=d;obtain⟨M,hM⟩:=qeX ss.length;unfold Af.val;simp only at hl fZ k0 k1 k2 cJ ⊢;rw[hM]at hl k2 cJ ⊢;have cV:=fun V h=>Lf ⟨nm,tx,sa,sc,ss⟩ V h;unfold Af.val at cV;simp only[hM]at cV;have cU:=Qu ⟨nm,tx,sa,sc,ss⟩;unfold Af.val at cU;simp only[hM]at cU;have iY:=Ab cV;have eF:=Ab cU;have HM:=Ab hM;clear hM cV cU;refine(callsIn_wide (n:=40)).1 ?_;refine callsIn_of_wp_marks Tryz.func124 rfl trivial ?_ rfl;simp only[Tryz.ntmps124,zE,qE,qP,Nat.reduceAdd,Nat.reduceSub,Array.replicate_succ,Array.replicate_zero,List.push_toArray,List.append_toArray,zR,zQ];refine wpIn_wide.2 ?_;go_upto_region 2 with fail
 try rw[hH]
 rw[Aa cJ];go_upto_region 3 with fail
 rw[Aa HQ];clear x0 y1 y2;go_upto_region 4 with(go_at_call 163;refine(NS.note (Aa I) (Aa cA) _ _ _ [] (by simp)).mono ?_;rintro e w2 ⟨rfl,v2,aR,aP,fI⟩)
 clear k0 k1 k2 k3;obtain⟨k0,k1,k2,k3⟩:=aR.cells;simp only[Aa HM]at k0 k1 k2;have bJ:=Ab aR;have jA:=Ab fI;clear aR aP fI;refine Ak 7 (by kernel_rfl) (by kernel_rfl) (by kernel_rfl) (by kernel_rfl) (by kernel_rfl) ?_;simp only[List.take_succ_cons,List.take_zero,List.drop_succ_cons,List.drop_zero]
 repeat (go_big_quiet_step (exact Calls.quiet_of_same (Eb _ _ fZ)))
 refine wpQuiet_nil ?_;rintro _ ⟨nq,rfl⟩;go_upto_region 5 with(go_at_call 163;refine(NS.note (Aa I) ((Aa bJ).drewN nq) _ _ _ nm (qK (m:=1) (by simpa using Bb _ _ _ _) (by omega))).mono ?_;rintro e w3 ⟨rfl,v3,aH,aE,iX⟩)
 clear k0 k1 k2 k3;obtain⟨k0,k1,k2,k3⟩:=aH.cells;simp only[Aa HM]at k0 k1 k2;have aN:=Ab aH;clear aH aE iX;go_upto_region 6 with(go_at_call 143;refine((Aa iY) w3 ((Aa cX).below (by rw[hH];exact(Aa aN).bel))).mono ?_;rintro e w4 ⟨bm,Lp,rfl,jU,bZ,hlk,cL⟩)
 obtain⟨bM,bU⟩:=qeX (([]++P28.nt ((M:Int)==0) (-1) 17 []++P28.nt (!P28.right nm) (-1) 18 nm))
 have jO:bM.length≤2:=by
  have h1:=P28.nt_le ((M:Int)==0) (-1) 17 [];have h2:=P28.nt_le (!P28.right nm) (-1) 18 nm;rw[←bU];simp only[zR,qH];omega
 rw[bU]at aN;have fL:=Ab bU;have hZ:=Ab hlk;have aS:=(Aa aN).keep cL;have jI:v3.ownBlock≠some bm:=fun e=>by have:=((Aa aN).nb.own.lt e).2;omega
 have kG:=(Aa aN).size;obtain⟨gC,aA,gJ,iR⟩:=aS.cells;simp only[Aa HM]at gC aA gJ;have cC:=Ab aS;have fA:=Ab bZ;have gI:bm<w4.heap.size:=bZ.lt;have eB:bm≠H+1:=by omega
 clear k0 k1 k2 k3 bU hlk aS bZ cL cA bJ jA aN cJ HQ;go_wp2
 go_loopg [30] M (fun g gR wx=>∃(i:Nat) (v:Value),i+g=M∧gR=.int .i64 i∧Hid (NS w wx H 163 ⟨nm,tx,sa,sc,ss⟩ (bM++P28.stepsN (ss.map Ai.name) 0 ((ss.map Ai.bare).take i)) v)∧Hid (Bi L8 wx bm Lp)∧v.ownBlock≠some bm∧bm<wx.heap.size)
 case atStart=>exact⟨0,v3,by omega,by go_num,by simpa[P28.stepsN]using cC,fA,jI,gI⟩
 case round=>
  obtain⟨i,v,jS,rfl,bD,aM,iJ,kL⟩:=hrel;clear gC aA gJ iR;cases gk with
  |zero=>
   have e1:(M:Int)≤(i:Int):=by omega
   have j1:decide ((i:Int)<(M:Int))=false:=by simp;omega
   obtain⟨LR,dX⟩:=qeX (P28.refL (ss.map Ai.name) 0 (ss.map Ai.after))
   have dH:LR.length≤100000000000:=by
    have h1:=D2 (ss.map Ai.name) 1000000 (ss.map Ai.after) 0 (fun x hx=>by
     obtain⟨s,hs,rfl⟩:=List.mem_map.1 hx
     exact(Aa gF) s hs)
    rw[dX,qX,Aa HM]at h1;have h2:M*1000000≤100000*1000000:=Nat.mul_le_mul_right _ hl;omega
   have cN:=Ab dH;have dT:=Ab dX;clear dX dH;have fH:(ss.map Ai.bare).take i=ss.map Ai.bare:=List.take_of_length_le (by rw[qX,Aa HM];omega);have aB:=Aa bD;rw[fH]at aB;obtain⟨acc,aL⟩:=qeX (bM++P28.stepsN (ss.map Ai.name) 0 (ss.map Ai.bare))
   have jN:acc.length≤400002:=by
    have h1:=Fa (ss.map Ai.name) (ss.map Ai.bare) 0;rw[qX,Aa HM]at h1;rw[←aL,qH];omega
   rw[aL]at aB;obtain⟨R,hR⟩:=qeX wr.heap.size;obtain⟨W4,fD,cL,g5,g6,gB⟩:=Dt wr (.map #[] 0) (.cells #[.map (some R)] 222) R hR;obtain⟨W5,eZ,cZ,g7,iT⟩:=As W4 (.cells #[.string ⟨nm.toArray⟩,.string ⟨tx.toArray⟩,.slice sa M sc] 24) (R+1+1) gB;have cK:=aB.keep (by rw[hR];exact cL);have bI:=cK.keep (by rw[gB];exact cZ);have cI:Bi Dd W5 R []:=⟨#[],0,(cZ.block R (by omega)).trans g5,⟨by simp,by simp⟩,rfl⟩;have g8:=(cZ.block (R+1) (by omega)).trans g6;obtain⟨k0,k1,k2,k3⟩:=cK.cells;simp only[Aa HM]at k0 k1 k2;have fM:∀g,v.ownBlock=some g→H+3≤g∧g<R:=fun g e=>by have:=(Aa bD).nb.own.lt e;omega
   have iF:H+3≤R:=by have:=(Aa bD).size;omega
   have fJ:=Ab fD;have fY:=Ab eZ;have bW:=Ab bI;have dU:=Ab cI;have bX:=Ab aL;have HG:=Ab (And.intro g8 g7);have jB:=@run_makeMap Tryz.prog;clear fD eZ cL cZ aB cK bI cI aL fH bD g5 g6 g7 g8 aM;go_upto_region 15 with fail
   try rw[hR]
   rw[Aa fJ];go_upto_region 16 with(go_at_call 101;refine((Aa eF) _).mono ?_;rintro e w2 ⟨rfl,rfl⟩)
   rw[Aa fY];clear k0 k1 k2 k3 jB fJ fY;generalize hA:({ tmps:=_,defers:=_ }:Act)=A;refine(wpIn_wide (n:=40)).1 ?_
   refine Bu rfl (by omega) (gf:=142) (lb:=#[.pointer (some ⟨R+1+1,0,none⟩)]) (by rw[←hA];rfl) trivial (enters_of Tryz.func142 (by kernel_rfl) rfl)
    (encs:=I0) LR (fun r=>r<H∨r=H∨r=H+2∨r=R+1∨r=R+2) (fun _=>False) (fun r hr=>by omega)
    ?seq (fun _=>rfl)
    (fun i M V=>Wy w H 163 R ⟨nm,tx,sa,sc,ss⟩ (acc++P28.refsN (ss.map Ai.name) [] (LR.take i)) (G5 (LR.take i)) (fun _=>False) M V) (fun c i M V=>False)
    (fun i M V V' row hi hg hr=>hi.abides hg hr) (fun c i M V V' row hi hg hr=>hi)
    (fun i M V hi r hr=>⟨(hi.ms r hr).2.2.2,by have:=hi.ms r hr;omega⟩)
    (fun r=>r=H+1∨r=R∨v.ownBlock=some r) (fun r hr=>hr.elim)
    ?init
    (fun i x M a' V=>∃p,Wy w H 163 R ⟨nm,tx,sa,sc,ss⟩ (acc++P28.refsN (ss.map Ai.name) [] (LR.take i)) (G5 (LR.take i)) (fun g=>g=p) M V∧M p∧V.heap[p]?=some (.cells #[.int .i64 x.1,.string ⟨x.2.1.toArray⟩,.int .i64 (Hn x.2.2)] 167) ∧
     a'=(A.put (some 82) (.agg #[.int .i64 x.1,.string ⟨x.2.1.toArray⟩,.int .i64 (Hn x.2.2)])).put (some 9) (qP0 p))
    ?hB ?assign ?body ?done ?stop
   case seq=>
    intro V hg _;rw[←Aa dT];exact Ig _ ⟨nm,tx,sa,sc,ss⟩ (R+1+1) _ _ V (by simp only[Aa HM];exact(hg.block _ (by omega) (by simp)).trans (Aa HG).2) (((Aa cX).below (by rw[hH];exact(Aa bW).bel)).keep (fun r hr=>hg.block r (by have:=Aa dP r hr;omega) (by simp))) (fun r hr=>.inl (Aa dP r hr)) (by omega) (fun r hr=>by have:=hg.size;omega) (Aa gF)
   case init=>
    refine⟨⟨v,[],by simpa[P28.refsN]using Aa bW,Aa dU,fun k=>by simp[lk,Cl,G5],fun k u h=>by simp[lk,Cl]at h,fun g e=>⟨by have:=fM g e;omega,.inr (.inr e),id⟩⟩,(Aa HG).1,⟨.inl rfl,id,.inr (.inl rfl),id⟩,iF,by omega,fun g hg=>?_⟩;rcases hg with rfl|rfl|e
    ·omega
    ·omega
    ·have:=fM g e;omega
   case hB=>
    rintro i x M a' V V' row ⟨p,hi,eP,eR,rfl⟩ hg hr;exact⟨p,hi.abides hg hr,eP,(hg.block p (qA.1 eR).1 (fun e=>(hr p e.symm).1 eP)).trans eR,rfl⟩
   case stop=>
    rintro D c i M V rfl iN hi h hK;exact h.elim
   case assign=>
    rintro l2 i ⟨xi,Z,xt⟩ M V K hx hi hV hK;subst hA;unfold I0;have eS:=qQ V (.cells #[.int .i64 xi,.string ⟨Z.toArray⟩,.int .i64 (Hn xt)] 167) none
    have fR:=hK (fun r=>M r∨r=V.heap.size) _ (V.alloc (.cells #[.int .i64 xi,.string ⟨Z.toArray⟩,.int .i64 (Hn xt)] 167)) eS (fun r hr=>hr.imp id (fun e=>by omega))
     ⟨V.heap.size,hi.alloc _,.inr rfl,qB V _,rfl⟩
    have HK:=Ab fR;clear fR hK eS
    gi_wp2
    exact Aa HK
   case body=>
    rintro l2 q ⟨xi,Z,xt⟩ M2 a' V hx ⟨p,hi,gZ,cT,rfl⟩ hV;subst hA;obtain⟨⟨v5,Lm,aB,bZ,dM,dA,aQ⟩,eE,fX,jQ,jM,eM⟩:=id hi;simp only at cT;obtain⟨⟨p0,_⟩,⟨p1,_⟩,⟨p2,_⟩⟩:=Ag cT;obtain⟨b0,f0⟩:=A1 eE;obtain⟨k0,k1,k2,k3⟩:=aB.cells;simp only[Aa HM]at k0 k1 k2;have iC:v5.ownBlock≠some p:=fun e=>(aQ p e).2.2 rfl;have gG:v5.ownBlock≠some R:=fun e=>by have:=(aQ R e).1;omega
    have eT:v5.ownBlock≠some (R+1):=fun e=>by have:=(aQ _ e).1;omega
    have kF:=(eM p gZ);have dR:p≠H+1:=fun e=>fX.2.1 e.symm;have gS:p≠R:=fun e=>fX.2.2.2 e.symm;obtain⟨bV,bL⟩:=qeX (acc++P28.refsN (ss.map Ai.name) [] (LR.take q));rw[bL]at aB;have HI:=Ab hi;have dS:=Ab aB;have aM:=Ab bZ;have dE:=Ab dM;have bY:=Ab dA;have fT:=Ab aQ;have kB:=Ab eM;have bE:=Ab cT;have bF:=Ab eE;have cR:=Ab bL
    have fP:bV.length≤400000000000:=by
     have h1:=Gt (ss.map Ai.name) (LR.take q) [];have h2:=Aa cN;rw[qY]at h1;rw[←Aa cR,qH];omega
    clear hi aB bZ dM dA aQ eM cT eE bL
    gi_upto_region 18 with(refine⟨trivial,?_⟩;gi_at_call 163;refine(CallsIn.inRound l2 (callsIn_wide.2 (NS.note (Aa I) (Aa dS) _ _ _ Z (by omega)))).mono ?_;rintro e x1 ⟨rfl,v1,aO,aW,aU⟩)
    obtain⟨r1,gX,gN⟩:=A6 aW aU (k:=p) (by omega) dR iC;obtain⟨r2,jE,iV⟩:=A6 aW aU (k:=R) (by omega) (by omega) gG;obtain⟨r3,iK,iB⟩:=A6 aW aU (k:=R+1) (by omega) (by omega) eT;have aD:=r1.trans (Aa bE);have aI:=(Aa aM).keep r2;have aC:=r3.trans (Aa bF)
    have iP:xi<M:=by
     have h1:=Lj (ss.map Ai.name) (ss.map Ai.after) 0 (xi,Z,xt) (by rw[Aa dT];exact qN hx);rw[qX,Aa HM]at h1;simpa using h1
    obtain⟨s1,bG⟩:=Ap (Aa HM) iP;have cO:=((Aa cX).below (by rw[hH];exact aO.bel)).steps;obtain⟨b1,o1,rfl,c1,eC⟩:=cO.get bG;obtain⟨⟨c0,c1,c2,c3⟩,⟨c4,c5,c6,c7⟩,⟨c8,c9,c10,c11,c12⟩⟩:=Ar c1;clear c1 c2 c3 c4 c5 c6 c7 c8 c9 c10 c11 c12 p0 p1 p2 b0 f0 k0 k1 k2 k3 bE aM bF cO eC;obtain⟨⟨p0,_⟩,⟨p1,_⟩,⟨p2,_⟩⟩:=Ag aD;obtain⟨b0,f0⟩:=A1 aC;obtain⟨k0,k1,k2,k3⟩:=aO.cells;simp only[Aa HM]at k0 k1 k2;have bE:=Ab aD;have aM:=Ab aI;have bF:=Ab aC;have cA:=Ab aO;have iH:=Ab (And.intro aW aU);have iW:=Ab bG;clear aD aI aC aO aW aU r1 r2 r3 bG;refine Eo 15 (by kernel_rfl) (by kernel_rfl) (by kernel_rfl) (by kernel_rfl) (by kernel_rfl) (by kernel_rfl) ?_;simp only[List.take_succ_cons,List.take_zero,List.drop_succ_cons,List.drop_zero]
    repeat (go_big_quiet_step (fail))
    refine wpQuiet_nil ?_;rintro _ ⟨nq,rfl⟩
    gi_upto_region 19 with(refine⟨trivial,?_⟩;gi_at_call 163;refine(CallsIn.inRound l2 (callsIn_wide.2 (NS.note (Aa I) ((Aa cA).drewN nq) _ _ _ Z (qK (B0 fP) (by omega))))).mono ?_;rintro e x2 ⟨rfl,v2,aR,aP,aX⟩)
    obtain⟨r1,jH,jD⟩:=A6 aP aX (k:=p) (show p<x1.heap.size from gN) dR gX;obtain⟨r2,gM,iU⟩:=A6 aP aX (k:=R) (show R<x1.heap.size from iV) (by omega) jE;obtain⟨r3,iI,iL⟩:=A6 aP aX (k:=R+1) (show R+1<x1.heap.size from iB) (by omega) iK;have aD:=r1.trans (show x1.heap[p]?=_ from Aa bE);have aI:=(Aa aM).keep (show x2.heap[R]?=x1.heap[R]? from r2);have aC:=r3.trans (show x1.heap[R+1]?=_ from Aa bF)
    obtain⟨cn,aG⟩:∃cn:Nat,(lk Lm ((xi:Int),Z)).getD (.int .i64 0)=.int .i64 cn:=by
     cases hq:lk Lm ((xi:Int),Z)with
     |none=>exact⟨0,rfl⟩
     |some u=>obtain⟨n,rfl,_⟩:=Aa bY _ _ hq;exact⟨n,rfl⟩
    have eD:∀q,(Instr.lookup 222 (.map (some R)) (.agg #[.int .i64 xi,.string ⟨Z.toArray⟩]) false).run Tryz.prog (x2.drewN q)=.ok (.int .i64 cn) (x2.drewN q):=fun q=>by
     have h:=(aI.keep (W':=x2.drewN q) rfl).look Oq Tryz.underlying222 (Dc _) ((xi:Int),Z) false;rw[aG]at h;exact h
    have iD:=Ab aG;clear p0 p1 p2 b0 f0 k0 k1 k2 k3 c0 bE aM bF;obtain⟨⟨p0,_⟩,⟨p1,_⟩,⟨p2,_⟩⟩:=Ag aD;obtain⟨b0,f0⟩:=A1 aC;obtain⟨k0,k1,k2,k3⟩:=aR.cells;simp only[Aa HM]at k0 k1 k2;have bE:=Ab aD;have aM:=Ab aI;have bF:=Ab aC;have bJ:=Ab aR;have gW:=Ab (And.intro aP aX);clear aD aI aC aR aP aX r1 r2 r3 aG;refine Eo 13 (by kernel_rfl) (by kernel_rfl) (by kernel_rfl) (by kernel_rfl) (by kernel_rfl) (by kernel_rfl) ?_;simp only[List.take_succ_cons,List.take_zero,List.drop_succ_cons,List.drop_zero]
    repeat (go_big_quiet_step (fail))
    refine wpQuiet_nil ?_;rintro _ ⟨gT,rfl⟩
    gi_upto_region 20 with(refine⟨trivial,?_⟩;gi_at_call 163;refine(CallsIn.inRound l2 (callsIn_wide.2 (NS.note (Aa I) ((Aa bJ).drewN gT) _ _ _ Z (qK (B0 (B0 fP)) (by omega))))).mono ?_;rintro e x3 ⟨rfl,v3,aH,aE,aJ⟩)
    obtain⟨r1,kK,iO⟩:=A6 aE aJ (k:=p) (show p<x2.heap.size from jD) dR jH;obtain⟨r2,jV,jZ⟩:=A6 aE aJ (k:=R) (show R<x2.heap.size from iU) (by omega) gM;obtain⟨r3,kE,gQ⟩:=A6 aE aJ (k:=R+1) (show R+1<x2.heap.size from iL) (by omega) iI;have aD:=r1.trans (show x2.heap[p]?=_ from Aa bE);have aI:=(Aa aM).keep (show x3.heap[R]?=x2.heap[R]? from r2);have aC:=r3.trans (show x2.heap[R+1]?=_ from Aa bF);clear p0 p1 p2 b0 f0 k0 k1 k2 k3 bE aM bF eD;obtain⟨⟨p0,_⟩,⟨p1,_⟩,⟨p2,_⟩⟩:=Ag aD;obtain⟨b0,f0⟩:=A1 aC;obtain⟨dK,dQ⟩:=Aa iH;obtain⟨dN,dD⟩:=Aa gW;obtain⟨cS,cF⟩:=P2 dK dQ dN dD;obtain⟨bQ,bT⟩:=P2 cS cF aE aJ;have aG:=Aa iD
    have jR:cn≤100000000000:=by
     cases hq:lk Lm ((xi:Int),Z)with
     |none=>rw[hq]at aG;simp at aG;omega
     |some u=>
      obtain⟨n,rfl,hn⟩:=Aa bY _ u hq;rw[hq]at aG;simp at aG;have h2:=Aa cN;have h3:(G5 (LR.take q)).length≤LR.length:=by unfold G5;rw[qX,qY];omega
      omega
    have jY:IntKind.i64.wrap ((cn:Int)+1)=(cn:Int)+1:=qG _ (by omega)
    have dI:bV++P28.nt (decide (Hn xt<0)) xi 5 Z++P28.nt (Z==s1.name) xi 8 Z++P28.nt (decide (0<cn)) xi 6 Z=acc++P28.refsN (ss.map Ai.name) [] (LR.take (q+1)):=by
     rw[Td _ hx,←zH,Aa cR];have e1:decide (Hn xt<0)=xt.isNone:=by cases xt with|none=>rfl|some j=>exact decide_eq_false (by show ¬((j:Int)<0);omega)
     have e2:(Z==s1.name)=decide (Z=(ss.map Ai.name).getD xi []):=by
      rw[List.getD_eq_getElem?_getD,zJ,Aa iW];rw[Bool.eq_iff_iff];simp
     have e3:decide (0<cn)=decide ((xi,Z)∈(LR.take q).map fun q=>(q.1,q.2.1)):=by
      rw[Bool.eq_iff_iff,decide_eq_true_eq,decide_eq_true_eq,←V8,←Aa dE];cases hq:lk Lm ((xi:Int),Z)with
      |none=>rw[hq]at aG;simp at aG;simp;omega
      |some u=>
       obtain⟨n,rfl,hn⟩:=Aa bY _ u hq;rw[hq]at aG;simp at aG;simp;omega
     rw[e1,e2,e3];simp only[P28.refN,zH]
    rw[dI]at aH;obtain⟨U,hU⟩:=qeX x3.drew;have dW:Below x3.heap.size x3 U:=by rw[←hU];exact(qU _ _).drew
    have eI:Bi Dd U R Lm:=aI.keep (by rw[←hU];rfl);have aN:=Ab aH;have cH:=Ab (And.intro bQ bT);clear dI aH dK dQ dN dD cS cF bQ bT aE aJ r1 r2 r3 aD aI aC
    have hS:∀k e s W,Ct Tryz.prog 222 Dd U R Lm ((xi:Int),Z) cn k e s W→k≤2→(W.cell? ⟨p,0,none⟩=some (.int .i64 xi)∧W.cell? ⟨p,1,none⟩=some (.string ⟨Z.toArray⟩)∧W.cell? ⟨R+1,0,none⟩=some (.map (some R)))∧(Instr.lookup 222 (.map (some R)) (.agg #[.int .i64 xi,.string ⟨Z.toArray⟩]) false).run Tryz.prog W=.ok (.int .i64 cn) W:=fun k e s W h hk=>by
     have hb:W.heap[p]?=x3.heap[p]?:=(h.keep hk gS).trans (dW.block p iO);have cG:W.heap[R+1]?=x3.heap[R+1]?:=(h.keep hk (by omega)).trans (dW.block _ gQ);exact⟨⟨(zC (a:=⟨p,0,none⟩) hb).trans p0,(zC (a:=⟨p,1,none⟩) hb).trans p1,(zC (a:=⟨R+1,0,none⟩) cG).trans b0⟩,h.look hk eI aG Oq Tryz.underlying222 Dc⟩
    refine D3 Bj [8,9,10] (fun k aF W=>∃e s,aF={ tmps:=#[.agg #[sT nm,sT tx,.slice (oA b1 o1) M sc],qP0 H,.slice none 0 0,qP0 (H+1),qP0 (H+1+1),.map (some bm),u6,u7,qP0 (R+1),qP0 p,.func (.func 163) #[] #[qP0 (H+1)],.func (.func 163) #[] #[qP0 (H+1)],pT H 2,.slice (oA b1 o1) M sc,.int .i64 M,.bool ((M:Int)==0),.tuple #[],.func (.func 163) #[] #[qP0 (H+1)],qP0 H,sT nm,.bool (P28.right nm),.bool (!P28.right nm),qP0 H,sT nm,.tuple #[],.agg #[sT nm,sT tx,.slice (oA b1 o1) M sc],.map (some bm),pT H 2,.slice (oA b1 o1) M sc,.int .i64 M,.int .i64 i,.bool false,u32,u33,u34,u35,u36,u37,u38,u39,u40,u41,u42,u43,u44,u45,u46,u47,u48,u49,u50,u51,u52,u53,u54,u55,u56,u57,u58,u59,u60,u61,u62,u63,u64,u65,u66,u67,u68,u69,u70,u71,u72,u73,u74,u75,u76,u77,u78,.map (some R),.agg #[sT nm,sT tx,.slice (oA b1 o1) M sc],.func (.func 142) #[] #[qP0 (R+1+1)],.agg #[.int .i64 xi,sT Z,.int .i64 (Hn xt)],.func (.func 163) #[] #[qP0 (H+1)],pT p 2,.int .i64 (Hn xt),.bool (decide (Hn xt<0)),qP0 p,.int .i64 xi,pT p 1,sT Z,.tuple #[],.func (.func 163) #[] #[qP0 (H+1)],pT p 1,sT Z,pT H 2,.slice (oA b1 o1) M sc,qP0 p,.int .i64 xi,pT b1 (o1+xi*13),pT b1 (o1+xi*13),sT s1.name,.bool (Z==s1.name),qP0 p,.int .i64 xi,pT p 1,sT Z,.tuple #[],.func (.func 163) #[] #[qP0 (H+1)],.map (some R),qP0 p,.int .i64 xi,pT p 1,sT Z,.agg #[.int .i64 xi,sT Z],.int .i64 cn,.bool (decide (0<cn)),qP0 p,.int .i64 xi,pT p 1,sT Z,.tuple #[],.map (some R),qP0 p,.int .i64 xi,pT p 1,sT Z,.agg #[.int .i64 xi,sT Z],.int .i64 cn,.int .i64 ((cn:Int)+1),e,s,uZ,uZ],defers:=[] }∧Ct Tryz.prog 222 Dd U R Lm ((xi:Int),Z) cn k e s W) (aF:=(fun e s=>{ tmps:=#[.agg #[sT nm,sT tx,.slice (oA b1 o1) M sc],qP0 H,.slice none 0 0,qP0 (H+1),qP0 (H+1+1),.map (some bm),u6,u7,qP0 (R+1),qP0 p,.func (.func 163) #[] #[qP0 (H+1)],.func (.func 163) #[] #[qP0 (H+1)],pT H 2,.slice (oA b1 o1) M sc,.int .i64 M,.bool ((M:Int)==0),.tuple #[],.func (.func 163) #[] #[qP0 (H+1)],qP0 H,sT nm,.bool (P28.right nm),.bool (!P28.right nm),qP0 H,sT nm,.tuple #[],.agg #[sT nm,sT tx,.slice (oA b1 o1) M sc],.map (some bm),pT H 2,.slice (oA b1 o1) M sc,.int .i64 M,.int .i64 i,.bool false,u32,u33,u34,u35,u36,u37,u38,u39,u40,u41,u42,u43,u44,u45,u46,u47,u48,u49,u50,u51,u52,u53,u54,u55,u56,u57,u58,u59,u60,u61,u62,u63,u64,u65,u66,u67,u68,u69,u70,u71,u72,u73,u74,u75,u76,u77,u78,.map (some R),.agg #[sT nm,sT tx,.slice (oA b1 o1) M sc],.func (.func 142) #[] #[qP0 (R+1+1)],.agg #[.int .i64 xi,sT Z,.int .i64 (Hn xt)],.func (.func 163) #[] #[qP0 (H+1)],pT p 2,.int .i64 (Hn xt),.bool (decide (Hn xt<0)),qP0 p,.int .i64 xi,pT p 1,sT Z,.tuple #[],.func (.func 163) #[] #[qP0 (H+1)],pT p 1,sT Z,pT H 2,.slice (oA b1 o1) M sc,qP0 p,.int .i64 xi,pT b1 (o1+xi*13),pT b1 (o1+xi*13),sT s1.name,.bool (Z==s1.name),qP0 p,.int .i64 xi,pT p 1,sT Z,.tuple #[],.func (.func 163) #[] #[qP0 (H+1)],.map (some R),qP0 p,.int .i64 xi,pT p 1,sT Z,.agg #[.int .i64 xi,sT Z],.int .i64 cn,.bool (decide (0<cn)),qP0 p,.int .i64 xi,pT p 1,sT Z,.tuple #[],.map (some R),qP0 p,.int .i64 xi,pT p 1,sT Z,.agg #[.int .i64 xi,sT Z],.int .i64 cn,.int .i64 ((cn:Int)+1),e,s,uZ,uZ],defers:=[] }) undef undef) (by kernel_rfl) (by kernel_rfl) (by simp) ⟨undef,undef,rfl,hU⟩ rfl rfl (Dw 122 10 (by kernel_rfl) rfl rfl) ?pure ?write ?fin
    case pure=>
     rintro k aF W ix o ⟨e,s,rfl,aZ⟩ ho iE fN;rcases ix with _|_|_|_|_|_|_|_|_|_|_|ix
     iterate 8
      ·obtain⟨⟨c1,c2,c3⟩,c4⟩:=hS k e s W aZ (fN 2 10 rfl (by kernel_rfl));refine wq ho rfl rfl rfl rfl ?_
       go_simp
     iterate 3
      ·exfalso;simp at iE
     ·exfalso;simp at ho
    case write=>
     rintro k aF W ix o ⟨e,s,rfl,aZ⟩ hi ho;rcases k with _|_|_|k
     ·cases (show some 8=some ix from hi);have cM:some _=some o:=ho;cases cM;obtain⟨e',W',r,h1⟩:=aZ.one eI aG Oq Tryz.underlying222 Dc;refine⟨rfl,.inl ⟨e',W',?_,⟨e',s,rfl,h1⟩⟩⟩;have r':(Instr.mapEntry 222 (.map (some R)) (.agg #[.int .i64 xi,.string ⟨Z.toArray⟩])).run Tryz.prog W=.ok e' W':=r;simp[execOp,Act.eval,r',Result.andThen]
     ·cases (show some 9=some ix from hi);have cM:some _=some o:=ho;cases cM;obtain⟨st,rfl,h2⟩:=aZ.two;refine⟨rfl,.inl ⟨.int .i64 st,W,?_,⟨_,_,rfl,h2⟩⟩⟩;have r':(Instr.extract (.tuple #[.int .i64 (cn:Int),.int .i64 st]) 1).run Tryz.prog W=.ok (.int .i64 st) W:=rfl;simp[execOp,Act.eval,r',Result.andThen]
     ·cases (show some 10=some ix from hi);have cM:some _=some o:=ho;cases cM;obtain⟨st,W',rfl,r,h3⟩:=aZ.three;refine⟨rfl,.inr (.inl ⟨W',?_,⟨_,_,rfl,h3⟩⟩)⟩;simp[execOp,Act.eval,r,Result.andThen]
     ·simp at hi
    case fin=>
     rintro k aF W3 hk ⟨e,s,rfl,aZ⟩;obtain⟨k,rfl⟩:∃k',k=k'+3:=⟨k-3,by simp at hk;omega⟩;obtain⟨dC,eX⟩:=id aZ;have cQ:=(Aa HI).next (Aa dE) (Aa bY) (Aa fT) (Aa aN) (Aa cH).1 (Aa cH).2 hU dC aG eX
     rw[←S7 hx]at cQ;have HF:=Ab cQ;clear cQ dC eX aZ hS eI dW
     gi_wp2
     exact Aa HF
   case done=>
    rintro D M9 V rfl iN hi hK;subst hA;obtain⟨⟨v5,Lm,aB,_,_,_,aQ⟩,_⟩:=hi;rw[List.take_of_length_le (qJ _)]at aB;obtain⟨NL,cY⟩:=qeX (acc++P28.refsN (ss.map Ai.name) [] LR);rw[cY]at aB;obtain⟨gL,iS,rfl⟩:=aB.nb.own.form;obtain⟨k0,k1,k2,k3⟩:=aB.cells;obtain⟨kb,kf⟩:=A1 aB.nb.box
    have eV:NL.length≤990000000000:=by
     have h1:=Gt (ss.map Ai.name) LR [];have h2:=Aa cN;rw[←cY,qH];omega
    have aY:=Kr _ _ V _ aB.nb.own eV
    have eU:NL=P28.namesP (Af.bare ⟨nm,tx,sa,sc,ss⟩):=by
     have e1:P28.names (Af.bare ⟨nm,tx,sa,sc,ss⟩)=ss.map Ai.name:=by simp[P28.names,Af.bare,Ai.bare]
     have e2:P28.afters (Af.bare ⟨nm,tx,sa,sc,ss⟩)=ss.map Ai.after:=by simp[P28.afters,Af.bare,Ai.bare]
     have e3:((M:Int)==0)=(ss.map Ai.bare).isEmpty:=by
      rw[←Aa HM];cases ss with
      |nil=>rfl
      |cons x r=>simp;omega
     unfold P28.namesP;rw[e1,e2,Aa dT,←cY,←Aa bX,←Aa fL,e3];simp only[Af.bare,zR,zH]
    have aY:Calls Tryz.prog 162 #[.slice gL NL.length iS] V fun e w'=>∃v',e=.returned v'∧A0 w' V.heap.size v' (P28.sortN (P28.namesP (Af.bare ⟨nm,tx,sa,sc,ss⟩)))∧Below V.heap.size V w':=by rw[←eU];exact aY
    have eH:=Ab aY;have bW:=Ab aB;clear aB aQ aY eU cY eV;go_wp2_with (go_at_call 162;refine(Aa eH).mono ?_;rintro e V2 ⟨v2,rfl,dY,cG⟩)
    have jL:R+1+1+1<V.heap.size:=by
     have h:=(qA.1 hK).1;omega
    have iM:V2.heap[R+1+1+1]?=some (.deferred (some [])):=(cG.block _ jL).trans (by rw[iT]at hK;exact hK);have bI:=Aa bW;have kH:=bI.size;refine⟨by simp,.inl ⟨_,_,rfl,run_takeDeferred iM,?_⟩⟩;refine⟨_,results_tmp rfl _ _ _,v2,rfl,?_,?_⟩
    ·exact(dY.keep (fun g hg=>(grownBy_putObj' V2 (R+1+1+1) (.deferred none)).block g (dY.lt hg).2 (fun e=>by cases e;have:=(dY.lt hg).1;omega))).base (by omega)
    ·exact(bI.bel.trans (cG.mono (by omega))).grown (grownBy_putObj' V2 (R+1+1+1) (.deferred none)) (by have:=cG.size;omega) (fun k e=>by cases e;omega)
  |succ g'=>
   have kI:(i:Int)<(M:Int):=by omega
   have kD:IntKind.i64.wrap ((i:Int)+1)=(i:Int)+1:=qG _ (by omega);obtain⟨s1,bG⟩:=Ap (Aa HM) (show i<M by omega);have dL:=Aa gP s1 (qN bG);have cO:=((Aa cX).below (by rw[hH];exact(Aa bD).bel)).steps;obtain⟨b1,o1,rfl,c1,eC⟩:=cO.get bG;have gE:(ss.map Ai.bare)[i]?=some s1.bare:=by rw[zJ,bG];rfl
   have eN:=Ab gE;obtain⟨n1,a1,u1,fV,fS,fO,q1,fG,fW,eW,⟨k1,t1,fK,eY,eO,eQ,fU,fQ,l1⟩⟩:=s1;obtain⟨⟨c0,c1,c2,c3⟩,⟨c4,c5,c6,c7⟩,⟨c8,c9,c10,c11,c12⟩⟩:=Ar c1;simp only[Ai.aV,Nd.kind,Nd.text,Nd.kV,Nd.dV,Nd.line,Nd.ka,Nd.kc,Nd.keys,Nd.da,Nd.dc,Nd.kids]at c0 c1 c2 c3 c4 c5 c6 c7 c8 c9 c10 c11 c12;simp only at dL;obtain⟨gH,fE,dJ⟩:=dL;obtain⟨K,hK⟩:=qeX wr.heap.size;obtain⟨W1,bC⟩:=qeX (wr.alloc (.cells #[.string ⟨n1.toArray⟩,.string ⟨a1.toArray⟩,.string ⟨u1.toArray⟩,.slice fV fO.length fS,.int .i64 q1,.int .i64 fG,.int .i64 fW,.int .i64 eW,.int .u8 k1,.string ⟨t1.toArray⟩,.slice fK eO.length eY,.slice eQ fQ.length fU,.int .i64 l1] 63));have r0:W1.heap[K]?=some (.cells #[.string ⟨n1.toArray⟩,.string ⟨a1.toArray⟩,.string ⟨u1.toArray⟩,.slice fV fO.length fS,.int .i64 q1,.int .i64 fG,.int .i64 fW,.int .i64 eW,.int .u8 k1,.string ⟨t1.toArray⟩,.slice fK eO.length eY,.slice eQ fQ.length fU,.int .i64 l1] 63):=by rw[←bC,←hK];exact qB _ _
   have cB:Below wr.heap.size wr W1:=by rw[←bC];exact(qU _ _).alloc (qJ _) _
   have hm1:Bi L8 W1 bm Lp:=(Aa aM).keep (cB.block _ (by omega));have gY:W1.heap.size=K+1:=by rw[←bC,←hK];simp
   have eJ:=(Aa bD).keep cB;have iZ:v.ownBlock≠some K:=fun e=>by have:=((Aa bD).nb.own.lt e).2;omega
   have jW:=(Aa bD).size;obtain⟨⟨y0,_⟩,⟨y1,_⟩,⟨y2,_⟩,_⟩:=Am r0;obtain⟨k0,aA,k2,k3⟩:=eJ.cells;simp only[Aa HM]at k0 aA k2;have HN:=Ab eJ;have J:=Ab hm1;have iG:=Ab bC;have HR:=Ab r0;clear bG eC cO cB hm1 r0 bC aM gE eJ;go_upto_region 9 with fail
   rw[Aa iG]
   have aK:(bM++P28.stepsN (ss.map Ai.name) 0 ((ss.map Ai.bare).take i)).length≤400002:=by
    have h1:=Fa (ss.map Ai.name) ((ss.map Ai.bare).take i) 0;rw[qY]at h1;rw[qH];omega
   have aT:bm≠H+1:=eB;obtain⟨acc,aL⟩:=qeX ((bM++P28.stepsN (ss.map Ai.name) 0 ((ss.map Ai.bare).take i)));rw[aL]at HN aK;have bX:=Ab aL;clear aL;have jP:bm<W1.heap.size:=by omega
   refine Ak 8 (by kernel_rfl) (by kernel_rfl) (by kernel_rfl) (by kernel_rfl) (by kernel_rfl) ?_;simp only[List.take_succ_cons,List.take_zero,List.drop_succ_cons,List.drop_zero]
   repeat (go_big_quiet_step (exact Calls.quiet_of_same (Eb _ _ gH)))
   refine wpQuiet_nil ?_;rintro _ ⟨nq,rfl⟩;have dS:=HN;clear HN;go_upto_region 10 with(go_at_call 163;refine(NS.note (Aa I) ((Aa dS).drewN nq) _ _ _ n1 (by omega)).mono ?_;rintro e x1 ⟨rfl,v1,aO,aW,aU⟩)
   obtain⟨r1,gO,jT⟩:=A6 aW aU (k:=K) (show K<W1.heap.size by omega) (by omega) iZ;obtain⟨m1,jC,kJ⟩:=A6 aW aU (k:=bm) (show bm<W1.heap.size by omega) aT iJ;have r0:=r1.trans (show W1.heap[K]?=_ from Aa HR);have hm1:=(Aa J).keep (show x1.heap[bm]?=W1.heap[bm]? from m1);clear HR J y0 y1 y2 k0 aA k2 k3;obtain⟨⟨y0,_⟩,⟨y1,_⟩,⟨y2,_⟩,_⟩:=Am r0;obtain⟨k0,aA,k2,k3⟩:=aO.cells;simp only[Aa HM]at k0 aA k2;have HR:=Ab r0;have J:=Ab hm1;have cA:=Ab aO;clear r0 hm1 aO aW aU r1 m1;refine Ak 8 (by kernel_rfl) (by kernel_rfl) (by kernel_rfl) (by kernel_rfl) (by kernel_rfl) ?_;simp only[List.take_succ_cons,List.take_zero,List.drop_succ_cons,List.drop_zero]
   repeat (go_big_quiet_step (exact Calls.quiet_of_same (Eb _ _ fE)))
   refine wpQuiet_nil ?_;rintro _ ⟨nq,rfl⟩;go_upto_region 11 with(go_at_call 163;refine(NS.note (Aa I) ((Aa cA).drewN nq) _ _ _ a1 (qK (B0 aK) (by omega))).mono ?_;rintro e x2 ⟨rfl,v2,aR,aP,aX⟩)
   obtain⟨r2,gA,kC⟩:=A6 aP aX (k:=K) (show K<x1.heap.size by omega) (by omega) gO;obtain⟨m2,fB,jX⟩:=A6 aP aX (k:=bm) (show bm<x1.heap.size by omega) aT jC;have r0:=r2.trans (show x1.heap[K]?=_ from Aa HR);have hm1:=(Aa J).keep (show x2.heap[bm]?=x1.heap[bm]? from m2);clear HR J y0 y1 y2 k0 aA k2 k3;obtain⟨⟨y0,_⟩,⟨y1,_⟩,⟨y2,_⟩,_⟩:=Am r0;obtain⟨k0,aA,k2,k3⟩:=aR.cells;simp only[Aa HM]at k0 aA k2;have HR:=Ab r0;have J:=Ab hm1;have bJ:=Ab aR;clear r0 hm1 aR aP aX r2 m2
   have fF:∃j:Nat,P28.idx (ss.map Ai.name) n1=some j:=by
    cases hq:P28.idx (ss.map Ai.name) n1 with
    |some j=>exact⟨j,rfl⟩
    |none=>
     refine absurd ?_ (P28.idx_none.1 hq);have hb:=Aa eN;rw[zJ]at hb;cases h9:ss[i]? with
     |none=>rw[h9]at hb;cases hb
     |some s9=>
      rw[h9]at hb;have jG:s9.name=n1:=congrArg P22.Step.name (Option.some.inj hb);exact List.mem_map.2 ⟨s9,qN h9,jG⟩
   obtain⟨j,hj⟩:=fF;have dG:=Ab hj;have dF:lk Lp n1=some (.int .i64 (j:Int)):=by rw[Aa hZ,hj];rfl
   have dB:=Ab dF;clear hj dF;cases u1 with
   |nil=>
    refine Ak 13 (by kernel_rfl) (by kernel_rfl) (by kernel_rfl) (by kernel_rfl) (by kernel_rfl) ?_;simp only[List.take_succ_cons,List.take_zero,List.drop_succ_cons,List.drop_zero]
    repeat (go_big_quiet_step (exact Calls.quiet_of_same (Eb _ _ dJ)))
    refine wpQuiet_nil ?_;rintro _ ⟨nq,rfl⟩;go_upto_region 12 with(go_at_call 163;refine(NS.note (Aa I) ((Aa bJ).drewN nq) _ _ _ [] (qK (B0 (B0 aK)) (by omega))).mono ?_;rintro e x3 ⟨rfl,v3,aH,aE,aJ⟩)
    obtain⟨r3,eG,jK⟩:=A6 aE aJ (k:=K) (show K<x2.heap.size by omega) (by omega) gA;obtain⟨m3,dZ,jJ⟩:=A6 aE aJ (k:=bm) (show bm<x2.heap.size by omega) aT fB;have r0:=r3.trans (show x2.heap[K]?=_ from Aa HR);have hm1:=(Aa J).keep (show x3.heap[bm]?=x2.heap[bm]? from m3);clear HR J y0 y1 y2 k0 aA k2 k3;obtain⟨⟨y0,_⟩,⟨y1,_⟩,⟨y2,_⟩,_⟩:=Am r0;obtain⟨k0,aA,k2,k3⟩:=aH.cells;simp only[Aa HM]at k0 aA k2;have HR:=Ab r0;have J:=Ab hm1;have aN:=Ab aH;clear r0 hm1 aH aE aJ r3 m3;go_upto_region 13 with(first|(at_lookup;refine Cy rfl _ _ rfl (Aa J) Sq Tryz.underlying205 (Dc _) rfl n1 rfl (Aa dB) ?_)|(go_at_call 163;refine(NS.note (Aa I) (Aa aN) _ _ _ n1 (qK (B0 (B0 (B0 aK))) (by omega))).mono ?_;rintro e x4 ⟨rfl,v4,aS,bO,bK⟩))
    obtain⟨r4,iA,jF⟩:=A6 bO bK (k:=K) (show K<x3.heap.size by omega) (by omega) eG;obtain⟨m4,eL,eK⟩:=A6 bO bK (k:=bm) (show bm<x3.heap.size by omega) aT dZ;have r0:=r4.trans (show x3.heap[K]?=_ from Aa HR);have hm1:=(Aa J).keep (show x4.heap[bm]?=x3.heap[bm]? from m4);clear HR J y0 y1 y2 k0 aA k2 k3;obtain⟨⟨y0,_⟩,⟨y1,_⟩,⟨y2,_⟩,_⟩:=Am r0;obtain⟨k0,aA,k2,k3⟩:=aS.cells;simp only[Aa HM]at k0 aA k2;have HR:=Ab r0;have J:=Ab hm1;have cC:=Ab aS;clear r0 hm1 aS bO bK r4 m4;go_wp2;go_roundg g'
    case measure=>omega
    case rel=>
     refine⟨i+1,v4,by omega,by go_num,Ab ?_,J,eL,eK⟩;have h4:=Aa cC;rw[Gd _ _ 0 i _ (Aa eN),←zH,Aa bX,Nat.zero_add];simpa[P28.stepN,Ai.bare,Aa dG,zH]using h4
   |cons u0 ur=>
    refine Ak 13 (by kernel_rfl) (by kernel_rfl) (by kernel_rfl) (by kernel_rfl) (by kernel_rfl) ?_;simp only[List.take_succ_cons,List.take_zero,List.drop_succ_cons,List.drop_zero]
    repeat (go_big_quiet_step (exact Calls.quiet_of_same (Eb _ _ dJ)))
    refine wpQuiet_nil ?_;rintro _ ⟨nq,rfl⟩;go_upto_region 12 with(go_at_call 163;refine(NS.note (Aa I) ((Aa bJ).drewN nq) _ _ _ (u0::ur) (qK (B0 (B0 aK)) (by omega))).mono ?_;rintro e x3 ⟨rfl,v3,aH,aE,aJ⟩)
    obtain⟨r3,eG,jK⟩:=A6 aE aJ (k:=K) (show K<x2.heap.size by omega) (by omega) gA;obtain⟨m3,dZ,jJ⟩:=A6 aE aJ (k:=bm) (show bm<x2.heap.size by omega) aT fB;have r0:=r3.trans (show x2.heap[K]?=_ from Aa HR);have hm1:=(Aa J).keep (show x3.heap[bm]?=x2.heap[bm]? from m3);clear HR J y0 y1 y2 k0 aA k2 k3;obtain⟨⟨y0,_⟩,⟨y1,_⟩,⟨y2,_⟩,_⟩:=Am r0;obtain⟨k0,aA,k2,k3⟩:=aH.cells;simp only[Aa HM]at k0 aA k2;have HR:=Ab r0;have J:=Ab hm1;have aN:=Ab aH;clear r0 hm1 aH aE aJ r3 m3;go_upto_region 13 with(first|(at_lookup;refine Cy rfl _ _ rfl (Aa J) Sq Tryz.underlying205 (Dc _) rfl n1 rfl (Aa dB) ?_)|(go_at_call 163;refine(NS.note (Aa I) (Aa aN) _ _ _ n1 (qK (B0 (B0 (B0 aK))) (by omega))).mono ?_;rintro e x4 ⟨rfl,v4,aS,bO,bK⟩))
    obtain⟨r4,iA,jF⟩:=A6 bO bK (k:=K) (show K<x3.heap.size by omega) (by omega) eG;obtain⟨m4,eL,eK⟩:=A6 bO bK (k:=bm) (show bm<x3.heap.size by omega) aT dZ;have r0:=r4.trans (show x3.heap[K]?=_ from Aa HR);have hm1:=(Aa J).keep (show x4.heap[bm]?=x3.heap[bm]? from m4);clear HR J y0 y1 y2 k0 aA k2 k3;obtain⟨⟨y0,_⟩,⟨y1,_⟩,⟨y2,_⟩,_⟩:=Am r0;obtain⟨k0,aA,k2,k3⟩:=aS.cells;simp only[Aa HM]at k0 aA k2;have HR:=Ab r0;have J:=Ab hm1;have cC:=Ab aS;clear r0 hm1 aS bO bK r4 m4;go_wp2;go_roundg g'
    case measure=>omega
    case rel=>
     refine⟨i+1,v4,by omega,by go_num,Ab ?_,J,eL,eK⟩;have h4:=Aa cC;rw[Gd _ _ 0 i _ (Aa eN),←zH,Aa bX,Nat.zero_add];simpa[P28.stepN,Ai.bare,Aa dG,zH]using h4
end Go.Proofs.YtefokfbgpfcbkaaGreat
namespace Go.Proofs.YtefokfbgpfcbkaaGreat
open Go.RowKit
structure BS (w W:World) (H:Nat) (d:Af) (ns:List P28.Note) (v:Value):Prop where
 nb:NB W (H+2) (H+1) ns v
 df:W.heap[H]?=some (Be d)
 bel:Below H w W
 size:H+2≤W.heap.size
theorem BS.gr{w W W':World}{H:Nat}{d:Af}{ns I:List P28.Note}{v J:Value}(h:BS w W H d ns v)(hn:NB W' (H+2) (H+1) I J)(hg:Gr W W' (H+1) v.ownBlock):BS w W' H d I J:=by
 have ho:∀g,v.ownBlock=some g→H+2≤g:=fun g e=>(h.nb.own.lt e).1;have Z:=h.size;exact⟨hn,(hg.block H (by omega) (by omega) (fun e=>by have:=ho _ e.symm;omega)).trans h.df,hg.below h.bel (by omega) (by omega) (fun g e=>by have:=ho g e;omega),qK h.size hg.size⟩
theorem BS.keep{w W W':World}{H:Nat}{d:Af}{ns:List P28.Note}{v:Value}(h:BS w W H d ns v)(hb:Below W.heap.size W W'):BS w W' H d ns v:=by
 have I:=h.size;exact⟨h.nb.below hb,(hb.block _ (by omega)).trans h.df,h.bel.trans (hb.mono (by omega)),qK h.size hb.size⟩
theorem BS.other{w W W':World}{H K:Nat}{d:Af}{ns:List P28.Note}{v:Value}(h:BS w W H d ns v)(hK:H+2≤K)(J:v.ownBlock≠some K)(hb:Below H w W')(I:W.heap.size≤W'.heap.size)(hs:∀g,g≠K→W'.heap[g]?=W.heap[g]?):BS w W' H d ns v:=
 ⟨h.nb.keep (hs _ (by omega)) (fun g e=>hs g (fun q=>J (by rw[e,q]))),(hs _ (by omega)).trans h.df,hb,qK h.size I⟩
theorem BS.drewN{w W:World}{H:Nat}{d:Af}{ns:List P28.Note}{v:Value}(h:BS w W H d ns v)(n:Nat):BS w (W.drewN n) H d ns v:=h.keep (Ac (qU _ _))
theorem BS.cells{w W:World}{H:Nat}{d:Af}{ns:List P28.Note}{v:Value}(h:BS w W H d ns v):W.cell? ⟨H,0,none⟩=some (.string ⟨d.name.toArray⟩)∧W.cell? ⟨H,1,none⟩=some (.string ⟨d.text.toArray⟩)∧W.cell? ⟨H,2,none⟩=some (.slice d.sa d.steps.length d.sc):=by
 obtain⟨⟨a,_⟩,⟨b,_⟩,⟨c,_⟩⟩:=Ag h.df;exact⟨a,b,c⟩
theorem BS.note{w W:World}{H f:Nat}{d:Af}{ns:List P28.Note}{v:Value}(hf:J9 f (H+1))(h:BS w W H d ns v)(c:Bool)(i e:Int)(t:List UInt8)(hl:ns.length≤100000000000*9) :
  Calls Tryz.prog f #[.bool c,.int .i64 i,.int .i64 e,.string ⟨t.toArray⟩,.pointer (some ⟨H+1,0,none⟩)] W fun x W'=>x=.returned (.tuple #[])∧∃I,BS w W' H d (ns++P28.nt c i e t) I∧Gr W W' (H+1) v.ownBlock∧(I.ownBlock=v.ownBlock∨∃g,I.ownBlock=some g∧W.heap.size≤g):=by
 refine(hf c i e t W (H+2) ns v h.nb h.size hl).mono ?_;rintro x W' ⟨rfl,I,h1,h2,h3⟩;exact⟨rfl,I,h.gr h1 h2,h2,h3⟩
theorem Jz:∀(ss:List P22.Step) (k i:Nat) (s:P22.Step),ss[i]?=some s→P28.stepsB k (ss.take (i+1))=P28.stepsB k (ss.take i)++P28.stepB (k+i) s
 | [],k,i,s,h=>by simp at h
 |x::ss,k,0,s,h=>by simp at h;subst h;simp[P28.stepsB]
 |x::ss,k,i+1,s,h=>by
  have ih:=Jz ss (k+1) i s (by simpa using h);rw[List.take_succ_cons,List.take_succ_cons];show P28.stepB k x++P28.stepsB (k+1) (ss.take (i+1))=P28.stepB k x++P28.stepsB (k+1) (ss.take i)++_;rw[ih,zH,show k+1+i=k+(i+1) by omega]
theorem E9:∀(ss:List P22.Step) (k:Nat),(P28.stepsB k ss).length≤ss.length*4
 | [],k=>by simp[P28.stepsB]
 |x::ss,k=>by
  have ih:=E9 ss (k+1);have h1:=P28.nt_le (P28.out1 (P28.meant x.tries.most 1) 1 10) k 1 [109,111,115,116];have h2:=P28.nt_le (P28.out1 x.tries.first 0 1000) k 1 [102,105,114,115,116];have h3:=P28.nt_le (P28.out1 (P28.meant x.tries.factor 1) 1 10) k 1 [102,97,99,116,111,114];have h4:=P28.nt_le (P28.out1 (P28.meant x.limit 100) 1 10000) k 1 [108,105,109,105,116];show (P28.stepB k x++P28.stepsB (k+1) ss).length≤_;simp only[P28.stepB,qH,qE]at *;omega
theorem Il(I ns:List (List UInt8)):∀(l:List Nat) (j x:Nat),l[j]?=some x→P28.undoRow I ns (l.take (j+1))=P28.undoRow I ns (l.take j)++P28.nt (I.getD x []).isEmpty x 19 (ns.getD x [])
 | [],j,x,h=>by simp at h
 |y::l,0,x,h=>by simp at h;subst h;simp[P28.undoRow]
 |y::l,j+1,x,h=>by
  have ih:=Il I ns l j x (by simpa using h);rw[List.take_succ_cons,List.take_succ_cons];show P28.nt _ _ _ _++P28.undoRow I ns (l.take (j+1))=P28.nt _ _ _ _++P28.undoRow I ns (l.take j)++_;rw[ih,zH]
theorem Ge(I ns:List (List UInt8)):∀l:List Nat,(P28.undoRow I ns l).length≤l.length
 | []=>by simp[P28.undoRow]
 |y::l=>by
  have ih:=Ge I ns l;have h1:=P28.nt_le (I.getD y []).isEmpty y 19 (ns.getD y []);show (P28.nt _ _ _ _++P28.undoRow I ns l).length≤_;simp only[qH,qE]at *;omega
theorem J2(I ns:List (List UInt8)):∀(R:List (List Nat)) (k i:Nat) (l:List Nat),R[i]?=some l→P28.undosP I ns k (R.take (i+1))=P28.undosP I ns k (R.take i)++(if (I.getD (k+i) []).isEmpty then [] else P28.undoRow I ns l)
 | [],k,i,l,h=>by simp at h
 |x::R,k,0,l,h=>by simp at h;subst h;simp[P28.undosP]
 |x::R,k,i+1,l,h=>by
  have ih:=J2 I ns R (k+1) i l (by simpa using h);rw[List.take_succ_cons,List.take_succ_cons];show (if (I.getD k []).isEmpty then [] else P28.undoRow I ns x)++P28.undosP I ns (k+1) (R.take (i+1))=(if (I.getD k []).isEmpty then [] else P28.undoRow I ns x)++P28.undosP I ns (k+1) (R.take i)++_;rw[ih,zH,show k+1+i=k+(i+1) by omega]
theorem Fc(I ns:List (List UInt8))(c:Nat):∀(R:List (List Nat)) (k:Nat),(∀l∈R,l.length≤c)→(P28.undosP I ns k R).length≤R.length*c
 | [],k,h=>by simp[P28.undosP]
 |x::R,k,h=>by
  have ih:=Fc I ns c R (k+1) (fun l hl=>h l (by simp[hl]));have h1:=qK (Ge I ns x) (h x (by simp));show ((if (I.getD k []).isEmpty then [] else P28.undoRow I ns x)++P28.undosP I ns (k+1) R).length≤_;rw[qH,qE,Nat.add_mul];split
  ·simp;omega
  ·omega
theorem O2(ns:List (List UInt8))(i:Nat):∀(a:List (List UInt8)) (l:List Nat),(a.foldl (fun l x=>P28.addTo i l (P28.idx ns x)) l).length≤l.length+a.length
 | [],l=>by simp
 |x::a,l=>by
  have h1:=O2 ns i a (P28.addTo i l (P28.idx ns x));have h2:=Mo i l (P28.idx ns x);rw[List.foldl_cons];simp only[qE];omega
theorem Ii(ns:List (List UInt8))(c:Nat):∀(aa:List (List (List UInt8))) (i:Nat),(∀a∈aa,a.length≤c)→∀l∈P28.rows ns i aa,l.length≤c
 | [],i,h,l,hl=>by simp[P28.rows]at hl
 |a::aa,i,h,l,hl=>by
  unfold P28.rows at hl;rcases zW.1 hl with rfl|hl
  ·have h1:=O2 ns i a [];have h2:=h a (by simp);unfold P28.row;simp only[qP]at h1;omega
  ·exact Ii ns c aa (i+1) (fun a ha=>h a (by simp[ha])) l hl
structure BG (w V:World) (H bR:Nat) (d:Af) (vs:Nat→Value) (RS:List (List Nat)) (ns:List P28.Note) (v:Value):Prop where
 bs:BS w V H d ns v
 gr:C0 V (H+2) bR vs RS
 sep:∀g,v.ownBlock=some g→¬Ce bR vs RS.length g
theorem BG.note{w V V':World}{H bR:Nat}{d:Af}{vs:Nat→Value}{RS:List (List Nat)}{ns J:List P28.Note}{v Z:Value}(h:BG w V H bR d vs RS ns v)(hs:BS w V' H d J Z)(hg:Gr V V' (H+1) v.ownBlock)(ho:Z.ownBlock=v.ownBlock∨∃g,Z.ownBlock=some g∧V.heap.size≤g):BG w V' H bR d vs RS J Z:=by
 refine⟨hs,h.gr.keep (fun g I=>hg.block g (h.gr.lt I).2 (by have:=(h.gr.lt I).1;omega) (fun e=>h.sep g e.symm I)),fun g e I=>?_⟩;rcases ho with o|⟨g',o,hz⟩
 ·exact h.sep g (o.symm.trans e) I
 ·rw[e]at o;cases o;have:=(h.gr.lt I).2;omega
theorem BG.drewN{w V:World}{H bR:Nat}{d:Af}{vs:Nat→Value}{RS:List (List Nat)}{ns:List P28.Note}{v:Value}(h:BG w V H bR d vs RS ns v)(n:Nat):BG w (V.drewN n) H bR d vs RS ns v:=⟨h.bs.drewN n,h.gr.keep (fun _ _=>rfl),h.sep⟩
open Go.RowKit
theorem J5(d:Af)(w:World)(dI:d.In w)(hl:d.steps.length≤100000)(dJ:∀s∈d.steps,s.after.length≤1000000)(eK:∀s∈d.steps,s.name.length≤maxLen) :
  Calls Tryz.prog 125 #[d.val] w fun e w'=>∃v,e=.returned v∧A0 w' w.heap.size v (P28.sortN (P28.boundsP d.bare))∧Below w.heap.size w w':=by
 have bC:=fun r (hr:d.blk r)=>dI.lt hr;obtain⟨H,hH⟩:=qeX w.heap.size;have bX:=fun V (hV:d.In V)=>Ko d V hV hl dJ
 have dL:∀l∈P28.refs d.bare,l.length≤1000000:=Ii _ 1000000 _ 0 (fun a ha=>by
  simp only[P28.afters,Af.bare,List.map_map,List.mem_map,Function.comp]at ha;obtain⟨s,hs,rfl⟩:=ha
  exact dJ s hs)
 have cM:∀l∈P28.refs d.bare,∀x∈l,x<d.steps.length:=fun l h x hx=>by
  have:=P28.refs_lt h hx;simpa[Af.bare]using this
 have dU:(P28.refs d.bare).length=d.steps.length:=by rw[P28.refs_len];simp[Af.bare]
 have eX:P28.boundsP d.bare=P28.stepsB 0 (d.steps.map Ai.bare)++P28.undosP (d.steps.map Ai.undo) (d.steps.map Ai.name) 0 (P28.refs d.bare):=by
  unfold P28.boundsP;simp[P28.undos,P28.names,Af.bare,Ai.bare,Function.comp_def]
 rw[eX];obtain⟨RS,dE⟩:=qeX (P28.refs d.bare);rw[dE]at dL cM dU ⊢;rw[hH]at bC ⊢;obtain⟨W1,bG,bM,g0,g1,fJ⟩:=Dt w (Be d) (.cells #[.slice none 0 0] 124) H hH;have dS:BS w W1 H d [] (.slice none 0 0):=⟨⟨g1,A0.nil _ _,by omega⟩,g0,bM,by omega⟩;have bU:=Qh (H+1);have x0:=Ag (qB w (Be d));rw[hH]at x0;obtain⟨k0,k1,k2⟩:=dS.cells;have aT:=Ab bG;have cQ:=Ab dI;have gN:=Ab bC;have aH:=Ab bX;have dN:=Ab dL;have dH:=Ab cM;have aM:=Ab dU;have fL:=Ab dE;have fI:=Ab dS;have aD:=Ab bU;have dK:=Ab eK;clear bG dI bC bX dL cM dU dE eX dS bU bM g0 g1 dJ eK;unfold Be at aT;obtain⟨nm,tx,sa,sc,ss⟩:=d;obtain⟨M,hM⟩:=qeX ss.length;unfold Af.val at aH ⊢;simp only at hl k0 k1 k2 aT aH aM dH dK ⊢;rw[hM]at hl k2 aT aH aM dH ⊢;have HM:=Ab hM;clear hM;go_enter Tryz.func125,Tryz.ntmps125
 go_upto_region 2 with fail
 try rw[hH]
 rw[Aa aT];clear x0;go_wp2
 go_loopg [16] M (fun g fM wx=>∃(i:Nat) (v:Value),i+g=M∧fM=.int .i64 i∧Hid (BS w wx H ⟨nm,tx,sa,sc,ss⟩ (P28.stepsB 0 ((ss.map Ai.bare).take i)) v))
 case atStart=>exact⟨0,_,by omega,by go_num,by simpa[P28.stepsB]using fI⟩
 case round=>
  obtain⟨i,v,gP,rfl,aU⟩:=hrel;clear k0 k1 k2;cases gk with
  |zero=>
   have e1:(M:Int)≤(i:Int):=by omega
   have j1:decide ((i:Int)<(M:Int))=false:=by simp;omega
   have aI:(ss.map Ai.bare).take i=ss.map Ai.bare:=List.take_of_length_le (by rw[qX,Aa HM];omega);have aN:=Aa aU;rw[aI]at aN
   have eM:(P28.stepsB 0 (ss.map Ai.bare)).length≤400002:=by
    have h1:=E9 (ss.map Ai.bare) 0;rw[qX,Aa HM]at h1;omega
   obtain⟨acc,aC⟩:=qeX (P28.stepsB 0 (ss.map Ai.bare));rw[aC]at aN eM;have cA:=Ab aC;obtain⟨k0,k1,k2⟩:=aN.cells;simp only[Aa HM]at k0 k1 k2;have dA:=(Aa cQ).below (by rw[hH];exact aN.bel);have aQ:=Ab aN;have cZ:=Ab dA;have gW:=Ab aN.bel;clear aU aN dA aI aC;go_upto_region 14 with(go_at_call 59;refine(Aa aH _ (Aa cZ)).mono ?_;rintro e w4 ⟨bR,vs,rfl,cD,eO⟩)
   have dB:=(Aa aQ).keep eO;rw[Aa fL]at cD;have Z:BG w w4 H bR ⟨nm,tx,sa,sc,ss⟩ vs RS acc v:=⟨dB,cD.low (Aa aQ).size,fun g e fX=>by have:=(cD.lt fX).1;have:=((Aa aQ).nb.own.lt e).2;omega⟩;have fE:=Ab Z;clear dB cD Z eO aQ cZ k0 k1 k2;go_wp2
   go_loopg [62] M (fun g gD wx=>∃(k:Nat) (v:Value),k+g=M∧gD=.int .i64 k∧Hid (BG w wx H bR ⟨nm,tx,sa,sc,ss⟩ vs RS (acc++P28.undosP (ss.map Ai.undo) (ss.map Ai.name) 0 (RS.take k)) v))
   case atStart=>exact⟨0,v,by omega,by go_num,by simpa[P28.undosP]using fE⟩
   case round=>
    obtain⟨k,v2,gX,rfl,aB⟩:=hrel;cases gk with
    |zero=>
     have e2:(M:Int)≤(k:Int):=by omega
     have j2:decide ((k:Int)<(M:Int))=false:=by simp;omega
     have aI:RS.take k=RS:=List.take_of_length_le (by rw[Aa aM];omega);have Z:=(Aa aB).bs;rw[aI]at Z
     have dG:(P28.undosP (ss.map Ai.undo) (ss.map Ai.name) 0 RS).length≤100000000000:=by
      have h1:=Fc (ss.map Ai.undo) (ss.map Ai.name) 1000000 RS 0 (Aa dN);have h2:RS.length*1000000≤100000*1000000:=Nat.mul_le_mul_right _ (by rw[Aa aM];omega);omega
     obtain⟨NL,cR⟩:=qeX (acc++P28.undosP (ss.map Ai.undo) (ss.map Ai.name) 0 RS);rw[cR]at Z;have dK:=Ab cR;have eD:NL.length≤990000000000:=by rw[←cR,qH];omega
     obtain⟨gO,gZ,rfl⟩:=Z.nb.own.form;obtain⟨kb,kf⟩:=A1 Z.nb.box;have bK:=Kr _ _ wr _ Z.nb.own eD;have dT:=Ab bK;have J:=Ab Z;clear Z bK cR eD aI dG;go_wp2_with (go_at_call 162;refine(Aa dT).mono ?_;rintro e V2 ⟨v3,rfl,fO,aS⟩)
     go_ret;have hz:=(Aa J).size;refine⟨_,rfl,?_,(Aa J).bel.trans (aS.mono (by omega))⟩;rw[Aa cA,Aa dK];exact fO.base (by omega)
    |succ g2=>
     have gI:(k:Int)<(M:Int):=by omega
     have iC:IntKind.i64.wrap ((k:Int)+1)=(k:Int)+1:=qG _ (by omega);obtain⟨rl,aR⟩:∃rl,RS[k]?=some rl:=Ap (Aa aM) (by omega);have eB:=(Aa aB).gr.own k rl aR;obtain⟨ra,rc,dF,eI,gM,cS⟩:=eB.slice;have aG:=(Aa aB).gr.row.cell (i:=k) (by rw[Aa aM];omega);rw[dF]at aG;have dC:rl.length≤1000000:=Aa dN rl (qN aR);obtain⟨s1,aP⟩:=Ap (Aa HM) (show k<M by omega);have aJ:=((Aa cQ).below (by rw[hH];exact(Aa aB).bs.bel)).steps;obtain⟨b1,o1,rfl,c1,bO⟩:=aJ.get aP;obtain⟨⟨c0,c1,c2,c3⟩,_,_⟩:=Ar c1;obtain⟨k0,k1,k2⟩:=(Aa aB).bs.cells;simp only[Aa HM]at k0 k1 k2;have bI:(ss.map Ai.undo).getD (0+k) []=s1.undo:=by rw[Nat.zero_add,List.getD_eq_getElem?_getD,zJ,aP];rfl
     have aO:=J2 (ss.map Ai.undo) (ss.map Ai.name) RS 0 k rl aR;rw[bI]at aO
     have dG:(acc++P28.undosP (ss.map Ai.undo) (ss.map Ai.name) 0 (RS.take k)).length≤200000000000:=by
      have h1:=Fc (ss.map Ai.undo) (ss.map Ai.name) 1000000 (RS.take k) 0 (fun l hl=>Aa dN l (List.mem_of_mem_take hl));rw[qY,Aa aM]at h1;have h2:min k M*1000000≤100000*1000000:=Nat.mul_le_mul_right _ (by omega);rw[qH];omega
     have aL:=Ab aO;have eW:=Ab dF;have cH:=Ab aR;have gL:=Ab cS;have aZ:∀j x,rl[j]?=some x→x<M:=fun j x hx=>Aa dH rl (qN aR) x (qN hx);have fS:=Ab aZ;clear aR eB dF eI cS aP bO aJ bI aO aZ;obtain⟨iA,fW,cU,eJ⟩:∃a b,s1.undo=b∧s1.name=a:=⟨_,_,rfl,rfl⟩;rw[cU]at c2 aL;clear cU eJ c0 c1 c3;obtain⟨aX,bD⟩:=qeX (acc++P28.undosP (ss.map Ai.undo) (ss.map Ai.name) 0 (RS.take k));rw[bD]at aB dG;have cX:=Ab bD;clear bD;cases fW with
     |nil=>
      go_wp2;go_roundg g2
      case measure=>omega
      case rel=>
       refine⟨k+1,v2,by omega,by go_num,Ab ?_⟩;rw[Aa aL,←zH,Aa cX];simpa using Aa aB
     |cons uc ur=>
      obtain⟨NR,dR⟩:=qeX rl.length;rw[dR]at aG dC eW;have dM:=Ab dR;clear dR;go_wp2
      go_loopg [76] NR (fun g gF wx=>∃(j:Nat) (v:Value),j+g=NR∧gF=.int .i64 j∧Hid (BG w wx H bR ⟨nm,tx,some ⟨b1,o1,none⟩,sc,ss⟩ vs RS (aX++P28.undoRow (ss.map Ai.undo) (ss.map Ai.name) (rl.take j)) v))
      case atStart=>exact⟨0,v2,by omega,by go_num,by simpa[P28.undoRow]using aB⟩
      case round=>
       obtain⟨j,v3,gQ,rfl,J⟩:=hrel;clear k0 k1 k2 c2 aG;cases gk with
       |zero=>
        have e3:(NR:Int)≤(j:Int):=by omega
        have j3:decide ((j:Int)<(NR:Int))=false:=by simp;omega
        have aI:rl.take j=rl:=List.take_of_length_le (by rw[Aa dM];omega);have Z:=Aa J;rw[aI]at Z;have aY:=Ab Z;clear Z aI J;go_wp2;go_roundg g2
        case measure=>omega
        case rel=>
         refine⟨k+1,v3,by omega,by go_num,Ab ?_⟩;rw[Aa aL,←zH,Aa cX];simpa using Aa aY
       |succ g3=>
        have gJ:(j:Int)<(NR:Int):=by omega
        have hkj:IntKind.i64.wrap ((j:Int)+1)=(j:Int)+1:=qG _ (by omega);obtain⟨x,cO⟩:=Ap (Aa dM) (show j<NR by omega);obtain⟨fC,gS,e,_,_,cW⟩:=((Aa J).gr.own k rl (Aa cH)).slice;rw[Aa eW]at e;have e1:fC=ra:=by injection e with e1 _ _;exact e1.symm
        clear e;subst e1;obtain⟨rb,ro,rfl,cj⟩:=cW j x cO;unfold iv at cj;have fK:=Aa fS j x cO;obtain⟨s2,cP⟩:=Ap (Aa HM) fK;have aJ:=((Aa cQ).below (by rw[hH];exact(Aa J).bs.bel)).steps;obtain⟨b2,o2,eb,c1,bO⟩:=aJ.get cP;injection eb with eb;injection eb with fV gB;subst fV gB;obtain⟨⟨c0,c1,c2,c3⟩,_,_⟩:=Ar c1;obtain⟨k0,k1,k2⟩:=(Aa J).bs.cells;simp only[Aa HM]at k0 k1 k2;have bI:(ss.map Ai.undo).getD x []=s2.undo:=by rw[List.getD_eq_getElem?_getD,zJ,cP];rfl
        have eY:(ss.map Ai.name).getD x []=s2.name:=by rw[List.getD_eq_getElem?_getD,zJ,cP];rfl
        have bE:=Il (ss.map Ai.undo) (ss.map Ai.name) rl j x cO;rw[bI,eY]at bE
        have dY:(aX++P28.undoRow (ss.map Ai.undo) (ss.map Ai.name) (rl.take j)).length≤300000000000:=by
         have h1:=Ge (ss.map Ai.undo) (ss.map Ai.name) (rl.take j);rw[qY,Aa dM]at h1;rw[qH];omega
        obtain⟨eG,cV⟩:∃a,s2.undo=a:=⟨_,rfl⟩;obtain⟨eU,cT⟩:∃a,s2.name=a:=⟨_,rfl⟩;rw[cV]at c2 bE;rw[cT]at c0 bE;obtain⟨bL,aK⟩:=qeX (aX++P28.undoRow (ss.map Ai.undo) (ss.map Ai.name) (rl.take j));rw[aK]at J dY;have dQ:=Ab aK;have fB:=Ab bE;clear cO cW cP aJ bO bI eY bE cV cT c1 c3 aK;go_upto_region 20 with fail
        refine Ak 15 (by kernel_rfl) (by kernel_rfl) (by kernel_rfl) (by kernel_rfl) (by kernel_rfl) ?_;simp only[List.take_succ_cons,List.take_zero,List.drop_succ_cons,List.drop_zero]
        repeat (go_big_quiet_step (fail))
        refine wpQuiet_nil ?_;rintro _ ⟨nq,rfl⟩;have hb:∀b:Bool,b=eG.isEmpty→(bL++P28.nt b x 19 eU)=aX++P28.undoRow (ss.map Ai.undo) (ss.map Ai.name) (rl.take (j+1)):=fun b hb=>by rw[hb,Aa fB,←zH,Aa dQ]
        have HB:=Ab hb;clear hb;go_upto_region 21 with(go_at_call 164;refine(BS.note (Aa aD) ((Aa J).bs.drewN nq) _ _ _ eU (by omega)).mono ?_;rintro e x4 ⟨rfl,v4,bY,bZ,bQ⟩)
        have bW:=((Aa J).drewN nq).note bY bZ bQ;rw[Aa HB _ (by cases eG<;>rfl)]at bW;have aY:=Ab bW;clear bW bY bZ bQ;go_wp2;go_roundg g3
        case measure=>omega
        case rel=>exact⟨j+1,v4,by omega,by go_num,aY⟩
  |succ g'=>
   have cM:(i:Int)<(M:Int):=by omega
   have gT:IntKind.i64.wrap ((i:Int)+1)=(i:Int)+1:=qG _ (by omega);obtain⟨s1,aP⟩:=Ap (Aa HM) (show i<M by omega);have aJ:=((Aa cQ).below (by rw[hH];exact(Aa aU).bel)).steps;obtain⟨b1,o1,rfl,c1,bO⟩:=aJ.get aP;have eV:(ss.map Ai.bare)[i]?=some s1.bare:=by rw[zJ,aP];rfl
   have gG:=Ab eV;have I:=fun V=>Kn s1 V;obtain⟨n1,a1,u1,cL,cJ,eP,q1,bJ,cN,cF,⟨k1,t1,cI,cG,dZ,cC,cK,eQ,l1⟩⟩:=s1;obtain⟨⟨c0,c1,c2,c3⟩,⟨c4,c5,c6,c7⟩,⟨c8,c9,c10,c11,c12⟩⟩:=Ar c1;simp only[Ai.aV,Nd.kind,Nd.text,Nd.kV,Nd.dV,Nd.line,Nd.ka,Nd.kc,Nd.keys,Nd.da,Nd.dc,Nd.kids]at c0 c1 c2 c3 c4 c5 c6 c7 c8 c9 c10 c11 c12;unfold Ai.real at I;simp only[Ai.val_eqn]at I;obtain⟨N1,cB⟩:=qeX eP.length;obtain⟨N2,bV⟩:=qeX dZ.length;obtain⟨N3,bT⟩:=qeX eQ.length;rw[cB]at c3 I;rw[bV]at c10 I;rw[bT]at c11 I;have bF:P28.stepB (0+i) (Ai.bare ⟨n1,a1,u1,cL,cJ,eP,q1,bJ,cN,cF,⟨k1,t1,cI,cG,dZ,cC,cK,eQ,l1⟩⟩)=P28.nt (P28.out1 (P28.meant q1 1) 1 10) i 1 [109,111,115,116]++(P28.nt (P28.out1 bJ 0 1000) i 1 [102,105,114,115,116]++(P28.nt (P28.out1 (P28.meant cN 1) 1 10) i 1 [102,97,99,116,111,114]++P28.nt (P28.out1 (P28.meant cF 100) 1 10000) i 1 [108,105,109,105,116])):=by rw[Nat.zero_add];rfl
   obtain⟨mq,eF⟩:∃m,P28.meant q1 1=m:=⟨_,rfl⟩;obtain⟨mf,eZ⟩:∃m,P28.meant cN 1=m:=⟨_,rfl⟩;obtain⟨ml,eT⟩:∃m,P28.meant cF 100=m:=⟨_,rfl⟩;rw[eF]at I bF;rw[eZ]at I bF;rw[eT]at I bF;obtain⟨K,hK⟩:=qeX wr.heap.size;obtain⟨W1,bG,bM,r0,fJ⟩:=As wr (.cells #[.string ⟨n1.toArray⟩,.string ⟨a1.toArray⟩,.string ⟨u1.toArray⟩,.slice cL N1 cJ,.int .i64 q1,.int .i64 bJ,.int .i64 cN,.int .i64 cF,.int .u8 k1,.string ⟨t1.toArray⟩,.slice cI N2 cG,.slice cC N3 cK,.int .i64 l1] 63) K hK;have dW:=(Aa aU).keep (by rw[hK];exact bM);have eS:v.ownBlock≠some K:=fun e=>by have:=((Aa aU).nb.own.lt e).2;omega
   have fH:=(Aa aU).size;rw[hK]at fH
   have aE:(P28.stepsB 0 ((ss.map Ai.bare).take i)).length≤400002:=by
    have h1:=E9 ((ss.map Ai.bare).take i) 0;rw[qY]at h1;omega
   obtain⟨acc,aC⟩:=qeX (P28.stepsB 0 ((ss.map Ai.bare).take i));rw[aC]at dW aE;obtain⟨⟨y0,_⟩,⟨y1,_⟩,⟨y2,_⟩,⟨y3,_⟩,⟨y4,_⟩,⟨y5,_⟩,⟨y6,_⟩,⟨y7,_⟩,⟨y8,_⟩,⟨y9,_⟩,⟨fZ,_⟩,⟨fR,_⟩,⟨fN,_⟩⟩:=Am r0;have cA:=Ab aC;have fU:=Ab bF;have HN:=Ab dW;have aT:=Ab bG;have HR:=Ab r0;have dD:=Ab I;clear aP bO aJ bM r0 bG eV dW aC bF I cB bV bT eF eZ eT;go_upto_region 7 with fail
   try rw[hK]
   rw[Aa aT];go_upto_region 8 with(go_at_call 166;refine(Aa dD _).mono ?_;rintro e w2 ⟨rfl,aS⟩;have dP:=(aS.block K (by omega)).trans (Aa HR);obtain⟨⟨_,f0⟩,⟨_,f1⟩,⟨_,f2⟩,⟨_,f3⟩,⟨_,f4⟩,⟨_,f5⟩,⟨_,f6⟩,⟨_,f7⟩,⟨_,f8⟩,⟨_,f9⟩,⟨_,f10⟩,⟨_,f11⟩,⟨_,f12⟩⟩:=Am dP;have cH:=Ab dP;clear dP)
   obtain⟨W3,aW⟩:=qeX ((((((((((((((w2.setCell ⟨K,0,none⟩ (.string ⟨n1.toArray⟩)).setCell ⟨K,1,none⟩ (.string ⟨a1.toArray⟩)).setCell ⟨K,2,none⟩ (.string ⟨u1.toArray⟩)).setCell ⟨K,3,none⟩ (.slice cL N1 cJ)).setCell ⟨K,4,none⟩ (.int .i64 mq)).setCell ⟨K,5,none⟩ (.int .i64 bJ)).setCell ⟨K,6,none⟩ (.int .i64 mf)).setCell ⟨K,7,none⟩ (.int .i64 ml)).setCell ⟨K,8,none⟩ (.int .u8 k1)).setCell ⟨K,9,none⟩ (.string ⟨t1.toArray⟩)).setCell ⟨K,10,none⟩ (.slice cI N2 cG)).setCell ⟨K,11,none⟩ (.slice cC N3 cK)).setCell ⟨K,12,none⟩ (.int .i64 l1)));rw[aW];have r0:W3.heap[K]?=some (.cells #[.string ⟨n1.toArray⟩,.string ⟨a1.toArray⟩,.string ⟨u1.toArray⟩,.slice cL N1 cJ,.int .i64 mq,.int .i64 bJ,.int .i64 mf,.int .i64 ml,.int .u8 k1,.string ⟨t1.toArray⟩,.slice cI N2 cG,.slice cC N3 cK,.int .i64 l1] 63):=by rw[←aW];exact Tj (Aa cH) _ _ _ _ _ _ _ _ _ _ _ _ _
   have cY:∀g,g≠K→W3.heap[g]?=w2.heap[g]?:=fun g hg=>by rw[←aW];exact Yp hg _ _ _ _ _ _ _ _ _ _ _ _ _
   have dX:=(Aa HN).keep aS;have hZ:=aS.size
   have eL:Below H w W3:=by
    rw[←aW];have aA:H≤K:=by omega
    exact(((((((((((((dX.bel).setCell (p:=⟨K,0,none⟩) aA _).setCell (p:=⟨K,1,none⟩) aA _).setCell (p:=⟨K,2,none⟩) aA _).setCell (p:=⟨K,3,none⟩) aA _).setCell (p:=⟨K,4,none⟩) aA _).setCell (p:=⟨K,5,none⟩) aA _).setCell (p:=⟨K,6,none⟩) aA _).setCell (p:=⟨K,7,none⟩) aA _).setCell (p:=⟨K,8,none⟩) aA _).setCell (p:=⟨K,9,none⟩) aA _).setCell (p:=⟨K,10,none⟩) aA _).setCell (p:=⟨K,11,none⟩) aA _).setCell (p:=⟨K,12,none⟩) aA _
   have gY:W3.heap.size=w2.heap.size:=by rw[←aW];simp
   have fA:=dX.other (by omega) eS eL (by omega) cY;clear y0 y1 y2 y3 y4 y5 y6 y7 y8 y9 fZ fR fN f0 f1 f2 f3 f4 f5 f6 f7 f8 f9 f10 f11 f12 aW cY aS eL dX cH HN HR;obtain⟨_,_,_,_,⟨y4,_⟩,⟨y5,_⟩,⟨y6,_⟩,⟨y7,_⟩,_⟩:=Am r0;have HR:=Ab r0;have HN:=Ab fA;have gE:K<W3.heap.size:=by omega
   clear r0 fA;go_upto_region 9 with(first|(go_at_call 165;refine(Fd _ _ _ _).mono ?_;rintro e w' ⟨rfl,hw⟩;obtain rfl:=hw.symm)|(go_at_call 164;(try simp only[Bool.not_not]);refine(BS.note (Aa aD) (Aa HN) _ _ _ [109,111,115,116] (qK (aE) (by omega))).mono ?_;rintro e x1 ⟨rfl,v1,cB,eE,eC⟩))
   obtain⟨r1,fG,fD⟩:=A6 eE eC (k:=K) (show K<W3.heap.size from gE) (by omega) eS;have r0:=r1.trans (show W3.heap[K]?=_ from Aa HR);clear HR y4 y5 y6 y7;obtain⟨_,_,_,_,⟨y4,_⟩,⟨y5,_⟩,⟨y6,_⟩,⟨y7,_⟩,_⟩:=Am r0;have HR:=Ab r0;have fP:=Ab cB;clear r0 r1 cB eE eC;go_upto_region 10 with(first|(go_at_call 165;refine(Fd _ _ _ _).mono ?_;rintro e w' ⟨rfl,hw⟩;obtain rfl:=hw.symm)|(go_at_call 164;(try simp only[Bool.not_not]);refine(BS.note (Aa aD) (Aa fP) _ _ _ [102,105,114,115,116] (qK (B0 (aE)) (by omega))).mono ?_;rintro e x2 ⟨rfl,v2,bV,eA,eH⟩))
   obtain⟨r2,gC,fQ⟩:=A6 eA eH (k:=K) (show K<x1.heap.size from fD) (by omega) fG;have r0:=r2.trans (show x1.heap[K]?=_ from Aa HR);clear HR y4 y5 y6 y7;obtain⟨_,_,_,_,⟨y4,_⟩,⟨y5,_⟩,⟨y6,_⟩,⟨y7,_⟩,_⟩:=Am r0;have HR:=Ab r0;have fT:=Ab bV;clear r0 r2 bV eA eH;go_upto_region 11 with(first|(go_at_call 165;refine(Fd _ _ _ _).mono ?_;rintro e w' ⟨rfl,hw⟩;obtain rfl:=hw.symm)|(go_at_call 164;(try simp only[Bool.not_not]);refine(BS.note (Aa aD) (Aa fT) _ _ _ [102,97,99,116,111,114] (qK (B0 (B0 (aE))) (by omega))).mono ?_;rintro e x3 ⟨rfl,v3,bT,eN,eR⟩))
   obtain⟨r3,gA,gH⟩:=A6 eN eR (k:=K) (show K<x2.heap.size from fQ) (by omega) gC;have r0:=r3.trans (show x2.heap[K]?=_ from Aa HR);clear HR y4 y5 y6 y7;obtain⟨_,_,_,_,⟨y4,_⟩,⟨y5,_⟩,⟨y6,_⟩,⟨y7,_⟩,_⟩:=Am r0;have HR:=Ab r0;have fY:=Ab bT;clear r0 r3 bT eN eR;go_upto_region 12 with(first|(go_at_call 165;refine(Fd _ _ _ _).mono ?_;rintro e w' ⟨rfl,hw⟩;obtain rfl:=hw.symm)|(go_at_call 164;(try simp only[Bool.not_not]);refine(BS.note (Aa aD) (Aa fY) _ _ _ [108,105,109,105,116] (qK (B0 (B0 (B0 (aE)))) (by omega))).mono ?_;rintro e x4 ⟨rfl,v4,bY,bZ,bQ⟩))
   obtain⟨r4,gR,iB⟩:=A6 bZ bQ (k:=K) (show K<x3.heap.size from gH) (by omega) gA;have r0:=r4.trans (show x3.heap[K]?=_ from Aa HR);clear HR y4 y5 y6 y7;obtain⟨_,_,_,_,⟨y4,_⟩,⟨y5,_⟩,⟨y6,_⟩,⟨y7,_⟩,_⟩:=Am r0;have HR:=Ab r0;have fF:=Ab bY;clear r0 r4 bY bZ bQ;go_wp2;go_roundg g'
   case measure=>omega
   case rel=>
    refine⟨i+1,v4,by omega,by go_num,Ab ?_⟩;have h4:=Aa fF;rw[Jz _ 0 i _ (Aa gG),Aa cA,Aa fU];simpa[zH]using h4
end Go.Proofs.YtefokfbgpfcbkaaGreat
