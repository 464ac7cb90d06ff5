/- Lemmas of this claim. -/
import Derived.Test.YtnjokdbblmlhhaaGreatDoorWR18dY
import Derived.Deep.CutBlock
set_option linter.unusedVariables false
set_option linter.unusedSimpArgs false
namespace Go.Proofs.YtnjokdbblmlhhaaGreatDoor
set_option maxRecDepth 100000
open Go.RowKit Go.Shelf
def Vm(p:P19.Pt):Value:=.agg #[.int .i64 p.1,.int .i64 p.2.1,C0 p.2.2]
theorem Bx{W:World}{g:Nat}{t:TypeId}{a b c:Value}(h:W.heap[g]?=some (.cells #[a,b,c] t))(v0 D G:Value) :
  (((W.setCell ⟨g,0,none⟩ v0).setCell ⟨g,1,none⟩ D).setCell ⟨g,2,none⟩ G).heap[g]?=some (.cells #[v0,D,G] t):=by
 simp[World.setCell,Array.getElem?_modify,h]
theorem Ay{W:World}{g:Nat}{t:TypeId}{a b c:Value}(h:W.heap[g]?=some (.cells #[a,b,c] t)) :
  (W.cell? ⟨g,0,none⟩=some a∧W.frozen? ⟨g,0,none⟩=false)∧(W.cell? ⟨g,1,none⟩=some b∧W.frozen? ⟨g,1,none⟩=false)∧(W.cell? ⟨g,2,none⟩=some c∧W.frozen? ⟨g,2,none⟩=false):=by
 simp[World.cell?,World.frozen?,h]
theorem A6{W:World}{g g':Nat}(h:g'≠g)(v0 G D:Value):(((W.setCell ⟨g,0,none⟩ v0).setCell ⟨g,1,none⟩ G).setCell ⟨g,2,none⟩ D).heap[g']?=W.heap[g']?:=by
 rw[qC _ _ _ _ h,qC _ _ _ _ h,qC _ _ _ _ h]
theorem Bg{W:World}{g g':Nat}(h:g'≠g)(v0 D G v3:Value):((((W.setCell ⟨g,0,none⟩ v0).setCell ⟨g,1,none⟩ D).setCell ⟨g,2,none⟩ G).setCell ⟨g,3,none⟩ v3).heap[g']?=W.heap[g']?:=by
 rw[qC _ _ _ _ h,qC _ _ _ _ h,qC _ _ _ _ h,qC _ _ _ _ h]
theorem Bb{w W:World}{g:Nat}(h:Below w.heap.size w W)(D:w.heap.size≤g)(v0 I G:Value):Below w.heap.size w (((W.setCell ⟨g,0,none⟩ v0).setCell ⟨g,1,none⟩ I).setCell ⟨g,2,none⟩ G):=
 Bq (Bq (Bq h 0 _ D) 1 _ D) 2 _ D
theorem C4{X:World}{g:Nat}{o:Option Obj}(h:X.heap[g]?=o):X.drew.heap[g]?=o:=h
theorem Bd{J:Func}{p q u:Tmp}{I N:TypeId}(h:J.results=#[.cell p I,.cell q N,.tmp u])(tmps:Array Value)(P:Program)(w:World)(g1 g2:Nat)(Q R:Value)
  (hp:tmps.getD p undef=.pointer (some ⟨g1,0,none⟩)) (hl:(loadVar I ⟨g1,0,none⟩).run P w=.ok Q w)
  (hq:tmps.getD q undef=.pointer (some ⟨g2,0,none⟩)) (S:(loadVar N ⟨g2,0,none⟩).run P w=.ok R w) :
  (results J tmps).run P w=.ok (.tuple #[Q,R,tmps.getD u undef]) w:=by
 have D:tmps[p]?.getD undef=.pointer (some ⟨g1,0,none⟩):=by simpa using hp
 have G:tmps[q]?.getD undef=.pointer (some ⟨g2,0,none⟩):=by simpa using hq
 simp[results,h,D,G,asAddr,Sem.run_bind,Result.andThen,hl,S]
theorem Kp(n col:Int)(s:ByteArray)(k q:Nat)(z:Int)(hz:z=(k:Int))(w:World)(hs:s.size≤1100000)(hk:k≤s.size)(I:0≤col)(G:col≤1000000000)(hq:k+P19.skip (s.data.toList.drop k)=q) :
  Calls Tryz.prog 166 #[.agg #[.int .i64 n,.int .i64 col,.string s],.int .i64 z] w fun e w'=>e=.returned (.agg #[.int .i64 n,.int .i64 (col+(q:Nat)),.string ⟨(s.data.toList.drop q).toArray⟩])∧Below w.heap.size w w':=by
 subst hz;refine(Mr n col s k w hs hk I G).mono ?_;rintro e w' ⟨b,rfl,hb,D⟩;rw[hq]at hb ⊢;obtain rfl:=K5 hb;exact⟨rfl,D⟩
theorem N2(s:ByteArray)(k:Nat)(x:List UInt8 × Int)(w:World)(h:s.size≤1100000)(hk:k≤s.size)(hx:P18.read (s.data.toList.take k)=x) :
  Calls Tryz.prog 169 #[.string (s.extract 0 k)] w fun e w'=>e=.returned (.tuple #[.string ⟨x.1.toArray⟩,.int .i64 x.2])∧Below w.heap.size w w':=by
 have hd:(s.extract 0 k).data.toList=s.data.toList.take k:=by rw[Lib.extract_data,List.drop_zero,Nat.sub_zero]
 have h1:=R4 (s.extract 0 k) w (by rw[ByteArray.size_extract];omega);rw[hd,hx]at h1;refine h1.mono ?_;rintro e w' ⟨b,rfl,hb,D⟩;obtain rfl:=K5 hb;exact⟨rfl,D⟩
theorem S9(l:List UInt8):(P18.cut l).1≤l.length:=by
 unfold P18.cut;split
 ·split
  ·rename_i n h
   have:=P18.cutQ_bd l 0 false n h;simpa using this.2
  ·simp
 ·split
  ·simp
  ·exact P18.plainLen_le l false
set_option maxHeartbeats 20000000 in
theorem Rs(v:Bool)(n col:Int)(s:ByteArray)(w:World)(hs:s.size≤1100000)(bH:0≤col)(bK:col≤1000000000) :
  Calls Tryz.prog 140 #[.agg #[.int .i64 n,.int .i64 col,.string s],.bool v] w fun e w'=>
   e=.returned (.tuple #[Ug (P19.next v n col s.data.toList).1,Vm (P19.next v n col s.data.toList).2.1,.int .i64 (P19.next v n col s.data.toList).2.2])∧Below w.heap.size w w':=by
 have bX:Tryz.prog.follows .mixedOrders=true:=by kernel_rfl
 obtain⟨⟨T,PT,E⟩,hR⟩:∃x,P19.next v n col s.data.toList=x:=⟨_,rfl⟩
 rw[hR];have HR:=Ab hR;clear hR;go_enter Tryz.func140,Tryz.ntmps140
 go_upto_region 1 with fail
 obtain⟨W0,aK⟩:∃W0,((w.alloc (.cells #[.int .i64 n,.int .i64 col,.string s] 187)).alloc (.cells #[.int .u8 0,.string ⟨#[]⟩,.int .i64 0,.int .i64 0] 124)).alloc (.cells #[.int .i64 0,.int .i64 0,.string ⟨#[]⟩] 187)=W0:=⟨_,rfl⟩;have aL:Below w.heap.size w W0:=by rw[←aK];exact(((qV _ w).alloc (qJ _) _).alloc (by simp) _).alloc (by simp;omega) _
 have g0:W0.heap[w.heap.size]?=some (.cells #[.int .i64 n,.int .i64 col,.string s] 187):=by
  rw[←aK];exact(qD _ _ _ (by simp;omega)).trans ((qD _ _ _ (by simp)).trans (qB w _))
 have g1:W0.heap[w.heap.size+1]?=some (.cells #[.int .u8 0,.string ⟨#[]⟩,.int .i64 0,.int .i64 0] 124):=by
  rw[←aK];exact(qD _ _ _ (by simp)).trans (Cy w _ _)
 have g2:W0.heap[w.heap.size+1+1]?=some (.cells #[.int .i64 0,.int .i64 0,.string ⟨#[]⟩] 187):=by
  rw[←aK];have h:=qB ((w.alloc (.cells #[.int .i64 n,.int .i64 col,.string s] 187)).alloc (.cells #[.int .u8 0,.string ⟨#[]⟩,.int .i64 0,.int .i64 0] 124)) (.cells #[.int .i64 0,.int .i64 0,.string ⟨#[]⟩] 187);rw[qF,qF]at h;exact h
 rw[aK];clear aK;obtain⟨B,hB⟩:∃B,w.heap.size=B:=⟨_,rfl⟩;rw[hB]at g0 g1 g2 aL ⊢;have bW:B+1+1<W0.heap.size:=(qA.1 g2).1;obtain⟨⟨x0,_⟩,⟨x1,_⟩,⟨x2,_⟩⟩:=Ay g0;go_cut [20] from 14 to 20 (fun c wx=>c=.bool (P19.signB 45 s.data.toList && !v)∧W0=wx)
 case first=>
  obtain⟨sg,aH⟩:∃b,P19.signB 45 s.data.toList=b:=⟨_,rfl⟩;have aE:=fun W=>L2 s 45 W (by omega);rw[aH]at aE;have aR:=Ab aE;have aY:=Ab aH;clear aE aH;cases sg
  ·go_wp2_with (go_at_call 164;refine(Aa aR _).mono ?_;rintro e w' ⟨rfl,hw⟩;rw[hw];clear hw)
   go_meet
   exact⟨by rw[Aa aY];rfl,rfl⟩
  ·go_wp2_with (go_at_call 164;refine(Aa aR _).mono ?_;rintro e w' ⟨rfl,hw⟩;rw[hw];clear hw)
   go_meet
   exact⟨by rw[Aa aY];rfl,rfl⟩
 case rest=>
  obtain⟨rfl,rfl⟩:=hcut;have hr:=Aa HR;rw[P19.next]at hr;by_cases hd:(P19.signB 45 s.data.toList && !v)=true
  ·rw[if_pos hd]at hr;rw[hd];obtain⟨q,hq⟩:∃q,1+P19.skip (s.data.toList.drop 1)=q:=⟨_,rfl⟩
   have bQ:1≤s.size:=by
    rcases Nat.eq_zero_or_pos s.size with h|h
    ·have hn:s.data.toList=[]:=qU (by rw[←zP];exact h);rw[hn]at hd;cases hd
    ·exact h
   rw[hq]at hr;injection hr with N D;injection D with D J;subst N;subst D;subst J;have aN:=Ab (fun W=>Kp n col s 1 q 1 rfl W (by omega) bQ bH bK hq);clear hd hq;go_wp2
   go_region_with_o (first
    |(have aI:=S;clear aI;go_at_call 166;refine(Aa aN _).mono ?_;rintro e w2 ⟨rfl,I⟩;have Z:Below B w w2:=aC.trans (I.mono (by have:=aC.size;omega));have R:=(I.block _ (qA.1 aS).1).trans aS;have Q:=(I.block _ (qA.1 aT).1).trans aT;obtain⟨⟨y0,z0⟩,⟨y1,z1⟩,⟨y2,z2⟩,⟨y3,z3⟩⟩:=A1 R;obtain⟨⟨y4,z4⟩,⟨y5,z5⟩,⟨y6,z6⟩⟩:=Ay Q)
    |(have aI:=U;clear aI;go_at_call 165;refine(Di _ _ _ _ _ _).mono ?_;rintro e w2 ⟨rfl,I⟩;have Z:Below B w w2:=aD.trans (I.mono (by have:=aD.size;omega));have R:=(I.block _ (qA.1 aO).1).trans aO;have Q:=(I.block _ (qA.1 aU).1).trans aU;obtain⟨⟨y0,z0⟩,⟨y1,z1⟩,⟨y2,z2⟩,⟨y3,z3⟩⟩:=A1 R;obtain⟨⟨y4,z4⟩,⟨y5,z5⟩,⟨y6,z6⟩⟩:=Ay Q)
    |(go_at_call 165;refine(Di _ _ _ _ _ _).mono ?_;rintro e wT ⟨rfl,S⟩;have aC:Below B w wT:=(aL.drew).trans (S.mono (show B≤W0.heap.size by omega));have bC:=(S.block _ (show B<W0.heap.size by omega)).trans g0;have aS:=(S.block _ (show B+1<W0.heap.size by omega)).trans g1;have aT:=(S.block _ (show B+1+1<W0.heap.size by omega)).trans g2;obtain⟨⟨u0,_⟩,⟨u1,_⟩,⟨u2,_⟩⟩:=Ay bC)
    | (go_at_call 166;refine(Aa aN _).mono ?_;rintro e wB ⟨rfl,U⟩;have aD:Below B w wB:=(aL.drew).trans (U.mono (show B≤W0.heap.size by omega));have bG:=(U.block _ (show B<W0.heap.size by omega)).trans g0;have aO:=(U.block _ (show B+1<W0.heap.size by omega)).trans g1;have aU:=(U.block _ (show B+1+1<W0.heap.size by omega)).trans g2;obtain⟨⟨u0,_⟩,⟨u1,_⟩,⟨u2,_⟩⟩:=Ay bG))
   all_goals go_wp2
   all_goals subst hB
   all_goals (first
     |(refine qW (Bd rfl _ _ _ _ _ _ _ rfl (qX _ _ _ _ _ _ _ ((A6 (by omega) _ _ _).trans (Bu R _ _ _ _)) Tryz.underlying124 rfl (by kernel_rfl)) rfl (qX _ _ _ _ _ _ _ (Bx ((Bg (by omega) _ _ _ _).trans Q) _ _ _) Tryz.underlying187 rfl (by kernel_rfl))) rfl ⟨rfl,Bb (Be Z (by omega) _ _ _ _) (by omega) _ _ _⟩)
     | (refine qW (Bd rfl _ _ _ _ _ _ _ rfl (qX _ _ _ _ _ _ _ (Bu ((A6 (by omega) _ _ _).trans R) _ _ _ _) Tryz.underlying124 rfl (by kernel_rfl)) rfl (qX _ _ _ _ _ _ _ ((Bg (by omega) _ _ _ _).trans (Bx Q _ _ _)) Tryz.underlying187 rfl (by kernel_rfl))) rfl ⟨rfl,Be (Bb Z (by omega) _ _ _) (by omega) _ _ _ _⟩))
  ·rw[if_neg hd]at hr;have bJ:(P19.signB 45 s.data.toList && !v)=false:=by simpa using hd
   rw[bJ];clear hd bJ;by_cases h1:s.data.toList=[91,93]∨s.data.toList=[123,125]
   ·obtain⟨kk,bA,bM⟩:∃kk:Nat,(s=⟨#[91,93]⟩∧kk=6∨s=⟨#[123,125]⟩∧kk=7)∧(T,PT,E)=((kk,[],n,col),(0,0,[]),0):=by
     rcases h1 with h1|h1
     ·rw[if_pos h1]at hr;exact⟨6,.inl ⟨K5 h1,rfl⟩,hr.symm⟩
     ·rw[if_neg (by rw[h1];decide),if_pos h1]at hr;exact⟨7,.inr ⟨K5 h1,rfl⟩,hr.symm⟩
    injection bM with N D;injection D with D J;subst N;subst D;subst J;have bN:=Ab (fun W=>Rv n col s kk W bA);clear hr h1 bA;go_wp2_with (go_at_call 167;refine(Aa bN _).mono ?_;rintro e w2 ⟨rfl,I⟩;have Z:Below B w (w2.alloc (.cells #[.int .u8 kk,.string ⟨#[]⟩,.int .i64 n,.int .i64 col] 124)):=(aL.trans (I.mono (by omega))).alloc (by have:=I.size;omega) _;have R:=(qD w2 (.cells #[.int .u8 kk,.string ⟨#[]⟩,.int .i64 n,.int .i64 col] 124) (B+1) (by have:=I.size;omega)).trans ((I.block _ (by omega)).trans g1);have Q:=(qD w2 (.cells #[.int .u8 kk,.string ⟨#[]⟩,.int .i64 n,.int .i64 col] 124) (B+1+1) (by have:=I.size;omega)).trans ((I.block _ (by omega)).trans g2);obtain⟨⟨y0,z0⟩,⟨y1,z1⟩,⟨y2,z2⟩,⟨y3,z3⟩⟩:=A1 R;obtain⟨⟨y4,z4⟩,⟨y5,z5⟩,⟨y6,z6⟩⟩:=Ay Q;obtain⟨⟨c0,_⟩,⟨c1,_⟩,⟨c2,_⟩,⟨c3,_⟩⟩:=A1 (qB w2 (.cells #[.int .u8 kk,.string ⟨#[]⟩,.int .i64 n,.int .i64 col] 124)))
    all_goals subst hB
    all_goals (first
     |(refine qW (Bd rfl _ _ _ _ _ _ _ rfl (qX _ _ _ _ _ _ _ ((A6 (by omega) _ _ _).trans (Bu R _ _ _ _)) Tryz.underlying124 rfl (by kernel_rfl)) rfl (qX _ _ _ _ _ _ _ (Bx ((Bg (by omega) _ _ _ _).trans Q) _ _ _) Tryz.underlying187 rfl (by kernel_rfl))) rfl ⟨rfl,Bb (Be Z (by omega) _ _ _ _) (by omega) _ _ _⟩)
     | (refine qW (Bd rfl _ _ _ _ _ _ _ rfl (qX _ _ _ _ _ _ _ (Bu ((A6 (by omega) _ _ _).trans R) _ _ _ _) Tryz.underlying124 rfl (by kernel_rfl)) rfl (qX _ _ _ _ _ _ _ ((Bg (by omega) _ _ _ _).trans (Bx Q _ _ _)) Tryz.underlying187 rfl (by kernel_rfl))) rfl ⟨rfl,Be (Bb Z (by omega) _ _ _) (by omega) _ _ _ _⟩))
   ·have bF:s.data.toList≠[91,93]:=fun e=>h1 (.inl e);have bD:s.data.toList≠[123,125]:=fun e=>h1 (.inr e);rw[if_neg bF,if_neg bD]at hr;have bS:=Ab (fun W=>Ta n col s W bF bD);clear h1 bF bD;go_upto_region 6 with(go_at_call 167;refine(Aa bS _).mono ?_;rintro e w2 ⟨rfl,I⟩)
    have bP:=I.size;obtain⟨W2,aM⟩:∃W2,w2.alloc (.cells #[.int .u8 0,.string ⟨#[]⟩,.int .i64 0,.int .i64 0] 124)=W2:=⟨_,rfl⟩;have aA:Below B w W2:=by rw[←aM];exact(aL.trans (I.mono (by omega))).alloc (by omega) _
    have k0:W2.heap[B]?=some (.cells #[.int .i64 n,.int .i64 col,.string s] 187):=by rw[←aM];exact(qD w2 _ _ (by omega)).trans ((I.block _ (by omega)).trans g0)
    have k1:W2.heap[B+1]?=some (.cells #[.int .u8 0,.string ⟨#[]⟩,.int .i64 0,.int .i64 0] 124):=by rw[←aM];exact(qD w2 _ _ (by omega)).trans ((I.block _ (by omega)).trans g1)
    have k2:W2.heap[B+1+1]?=some (.cells #[.int .i64 0,.int .i64 0,.string ⟨#[]⟩] 187):=by rw[←aM];exact(qD w2 _ _ (by omega)).trans ((I.block _ (by omega)).trans g2)
    rw[aM];clear aM x0 x1 x2 g0 g1 g2 aL I bP;have bU:B+1+1<W2.heap.size:=(qA.1 k2).1;obtain⟨⟨x0,_⟩,⟨x1,_⟩,⟨x2,_⟩⟩:=Ay k0;obtain⟨⟨y0,z0⟩,⟨y1,z1⟩,⟨y2,z2⟩,⟨y3,z3⟩⟩:=A1 k1;obtain⟨⟨y4,z4⟩,⟨y5,z5⟩,⟨y6,z6⟩⟩:=Ay k2;have hcut:=Pb s;have aJ:=S9 s.data.toList;obtain⟨⟨k,c⟩,bE⟩:∃x,P18.cut s.data.toList=x:=⟨_,rfl⟩;rw[bE]at hr aJ;simp only[bE]at hcut;simp only at hr aJ;rw[←zP]at aJ;have bB:=Ab hcut;clear hcut bE;by_cases hc:c=0
    rotate_left
    ·rw[if_pos hc]at hr;injection hr with N D;injection D with D J;subst N;subst D;subst J;have jc:((c:Int) != 0)=true:=by simp;omega
     clear hc;go_wp2_with (go_at_call 168;refine(Aa bB _ (by unfold maxLen;omega)).mono ?_;rintro e w' ⟨rfl,aX⟩;rw[aX];clear aX)
     go_region_with_o (fail)
     all_goals go_wp2
     all_goals subst hB
     all_goals (first
      |(refine qW (Bd rfl _ _ _ _ _ _ _ rfl (qX _ _ _ _ _ _ _ (C4 ((A6 (by omega) _ _ _).trans (Bu k1 _ _ _ _))) Tryz.underlying124 rfl (by kernel_rfl)) rfl (qX _ _ _ _ _ _ _ (C4 (Bx ((Bg (by omega) _ _ _ _).trans k2) _ _ _)) Tryz.underlying187 rfl (by kernel_rfl))) rfl ⟨rfl,(Bb (Be aA (by omega) _ _ _ _) (by omega) _ _ _).drew⟩)
      | (refine qW (Bd rfl _ _ _ _ _ _ _ rfl (qX _ _ _ _ _ _ _ (C4 (Bu ((A6 (by omega) _ _ _).trans k1) _ _ _ _)) Tryz.underlying124 rfl (by kernel_rfl)) rfl (qX _ _ _ _ _ _ _ (C4 ((Bg (by omega) _ _ _ _).trans (Bx k2 _ _ _))) Tryz.underlying187 rfl (by kernel_rfl))) rfl ⟨rfl,(Be (Bb aA (by omega) _ _ _) (by omega) _ _ _ _).drew⟩))
    rw[if_neg (by simpa using hc)]at hr;have jc:((c:Int) != 0)=false:=by simp;omega
    clear hc;have bO:=Ab hr;clear hr;have bV:(k:Int)≤(s.size:Int):=by omega
    go_upto_region 10 with(go_at_call 168;refine(Aa bB _ (by unfold maxLen;omega)).mono ?_;rintro e w' ⟨rfl,aX⟩;rw[aX];clear aX)
    go_cut [12] from 48 to 53 (fun c wx=>c=.bool (P19.signB 58 (s.data.toList.drop k) && !v)∧W2=wx)
    case first=>
     obtain⟨sg,aH⟩:∃b,P19.signB 58 (s.data.toList.drop k)=b:=⟨_,rfl⟩;have aE:=fun W=>L2 (s.extract k s.size) 58 W (by rw[ByteArray.size_extract];omega);rw[E7,aH]at aE;have aR:=Ab aE;have aY:=Ab aH;clear aE aH;cases sg
     ·go_wp2_with (go_at_call 164;refine(Aa aR _).mono ?_;rintro e w' ⟨rfl,hw⟩;rw[hw];clear hw)
      go_meet
      exact⟨by rw[Aa aY];rfl,rfl⟩
     ·go_wp2_with (go_at_call 164;refine(Aa aR _).mono ?_;rintro e w' ⟨rfl,hw⟩;rw[hw];clear hw)
      go_meet
      exact⟨by rw[Aa aY];rfl,rfl⟩
    case rest=>
     obtain⟨rfl,rfl⟩:=hcut;have hr:=Aa bO;obtain⟨key,aB⟩:∃b,(P19.signB 58 (s.data.toList.drop k) && !v)=b:=⟨_,rfl⟩;rw[aB]at hr ⊢
     have aQ:s.data.toList.drop k≠[]↔k<s.size:=by
      rw[ne_eq,List.drop_eq_nil_iff,←zP];omega
     have aW:(s.extract k s.size).toList.isEmpty=decide (k=s.size):=by
      rw[Lib.toList_data,E7];by_cases h:k<s.size
      ·rw[decide_eq_false (by omega)];have:=aQ.2 h;simpa using this
      ·rw[decide_eq_true (by omega)];have h2:s.data.toList.drop k=[]:=List.drop_eq_nil_of_le (by rw[←zP];omega);rw[h2];rfl
     by_cases hbad:k<s.size∧key=false
     ·obtain⟨aG,rfl⟩:=hbad;rw[if_pos ⟨aQ.2 aG,rfl⟩]at hr;injection hr with N D;injection D with D J;subst N;subst D;subst J;rw[decide_eq_false (by omega)]at aW;clear aQ aB aG;go_wp2;go_region_with_o (fail)
      all_goals go_wp2
      all_goals subst hB
      all_goals (first
       |(refine qW (Bd rfl _ _ _ _ _ _ _ rfl (qX _ _ _ _ _ _ _ ((C4 ((A6 (by omega) _ _ _).trans (Bu k1 _ _ _ _)))) Tryz.underlying124 rfl (by kernel_rfl)) rfl (qX _ _ _ _ _ _ _ ((C4 (Bx ((Bg (by omega) _ _ _ _).trans k2) _ _ _))) Tryz.underlying187 rfl (by kernel_rfl))) rfl ⟨rfl,(Bb (Be aA (by omega) _ _ _ _) (by omega) _ _ _).drew⟩)
       | (refine qW (Bd rfl _ _ _ _ _ _ _ rfl (qX _ _ _ _ _ _ _ ((C4 (Bu ((A6 (by omega) _ _ _).trans k1) _ _ _ _))) Tryz.underlying124 rfl (by kernel_rfl)) rfl (qX _ _ _ _ _ _ _ ((C4 ((Bg (by omega) _ _ _ _).trans (Bx k2 _ _ _)))) Tryz.underlying187 rfl (by kernel_rfl))) rfl ⟨rfl,(Be (Bb aA (by omega) _ _ _) (by omega) _ _ _ _).drew⟩))
     rw[if_neg (fun h=>hbad ⟨aQ.1 h.1,h.2⟩)]at hr;obtain⟨⟨t,e⟩,hte⟩:∃x,P18.read (s.data.toList.take k)=x:=⟨_,rfl⟩;rw[hte]at hr;have aZ:=Ab (fun W=>N2 s k (t,e) W hs aJ hte);clear hte
     have bA:(k=s.size∧key=false)∨(k<s.size∧key=true):=by
      rcases Nat.lt_or_ge k s.size with h|h
      ·right
       cases hk2:key with
       |true=>exact⟨h,rfl⟩
       |false=>exact absurd ⟨h,hk2⟩ hbad
      ·left
       have bR:k=s.size:=by omega
       refine⟨bR,?_⟩;have h2:s.data.toList.drop k=[]:=List.drop_eq_nil_of_le (by rw[←zP];omega);rw[←aB,h2];rfl
     have bT:=Ab aB;clear hbad aQ aB;rcases bA with⟨aG,rfl⟩|⟨aG,rfl⟩
     ·rw[decide_eq_true aG]at aW;rw[if_neg (show ¬(false=true) by simp)]at hr;clear aG;by_cases he:e=0
      ·rw[if_neg (by simpa using he)]at hr;injection hr with N D;injection D with D J;subst N;subst D;subst J;have je:(e != 0)=false:=by simpa using he
       clear he
       go_wp2_with (first
        |(go_at_call 169;refine(Aa aZ _).mono ?_;rintro e' w3 ⟨rfl,G⟩;have Y:Below B w w3:=aA.trans (G.mono (by omega));have f0:=(G.block _ (by omega)).trans k0;have R:=(G.block _ (by omega)).trans k1;have Q:=(G.block _ (by omega)).trans k2;obtain⟨⟨a0,_⟩,⟨a1,_⟩,⟨a2,_⟩⟩:=Ay f0)
        | (go_at_call 165;refine(Di _ _ _ _ _ _).mono ?_;rintro e' w4 ⟨rfl,X⟩;have bL:Below B w w4:=Y.trans (X.mono (by have:=G.size;omega));have l1:=(X.block _ (qA.1 R).1).trans R;have l2:=(X.block _ (qA.1 Q).1).trans Q;obtain⟨⟨b0,d0⟩,⟨b1,d1⟩,⟨b2,d2⟩,⟨b3,d3⟩⟩:=A1 l1;obtain⟨⟨b4,d4⟩,⟨b5,d5⟩,⟨b6,d6⟩⟩:=Ay l2))
       all_goals subst hB
       all_goals (first
        |(refine qW (Bd rfl _ _ _ _ _ _ _ rfl (qX _ _ _ _ _ _ _ (((A6 (by omega) _ _ _).trans (Bu l1 _ _ _ _))) Tryz.underlying124 rfl (by kernel_rfl)) rfl (qX _ _ _ _ _ _ _ ((Bx ((Bg (by omega) _ _ _ _).trans l2) _ _ _)) Tryz.underlying187 rfl (by kernel_rfl))) rfl ⟨rfl,(Bb (Be bL (by omega) _ _ _ _) (by omega) _ _ _)⟩)
        | (refine qW (Bd rfl _ _ _ _ _ _ _ rfl (qX _ _ _ _ _ _ _ ((Bu ((A6 (by omega) _ _ _).trans l1) _ _ _ _)) Tryz.underlying124 rfl (by kernel_rfl)) rfl (qX _ _ _ _ _ _ _ (((Bg (by omega) _ _ _ _).trans (Bx l2 _ _ _))) Tryz.underlying187 rfl (by kernel_rfl))) rfl ⟨rfl,(Be (Bb bL (by omega) _ _ _) (by omega) _ _ _ _)⟩))
      ·rw[if_pos (by simpa using he)]at hr;injection hr with N D;injection D with D J;subst N;subst D;subst J;have je:(e != 0)=true:=by simpa using he
       clear he;go_wp2_with (go_at_call 169;refine(Aa aZ _).mono ?_;rintro e' w3 ⟨rfl,G⟩;have Y:Below B w w3:=aA.trans (G.mono (by omega));have f0:=(G.block _ (by omega)).trans k0;have R:=(G.block _ (by omega)).trans k1;have Q:=(G.block _ (by omega)).trans k2;obtain⟨⟨a0,_⟩,⟨a1,_⟩,⟨a2,_⟩⟩:=Ay f0;obtain⟨⟨p0,m0⟩,⟨p1,m1⟩,⟨p2,m2⟩,⟨p3,m3⟩⟩:=A1 R;obtain⟨⟨p4,m4⟩,⟨p5,m5⟩,⟨p6,m6⟩⟩:=Ay Q;have bI:B+1+1<w3.heap.size:=(qA.1 Q).1;clear G)
       go_region_with_o (fail)
       all_goals go_wp2
       all_goals subst hB
       all_goals (first
        |(refine qW (Bd rfl _ _ _ _ _ _ _ rfl (qX _ _ _ _ _ _ _ ((C4 ((A6 (by omega) _ _ _).trans (Bu R _ _ _ _)))) Tryz.underlying124 rfl (by kernel_rfl)) rfl (qX _ _ _ _ _ _ _ ((C4 (Bx ((Bg (by omega) _ _ _ _).trans Q) _ _ _))) Tryz.underlying187 rfl (by kernel_rfl))) rfl ⟨rfl,(Bb (Be Y (by omega) _ _ _ _) (by omega) _ _ _).drew⟩)
        | (refine qW (Bd rfl _ _ _ _ _ _ _ rfl (qX _ _ _ _ _ _ _ ((C4 (Bu ((A6 (by omega) _ _ _).trans R) _ _ _ _))) Tryz.underlying124 rfl (by kernel_rfl)) rfl (qX _ _ _ _ _ _ _ ((C4 ((Bg (by omega) _ _ _ _).trans (Bx Q _ _ _)))) Tryz.underlying187 rfl (by kernel_rfl))) rfl ⟨rfl,(Be (Bb Y (by omega) _ _ _) (by omega) _ _ _ _).drew⟩))
     ·rw[decide_eq_false (by omega)]at aW;by_cases he:e=0
      rotate_left
      ·rw[if_pos (by simpa using he)]at hr;injection hr with N D;injection D with D J;subst N;subst D;subst J;have je:(e != 0)=true:=by simpa using he
       clear he;go_wp2_with (go_at_call 169;refine(Aa aZ _).mono ?_;rintro e' w3 ⟨rfl,G⟩;have Y:Below B w w3:=aA.trans (G.mono (by omega));have f0:=(G.block _ (by omega)).trans k0;have R:=(G.block _ (by omega)).trans k1;have Q:=(G.block _ (by omega)).trans k2;obtain⟨⟨a0,_⟩,⟨a1,_⟩,⟨a2,_⟩⟩:=Ay f0;obtain⟨⟨p0,m0⟩,⟨p1,m1⟩,⟨p2,m2⟩,⟨p3,m3⟩⟩:=A1 R;obtain⟨⟨p4,m4⟩,⟨p5,m5⟩,⟨p6,m6⟩⟩:=Ay Q;have bI:B+1+1<w3.heap.size:=(qA.1 Q).1;clear G)
       go_region_with_o (fail)
       all_goals go_wp2
       all_goals subst hB
       all_goals (first
        |(refine qW (Bd rfl _ _ _ _ _ _ _ rfl (qX _ _ _ _ _ _ _ ((C4 ((A6 (by omega) _ _ _).trans (Bu R _ _ _ _)))) Tryz.underlying124 rfl (by kernel_rfl)) rfl (qX _ _ _ _ _ _ _ ((C4 (Bx ((Bg (by omega) _ _ _ _).trans Q) _ _ _))) Tryz.underlying187 rfl (by kernel_rfl))) rfl ⟨rfl,(Bb (Be Y (by omega) _ _ _ _) (by omega) _ _ _).drew⟩)
        | (refine qW (Bd rfl _ _ _ _ _ _ _ rfl (qX _ _ _ _ _ _ _ ((C4 (Bu ((A6 (by omega) _ _ _).trans R) _ _ _ _))) Tryz.underlying124 rfl (by kernel_rfl)) rfl (qX _ _ _ _ _ _ _ ((C4 ((Bg (by omega) _ _ _ _).trans (Bx Q _ _ _)))) Tryz.underlying187 rfl (by kernel_rfl))) rfl ⟨rfl,(Be (Bb Y (by omega) _ _ _) (by omega) _ _ _ _).drew⟩))
      rw[if_neg (by simpa using he),if_pos rfl]at hr;obtain⟨q,hq⟩:∃q,k+1+P19.skip (s.data.toList.drop (k+1))=q:=⟨_,rfl⟩;rw[hq]at hr;injection hr with N D;injection D with D J;subst N;subst D;subst J;have je:(e != 0)=false:=by simpa using he
      have jw:IntKind.i64.wrap ((k:Int)+1)=(k:Int)+1:=qG _ (by omega);have aN:=Ab (fun W=>Kp n col s (k+1) q ((k:Int)+1) (by omega) W (by omega) aG bH bK hq);clear he hq;go_wp2_with (go_at_call 169;refine(Aa aZ _).mono ?_;rintro e' w3 ⟨rfl,G⟩;have Y:Below B w w3:=aA.trans (G.mono (by omega));have f0:=(G.block _ (by omega)).trans k0;have R:=(G.block _ (by omega)).trans k1;have Q:=(G.block _ (by omega)).trans k2;obtain⟨⟨a0,_⟩,⟨a1,_⟩,⟨a2,_⟩⟩:=Ay f0;obtain⟨⟨p0,m0⟩,⟨p1,m1⟩,⟨p2,m2⟩,⟨p3,m3⟩⟩:=A1 R;obtain⟨⟨p4,m4⟩,⟨p5,m5⟩,⟨p6,m6⟩⟩:=Ay Q;have bI:B+1+1<w3.heap.size:=(qA.1 Q).1;clear G)
      go_region_with_o (first
       |(have aI:=S;clear aI;go_at_call 166;refine(Aa aN _).mono ?_;rintro e' w4 ⟨rfl,X⟩;have Z:Below B w w4:=aC.trans (X.mono (by have:=aC.size;omega));have l1:=(X.block _ (qA.1 aS).1).trans aS;have l2:=(X.block _ (qA.1 aT).1).trans aT;obtain⟨⟨b0,d0⟩,⟨b1,d1⟩,⟨b2,d2⟩,⟨b3,d3⟩⟩:=A1 l1;obtain⟨⟨b4,d4⟩,⟨b5,d5⟩,⟨b6,d6⟩⟩:=Ay l2)
       |(have aI:=U;clear aI;go_at_call 165;refine(Di _ _ _ _ _ _).mono ?_;rintro e' w4 ⟨rfl,X⟩;have Z:Below B w w4:=aD.trans (X.mono (by have:=aD.size;omega));have l1:=(X.block _ (qA.1 aO).1).trans aO;have l2:=(X.block _ (qA.1 aU).1).trans aU;obtain⟨⟨b0,d0⟩,⟨b1,d1⟩,⟨b2,d2⟩,⟨b3,d3⟩⟩:=A1 l1;obtain⟨⟨b4,d4⟩,⟨b5,d5⟩,⟨b6,d6⟩⟩:=Ay l2)
       |(go_at_call 165;refine(Di _ _ _ _ _ _).mono ?_;rintro e' wT ⟨rfl,S⟩;have aC:Below B w wT:=(Y.drew).trans (S.mono (show B≤w3.heap.size by omega));have bC:=(S.block _ (show B<w3.heap.size by omega)).trans f0;have aS:=(S.block _ (show B+1<w3.heap.size by omega)).trans R;have aT:=(S.block _ (show B+1+1<w3.heap.size by omega)).trans Q;obtain⟨⟨u0,_⟩,⟨u1,_⟩,⟨u2,_⟩⟩:=Ay bC)
       | (go_at_call 166;refine(Aa aN _).mono ?_;rintro e' wB ⟨rfl,U⟩;have aD:Below B w wB:=(Y.drew).trans (U.mono (show B≤w3.heap.size by omega));have bG:=(U.block _ (show B<w3.heap.size by omega)).trans f0;have aO:=(U.block _ (show B+1<w3.heap.size by omega)).trans R;have aU:=(U.block _ (show B+1+1<w3.heap.size by omega)).trans Q;obtain⟨⟨u0,_⟩,⟨u1,_⟩,⟨u2,_⟩⟩:=Ay bG))
      all_goals go_wp2
      all_goals subst hB
      all_goals (first
       |(refine qW (Bd rfl _ _ _ _ _ _ _ rfl (qX _ _ _ _ _ _ _ (((A6 (by omega) _ _ _).trans (Bu l1 _ _ _ _))) Tryz.underlying124 rfl (by kernel_rfl)) rfl (qX _ _ _ _ _ _ _ ((Bx ((Bg (by omega) _ _ _ _).trans l2) _ _ _)) Tryz.underlying187 rfl (by kernel_rfl))) rfl ⟨rfl,(Bb (Be Z (by omega) _ _ _ _) (by omega) _ _ _)⟩)
       | (refine qW (Bd rfl _ _ _ _ _ _ _ rfl (qX _ _ _ _ _ _ _ ((Bu ((A6 (by omega) _ _ _).trans l1) _ _ _ _)) Tryz.underlying124 rfl (by kernel_rfl)) rfl (qX _ _ _ _ _ _ _ (((Bg (by omega) _ _ _ _).trans (Bx l2 _ _ _))) Tryz.underlying187 rfl (by kernel_rfl))) rfl ⟨rfl,(Be (Bb Z (by omega) _ _ _) (by omega) _ _ _ _)⟩))
namespace P19
def steps:Nat→Bool→Int→Int→List UInt8→List (Tk × Int)
 |0,_,_,_,_=>[]
 |f+1,v,n,col,s=>((next v n col s).1,(next v n col s).2.2) ::
  if (next v n col s).2.2≠0∨(next v n col s).2.1.2.2=[] then [] else steps f ((next v n col s).1.1==4) (next v n col s).2.1.1 (next v n col s).2.1.2.1 (next v n col s).2.1.2.2
def gather:List (Tk × Int)→List Tk × Int
 | []=>([],0)
 |(t,e)::r=>if e≠0 then ([],e) else if (gather r).2≠0 then ([],(gather r).2) else (t::(gather r).1,0)
theorem O9(s:List UInt8)(h:(P18.cut s).2≠0):(P18.cut s).2=3:=by
 unfold P18.cut at h ⊢
 repeat' split at h
 all_goals first|(exact absurd rfl h)|skip
 all_goals (repeat' split)
 all_goals first|rfl|simp_all
theorem cut_len(l:List UInt8):(P18.cut l).1≤l.length:=by
 unfold P18.cut;split
 ·split
  ·rename_i n h
   have:=P18.cutQ_bd l 0 false n h;simpa using this.2
  ·simp
 ·split
  ·simp
  ·exact P18.plainLen_le l false
theorem Q4(n col:Int)(s:List UInt8):(next true n col s).2.2=(value n col s).2∧((value n col s).2=0→(next true n col s).1=(value n col s).1∧(next true n col s).2.1.2.2=[]):=by
 have hs:¬(signB 45 s && !true)=true:=by simp
 have hk:∀x,(signB 58 x && !true)=false:=by simp
 have hk2:∀x,¬(signB 58 x && !true)=true:=by simp
 by_cases h1:s=[91,93]
 ·rw[next,value,if_neg hs,if_pos h1,if_pos h1];exact⟨rfl,fun _=>⟨rfl,rfl⟩⟩
 by_cases h2:s=[123,125]
 ·rw[next,value,if_neg hs,if_neg h1,if_neg h1,if_pos h2,if_pos h2];exact⟨rfl,fun _=>⟨rfl,rfl⟩⟩
 by_cases h3:(P18.cut s).2≠0
 ·rw[next,value,if_neg hs,if_neg h1,if_neg h1,if_neg h2,if_neg h2,if_pos h3,if_pos (.inl h3),O9 s h3];exact⟨rfl,fun h=>by simp at h⟩
 by_cases h4:(P18.cut s).1=s.length
 ·have hd:¬(s.drop (P18.cut s).1≠[]∧(signB 58 (s.drop (P18.cut s).1) && !true)=false):=by
   rintro⟨h,_⟩;exact h (List.drop_eq_nil_of_le (by omega))
  have hv:¬((P18.cut s).2≠0∨(P18.cut s).1≠s.length):=by
   rintro(h|h)
   ·exact h3 h
   ·exact h h4
  have ht:s.take (P18.cut s).1=s:=List.take_of_length_le (by omega);by_cases h5:(P18.read s).2≠0
  ·have D:next true n col s=((0,[],0,0),(n,col,s),(P18.read s).2):=by
    rw[next,if_neg hs,if_neg h1,if_neg h2,if_neg h3,if_neg hd,ht,if_pos h5]
   have G:value n col s=((5,(P18.read s).1,n,col),(P18.read s).2):=by
    rw[value,if_neg h1,if_neg h2,if_neg hv]
   rw[D,G];exact⟨rfl,fun h=>absurd h h5⟩
  ·have D:next true n col s=((5,(P18.read s).1,n,col),(0,0,[]),0):=by
    rw[next,if_neg hs,if_neg h1,if_neg h2,if_neg h3,if_neg hd,ht,if_neg h5,if_neg (hk2 _)]
   have G:value n col s=((5,(P18.read s).1,n,col),(P18.read s).2):=by
    rw[value,if_neg h1,if_neg h2,if_neg hv]
   have h6:(P18.read s).2=0:=by simpa using h5
   rw[D,G,h6];exact⟨rfl,fun _=>⟨rfl,rfl⟩⟩
 ·have hd:s.drop (P18.cut s).1≠[]:=by
   have:=cut_len s;rw[ne_eq,List.drop_eq_nil_iff];omega
  rw[next,value,if_neg hs,if_neg h1,if_neg h1,if_neg h2,if_neg h2,if_neg h3,if_pos ⟨hd,hk _⟩,if_pos (.inr h4)];exact⟨rfl,fun h=>by simp at h⟩
theorem Nn(f:Nat)(n col:Int)(s:List UInt8):gather (steps (f+1) true n col s)=if (value n col s).2≠0 then ([],(value n col s).2) else ([(value n col s).1],0):=by
 obtain⟨h1,h2⟩:=Q4 n col s;unfold steps gather;rw[h1];by_cases he:(value n col s).2≠0
 ·rw[if_pos he,if_pos he]
 ·have D:(value n col s).2=0:=by simpa using he
  obtain⟨h3,h4⟩:=h2 D;rw[if_neg he,if_neg he,if_pos (show (value n col s).2≠0∨(next true n col s).2.1.2.2=[] from .inr h4),h3];rfl
theorem steps_line:∀(f:Nat) (n col:Int) (s:List UInt8),s.length<f→gather (steps f false n col s)=line f n col s
 |0,n,col,s,h=>absurd h (Nat.not_lt_zero _)
 |f+1,n,col,s,h=>by
  have ih:=steps_line f n;by_cases hs:signB 45 s=true
  ·have hn:next false n col s=((3,[],n,col),(n,col+(1+skip (s.drop 1):Nat),s.drop (1+skip (s.drop 1))),0):=by
    rw[next,if_pos (by rw[hs];rfl)]
   have hd:=dash_shorter s hs;rw[steps,gather,line,if_pos hs,hn];simp only;rw[if_neg (by simp)];by_cases hk:1+skip (s.drop 1)=s.length
   ·have he:s.drop (1+skip (s.drop 1))=[]:=List.drop_eq_nil_of_le (by omega);rw[if_pos hk,if_pos (show (0:Int)≠0∨s.drop (1+skip (s.drop 1))=[] from .inr he)];rfl
   ·have he:s.drop (1+skip (s.drop 1))≠[]:=by
     have h1:=skip_le (s.drop 1);rw[qQ]at h1;rw[ne_eq,List.drop_eq_nil_iff]
     have h2:1≤s.length:=by
      cases s with
      |nil=>cases hs
      |cons a r=>simp
     omega
    rw[if_neg hk,if_neg (show ¬((0:Int)≠0∨s.drop (1+skip (s.drop 1))=[]) by rw[not_or];exact⟨by simp,he⟩)];rw[show ((3:Nat)==4)=false from rfl,ih _ _ (by omega)]
  ·have D:¬(signB 45 s && !false)=true:=by simpa using hs
   rw[line,if_neg hs];by_cases h1:s=[91,93]
   ·have hn:next false n col s=((6,[],n,col),(0,0,[]),0):=by rw[next,if_neg D,if_pos h1]
    rw[steps,gather,hn,if_pos h1];rfl
   by_cases h2:s=[123,125]
   ·have hn:next false n col s=((7,[],n,col),(0,0,[]),0):=by rw[next,if_neg D,if_neg h1,if_pos h2]
    rw[steps,gather,hn,if_neg h1,if_pos h2];rfl
   rw[if_neg h1,if_neg h2];by_cases h3:(P18.cut s).2≠0
   ·have hn:next false n col s=((0,[],0,0),(n,col,s),3):=by rw[next,if_neg D,if_neg h1,if_neg h2,if_pos h3,O9 s h3];rfl
    rw[steps,gather,hn,if_pos h3];rfl
   rw[if_neg h3];have R:=cut_len s;have G:(signB 58 (s.drop (P18.cut s).1) && !false)=signB 58 (s.drop (P18.cut s).1):=by simp
   have N:s.drop (P18.cut s).1≠[]↔(P18.cut s).1<s.length:=by
    rw[ne_eq,List.drop_eq_nil_iff];omega
   by_cases h4:(P18.cut s).1<s.length∧signB 58 (s.drop (P18.cut s).1)=false
   ·have hn:next false n col s=((0,[],0,0),(n,col,s),3):=by rw[next,if_neg D,if_neg h1,if_neg h2,if_neg h3,if_pos ⟨N.2 h4.1,by rw[G];exact h4.2⟩]
    rw[steps,gather,hn,if_pos h4];rfl
   rw[if_neg h4]
   have I:¬(s.drop (P18.cut s).1≠[]∧(signB 58 (s.drop (P18.cut s).1) && !false)=false):=by
    rw[G];exact fun x=>h4 ⟨N.1 x.1,x.2⟩
   by_cases h5:(P18.read (s.take (P18.cut s).1)).2≠0
   ·have hn:next false n col s=((0,[],0,0),(n,col,s),(P18.read (s.take (P18.cut s).1)).2):=by rw[next,if_neg D,if_neg h1,if_neg h2,if_neg h3,if_neg I,if_pos h5]
    rw[steps,gather,hn,if_pos h5];simp only;rw[if_pos h5]
   rw[if_neg h5];by_cases h6:(P18.cut s).1=s.length
   ·have J:signB 58 (s.drop (P18.cut s).1)=false:=by
     rw[List.drop_eq_nil_of_le (by omega)];rfl
    have hn:next false n col s=((5,(P18.read (s.take (P18.cut s).1)).1,n,col),(0,0,[]),0):=by rw[next,if_neg D,if_neg h1,if_neg h2,if_neg h3,if_neg I,if_neg h5,if_neg (by rw[G,J];simp)]
    rw[steps,gather,hn,if_pos h6];rfl
   ·have J:signB 58 (s.drop (P18.cut s).1)=true:=by
     cases hx:signB 58 (s.drop (P18.cut s).1)with
     |true=>rfl
     |false=>exact absurd ⟨by omega,hx⟩ h4
    have hn:next false n col s=((4,(P18.read (s.take (P18.cut s).1)).1,n,col),(n,col+((P18.cut s).1+1+skip (s.drop ((P18.cut s).1+1)):Nat),s.drop ((P18.cut s).1+1+skip (s.drop ((P18.cut s).1+1)))),0):=by
     rw[next,if_neg D,if_neg h1,if_neg h2,if_neg h3,if_neg I,if_neg h5,if_pos (by rw[G,J])]
    rw[steps,gather,hn,if_neg h6];simp only;rw[if_neg (by simp)];have Q:=skip_le (s.drop ((P18.cut s).1+1));rw[qQ]at Q;by_cases h7:(P18.cut s).1+1+skip (s.drop ((P18.cut s).1+1))=s.length
    ·have he:s.drop ((P18.cut s).1+1+skip (s.drop ((P18.cut s).1+1)))=[]:=List.drop_eq_nil_of_le (by omega);rw[if_pos h7,if_pos (show (0:Int)≠0∨s.drop ((P18.cut s).1+1+skip (s.drop ((P18.cut s).1+1)))=[] from .inr he)];rfl
    ·have he:s.drop ((P18.cut s).1+1+skip (s.drop ((P18.cut s).1+1)))≠[]:=by
      rw[ne_eq,List.drop_eq_nil_iff];omega
     rw[if_neg h7,if_neg (show ¬((0:Int)≠0∨s.drop ((P18.cut s).1+1+skip (s.drop ((P18.cut s).1+1)))=[]) by rw[not_or];exact⟨by simp,he⟩)];obtain⟨f',rfl⟩:∃f',f=f'+1:=⟨f-1,by omega⟩;rw[show ((4:Nat)==4)=true from rfl,Nn];by_cases h8:(value n (col+((P18.cut s).1+1+skip (s.drop ((P18.cut s).1+1)):Nat)) (s.drop ((P18.cut s).1+1+skip (s.drop ((P18.cut s).1+1))))).2≠0
     ·rw[if_pos h8,if_pos h8];simp only;rw[if_pos h8]
     ·rw[if_neg h8,if_neg h8];rfl
end P19
namespace P19
def close(n col tc:Int):List Int→List Tk × List Int
 | []=>([],[])
 |x::st=>if col<x then ((2,[],n,tc)::(close n col tc st).1,(close n col tc st).2) else ([],x::st)
def U1(st:List Int):Int:=st.headD 0
def turn(b:Bool)(k:Nat)(n:Int)(t:Tk)(out:List Tk)(st:List Int):Int × List Tk × List Int:=
 if b=true∧t.2.2.2<U1 st then
  if U1 (close n t.2.2.2 t.2.2.2 st).2≠t.2.2.2 then (3,[],[]) else (0,out++(close n t.2.2.2 t.2.2.2 st).1++[t],(close n t.2.2.2 t.2.2.2 st).2)
 else if (b=true∧U1 st<t.2.2.2)∨(b=false∧k=3) then
  if 16≤st.length then (11,[],[]) else (0,out++[(1,[],n,t.2.2.2)]++[t],t.2.2.2::st)
 else (0,out++[t],st)
def adds(n:Int):Bool→Nat→List Tk→List Tk→List Int→Int × List Tk × List Int
 |_,_,[],out,st=>(0,out,st)
 |b,k,t::r,out,st=>if (turn b k n t out st).1≠0 then ((turn b k n t out st).1,[],[]) else adds n false t.1 r (turn b k n t out st).2.1 (turn b k n t out st).2.2
abbrev rowT(r:Nat × Nat × List UInt8):List Tk × Int:=toks r.1 r.2.1 r.2.2
def allR:Bool→List (Nat × Nat × List UInt8)→List Tk→List Int→Int→List Tk × Int × Int
 |_,[],out,st,last=>(out++(close last 0 0 st).1,0,0)
 |b,r::rs,out,st,last=>
  if (rowT r).2≠0 then ([],(rowT r).2,r.1)
  else if b=true∧0<r.2.1 then ([],3,r.1)
  else if (adds r.1 true 0 (rowT r).1 out st).1≠0 then ([],(adds r.1 true 0 (rowT r).1 out st).1,r.1)
  else allR false rs (adds r.1 true 0 (rowT r).1 out st).2.1 (adds r.1 true 0 (rowT r).1 out st).2.2 r.1
def all(s:List UInt8):List Tk × Int × Int:=
 if (Bv s).1≠0 then ([],(Bv s).1,(Bv s).2) else allR true (Dz s) [] [0] 0
def Row(st:List Int):Prop:=∃l,st=l++[0]∧∀x∈l,0<x
theorem row_zero:Row [0]:=⟨[],rfl,by simp⟩
theorem row_ne{st:List Int}(h:Row st):st≠[]:=by
 obtain⟨l,rfl,_⟩:=h;simp
theorem row_push{st:List Int}{x:Int}(h:Row st)(hx:0<x):Row (x::st):=by
 obtain⟨l,rfl,hl⟩:=h;exact⟨x::l,rfl,by simpa[hx]using hl⟩
theorem row_top{st:List Int}(h:Row st):0≤U1 st:=by
 obtain⟨l,rfl,hl⟩:=h;cases l with
 |nil=>exact Int.le_refl _
 |cons a r=>exact Int.le_of_lt (hl a (by simp))
theorem row_pop{x:Int}{st:List Int}(h:Row (x::st))(hx:0<x):Row st:=by
 obtain⟨l,hl,h2⟩:=h;cases l with
 |nil=>simp at hl;omega
 |cons a r=>
  simp at hl;exact⟨r,hl.2,fun y D=>h2 y (by simp[D])⟩
theorem close_row{n col tc:Int}(hc:0≤col):∀{st:List Int},Row st→Row (close n col tc st).2
 | [],h=>absurd rfl (row_ne h)
 |x::st,h=>by
  unfold close;by_cases hx:col<x
  ·rw[if_pos hx];exact close_row hc (row_pop h (by omega))
  ·rw[if_neg hx];exact h
theorem close_len(n col tc:Int):∀st:List Int,(close n col tc st).1.length+(close n col tc st).2.length=st.length
 | []=>rfl
 |x::st=>by
  have ih:=close_len n col tc st;unfold close;by_cases hx:col<x
  ·rw[if_pos hx];simp only[qE];omega
  ·rw[if_neg hx];simp
theorem close_all(n:Int):∀{st:List Int},Row st→close n 0 0 st=(List.replicate (st.length-1) (2,[],n,0),[0])
 | [],h=>absurd rfl (row_ne h)
 |x::st,h=>by
  obtain⟨l,hl,h2⟩:=h;cases l with
  |nil=>
   simp at hl;obtain⟨rfl,rfl⟩:=hl;rfl
  |cons a r=>
   simp only[zJ,List.cons.injEq]at hl;obtain⟨rfl,rfl⟩:=hl;have ih:=close_all n (st:=r++[0]) ⟨r,rfl,fun y D=>h2 y (by simp[D])⟩;have hx:=h2 x (by simp);unfold close;rw[if_pos hx,ih];simp only[qH,qE,qP,Nat.zero_add,zL];rw[List.replicate_succ]
def LineOk(n col:Int)(k:Nat)(p:List Tk × Int):Prop:=(∀t∈p.1,t.2.2.1=n∧col≤t.2.2.2∧t.2.2.2≤col+k∧t.1<8)∧(∀t∈p.1.head?,t.2.2.2=col)∧(∀t∈p.1.tail,col<t.2.2.2)
theorem line_at:∀(f:Nat) (n col:Int) (s:List UInt8),LineOk n col s.length (line f n col s)
 |0,n,col,s=>by simp[line,LineOk]
 |f+1,n,col,s=>by
  have hv:∀(c:Int) (x:List UInt8),(value n c x).2=0→(value n c x).1.2.2.1=n∧(value n c x).1.2.2.2=c∧(value n c x).1.1<8:=by
   intro c x h;unfold value at h ⊢;split
   ·exact⟨rfl,rfl,by simp⟩
   ·rename_i h1
    rw[if_neg h1]at h;split
    ·exact⟨rfl,rfl,by simp⟩
    ·rename_i h2
     rw[if_neg h2]at h;split
     ·rename_i h3
      rw[if_pos h3]at h;simp at h
     ·exact⟨rfl,rfl,by simp⟩
  unfold line;by_cases hs:signB 45 s=true
  ·rw[if_pos hs];have ih:=line_at f n (col+(1+skip (s.drop 1):Nat)) (s.drop (1+skip (s.drop 1)));have G:=skip_le (s.drop 1)
   have I:1≤s.length:=by
    cases s with
    |nil=>cases hs
    |cons a r=>simp
   rw[qQ]at G;split
   ·simp[LineOk];omega
   ·split
    ·simp[LineOk]
    ·refine⟨?_,?_,?_⟩
     ·intro t ht;rcases zN.1 ht with rfl|ht
      ·exact⟨rfl,Int.le_refl _,by simp;omega,by simp⟩
      ·have h1:=ih.1 t ht;rw[qQ]at h1;refine⟨h1.1,by omega,by omega,h1.2.2.2⟩
     ·simp
     ·intro t ht;have h1:=ih.1 t (by simpa using ht);omega
  ·rw[if_neg hs]
   repeat' split
   all_goals try (simp[LineOk];done)
   all_goals try (simp[LineOk];omega)
   rename_i h8
   have hk:=skip_le (s.drop ((P18.cut s).1+1));rw[qQ]at hk;have J:=cut_len s;have D:=hv _ _ (Decidable.not_not.1 h8);refine⟨?_,by simp,?_⟩
   ·intro t ht;simp only[zN,List.not_mem_nil,or_false]at ht;rcases ht with rfl|rfl
    ·exact⟨rfl,Int.le_refl _,by simp;omega,by simp⟩
    ·rw[D.1,D.2.1];refine⟨rfl,by omega,by omega,D.2.2⟩
   ·intro t ht;simp only[List.tail_cons,zN,List.not_mem_nil,or_false]at ht;subst ht;rw[D.2.1];omega
theorem toks_len(n col:Int)(s:List UInt8):(toks n col s).1.length≤s.length+1:=by
 have key:∀(f:Nat) (n col:Int) (s:List UInt8),1≤s.length∨(line f n col s).1.length≤1→(line f n col s).1.length≤s.length+1:=by
  intro f
  induction f with
  |zero=>intro n col s _;simp[line]
  |succ f ih=>
   intro n col s h0;rcases h0 with h0|h0
   ·unfold line;by_cases hs:signB 45 s=true
    ·have h2:=dash_shorter s hs;have D:=skip_le (s.drop 1);rw[qQ]at D;rw[if_pos hs];split
     ·simp
     ·rename_i hk
      split
      ·simp
      ·have h1:=ih n (col+(1+skip (s.drop 1):Nat)) (s.drop (1+skip (s.drop 1))) (.inl (by rw[qQ];omega));rw[qE];omega
    ·rw[if_neg hs]
     repeat' split
     all_goals simp
     all_goals omega
   ·omega
 unfold toks;refine key _ _ _ _ ?_;rcases Nat.eq_zero_or_pos s.length with h|h
 ·right
  obtain rfl:=qU h;unfold line;rw[if_neg (by decide),if_neg (by decide),if_neg (by decide)]
  repeat' split
  all_goals try simp
  rename_i h1 h2 h3 h4 h5 h6
  have:=cut_len [];exact absurd (by simpa using this) h4
 ·exact .inl h
theorem turn_row{b:Bool}{k:Nat}{n:Int}{t:Tk}{out:List Tk}{st:List Int}(h:Row st)(hc:0≤t.2.2.2)(hk:b=false→0<t.2.2.2)(h0:(turn b k n t out st).1=0)(hl:st.length≤16) :
  Row (turn b k n t out st).2.2∧(turn b k n t out st).2.2.length≤16∧(turn b k n t out st).2.1.length≤out.length+(if b=true then 17 else 2):=by
 have h3:=close_len n t.2.2.2 t.2.2.2 st;unfold turn at h0 ⊢;split
 ·rename_i h1
  rw[if_pos h1]at h0;split
  ·rename_i h2
   rw[if_pos h2]at h0;simp at h0
  ·have h4:(close n t.2.2.2 t.2.2.2 st).2≠[]:=row_ne (close_row hc h);have h5:0<(close n t.2.2.2 t.2.2.2 st).2.length:=zM.2 h4;refine⟨close_row hc h,by simp only;omega,?_⟩;simp only[qH,qE,qP];rw[if_pos h1.1];omega
 ·rename_i h1
  rw[if_neg h1]at h0;split
  ·rename_i h2
   rw[if_pos h2]at h0;split
   ·rename_i h3
    rw[if_pos h3]at h0;simp at h0
   ·have ht:=row_top h;refine⟨row_push h ?_,by simp;omega,?_⟩
    ·rcases h2 with h2|h2
     ·omega
     ·exact hk h2.1
    ·simp only[qH,qE,qP];split<;>omega
  ·refine⟨h,hl,?_⟩;simp only[qH,qE,qP];split<;>omega
theorem adds_row{n:Int}:∀(ts:List Tk) (b:Bool) (k:Nat) (out:List Tk) (st:List Int),Row st→st.length≤16→(∀t∈ts,0≤t.2.2.2)→(b=false→∀t∈ts,0<t.2.2.2)→(∀t∈ts.tail,0<t.2.2.2)→(adds n b k ts out st).1=0 →
  Row (adds n b k ts out st).2.2∧(adds n b k ts out st).2.2.length≤16∧(adds n b k ts out st).2.1.length≤out.length+2*ts.length+(if b=true then 15 else 0)
 | [],b,k,out,st,h,hl,_,_,_,_=>by
  refine⟨h,hl,?_⟩;show out.length≤_;omega
 |t::r,b,k,out,st,h,hl,hc,hb,ht,h0=>by
  unfold adds at h0 ⊢;by_cases h1:(turn b k n t out st).1≠0
  ·rw[if_pos h1]at h0;exact absurd h0 h1
  ·rw[if_neg h1]at h0 ⊢;have h2:=turn_row h (hc t (by simp)) (fun e=>hb e t (by simp)) (by simpa using h1) hl;have ih:=adds_row r false t.1 _ _ h2.1 h2.2.1 (fun x hx=>hc x (by simp[hx])) (fun _ x hx=>ht x (by simpa using hx)) (fun x hx=>ht x (List.mem_of_mem_tail hx)) h0;refine⟨ih.1,ih.2.1,?_⟩;have h3:=h2.2.2;have h4:=ih.2.2;simp only[qE];revert h3 h4;cases b<;>simp<;>omega
def weight(rs:List (Nat × Nat × List UInt8)):Nat:=(rs.map (fun r=>r.2.2.length+1)).sum
theorem Hz:∀(k:Nat) (ls:List (List UInt8)),weight (Bh k ls)≤(ls.map (fun l=>l.length+1)).sum
 |k,[]=>qJ _
 |k,l::ls=>by
  have ih:=Hz (k+1) ls;unfold Bh;unfold weight at ih ⊢;cases hr:Dv k l with
  |none=>
   simp only[List.map_cons,List.sum_cons];omega
  |some r=>
   have h1:r.2.2.length≤l.length:=by
    unfold Dv at hr;split at hr
    ·cases hr
    ·injection hr with hr;subst hr;exact qK (Hr _) (Hv _)
   simp only[List.map_cons,List.sum_cons];omega
theorem Md:∀s:List UInt8,((C7 s).map List.length).sum=s.length
 | []=>rfl
 |c::r=>by
  have ih:=Md r;unfold C7;split
  ·simp[ih];omega
  ·split
   ·rename_i h
    rw[h]at ih;simp at ih;simp[qU ih.symm]
   ·rename_i l ls h
    rw[h]at ih;simp at ih ⊢;omega
theorem weight_le(s:List UInt8):weight (Dz s)≤2*s.length:=by
 have h1:=Hz 0 (Bk s)
 have h2:∀ls:List (List UInt8),((ls.map Ib).map (fun l=>l.length+1)).sum≤(ls.map List.length).sum+ls.length:=by
  intro ls
  induction ls with
  |nil=>exact qJ _
  |cons a r ih=>
   have hc:(Ib a).length≤a.length:=by
    unfold Ib;split
    ·simp
    ·exact qJ _
   simp only[List.map_cons,List.sum_cons,qE]at ih ⊢;omega
 have h3:=h2 (C7 s);have h4:=Ii s;rw[Md]at h3;unfold Dz;unfold Bk at h1 ⊢;omega
end P19
end Go.Proofs.YtnjokdbblmlhhaaGreatDoor
