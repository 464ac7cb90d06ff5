import Derived.Test.YtefokfbgpfcbkaaGreatRC1Z
import Derived.Test.YtefokfbgpfcbkaaGreatInvMZ
set_option maxRecDepth 100000
set_option maxHeartbeats 8000000
set_option linter.unusedVariables false
set_option linter.unusedSimpArgs false
namespace Go.Proofs.YtefokfbgpfcbkaaGreat
open Go.RowKit
theorem Kl(n:Int)(w:World):Calls Tryz.prog 181 #[.int .i64 n] w fun e w'=>e=.returned (.int .i64 (P31.now n))∧w'=w:=by
 go_enter Tryz.func181,Tryz.ntmps181
 go_wp2;go_ret;exact⟨rfl,rfl⟩
theorem Jj(x:Int)(h0:-1000000≤x)(h1:x≤1000000):wrap64 x=x:=by
 unfold wrap64;omega
theorem Ti{v F:Int}(J:0≤v)(I:0<F)(h:(1000:Int).tdiv F<v):min (v*min F 1000) 1000=1000:=by
 rw[Int.tdiv_eq_ediv_of_nonneg (by decide),Int.ediv_lt_iff_lt_mul I]at h;rcases Int.le_total F 1000 with h1|h1
 ·rw[Int.min_eq_left h1];omega
 ·rw[Int.min_eq_right h1];have:v≠0:=by rintro rfl;omega
  omega
theorem Lo{v F:Int}(J:0≤v)(I:0≤F)(h:F=0∨¬(1000:Int).tdiv F<v):v*F≤1000∧0≤v*F∧min (v*min F 1000) 1000=v*F:=by
 rcases h with rfl|h
 ·rw[show min (0:Int) 1000=0 by decide];simp;decide
 rcases Int.lt_or_eq_of_le I with I|rfl
 ·rw[Int.tdiv_eq_ediv_of_nonneg (by decide),Int.ediv_lt_iff_lt_mul I]at h;have h0:=Int.mul_nonneg J (Int.le_of_lt I);refine⟨by omega,h0,?_⟩;rcases Int.lt_or_eq_of_le J with h2|rfl
  ·have h3:F≤v*F:=by
    have:=Int.mul_le_mul_of_nonneg_right (show (1:Int)≤v by omega) (Int.le_of_lt I);omega
   rw[Int.min_eq_left (show F≤1000 by omega)];omega
  ·simp;omega
 ·rw[show min (0:Int) 1000=0 by decide];simp;decide
theorem Uv(m f c t:Int)(w:World)(ht:t≤1000000):Calls Tryz.prog 208 #[.agg #[.int .i64 m,.int .i64 f,.int .i64 c],.int .i64 t] w fun e w'=>e=.returned (.int .i64 (P31.wait ⟨m,f,c⟩ t))∧Below w.heap.size w w':=by
 obtain⟨H,hH⟩:=qeX w.heap.size;rw[hH];have aE:=fun V=>Kk m f c V;obtain⟨W1,aS,aO,g0,bO⟩:=As w (.cells #[.int .i64 m,.int .i64 f,.int .i64 c] 58) H hH;have hlo:t<1→P31.wait ⟨m,f,c⟩ t=0:=fun h=>by unfold P31.wait;rw[if_pos h]
 have aB:1≤t→P31.wait ⟨m,f,c⟩ t=P31.waitN ⟨m,f,c⟩ ((min t 20).toNat-1):=fun h=>by unfold P31.wait;rw[if_neg (by omega)]
 have aC:P31.waitN ⟨m,f,c⟩ 0=min (max f 0) 1000:=rfl;have aI:=P31.waitN_le ⟨m,f,c⟩;have Z:∀j,P31.waitN ⟨m,f,c⟩ (j+1)=min (P31.waitN ⟨m,f,c⟩ j*min (max (P28.meant c 1) 0) 1000) 1000:=fun j=>rfl;obtain⟨A,hA⟩:∃x,min (max (P28.meant m 1) 0) 10=x:=⟨_,rfl⟩;obtain⟨B,hB⟩:∃x,max f 0=x:=⟨_,rfl⟩;obtain⟨F,hF⟩:∃x,max (P28.meant c 1) 0=x:=⟨_,rfl⟩;have aH:0≤F:=by omega
 have bL:0≤B:=by omega
 rw[hA,hB,hF]at aE;rw[hB]at aC;simp only[hF]at Z;obtain⟨WN,aJ⟩:∃x,P31.waitN ⟨m,f,c⟩=x:=⟨_,rfl⟩;rw[aJ]at aC aI aB;simp only[aJ]at Z;obtain⟨bK,hR⟩:∃x,P31.wait ⟨m,f,c⟩ t=x:=⟨_,rfl⟩;rw[hR]at hlo aB ⊢;have aY:=Ab aE;have aW:=Ab aS;have aU:=Ab aO;have aX:=Ab hlo;have aN:=Ab aB;have bF:=Ab aC;have aZ:=Ab aI;have bC:=Ab Z;obtain⟨⟨k0,f0⟩,⟨k1,f1⟩,⟨k2,f2⟩⟩:=Ag g0;clear aE aS aO g0 hlo aB aC aI Z hA hB hF aJ hR;go_enter Tryz.func208,Tryz.ntmps208
 go_upto_region 1 with fail
 try rw[hH]
 rw[Aa aW];go_upto_region 2 with(go_at_call 120;with_reducible refine(Aa aY _).mono ?_;rintro e w2 ⟨rfl,b2⟩;obtain⟨K,hK⟩:=qeX w2.heap.size;obtain⟨W3,aT,b3,g3,bM⟩:=As w2 (.cells #[.int .i64 A,.int .i64 B,.int .i64 F] 58) K hK;have aP:=Ab aT;have aQ:=Ab b3;have bD:=Ab g3;have aD:=Ab b2;clear aT b3 g3 b2)
 try rw[hK]
 rw[Aa aP];have aR:Below H w W3:=(Aa aU).trans (((Aa aD).mono (by omega)).trans ((Aa aQ).mono (by have:=(Aa aD).size;omega)));have aL:=Ab aR;obtain⟨⟨q0,r0⟩,⟨q1,r1⟩,⟨q2,r2⟩⟩:=Ag (Aa bD);clear aR k0 f0 k1 f1 k2 f2 aU aD aQ aP aW aY;rcases Int.lt_or_le t 1 with bI|bE
 ·have d1:decide (t<1)=true:=by simp;omega
  have I:=Aa aX bI;subst I;go_wp2;go_ret;exact⟨rfl,Aa aL⟩
 have d1:decide (t<1)=false:=by simp;omega
 obtain⟨M,hM⟩:=qeX ((min t 20).toNat-1);have I:=Aa aN bE;rw[hM]at I;have aM:=Ab I;have bJ:(M:Int)+1=min t 20:=by omega
 clear I aX aN hM;have m1:min B 1000=WN 0:=(Aa bF).symm;go_wp2
 go_loopg [6,7] M (fun g s6 s7 wx=>∃j:Nat,j+g=M∧s6=.int .i64 (WN j)∧s7=.int .i64 ((j:Int)+1)∧Hid (wx=W3))
 case atStart=>exact⟨0,by omega,rfl,by go_num,Ab rfl⟩
 case round=>
  obtain⟨j,bT,rfl,rfl,hw⟩:=hrel;have hw:=(Aa hw).symm;subst hw;cases gk with
  |zero=>
   rw[show j=M by omega]at *;have hr:=Aa aM;rcases Int.lt_or_le ((M:Int)+1) t with h2|h2
   ·have d2:decide ((M:Int)+1<t)=true:=by simp;omega
    have d3:decide ((M:Int)+1<20)=false:=by simp;omega
    have h3:¬((M:Int)+1<20):=by omega
    go_wp2;go_ret;exact⟨rfl,Aa aL⟩
   ·have d2:decide ((M:Int)+1<t)=false:=by simp;omega
    go_wp2;go_ret;exact⟨rfl,Aa aL⟩
  |succ g'=>
   have h2:(j:Int)+1<t:=by omega
   have h3:(j:Int)+1<20:=by omega
   have d2:decide ((j:Int)+1<t)=true:=by simp;omega
   have d3:decide ((j:Int)+1<20)=true:=by simp;omega
   have bQ:IntKind.i64.wrap ((j:Int)+1+1)=(j:Int)+1+1:=qG _ (by omega);obtain⟨aA,bG⟩:=Aa aZ j;have J:=Aa bC j;obtain⟨V,hV⟩:=qeX (WN j);rw[hV]at aA bG J ⊢;by_cases aK:F=0
   ·obtain⟨e1,e2,e3⟩:=Lo aA aH (.inl aK);have e4:WN (j+1)=0:=(J.trans e3).trans (by rw[aK,Int.mul_zero]);clear J e3 e1 e2;subst aK;have w1:wrap64 (V*0)=0:=by rw[Int.mul_zero];exact Jj 0 (by decide) (by decide)
    go_wp2;go_roundg g'
    case measure=>omega
    case rel=>exact⟨j+1,by omega,by rw[e4],by go_num,Ab rfl⟩
   ·have d4:decide (F > 0)=true:=by simp;omega
    have w0:wrap64 ((1000:Int).tdiv F)=(1000:Int).tdiv F:=by
     rw[Int.tdiv_eq_ediv_of_nonneg (by decide)];have h8:=Int.ediv_nonneg (show (0:Int)≤1000 by decide) aH;have h9:=Int.ediv_le_self F (show (0:Int)≤1000 by decide);exact Jj _ (by omega) (by omega)
    obtain⟨QU,aG⟩:∃x,(1000:Int).tdiv F=x:=⟨_,rfl⟩;rw[aG]at w0;by_cases hq:QU<V
    ·have e3:=Ti aA (show 0<F by omega) (aG ▸ hq);have e4:=J.trans e3;have d5:decide (QU<V)=true:=by simp;omega
     clear J e3;go_wp2;go_roundg g'
     case measure=>omega
     case rel=>exact⟨j+1,by omega,by rw[e4],by go_num,Ab rfl⟩
    ·obtain⟨e1,e2,e3⟩:=Lo aA aH (.inr (aG ▸ hq));have e4:=J.trans e3;have w1:wrap64 (V*F)=V*F:=Jj _ (by omega) (by omega);have d5:decide (QU<V)=false:=by simp;omega
     clear J e3;go_wp2;go_roundg g'
     case measure=>omega
     case rel=>exact⟨j+1,by omega,by rw[e4],by go_num,Ab rfl⟩
open Go.RowKit
attribute [local go_sem] Fm
def Av(V:World)(K:Nat)(c:P31.Run):Prop:=V.heap[K]?=some (.cells #[.int .u8 (c.phase:Int),.int .i64 c.att,.int .i64 c.til,.bool c.last] 163)
namespace Av
variable {V:World} {K:Nat} {c:P31.Run}
theorem cells(h:Av V K c):(V.cell? ⟨K,0,none⟩=some (.int .u8 (c.phase:Int))∧V.frozen? ⟨K,0,none⟩=false)∧(V.cell? ⟨K,1,none⟩=some (.int .i64 c.att)∧V.frozen? ⟨K,1,none⟩=false)∧(V.cell? ⟨K,2,none⟩=some (.int .i64 c.til)∧V.frozen? ⟨K,2,none⟩=false)∧(V.cell? ⟨K,3,none⟩=some (.bool c.last)∧V.frozen? ⟨K,3,none⟩=false):=by
 unfold Av at h;simp[World.cell?,World.frozen?,h]
theorem out(h:Av V K c)(x:P31.Run):Av ((((V.setCell ⟨K,0,none⟩ (.int .u8 (x.phase:Int))).setCell ⟨K,1,none⟩ (.int .i64 x.att)).setCell ⟨K,2,none⟩ (.int .i64 x.til)).setCell ⟨K,3,none⟩ (.bool x.last)) K x:=
 (R2.put4 (R2.put4 (R2.put4 (R2.put4 h _).1 _).2.1 _).2.2.1 _).2.2.2
theorem load(h:Av V K c):(loadVar 163 ⟨K,0,none⟩).run Tryz.prog V=.ok (Au c) V:=qW _ _ _ _ _ _ _ h Tryz.underlying163 rfl (by kernel_rfl)
theorem below{V':World}(h:Av V K c)(hb:Below V.heap.size V V'):Av V' K c:=(hb.block _ (qA.1 h).1).trans h
end Av
theorem Rq(s:Ai)(w:World):Calls Tryz.prog 210 #[s.val] w fun e w'=>e=.returned (.int .i64 (P31.limit s.bare))∧Below w.heap.size w w':=by
 obtain⟨H,hH⟩:=qeX w.heap.size;rw[hH];have J:=fun V=>It s V;have I:min (max s.real.limit 0) 10000=P31.limit s.bare:=rfl;obtain⟨LI,aB⟩:∃x,P31.limit s.bare=x:=⟨_,rfl⟩;rw[aB]at I ⊢;obtain⟨⟨sn,sa,su,aQ,aL,aM,sm,sf,sc,sl,⟨k,t,ka,kc,ks,da,dc,ds,l⟩⟩,hs⟩:∃s',s=s':=⟨_,rfl⟩;rw[hs]at J I ⊢;unfold Ai.real at J I;simp only[Ai.val_eqn]at J I ⊢;obtain⟨M1,aA⟩:∃x,P28.meant sm 1=x:=⟨_,rfl⟩;obtain⟨M2,aI⟩:∃x,P28.meant sc 1=x:=⟨_,rfl⟩;obtain⟨M3,Z⟩:∃x,P28.meant sl 100=x:=⟨_,rfl⟩;rw[Z]at I;rw[aA,aI,Z]at J;obtain⟨N1,aH⟩:=qeX aM.length;obtain⟨N2,aJ⟩:=qeX ks.length;obtain⟨N3,aG⟩:=qeX ds.length;rw[aH,aJ,aG]at J ⊢;obtain⟨W1,aE,aC,g1,aX⟩:=As w (.cells #[.string ⟨sn.toArray⟩,.string ⟨sa.toArray⟩,.string ⟨su.toArray⟩,.slice aQ N1 aL,.int .i64 sm,.int .i64 sf,.int .i64 sc,.int .i64 sl,.int .u8 k,.string ⟨t.toArray⟩,.slice ka N2 kc,.slice da N3 dc,.int .i64 l] 63) H hH;obtain⟨⟨a0,b0⟩,⟨a1,b1⟩,⟨a2,b2⟩,⟨a3,b3⟩,⟨a4,b4⟩,⟨a5,b5⟩,⟨a6,b6⟩,⟨a7,b7⟩,⟨a8,b8⟩,⟨a9,b9⟩,⟨aS,aU⟩,⟨aW,aY⟩,⟨aR,aT⟩⟩:=Am g1;have aO:=Ab J;have aP:=Ab aE;have aN:=Ab aC;clear aE aC g1 J aB aA aI Z aH aJ aG hs;go_enter Tryz.func210,Tryz.ntmps210
 go_upto_region 1 with fail
 try rw[hH]
 rw[Aa aP];go_wp2_with (go_at_call 154;with_reducible refine(Aa aO _).mono ?_;rintro e w2 ⟨rfl,aD⟩;have aK:=Ab ((Aa aN).trans (aD.mono (by omega)));clear aD)
 go_ret;exact⟨rfl,Aa aK⟩
def Nv(U:World)(K:Nat)(x:P31.Run)(k:Nat)(W:World):Prop:=Below K U W∧K<W.heap.size∧Av W K (if k≤1 then P31.Run.zero else x)
namespace Nv
variable {U W W':World} {K:Nat} {x:P31.Run}
theorem start(h:Av U K P31.Run.zero):Nv U K x 0 U.drew:=⟨(qU _ _).drew,(qA.1 h).1,h⟩
theorem call(h:Nv U K x 0 W)(hb:Below W.heap.size W W'):Nv U K x 1 W':=⟨h.1.trans (hb.mono (Nat.le_of_lt h.2.1)),zD h.2.1 hb.size,Av.below h.2.2 hb⟩
theorem store(h:Nv U K x 1 W):Nv U K x 2 ((((W.setCell ⟨K,0,none⟩ (.int .u8 (x.phase:Int))).setCell ⟨K,1,none⟩ (.int .i64 x.att)).setCell ⟨K,2,none⟩ (.int .i64 x.til)).setCell ⟨K,3,none⟩ (.bool x.last)):=by
 have h3:Av W K P31.Run.zero:=h.2.2;have h4:=h3.out x;exact⟨Below.set4 h.1 (qJ _) _ _ _ _,(qA.1 h4).1,h4⟩
end Nv
theorem Is(r:P31.Run)(s:Ai)(n:Int)(w:World)(hr:-1000000≤r.att∧r.att≤1000000):Calls Tryz.prog 182 #[Au r,s.val,.int .i64 n] w fun e w'=>e=.returned (Au (P31.next s.bare n r))∧Below w.heap.size w w':=by
 obtain⟨H,hH⟩:=qeX w.heap.size;rw[hH];have Z:=fun V=>Rq s V;have aQ:=P31.limit_le s.bare;obtain⟨LI,aG⟩:∃x,P31.limit s.bare=x:=⟨_,rfl⟩;have aH:P31.next s.bare n r=⟨1,r.att+1,P31.now n+LI,r.last⟩:=by rw[←aG];rfl
 simp only[aG]at Z aQ;rw[aH];have aB:=fun V=>Kl n V;have bD:=P31.now_le n;obtain⟨NW,aE⟩:∃x,P31.now n=x:=⟨_,rfl⟩;rw[aE]at bD ⊢;simp only[aE]at aB;clear aG aE aH;obtain⟨⟨sn,sa,su,aD,aC,aW,sm,sf,sc,sl,⟨k,t,ka,kc,ks,da,dc,ds,l⟩⟩,hs⟩:∃s',s=s':=⟨_,rfl⟩;rw[hs]at Z ⊢;simp only[Ai.val_eqn]at Z ⊢;obtain⟨N1,aO⟩:=qeX aW.length;obtain⟨N2,aK⟩:=qeX ks.length;obtain⟨N3,aJ⟩:=qeX ds.length;rw[aO,aK,aJ]at Z ⊢;clear hs aO aK aJ;obtain⟨ph,I,ti,la⟩:=r;simp only at hr;obtain⟨W1,aL,aI,g0,g1,g2,bL⟩:=I5 w (.cells #[.int .u8 (ph:Int),.int .i64 I,.int .i64 ti,.bool la] 163) (.cells #[.string ⟨sn.toArray⟩,.string ⟨sa.toArray⟩,.string ⟨su.toArray⟩,.slice aD N1 aC,.int .i64 sm,.int .i64 sf,.int .i64 sc,.int .i64 sl,.int .u8 k,.string ⟨t.toArray⟩,.slice ka N2 kc,.slice da N3 dc,.int .i64 l] 63) (.cells #[.int .u8 0,.int .i64 0,.int .i64 0,.bool false] 163) H hH;obtain⟨⟨a0,b0⟩,⟨a1,b1⟩,⟨a2,b2⟩,⟨a3,b3⟩,⟨a4,b4⟩,⟨a5,b5⟩,⟨a6,b6⟩,⟨a7,b7⟩,⟨a8,b8⟩,⟨a9,b9⟩,⟨aR,bK⟩,⟨aT,bO⟩,⟨aP,bQ⟩⟩:=Am g1;obtain⟨⟨x0,y0⟩,⟨x1,y1⟩,⟨x2,y2⟩,⟨x3,y3⟩⟩:=Av.cells (c:=⟨ph,I,ti,la⟩) g0;simp only at x0 x1 x2 x3;have bV:IntKind.i64.wrap (I+1)=I+1:=qG _ (by omega);have bM:IntKind.i64.wrap (NW+LI)=NW+LI:=qG _ (by omega);have aZ:=Ab Z;have bF:=Ab aB;have bG:=Ab aL;have aX:=Ab aI;have aY:=Ab g2;clear aL aI g0 g1 g2 Z aB;unfold Au;have bC:=enters_of Tryz.func210 (by kernel_rfl) rfl;have bE:=enters_of Tryz.func181 (by kernel_rfl) rfl;go_enter Tryz.func182,Tryz.ntmps182
 go_upto_region 1 with fail
 try rw[hH]
 rw[Aa bG];go_upto_region 1 with fail
 refine A7 Bj [6,11] (fun pk aF W=>aF={ tmps:=#[.agg #[.int .u8 (ph:Int),.int .i64 I,.int .i64 ti,.bool la],.agg #[sT sn,sT sa,sT su,.slice aD N1 aC,.int .i64 sm,.int .i64 sf,.int .i64 sc,.int .i64 sl,.int .u8 k,sT t,.slice ka N2 kc,.slice da N3 dc,.int .i64 l],.int .i64 n,qP0 H,qP0 (H+1),uZ,qP0 (H+1+1),pT H 1,.int .i64 I,.int .i64 (I+1),.int .i64 n,.int .i64 NW,.agg #[sT sn,sT sa,sT su,.slice aD N1 aC,.int .i64 sm,.int .i64 sf,.int .i64 sc,.int .i64 sl,.int .u8 k,sT t,.slice ka N2 kc,.slice da N3 dc,.int .i64 l],.int .i64 LI,.int .i64 (NW+LI),pT H 3,.bool la,.agg #[.int .u8 1,.int .i64 (I+1),.int .i64 (NW+LI),.bool la]],defers:=[] }∧Nv W1 (H+1+1) ⟨1,I+1,NW+LI,la⟩ pk W) (by kernel_rfl) (by kernel_rfl) (by decide) ⟨rfl,Nv.start (Aa aY)⟩ rfl rfl (Bs 7 11 18 0 (by kernel_rfl) (by kernel_rfl) (by decide) rfl rfl rfl) ?hpure ?hwrite ?hfin
 case hpure=>
  rintro pk aF W ix o ⟨rfl,J⟩ ho aN bU;have hb:=J.1;have hc:=fun g o (h:g<H+1+1)=>Ae (hb.block g h) o;have u0:=(hc H 0 (by omega)).trans x0;have u1:=(hc H 1 (by omega)).trans x1;have u2:=(hc H 2 (by omega)).trans x2;have u3:=(hc H 3 (by omega)).trans x3;have q0:=(hc (H+1) 0 (by omega)).trans a0;have q1:=(hc (H+1) 1 (by omega)).trans a1;have q2:=(hc (H+1) 2 (by omega)).trans a2;have q3:=(hc (H+1) 3 (by omega)).trans a3;have q4:=(hc (H+1) 4 (by omega)).trans a4;have q5:=(hc (H+1) 5 (by omega)).trans a5;have q6:=(hc (H+1) 6 (by omega)).trans a6;have q7:=(hc (H+1) 7 (by omega)).trans a7;have q8:=(hc (H+1) 8 (by omega)).trans a8;have q9:=(hc (H+1) 9 (by omega)).trans a9;have bJ:=(hc (H+1) 10 (by omega)).trans aR;have bT:=(hc (H+1) 11 (by omega)).trans aT;have bI:=(hc (H+1) 12 (by omega)).trans aP;rcases ix with _|_|_|_|_|_|_|_|_|_|_|_|ix
  iterate 4
   ·refine wq ho rfl rfl rfl rfl ?_
    go_simp
  ·have aA:some _=some o:=ho;cases aA;refine(if_pos (show Region.wanted _ (yielded _ _)=true from rfl)).mpr ?_;refine⟨_,_,rfl,rfl,.inr ⟨181,#[.int .i64 n],?_,Aa bF _⟩⟩;simp[execOp,resolve,invoke,Act.eval,bE,Result.andThen,Deferred.ofValue]
  ·refine wq ho rfl rfl rfl rfl ?_
   go_simp
  ·exact absurd (by simp) aN
  iterate 4
   ·refine wq ho rfl rfl rfl rfl ?_
    go_simp
  ·exact absurd (by simp) aN
  ·exfalso;simp at ho
 case hwrite=>
  rintro pk aF W ix o ⟨rfl,J⟩ hi ho;rcases pk with _|_|pk
  ·cases (show some 6=some ix from hi);have aA:some _=some o:=ho;cases aA;refine⟨rfl,.inr (.inr ⟨210,#[.agg #[.string ⟨sn.toArray⟩,.string ⟨sa.toArray⟩,.string ⟨su.toArray⟩,.slice aD N1 aC,.int .i64 sm,.int .i64 sf,.int .i64 sc,.int .i64 sl,.int .u8 k,.string ⟨t.toArray⟩,.slice ka N2 kc,.slice da N3 dc,.int .i64 l]],W,?_,?_⟩)⟩
   ·simp[execOp,resolve,invoke,Act.eval,bC,Result.andThen,Deferred.ofValue]
   ·refine(Aa aZ W).mono ?_;rintro e w4 ⟨rfl,b4⟩;exact⟨_,rfl,⟨rfl,J.call b4⟩⟩
  ·cases (show some 11=some ix from hi);have aA:some _=some o:=ho;cases aA;have aS:Av W (H+1+1) P31.Run.zero:=J.2.2;obtain⟨⟨z0,f0⟩,⟨z1,f1⟩,⟨z2,f2⟩,⟨z3,f3⟩⟩:=aS.cells;refine⟨rfl,.inr (.inl ⟨_,?_,⟨rfl,J.store⟩⟩)⟩
   go_simp
  ·simp at hi
 case hfin=>
  rintro pk aF W6 hk ⟨rfl,J⟩;obtain⟨pk,rfl⟩:∃k',pk=k'+2:=⟨pk-2,by simp at hk;omega⟩;have h3:Av W6 (H+1+1) ⟨1,I+1,NW+LI,la⟩:=by have:=J.2.2;rwa [if_neg (by omega)]at this
  have aM:Below H w W6:=(Aa aX).trans (J.1.mono (by omega));have H3:=Ab h3;have aU:=Ab aM;clear J h3 aM;go_wp2;exact qV (Ah rfl _ _ _ (H+1+1) _ rfl (Aa H3).load) rfl ⟨rfl,Aa aU⟩
end Go.Proofs.YtefokfbgpfcbkaaGreat
namespace Go.Proofs.YtefokfbgpfcbkaaGreat
open Go.RowKit
attribute [local go_sem] Dv
theorem Kp(r:P31.Run)(s:Ai)(n:Int)(w:World)(hr:-1000000≤r.att∧r.att≤1000000):Calls Tryz.prog 178 #[Au r,s.val,.int .i64 n] w fun e w'=>e=.returned (Au (P31.fail s.bare n r))∧Below w.heap.size w w':=by
 obtain⟨H,hH⟩:=qeX w.heap.size;rw[hH];have aA:=fun V=>Is r s n V hr;have aC:=fun V=>Kk s.most s.first s.factor V
 have aD:=fun V=>Uv s.most s.first s.factor r.att V hr.2
 have bG:=fun V=>Kl n V;have cG:=P31.now_le n;have cC:=P31.wait_le s.bare.tries r.att;have aM:s.bare.tries=⟨s.most,s.first,s.factor⟩:=rfl;obtain⟨MO,bF⟩:∃x,min (max (P28.meant s.most 1) 0) 10=x:=⟨_,rfl⟩;have bX:P33.more s.bare.tries r.att=(decide (1≤r.att)&&decide (r.att<MO)):=by rw[←bF];rfl
 obtain⟨MB,bM⟩:∃x,max s.first 0=x:=⟨_,rfl⟩
 obtain⟨MC,bV⟩:∃x,max (P28.meant s.factor 1) 0=x:=⟨_,rfl⟩;rw[bF,bM,bV]at aC;obtain⟨WT,aN⟩:∃x,P31.wait s.bare.tries r.att=x:=⟨_,rfl⟩;obtain⟨NX,bD⟩:∃x,P31.next s.bare n r=x:=⟨_,rfl⟩
 obtain⟨NW,aW⟩:∃x,P31.now n=x:=⟨_,rfl⟩;obtain⟨FA,bC⟩:∃x,P31.fail s.bare n r=x:=⟨_,rfl⟩;have bI:(if r.last=true∨(decide (1≤r.att)&&decide (r.att<MO))=false then ⟨4,r.att,0,r.last⟩ else if WT=0 then NX else ⟨2,r.att,NW+WT,r.last⟩)=FA:=by rw[←bC,←bX,←aN,←bD,←aW];rfl
 rw[aM]at aN;rw[aM,aN]at cC;rw[aN]at aD;rw[bD]at aA;rw[aW]at cG;simp only[aW]at bG;rw[bC];clear bF aN bD aW bC aM bX bM bV;obtain⟨⟨sn,sa,su,bZ,bU,cD,sm,sf,sc,sl,⟨k,t,ka,kc,ks,da,dc,ds,l⟩⟩,hs⟩:∃s',s=s':=⟨_,rfl⟩;rw[hs]at aA aC aD ⊢;simp only[Ai.val_eqn]at aA aC aD ⊢;obtain⟨N1,bY⟩:=qeX cD.length;obtain⟨N2,bQ⟩:=qeX ks.length;obtain⟨N3,bL⟩:=qeX ds.length;rw[bY,bQ,bL]at aA ⊢;clear hs bY bQ bL;obtain⟨ph,I,ti,la⟩:=r;obtain⟨np,na,nt,nl⟩:=NX;obtain⟨fp,fa,ft,fl⟩:=FA;unfold Au at aA;simp only at aA aC aD bI hr;obtain⟨W1,bW,bK,g0,g1,g2,cS⟩:=I5 w (.cells #[.int .u8 (ph:Int),.int .i64 I,.int .i64 ti,.bool la] 163) (.cells #[.string ⟨sn.toArray⟩,.string ⟨sa.toArray⟩,.string ⟨su.toArray⟩,.slice bZ N1 bU,.int .i64 sm,.int .i64 sf,.int .i64 sc,.int .i64 sl,.int .u8 k,.string ⟨t.toArray⟩,.slice ka N2 kc,.slice da N3 dc,.int .i64 l] 63) (.cells #[.int .u8 0,.int .i64 0,.int .i64 0,.bool false] 163) H hH;obtain⟨⟨a0,b0⟩,⟨a1,b1⟩,⟨a2,b2⟩,⟨a3,b3⟩,⟨a4,b4⟩,⟨a5,b5⟩,⟨a6,b6⟩,⟨a7,b7⟩,⟨a8,b8⟩,⟨a9,b9⟩,⟨aK,aS⟩,⟨aL,aX⟩,⟨aI,aY⟩⟩:=Am g1;obtain⟨⟨x0,y0⟩,⟨x1,y1⟩,⟨x2,y2⟩,⟨x3,y3⟩⟩:=Av.cells (c:=⟨ph,I,ti,la⟩) g0;simp only at x0 x1 x2 x3;obtain⟨⟨z0,z1⟩,⟨z2,z3⟩,⟨z4,z5⟩,⟨z6,z7⟩⟩:=Av.cells (c:=P31.Run.zero) g2;have cT:IntKind.i64.wrap (NW+WT)=NW+WT:=qG _ (by omega);have cF:=Ab aA;have cA:=Ab aC;have cN:=Ab aD;have cJ:=Ab bG;have bE:=Ab bI;have aZ:=Ab bW;have aU:=Ab bK;have aP:=Ab g0;have aR:=Ab g1;have J:=Ab g2;clear aA aC aD bG bI bW bK g0 g1 g2;unfold Au;have cH:=enters_of Tryz.func120 (by kernel_rfl) rfl
 have fin:∀(V:World) (q:P31.Run) (c:P31.Run),Av V (H+1+1) c→Below H w V→Av ((((V.setCell ⟨H+1+1,0,none⟩ (.int .u8 (q.phase:Int))).setCell ⟨H+1+1,1,none⟩ (.int .i64 q.att)).setCell ⟨H+1+1,2,none⟩ (.int .i64 q.til)).setCell ⟨H+1+1,3,none⟩ (.bool q.last)) (H+1+1) q∧Below H w ((((V.setCell ⟨H+1+1,0,none⟩ (.int .u8 (q.phase:Int))).setCell ⟨H+1+1,1,none⟩ (.int .i64 q.att)).setCell ⟨H+1+1,2,none⟩ (.int .i64 q.til)).setCell ⟨H+1+1,3,none⟩ (.bool q.last)):=
  fun V q c h hb=>⟨h.out q,Below.set4 hb (by omega) _ _ _ _⟩
 have aJ:=Ab fin;clear fin;have d8:(0:Int)≤0:=Int.le_refl 0;by_cases hq:la=true∨I<1
 ·have hf:=Aa bE;rw[if_pos (hq.imp id (fun h=>by simp;omega))]at hf;cases hf
  have d1:la=false→decide (I<1)=true:=fun e=>by
   have:=hq.resolve_left (by rw[e];simp);simpa using this
  clear hq;cases la with
  |true=>
   clear d1;go_enter Tryz.func178,Tryz.ntmps178
   go_upto_region 1 with fail
   try rw[hH]
   rw[Aa aZ];go_upto_region 1 with fail
   go_quiet (fail)
   go_wp2;obtain⟨h3,h4⟩:=Aa aJ _ ⟨4,I,0,true⟩ _ (show Av (W1.drewN nq) (H+1+1) P31.Run.zero from Aa J) ((Aa aU).trans (Ac (qU _ _)));exact qV (Ah rfl _ _ _ (H+1+1) _ rfl h3.load) rfl ⟨rfl,h4⟩
  |false=>
   have d1:=d1 rfl;go_enter Tryz.func178,Tryz.ntmps178
   go_upto_region 1 with fail
   try rw[hH]
   rw[Aa aZ];go_upto_region 1 with fail
   go_quiet (fail)
   go_wp2;obtain⟨h3,h4⟩:=Aa aJ _ ⟨4,I,0,false⟩ _ (show Av (W1.drewN nq) (H+1+1) P31.Run.zero from Aa J) ((Aa aU).trans (Ac (qU _ _)));exact qV (Ah rfl _ _ _ (H+1+1) _ rfl h3.load) rfl ⟨rfl,h4⟩
 ·have d1:decide (I<1)=false:=by simp;omega
  have cO:la=false:=by cases la with|true=>exact absurd (.inl rfl) hq|false=>rfl
  subst cO;have bT:1≤I:=by omega
  clear hq;go_enter Tryz.func178,Tryz.ntmps178
  go_upto_region 1 with fail
  try rw[hH]
  rw[Aa aZ];go_upto_region 1 with fail
  refine A7 Bj [12] (fun pk aF W=>aF={ tmps:=#[.agg #[.int .u8 (ph:Int),.int .i64 I,.int .i64 ti,.bool false],.agg #[sT sn,sT sa,sT su,.slice bZ N1 bU,.int .i64 sm,.int .i64 sf,.int .i64 sc,.int .i64 sl,.int .u8 k,sT t,.slice ka N2 kc,.slice da N3 dc,.int .i64 l],.int .i64 n,qP0 H,qP0 (H+1),uZ,qP0 (H+1+1),uZ,pT H 3,.bool false,.bool false,pT H 1,.int .i64 I,.bool false,.bool false,.bool false,pT H 1,.int .i64 I,pT (H+1) 4,.agg #[.int .i64 sm,.int .i64 sf,.int .i64 sc],.agg #[.int .i64 MO,.int .i64 MB,.int .i64 MC],.int .i64 MO,.bool (decide (MO≤I)),.bool (decide (MO≤I)),uZ,uZ,uZ,uZ,uZ,uZ,uZ,uZ,uZ,uZ,uZ,uZ,uZ,uZ,uZ,uZ,uZ,uZ,uZ,uZ,uZ,uZ,uZ,uZ,uZ],defers:=[] }∧Below (H+1+1+1) W1 W) (by kernel_rfl) (by kernel_rfl) (by decide) ⟨rfl,(qU _ _).drew⟩ rfl rfl (Bs 8 16 24 0 (by kernel_rfl) (by kernel_rfl) (by decide) rfl rfl rfl) ?hpure ?hwrite ?hfin
  case hpure=>
   rintro pk aF W ix o ⟨rfl,Z⟩ ho cL cV;have hc:=fun g o (h:g<H+1+1+1)=>Ae (Z.block g h) o;have u0:=(hc H 0 (by omega)).trans x0;have u1:=(hc H 1 (by omega)).trans x1;have u2:=(hc H 2 (by omega)).trans x2;have u3:=(hc H 3 (by omega)).trans x3;have q0:=(hc (H+1) 0 (by omega)).trans a0;have q1:=(hc (H+1) 1 (by omega)).trans a1;have q2:=(hc (H+1) 2 (by omega)).trans a2;have q3:=(hc (H+1) 3 (by omega)).trans a3;have q4:=(hc (H+1) 4 (by omega)).trans a4;have q5:=(hc (H+1) 5 (by omega)).trans a5;have q6:=(hc (H+1) 6 (by omega)).trans a6;have q7:=(hc (H+1) 7 (by omega)).trans a7;have q8:=(hc (H+1) 8 (by omega)).trans a8;have q9:=(hc (H+1) 9 (by omega)).trans a9;have cQ:=(hc (H+1) 10 (by omega)).trans aK;have cU:=(hc (H+1) 11 (by omega)).trans aL;have cP:=(hc (H+1) 12 (by omega)).trans aI;rcases ix with _|_|_|_|_|_|_|_|_|_|_|_|_|_|_|_|ix
   iterate 12
    ·refine wq ho rfl rfl rfl rfl ?_
     go_simp
   ·exact absurd (by simp) cL
   iterate 3
    ·refine wq ho rfl rfl rfl rfl ?_
     go_simp
   ·exfalso;simp at ho
  case hwrite=>
   rintro pk aF W ix o ⟨rfl,Z⟩ hi ho;rcases pk with _|pk
   ·cases (show some 12=some ix from hi);have cB:some _=some o:=ho;cases cB;refine⟨rfl,.inr (.inr ⟨120,#[.agg #[.int .i64 sm,.int .i64 sf,.int .i64 sc]],W,?_,?_⟩)⟩
    ·simp[execOp,resolve,invoke,Act.eval,cH,Result.andThen,Deferred.ofValue]
    ·refine(Aa cA W).mono ?_;rintro e w4 ⟨rfl,b4⟩;exact⟨_,rfl,⟨rfl,Z.trans (b4.mono (by have:=Z.size;omega))⟩⟩
   ·simp at hi
  case hfin=>
   rintro pk aF W6 hk ⟨rfl,Z⟩;have aG:Av W6 H ⟨ph,I,ti,false⟩:=(Z.block H (by omega)).trans (Aa aP);have aE:=(Z.block (H+1) (by omega)).trans (Aa aR);have g2':Av W6 (H+1+1) P31.Run.zero:=(Z.block (H+1+1) (by omega)).trans (Aa J);have aQ:Below H w W6:=(Aa aU).trans (Z.mono (by omega));have cR:=Z.size;clear x0 y0 x1 y1 x2 y2 x3 y3 z0 z1 z2 z3 z4 z5 z6 z7 a0 b0 a1 b1 a2 b2 a3 b3 a4 b4 a5 b5 a6 b6 a7 b7 a8 b8 a9 b9 aK aS aL aX aI aY aP aR J aU aZ Z;obtain⟨⟨x0,y0⟩,⟨x1,y1⟩,⟨x2,y2⟩,⟨x3,y3⟩⟩:=aG.cells;obtain⟨⟨a0,b0⟩,⟨a1,b1⟩,⟨a2,b2⟩,⟨a3,b3⟩,⟨a4,b4⟩,⟨a5,b5⟩,⟨a6,b6⟩,⟨a7,b7⟩,⟨a8,b8⟩,⟨a9,b9⟩,⟨aK,aS⟩,⟨aL,aX⟩,⟨aI,aY⟩⟩:=Am aE;simp only at x0 x1 x2 x3;have aP:=Ab aG;have aR:=Ab aE;have J:=Ab g2';have aB:=Ab aQ;clear aG aE g2' aQ;have hf:=Aa bE;rw[show decide (1≤I)=true by simpa using bT,Bool.true_and]at hf;by_cases aT:MO≤I
   ·rw[if_pos (.inr (by simpa using aT))]at hf;cases hf;have d2:decide (MO≤I)=true:=by simpa using aT
    rw[d2];obtain⟨⟨z0,z1⟩,⟨z2,z3⟩,⟨z4,z5⟩,⟨z6,z7⟩⟩:=(Aa J).cells;go_wp2;obtain⟨h3,h4⟩:=Aa aJ _ ⟨4,I,0,false⟩ _ (Aa J) (Aa aB);exact qV (Ah rfl _ _ _ (H+1+1) _ rfl h3.load) rfl ⟨rfl,h4⟩
   ·rw[if_neg (by simpa using aT)]at hf;have d2:decide (MO≤I)=false:=by simpa using aT
    rw[d2];have HF:=Ab hf;clear hf bE;go_upto_region 4 with(go_at_call 208;with_reducible refine(Aa cN _).mono ?_;rintro e w3 ⟨rfl,aO⟩)
    have aG:=Av.below (Aa aP) aO;have aE:=(aO.block (H+1) (by omega)).trans (Aa aR);have g2':=Av.below (Aa J) aO;have aQ:Below H w w3:=(Aa aB).trans (aO.mono (by omega));clear x0 y0 x1 y1 x2 y2 x3 y3 a0 b0 a1 b1 a2 b2 a3 b3 a4 b4 a5 b5 a6 b6 a7 b7 a8 b8 a9 b9 aK aS aL aX aI aY aP aR J aB aO;obtain⟨⟨x0,y0⟩,⟨x1,y1⟩,⟨x2,y2⟩,⟨x3,y3⟩⟩:=aG.cells;obtain⟨⟨a0,b0⟩,⟨a1,b1⟩,⟨a2,b2⟩,⟨a3,b3⟩,⟨a4,b4⟩,⟨a5,b5⟩,⟨a6,b6⟩,⟨a7,b7⟩,⟨a8,b8⟩,⟨a9,b9⟩,⟨aK,aS⟩,⟨aL,aX⟩,⟨aI,aY⟩⟩:=Am aE;obtain⟨⟨z0,z1⟩,⟨z2,z3⟩,⟨z4,z5⟩,⟨z6,z7⟩⟩:=g2'.cells;simp only at x0 x1 x2 x3;have J:=Ab g2';have aB:=Ab aQ;clear aG aE g2' aQ;by_cases aH:WT=0
    ·have hf:=Aa HF;rw[if_pos aH]at hf;cases hf;have d3:(WT==0)=true:=by simpa using aH
     clear aH;go_wp2_with (go_at_call 182;with_reducible refine(Aa cF _).mono ?_;rintro e w5 ⟨rfl,bJ⟩;have g3:=Av.below (Aa J) bJ;obtain⟨⟨v0,v1⟩,⟨v2,v3⟩,⟨v4,v5⟩,⟨v6,v7⟩⟩:=g3.cells;have cI:=Ab g3;have cM:=Ab ((Aa aB).trans (bJ.mono (by have:=(Aa aB).size;omega)));clear g3 bJ)
     obtain⟨h3,h4⟩:=Aa aJ _ ⟨np,na,nt,nl⟩ _ (Aa cI) (Aa cM);exact qV (Ah rfl _ _ _ (H+1+1) _ rfl h3.load) rfl ⟨rfl,h4⟩
    ·have hf:=Aa HF;rw[if_neg aH]at hf;cases hf;have d3:(WT==0)=false:=by simpa using aH
     clear aH;go_upto_region 6 with fail
     have bO:=fun q=>Aa cJ (w3.drewN q);have cK:=Ab bO;clear bO;refine Ak 9 (by kernel_rfl) (by kernel_rfl) (by kernel_rfl) (by kernel_rfl) (by kernel_rfl) ?_;simp only[List.take_succ_cons,List.take_zero,List.drop_succ_cons,List.drop_zero]
     repeat (go_big_quiet_step (exact Calls.quiet_of_same (Aa cK _)))
     refine wpQuiet_nil ?_;rintro _ ⟨nq,rfl⟩;go_wp2;obtain⟨h3,h4⟩:=Aa aJ _ ⟨2,I,NW+WT,false⟩ _ (show Av (w3.drewN nq) (H+1+1) P31.Run.zero from Aa J) ((Aa aB).trans (Ac (qU _ _)));exact qV (Ah rfl _ _ _ (H+1+1) _ rfl h3.load) rfl ⟨rfl,h4⟩
theorem Ki(s:Ai)(n:Int)(w:World):Calls Tryz.prog 209 #[s.val,.int .i64 n] w fun e w'=>e=.returned (Au (P31.begin_ s.bare n))∧Below w.heap.size w w':=by
 obtain⟨H,hH⟩:=qeX w.heap.size;rw[hH];have I:=fun V=>Is P31.Run.zero s n V ⟨by decide,by decide⟩;have aH:P31.next s.bare n P31.Run.zero=P31.begin_ s.bare n:=rfl
 rw[aH]at I;obtain⟨B,hB⟩:∃x,P31.begin_ s.bare n=x:=⟨_,rfl⟩;rw[hB]at I ⊢;obtain⟨⟨sn,sa,su,aG,aA,aL,sm,sf,sc,sl,⟨k,t,ka,kc,ks,da,dc,ds,l⟩⟩,hs⟩:∃s',s=s':=⟨_,rfl⟩;rw[hs]at I ⊢;simp only[Ai.val_eqn]at I ⊢;obtain⟨N1,aD⟩:=qeX aL.length;obtain⟨N2,aI⟩:=qeX ks.length;obtain⟨N3,aC⟩:=qeX ds.length;rw[aD,aI,aC]at I ⊢;obtain⟨W1,aB,Z,g1,g2,aU⟩:=Dt w (.cells #[.string ⟨sn.toArray⟩,.string ⟨sa.toArray⟩,.string ⟨su.toArray⟩,.slice aG N1 aA,.int .i64 sm,.int .i64 sf,.int .i64 sc,.int .i64 sl,.int .u8 k,.string ⟨t.toArray⟩,.slice ka N2 kc,.slice da N3 dc,.int .i64 l] 63) (.cells #[.int .u8 0,.int .i64 0,.int .i64 0,.bool false] 163) H hH;obtain⟨⟨a0,b0⟩,⟨a1,b1⟩,⟨a2,b2⟩,⟨a3,b3⟩,⟨a4,b4⟩,⟨a5,b5⟩,⟨a6,b6⟩,⟨a7,b7⟩,⟨a8,b8⟩,⟨a9,b9⟩,⟨aQ,aS⟩,⟨aT,aW⟩,⟨aP,aR⟩⟩:=Am g1;have I:∀V,Calls Tryz.prog 182 #[.agg #[.int .u8 0,.int .i64 0,.int .i64 0,.bool false],.agg #[.string ⟨sn.toArray⟩,.string ⟨sa.toArray⟩,.string ⟨su.toArray⟩,.slice aG N1 aA,.int .i64 sm,.int .i64 sf,.int .i64 sc,.int .i64 sl,.int .u8 k,.string ⟨t.toArray⟩,.slice ka N2 kc,.slice da N3 dc,.int .i64 l],.int .i64 n] V fun e w'=>e=.returned (Au B)∧Below V.heap.size V w':=I;have aE:=Ab I;have aO:=Ab aB;have aM:=Ab Z;have aN:=Ab g2;clear aB Z g1 g2 I hs aD aI aC hB aH;go_enter Tryz.func209,Tryz.ntmps209
 go_upto_region 1 with fail
 try rw[hH]
 rw[Aa aO];obtain⟨bp,ba,bt,bl⟩:=B;unfold Au at aE;go_wp2_with (go_at_call 182;refine(Aa aE _).mono ?_;rintro e w2 ⟨rfl,J⟩;have g3:=Av.below (c:=P31.Run.zero) (Aa aN) J;obtain⟨⟨x0,y0⟩,⟨x1,y1⟩,⟨x2,y2⟩,⟨x3,y3⟩⟩:=g3.cells;have aK:=Ab g3;have aJ:=Ab ((Aa aM).trans (J.mono (by omega)));clear g3 J)
 have h3:=(Aa aK).out ⟨bp,ba,bt,bl⟩;exact qV (Ah rfl _ _ _ (H+1) _ rfl h3.load) rfl ⟨rfl,Below.set4 (Aa aJ) (Nat.le_succ H) _ _ _ _⟩
end Go.Proofs.YtefokfbgpfcbkaaGreat
namespace Go.Proofs.YtefokfbgpfcbkaaGreat
open Go.RowKit
theorem Lz(r:P31.Run)(s:Ai)(n tr:Int)(Z:Nat)(w:World)(hr:-1000000≤r.att∧r.att≤1000000):Calls Tryz.prog 134 #[Au r,s.val,.int .i64 n,.int .i64 tr,.int .u8 (Z:Int)] w fun e w'=>e=.returned (.tuple #[Au (P31.answer s.bare n r tr Z).1,.bool (P31.answer s.bare n r tr Z).2])∧Below w.heap.size w w':=by
 obtain⟨H,hH⟩:=qeX w.heap.size;rw[hH];have J:=fun V=>Kp r s n V hr;obtain⟨FA,aH⟩:∃x,P31.fail s.bare n r=x:=⟨_,rfl⟩;obtain⟨AN,aI⟩:∃x,P31.answer s.bare n r tr Z=x:=⟨_,rfl⟩;have aJ:(if r.phase≠1∨r.att≠tr then (r,false) else if Z=0 then (⟨3,r.att,0,r.last⟩,true) else if Z=1 then (FA,true) else if Z=2 then (⟨4,r.att,0,r.last⟩,true) else (r,false))=AN:=by rw[←aI,←aH];rfl
 rw[aH]at J;rw[aI];clear aH aI;obtain⟨⟨sn,sa,su,aZ,aQ,aY,sm,sf,sc,sl,⟨k,t,ka,kc,ks,da,dc,ds,l⟩⟩,hs⟩:∃s',s=s':=⟨_,rfl⟩;rw[hs]at J ⊢;simp only[Ai.val_eqn]at J ⊢;obtain⟨N1,aO⟩:=qeX aY.length;obtain⟨N2,aP⟩:=qeX ks.length;obtain⟨N3,aN⟩:=qeX ds.length;rw[aO,aP,aN]at J ⊢;clear hs aO aP aN;obtain⟨ph,I,ti,la⟩:=r;obtain⟨np,na,nt,nl⟩:=FA;unfold Au at J;simp only at J aJ;obtain⟨W1,aM,aK,g0,g1,g2,bJ⟩:=I5 w (.cells #[.int .u8 (ph:Int),.int .i64 I,.int .i64 ti,.bool la] 163) (.cells #[.string ⟨sn.toArray⟩,.string ⟨sa.toArray⟩,.string ⟨su.toArray⟩,.slice aZ N1 aQ,.int .i64 sm,.int .i64 sf,.int .i64 sc,.int .i64 sl,.int .u8 k,.string ⟨t.toArray⟩,.slice ka N2 kc,.slice da N3 dc,.int .i64 l] 63) (.cells #[.int .u8 0,.int .i64 0,.int .i64 0,.bool false] 163) H hH;obtain⟨⟨a0,b0⟩,⟨a1,b1⟩,⟨a2,b2⟩,⟨a3,b3⟩,⟨a4,b4⟩,⟨a5,b5⟩,⟨a6,b6⟩,⟨a7,b7⟩,⟨a8,b8⟩,⟨a9,b9⟩,⟨bD,bF⟩,⟨bG,bI⟩,⟨bC,bE⟩⟩:=Am g1;obtain⟨⟨x0,y0⟩,⟨x1,y1⟩,⟨x2,y2⟩,⟨x3,y3⟩⟩:=Av.cells (c:=⟨ph,I,ti,la⟩) g0;simp only at x0 x1 x2 x3;obtain⟨⟨z0,z1⟩,⟨z2,z3⟩,⟨z4,z5⟩,⟨z6,z7⟩⟩:=Av.cells (c:=P31.Run.zero) g2;have aX:=Ab J;have aE:=Ab aJ;have aD:=Ab aM;have aA:=Ab aK;have aC:Hid (Av W1 (H+1+1) P31.Run.zero):=Ab g2;clear J aJ aM aK g0 g1 g2;unfold Au
 have fin:∀(V:World) (q:P31.Run) (c:P31.Run),Av V (H+1+1) c→Below H w V→Av ((((V.setCell ⟨H+1+1,0,none⟩ (.int .u8 (q.phase:Int))).setCell ⟨H+1+1,1,none⟩ (.int .i64 q.att)).setCell ⟨H+1+1,2,none⟩ (.int .i64 q.til)).setCell ⟨H+1+1,3,none⟩ (.bool q.last)) (H+1+1) q∧Below H w ((((V.setCell ⟨H+1+1,0,none⟩ (.int .u8 (q.phase:Int))).setCell ⟨H+1+1,1,none⟩ (.int .i64 q.att)).setCell ⟨H+1+1,2,none⟩ (.int .i64 q.til)).setCell ⟨H+1+1,3,none⟩ (.bool q.last)):=
  fun V q c h hb=>⟨h.out q,Below.set4 hb (by omega) _ _ _ _⟩
 have aB:=Ab fin;clear fin;by_cases h1:ph≠1∨I≠tr
 ·have ha:=Aa aE;rw[if_pos h1]at ha;subst ha;by_cases h2:ph=1
  ·have h3:I≠tr:=h1.elim (fun h=>absurd h2 h) id;have aR:(tr != I)=true:=by simpa using Ne.symm h3
   have aT:((ph:Int) != 1)=false:=by rw[h2];rfl
   clear h1 h3 h2;go_enter Tryz.func134,Tryz.ntmps134
   go_upto_region 1 with fail
   try rw[hH]
   rw[Aa aD];go_wp2
   (try simp only[Exit.inBlock,Exit.then])
   obtain⟨h3,h4⟩:=Aa aB _ ⟨ph,I,ti,la⟩ _ (Aa aC) (Aa aA);exact qV (Aw rfl _ _ _ (H+1+1) _ rfl h3.load) rfl ⟨rfl,h4⟩
  ·have aR:((ph:Int) != 1)=true:=by simp;omega
   clear h1 h2;go_enter Tryz.func134,Tryz.ntmps134
   go_upto_region 1 with fail
   try rw[hH]
   rw[Aa aD];go_wp2
   (try simp only[Exit.inBlock,Exit.then])
   obtain⟨h3,h4⟩:=Aa aB _ ⟨ph,I,ti,la⟩ _ (Aa aC) (Aa aA);exact qV (Aw rfl _ _ _ (H+1+1) _ rfl h3.load) rfl ⟨rfl,h4⟩
 ·obtain⟨aL,rfl⟩:ph=1∧I=tr:=by
   refine⟨?_,?_⟩
   ·by_cases h:ph=1
    ·exact h
    ·exact absurd (.inl h) h1
   ·by_cases h:I=tr
    ·exact h
    ·exact absurd (.inr h) h1
  have ha:=Aa aE;rw[if_neg h1]at ha;have HA:=Ab ha;have aT:((ph:Int) != 1)=false:=by rw[aL];rfl
  clear ha aE h1 aL;have aW:Z=0∨Z=1∨Z=2∨(Z≠0∧Z≠1∧Z≠2):=by omega
  rcases aW with rfl|rfl|rfl|⟨n0,n1,n2⟩
  ·have ha:=Aa HA;rw[if_pos rfl]at ha;subst ha;go_enter Tryz.func134,Tryz.ntmps134
   go_upto_region 1 with fail
   try rw[hH]
   rw[Aa aD];go_wp2
   (try simp only[Exit.inBlock,Exit.then])
   obtain⟨h3,h4⟩:=Aa aB _ ⟨3,I,0,la⟩ _ (Aa aC) (Aa aA);exact qV (Aw rfl _ _ _ (H+1+1) _ rfl h3.load) rfl ⟨rfl,h4⟩
  ·have ha:=Aa HA;rw[if_neg (by decide),if_pos rfl]at ha;subst ha;go_enter Tryz.func134,Tryz.ntmps134
   go_upto_region 1 with fail
   try rw[hH]
   rw[Aa aD];go_wp2_with (go_at_call 178;with_reducible refine(Aa aX _).mono ?_;rintro e w2 ⟨rfl,aG⟩;have g3:=Av.below (c:=P31.Run.zero) (Aa aC) aG;obtain⟨⟨z0,z1⟩,⟨z2,z3⟩,⟨z4,z5⟩,⟨z6,z7⟩⟩:=g3.cells;have aU:=Ab g3;have aS:=Ab ((Aa aA).trans (aG.mono (by have:=(Aa aA).size;omega)));clear g3 aG)
   (try simp only[Exit.inBlock,Exit.then])
   obtain⟨h3,h4⟩:=Aa aB _ ⟨np,na,nt,nl⟩ _ (Aa aU) (Aa aS);exact qV (Aw rfl _ _ _ (H+1+1) _ rfl h3.load) rfl ⟨rfl,h4⟩
  ·have ha:=Aa HA;rw[if_neg (by decide),if_neg (by decide),if_pos rfl]at ha;subst ha;go_enter Tryz.func134,Tryz.ntmps134
   go_upto_region 1 with fail
   try rw[hH]
   rw[Aa aD];go_wp2
   (try simp only[Exit.inBlock,Exit.then])
   obtain⟨h3,h4⟩:=Aa aB _ ⟨4,I,0,la⟩ _ (Aa aC) (Aa aA);exact qV (Aw rfl _ _ _ (H+1+1) _ rfl h3.load) rfl ⟨rfl,h4⟩
  ·have ha:=Aa HA;rw[if_neg n0,if_neg n1,if_neg n2]at ha;subst ha;have m2:decide ((Z:Int) > 2)=true:=by simp;omega
   have m3:(2:Int)<(Z:Int):=by omega
   have m4:decide (2<Z)=true:=by simp;omega
   clear n0 n1 n2;go_enter Tryz.func134,Tryz.ntmps134
   go_upto_region 1 with fail
   try rw[hH]
   rw[Aa aD];go_wp2
   (try simp only[Exit.inBlock,Exit.then])
   obtain⟨h3,h4⟩:=Aa aB _ ⟨ph,I,ti,la⟩ _ (Aa aC) (Aa aA);exact qV (Aw rfl _ _ _ (H+1+1) _ rfl h3.load) rfl ⟨rfl,h4⟩
theorem Jl(r:P31.Run)(s:Ai)(n:Int)(w:World)(hr:-1000000≤r.att∧r.att≤1000000):Calls Tryz.prog 137 #[Au r,s.val,.int .i64 n] w fun e w'=>e=.returned (.tuple #[Au (P31.tick s.bare n r).1,.bool (P31.tick s.bare n r).2])∧Below w.heap.size w w':=by
 obtain⟨H,hH⟩:=qeX w.heap.size;rw[hH];have aR:=fun V=>Kp r s n V hr;have aS:=fun V=>Is r s n V hr;have bI:=fun V=>Kl n V;obtain⟨NX,bC⟩:∃x,P31.next s.bare n r=x:=⟨_,rfl⟩
 obtain⟨FA,aZ⟩:∃x,P31.fail s.bare n r=x:=⟨_,rfl⟩;obtain⟨NW,bE⟩:∃x,P31.now n=x:=⟨_,rfl⟩;obtain⟨AN,bG⟩:∃x,P31.tick s.bare n r=x:=⟨_,rfl⟩;have bD:(if NW<r.til then (r,false) else if r.phase=1 then (FA,true) else if r.phase=2 then (NX,true) else (r,false))=AN:=by rw[←bG,←bC,←bE,←aZ];rfl
 rw[aZ]at aR;rw[bC]at aS;simp only[bE]at bI;rw[bG];clear aZ bC bE bG;obtain⟨⟨sn,sa,su,bV,bT,bO,sm,sf,sc,sl,⟨k,t,ka,kc,ks,da,dc,ds,l⟩⟩,hs⟩:∃s',s=s':=⟨_,rfl⟩;rw[hs]at aR aS ⊢;simp only[Ai.val_eqn]at aR aS ⊢;obtain⟨N1,bM⟩:=qeX bO.length;obtain⟨N2,bK⟩:=qeX ks.length;obtain⟨N3,bJ⟩:=qeX ds.length;rw[bM,bK,bJ]at aR aS ⊢;clear hs bM bK bJ;obtain⟨ph,aE,ti,la⟩:=r;obtain⟨fp,fa,ft,fl⟩:=NX;obtain⟨np,na,nt,nl⟩:=FA;unfold Au at aR aS;simp only at aR aS bD;obtain⟨W1,bL,I,g0,g1,g2,aW⟩:=I5 w (.cells #[.int .u8 (ph:Int),.int .i64 aE,.int .i64 ti,.bool la] 163) (.cells #[.string ⟨sn.toArray⟩,.string ⟨sa.toArray⟩,.string ⟨su.toArray⟩,.slice bV N1 bT,.int .i64 sm,.int .i64 sf,.int .i64 sc,.int .i64 sl,.int .u8 k,.string ⟨t.toArray⟩,.slice ka N2 kc,.slice da N3 dc,.int .i64 l] 63) (.cells #[.int .u8 0,.int .i64 0,.int .i64 0,.bool false] 163) H hH;obtain⟨⟨a0,b0⟩,⟨a1,b1⟩,⟨a2,b2⟩,⟨a3,b3⟩,⟨a4,b4⟩,⟨a5,b5⟩,⟨a6,b6⟩,⟨a7,b7⟩,⟨a8,b8⟩,⟨a9,b9⟩,⟨aH,aI⟩,⟨aJ,aK⟩,⟨aG,aL⟩⟩:=Am g1;obtain⟨⟨x0,y0⟩,⟨x1,y1⟩,⟨x2,y2⟩,⟨x3,y3⟩⟩:=Av.cells (c:=⟨ph,aE,ti,la⟩) g0;simp only at x0 x1 x2 x3;obtain⟨⟨z0,z1⟩,⟨z2,z3⟩,⟨z4,z5⟩,⟨z6,z7⟩⟩:=Av.cells (c:=P31.Run.zero) g2;have bU:=Ab aR;have bQ:=Ab aS;have aQ:=Ab bI;have aO:=Ab bD;have aX:=Ab bL;have J:=Ab I;have aA:Hid (Av W1 H ⟨ph,aE,ti,la⟩):=Ab g0;have aB:=Ab g1;have Z:Hid (Av W1 (H+1+1) P31.Run.zero):=Ab g2;clear aR aS bI bD bL I g0 g1 g2;unfold Au
 have fin:∀(V:World) (q:P31.Run) (c:P31.Run),Av V (H+1+1) c→Below H w V→Av ((((V.setCell ⟨H+1+1,0,none⟩ (.int .u8 (q.phase:Int))).setCell ⟨H+1+1,1,none⟩ (.int .i64 q.att)).setCell ⟨H+1+1,2,none⟩ (.int .i64 q.til)).setCell ⟨H+1+1,3,none⟩ (.bool q.last)) (H+1+1) q∧Below H w ((((V.setCell ⟨H+1+1,0,none⟩ (.int .u8 (q.phase:Int))).setCell ⟨H+1+1,1,none⟩ (.int .i64 q.att)).setCell ⟨H+1+1,2,none⟩ (.int .i64 q.til)).setCell ⟨H+1+1,3,none⟩ (.bool q.last)):=
  fun V q c h hb=>⟨h.out q,Below.set4 hb (by omega) _ _ _ _⟩
 have aU:=Ab fin;clear fin;by_cases e1:ph=1
 ·by_cases aP:NW<ti
  ·have ha:=Aa aO;rw[if_pos aP]at ha;subst ha;have m1:((ph:Int)==1)=true:=by rw[e1];rfl
   have m2:((ph:Int)==2)=false:=by rw[e1];rfl
   have d1:decide (ti≤NW)=false:=by simp;omega
   have d2:¬ti≤NW:=by omega
   clear aO e1 aP;go_enter Tryz.func137,Tryz.ntmps137
   go_upto_region 1 with fail
   try rw[hH]
   rw[Aa aX];have aC:=fun q=>Aa aQ (W1.drewN q);have aD:=Ab aC;clear aC;refine wp_region_quiet_lit (by kernel_rfl) (by kernel_rfl) ?_
   repeat (go_big_quiet_step (exact Calls.quiet_of_same (Aa aD _)))
   refine wpQuiet_nil ?_;rintro _ ⟨nq,rfl⟩;have g0:Av (W1.drewN nq) H ⟨ph,aE,ti,la⟩:=Aa aA;have g1:(W1.drewN nq).heap[H+1]?=_:=Aa aB;have g2:Av (W1.drewN nq) (H+1+1) P31.Run.zero:=Aa Z;have I:Below H w (W1.drewN nq):=(Aa J).trans (Ac (qU _ _));have hsz:(W1.drewN nq).heap.size=H+1+1+1:=aW;obtain⟨V2,aM⟩:∃V,W1.drewN nq=V:=⟨_,rfl⟩;rw[aM]at g0 g1 g2 I hsz ⊢;clear aM aA aB Z J aD x0 y0 x1 y1 x2 y2 x3 y3 z0 z1 z2 z3 z4 z5 z6 z7 a0 b0 a1 b1 a2 b2 a3 b3 a4 b4 a5 b5 a6 b6 a7 b7 a8 b8 a9 b9 aH aI aJ aK aG aL;obtain⟨⟨a0,b0⟩,⟨a1,b1⟩,⟨a2,b2⟩,⟨a3,b3⟩,⟨a4,b4⟩,⟨a5,b5⟩,⟨a6,b6⟩,⟨a7,b7⟩,⟨a8,b8⟩,⟨a9,b9⟩,⟨aH,aI⟩,⟨aJ,aK⟩,⟨aG,aL⟩⟩:=Am g1;obtain⟨⟨x0,y0⟩,⟨x1,y1⟩,⟨x2,y2⟩,⟨x3,y3⟩⟩:=Av.cells (c:=⟨ph,aE,ti,la⟩) g0;simp only at x0 x1 x2 x3;obtain⟨⟨z0,z1⟩,⟨z2,z3⟩,⟨z4,z5⟩,⟨z6,z7⟩⟩:=Av.cells (c:=P31.Run.zero) g2;have aA:=Ab g0;have aB:=Ab g1;have Z:=Ab g2;have J:=Ab I;clear g0 g1 g2 I;go_upto_region 3 with fail
   have aC:=fun q=>Aa aQ (V2.drewN q);have aD:=Ab aC;clear aC;refine wp_region_quiet_lit (by kernel_rfl) (by kernel_rfl) ?_
   repeat (go_big_quiet_step (exact Calls.quiet_of_same (Aa aD _)))
   refine wpQuiet_nil ?_;rintro _ ⟨nq,rfl⟩;have g0:Av (V2.drewN nq) H ⟨ph,aE,ti,la⟩:=Aa aA;have g1:(V2.drewN nq).heap[H+1]?=_:=Aa aB;have g2:Av (V2.drewN nq) (H+1+1) P31.Run.zero:=Aa Z;have I:Below H w (V2.drewN nq):=(Aa J).trans (Ac (qU _ _));have hsz:(V2.drewN nq).heap.size=H+1+1+1:=hsz;obtain⟨V3,aN⟩:∃V,V2.drewN nq=V:=⟨_,rfl⟩;rw[aN]at g0 g1 g2 I hsz ⊢;clear aN aA aB Z J aD x0 y0 x1 y1 x2 y2 x3 y3 z0 z1 z2 z3 z4 z5 z6 z7 a0 b0 a1 b1 a2 b2 a3 b3 a4 b4 a5 b5 a6 b6 a7 b7 a8 b8 a9 b9 aH aI aJ aK aG aL;obtain⟨⟨a0,b0⟩,⟨a1,b1⟩,⟨a2,b2⟩,⟨a3,b3⟩,⟨a4,b4⟩,⟨a5,b5⟩,⟨a6,b6⟩,⟨a7,b7⟩,⟨a8,b8⟩,⟨a9,b9⟩,⟨aH,aI⟩,⟨aJ,aK⟩,⟨aG,aL⟩⟩:=Am g1;obtain⟨⟨x0,y0⟩,⟨x1,y1⟩,⟨x2,y2⟩,⟨x3,y3⟩⟩:=Av.cells (c:=⟨ph,aE,ti,la⟩) g0;simp only at x0 x1 x2 x3;obtain⟨⟨z0,z1⟩,⟨z2,z3⟩,⟨z4,z5⟩,⟨z6,z7⟩⟩:=Av.cells (c:=P31.Run.zero) g2;have aA:=Ab g0;have aB:=Ab g1;have Z:=Ab g2;have J:=Ab I;clear g0 g1 g2 I;go_wp2
   (try simp only[Exit.inBlock,Exit.then])
   obtain⟨h3,h4⟩:=Aa aU _ ⟨ph,aE,ti,la⟩ _ (Aa Z) (Aa J);exact qV (Aw rfl _ _ _ (H+1+1) _ rfl h3.load) rfl ⟨rfl,h4⟩
  ·have ha:=Aa aO;rw[if_neg aP,if_pos e1]at ha;subst ha;have m1:((ph:Int)==1)=true:=by rw[e1];rfl
   have m2:((ph:Int)==2)=false:=by rw[e1];rfl
   have d1:decide (ti≤NW)=true:=by simp;omega
   have d2:ti≤NW:=by omega
   clear aO e1 aP;go_enter Tryz.func137,Tryz.ntmps137
   go_upto_region 1 with fail
   try rw[hH]
   rw[Aa aX];have aC:=fun q=>Aa aQ (W1.drewN q);have aD:=Ab aC;clear aC;refine wp_region_quiet_lit (by kernel_rfl) (by kernel_rfl) ?_
   repeat (go_big_quiet_step (exact Calls.quiet_of_same (Aa aD _)))
   refine wpQuiet_nil ?_;rintro _ ⟨nq,rfl⟩;have g0:Av (W1.drewN nq) H ⟨ph,aE,ti,la⟩:=Aa aA;have g1:(W1.drewN nq).heap[H+1]?=_:=Aa aB;have g2:Av (W1.drewN nq) (H+1+1) P31.Run.zero:=Aa Z;have I:Below H w (W1.drewN nq):=(Aa J).trans (Ac (qU _ _));have hsz:(W1.drewN nq).heap.size=H+1+1+1:=aW;obtain⟨V2,aM⟩:∃V,W1.drewN nq=V:=⟨_,rfl⟩;rw[aM]at g0 g1 g2 I hsz ⊢;clear aM aA aB Z J aD x0 y0 x1 y1 x2 y2 x3 y3 z0 z1 z2 z3 z4 z5 z6 z7 a0 b0 a1 b1 a2 b2 a3 b3 a4 b4 a5 b5 a6 b6 a7 b7 a8 b8 a9 b9 aH aI aJ aK aG aL;obtain⟨⟨a0,b0⟩,⟨a1,b1⟩,⟨a2,b2⟩,⟨a3,b3⟩,⟨a4,b4⟩,⟨a5,b5⟩,⟨a6,b6⟩,⟨a7,b7⟩,⟨a8,b8⟩,⟨a9,b9⟩,⟨aH,aI⟩,⟨aJ,aK⟩,⟨aG,aL⟩⟩:=Am g1;obtain⟨⟨x0,y0⟩,⟨x1,y1⟩,⟨x2,y2⟩,⟨x3,y3⟩⟩:=Av.cells (c:=⟨ph,aE,ti,la⟩) g0;simp only at x0 x1 x2 x3;obtain⟨⟨z0,z1⟩,⟨z2,z3⟩,⟨z4,z5⟩,⟨z6,z7⟩⟩:=Av.cells (c:=P31.Run.zero) g2;have aA:=Ab g0;have aB:=Ab g1;have Z:=Ab g2;have J:=Ab I;clear g0 g1 g2 I;go_wp2_with (go_at_call 178;with_reducible refine(Aa bU _).mono ?_;rintro e w2 ⟨rfl,aT⟩;have g3:=Av.below (c:=P31.Run.zero) (Aa Z) aT;obtain⟨⟨z0,z1⟩,⟨z2,z3⟩,⟨z4,z5⟩,⟨z6,z7⟩⟩:=g3.cells;have bF:=Ab g3;have aY:=Ab ((Aa J).trans (aT.mono (by have:=(Aa J).size;omega)));clear g3 aT)
   (try simp only[Exit.inBlock,Exit.then])
   obtain⟨h3,h4⟩:=Aa aU _ ⟨np,na,nt,nl⟩ _ (Aa bF) (Aa aY);exact qV (Aw rfl _ _ _ (H+1+1) _ rfl h3.load) rfl ⟨rfl,h4⟩
 ·by_cases e2:ph=2
  ·by_cases aP:NW<ti
   ·have ha:=Aa aO;rw[if_pos aP]at ha;subst ha;have m1:((ph:Int)==1)=false:=by rw[e2];rfl
    have m2:((ph:Int)==2)=true:=by rw[e2];rfl
    have d1:decide (ti≤NW)=false:=by simp;omega
    have d2:¬ti≤NW:=by omega
    clear aO e1 e2 aP;go_enter Tryz.func137,Tryz.ntmps137
    go_upto_region 1 with fail
    try rw[hH]
    rw[Aa aX];have aC:=fun q=>Aa aQ (W1.drewN q);have aD:=Ab aC;clear aC;refine wp_region_quiet_lit (by kernel_rfl) (by kernel_rfl) ?_
    repeat (go_big_quiet_step (exact Calls.quiet_of_same (Aa aD _)))
    refine wpQuiet_nil ?_;rintro _ ⟨nq,rfl⟩;have g0:Av (W1.drewN nq) H ⟨ph,aE,ti,la⟩:=Aa aA;have g1:(W1.drewN nq).heap[H+1]?=_:=Aa aB;have g2:Av (W1.drewN nq) (H+1+1) P31.Run.zero:=Aa Z;have I:Below H w (W1.drewN nq):=(Aa J).trans (Ac (qU _ _));have hsz:(W1.drewN nq).heap.size=H+1+1+1:=aW;obtain⟨V2,aM⟩:∃V,W1.drewN nq=V:=⟨_,rfl⟩;rw[aM]at g0 g1 g2 I hsz ⊢;clear aM aA aB Z J aD x0 y0 x1 y1 x2 y2 x3 y3 z0 z1 z2 z3 z4 z5 z6 z7 a0 b0 a1 b1 a2 b2 a3 b3 a4 b4 a5 b5 a6 b6 a7 b7 a8 b8 a9 b9 aH aI aJ aK aG aL;obtain⟨⟨a0,b0⟩,⟨a1,b1⟩,⟨a2,b2⟩,⟨a3,b3⟩,⟨a4,b4⟩,⟨a5,b5⟩,⟨a6,b6⟩,⟨a7,b7⟩,⟨a8,b8⟩,⟨a9,b9⟩,⟨aH,aI⟩,⟨aJ,aK⟩,⟨aG,aL⟩⟩:=Am g1;obtain⟨⟨x0,y0⟩,⟨x1,y1⟩,⟨x2,y2⟩,⟨x3,y3⟩⟩:=Av.cells (c:=⟨ph,aE,ti,la⟩) g0;simp only at x0 x1 x2 x3;obtain⟨⟨z0,z1⟩,⟨z2,z3⟩,⟨z4,z5⟩,⟨z6,z7⟩⟩:=Av.cells (c:=P31.Run.zero) g2;have aA:=Ab g0;have aB:=Ab g1;have Z:=Ab g2;have J:=Ab I;clear g0 g1 g2 I;go_upto_region 3 with fail
    have aC:=fun q=>Aa aQ (V2.drewN q);have aD:=Ab aC;clear aC;refine wp_region_quiet_lit (by kernel_rfl) (by kernel_rfl) ?_
    repeat (go_big_quiet_step (exact Calls.quiet_of_same (Aa aD _)))
    refine wpQuiet_nil ?_;rintro _ ⟨nq,rfl⟩;have g0:Av (V2.drewN nq) H ⟨ph,aE,ti,la⟩:=Aa aA;have g1:(V2.drewN nq).heap[H+1]?=_:=Aa aB;have g2:Av (V2.drewN nq) (H+1+1) P31.Run.zero:=Aa Z;have I:Below H w (V2.drewN nq):=(Aa J).trans (Ac (qU _ _));have hsz:(V2.drewN nq).heap.size=H+1+1+1:=hsz;obtain⟨V3,aN⟩:∃V,V2.drewN nq=V:=⟨_,rfl⟩;rw[aN]at g0 g1 g2 I hsz ⊢;clear aN aA aB Z J aD x0 y0 x1 y1 x2 y2 x3 y3 z0 z1 z2 z3 z4 z5 z6 z7 a0 b0 a1 b1 a2 b2 a3 b3 a4 b4 a5 b5 a6 b6 a7 b7 a8 b8 a9 b9 aH aI aJ aK aG aL;obtain⟨⟨a0,b0⟩,⟨a1,b1⟩,⟨a2,b2⟩,⟨a3,b3⟩,⟨a4,b4⟩,⟨a5,b5⟩,⟨a6,b6⟩,⟨a7,b7⟩,⟨a8,b8⟩,⟨a9,b9⟩,⟨aH,aI⟩,⟨aJ,aK⟩,⟨aG,aL⟩⟩:=Am g1;obtain⟨⟨x0,y0⟩,⟨x1,y1⟩,⟨x2,y2⟩,⟨x3,y3⟩⟩:=Av.cells (c:=⟨ph,aE,ti,la⟩) g0;simp only at x0 x1 x2 x3;obtain⟨⟨z0,z1⟩,⟨z2,z3⟩,⟨z4,z5⟩,⟨z6,z7⟩⟩:=Av.cells (c:=P31.Run.zero) g2;have aA:=Ab g0;have aB:=Ab g1;have Z:=Ab g2;have J:=Ab I;clear g0 g1 g2 I;go_wp2
    (try simp only[Exit.inBlock,Exit.then])
    obtain⟨h3,h4⟩:=Aa aU _ ⟨ph,aE,ti,la⟩ _ (Aa Z) (Aa J);exact qV (Aw rfl _ _ _ (H+1+1) _ rfl h3.load) rfl ⟨rfl,h4⟩
   ·have ha:=Aa aO;rw[if_neg aP,if_neg e1,if_pos e2]at ha;subst ha;have m1:((ph:Int)==1)=false:=by rw[e2];rfl
    have m2:((ph:Int)==2)=true:=by rw[e2];rfl
    have d1:decide (ti≤NW)=true:=by simp;omega
    have d2:ti≤NW:=by omega
    clear aO e1 e2 aP;go_enter Tryz.func137,Tryz.ntmps137
    go_upto_region 1 with fail
    try rw[hH]
    rw[Aa aX];have aC:=fun q=>Aa aQ (W1.drewN q);have aD:=Ab aC;clear aC;refine wp_region_quiet_lit (by kernel_rfl) (by kernel_rfl) ?_
    repeat (go_big_quiet_step (exact Calls.quiet_of_same (Aa aD _)))
    refine wpQuiet_nil ?_;rintro _ ⟨nq,rfl⟩;have g0:Av (W1.drewN nq) H ⟨ph,aE,ti,la⟩:=Aa aA;have g1:(W1.drewN nq).heap[H+1]?=_:=Aa aB;have g2:Av (W1.drewN nq) (H+1+1) P31.Run.zero:=Aa Z;have I:Below H w (W1.drewN nq):=(Aa J).trans (Ac (qU _ _));have hsz:(W1.drewN nq).heap.size=H+1+1+1:=aW;obtain⟨V2,aM⟩:∃V,W1.drewN nq=V:=⟨_,rfl⟩;rw[aM]at g0 g1 g2 I hsz ⊢;clear aM aA aB Z J aD x0 y0 x1 y1 x2 y2 x3 y3 z0 z1 z2 z3 z4 z5 z6 z7 a0 b0 a1 b1 a2 b2 a3 b3 a4 b4 a5 b5 a6 b6 a7 b7 a8 b8 a9 b9 aH aI aJ aK aG aL;obtain⟨⟨a0,b0⟩,⟨a1,b1⟩,⟨a2,b2⟩,⟨a3,b3⟩,⟨a4,b4⟩,⟨a5,b5⟩,⟨a6,b6⟩,⟨a7,b7⟩,⟨a8,b8⟩,⟨a9,b9⟩,⟨aH,aI⟩,⟨aJ,aK⟩,⟨aG,aL⟩⟩:=Am g1;obtain⟨⟨x0,y0⟩,⟨x1,y1⟩,⟨x2,y2⟩,⟨x3,y3⟩⟩:=Av.cells (c:=⟨ph,aE,ti,la⟩) g0;simp only at x0 x1 x2 x3;obtain⟨⟨z0,z1⟩,⟨z2,z3⟩,⟨z4,z5⟩,⟨z6,z7⟩⟩:=Av.cells (c:=P31.Run.zero) g2;have aA:=Ab g0;have aB:=Ab g1;have Z:=Ab g2;have J:=Ab I;clear g0 g1 g2 I;go_upto_region 3 with fail
    have aC:=fun q=>Aa aQ (V2.drewN q);have aD:=Ab aC;clear aC;refine wp_region_quiet_lit (by kernel_rfl) (by kernel_rfl) ?_
    repeat (go_big_quiet_step (exact Calls.quiet_of_same (Aa aD _)))
    refine wpQuiet_nil ?_;rintro _ ⟨nq,rfl⟩;have g0:Av (V2.drewN nq) H ⟨ph,aE,ti,la⟩:=Aa aA;have g1:(V2.drewN nq).heap[H+1]?=_:=Aa aB;have g2:Av (V2.drewN nq) (H+1+1) P31.Run.zero:=Aa Z;have I:Below H w (V2.drewN nq):=(Aa J).trans (Ac (qU _ _));have hsz:(V2.drewN nq).heap.size=H+1+1+1:=hsz;obtain⟨V3,aN⟩:∃V,V2.drewN nq=V:=⟨_,rfl⟩;rw[aN]at g0 g1 g2 I hsz ⊢;clear aN aA aB Z J aD x0 y0 x1 y1 x2 y2 x3 y3 z0 z1 z2 z3 z4 z5 z6 z7 a0 b0 a1 b1 a2 b2 a3 b3 a4 b4 a5 b5 a6 b6 a7 b7 a8 b8 a9 b9 aH aI aJ aK aG aL;obtain⟨⟨a0,b0⟩,⟨a1,b1⟩,⟨a2,b2⟩,⟨a3,b3⟩,⟨a4,b4⟩,⟨a5,b5⟩,⟨a6,b6⟩,⟨a7,b7⟩,⟨a8,b8⟩,⟨a9,b9⟩,⟨aH,aI⟩,⟨aJ,aK⟩,⟨aG,aL⟩⟩:=Am g1;obtain⟨⟨x0,y0⟩,⟨x1,y1⟩,⟨x2,y2⟩,⟨x3,y3⟩⟩:=Av.cells (c:=⟨ph,aE,ti,la⟩) g0;simp only at x0 x1 x2 x3;obtain⟨⟨z0,z1⟩,⟨z2,z3⟩,⟨z4,z5⟩,⟨z6,z7⟩⟩:=Av.cells (c:=P31.Run.zero) g2;have aA:=Ab g0;have aB:=Ab g1;have Z:=Ab g2;have J:=Ab I;clear g0 g1 g2 I;go_wp2_with (go_at_call 182;with_reducible refine(Aa bQ _).mono ?_;rintro e w2 ⟨rfl,aT⟩;have g3:=Av.below (c:=P31.Run.zero) (Aa Z) aT;obtain⟨⟨z0,z1⟩,⟨z2,z3⟩,⟨z4,z5⟩,⟨z6,z7⟩⟩:=g3.cells;have bF:=Ab g3;have aY:=Ab ((Aa J).trans (aT.mono (by have:=(Aa J).size;omega)));clear g3 aT)
    (try simp only[Exit.inBlock,Exit.then])
    obtain⟨h3,h4⟩:=Aa aU _ ⟨fp,fa,ft,fl⟩ _ (Aa bF) (Aa aY);exact qV (Aw rfl _ _ _ (H+1+1) _ rfl h3.load) rfl ⟨rfl,h4⟩
  ·have ha:(⟨ph,aE,ti,la⟩,false)=AN:=by
    have ha:=Aa aO;rw[if_neg e1,if_neg e2]at ha;split at ha<;>exact ha
   subst ha;have m1:((ph:Int)==1)=false:=by simp;omega
   have m2:((ph:Int)==2)=false:=by simp;omega
   clear e1 e2 aO;go_enter Tryz.func137,Tryz.ntmps137
   go_upto_region 1 with fail
   try rw[hH]
   rw[Aa aX];have aC:=fun q=>Aa aQ (W1.drewN q);have aD:=Ab aC;clear aC;refine wp_region_quiet_lit (by kernel_rfl) (by kernel_rfl) ?_
   repeat (go_big_quiet_step (exact Calls.quiet_of_same (Aa aD _)))
   refine wpQuiet_nil ?_;rintro _ ⟨nq,rfl⟩;have g0:Av (W1.drewN nq) H ⟨ph,aE,ti,la⟩:=Aa aA;have g1:(W1.drewN nq).heap[H+1]?=_:=Aa aB;have g2:Av (W1.drewN nq) (H+1+1) P31.Run.zero:=Aa Z;have I:Below H w (W1.drewN nq):=(Aa J).trans (Ac (qU _ _));have hsz:(W1.drewN nq).heap.size=H+1+1+1:=aW;obtain⟨V2,aM⟩:∃V,W1.drewN nq=V:=⟨_,rfl⟩;rw[aM]at g0 g1 g2 I hsz ⊢;clear aM aA aB Z J aD x0 y0 x1 y1 x2 y2 x3 y3 z0 z1 z2 z3 z4 z5 z6 z7 a0 b0 a1 b1 a2 b2 a3 b3 a4 b4 a5 b5 a6 b6 a7 b7 a8 b8 a9 b9 aH aI aJ aK aG aL;obtain⟨⟨a0,b0⟩,⟨a1,b1⟩,⟨a2,b2⟩,⟨a3,b3⟩,⟨a4,b4⟩,⟨a5,b5⟩,⟨a6,b6⟩,⟨a7,b7⟩,⟨a8,b8⟩,⟨a9,b9⟩,⟨aH,aI⟩,⟨aJ,aK⟩,⟨aG,aL⟩⟩:=Am g1;obtain⟨⟨x0,y0⟩,⟨x1,y1⟩,⟨x2,y2⟩,⟨x3,y3⟩⟩:=Av.cells (c:=⟨ph,aE,ti,la⟩) g0;simp only at x0 x1 x2 x3;obtain⟨⟨z0,z1⟩,⟨z2,z3⟩,⟨z4,z5⟩,⟨z6,z7⟩⟩:=Av.cells (c:=P31.Run.zero) g2;have aA:=Ab g0;have aB:=Ab g1;have Z:=Ab g2;have J:=Ab I;clear g0 g1 g2 I;go_upto_region 3 with fail
   have aC:=fun q=>Aa aQ (V2.drewN q);have aD:=Ab aC;clear aC;refine wp_region_quiet_lit (by kernel_rfl) (by kernel_rfl) ?_
   repeat (go_big_quiet_step (exact Calls.quiet_of_same (Aa aD _)))
   refine wpQuiet_nil ?_;rintro _ ⟨nq,rfl⟩;have g0:Av (V2.drewN nq) H ⟨ph,aE,ti,la⟩:=Aa aA;have g1:(V2.drewN nq).heap[H+1]?=_:=Aa aB;have g2:Av (V2.drewN nq) (H+1+1) P31.Run.zero:=Aa Z;have I:Below H w (V2.drewN nq):=(Aa J).trans (Ac (qU _ _));have hsz:(V2.drewN nq).heap.size=H+1+1+1:=hsz;obtain⟨V3,aN⟩:∃V,V2.drewN nq=V:=⟨_,rfl⟩;rw[aN]at g0 g1 g2 I hsz ⊢;clear aN aA aB Z J aD x0 y0 x1 y1 x2 y2 x3 y3 z0 z1 z2 z3 z4 z5 z6 z7 a0 b0 a1 b1 a2 b2 a3 b3 a4 b4 a5 b5 a6 b6 a7 b7 a8 b8 a9 b9 aH aI aJ aK aG aL;obtain⟨⟨a0,b0⟩,⟨a1,b1⟩,⟨a2,b2⟩,⟨a3,b3⟩,⟨a4,b4⟩,⟨a5,b5⟩,⟨a6,b6⟩,⟨a7,b7⟩,⟨a8,b8⟩,⟨a9,b9⟩,⟨aH,aI⟩,⟨aJ,aK⟩,⟨aG,aL⟩⟩:=Am g1;obtain⟨⟨x0,y0⟩,⟨x1,y1⟩,⟨x2,y2⟩,⟨x3,y3⟩⟩:=Av.cells (c:=⟨ph,aE,ti,la⟩) g0;simp only at x0 x1 x2 x3;obtain⟨⟨z0,z1⟩,⟨z2,z3⟩,⟨z4,z5⟩,⟨z6,z7⟩⟩:=Av.cells (c:=P31.Run.zero) g2;have aA:=Ab g0;have aB:=Ab g1;have Z:=Ab g2;have J:=Ab I;clear g0 g1 g2 I;go_wp2
   (try simp only[Exit.inBlock,Exit.then])
   obtain⟨h3,h4⟩:=Aa aU _ ⟨ph,aE,ti,la⟩ _ (Aa Z) (Aa J);exact qV (Aw rfl _ _ _ (H+1+1) _ rfl h3.load) rfl ⟨rfl,h4⟩
theorem Uu(r:P31.Run)(w:World):Calls Tryz.prog 183 #[Au r] w fun e w'=>e=.returned (Au (P31.stop r))∧Below w.heap.size w w':=by
 obtain⟨H,hH⟩:=qeX w.heap.size;rw[hH];obtain⟨ph,I,J,la⟩:=r;have aE:P31.stop ⟨ph,I,J,la⟩=if ph=0∨ph=2 then ⟨4,I,0,true⟩ else if ph=1 then ⟨1,I,J,true⟩ else ⟨ph,I,J,la⟩:=rfl;rw[aE];obtain⟨W1,aG,aD,g0,g1,aI⟩:=Dt w (.cells #[.int .u8 (ph:Int),.int .i64 I,.int .i64 J,.bool la] 163) (.cells #[.int .u8 0,.int .i64 0,.int .i64 0,.bool false] 163) H hH;obtain⟨⟨x0,y0⟩,⟨x1,y1⟩,⟨x2,y2⟩,⟨x3,y3⟩⟩:=Av.cells (c:=⟨ph,I,J,la⟩) g0;simp only at x0 x1 x2 x3;obtain⟨⟨z0,z1⟩,⟨z2,z3⟩,⟨z4,z5⟩,⟨z6,z7⟩⟩:=Av.cells (c:=P31.Run.zero) g1;have aB:=Ab aG;have Z:=Ab aD;have aC:Hid (Av W1 (H+1) P31.Run.zero):=Ab g1;clear aG aD g0 g1 aE
 have fin:∀(V:World) (q:P31.Run) (c:P31.Run),Av V (H+1) c→Below H w V→Av ((((V.setCell ⟨H+1,0,none⟩ (.int .u8 (q.phase:Int))).setCell ⟨H+1,1,none⟩ (.int .i64 q.att)).setCell ⟨H+1,2,none⟩ (.int .i64 q.til)).setCell ⟨H+1,3,none⟩ (.bool q.last)) (H+1) q∧Below H w ((((V.setCell ⟨H+1,0,none⟩ (.int .u8 (q.phase:Int))).setCell ⟨H+1,1,none⟩ (.int .i64 q.att)).setCell ⟨H+1,2,none⟩ (.int .i64 q.til)).setCell ⟨H+1,3,none⟩ (.bool q.last)):=
  fun V q c h hb=>⟨h.out q,Below.set4 hb (by omega) _ _ _ _⟩
 have aA:=Ab fin;clear fin;have aH:(ph=0∨ph=2)∨ph=1∨(ph≠0∧ph≠1∧ph≠2):=by omega
 rcases aH with h0|h1|⟨n0,n1,n2⟩
 ·rw[if_pos h0];unfold Au;rcases h0 with e0|e2
  case' inl=>
   have m0:((ph:Int)==0)=true:=by rw[e0];rfl
   clear e0
  case' inr=>
   have m0:((ph:Int)==0)=false:=by rw[e2];rfl
   have m2:((ph:Int)==2)=true:=by rw[e2];rfl
   clear e2
  all_goals
   go_enter Tryz.func183,Tryz.ntmps183
   go_upto_region 1 with fail
   try rw[hH]
   rw[Aa aB];go_wp2
   (try simp only[Exit.inBlock,Exit.then])
   obtain⟨h3,h4⟩:=Aa aA _ ⟨4,I,0,true⟩ _ (Aa aC) (Aa Z);exact qV (Ah rfl _ _ _ (H+1) _ rfl h3.load) rfl ⟨rfl,h4⟩
 ·rw[if_neg (by omega),if_pos h1,show (⟨1,I,J,true⟩:P31.Run)=⟨ph,I,J,true⟩ by rw[h1]];have m0:((ph:Int)==0)=false:=by rw[h1];rfl
  have m2:((ph:Int)==2)=false:=by rw[h1];rfl
  have m1:((ph:Int)==1)=true:=by rw[h1];rfl
  clear h1;unfold Au;go_enter Tryz.func183,Tryz.ntmps183
  go_upto_region 1 with fail
  try rw[hH]
  rw[Aa aB];go_wp2
  (try simp only[Exit.inBlock,Exit.then])
  obtain⟨h3,h4⟩:=Aa aA (W1.setCell ⟨H,3,none⟩ (.bool true)) ⟨ph,I,J,true⟩ P31.Run.zero ((qC _ _ _ _ (by show H+1≠H;omega)).trans (Aa aC)) ((Aa Z).setCell (p:=⟨H,3,none⟩) (qJ H) _);exact qV (Ah rfl _ _ _ (H+1) _ rfl h3.load) rfl ⟨rfl,h4⟩
 ·rw[if_neg (by omega),if_neg n1];have m0:((ph:Int)==0)=false:=by simp;omega
  have m1:((ph:Int)==1)=false:=by simp;omega
  have m2:((ph:Int)==2)=false:=by simp;omega
  clear n0 n1 n2;unfold Au;go_enter Tryz.func183,Tryz.ntmps183
  go_upto_region 1 with fail
  try rw[hH]
  rw[Aa aB];go_wp2
  (try simp only[Exit.inBlock,Exit.then])
  obtain⟨h3,h4⟩:=Aa aA _ ⟨ph,I,J,la⟩ _ (Aa aC) (Aa Z);exact qV (Ah rfl _ _ _ (H+1) _ rfl h3.load) rfl ⟨rfl,h4⟩
end Go.Proofs.YtefokfbgpfcbkaaGreat
