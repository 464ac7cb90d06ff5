/- Lemmas of this claim. -/
import Derived.Test.YtnjokdbblmlhhaaGreatDoorG19aY
import Derived.Sort.CutIn
import Derived.Maps.OwnIn
import Derived.Test.YtnjokdbblmlhhaaGreatDoorWR19bY
set_option linter.unusedVariables false
set_option linter.unusedSimpArgs false
namespace Go.Proofs.YtnjokdbblmlhhaaGreatDoor
set_option maxHeartbeats 8000000
set_option maxRecDepth 100000
open Go.RowKit Go.Shelf
attribute [local go_sem] Oper.semAt_some
namespace P19
theorem next_left(v:Bool)(n col:Int)(s:List UInt8)(h:(next v n col s).2.2=0)(h2:(next v n col s).2.1.2.2≠[]) :
  (next v n col s).2.1.2.2.length<s.length∧(next v n col s).2.1.1=n∧col≤(next v n col s).2.1.2.1∧(next v n col s).2.1.2.1+(next v n col s).2.1.2.2.length≤col+s.length:=by
 unfold next at h h2 ⊢
 by_cases h3:(signB 45 s && !v)=true
 ·rw[if_pos h3]at h2 ⊢;have D:=skip_le (s.drop 1);rw[qQ]at D
  have G:1≤s.length:=by
   cases s with
   |nil=>cases h3
   |cons a r=>simp
  refine⟨?_,rfl,?_,?_⟩
  ·show (s.drop (1+skip (s.drop 1))).length<s.length;rw[qQ];omega
  ·show col≤col+((1+skip (s.drop 1):Nat):Int);omega
  ·show col+((1+skip (s.drop 1):Nat):Int)+((s.drop (1+skip (s.drop 1))).length:Int)≤col+s.length;rw[qQ];omega
 ·rw[if_neg h3]at h h2 ⊢;by_cases h4:s=[91,93]
  ·rw[if_pos h4]at h2;exact absurd rfl h2
  rw[if_neg h4]at h h2 ⊢;by_cases h5:s=[123,125]
  ·rw[if_pos h5]at h2;exact absurd rfl h2
  rw[if_neg h5]at h h2 ⊢;by_cases h6:(P18.cut s).2≠0
  ·rw[if_pos h6]at h;exact absurd (by simpa using h) h6
  rw[if_neg h6]at h h2 ⊢;split at h
  ·simp at h
  ·rename_i h7
   rw[if_neg h7]at h2 ⊢;split at h
   ·rename_i h8
    exact absurd h h8
   ·rename_i h8
    rw[if_neg h8]at h2 ⊢;by_cases h9:(signB 58 (s.drop (P18.cut s).1) && !v)=true
    ·rw[if_pos h9]at h2 ⊢;have D:=skip_le (s.drop ((P18.cut s).1+1));rw[qQ]at D
     have hl:(s.drop (P18.cut s).1).length≠0:=by
      intro e;rw[qU e]at h9;cases h9
     rw[qQ]at hl;obtain⟨q,hq⟩:∃q,(P18.cut s).1+1+skip (s.drop ((P18.cut s).1+1))=q:=⟨_,rfl⟩;rw[hq];refine⟨?_,rfl,?_,?_⟩
     ·show (s.drop q).length<s.length;rw[qQ];omega
     ·show col≤col+(q:Int);omega
     ·show col+(q:Int)+((s.drop q).length:Int)≤col+s.length;rw[qQ];omega
    ·rw[if_neg h9]at h2;exact absurd rfl h2
end P19
def T8(x:Tk × Int):Array Value:=#[Ug x.1,.int .i64 x.2]
theorem Qt(k:Nat):((k:Int)==4)=(k==4):=by
 by_cases h:k=4
 ·subst h;rfl
 ·rw[beq_eq_false_iff_ne.2 h,beq_eq_false_iff_ne];omega
theorem Lf(n:Nat)(N C:Int)(s:ByteArray)(b:Nat)(R T:Nat→Prop)(W:World)(hb:W.heap[b]?=some (.cells #[.int .i64 N,.int .i64 C,.string s] 107))
  (hR:∀r,R r→r<W.heap.size) (hs:s.size≤1100000) (bT:0≤C) (bX:C+s.size≤1000000000) (hn:8≤n) :
  Tb Fence.wide n Tryz.prog 139 #[.pointer (some ⟨b,0,none⟩)] T8 (P19.steps (s.size+1) false N C s.data.toList) R T W:=by
 intro l J Jx hJ bL hM hY M0 hT h0;have h1:1≤n:=by omega
 obtain⟨⟨x0,_⟩,⟨x1,_⟩,⟨x2,_⟩⟩:=Ay hb;obtain⟨L,hL⟩:∃L,P19.steps (s.size+1) false N C s.data.toList=L:=⟨_,rfl⟩;rw[hL]at hY ⊢;have HL:=Ab hL;have HM:=Ab hM;have HJ:=Ab hJ;have cH:=Ab bL;have bJ:=Ab hR;clear hL hM hT hJ bL hR;refine callsIn_of_wp Tryz.func139 rfl trivial ?_ rfl;simp only[Tryz.ntmps139,zD,qE,qP,Nat.reduceAdd,Nat.reduceSub,Array.replicate_succ,Array.replicate_zero,List.push_toArray,List.append_toArray,zK,zJ]
 gi_wp2
 gi_loopg [3,4] (s.size+1) (fun f s3 s4 wx=>∃(i:Nat) (M:Nat→Prop) (v:Bool) (col:Int) (x:ByteArray) (g:Nat),s3=.bool v∧s4=.pointer (some ⟨g,0,none⟩) ∧
  wx.heap[g]?=some (.cells #[.int .i64 N,.int .i64 col,.string x] 187)∧Hid (¬M g∧¬R g)∧x.size<f∧x.size≤1100000∧0≤col∧col+x.size≤1000000000∧W.heap.size≤wx.heap.size∧i≤L.length ∧
  Hid (L.drop i=P19.steps f v N col x.data.toList)∧Hid (J i M wx))
 case atStart=>
  refine⟨0,M0,false,C,s,W.heap.size,rfl,rfl,?_,Ab ⟨fun h=>?_,fun h=>?_⟩,by omega,hs,bT,bX,by simp,Nat.zero_le _,Ab (Aa HL).symm,Ab ((Aa HJ).alloc _ h0)⟩
  ·exact qB W _
  ·have:=(Aa HM 0 M0 W h0 _ h).1;omega
  ·have:=Aa bJ _ h;omega
 case round=>
  obtain⟨i,M,v,col,x,g,rfl,rfl,hg,HG,hf,hx,bM,cG,cC,cD,HD,aH⟩:=hrel;cases gk with
  |zero=>exact absurd hf (Nat.not_lt_zero _)
  |succ f=>
   obtain⟨⟨y0,_⟩,⟨y1,_⟩,⟨y2,_⟩⟩:=Ay hg;have bS:g<wr.heap.size:=(qA.1 hg).1;obtain⟨⟨T1,P1,E1⟩,hN⟩:∃r,P19.next v N col x.data.toList=r:=⟨_,rfl⟩
   have aO:=Rs v N col x wr hx bM (by omega);have X:=Aa HD;rw[P19.steps,hN]at X;simp only at X;rw[hN]at aO;have G:=P19.next_left v N col x.data.toList;rw[hN]at G;simp only at G;rw[←zP]at G
   have aN:L[i]?=some (T1,E1):=by
    have:=congrArg (fun z=>z[0]?) X;simpa using this
   have aB:i<L.length:=(qI.1 aN).1
   have bN:L.drop (i+1)=if E1≠0∨P1.2.2=[] then [] else P19.steps f (T1.1==4) P1.1 P1.2.1 P1.2.2:=by
    have:=congrArg (fun z=>z.drop 1) X;simpa[zI]using this
   have bI:=Ab aO;have bV:=Ab aN;have aK:=Ab bN;have bU:=Ab G;clear aO aN bN X hN G HD;obtain⟨k,t,tn,tc⟩:=T1;obtain⟨pn,pc,Q⟩:=P1;unfold Ug Vm C0 at bI
   gi_upto_region 3 with(refine⟨trivial,?_⟩;gi_at_call 140;refine(callsIn_wide.2 (Aa bI)).mono ?_;rintro e w1 ⟨rfl,aR⟩)
   obtain⟨H,hH⟩:∃H,w1.heap.size=H:=⟨_,rfl⟩;obtain⟨I,U⟩:∃I,(w1.alloc (.cells #[.int .u8 k,.string ⟨t.toArray⟩,.int .i64 tn,.int .i64 tc] 124)).alloc (.cells #[.int .i64 pn,.int .i64 pc,.string ⟨Q.toArray⟩] 187)=I:=⟨_,rfl⟩;have cA:=aR.size
   have aJ:I.heap[H]?=some (.cells #[.int .u8 k,.string ⟨t.toArray⟩,.int .i64 tn,.int .i64 tc] 124):=by
    rw[←U,←hH];exact(qD _ _ _ (by simp)).trans (qB w1 _)
   have aU:I.heap[H+1]?=some (.cells #[.int .i64 pn,.int .i64 pc,.string ⟨Q.toArray⟩] 187):=by
    rw[←U,←hH];exact Cy w1 _ _
   have aM:I.heap[g]?=some (.cells #[.int .i64 N,.int .i64 col,.string x] 187):=by
    rw[←U];exact(qD _ _ _ (by simp;omega)).trans ((qD _ _ _ (by omega)).trans ((aR.block g bS).trans hg))
   have aD:wr.grownBy I none:=by
    rw[←U];exact Cd (Cd (Aj aR none) (qR _ _ none)) (qR _ _ none)
   rw[U,hH];clear U x0 x1 x2 y0 y1 y2 hb hg;have bE:=(Aa HJ) i M wr I none (Aa aH) aD (fun r e=>by cases e);have cB:=aD.size;have bB:∀r,M r→r<wr.heap.size:=fun r hr=>(Aa HM i M wr (Aa aH) r hr).1;have bP:∀r,M r→¬R r:=fun r hr=>(Aa HM i M wr (Aa aH) r hr).2
   have bW:=(hY i _ M I (Aa bV) bE (by omega)).mono
    (R':=fun e W'=>∃bb,e=.returned (.bool bb)∧Hid (∃M',Au M I M' W'∧((bb=true∧J (i+1) M' W')∨(bb=false∧Jx (i+1) M' W')))) (by
     rintro e W' ⟨M',hk,(⟨rfl,h⟩|⟨rfl,h⟩)⟩
     ·exact⟨true,rfl,Ab ⟨M',hk,.inl ⟨rfl,h⟩⟩⟩
     ·exact⟨false,rfl,Ab ⟨M',hk,.inr ⟨rfl,h⟩⟩⟩)
   have bF:=Ab bB;have cE:=Ab bP;clear hY bE bB bP;obtain⟨fn,tmps,assign,body,hy,hR⟩:=bW;replace hy:(Instr.yield l #[.agg #[.int .u8 k,.string ⟨t.toArray⟩,.int .i64 tn,.int .i64 tc],.int .i64 E1]).run Tryz.prog I=.ok (.round l fn tmps assign body) I:=hy;obtain⟨⟨t0,_⟩,⟨t1,_⟩,⟨t2,_⟩,⟨t3,_⟩⟩:=A1 aJ
   gi_wp2
   refine hR.mono ?_;rintro e W3 ⟨bb,rfl,HB⟩;have bK:g<I.heap.size:=(qA.1 aM).1;have bG:H+1<I.heap.size:=(qA.1 aU).1
   have Y:∀r,¬M r→r<I.heap.size→W3.heap[r]?=I.heap[r]?:=by
    obtain⟨M',hk,_⟩:=Aa HB;exact hk.same
   have cF:I.heap.size≤W3.heap.size:=by
    obtain⟨M',hk,_⟩:=Aa HB;exact hk.size
   have aY:=(Y H (fun h=>by have:=Aa bF H h;omega) (by omega)).trans aJ;have aX:=(Y (H+1) (fun h=>by have:=Aa bF (H+1) h;omega) bG).trans aU;have bQ:=(Y g (Aa HG).1 bK).trans aM;obtain⟨⟨u0,_⟩,⟨u1,_⟩,⟨u2,_⟩,⟨u3,_⟩⟩:=A1 aY;obtain⟨⟨q0,_⟩,⟨q1,_⟩,⟨q2,_⟩⟩:=Ay aX;obtain⟨⟨g0,f0⟩,⟨g1,f1⟩,⟨g2,f2⟩⟩:=Ay bQ;clear Y t0 t1 t2 t3 hy hR aJ aU aM aY aX;cases bb
   ·gi_wp2
    refine qW (results_none rfl _ _ _) rfl ?_;obtain⟨M',hk,(⟨h,_⟩|⟨_,h⟩)⟩:=Aa HB
    ·cases h
    ·exact⟨⟨_,rfl⟩,M',.inr ⟨i+1,aB,h⟩⟩
   ·have bC:∃M',Au M I M' W3∧J (i+1) M' W3:=by
     obtain⟨M',hk,(⟨_,h⟩|⟨h,_⟩)⟩:=Aa HB
     ·exact⟨M',hk,h⟩
     ·cases h
    have aS:=Ab bC;clear bC HB;by_cases D:E1≠0∨Q=[]
    ·have Z:L.length=i+1:=by
      have h1:=Aa aK;rw[if_pos D,List.drop_eq_nil_iff]at h1;omega
     have aC:=Ab Z
     have aT:(E1 != 0)=true∨((E1 != 0)=false∧Q=[]):=by
      by_cases hE:E1=0
      ·right;exact⟨by simpa using hE,D.resolve_left (fun h=>h hE)⟩
      ·left;simpa using hE
     clear D Z;rcases aT with hE|⟨hE,bZ⟩
     ·gi_wp2
      refine qW (results_none rfl _ _ _) rfl ?_;obtain⟨M',_,h⟩:=Aa aS;exact⟨⟨_,rfl⟩,M',.inl (by rw[Aa aC];exact h)⟩
     ·subst bZ
      gi_wp2
      refine qW (results_none rfl _ _ _) rfl ?_;obtain⟨M',_,h⟩:=Aa aS;exact⟨⟨_,rfl⟩,M',.inl (by rw[Aa aC];exact h)⟩
    ·have hE:(E1 != 0)=false:=by simpa using fun h=>D (.inl h)
     have aI:Q≠[]:=fun h=>D (.inr h);have aQ:=Aa aK;rw[if_neg D]at aQ;obtain⟨l1,l2,l3,l4⟩:=Aa bU (by simpa using hE) aI;subst l2
     have hne:Q.isEmpty=false:=by
      cases Q with
      |nil=>exact absurd rfl aI
      |cons a r=>rfl
     have bD:=Ab aQ;have aL:=Ab (show (⟨Q.toArray⟩:ByteArray).size=Q.length from by rw[zP]);clear D aI aQ aK;obtain⟨M',aZ,hj⟩:=Aa aS;have aG:¬M' g:=fun h=>(aZ.more g h).elim (Aa HG).1 (by omega)
     have aA:¬M' W3.heap.size∧¬R W3.heap.size:=by
      have h1:=Aa HJ;refine⟨fun h=>?_,fun h=>by have:=Aa bJ _ h;omega⟩;have:=(Aa HM (i+1) M' W3 hj _ h).1;omega
     have bA:=(Aa HJ).alloc (.cells #[.int .i64 pn,.int .i64 pc,.string ⟨Q.toArray⟩] 187) ((Aa HJ) _ _ _ _ (some g) ((Aa HJ) _ _ _ _ (some g) ((Aa HJ) _ _ _ _ (some g) hj (Ap W3 g 0 (.int .i64 pn)) (fun r e=>by cases e;exact⟨aG,(Aa HG).2⟩)) (Ap _ g 1 (.int .i64 pc)) (fun r e=>by cases e;exact⟨aG,(Aa HG).2⟩)) (Ap _ g 2 (.string ⟨Q.toArray⟩)) (fun r e=>by cases e;exact⟨aG,(Aa HG).2⟩));have bO:=Qt k;have bR:=Ab bA;have bH:=Ab aA;clear bA aA hj aZ;have aE:(((W3.setCell ⟨g,0,none⟩ (.int .i64 pn)).setCell ⟨g,1,none⟩ (.int .i64 pc)).setCell ⟨g,2,none⟩ (.string ⟨Q.toArray⟩)).heap.size=W3.heap.size:=by simp
     have S:=qB (((W3.setCell ⟨g,0,none⟩ (.int .i64 pn)).setCell ⟨g,1,none⟩ (.int .i64 pc)).setCell ⟨g,2,none⟩ (.string ⟨Q.toArray⟩)) (.cells #[.int .i64 pn,.int .i64 pc,.string ⟨Q.toArray⟩] 187);rw[aE]at S;have aW:=Ab S;have bY:=Ab bO;clear S bO aE
     gi_wp2
     gi_roundg f
     case measure=>omega
     case rel=>
      refine⟨i+1,M',k==4,pc,⟨Q.toArray⟩,W3.heap.size,by rw[Aa bY],rfl,Aa aW,bH,by rw[Aa aL];omega,by rw[Aa aL];omega,by omega,by rw[Aa aL];omega,by simp;omega,aB,bD,bR⟩
end Go.Proofs.YtnjokdbblmlhhaaGreatDoor
namespace Go.Proofs.YtnjokdbblmlhhaaGreatDoor
set_option maxHeartbeats 8000000
set_option maxRecDepth 100000
open Go.RowKit
theorem Ri(n col:Int)(s:ByteArray)(w:World) :
  Calls Tryz.prog 102 #[.agg #[.int .i64 n,.int .i64 col,.string s]] w fun e w'=>e=.returned (.func (.func 139) #[] #[.pointer (some ⟨w.heap.size,0,none⟩)])∧w'=w.alloc (.cells #[.int .i64 n,.int .i64 col,.string s] 107):=by
 go_enter Tryz.func102,Tryz.ntmps102
 go_wp2;go_ret;exact⟨rfl,rfl⟩
end Go.Proofs.YtnjokdbblmlhhaaGreatDoor
namespace Go.Proofs.YtnjokdbblmlhhaaGreatDoor
set_option maxHeartbeats 8000000
set_option maxRecDepth 100000
open Go.RowKit
def Gd(W:World)(B:Nat)(v:Value)(zs:List Int):Prop:=W.ownsRow B 3 1 v zs.length (zs.map (Value.int .i64))
theorem S7:(Tryz.prog.info? 3).map (fun i=>(i.zero,i.size,i.bytes))=some (some (.int .i64 0),1,8):=by kernel_rfl
theorem Gd.drop_last{W:World}{B:Nat}{zs:List Int}{z:Int}{g n cap:Nat}(h:Gd W B (.slice (some ⟨g,0,none⟩) n cap) (zs++[z])):Gd W B (.slice (some ⟨g,0,none⟩) zs.length cap) zs:=by
 unfold Gd at h ⊢;rcases h.2 with⟨h1,_⟩|⟨g2,I,G,h1,h2,h3,h4,h5,h6,h7⟩
 ·cases h1
 ·injection h1 with D N J;injection D with D;injection D with D;subst D;subst J;rw[qH,qT]at h4 h7;refine⟨by simp,.inr ⟨g,cap,G,rfl,h2,h3,by omega,h5,h6,?_⟩⟩;have:=congrArg (List.take zs.length) h7;rw[List.take_take,show min zs.length ((zs.length+1)*1)=zs.length from by omega]at this;have e:List.take zs.length (List.map (Value.int .i64) (zs++[z]))=zs.map (Value.int .i64):=by simp
  rw[Nat.mul_one,this,e]
structure A7 (W:World) (B b:Nat) (v r:Value) (out:List Tk) (st:List Int):Prop where
 lies:W.heap[b]?=some (.cells #[v,r] 105)
 toks:Fc W B v out
 row:Gd W B r st.reverse
def Mn(b:Nat)(v r:Value)(x:Nat):Prop:=x=b∨v.ownBlock=some x∨r.ownBlock=some x
theorem Dj(M:Nat→Prop)(W:World)(o:Obj):Au M W M (W.alloc o):=.grown (qR W o none) (fun r e=>by cases e)
theorem Bi(M:Nat→Prop)(W:World)(n:Nat):Au M W M (W.drewN n):=⟨qJ _,fun _ _ _=>rfl,fun _ h=>.inl h⟩
theorem Qi(b i:Nat)(v r r' u:Value)(W:World)(h:r'.ownBlock=r.ownBlock):Au (Mn b v r) W (Mn b v r') (W.setCell ⟨b,i,none⟩ u):=by
 have hk:=Au.grown (M:=Mn b v r) (Ap W b i u) (fun k e=>by cases e;exact .inl (.inl rfl));refine⟨hk.size,hk.same,fun x hx=>.inl ?_⟩;unfold Mn at hx ⊢
 rwa [h]at hx
theorem Fw{b:Nat}{v v' r u:Value}{W W1:World}(G:W.grownBy W1 v.ownBlock)(D:v'.ownBlock=v.ownBlock∨v'.ownBlock=some W.heap.size):Au (Mn b v r) W (Mn b v' r) (W1.setCell ⟨b,0,none⟩ u):=by
 have hk:=(Au.grown (M:=Mn b v r) G (fun k e=>.inl (.inr (.inl e)))).trans (Au.grown (M:=Mn b v r) (Ap W1 b 0 u) (fun k e=>by cases e;exact .inl (.inl rfl)));refine⟨hk.size,hk.same,fun x hx=>?_⟩;rcases hx with h|h|h
 ·exact .inl (.inl h)
 ·rcases D with h2|h2
  ·exact .inl (.inr (.inl (h2.symm.trans h)))
  ·rw[h]at h2;injection h2 with h2;exact .inr (by omega)
 ·exact .inl (.inr (.inr h))
theorem Mu{b:Nat}{v r r' u:Value}{W W1:World}(G:W.grownBy W1 r.ownBlock)(D:r'.ownBlock=r.ownBlock∨r'.ownBlock=some W.heap.size):Au (Mn b v r) W (Mn b v r') (W1.setCell ⟨b,1,none⟩ u):=by
 have hk:=(Au.grown (M:=Mn b v r) G (fun k e=>.inl (.inr (.inr e)))).trans (Au.grown (M:=Mn b v r) (Ap W1 b 1 u) (fun k e=>by cases e;exact .inl (.inl rfl)));refine⟨hk.size,hk.same,fun x hx=>?_⟩;rcases hx with h|h|h
 ·exact .inl (.inl h)
 ·exact .inl (.inr (.inl h))
 ·rcases D with h2|h2
  ·exact .inl (.inr (.inr (h2.symm.trans h)))
  ·rw[h]at h2;injection h2 with h2;exact .inr (by omega)
theorem Jn{w:World}{B:Nat}{v:Value}{ts:List Tk}{t:Tk}{J:Array Oper}{rest:List Oper}{o:Oper}{a:Act}{Q:Exit→Act→World→Prop}(N:o.guard=none)(s x:Operand)
  (ho:o.op=.call { callee:=.builtin .append,args:=#[s,x],argTypes:=#[55,55] })
  (hs:a.eval s=v) (I:Fc w B v ts) (g cap:Nat) (hx:a.eval x=.slice (some ⟨g,0,none⟩) 1 cap) (G:∀j u,(Df t)[j]?=some u→w.cell? ((⟨g,0,none⟩:Addr).add j)=some u)
  (X:ts.length+1≤1000000000) (hB:B≤w.heap.size)
  (h:∀g' D w',Fc w' B (.slice (some ⟨g',0,none⟩) (ts.length+1) D) (ts++[t])→w.grownBy w' v.ownBlock→(some g'=v.ownBlock∨some g'=some w.heap.size)→wpList Tryz.prog J Q rest (a.put o.dst (.slice (some ⟨g',0,none⟩) (ts.length+1) D)) w') :
  wpList Tryz.prog J Q (o::rest) a w:=by
 obtain⟨i,hi,hz,R,U⟩:=info_parts Lk
 refine wpList_append_lies (P:=Tryz.prog) w N s x 55 ho B 124 i (.agg #[.int .u8 0,.string ⟨#[]⟩,.int .i64 0,.int .i64 0]) 4 40 Tryz.underlying55 hi hz R U rfl (by decide) v ts.length (A5 ts) hs I
  ⟨g,0,none⟩ 1 cap (Df t) hx rfl G (by intro u hu;exact Rr [t] u (by simpa[A5]using hu)) (by decide) (by unfold maxLen;omega) (by omega) hB _ rfl ?_
 intro g' D w' h2 h3 S _;refine h g' D w' ?_ h3 (S.imp Eq.symm (fun e=>by rw[e]));unfold Fc;rw[qH,Ec];have e:A5 [t]=Df t:=by simp[A5]
 rw[e];exact h2
theorem I8{W:World}{B size n:Nat}{e:TypeId}{v:Value}{xs:List Value}(h:W.ownsRow B e size v n xs){g:Nat}(D:v.ownBlock=some g):∃cs,W.heap[g]?=some (.cells cs e (0,0)):=by
 rcases h.2 with⟨h1,_⟩|⟨g2,I,G,h1,h2,h3,_⟩
 ·subst h1;cases D
 ·subst h1;injection D with D;subst D;exact⟨G,h3⟩
theorem Ef{W:World}{B size n b:Nat}{e t:TypeId}{v:Value}{xs:List Value}{cs:Array Value}(h:W.ownsRow B e size v n xs)(hb:W.heap[b]?=some (.cells cs t))(hte:t≠e):v.ownBlock≠some b:=by
 intro G;obtain⟨D,h2⟩:=I8 h G;rw[hb]at h2;injection h2 with h2;injection h2 with _ h2;exact hte h2
theorem J4{W:World}{B B' size D n n':Nat}{e t:TypeId}{v v':Value}{xs G:List Value}(h:W.ownsRow B e size v n xs)(I:W.ownsRow B' t D v' n' G)(hte:t≠e):v.ownBlock=none∨v.ownBlock≠v'.ownBlock:=by
 cases hv:v.ownBlock with
 |none=>exact .inl rfl
 |some g=>
  refine .inr fun e=>?_;obtain⟨cs,h2⟩:=I8 I e.symm;exact Ef h h2 hte hv
theorem Cj{W W':World}{B size n:Nat}{e:TypeId}{v:Value}{xs:List Value}{row:Option Nat}(h:W.ownsRow B e size v n xs)(D:W.grownBy W' row)(hne:v.ownBlock=none∨v.ownBlock≠row):W'.ownsRow B e size v n xs:=World.ownsRow.kept h D hne
theorem A7.alloc{W:World}{B b:Nat}{v r:Value}{out:List Tk}{st:List Int}(h:A7 W B b v r out st)(o:Obj):A7 (W.alloc o) B b v r out st:=
 ⟨(qD _ _ _ (qA.1 h.lies).1).trans h.lies,World.ownsRow.alloc h.toks o,World.ownsRow.alloc h.row o⟩
theorem A7.drewN{W:World}{B b:Nat}{v r:Value}{out:List Tk}{st:List Int}(h:A7 W B b v r out st)(n:Nat):A7 (W.drewN n) B b v r out st:=⟨h.lies,h.toks,h.row⟩
theorem A7.drew{W:World}{B b:Nat}{v r:Value}{out:List Tk}{st:List Int}(h:A7 W B b v r out st):A7 W.drew B b v r out st:=⟨h.lies,h.toks,h.row⟩
theorem A7.set1{W:World}{B b:Nat}{v r r':Value}{out:List Tk}{st st':List Int}(h:A7 W B b v r out st)(hr:Gd W B r' st'.reverse):A7 (W.setCell ⟨b,1,none⟩ r') B b v r' out st':=by
 have D:=Ap W b 1 r';refine⟨by simp[World.setCell,Array.getElem?_modify,h.lies],Cj h.toks D (.inr (Ef h.toks h.lies (by decide))),Cj hr D (.inr (Ef hr h.lies (by decide)))⟩
theorem A7.far0{W W1:World}{B b:Nat}{v r:Value}{out:List Tk}{st:List Int}(h:A7 W B b v r out st)(D:W.grownBy W1 v.ownBlock):W1.heap[b]?=some (.cells #[v,r] 105)∧Gd W1 B r st.reverse:=
 ⟨(D.block b (qA.1 h.lies).1 (fun e=>Ef h.toks h.lies (by decide) e.symm)).trans h.lies,Cj h.row D (J4 h.row h.toks (by decide))⟩
theorem A7.far1{W W1:World}{B b:Nat}{v r:Value}{out:List Tk}{st:List Int}(h:A7 W B b v r out st)(D:W.grownBy W1 r.ownBlock):W1.heap[b]?=some (.cells #[v,r] 105)∧Fc W1 B v out:=
 ⟨(D.block b (qA.1 h.lies).1 (fun e=>Ef h.row h.lies (by decide) e.symm)).trans h.lies,Cj h.toks D (J4 h.toks h.row (by decide))⟩
theorem A7.push0{W W1:World}{B b:Nat}{v r v':Value}{out D:List Tk}{st:List Int}(h:A7 W B b v r out st)(G:W.grownBy W1 v.ownBlock)(ho:Fc W1 B v' D):A7 (W1.setCell ⟨b,0,none⟩ v') B b v' r D st:=by
 obtain⟨h1,h2⟩:=h.far0 G;have hs:=Ap W1 b 0 v';exact⟨by simp[World.setCell,Array.getElem?_modify,h1],Cj ho hs (.inr (Ef ho h1 (by decide))),Cj h2 hs (.inr (Ef h2 h1 (by decide)))⟩
theorem A7.push1{W W1:World}{B b:Nat}{v r r':Value}{out:List Tk}{st st':List Int}(h:A7 W B b v r out st)(D:W.grownBy W1 r.ownBlock)(ho:Gd W1 B r' st'.reverse):A7 (W1.setCell ⟨b,1,none⟩ r') B b v r' out st':=by
 obtain⟨h1,h2⟩:=h.far1 D;have hs:=Ap W1 b 1 r';exact⟨by simp[World.setCell,Array.getElem?_modify,h1],Cj h2 hs (.inr (Ef h2 h1 (by decide))),Cj ho hs (.inr (Ef ho h1 (by decide)))⟩
theorem A7.below0{w W W1:World}{B b:Nat}{v r:Value}{out:List Tk}{st:List Int}(h:A7 W B b v r out st)(hB:B≤b)(hb:Below B w W)(D:W.grownBy W1 v.ownBlock)(v':Value):Below B w (W1.setCell ⟨b,0,none⟩ v'):=by
 have hl:=(qA.1 h.lies).1;have h1:=hb.grown D (by omega) (fun k e=>(World.ownsRow.lt h.toks k e).1);exact h1.grown (Ap W1 b 0 v') (by have:=D.size;omega) (fun k e=>by cases e;exact hB)
theorem A7.below1{w W W1:World}{B b:Nat}{v r:Value}{out:List Tk}{st:List Int}(h:A7 W B b v r out st)(hB:B≤b)(hb:Below B w W)(D:W.grownBy W1 r.ownBlock)(v':Value):Below B w (W1.setCell ⟨b,1,none⟩ v'):=by
 have hl:=(qA.1 h.lies).1;have h1:=hb.grown D (by omega) (fun k e=>(World.ownsRow.lt h.row k e).1);exact h1.grown (Ap W1 b 1 v') (by have:=D.size;omega) (fun k e=>by cases e;exact hB)
theorem Gd.form{W:World}{B:Nat}{v:Value}{zs:List Int}(h:Gd W B v zs)(hn:zs≠[]):∃g cap,v=.slice (some ⟨g,0,none⟩) zs.length cap∧B≤g∧g<W.heap.size:=
 World.ownsRow.form h (zM.2 hn)
theorem Gd.cell{W:World}{B g n cap:Nat}{zs:List Int}(h:Gd W B (.slice (some ⟨g,0,none⟩) n cap) zs)(hn:n=zs.length){j:Nat}{z:Int}(hj:zs[j]?=some z):W.cell? ⟨g,j,none⟩=some (.int .i64 z):=by
 subst hn;have h1:=World.ownsRow.cellAt h j (by have:=(qI.1 hj).1;omega);rw[h1,zF,hj];rfl
theorem Ln{W:World}{B g n cap size:Nat}{e:TypeId}{xs:List Value}(h:W.ownsRow B e size (.slice (some ⟨g,0,none⟩) n cap) n xs):n≤cap∧cap≤9223372036854775807:=by
 rcases h.2 with⟨h1,_⟩|⟨g2,D,G,h1,h2,h3,h4,h5,h6,h7⟩
 ·cases h1
 ·injection h1 with J N I;subst I;exact⟨h4,by unfold maxLen at h5;omega⟩
theorem Cb{W:World}{g:Nat}{t:TypeId}{a b:Value}(h:W.heap[g]?=some (.cells #[a,b] t)) :
  (W.cell? ⟨g,0,none⟩=some a∧W.frozen? ⟨g,0,none⟩=false)∧(W.cell? ⟨g,1,none⟩=some b∧W.frozen? ⟨g,1,none⟩=false):=by
 simp[World.cell?,World.frozen?,h]
theorem Dr(B b:Nat)(v r:Value)(out:List Tk)(x:Int)(st:List Int)(w:World)(h:A7 w B b v r out (x::st))(hl:st.length≤1000) :
  Calls Tryz.prog 103 #[.pointer (some ⟨b,0,none⟩)] w fun e w'=>e=.returned (.int .i64 x)∧∃n,w'=w.drewN n:=by
 obtain⟨hb,ho,hr⟩:=h;obtain⟨g,cap,rfl,J,I⟩:=hr.form (by simp);have D:(x::st).reverse.length=st.length+1:=by simp
 rw[D]at hb hr;have hc:=hr.cell (by simp) (j:=st.length) (z:=x) (by simp);obtain⟨⟨N,_⟩,⟨c1,_⟩⟩:=Cb hb;obtain⟨m,G⟩:∃m,st.length=m:=⟨_,rfl⟩;rw[G]at hc c1 hl;clear hb ho hr D G;go_enter Tryz.func103,Tryz.ntmps103
 go_wp2;go_quiet (fail)
 go_wp2_with fail
 go_ret;exact⟨rfl,_,rfl⟩
theorem B2{B:Nat}{a w:World}(h:Below B a w)(n:Nat):Below B a (w.drewN n):=⟨h.os,h.tape,h.output,h.size,h.block⟩
theorem Cv{B:Nat}{a w:World}(h:Below B a w)(hB:B≤w.heap.size)(o:Obj):Below B a (w.alloc o):=h.grown (qR w o none) hB (fun k e=>by cases e)
theorem Fe(W:World)(a b c d:Value)(t:TypeId):∀j u,[a,b,c,d][j]?=some u→(W.alloc (.cells #[a,b,c,d] t)).cell? ((⟨W.heap.size,0,none⟩:Addr).add j)=some u:=by
 obtain⟨⟨k0,_⟩,⟨D,_⟩,⟨G,_⟩,⟨I,_⟩⟩:=A1 (qB W (.cells #[a,b,c,d] t));intro j u h
 match j,h with
 |0,h=>simp at h;subst h;exact k0
 |1,h=>simp at h;subst h;exact D
 |2,h=>simp at h;subst h;exact G
 |3,h=>simp at h;subst h;exact I
theorem Kf(B b:Nat)(v0 r0:Value)(out:List Tk)(st:List Int)(n col tc:Int)(w:World)(h:A7 w B b v0 r0 out st)(hB:B≤b)(hl:st.length≤1000)(ho:out.length≤101000000)(hr:P19.Row st)(hc:0≤col) :
  Calls Tryz.prog 66 #[.pointer (some ⟨b,0,none⟩),.int .i64 n,.int .i64 col,.int .i64 tc] w fun e w'=>(∃v,e=.returned v) ∧
   (∃v' r',A7 w' B b v' r' (out++(P19.close n col tc st).1) (P19.close n col tc st).2∧Au (Mn b v0 r0) w (Mn b v' r') w')∧Below B w w':=by
 have bA:Tryz.prog.follows .mixedOrders=true:=by kernel_rfl
 go_enter Tryz.func66,Tryz.ntmps66
 go_wp2
 go_loopg [] st.length (fun g wx=>∃(o2:List Tk) (s2:List Int),Hid (s2.length=g)∧P19.Row s2∧(∃v2 r2,A7 wx B b v2 r2 o2 s2∧Hid (Au (Mn b v0 r0) w (Mn b v2 r2) wx))∧s2.length≤1000∧o2.length+s2.length≤101001000 ∧
  Hid (out++(P19.close n col tc st).1=o2++(P19.close n col tc s2).1)∧Hid ((P19.close n col tc st).2=(P19.close n col tc s2).2)∧Below B w wx)
 case atStart=>exact⟨out,st,rfl,hr,⟨v0,r0,h,Ab (Au.refl _ _)⟩,hl,by omega,Ab rfl,Ab rfl,⟨rfl,rfl,rfl,qJ _,fun _ _=>rfl⟩⟩
 case round=>
  obtain⟨o2,s2,hg,U,⟨v,r,hN,aH⟩,aN,aM,H1,H2,X⟩:=hrel;cases s2 with
  |nil=>exact absurd rfl (P19.row_ne U)
  |cons x s3=>
   simp only[qE]at aN aM;by_cases hx:col<x
   ·have e1:=Aa H1;have e2:=Aa H2;rw[P19.close,if_pos hx]at e1 e2;have E1:=Ab e1;have E2:=Ab e2;clear e1 e2 H1 H2;have aC:=P19.row_pop U (by omega);go_wp2_with (go_at_call 103;refine(Dr B b v r o2 x s3 wr hN (by omega)).mono ?_;rintro e w' ⟨rfl,nd,hw⟩;have R:A7 w' B b v r o2 (x::s3):=(by rw[hw];exact hN.drewN nd);have aA:Hid (Au (Mn b v0 r0) w (Mn b v r) w'):=Ab (by rw[hw];exact(Aa aH).trans (Bi _ _ _));have I:Below B w w':=(by rw[hw];exact B2 X nd);clear hw)
    obtain⟨gr,cap,rfl,aT,aS⟩:=R.row.form (by simp);rw[List.length_reverse,qE]at R;have G:=R.row;rw[List.reverse_cons]at G;have aD:=G.drop_last;rw[List.length_reverse]at aD;obtain⟨⟨c0,f0⟩,⟨c1,f1⟩⟩:=Cb R.lies;obtain⟨aI,aX⟩:=Ln (show w'.ownsRow B 3 1 (.slice (some ⟨gr,0,none⟩) (s3.length+1) cap) (s3.length+1) _ from by have:=G;unfold Gd at this;rw[qH,List.length_reverse,qT]at this;exact this);have aQ:(s3.length:Int)+1≤(cap:Int):=by omega
    have aU:(cap:Int)≤9223372036854775807:=by omega
    have aR:(s3.length:Int)≤(cap:Int):=by omega
    have aW:s3.length≤cap:=by omega
    have bB:IntKind.i64.wrap ((s3.length:Int)+1-1)=(s3.length:Int):=by rw[Int.add_sub_cancel];exact qG _ (by omega)
    have aY:b<w'.heap.size:=(qA.1 R.lies).1;have aG:=R.set1 (r':=.slice (some ⟨gr,0,none⟩) s3.length cap) aD;have S:=Ab ((aG.alloc (.cells #[.int .u8 2,.string ⟨#[]⟩,.int .i64 n,.int .i64 tc] 124)).drew);have aE:=Fe (w'.setCell ⟨b,1,none⟩ (.slice (some ⟨gr,0,none⟩) s3.length cap)) (.int .u8 2) (.string ⟨#[]⟩) (.int .i64 n) (.int .i64 tc) 124;rw[show (w'.setCell ⟨b,1,none⟩ (.slice (some ⟨gr,0,none⟩) s3.length cap)).heap.size=w'.heap.size from by simp]at aE;have aJ:=Ab aE;clear aG aE G aD aI R;go_region
    go_wp2_with (at_builtin;refine Jn (t:=(2,[],n,tc)) rfl (.tmp 30) (.tmp 34) rfl rfl (Aa S).toks w'.heap.size 1 rfl (Aa aJ) (by omega) (by simp;omega) ?_;intro g1 J w1 Z D aL;obtain⟨aO,aZ⟩:=(Aa S).far0 D;obtain⟨⟨d0,k0⟩,⟨d1,k1⟩⟩:=Cb aO)
    have aK:Below B w ((w'.setCell ⟨b,1,none⟩ (.slice (some ⟨gr,0,none⟩) s3.length cap)).alloc (.cells #[.int .u8 2,.string ⟨#[]⟩,.int .i64 n,.int .i64 tc] 124)).drew:=
     B2 (Cv (I.grown (Ap w' b 1 _) (by omega) (fun k e=>by cases e;exact hB)) (by simp;omega) _) 1
    have N:Fc w1 B (.slice (some ⟨g1,0,none⟩) (o2.length+1) J) (o2++[(2,[],n,tc)]):=Z;have aB:=(Aa S).push0 D N;have Y:=(((Aa aA).trans (Qi b 1 v _ (.slice (some ⟨gr,0,none⟩) s3.length cap) (.slice (some ⟨gr,0,none⟩) s3.length cap) w' rfl)).trans ((Dj _ _ (.cells #[.int .u8 2,.string ⟨#[]⟩,.int .i64 n,.int .i64 tc] 124)).trans (Bi _ _ 1))).trans (Fw (v':=.slice (some ⟨g1,0,none⟩) (o2.length+1) J) (u:=.slice (some ⟨g1,0,none⟩) (o2.length+1) J) D aL);have Q:=(Aa S).below0 hB aK D (.slice (some ⟨g1,0,none⟩) (o2.length+1) J);go_roundg (gk-1)
    case measure=>have:=Aa hg;simp at this;omega
    case rel=>
     refine⟨o2++[(2,[],n,tc)],s3,Ab (by have:=Aa hg;simp at this;omega),aC,⟨_,_,aB,Ab Y⟩,by omega,by simp;omega,Ab (by rw[Aa E1];simp),E2,Q⟩
   ·have e1:=Aa H1;have e2:=Aa H2;rw[P19.close,if_neg hx]at e1 e2;have E1:=Ab e1;have E2:=Ab e2;clear e1 e2 H1 H2;have bC:x≤col:=by omega
    go_wp2_with (go_at_call 103;refine(Dr B b v r o2 x s3 wr hN (by omega)).mono ?_;rintro e w' ⟨rfl,nd,hw⟩;have R:A7 w' B b v r o2 (x::s3):=(by rw[hw];exact hN.drewN nd);have aA:Hid (Au (Mn b v0 r0) w (Mn b v r) w'):=Ab (by rw[hw];exact(Aa aH).trans (Bi _ _ _));have I:Below B w w':=(by rw[hw];exact B2 X nd);clear hw)
    go_end0;refine⟨⟨_,rfl⟩,⟨v,r,?_,Aa aA⟩,I⟩;rw[Aa E1,Aa E2];simpa using R
end Go.Proofs.YtnjokdbblmlhhaaGreatDoor
namespace Go.Proofs.YtnjokdbblmlhhaaGreatDoor
set_option maxHeartbeats 8000000
set_option maxRecDepth 100000
open Go.RowKit
theorem L9{w:World}{B:Nat}{v:Value}{zs:List Int}{z:Int}{R:Array Oper}{o:Oper}{a:Act}{K:Act→World→Prop}{Q:Exit→Act→World→Prop}{E:Prop}(J:o.guard=none)(s x:Operand)
  (ho:o.op=.call { callee:=.builtin .append,args:=#[s,x],argTypes:=#[103,103] })
  (hs:a.eval s=v) (I:Gd w B v zs) (g cap:Nat) (hx:a.eval x=.slice (some ⟨g,0,none⟩) 1 cap) (G:w.cell? ⟨g,0,none⟩=some (.int .i64 z))
  (X:zs.length+1≤1000000000) (hB:B≤w.heap.size)
  (h:∀g' D w',Gd w' B (.slice (some ⟨g',0,none⟩) (zs.length+1) D) (zs++[z])→w.grownBy w' v.ownBlock→(some g'=v.ownBlock∨some g'=some w.heap.size)→K (a.put o.dst (.slice (some ⟨g',0,none⟩) (zs.length+1) D)) w') :
  if Region.wanted o (yielded R a.tmps)=true then Oper.wp Tryz.prog o a w K Q else E:=by
 obtain⟨i,hi,hz,N,U⟩:=info_parts S7
 refine step_append_lies (P:=Tryz.prog) w J s x 103 ho B 3 i (.int .i64 0) 1 8 Tryz.underlying103 hi hz N U rfl (by decide) v zs.length (zs.map (Value.int .i64)) hs I
  ⟨g,0,none⟩ 1 cap [.int .i64 z] hx rfl (by intro j u hj;match j,hj with|0,hj=>simp at hj;subst hj;exact G) (by intro u hu;simp at hu;subst hu;rfl) (by decide) (by unfold maxLen;omega) (by omega) hB _ rfl ?_
 intro g' D w' h2 h3 S _;refine h g' D w' ?_ h3 (S.imp Eq.symm (fun e=>by rw[e]));unfold Gd;rw[qH,List.map_append];exact h2
theorem H9{w:World}{B:Nat}{v:Value}{ts:List Tk}{t:Tk}{R:Array Oper}{o:Oper}{a:Act}{K:Act→World→Prop}{Q:Exit→Act→World→Prop}{E:Prop}(J:o.guard=none)(s x:Operand)
  (ho:o.op=.call { callee:=.builtin .append,args:=#[s,x],argTypes:=#[55,55] })
  (hs:a.eval s=v) (I:Fc w B v ts) (g cap:Nat) (hx:a.eval x=.slice (some ⟨g,0,none⟩) 1 cap) (G:∀j u,(Df t)[j]?=some u→w.cell? ((⟨g,0,none⟩:Addr).add j)=some u)
  (X:ts.length+1≤1000000000) (hB:B≤w.heap.size)
  (h:∀g' D w',Fc w' B (.slice (some ⟨g',0,none⟩) (ts.length+1) D) (ts++[t])→w.grownBy w' v.ownBlock→(some g'=v.ownBlock∨some g'=some w.heap.size)→K (a.put o.dst (.slice (some ⟨g',0,none⟩) (ts.length+1) D)) w') :
  if Region.wanted o (yielded R a.tmps)=true then Oper.wp Tryz.prog o a w K Q else E:=by
 obtain⟨i,hi,hz,N,U⟩:=info_parts Lk
 refine step_append_lies (P:=Tryz.prog) w J s x 55 ho B 124 i (.agg #[.int .u8 0,.string ⟨#[]⟩,.int .i64 0,.int .i64 0]) 4 40 Tryz.underlying55 hi hz N U rfl (by decide) v ts.length (A5 ts) hs I
  ⟨g,0,none⟩ 1 cap (Df t) hx rfl G (by intro u hu;exact Rr [t] u (by simpa[A5]using hu)) (by decide) (by unfold maxLen;omega) (by omega) hB _ rfl ?_
 intro g' D w' h2 h3 S _;refine h g' D w' ?_ h3 (S.imp Eq.symm (fun e=>by rw[e]));unfold Fc;rw[qH,Ec];have e:A5 [t]=Df t:=by simp[A5]
 rw[e];exact h2
theorem Lm(B b:Nat)(v r:Value)(out:List Tk)(st:List Int)(k:Nat)(N:ByteArray)(n col:Int)(w:World)(h:A7 w B b v r out st)(hB:B≤b)(hl:st.length≤1000)(ho:out.length≤101000000) :
  Calls Tryz.prog 104 #[.pointer (some ⟨b,0,none⟩),.agg #[.int .u8 k,.string N,.int .i64 n,.int .i64 col]] w fun e w'=>Below B w w' ∧
   ((16≤st.length∧e=.returned (.int .i64 11)∧∃M',Au (Mn b v r) w M' w')∨(st.length<16∧e=.returned (.int .i64 0)∧∃v' r',A7 w' B b v' r' (out++[(1,[],n,col)]) (col::st)∧Au (Mn b v r) w (Mn b v' r') w')):=by
 have bE:Tryz.prog.follows .mixedOrders=true:=by kernel_rfl
 have Q:=h;have bD:b<w.heap.size:=(qA.1 Q.lies).1;have R:=Ab (((Q.alloc (.cells #[.int .u8 k,.string N,.int .i64 n,.int .i64 col] 124)).alloc (.cells #[.int .i64 col] 3)).drew);obtain⟨⟨k0,_⟩,⟨k1,_⟩,⟨k2,_⟩,⟨k3,_⟩⟩:=A1 (qB w (.cells #[.int .u8 k,.string N,.int .i64 n,.int .i64 col] 124));have aI:=(Q.alloc (.cells #[.int .u8 k,.string N,.int .i64 n,.int .i64 col] 124)).lies;obtain⟨⟨c0,f0⟩,⟨c1,f1⟩⟩:=Cb aI;have aM:=((Q.alloc (.cells #[.int .u8 k,.string N,.int .i64 n,.int .i64 col] 124)).alloc (.cells #[.int .i64 col] 3)).lies;obtain⟨⟨e0,m0⟩,⟨e1,m1⟩⟩:=Cb aM;obtain⟨H,hH⟩:∃H,w.heap.size=H:=⟨_,rfl⟩
 have aU:((w.alloc (.cells #[.int .u8 k,.string N,.int .i64 n,.int .i64 col] 124)).alloc (.cells #[.int .i64 col] 3)).drew.cell? ⟨H+1,0,none⟩=some (.int .i64 col):=by
  have h1:=qB (w.alloc (.cells #[.int .u8 k,.string N,.int .i64 n,.int .i64 col] 124)) (.cells #[.int .i64 col] 3);rw[qF,hH]at h1;show World.cell? _ _=_;simp[World.cell?,World.drew,h1]
 obtain⟨ra,rm,rc,rfl⟩:=E8 Q.row;have aK:=Ab (((Dj (Mn b v (.slice ra rm rc)) w (.cells #[.int .u8 k,.string N,.int .i64 n,.int .i64 col] 124)).trans (Dj _ _ (.cells #[.int .i64 col] 3))).trans (Bi _ _ 1));have aS:st.reverse.length+1≤1000000000:=by rw[List.length_reverse];omega
 have aT:B≤((w.alloc (.cells #[.int .u8 k,.string N,.int .i64 n,.int .i64 col] 124)).alloc (.cells #[.int .i64 col] 3)).drew.heap.size:=by
  show B≤((w.alloc (.cells #[.int .u8 k,.string N,.int .i64 n,.int .i64 col] 124)).alloc (.cells #[.int .i64 col] 3)).heap.size;simp;omega
 have aQ:((w.alloc (.cells #[.int .u8 k,.string N,.int .i64 n,.int .i64 col] 124)).alloc (.cells #[.int .i64 col] 3)).drew.heap[H]?=some (.cells #[.int .u8 k,.string N,.int .i64 n,.int .i64 col] 124):=by
  show ((w.alloc (.cells #[.int .u8 k,.string N,.int .i64 n,.int .i64 col] 124)).alloc (.cells #[.int .i64 col] 3)).heap[H]?=_;rw[←hH];exact(qD _ _ _ (by simp)).trans (qB w _)
 have S:Below B w ((w.alloc (.cells #[.int .u8 k,.string N,.int .i64 n,.int .i64 col] 124)).alloc (.cells #[.int .i64 col] 3)).drew:=
  B2 (Cv (Cv (qV _ _) (by omega) _) (by simp;omega) _) 1
 have aG:=Ab aU;have X:=Ab aQ;clear aQ aI aM Q aU h;go_enter Tryz.func104,Tryz.ntmps104
 go_wp2
 go_region_law (refine L9 (by rfl) _ _ (by rfl) (by rfl) (Aa R).row (H+1) 1 (by rfl) (Aa aG) aS aT ?_;intro g1 I w1 J D aJ;obtain⟨aR,aZ⟩:=(Aa R).far1 D;obtain⟨⟨d0,j0⟩,⟨d1,j1⟩⟩:=Cb aR)
 all_goals (
  rw[List.length_reverse,←List.reverse_cons]at J;have hP:=(Aa R).push1 (st':=col::st) D J;have aE:=Ab ((Aa aK).trans (Mu (v:=v) (r':=.slice (some ⟨g1,0,none⟩) (st.length+1) I) (u:=.slice (some ⟨g1,0,none⟩) (st.length+1) I) D aJ));have Z:=(Aa R).below1 hB S D (.slice (some ⟨g1,0,none⟩) (st.length+1) I)
  have aA:(w1.setCell ⟨b,1,none⟩ (.slice (some ⟨g1,0,none⟩) (st.length+1) I)).heap[H]?=some (.cells #[.int .u8 k,.string N,.int .i64 n,.int .i64 col] 124):=
   (qC _ _ _ _ (by show H≠b;omega)).trans ((D.block H (qA.1 (Aa X)).1 (fun e=>Ef (Aa R).row (Aa X) (by decide) e.symm)).trans (Aa X))
  obtain⟨W3,aO⟩:∃W3,w1.setCell ⟨b,1,none⟩ (.slice (some ⟨g1,0,none⟩) (st.length+1) I)=W3:=⟨_,rfl⟩;rw[aO]at hP Z aA aE ⊢;clear aJ aK aO J D aR aZ d0 j0 d1 j1 R aG X S k0 k1 k2 k3 c0 f0 c1 f1 e0 m0 e1 m1 aT w1;have aB:=hP.lies;have aN:=(hP.alloc (.cells #[.int .u8 1,.string ⟨#[]⟩,.int .i64 n,.int .i64 col] 124)).lies;have Y:=Ab ((hP.alloc (.cells #[.int .u8 1,.string ⟨#[]⟩,.int .i64 n,.int .i64 col] 124)).drew);have aX:=Ab (Fe W3 (.int .u8 1) (.string ⟨#[]⟩) (.int .i64 n) (.int .i64 col) 124);obtain⟨⟨d0,j0⟩,⟨d1,j1⟩⟩:=Cb aB;obtain⟨⟨e0,m0⟩,⟨e1,m1⟩⟩:=Cb aN;obtain⟨⟨t0,_⟩,⟨t1,_⟩,⟨t2,_⟩,⟨t3,_⟩⟩:=A1 aA;have bC:b<W3.heap.size:=(qA.1 aB).1;have HP:=Ab hP
  have aH:B≤(W3.alloc (.cells #[.int .u8 1,.string ⟨#[]⟩,.int .i64 n,.int .i64 col] 124)).drew.heap.size:=by
   show B≤(W3.alloc (.cells #[.int .u8 1,.string ⟨#[]⟩,.int .i64 n,.int .i64 col] 124)).heap.size;rw[qF];omega
  have aW:Below B w (W3.alloc (.cells #[.int .u8 1,.string ⟨#[]⟩,.int .i64 n,.int .i64 col] 124)).drew:=B2 (Cv Z (by omega) _) 1;clear aB aN aA hP;by_cases aD:16≤st.length
  ·have hd:(16:Int)<(st.length:Int)+1:=by omega
   go_wp2;go_ret;exact⟨Z,.inl ⟨aD,rfl,_,Aa aE⟩⟩
  ·have hd:(st.length:Int)+1≤16:=by omega
   go_wp2
   go_region_law (refine H9 (t:=(1,[],n,col)) (by rfl) _ _ (by rfl) (by rfl) (Aa Y).toks W3.heap.size 1 (by rfl) (Aa aX) (by omega) aH ?_;intro g2 U w2 aC G aL;obtain⟨bA,bF⟩:=(Aa Y).far0 G;obtain⟨⟨d5,j5⟩,⟨d6,j6⟩⟩:=Cb bA)
   all_goals (
    have hQ:=(Aa Y).push0 G (by have:=aC;rw[←qT (a:=((1,[],n,col):Tk)),←qH]at this;exact this);have aY:=(Aa Y).below0 hB aW G (.slice (some ⟨g2,0,none⟩) (out.length+1) U);have bB:=Ab (((Aa aE).trans ((Dj _ _ (.cells #[.int .u8 1,.string ⟨#[]⟩,.int .i64 n,.int .i64 col] 124)).trans (Bi _ _ 1))).trans (Fw (v':=.slice (some ⟨g2,0,none⟩) (out.length+1) U) (u:=.slice (some ⟨g2,0,none⟩) (out.length+1) U) G aL));rw[qH,qT]at hQ;go_wp2;go_ret
    exact⟨aY,.inr ⟨by omega,rfl,_,_,hQ,Aa bB⟩⟩))
end Go.Proofs.YtnjokdbblmlhhaaGreatDoor
namespace Go.Proofs.YtnjokdbblmlhhaaGreatDoor
set_option maxHeartbeats 8000000
set_option maxRecDepth 100000
open Go.RowKit Go.Shelf
attribute [local go_sem] Oper.semAt_some
theorem Dd{P:Program}(w:World)(a:Addr)(G:TypeId)(v:Value)(d:TypeDesc)(hu:P.underlying G=some d)(hd:(match d with | .struct _ | .array _ _=>true|_=>false)=false)(hc:w.cell? a=some v) :
  (loadVar G a).run P w=.ok v w:=by
 have D:(isAgg G).run P w=.ok false w:=by
  unfold isAgg;rw[Sem.run_bind,run_underlying hu w];cases d<;>simp_all
 simp[loadVar,Sem.run_bind,D,hc,go_sem]
theorem I0{J:Func}{p q:Tmp}{I N:TypeId}(h:J.results=#[.cell p I,.cell q N])(tmps:Array Value)(P:Program)(w:World)(g1 g2:Nat)(Q R:Value)
  (hp:tmps.getD p undef=.pointer (some ⟨g1,0,none⟩)) (hl:(loadVar I ⟨g1,0,none⟩).run P w=.ok Q w)
  (hq:tmps.getD q undef=.pointer (some ⟨g2,0,none⟩)) (S:(loadVar N ⟨g2,0,none⟩).run P w=.ok R w) :
  (results J tmps).run P w=.ok (.tuple #[Q,R]) w:=by
 have D:tmps[p]?.getD undef=.pointer (some ⟨g1,0,none⟩):=by simpa using hp
 have G:tmps[q]?.getD undef=.pointer (some ⟨g2,0,none⟩):=by simpa using hq
 simp[results,h,D,G,asAddr,Sem.run_bind,Result.andThen,hl,S]
namespace P19
theorem gather_stop:∀(L:List (Tk × Int)) (i:Nat) (t:Tk) (e:Int),(∀x∈L.take i,x.2=0)→L[i]?=some (t,e)→e≠0→gather L=([],e)
 | [],i,t,e,_,h,_=>by simp at h
 |a::r,0,t,e,_,h,he=>by
  simp at h;subst h;rw[gather,if_pos he]
 |a::r,i+1,t,e,h0,h,he=>by
  have ih:=gather_stop r i t e (fun x hx=>h0 x (by rw[List.take_succ_cons];exact List.mem_cons_of_mem _ hx)) (by simpa using h) he;have ha:=h0 a (by rw[List.take_succ_cons];exact List.mem_cons_self);obtain⟨G,D⟩:=a;simp only at ha;subst ha;rw[gather,if_neg (by simp),ih,if_pos he]
theorem gather_all:∀(L:List (Tk × Int)),(∀x∈L,x.2=0)→gather L=(L.map (·.1),0)
 | [],_=>rfl
 |a::r,h0=>by
  have ih:=gather_all r (fun x hx=>h0 x (List.mem_cons_of_mem _ hx));have ha:=h0 a List.mem_cons_self;obtain⟨G,D⟩:=a;simp only at ha;subst ha;rw[gather,if_neg (by simp),ih,if_neg (by simp)];rfl
theorem steps_len:∀(f:Nat) (v:Bool) (n col:Int) (s:List UInt8),(steps f v n col s).length≤f
 |0,v,n,col,s=>qJ _
 |f+1,v,n,col,s=>by
  unfold steps;rw[qE];split
  ·simp
  ·have:=steps_len f ((next v n col s).1.1==4) (next v n col s).2.1.1 (next v n col s).2.1.2.1 (next v n col s).2.1.2.2;omega
end P19
structure F8 (w:World) (h:Nat) (v:Value) (ts:List Tk) (W:World):Prop where
 c1:Boxed W (h+1) 55 (.slice none 0 0)
 c2:Boxed W (h+2) 27 (.int .i64 0)
 c3:Boxed W (h+3) 55 v
 own:Fc W (h+5) v ts
 below:Below h w W
theorem F8.kept{w:World}{h:Nat}{v:Value}{ts:List Tk}{W W':World}{row:Option Nat}(H:F8 w h v ts W)(D:W.grownBy W' row)
  (hr:∀r,row=some r→¬(r=h+1∨r=h+2∨r=h+3∨v.ownBlock=some r)∧¬r<h) (hw:w.heap.size=h):F8 w h v ts W':=by
 refine⟨H.c1.kept D ?_,H.c2.kept D ?_,H.c3.kept D ?_,Cj H.own D ?_,H.below.grown D (by have:=H.c1.lt;omega) (fun k e=>by have:=(hr k e).2;omega)⟩
 ·intro e;exact(hr _ e.symm).1 (.inl rfl)
 ·intro e;exact(hr _ e.symm).1 (.inr (.inl rfl))
 ·intro e;exact(hr _ e.symm).1 (.inr (.inr (.inl rfl)))
 ·cases hv:v.ownBlock with
  |none=>exact .inl rfl
  |some g=>exact .inr fun e=>(hr g e.symm).1 (.inr (.inr (.inr hv)))
theorem L3(N C:Int)(s:ByteArray)(w:World)(hs:s.size≤1100000)(bE:0≤C)(aJ:C+s.size≤1000000000) :
  Calls Tryz.prog 64 #[.agg #[.int .i64 N,.int .i64 C,.string s]] w fun e w'=>∃v,e=.returned (.tuple #[v,.int .i64 (P19.toks N C s.data.toList).2]) ∧
   Fc w' w.heap.size v (P19.toks N C s.data.toList).1∧Below w.heap.size w w':=by
 have aE:=P19.steps_line (s.size+1) N C s.data.toList (by rw[zP];omega);have aN:P19.toks N C s.data.toList=P19.line (s.size+1) N C s.data.toList:=by unfold P19.toks;rw[zP]
 rw[aN,←aE];have bD:=P19.steps_len (s.size+1) false N C s.data.toList;obtain⟨L,hL⟩:∃L,P19.steps (s.size+1) false N C s.data.toList=L:=⟨_,rfl⟩;rw[hL]at bD ⊢;have HL:=Ab hL;clear aN aE hL;obtain⟨h,hh⟩:∃h,w.heap.size=h:=⟨_,rfl⟩;refine(callsIn_wide (n:=40)).1 ?_;refine callsIn_of_wp_marks Tryz.func64 rfl trivial ?_ rfl;simp only[Tryz.ntmps64,zD,qE,qP,Nat.reduceAdd,Nat.reduceSub,Array.replicate_succ,Array.replicate_zero,List.push_toArray,List.append_toArray,zK,zJ];obtain⟨⟨k0,_⟩,⟨k1,_⟩,⟨k2,_⟩⟩:=Ay (qB w (.cells #[.int .i64 N,.int .i64 C,.string s] 107))
 gi_wp2_with (refine⟨trivial,?_⟩;gi_at_call 102;refine(callsIn_wide.2 (Ri N C s _)).mono ?_;rintro e w' ⟨rfl,rfl⟩)
 clear k0 k1 k2;obtain⟨o1,aR⟩:∃o,Obj.cells #[.int .i64 N,.int .i64 C,.string s] 107=o:=⟨_,rfl⟩;obtain⟨W2,aA⟩:∃W2,((((w.alloc (.cells #[.int .i64 N,.int .i64 C,.string s] 107)).alloc (.cells #[.slice none 0 0] 55)).alloc (.cells #[.int .i64 0] 27)).alloc (.cells #[.slice none 0 0] 55)).alloc (.cells #[.int .i64 N,.int .i64 C,.string s] 107)=W2:=⟨_,rfl⟩;rw[aA];have aZ:W2.heap.size=h+5:=by rw[←aA];simp;omega
 have bG:F8 w h (.slice none 0 0) [] W2:=by
  rw[←aA,aR];refine⟨?_,?_,?_,World.ownsRow_nil _ _ _ _,?_⟩
  ·have:=Boxed.new (w.alloc o1) 55 (.slice none 0 0);rw[qF,hh]at this;exact((this.alloc _).alloc _).alloc _
  ·have:=Boxed.new ((w.alloc o1).alloc (.cells #[.slice none 0 0] 55)) 27 (.int .i64 0);rw[qF,qF,hh]at this;exact(this.alloc _).alloc _
  ·have:=Boxed.new (((w.alloc o1).alloc (.cells #[.slice none 0 0] 55)).alloc (.cells #[.int .i64 0] 27)) 55 (.slice none 0 0);rw[qF,qF,qF,hh]at this;exact this.alloc _
  ·exact(((((qV _ w).alloc (by omega) _).alloc (by simp;omega) _).alloc (by simp;omega) _).alloc (by simp;omega) _).alloc (by simp;omega) _
 have bQ:W2.heap[h+4]?=some (.cells #[.int .i64 N,.int .i64 C,.string s] 107):=by
  rw[←aA];have:=qB ((((w.alloc (.cells #[.int .i64 N,.int .i64 C,.string s] 107)).alloc (.cells #[.slice none 0 0] 55)).alloc (.cells #[.int .i64 0] 27)).alloc (.cells #[.slice none 0 0] 55)) (.cells #[.int .i64 N,.int .i64 C,.string s] 107);rw[qF,qF,qF,qF,hh]at this;exact this
 clear aA aR o1
 refine Dp rfl (by omega) (gf:=139) (lb:=#[.pointer (some ⟨h+4,0,none⟩)]) rfl trivial (enters_of Tryz.func139 (by kernel_rfl) rfl)
  (encs:=T8) L (fun r=>r<h) (fun r=>r=h+4) (fun r hr=>by omega)
  (fun V hg hV=>by
   have:=Lf (40-1) N C s (h+4) (fun r=>r<h) (fun r=>r=h+4) V ((hg.block _ (by omega) (by simp)).trans bQ) (fun r hr=>by omega) hs bE aJ (by omega);rw[Aa HL]at this
   exact this) (fun _=>rfl)
  (fun i M V=>∃v,(M=fun r=>r=h+1∨r=h+2∨r=h+3∨v.ownBlock=some r)∧F8 w h v ((L.take i).map (·.1)) V∧∀x∈L.take i,x.2=0)
  (fun c i M V=>c=.ret∧Below h w V∧Boxed V (h+1) 55 (.slice none 0 0)∧∃e,Boxed V (h+2) 27 (.int .i64 e)∧M (h+1)∧M (h+2)∧P19.gather L=([],e))
  (fun i M V V' row hi hg hr=>by
   obtain⟨v,rfl,hi,h0⟩:=hi
   exact⟨v,rfl,hi.kept hg hr hh,h0⟩)
  (fun c i M V V' row hi hg hr=>by
   obtain⟨rfl,hb,h1,e,h2,m1,m2,h3⟩:=hi
   exact⟨rfl,hb.grown hg (by have:=h1.lt;omega) (fun k e=>by have:=(hr k e).2;omega),h1.kept hg (fun e=>(hr _ e.symm).1 m1),e,h2.kept hg (fun e=>(hr _ e.symm).1 m2),m1,m2,h3⟩)
  (fun i M V hi r hr=>by
   obtain⟨v,rfl,hi,h0⟩:=hi;have l1:=hi.c3.lt;rcases hr with rfl|rfl|rfl|hr
   ·exact⟨by omega,by omega⟩
   ·exact⟨by omega,by omega⟩
   ·exact⟨by omega,by omega⟩
   ·have:=World.ownsRow.lt hi.own r hr
    exact⟨this.2,by omega⟩)
  (fun r=>r=h+1∨r=h+2∨r=h+3∨(Value.slice none 0 0).ownBlock=some r)
  (fun r hr=>⟨by omega,(by rintro(h1|h1|h1|h1);omega;omega;omega;exact absurd h1 (by simp[Value.ownBlock])),by omega⟩)
  ⟨.slice none 0 0,rfl,bG,by simp⟩
  (fun i x M a' V=>∃v g,(M=fun r=>r=h+1∨r=h+2∨r=h+3∨v.ownBlock=some r∨r=g)∧h+5≤g∧V.heap[g]?=some (.cells #[.int .u8 x.1.1,C0 x.1.2.1,.int .i64 x.1.2.2.1,.int .i64 x.1.2.2.2] 124)∧F8 w h v ((L.take i).map (·.1)) V∧(∀x∈L.take i,x.2=0) ∧
   a'={ tmps:=#[.agg #[.int .i64 N,.int .i64 C,.string s],.pointer (some ⟨h,0,none⟩),.pointer (some ⟨h+1,0,none⟩),.pointer (some ⟨h+2,0,none⟩),.pointer (some ⟨h+3,0,none⟩),.pointer (some ⟨g,0,none⟩),.int .i64 x.2,.agg #[.int .i64 N,.int .i64 C,.string s],
    .func (.func 139) #[] #[.pointer (some ⟨h+4,0,none⟩)],Ug x.1,.int .i64 x.2,undef,undef,undef,undef,undef,undef,undef,undef],defers:=[] })
  ?hB ?assign ?body ?done ?stop
 case hB=>
  rintro i x M a' V V' row ⟨v,g,rfl,aQ,Q,hi,h0,rfl⟩ hg hr;exact⟨v,g,rfl,aQ,(hg.block g (qA.1 Q).1 (fun e=>(hr g e.symm).1 (.inr (.inr (.inr (.inr rfl)))))).trans Q,hi.kept hg (fun r e=>⟨fun h1=>(hr r e).1 (by rcases h1 with h1|h1|h1|h1;exact .inl h1;exact .inr (.inl h1);exact .inr (.inr (.inl h1));exact .inr (.inr (.inr (.inl h1)))),(hr r e).2⟩) hh,h0,rfl⟩
 case assign=>
  rintro l2 i ⟨⟨k,t,tn,tc⟩,e⟩ M V K hx ⟨v,rfl,hi,h0⟩ hV hK;unfold T8 Ug C0;have aD:=qB V (.cells #[.int .u8 k,.string ⟨t.toArray⟩,.int .i64 tn,.int .i64 tc] 124)
  have aU:=hK (fun r=>r=h+1∨r=h+2∨r=h+3∨v.ownBlock=some r∨r=V.heap.size) _ (V.alloc (.cells #[.int .u8 k,.string ⟨t.toArray⟩,.int .i64 tn,.int .i64 tc] 124)) (qR _ _ none) (fun r hr=>by
   rcases hr with h1|h1|h1|h1|h1
   ·exact .inl (.inl h1)
   ·exact .inl (.inr (.inl h1))
   ·exact .inl (.inr (.inr (.inl h1)))
   ·exact .inl (.inr (.inr (.inr h1)))
   ·exact .inr (by omega)) ⟨v,V.heap.size,rfl,by omega,aD,hi.kept (qR _ _ none) (fun r e=>by cases e) hh,h0,rfl⟩
  have HK:=Ab aU;clear aU hK aD
  gi_wp2
  exact Aa HK
 case body=>
  rintro l2 i ⟨⟨k,t,tn,tc⟩,e⟩ M a' V hx ⟨v,g,rfl,aQ,Q,hi,h0,rfl⟩ hV;simp only at Q;unfold Ug;unfold C0 at Q ⊢;obtain⟨⟨t0,_⟩,⟨t1,_⟩,⟨t2,_⟩,⟨t3,_⟩⟩:=A1 Q;have HX:=Ab hx;have HI:=Ab hi;have H0:=Ab h0;have aL:=hi.c3;have bY:=aL.cell;have bX:=aL.frozen;have bW:=(qA.1 Q).1;by_cases he:e=0
  ·have hne:(e != 0)=false:=by simpa using he
   subst he;obtain⟨i0,bK,bC,aY,bM⟩:=info_parts Lk;have bA:i<L.length:=(qI.1 hx).1;have aC:((L.take i).map (·.1)).length≤1100000:=by rw[qY,qZ];omega
   have Z:(L.take (i+1)).map (·.1)=(L.take i).map (·.1)++[(k,t,tn,tc)]:=by
    rw[List.take_add_one,hx];simp
   have hz:∀x∈L.take (i+1),x.2=0:=by
    intro x aW;rw[List.take_add_one,hx]at aW;rcases zE.1 aW with h1|h1
    ·exact h0 x h1
    ·simp at h1;subst h1;rfl
   obtain⟨ts,aT⟩:∃ts,(L.take i).map (·.1)=ts:=⟨_,rfl⟩;rw[aT]at hi aC Z;obtain⟨m,hm⟩:∃m,ts.length=m:=⟨_,rfl⟩;rw[hm]at aC;have S:V.ownsRow (h+5) 124 4 v m (A5 ts):=by rw[←hm];exact hi.own
   have bN:m+1≤maxLen:=by unfold maxLen;omega
   have bB:(m+1)*40≤140737488355328:=by omega
   have bP:=Ab (Fe V (.int .u8 k) (.string ⟨t.toArray⟩) (.int .i64 tn) (.int .i64 tc) 124);have HI:=Ab hi;have bJ:=Ab Z;have HZ:=Ab hz;have bF:=Ab hm;clear hx hi h0 bA aC HX H0 aT hz Z hm
   gi_wp2_with (gi_at_builtin;refine wpListIn_append_own_at _ rfl _ _ 55 rfl (h+5) 124 i0 (.agg #[.int .u8 0,.string ⟨#[]⟩,.int .i64 0,.int .i64 0]) 4 40 Tryz.underlying55 bK bC aY bM rfl (by decide) _ _ _ rfl (World.ownsRow.alloc S _) ⟨V.heap.size,0,none⟩ 1 1 [.int .u8 k,.string ⟨t.toArray⟩,.int .i64 tn,.int .i64 tc] rfl rfl (Aa bP) (by intro u hu;simp at hu;rcases hu with rfl|rfl|rfl|rfl<;>rfl) bN bB (by rw[qF];omega) ?_;intro v' w1 Y G _ bL;obtain⟨g',aG,rfl⟩:=ownsRow_succ Y;have aI:=(aL.alloc _).kept G (Kz S (by omega));have bU:=aI.cell;have bV:=aI.frozen)
   have I:=Aa HI;have aM:=qR V (.cells #[.int .u8 k,.string ⟨t.toArray⟩,.int .i64 tn,.int .i64 tc] 124) none;have aB:=Ap w1 (h+3) 0 (.slice (some ⟨g',0,none⟩) (m+1) aG);have aX:=I.own;have bR:∀k,v.ownBlock=some k→h+5≤k:=fun k e=>(World.ownsRow.lt S k e).1;have aK:=I.kept aM (fun r e=>by cases e) hh;refine⟨fun r=>r=h+1∨r=h+2∨r=h+3∨(Value.slice (some ⟨g',0,none⟩) (m+1) aG).ownBlock=some r,?_,_,rfl,⟨?_,?_,?_,?_,?_⟩,Aa HZ⟩
   ·have aO:=((Au.grown (M:=fun r=>r=h+1∨r=h+2∨r=h+3∨v.ownBlock=some r∨r=g) aM (fun r e=>by cases e)).trans (Au.grown G (fun r e=>.inl (.inr (.inr (.inr (.inl e))))))).trans (Au.grown aB (fun r e=>by cases e;exact .inl (.inr (.inr (.inl rfl)))));refine⟨aO.size,aO.same,?_⟩;intro r hr;rcases hr with h1|h1|h1|h1
    ·exact .inl (.inl h1)
    ·exact .inl (.inr (.inl h1))
    ·exact .inl (.inr (.inr (.inl h1)))
    ·rcases bL with h2|h2
     ·exact .inl (.inr (.inr (.inr (.inl (h2.symm.trans h1)))))
     ·rw[h1]at h2;injection h2 with h2;rw[qF]at h2;exact .inr (by omega)
   ·exact((aK.c1.kept G (Kz S (by omega))).kept aB (by simp))
   ·exact((aK.c2.kept G (Kz S (by omega))).kept aB (by simp))
   ·exact aI.set _
   ·rw[Aa bJ];unfold Fc;rw[Ec,qH,Aa bF];exact Cj Y aB (.inr (fun e=>by have h5:=(World.ownsRow.lt Y g' rfl).1;simp[Value.ownBlock]at e;omega))
   ·have h1:=aK.below.grown G (by rw[qF];omega) (fun k e=>by have:=bR k e;omega);exact h1.grown aB (by have:=G.size;rw[qF]at this;omega) (fun k e=>by cases e;omega)
  ·have hne:(e != 0)=true:=by simpa using he
   have aJ:=hi.c1.cell;have bS:=hi.c1.frozen;have bH:=hi.c2.cell;have bO:=hi.c2.frozen;have aH:=P19.gather_stop L i _ e h0 hx he;have HG:=Ab aH;clear hx hi h0 Q aH
   gi_wp2
   have I:=Aa HI;have U:=Ap V (h+1) 0 (.slice none 0 0);have X:=Ap (V.setCell ⟨h+1,0,none⟩ (.slice none 0 0)) (h+2) 0 (.int .i64 e);refine⟨fun r=>r=h+1∨r=h+2∨r=h+3∨v.ownBlock=some r∨r=g,(Au.grown U (fun r e=>by cases e;exact .inl (.inl rfl))).trans (Au.grown X (fun r e=>by cases e;exact .inl (.inr (.inl rfl)))),rfl,?_,(I.c1.set _).kept X (by simp),e,?_,.inl rfl,.inr (.inl rfl),Aa HG⟩
   ·have h1:=I.below.grown U (by have:=I.c1.lt;omega) (fun k e=>by cases e;omega);exact h1.grown X (by have:=I.c1.lt;simp;omega) (fun k e=>by cases e;omega)
   ·exact(I.c2.kept U (by simp)).set _
 case done=>
  rintro D M V rfl bI ⟨v,rfl,hi,h0⟩ hK;rw[List.take_of_length_le (qJ _)]at hi h0;rw[aZ]at hK;have R:=Ab (P19.gather_all L h0);obtain⟨ao,m,cap,rfl⟩:=E8 hi.own;have aJ:=hi.c1.cell;have bS:=hi.c1.frozen;have bH:V.cell? ⟨h+1+1,0,none⟩=some (.int .i64 0):=hi.c2.cell;have bO:V.frozen? ⟨h+1+1,0,none⟩=false:=hi.c2.frozen;have bT:V.cell? ⟨h+1+1+1,0,none⟩=some (.slice ao m cap):=hi.c3.cell;have HI:=Ab hi;clear hi h0
  gi_wp2
  have I:=Aa HI;have U:=Ap V (h+1) 0 (.slice ao m cap);have X:=Ap (V.setCell ⟨h+1,0,none⟩ (.slice ao m cap)) (h+1+1) 0 (.int .i64 0)
  have aS:((V.setCell ⟨h+1,0,none⟩ (.slice ao m cap)).setCell ⟨h+1+1,0,none⟩ (.int .i64 0)).heap[(h+5)]?=some (.deferred (some [])):=
   (qC _ _ _ _ (by show (h+5)≠h+1+1;omega)).trans ((qC _ _ _ _ (by show (h+5)≠h+1;omega)).trans hK)
  refine⟨by simp,.inl ⟨_,_,rfl,run_takeDeferred aS,?_⟩⟩;have J:=grownBy_putObj' ((V.setCell ⟨h+1,0,none⟩ (.slice ao m cap)).setCell ⟨h+1+1,0,none⟩ (.int .i64 0)) (h+5) (.deferred none);have b1:=((I.c1.set (.slice ao m cap)).kept X (by simp)).kept J (by simp);have b2:=((I.c2.kept U (by simp)).set (.int .i64 0)).kept J (by simp);refine⟨_,I0 rfl _ _ _ (h+1) (h+1+1) _ _ rfl (Dd _ _ _ _ _ Tryz.underlying55 rfl b1.cell) rfl (Dd _ _ _ _ _ Tryz.underlying27 rfl b2.cell),_,by rw[Aa R],?_,?_⟩
  ·rw[Aa R];have o1:=Cj I.own U (.inr (Ef I.own I.c1 (by decide)));have b0:=I.c1.set (.slice ao m cap);have o2:=Cj o1 X (.inr (Ef o1 (I.c2.kept U (by simp)) (by decide)))
   exact Fm (Cj o2 J (.inr (fun e=>by
    obtain⟨cs,h5⟩:=I8 o2 e;rw[aS]at h5
    cases h5))) (by omega)
  ·have h1:=I.below.grown U (by have:=I.c1.lt;omega) (fun k e=>by cases e;omega);have h2:=h1.grown X (by have:=I.c1.lt;simp;omega) (fun k e=>by cases e;omega);exact h2.grown J (by have:=I.c1.lt;simp;omega) (fun k e=>by cases e;omega)
 case stop=>
  rintro D c i M V rfl bI hi ⟨rfl,hb,h1,e,h2,m1,m2,h3⟩ hK;have R:=Ab h3;clear h3
  gi_wp2
  have J:=grownBy_putObj' V W2.heap.size (.deferred none);have b1:=h1.kept J (by simp;omega);have b2:=h2.kept J (by simp;omega);refine⟨by simp,.inl ⟨_,_,rfl,run_takeDeferred hK,?_⟩⟩;refine⟨_,I0 rfl _ _ _ (h+1) (h+2) _ _ rfl (Dd _ _ _ _ _ Tryz.underlying55 rfl b1.cell) rfl (Dd _ _ _ _ _ Tryz.underlying27 rfl b2.cell),_,by rw[Aa R],?_,?_⟩
  ·rw[Aa R];exact World.ownsRow_nil _ _ _ _
  ·rw[hh];exact hb.grown J (by have:=h1.lt;omega) (fun k e=>by cases e;omega)
end Go.Proofs.YtnjokdbblmlhhaaGreatDoor
namespace Go.Proofs.YtnjokdbblmlhhaaGreatDoor
set_option maxHeartbeats 8000000
set_option maxRecDepth 100000
open Go.RowKit
theorem P2{W W':World}{M M':Nat→Prop}{B size n:Nat}{e:TypeId}{v:Value}{xs:List Value}(h:W.ownsRow B e size v n xs)(hk:Au M W M' W')(hn:∀g,v.ownBlock=some g→¬M g):W'.ownsRow B e size v n xs:=by
 refine⟨h.1,h.2.imp id ?_⟩;rintro⟨g,cap,D,h1,h2,h3,h4⟩;refine⟨g,cap,D,h1,h2,?_,h4⟩;rw[hk.same g (hn g (by rw[h1];rfl)) (qA.1 h3).1];exact h3
theorem Lo{W:World}{B:Nat}{v:Value}{ts:List Tk}(h:Fc W B v ts){i:Nat}{t:Tk}(hi:ts[i]?=some t) :
  ∃g cap,v=.slice (some ⟨g,0,none⟩) ts.length cap∧g<W.heap.size∧W.cell? ⟨g,i*4,none⟩=some (.int .u8 t.1)∧W.cell? ⟨g,i*4+1,none⟩=some (C0 t.2.1)∧W.cell? ⟨g,i*4+2,none⟩=some (.int .i64 t.2.2.1)∧W.cell? ⟨g,i*4+3,none⟩=some (.int .i64 t.2.2.2):=by
 have hl:=(qI.1 hi).1;obtain⟨g,cap,rfl,Q,D⟩:=World.ownsRow.form h (by omega)
 have key:∀(us:List Tk) (j:Nat) (u:Tk),us[j]?=some u→(A5 us)[j*4]?=some (.int .u8 u.1)∧(A5 us)[j*4+1]?=some (C0 u.2.1)∧(A5 us)[j*4+2]?=some (.int .i64 u.2.2.1)∧(A5 us)[j*4+3]?=some (.int .i64 u.2.2.2):=by
  intro us
  induction us with
  |nil=>intro j u h;simp at h
  |cons a r ih=>
   intro j u h;cases j with
   |zero=>simp at h;subst h;exact⟨rfl,rfl,rfl,rfl⟩
   |succ j=>
    have ih:=ih j u (by simpa using h);have e:A5 (a::r)=Df a++A5 r:=rfl;have J:(Df a).length=4:=rfl;rw[e,zA (by omega),zA (by omega),zA (by omega),zA (by omega),J];rw[show (j+1)*4-4=j*4 from by omega,show (j+1)*4+1-4=j*4+1 from by omega,show (j+1)*4+2-4=j*4+2 from by omega,show (j+1)*4+3-4=j*4+3 from by omega];exact ih
 obtain⟨k0,I,G,N⟩:=key ts i t hi;refine⟨g,cap,rfl,D,?_,?_,?_,?_⟩
 ·rw[World.ownsRow.cellAt h _ (by omega)];exact k0
 ·rw[World.ownsRow.cellAt h _ (by omega)];exact I
 ·rw[World.ownsRow.cellAt h _ (by omega)];exact G
 ·rw[World.ownsRow.cellAt h _ (by omega)];exact N
theorem Td(B b:Nat)(v0 r0:Value)(out:List Tk)(st:List Int)(Bl:Nat)(l:Value)(ts:List Tk)(n:Int)(w:World)(h:A7 w B b v0 r0 out st)(hB:B≤b)(dP:st.length≤16)(ho:out.length+2*ts.length+20≤100000000)
  (cU:P19.Row st) (aQ:Fc w Bl l ts) (bP:∀g,l.ownBlock=some g→¬Mn b v0 r0 g) (cT:∀t∈ts,t.2.2.1=n∧0≤t.2.2.2) (cX:∀t∈ts.tail,0<t.2.2.2) :
  Calls Tryz.prog 65 #[.pointer (some ⟨b,0,none⟩),l] w fun e w'=>e=.returned (.int .i64 (P19.adds n true 0 ts out st).1)∧Below B w w'∧(∃M',Au (Mn b v0 r0) w M' w') ∧
   ((P19.adds n true 0 ts out st).1=0→∃v' r',A7 w' B b v' r' (P19.adds n true 0 ts out st).2.1 (P19.adds n true 0 ts out st).2.2∧Au (Mn b v0 r0) w (Mn b v' r') w'):=by
 have eD:Tryz.prog.follows .mixedOrders=true:=by kernel_rfl
 obtain⟨la,lm,lc,bB⟩:=E8 aQ
 have dG:lm=ts.length:=by
  rcases aQ.2 with⟨h1,h2⟩|⟨g,cap,eA,h1,_⟩
  ·rw[h1]at bB;injection bB with _ h3;omega
  ·rw[h1]at bB;injection bB with _ h3;exact h3.symm
 subst dG;subst bB;have eF:b<w.heap.size:=(qA.1 h.lies).1;obtain⟨m,hm⟩:∃m,ts.length=m:=⟨_,rfl⟩;have cV:=Ab aQ;have cL:=Ab bP;have cR:=Ab cT;have cM:=Ab cX;have HM:=Ab hm;rw[hm]at ho ⊢;clear aQ bP cT cX hm;go_enter Tryz.func65,Tryz.ntmps65
 go_wp2
 go_loopg [10] m (fun g dH wx=>∃(i:Nat) (o2:List Tk) (s2:List Int),i+g=m∧dH=.int .i64 i∧s2.length≤16∧P19.Row s2∧o2.length+2*g+(if i=0 then 20 else 0)≤100000000∧(∃X r2,A7 wx B b X r2 o2 s2∧Hid (Au (Mn b v0 r0) w (Mn b X r2) wx)) ∧
  Below B w wx∧Hid (P19.adds n true 0 ts out st=P19.adds n (decide (i=0)) (if i=0 then 0 else (ts[i-1]?).elim 0 (fun(t:Tk)=>t.1)) (ts.drop i) o2 s2))
 case atStart=>exact⟨0,out,st,by omega,by go_num,dP,cU,by simp;omega,⟨v0,r0,h,Ab (Au.refl _ _)⟩,qV _ _,Ab rfl⟩
 case round=>
  obtain⟨i,o2,s2,dW,rfl,cJ,aE,aS,⟨X,r2,hN,HK⟩,bH,HE⟩:=hrel;cases gk with
  |zero=>
   have e1:(m:Int)=(i:Int):=by omega
   have hd:ts.drop i=[]:=List.drop_eq_nil_of_le (by rw[Aa HM];omega);have he:=Aa HE;rw[hd]at he;have HF:=Ab he;clear hd he HE;go_wp2;go_ret;rw[Aa HF];exact⟨rfl,bH,⟨_,Aa HK⟩,fun _=>⟨X,r2,hN,Aa HK⟩⟩
  |succ g'=>
   have eC:(i:Int)<(m:Int):=by omega
   have dZ:IntKind.i64.wrap ((i:Int)+1)=(i:Int)+1:=qG _ (by omega);have aW:i<ts.length:=by rw[Aa HM];omega
   have bL:ts[i]?=some ts[i]:=qO aW;have bI:ts.drop i=ts[i]::ts.drop (i+1):=qL aW;obtain⟨bU,aY⟩:=Aa cR ts[i] (List.getElem_mem aW)
   have cB:0<i→0<ts[i].2.2.2:=fun h0=>Aa cM ts[i] (by
    cases ts with
    |nil=>simp at aW
    |cons a r=>
     cases i with
     |zero=>omega
     | succ j=>simp)
   obtain⟨⟨k,tx,J,tc⟩,ht⟩:∃t,ts[i]=t:=⟨_,rfl⟩;rw[ht]at bL bI bU aY cB;simp only at bU aY cB;subst bU;have he:=Aa HE;rw[bI,P19.adds]at he;obtain⟨R,hR⟩:∃R,P19.turn (decide (i=0)) (if i=0 then 0 else (ts[i-1]?).elim 0 (fun(t:Tk)=>t.1)) J (k,tx,J,tc) o2 s2=R:=⟨_,rfl⟩;rw[hR]at he;have HR:=Ab hR;have aI:=Ab he;clear hR;have aZ:Fc wr Bl (.slice la ts.length lc) ts:=P2 (Aa cV) (Aa HK) (Aa cL);obtain⟨g,cap,bZ,dE,c0,c1,c2,c3⟩:=Lo aZ bL;injection bZ with bZ cI cY;subst bZ;subst cY;clear cI
   have bD:0<i→∃kp:Nat,(ts[i-1]?).elim 0 (fun(t:Tk)=>t.1)=kp∧wr.cell? ⟨g,(i-1)*4,none⟩=some (.int .u8 kp):=by
    intro h0;have bR:ts[i-1]?=some ts[i-1]:=qO (by omega);obtain⟨g',dS,aA,_,d0,_⟩:=Lo aZ bR;injection aA with aA _ _;injection aA with aA;injection aA with aA;subst aA;exact⟨_,by rw[bR];rfl,d0⟩
   have eB:b<wr.heap.size:=(qA.1 hN.lies).1;have cO:=Ab bD;have HD:=Ab bI;have dM:=Ab bL;clear he HE bI bL ht aZ bD aW;unfold C0 at c1
   go_upto_block 2 with fail
   obtain⟨H,hH⟩:∃H,wr.heap.size=H:=⟨_,rfl⟩;have cW:=hN.alloc (.cells #[.int .u8 k,.string ⟨tx.toArray⟩,.int .i64 J,.int .i64 tc] 124);have bF:=qB wr (.cells #[.int .u8 k,.string ⟨tx.toArray⟩,.int .i64 J,.int .i64 tc] 124);have cD:=(Aa HK).trans (Dj _ wr (.cells #[.int .u8 k,.string ⟨tx.toArray⟩,.int .i64 J,.int .i64 tc] 124));have aJ:=Cv bH (by omega) (.cells #[.int .u8 k,.string ⟨tx.toArray⟩,.int .i64 J,.int .i64 tc] 124)
   have bG:=Ab (fun(h0:0<i)=>by
    obtain⟨kp,e1,e2⟩:=Aa cO h0
    exact(⟨kp,e1,(World.cell?_of_block (a:=⟨g,(i-1)*4,none⟩) (qD wr (.cells #[.int .u8 k,.string ⟨tx.toArray⟩,.int .i64 J,.int .i64 tc] 124) _ dE)).trans e2⟩:∃kp:Nat,(ts[i-1]?).elim 0 (fun(t:Tk)=>t.1)=kp∧(wr.alloc (.cells #[.int .u8 k,.string ⟨tx.toArray⟩,.int .i64 J,.int .i64 tc] 124)).cell? ⟨g,(i-1)*4,none⟩=some (.int .u8 kp)))
   have cH:¬Mn b X r2 H:=by
    rintro(h1|h1|h1)
    ·omega
    ·have:=(World.ownsRow.lt hN.toks H h1).2;omega
    ·have:=(World.ownsRow.lt hN.row H h1).2;omega
   rw[hH]at bF;obtain⟨W1,bT⟩:∃W1,wr.alloc (.cells #[.int .u8 k,.string ⟨tx.toArray⟩,.int .i64 J,.int .i64 tc] 124)=W1:=⟨_,rfl⟩;have eE:w.heap.size≤H:=by rw[←hH];exact(Aa HK).size
   rw[bT]at cW bF cD aJ bG;try rw[bT]
   try rw[hH]
   have aH:=Ab cD;clear bT hN cD bH HK c0 c1 c2 c3 cO
   go_cut [] from 15 to 64 (fun wx=>∃(o3:List Tk) (s3:List Int) (v3 r3:Value),A7 wx B b v3 r3 o3 s3∧Hid (Au (Mn b v0 r0) w (Mn b v3 r3) wx)∧Below B w wx∧wx.heap[H]?=some (.cells #[.int .u8 k,.string ⟨tx.toArray⟩,.int .i64 J,.int .i64 tc] 124) ∧
    Hid (R=(0,o3++[(k,tx,J,tc)],s3)))
   case first=>
    obtain⟨⟨t0,_⟩,⟨t1,_⟩,⟨t2,_⟩,⟨t3,_⟩⟩:=A1 bF;have aK:=Ab bF;have cC:=Ab cH;have S:=Ab cW;clear bF cH;rcases Nat.eq_zero_or_pos i with h0|h0
    ·have dJ:((i:Int)==0)=true:=by rw[h0];rfl
     have aX:decide (i=0)=true:=by rw[h0];rfl
     have aL:(if i=0 then 0 else (ts[i-1]?).elim 0 (fun(t:Tk)=>t.1))=0:=if_pos h0;have D:=Aa HR;rw[aX,aL]at D;have cK:o2.length≤100000000:=by rw[if_pos h0]at aS;omega
     clear aX aL bG HR aS;cases s2 with
     |nil=>exact absurd rfl (P19.row_ne aE)
     |cons x s3=>
      simp only[qE]at cJ;have aD:s3.length≤1000:=by omega
      by_cases aO:tc<x
      ·unfold P19.turn at D;rw[if_pos ⟨rfl,aO⟩]at D;have bX:=P19.close_row (n:=J) (tc:=tc) aY aE;have bY:=P19.close_len J tc tc (x::s3);have bW:=Ab (fun W (hW:A7 W B b X r2 o2 (x::s3))=>Kf B b X r2 o2 (x::s3) J tc tc W hW hB (by simp;omega) (by omega) aE aY);obtain⟨⟨c1,c2⟩,hc⟩:∃c,P19.close J tc tc (x::s3)=c:=⟨_,rfl⟩;simp only[hc]at D bX bY bW;cases c2 with
       |nil=>exact absurd rfl (P19.row_ne bX)
       |cons y s4=>
        have bN:(if y≠tc then (3,[],[]) else (0,o2++c1++[(k,tx,J,tc)],y::s4))=R:=D;have I:=Ab bN;simp only[qE]at bY;have bA:s4.length≤1000:=by omega
        clear D bN hc bX bY h0;go_wp2;go_quiet ((go_at_call 103;exact Calls.quiet_of (Dr B b X r2 o2 x s3 _ ((Aa S).drewN _) aD)))
        go_wp2_with (go_at_call 66;refine(Aa bW _ ((Aa S).drewN _)).mono ?_;rintro e w3 ⟨⟨vv,rfl⟩,⟨v3,r3,N,aC⟩,Z⟩;have Y:=(aC.same H (Aa cC) (qA.1 (Aa aK)).1).trans (Aa aK);obtain⟨⟨y0,_⟩,⟨y1,_⟩,⟨y2,_⟩,⟨y3,_⟩⟩:=A1 Y;have bJ:=Ab aC;have bC:=Ab Y;clear aC Y)
        have aT:=Ab (((Aa aH).trans (Bi _ _ nq)).trans (Aa bJ));have aR:Below B w w3:=aJ.trans ((B2 (qV B W1) nq).trans Z);clear bJ aH bW Z;by_cases hy:y=tc
        ·have dD:(y != tc)=false:=by simpa using hy
         have D:=Aa I;rw[if_neg (by simpa using hy)]at D;have Q:=Ab D.symm;clear D I hy;go_quiet ((go_at_call 103;exact Calls.quiet_of (Dr B b v3 r3 (o2++c1) y s4 _ (N.drewN _) bA)))
         go_wp2
         go_meet
         exact⟨o2++c1,y::s4,v3,r3,N.drewN _,Ab ((Aa aT).trans (Bi _ _ _)),B2 aR _,Aa bC,Q⟩
        ·have dD:(y != tc)=true:=by simpa using hy
         have D:=Aa I;rw[if_pos hy]at D;have he:=Aa aI;rw[←D,if_pos (by simp)]at he;have HF:=Ab he;clear D I hy he aI;go_quiet ((go_at_call 103;exact Calls.quiet_of (Dr B b v3 r3 (o2++c1) y s4 _ (N.drewN _) bA)))
         go_wp2;go_ret;rw[Aa HF];exact⟨rfl,B2 aR _,⟨_,(Aa aT).trans (Bi _ _ _)⟩,fun h=>by cases h⟩
      ·have cP:x≤tc:=by omega
       unfold P19.turn at D;rw[if_neg (fun h=>aO h.2)]at D;by_cases cA:x<tc
       ·rw[if_pos (.inl ⟨rfl,cA⟩)]at D;have aG:=Ab (fun W (hW:A7 W B b X r2 o2 (x::s3))=>Lm B b X r2 o2 (x::s3) k ⟨tx.toArray⟩ J tc W hW hB (by simp;omega) (by omega));have I:=Ab D;clear D h0 aO;go_wp2;go_quiet ((go_at_call 103;exact Calls.quiet_of (Dr B b X r2 o2 x s3 _ ((Aa S).drewN _) aD)))
        go_wp2;go_quiet ((go_at_call 103;first|exact J1 (Dr B b X r2 o2 x s3 _ ((Aa S).drewN _) aD)|exact Calls.quiet_of (Dr B b X r2 o2 x s3 _ (((Aa S).drewN _).drewN _) aD)))
        by_cases G:16≤(x::s3).length
        ·have D:=Aa I;rw[if_pos G]at D;have he:=Aa aI;rw[←D,if_pos (by simp)]at he;have HF:=Ab he;have aM:=Ab (fun W (hW:A7 W B b X r2 o2 (x::s3))=>(Aa aG W hW).mono (R':=fun e w'=>Below B W w'∧e=.returned (.int .i64 11)∧Hid (∃M',Au (Mn b X r2) W M' w')) (fun e w' h=>⟨h.1,h.2.elim (fun h=>⟨h.2.1,h.2.2⟩) (fun h=>absurd G (by have:=h.1;omega))⟩));clear D I he aI aG;go_wp2_with (go_at_call 104;refine(Aa aM _ ((Aa S).drewN _)).mono ?_;rintro e w3 ⟨Z,rfl,aN⟩)
         go_ret;rw[Aa HF];obtain⟨M3,bS⟩:=Aa aN;exact⟨rfl,aJ.trans ((B2 (qV B W1) _).trans Z),⟨M3,((Aa aH).trans (Bi _ _ _)).trans bS⟩,fun h=>by cases h⟩
        ·have D:=Aa I;rw[if_neg G]at D;have Q:=Ab D.symm;have aM:=Ab (fun W (hW:A7 W B b X r2 o2 (x::s3))=>(Aa aG W hW).mono (R':=fun e w'=>Below B W w'∧e=.returned (.int .i64 0)∧Hid (∃v' r',A7 w' B b v' r' (o2++[(1,[],J,tc)]) (tc::x::s3)∧Au (Mn b X r2) W (Mn b v' r') w')) (fun e w' h=>⟨h.1,h.2.elim (fun h=>absurd h.1 G) (fun h=>⟨h.2.1,h.2.2⟩)⟩));clear D I aG;go_wp2_with (go_at_call 104;refine(Aa aM _ ((Aa S).drewN _)).mono ?_;rintro e w3 ⟨Z,rfl,aN⟩)
         obtain⟨v3,r3,N,aC⟩:=Aa aN;have Y:=(aC.same H (Aa cC) (qA.1 (Aa aK)).1).trans (Aa aK);have aT:=Ab (((Aa aH).trans (Bi _ _ _)).trans aC);have bC:=Ab Y;have bV:=Ab N;have aR:Below B w w3:=aJ.trans ((B2 (qV B W1) _).trans Z);clear Y aC N
         go_meet
         exact⟨_,_,v3,r3,Aa bV,aT,aR,Aa bC,Q⟩
       ·have dQ:x=tc:=by omega
        subst dQ;rw[if_neg (fun h=>h.elim (fun h=>cA h.2) (fun h=>by cases h.1))]at D;have Q:=Ab D.symm;have dX:(i:Int)≤0:=by omega
        clear D h0 aO cA cP;go_wp2;go_quiet ((go_at_call 103;exact Calls.quiet_of (Dr B b X r2 o2 x s3 _ ((Aa S).drewN _) aD)))
        go_wp2;go_quiet ((go_at_call 103;first|exact J1 (Dr B b X r2 o2 x s3 _ ((Aa S).drewN _) aD)|exact Calls.quiet_of (Dr B b X r2 o2 x s3 _ (((Aa S).drewN _).drewN _) aD)))
        go_wp2
        go_meet
        exact⟨o2,x::s3,X,r2,(Aa S).drewN _,Ab ((Aa aH).trans (Bi _ _ _)),B2 aJ _,Aa aK,Q⟩
    ·have dJ:((i:Int)==0)=false:=by simp;omega
     have dY:(0:Int)<(i:Int):=by omega
     have aX:decide (i=0)=false:=by simp;omega
     obtain⟨kp,cQ,dF⟩:=Aa bG h0;have aL:(if i=0 then 0 else (ts[i-1]?).elim 0 (fun(t:Tk)=>t.1))=kp:=by rw[if_neg (by omega)];exact cQ
     have D:=Aa HR;rw[aX,aL]at D;have cK:o2.length≤100000000:=by omega
     have dN:IntKind.i64.wrap ((i:Int)-1)=((i-1:Nat):Int):=by rw[show ((i:Int)-1)=((i-1:Nat):Int) from by omega];exact qG _ (by omega)
     have cN:((i-1:Nat):Int)<(m:Int):=by omega
     have dL:(i:Int)-1=((i-1:Nat):Int):=by omega
     obtain⟨j,hj⟩:∃j,i-1=j:=⟨_,rfl⟩;rw[hj]at dF dN cN dL;unfold P19.turn at D;rw[if_neg (fun h=>by cases h.1)]at D;clear aX aL bG HR aS cQ;by_cases h3:kp=3
     ·have cE:((kp:Int)==3)=true:=by rw[h3];rfl
      rw[if_pos (.inr ⟨rfl,h3⟩)]at D;have aG:=Ab (fun W (hW:A7 W B b X r2 o2 s2)=>Lm B b X r2 o2 s2 k ⟨tx.toArray⟩ J tc W hW hB (by omega) (by omega));have I:=Ab D;clear D h0 h3 hj;go_wp2;go_quiet (fail)
      go_wp2;go_quiet (fail)
      by_cases G:16≤(s2).length
      ·have D:=Aa I;rw[if_pos G]at D;have he:=Aa aI;rw[←D,if_pos (by simp)]at he;have HF:=Ab he;have aM:=Ab (fun W (hW:A7 W B b X r2 o2 (s2))=>(Aa aG W hW).mono (R':=fun e w'=>Below B W w'∧e=.returned (.int .i64 11)∧Hid (∃M',Au (Mn b X r2) W M' w')) (fun e w' h=>⟨h.1,h.2.elim (fun h=>⟨h.2.1,h.2.2⟩) (fun h=>absurd G (by have:=h.1;omega))⟩));clear D I he aI aG;go_wp2_with (go_at_call 104;refine(Aa aM _ ((Aa S).drewN _)).mono ?_;rintro e w3 ⟨Z,rfl,aN⟩)
       go_ret;rw[Aa HF];obtain⟨M3,bS⟩:=Aa aN;exact⟨rfl,aJ.trans ((B2 (qV B W1) _).trans Z),⟨M3,((Aa aH).trans (Bi _ _ _)).trans bS⟩,fun h=>by cases h⟩
      ·have D:=Aa I;rw[if_neg G]at D;have Q:=Ab D.symm;have aM:=Ab (fun W (hW:A7 W B b X r2 o2 (s2))=>(Aa aG W hW).mono (R':=fun e w'=>Below B W w'∧e=.returned (.int .i64 0)∧Hid (∃v' r',A7 w' B b v' r' (o2++[(1,[],J,tc)]) (tc::s2)∧Au (Mn b X r2) W (Mn b v' r') w')) (fun e w' h=>⟨h.1,h.2.elim (fun h=>absurd h.1 G) (fun h=>⟨h.2.1,h.2.2⟩)⟩));clear D I aG;go_wp2_with (go_at_call 104;refine(Aa aM _ ((Aa S).drewN _)).mono ?_;rintro e w3 ⟨Z,rfl,aN⟩)
       obtain⟨v3,r3,N,aC⟩:=Aa aN;have Y:=(aC.same H (Aa cC) (qA.1 (Aa aK)).1).trans (Aa aK);have aT:=Ab (((Aa aH).trans (Bi _ _ _)).trans aC);have bC:=Ab Y;have bV:=Ab N;have aR:Below B w w3:=aJ.trans ((B2 (qV B W1) _).trans Z);clear Y aC N
       go_meet
       exact⟨_,_,v3,r3,Aa bV,aT,aR,Aa bC,Q⟩
     ·have cE:((kp:Int)==3)=false:=by simp;omega
      rw[if_neg (fun h=>h.elim (fun h=>by cases h.1) (fun h=>h3 h.2))]at D;have Q:=Ab D.symm;clear D h0 h3 hj;go_wp2;go_quiet (fail)
      go_wp2;go_quiet (fail)
      go_wp2
      go_meet
      exact⟨o2,s2,X,r2,(Aa S).drewN _,Ab ((Aa aH).trans (Bi _ _ _)),B2 aJ _,Aa aK,Q⟩
   case rest=>
    obtain⟨o3,s3,v3,r3,N,bJ,Z,Y,I⟩:=hcut;have D:=(Aa HR).trans (Aa I);obtain⟨bM,bO,aB⟩:=P19.turn_row (b:=decide (i=0)) (k:=if i=0 then 0 else (ts[i-1]?).elim 0 (fun(t:Tk)=>t.1)) (n:=J) (t:=(k,tx,J,tc)) (out:=o2) aE aY (fun hf=>cB (by simp at hf;omega)) (by rw[D]) cJ;rw[D]at bM bO aB;simp only[qH,qT]at aB;have he:=Aa aI;rw[Aa I,if_neg (by simp)]at he;simp only at he;have dO:=Ab he;clear he D aI bG cM cR;have dU:b<wc.heap.size:=(qA.1 N.lies).1;have aD:=N.lies;have bA:=(N.alloc (.cells #[.int .u8 k,.string ⟨tx.toArray⟩,.int .i64 J,.int .i64 tc] 124)).lies;have bK:=Ab ((N.alloc (.cells #[.int .u8 k,.string ⟨tx.toArray⟩,.int .i64 J,.int .i64 tc] 124)).drew);have dA:=Ab (Fe wc (.int .u8 k) (.string ⟨tx.toArray⟩) (.int .i64 J) (.int .i64 tc) 124);obtain⟨⟨d0,j0⟩,⟨d1,j1⟩⟩:=Cb aD;obtain⟨⟨e0,m0⟩,⟨e1,m1⟩⟩:=Cb bA;obtain⟨⟨t0,_⟩,⟨t1,_⟩,⟨t2,_⟩,⟨t3,_⟩⟩:=A1 Y
    have cF:B≤(wc.alloc (.cells #[.int .u8 k,.string ⟨tx.toArray⟩,.int .i64 J,.int .i64 tc] 124)).drew.heap.size:=by
     show B≤(wc.alloc (.cells #[.int .u8 k,.string ⟨tx.toArray⟩,.int .i64 J,.int .i64 tc] 124)).heap.size;rw[qF];omega
    have cS:Below B w (wc.alloc (.cells #[.int .u8 k,.string ⟨tx.toArray⟩,.int .i64 J,.int .i64 tc] 124)).drew:=B2 (Cv Z (by omega) _) 1
    have dC:o3.length+1≤1000000000:=by
     revert aB aS;rcases Nat.eq_zero_or_pos i with h0|h0
     ·rw[if_pos h0,if_pos (by simp[h0])];omega
     ·rw[if_neg (by omega),if_neg (by simp;omega)];omega
    have cG:o3.length+1+2*g'+0≤100000000:=by
     revert aB aS;rcases Nat.eq_zero_or_pos i with h0|h0
     ·rw[if_pos h0,if_pos (by simp[h0])];omega
     ·rw[if_neg (by omega),if_neg (by simp;omega)];omega
    have dK:=Ab cG;clear aD bA Y N aB aS cG;go_wp2
    go_region_law (refine H9 (t:=(k,tx,J,tc)) (by rfl) _ _ (by rfl) (by rfl) (Aa bK).toks wc.heap.size 1 (by rfl) (Aa dA) dC cF ?_;intro g2 bE w2 aU U bQ;obtain⟨cZ,dR⟩:=(Aa bK).far0 U;obtain⟨⟨d5,j5⟩,⟨d6,j6⟩⟩:=Cb cZ)
    all_goals (
     have hQ:=(Aa bK).push0 U (by have:=aU;rw[←qT (a:=((k,tx,J,tc):Tk)),←qH]at this;exact this);have dB:=(Aa bK).below0 hB cS U (.slice (some ⟨g2,0,none⟩) (o3.length+1) bE);have dI:=Ab (((Aa bJ).trans ((Dj _ _ (.cells #[.int .u8 k,.string ⟨tx.toArray⟩,.int .i64 J,.int .i64 tc] 124)).trans (Bi _ _ 1))).trans (Fw (v':=.slice (some ⟨g2,0,none⟩) (o3.length+1) bE) (u:=.slice (some ⟨g2,0,none⟩) (o3.length+1) bE) U bQ));rw[qH,qT]at hQ;have HQ:=Ab hQ;clear hQ aU U bQ cZ dR d5 j5 d6 j6;go_wp2;go_roundg g'
     case measure=>omega
     case rel=>
      refine⟨i+1,o3++[(k,tx,J,tc)],s3,by omega,by go_num,bO,bM,by rw[if_neg (by omega),qH,qT];exact Aa dK,⟨_,_,Aa HQ,dI⟩,dB,Ab ?_⟩;rw[Aa dO,show decide (i+1=0)=false from by simp,if_neg (by omega),zL,Aa dM]
      rfl)
end Go.Proofs.YtnjokdbblmlhhaaGreatDoor
namespace Go.Proofs.YtnjokdbblmlhhaaGreatDoor
set_option maxHeartbeats 8000000
set_option maxRecDepth 100000
open Go.RowKit
theorem Rz{s:List UInt8}{i:Nat}{r:Nat × Nat × List UInt8}(h:(Dz s)[i]?=some r):r.2.1+r.2.2.length≤s.length:=by
 have D:r∈Dz s:=qN h
 obtain⟨l,hl,j,hj⟩:∃l∈Bk s,∃j,Dv j l=some r:=by
  have key:∀(k:Nat) (ls:List (List UInt8)) (r:Nat × Nat × List UInt8),r∈Bh k ls→∃l∈ls,∃i,Dv i l=some r:=by
   intro k ls
   induction ls generalizing k with
   |nil=>intro r h;simp[Bh]at h
   |cons l ls ih=>
    intro r h;unfold Bh at h;split at h
    ·obtain⟨l',h1,h2⟩:=ih (k+1) r h;exact⟨l',List.mem_cons_of_mem _ h1,h2⟩
    ·rename_i x hx
     rcases zN.1 h with rfl|h
     ·exact⟨l,List.mem_cons_self,k,hx⟩
     ·obtain⟨l',h1,h2⟩:=ih (k+1) r h;exact⟨l',List.mem_cons_of_mem _ h1,h2⟩
  exact key 0 _ r D
 have h1:=Gq hl;have h2:=Hv l;have h3:=Hr (C1 l);unfold Dv at hj;split at hj
 ·cases hj
 ·injection hj with hj;subst hj;simp only;omega
namespace P19
theorem weight_drop{rs:List (Nat × Nat × List UInt8)}{i:Nat}{r:Nat × Nat × List UInt8}(h:rs[i]?=some r):weight (rs.drop i)=r.2.2.length+1+weight (rs.drop (i+1)):=by
 obtain⟨hl,he⟩:=qI.1 h;rw[qL hl,he];unfold weight;rw[List.map_cons,List.sum_cons]
theorem weight_ge:∀rs:List (Nat × Nat × List UInt8),rs.length≤weight rs
 | []=>qJ _
 |r::rs=>by
  have ih:=weight_ge rs;unfold weight at ih ⊢;rw[List.map_cons,List.sum_cons,qE];omega
theorem toks_at(n col:Int)(s:List UInt8):LineOk n col s.length (toks n col s):=line_at _ _ _ _
end P19
theorem Pn{W:World}{B size n b i:Nat}{e:TypeId}{v u:Value}{xs:List Value}(h:W.ownsRow B e size v n xs)(hb:b<B):(W.setCell ⟨b,i,none⟩ u).ownsRow B e size v n xs:=
 Cj h (Ap W b i u) (.inr (fun e=>by have:=(World.ownsRow.lt h b e).1;omega))
theorem D8{w W:World}{B b i:Nat}{u:Value}(h:Below B w W)(hb:B≤b)(hs:B≤W.heap.size):Below B w (W.setCell ⟨b,i,none⟩ u):=
 h.grown (Ap W b i u) hs (fun k e=>by cases e;exact hb)
theorem A7.below{W W':World}{B b:Nat}{v r:Value}{out:List Tk}{st:List Int}(h:A7 W B b v r out st)(hb:Below W.heap.size W W'):A7 W' B b v r out st:=
 ⟨(hb.block b (qA.1 h.lies).1).trans h.lies,Ir h.toks hb,Ir h.row hb⟩
theorem A7.fresh{W:World}{B b g:Nat}{v r:Value}{out:List Tk}{st:List Int}(h:A7 W B b v r out st)(D:W.heap.size≤g):¬Mn b v r g:=by
 have h1:=(qA.1 h.lies).1;rintro(e|e|e)
 ·omega
 ·have:=(World.ownsRow.lt h.toks g e).2;omega
 ·have:=(World.ownsRow.lt h.row g e).2;omega
theorem Nq(s:ByteArray)(w:World)(hs:s.size≤1048576)(hf:(Bv s.data.toList).1≠0) :
  Calls Tryz.prog 32 #[.string s] w fun e w'=>e=.returned (.tuple #[.slice none 0 0,D3 (Bv s.data.toList)])∧Below w.heap.size w w':=by
 have I:=fun W=>Sz s W (by omega) hf;obtain⟨⟨Y,r2⟩,J⟩:∃R,Bv s.data.toList=R:=⟨_,rfl⟩;rw[J]at hf ⊢;simp only[J]at I;unfold D3 at I ⊢;have hne:(Y != 0)=true:=by simpa using hf
 have X:=Ab I;clear I J hf;have Z:Tryz.prog.follows .mixedOrders=true:=by kernel_rfl
 go_enter Tryz.func32,Tryz.ntmps32
 go_wp2_with (go_at_call 63;refine(Aa X _).mono ?_;rintro e w' ⟨rfl,hb⟩;have J:w'.heap[w.heap.size]?=some (.cells #[.int .i64 0,.int .i64 0] 29):=(hb.block _ (by simp)).trans (qB w _);have S:Below w.heap.size w w':=((qV _ w).alloc (qJ _) _).trans (hb.mono (by simp));clear hb)
 obtain⟨Q,D⟩:∃Q,w'.alloc (.cells #[.int .i64 Y,.int .i64 r2] 29)=Q:=⟨_,rfl⟩;have G:Q.heap[w.heap.size]?=some (.cells #[.int .i64 0,.int .i64 0] 29):=by rw[←D];exact(qD _ _ _ (qA.1 J).1).trans J
 have N:Q.heap[w'.heap.size]?=some (.cells #[.int .i64 Y,.int .i64 r2] 29):=by rw[←D];exact qB w' _
 have U:Below w.heap.size w Q:=by rw[←D];exact S.alloc S.size _
 rw[D];have x0:=(A9 G).1;have x1:=(A9 G).2;have x2:=(A8 G).1;have x3:=(A8 G).2;have y0:=(A9 N).1;have y2:=(A8 N).1;clear D J;go_region
 all_goals go_wp2
 all_goals refine qW (As rfl _ _ _ _ _ rfl (qX _ _ _ _ _ _ _ (Db (Da G _) _) Tryz.underlying29 rfl (by kernel_rfl))) rfl ⟨rfl,?_⟩
 all_goals exact En (Bq (Bq U 0 _ (qJ _)) 1 _ (qJ _))
theorem L5(s:ByteArray)(w:World)(hs:s.size≤1048576)(hf:(Bv s.data.toList).1=0) :
  Calls Tryz.prog 32 #[.string s] w fun e w'=>∃v,e=.returned (.tuple #[v,D3 (P19.allR true (Dz s.data.toList) [] [0] 0).2])∧Fc w' w.heap.size v (P19.allR true (Dz s.data.toList) [] [0] 0).1∧Below w.heap.size w w':=by
 have bH:=fun W=>Sl s W (by omega) hf;have aD:∀(i:Nat) (r:Nat × Nat × List UInt8),(Dz s.data.toList)[i]?=some r→r.2.1+r.2.2.length≤s.size:=fun i r h=>by rw[zP];exact Rz h
 have cA:=P19.weight_le s.data.toList;rw[←zP]at cA;obtain⟨rs,bE⟩:∃rs,Dz s.data.toList=rs:=⟨_,rfl⟩;rw[bE]at aD cA ⊢;have dC:=P19.weight_ge rs;simp only[bE]at bH;have cK:=Ab bH;have bR:=Ab aD;clear bH aD bE hf;have dI:Tryz.prog.follows .mixedOrders=true:=by kernel_rfl
 go_enter Tryz.func32,Tryz.ntmps32
 go_wp2_with (go_at_call 63;refine(Aa cK _).mono ?_;rintro e w' ⟨v,rfl,ho,hb⟩;have hR:w'.heap[w.heap.size]?=some (.cells #[.int .i64 0,.int .i64 0] 29):=(hb.block _ (by simp)).trans (qB w _);have aC:Below w.heap.size w w':=((qV _ w).alloc (qJ _) _).trans (hb.mono (by simp));clear hb;obtain⟨la,dB,rfl,bL⟩:=Nv ho;unfold D3;rw[qY])
 obtain⟨p,hp⟩:∃p,w'.heap.size=p:=⟨_,rfl⟩;obtain⟨h0,aA⟩:∃h,w.heap.size=h:=⟨_,rfl⟩;obtain⟨W3,U⟩:∃W3,((w'.alloc (.cells #[.int .i64 0,.int .i64 0] 29)).alloc (.cells #[.int .i64 0] 3)).alloc (.cells #[.slice none 0 0,.slice (some ⟨w'.heap.size+1,0,none⟩) 1 1] 105)=W3:=⟨_,rfl⟩;rw[U];rw[hp]at U bL ⊢;have cE:W3.heap.size=p+3:=by rw[←U,qF,qF,qF,hp]
 have bC:Below p w' W3:=by rw[←U,←hp];exact(((qV _ w').alloc (qJ _) _).alloc (by simp) _).alloc (by simp;omega) _
 have cY:A7 W3 (p+1) (p+2) (.slice none 0 0) (.slice (some ⟨p+1,0,none⟩) 1 1) [] [0]:=by
  rw[←U];refine⟨?_,World.ownsRow_nil _ _ _ _,?_⟩
  ·have:=qB ((w'.alloc (.cells #[.int .i64 0,.int .i64 0] 29)).alloc (.cells #[.int .i64 0] 3)) (.cells #[.slice none 0 0,.slice (some ⟨p+1,0,none⟩) 1 1] 105);rw[qF,qF,hp]at this;exact this
  ·have h1:=World.ownsRow_lit (e:=3) (size:=1) (base:=p+1) (w'.alloc (.cells #[.int .i64 0,.int .i64 0] 29)) #[.int .i64 0] 1 (by rw[qF];omega) (by unfold maxLen;omega) rfl;rw[qF,hp]at h1;exact World.ownsRow.alloc h1 _
 have cC:h0<p:=by rw[←aA,←hp];exact(qA.1 hR).1
 rw[aA]at hR aC ⊢;have bU:W3.heap[h0]?=some (.cells #[.int .i64 0,.int .i64 0] 29):=(bC.block h0 cC).trans hR;have cD:Below h0 w W3:=aC.trans (bC.mono (by omega));have cR:=Ab bL;clear U bL hR aC ho
 go_loopg [7,26] rs.length (fun g s7 cM wx=>∃(i:Nat) (o2:List Tk) (s2:List Int) (last:Int),i+g=rs.length∧s7=.int .i64 last∧cM=.int .i64 i∧P19.Row s2∧s2.length≤16∧o2.length+40*P19.weight (rs.drop i)≤100000000 ∧
  (∃v2 r2,A7 wx (p+1) (p+2) v2 r2 o2 s2)∧Below (p+1) W3 wx∧Hid (P19.allR true rs [] [0] 0=P19.allR (decide (i=0)) (rs.drop i) o2 s2 last))
 case atStart=>exact⟨0,[],[0],0,by omega,rfl,by go_num,P19.row_zero,by decide,by simp;omega,⟨_,_,cY⟩,qV _ _,Ab rfl⟩
 case round=>
  obtain⟨i,o2,s2,last,dF,rfl,rfl,J,bP,bW,⟨v2,r2,hN⟩,I,HE⟩:=hrel;have cF:wr.heap[h0]?=some (.cells #[.int .i64 0,.int .i64 0] 29):=(I.block h0 (by omega)).trans bU;have dD:p+3≤wr.heap.size:=by rw[←cE];exact I.size
  have aC:Below h0 w wr:=cD.trans (I.mono (by omega));cases gk with
  |zero=>
   have e1:(rs.length:Int)=(i:Int):=by omega
   have hd:rs.drop i=[]:=List.drop_eq_nil_of_le (by omega);have he:=Aa HE;rw[hd]at he;have HF:=Ab (show P19.allR true rs [] [0] 0=(o2++(P19.close last 0 0 s2).1,0,0) from he);have S:=Kf (p+1) (p+2) v2 r2 o2 s2 last 0 0 wr hN (by omega) (by omega) (by omega) J (by omega);have cI:=Ab S;clear hd he HE S hN;go_wp2_with (go_at_call 66;refine(Aa cI).mono ?_;rintro e w4 ⟨⟨vv,rfl⟩,⟨v4,r4,bI,dK⟩,aX⟩;obtain⟨⟨d0,j0⟩,⟨d1,j1⟩⟩:=Cb bI.lies;have aN:=(aX.block h0 (by omega)).trans cF;have x0:=(A9 aN).1;have x1:=(A9 aN).2;have x2:=(A8 aN).1;have x3:=(A8 aN).2;obtain⟨ao,am,dA,rfl⟩:=E8 bI.toks)
   refine qW (As rfl _ _ _ _ _ rfl (qX _ _ _ _ _ _ _ (Db (Da aN _) _) Tryz.underlying29 rfl (by kernel_rfl))) rfl ⟨_,by rw[Aa HF];rfl,?_,?_⟩
   ·rw[Aa HF];exact Fm (Pn (Pn bI.toks (by omega)) (by omega)) (by omega)
   ·rw[aA];exact D8 (D8 (aC.trans (aX.mono (by omega))) (by omega) (by have:=aX.size;omega)) (by omega) (by have:=aX.size;simp;omega)
  |succ g'=>
   have dH:(i:Int)<(rs.length:Int):=by omega
   have dG:IntKind.i64.wrap ((i:Int)+1)=(i:Int)+1:=qG _ (by omega);have cG:i<rs.length:=by omega
   have aB:rs[i]?=some rs[i]:=qO cG;obtain⟨⟨rn,X,rt⟩,hr⟩:∃r,rs[i]=r:=⟨_,rfl⟩;rw[hr]at aB;have cQ:=Aa bR i _ aB;simp only at cQ;have bS:=P19.weight_drop aB
   have bQ:rs.drop i=(rn,X,rt)::rs.drop (i+1):=by
    obtain⟨hl,he⟩:=qI.1 aB;rw[qL hl,he]
   rw[bS]at bW;simp only at bW;obtain⟨g,o,D,bG,c0,c1,c2⟩:=Aa cR i (Sc (rn,X,rt)) (by rw[zF,aB];rfl);subst D;have aO:Below p w' wr:=bC.trans (I.mono (by omega));have d0:=(Gn aO bG _).trans c0;have d1:=(Gn aO bG _).trans c1;have d2:=(Gn aO bG _).trans c2;unfold Sc at d0 d1 d2;simp only at d0 d1 d2;have bD:=fun W=>L3 rn X ⟨rt.toArray⟩ W (by rw[zP];simp;omega) (by omega) (by rw[zP];simp;omega);have D:=P19.toks_at rn X rt;have cT:=P19.toks_len rn X rt;have he:=Aa HE;rw[bQ,P19.allR]at he;unfold P19.rowT at he;obtain⟨⟨ts,E⟩,hT⟩:∃x,P19.toks rn X rt=x:=⟨_,rfl⟩;simp only[hT]at bD D cT he;have bT:=Ab bD;have bO:=Ab D;have aR:=Ab he;clear bD D he HE bQ aB hr c0 c1 c2 aO hT bS;have bZ:=hN.alloc (.cells #[.int .i64 rn,.int .i64 X,.string ⟨rt.toArray⟩] 107);have bN:=qB wr (.cells #[.int .i64 rn,.int .i64 X,.string ⟨rt.toArray⟩] 107);have bV:=Cv I (by omega) (.cells #[.int .i64 rn,.int .i64 X,.string ⟨rt.toArray⟩] 107);have bB:=Ab bZ;have N:=hN.fresh (qJ _);clear hN bZ;obtain⟨⟨k0,_⟩,⟨k1,_⟩,⟨k2,_⟩⟩:=Ay bN;go_upto_region 10 with(go_at_call 64;refine(Aa bT _).mono ?_;rintro e W5 ⟨v5,rfl,aY,Y⟩)
   have bX:=Y.size;rw[qF]at bX Y aY;have bY:=(Aa bB).below (by rw[qF];exact Y);have aU:=(Y.block _ (by omega)).trans bN;have aJ:Below (p+1) W3 W5:=bV.trans (Y.mono (by omega));have aE:W5.heap[h0]?=some (.cells #[.int .i64 0,.int .i64 0] 29):=(aJ.block h0 (by omega)).trans bU;have aK:Below h0 w W5:=cD.trans (aJ.mono (by omega));obtain⟨Hx,aZ⟩:∃H,wr.heap.size=H:=⟨_,rfl⟩;rw[aZ]at aU bX aY Y N;try rw[aZ]
   have dE:p+3≤Hx:=by omega
   have R:∀g,Hx+1≤g→¬Mn (p+2) v2 r2 g:=fun g hg=>(Aa bB).fresh (by rw[qF,aZ];exact hg);clear bN bV k0 k1 k2 d0 d1 d2 bB aC I cF;obtain⟨⟨k0,_⟩,⟨k1,_⟩,⟨k2,_⟩⟩:=Ay aU;have x0:=(A9 aE).1;have x1:=(A9 aE).2;have x2:=(A8 aE).1;have x3:=(A8 aE).2;have aQ:=Ab aU;have cJ:=Ab bY;have bM:=Ab aE;clear aU bY aZ;by_cases hE:E=0
   ·have cZ:(E==0)=true:=by simpa using hE
    have cL:(E != 0)=false:=by simpa using hE
    have he:=Aa aR;rw[if_neg (by simpa using hE)]at he;have aW:=Ab he;clear he aR hE;by_cases hc:decide (i=0)=true∧0<X
    ·have aS:((i:Int)==0)=true:=by have:=hc.1;simp at this;simp[this]
     have cB:(0:Int)<(X:Int):=by have:=hc.2;omega
     have he:=Aa aW;rw[if_pos hc]at he;have HF:=Ab he;clear he aW hc;go_wp2;go_region
     all_goals go_wp2
     all_goals (
      refine qW (As rfl _ _ _ _ _ rfl (qX _ _ _ _ _ _ _ (Db (Da (Aa bM) _) _) Tryz.underlying29 rfl (by kernel_rfl))) rfl ⟨_,by rw[Aa HF];rfl,?_,?_⟩
      ·rw[Aa HF];exact World.ownsRow_nil _ _ _ _
      ·rw[aA]
       exact En (D8 (D8 (aK) (by omega) (by omega)) (by omega) (by simp;omega)))
    ·have he:=Aa aW;rw[if_neg hc]at he;have D:=Aa bO;have Q:=P19.adds_row (n:=(rn:Int)) ts true 0 o2 s2 J bP (fun t ht=>by have:=(D.1 t ht).2.1;omega) (fun h=>by cases h) (fun t ht=>by have:=D.2.2 t ht;omega);have aL:=Td (p+1) (p+2) v2 r2 o2 s2 (Hx+1) v5 ts rn W5 (Aa cJ) (by omega) bP (by omega) J aY (fun g hg=>R g ((World.ownsRow.lt aY g hg).1)) (fun t ht=>⟨(D.1 t ht).1,by have:=(D.1 t ht).2.1;omega⟩) (fun t ht=>by have:=D.2.2 t ht;omega);obtain⟨⟨EA,oA,sA⟩,hA⟩:∃x,P19.adds rn true 0 ts o2 s2=x:=⟨_,rfl⟩;simp only[hA]at he aL Q;have bA:=Ab aL;have bJ:=Ab Q;have aT:=Ab he
     have aM:((i:Int)==0)=false∨(((i:Int)==0)=true∧(X:Int)≤0):=by
      rcases Nat.eq_zero_or_pos i with h|h
      ·right
       refine⟨by simp[h],?_⟩;have h3:¬0<X:=fun h2=>hc ⟨by simp[h],h2⟩;omega
      ·left;simp;omega
     clear he aW hc D aL Q hA bO bT R;by_cases G:EA=0
     ·have cS:(EA==0)=true:=by simpa using G
      have cX:(EA != 0)=false:=by simpa using G
      have he:=Aa aT;rw[if_neg (by simpa using G)]at he;obtain⟨cP,cW,cH⟩:=Aa bJ G;rw[if_pos trivial]at cH;have cO:=Ab he;have cN:=Ab G;clear he aT bJ G;rcases aM with aS|⟨aS,cB⟩
      all_goals (
       go_wp2_with (go_at_call 65;refine(Aa bA).mono ?_;rintro e W6 ⟨rfl,aG,bF,bK⟩;obtain⟨M6,aH⟩:=bF;have aI:=(aH.same Hx N (qA.1 (Aa aQ)).1).trans (Aa aQ);obtain⟨⟨q0,_⟩,⟨q1,_⟩,⟨q2,_⟩⟩:=Ay aI;clear aI aH)
       obtain⟨v6,r6,cV,_⟩:=bK (Aa cN);go_roundg g'
       case measure=>omega
       case rel=>exact⟨i+1,oA,sA,rn,by omega,rfl,by go_num,cP,cW,by omega,⟨v6,r6,cV⟩,aJ.trans aG,by rw[show decide (i+1=0)=false from by simp];exact cO⟩)
     ·have cS:(EA==0)=false:=by simpa using G
      have cX:(EA != 0)=true:=by simpa using G
      have he:=Aa aT;rw[if_pos G]at he;have HF:=Ab he;clear he aT bJ G;rcases aM with aS|⟨aS,cB⟩
      all_goals (
       go_wp2_with (go_at_call 65;refine(Aa bA).mono ?_;rintro e W6 ⟨rfl,aG,bF,bK⟩;obtain⟨M6,aH⟩:=bF;have aI:=(aH.same Hx N (qA.1 (Aa aQ)).1).trans (Aa aQ);obtain⟨⟨q0,_⟩,⟨q1,_⟩,⟨q2,_⟩⟩:=Ay aI;have Z:=(aG.block h0 (by omega)).trans (Aa bM);have z0:=(A9 Z).1;have z1:=(A9 Z).2;have z2:=(A8 Z).1;have z3:=(A8 Z).2;have cU:=Ab Z;clear aI aH Z bK)
       have dJ:=aG.size;go_region
       all_goals go_wp2
       all_goals (
        refine qW (As rfl _ _ _ _ _ rfl (qX _ _ _ _ _ _ _ (Db (Da (Aa cU) _) _) Tryz.underlying29 rfl (by kernel_rfl))) rfl ⟨_,by rw[Aa HF];rfl,?_,?_⟩
        ·rw[Aa HF];exact World.ownsRow_nil _ _ _ _
        ·rw[aA]
         exact En (D8 (D8 (aK.trans (aG.mono (by omega))) (by omega) (by omega)) (by omega) (by simp;omega))))
   ·have cZ:(E==0)=false:=by simpa using hE
    have cL:(E != 0)=true:=by simpa using hE
    have he:=Aa aR;rw[if_pos hE]at he;have HF:=Ab he;clear he aR hE;go_wp2;go_region
    all_goals go_wp2
    all_goals (
     refine qW (As rfl _ _ _ _ _ rfl (qX _ _ _ _ _ _ _ (Db (Da (Aa bM) _) _) Tryz.underlying29 rfl (by kernel_rfl))) rfl ⟨_,by rw[Aa HF];rfl,?_,?_⟩
     ·rw[Aa HF];exact World.ownsRow_nil _ _ _ _
     ·rw[aA]
      exact En (D8 (D8 (aK) (by omega) (by omega)) (by omega) (by simp;omega)))
end Go.Proofs.YtnjokdbblmlhhaaGreatDoor
namespace Go.Proofs.YtnjokdbblmlhhaaGreatDoor
set_option maxHeartbeats 8000000
set_option maxRecDepth 100000
open Go.RowKit
end Go.Proofs.YtnjokdbblmlhhaaGreatDoor
namespace Go.Proofs.YtnjokdbblmlhhaaGreatDoor
set_option maxHeartbeats 8000000
set_option maxRecDepth 100000
open Go.RowKit
end Go.Proofs.YtnjokdbblmlhhaaGreatDoor
namespace Go.Proofs.YtnjokdbblmlhhaaGreatDoor
set_option maxHeartbeats 8000000
set_option maxRecDepth 100000
open Go.RowKit
end Go.Proofs.YtnjokdbblmlhhaaGreatDoor
namespace Go.Proofs.YtnjokdbblmlhhaaGreatDoor
set_option maxHeartbeats 8000000
set_option maxRecDepth 100000
open Go.RowKit
theorem G7:∀(ts:List Tk) (i:Nat) (t:Tk),ts[i]?=some t→(A5 ts)[i*4]?=some (.int .u8 t.1)∧(A5 ts)[i*4+1]?=some (C0 t.2.1)∧(A5 ts)[i*4+2]?=some (.int .i64 t.2.2.1)∧(A5 ts)[i*4+3]?=some (.int .i64 t.2.2.2)
 | [],i,t,h=>by simp at h
 |a::ts,0,t,h=>by
  simp at h;subst h;exact⟨rfl,rfl,rfl,rfl⟩
 |a::ts,i+1,t,h=>by
  have ih:=G7 ts i t (by simpa using h);have e:A5 (a::ts)=Df a++A5 ts:=rfl;have D:(Df a).length=4:=rfl;rw[e,zA (by omega),zA (by omega),zA (by omega),zA (by omega),D];rw[show (i+1)*4-4=i*4 from by omega,show (i+1)*4+1-4=i*4+1 from by omega,show (i+1)*4+2-4=i*4+2 from by omega,show (i+1)*4+3-4=i*4+3 from by omega];exact ih
end Go.Proofs.YtnjokdbblmlhhaaGreatDoor
namespace Go.Proofs.YtnjokdbblmlhhaaGreatDoor
set_option maxHeartbeats 8000000
set_option maxRecDepth 100000
open Go.RowKit
theorem N8(s:ByteArray)(w:World)(hs:s.size≤1048576) :
  Calls Tryz.prog 32 #[.string s] w fun e w'=>∃v,e=.returned (.tuple #[v,D3 (P19.all s.data.toList).2])∧Fc w' w.heap.size v (P19.all s.data.toList).1∧Below w.heap.size w w':=by
 unfold P19.all;by_cases hf:(Bv s.data.toList).1=0
 ·rw[if_neg (by simpa using hf)];exact L5 s w hs hf
 ·rw[if_pos hf];exact(Nq s w hs hf).mono fun e w' ⟨h1,h2⟩=>⟨_,h1,World.ownsRow_nil _ _ _ _,h2⟩
end Go.Proofs.YtnjokdbblmlhhaaGreatDoor
namespace Go.Proofs.YtnjokdbblmlhhaaGreatDoor
set_option maxHeartbeats 8000000
set_option maxRecDepth 100000
open Go.RowKit
end Go.Proofs.YtnjokdbblmlhhaaGreatDoor
