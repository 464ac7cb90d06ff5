import Derived.Shelf.SlSortCmp.NoneTotal
import Derived.Test.YtefokfbgpfcbkaaGreatN28xZ
set_option maxRecDepth 100000
set_option maxHeartbeats 8000000
namespace Go.Proofs
open Go.Shelf
def Tryz.sortDiag_ren:Go.Shelf.Ren:=⟨fun|6=>193|15=>207|14=>216|28=>237|29=>238|20=>241|21=>242|22=>243|23=>244|24=>245|25=>246|26=>247|27=>248|46=>261|47=>256|48=>257|49=>262|50=>263|57=>268|n=>n,fun|22=>124|24=>183|25=>241|3=>3|39=>254|0=>0|53=>279|55=>281|4=>4|46=>273|45=>272|50=>44|5=>5|9=>9|66=>290|70=>177|76=>297|77=>218|n=>n,fun|n=>n⟩
theorem Tryz.sortDiag:Go.Proofs.SlLaysF0.n6 Tryz.prog Tryz.sortDiag_ren:={
 mixed:=by kernel_rfl
 f6:=⟨Tryz.f193.name,by decide,Tryz.func193.trans (congrArg some (by kernel_rfl))⟩
 f14:=⟨Tryz.f216.name,by decide,Tryz.func216.trans (congrArg some (by kernel_rfl))⟩
 f15:=Tryz.func207.trans (congrArg some (by kernel_rfl))
 f20:=⟨Tryz.f241.name,by decide,Tryz.func241.trans (congrArg some (by kernel_rfl))⟩
 f21:=⟨Tryz.f242.name,by decide,Tryz.func242.trans (congrArg some (by kernel_rfl))⟩
 f22:=⟨Tryz.f243.name,by decide,Tryz.func243.trans (congrArg some (by kernel_rfl))⟩
 f23:=⟨Tryz.f244.name,by decide,Tryz.func244.trans (congrArg some (by kernel_rfl))⟩
 f24:=⟨Tryz.f245.name,by decide,Tryz.func245.trans (congrArg some (by kernel_rfl))⟩
 f25:=⟨Tryz.f246.name,by decide,Tryz.func246.trans (congrArg some (by kernel_rfl))⟩
 f26:=⟨Tryz.f247.name,by decide,Tryz.func247.trans (congrArg some (by kernel_rfl))⟩
 f27:=⟨Tryz.f248.name,by decide,Tryz.func248.trans (congrArg some (by kernel_rfl))⟩
 f28:=Tryz.func237.trans (congrArg some (by kernel_rfl))
 f29:=Tryz.func238.trans (congrArg some (by kernel_rfl))
 f46:=⟨Tryz.f261.name,by decide,Tryz.func261.trans (congrArg some (by kernel_rfl))⟩
 f47:=Tryz.func256.trans (congrArg some (by kernel_rfl))
 f48:=Tryz.func257.trans (congrArg some (by kernel_rfl))
 f49:=⟨Tryz.f262.name,by decide,Tryz.func262.trans (congrArg some (by kernel_rfl))⟩
 f50:=⟨Tryz.f263.name,by decide,Tryz.func263.trans (congrArg some (by kernel_rfl))⟩
 f57:=⟨Tryz.f268.name,by decide,Tryz.func268.trans (congrArg some (by kernel_rfl))⟩
 t0:=Tryz.underlying0
 a0:=Tryz.isAgg0
 z0:=Tryz.sizeOf0
 v0:=Tryz.zeroValue0
 t3:=Tryz.underlying3
 a3:=Tryz.isAgg3
 z3:=Tryz.sizeOf3
 v3:=Tryz.zeroValue3
 t4:=Tryz.underlying4
 a4:=Tryz.isAgg4
 z4:=Tryz.sizeOf4
 v4:=Tryz.zeroValue4
 t5:=Tryz.underlying5
 a5:=Tryz.isAgg5
 z5:=Tryz.sizeOf5
 v5:=Tryz.zeroValue5
 t9:=Tryz.underlying9
 a9:=Tryz.isAgg9
 z9:=Tryz.sizeOf9
 v9:=Tryz.zeroValue9
 t22:=Tryz.underlying124
 a22:=Tryz.isAgg124
 z22:=Tryz.sizeOf124
 v22:=Tryz.zeroValue124
 t25:=Tryz.underlying241
 a25:=Tryz.isAgg241
 z25:=Tryz.sizeOf241
 v25:=Tryz.zeroValue241
 t39:=Tryz.underlying254
 a39:=Tryz.isAgg254
 z39:=Tryz.sizeOf254
 v39:=Tryz.zeroValue254
 t45:=Tryz.underlying272
 a45:=Tryz.isAgg272
 z45:=Tryz.sizeOf272
 v45:=Tryz.zeroValue272
 t46:=Tryz.underlying273
 a46:=Tryz.isAgg273
 z46:=Tryz.sizeOf273
 v46:=Tryz.zeroValue273
 t50:=Tryz.underlying44
 a50:=Tryz.isAgg44
 z50:=Tryz.sizeOf44
 v50:=Tryz.zeroValue44
 t53:=Tryz.underlying279
 a53:=Tryz.isAgg279
 z53:=Tryz.sizeOf279
 v53:=Tryz.zeroValue279
 t55:=Tryz.underlying281
 a55:=Tryz.isAgg281
 z55:=Tryz.sizeOf281
 v55:=Tryz.zeroValue281
 t66:=Tryz.underlying290
 a66:=Tryz.isAgg290
 z66:=Tryz.sizeOf290
 v66:=Tryz.zeroValue290
 t70:=Tryz.underlying177
 a70:=Tryz.isAgg177
 z70:=Tryz.sizeOf177
 v70:=Tryz.zeroValue177
 t76:=Tryz.underlying297
 a76:=Tryz.isAgg297
 z76:=Tryz.sizeOf297
 v76:=Tryz.zeroValue297
 t77:=Tryz.underlying218
 a77:=Tryz.isAgg218
 z77:=Tryz.sizeOf218
 v77:=Tryz.zeroValue218 }
end Go.Proofs
set_option linter.unusedVariables false
set_option linter.unusedSimpArgs false
namespace Go.Proofs.YtefokfbgpfcbkaaGreat
open Go.RowKit
namespace P20
def shortKs(ks:List (List UInt8)):Bool:=ks.all (fun x=>decide (x.length≤200))
mutual
def T.small:Nat→T→Nat→Option Nat
 |lv,.mk k t ks ds l,n=>if lv=0∨n=0∨5000<t.length∨200<ks.length∨shortKs ks=false then none else smallL (lv-1) ds (n-1)
def smallL:Nat→List T→Nat→Option Nat
 |_,[],n=>some n
 |lv,d::ds,n=>match d.small lv n with
  |none=>none
  |some m=>smallL lv ds m
end
theorem short_all{ks:List (List UInt8)}(h:¬shortKs ks=false):∀x∈ks,x.length≤200:=by
 intro x hx;simp[shortKs]at h;exact h x hx
mutual
theorem T.size_le:∀(d:T) (lv:Nat),(d.size lv).1≤lv
 | .mk k t ks ds l,lv=>by
  have:=sizeL_le ds (lv-1);unfold T.size;split
  ·simp
  ·show _+1≤lv;omega
theorem sizeL_le:∀(ds:List T) (lv:Nat),(sizeL lv ds).1≤lv
 | [],lv=>by simp[sizeL]
 |d::ds,lv=>by
  have:=T.size_le d lv;have:=sizeL_le ds lv;unfold sizeL;show max _ _≤lv;omega
end
mutual
theorem T.small_ok:∀(d:T) (lv n m:Nat),d.small lv n=some m→n≤1000000000→1≤lv∧n=m+(d.size lv).2∧1≤(d.size lv).2∧Ov d∧d.cut lv=d
 | .mk k t ks ds l,lv,n,m,h,hn=>by
  unfold T.small at h;split at h
  ·cases h
  ·rename_i h0
   simp only[not_or]at h0;obtain⟨h1,h2,h3,h4,Z⟩:=h0;obtain⟨q1,q2,I,J,q5⟩:=smallL_ok ds (lv-1) (n-1) m h (by omega);have hs:(T.mk k t ks ds l).size lv=((sizeL (lv-1) ds).1+1,(sizeL (lv-1) ds).2+1):=by unfold T.size;rw[if_neg h1]
   rw[hs];refine⟨by omega,by show n=m+(_+1);omega,by show 1≤_+1;omega,?_,?_⟩
   ·unfold Ov;exact⟨by omega,by omega,fun x hx=>by have:=short_all Z x hx;omega,by omega,I⟩
   ·unfold T.cut;split
    ·rw[q5]
    ·rename_i hl
     rw[J (by omega)]
theorem smallL_ok:∀(ds:List T) (lv n m:Nat),smallL lv ds n=some m→n≤1000000000→n=m+(sizeL lv ds).2∧ds.length≤(sizeL lv ds).2∧Ow ds∧(lv=0→ds=[])∧cutL lv ds=ds
 | [],lv,n,m,h,hn=>by
  simp only[smallL,zK]at h;refine⟨by simp[sizeL,h],by simp[sizeL],trivial,fun _=>rfl,rfl⟩
 |d::ds,lv,n,m,h,hn=>by
  unfold smallL at h;split at h
  ·cases h
  ·rename_i m1 hm1
   obtain⟨q1,q2,q3,J,Z⟩:=T.small_ok d lv n m1 hm1 hn;obtain⟨r1,r2,r3,r4,I⟩:=smallL_ok ds lv m1 m h (by omega);unfold sizeL Ow cutL;refine⟨by show n=m+(_+_);omega,by show _+1≤_+_;omega,⟨J,r3⟩,fun e=>by omega,by rw[Z,I]⟩
end
end P20
def N0(d:Nd):Prop:=∀(lv:Nat) (w:World),d.In w→lv≤1000→(d.bare.size lv).2≤1000000000→Calls Tryz.prog 160 #[d.val,.int .i64 lv] w fun x w'=>x=.returned (.tuple #[.int .i64 (d.bare.size lv).1,.int .i64 (d.bare.size lv).2])∧Below w.heap.size w w'
theorem Tm(lv:Nat){ds:List Nd}{i:Nat}{d:Nd}(h:ds[i]?=some d):P20.sizeL lv (Ay (ds.take (i+1)))=(max (P20.sizeL lv (Ay (ds.take i))).1 (d.bare.size lv).1,(P20.sizeL lv (Ay (ds.take i))).2+(d.bare.size lv).2):=by
 have e:∀(a:List P20.T) (x:P20.T),P20.sizeL lv (a++[x])=(max (P20.sizeL lv a).1 (x.size lv).1,(P20.sizeL lv a).2+(x.size lv).2):=fun a x=>by
  induction a with
  |nil=>simp[P20.sizeL]
  |cons y a ih=>simp only[zQ,P20.sizeL,ih];refine Prod.ext ?_ ?_<;>simp only<;>omega
 have ht:ds.take (i+1)=ds.take i++[d]:=by rw[List.take_add_one,h];rfl
 rw[ht,Dj];exact e _ _
theorem Lq(lv:Nat)(ds:List Nd)(i:Nat):(P20.sizeL lv (Ay (ds.take i))).2≤(P20.sizeL lv (Ay ds)).2:=by
 have e:∀(a b:List P20.T),(P20.sizeL lv (a++b)).2=(P20.sizeL lv a).2+(P20.sizeL lv b).2:=fun a b=>by
  induction a with
  |nil=>simp[P20.sizeL]
  |cons y a ih=>simp only[zQ,P20.sizeL,ih];omega
 have:=e (Ay (ds.take i)) (Ay (ds.drop i));rw[←Dj,zI]at this;omega
theorem Wl(lv:Nat){ds:List Nd}{d:Nd}(h:d∈ds):(d.bare.size lv).2≤(P20.sizeL lv (Ay ds)).2:=by
 induction ds with
 |nil=>simp at h
 |cons y a ih=>
  simp only[Ay,P20.sizeL];rcases zW.1 h with rfl|h
  ·omega
  ·have:=ih h;omega
theorem Tg(k:Nat)(t:List UInt8)(ka:Option Addr)(kc:Nat)(ks:List (List UInt8))(da:Option Addr)(dc:Nat)(ds:List Nd)(l:Int)(aJ:∀d∈ds,N0 d):N0 (.mk k t ka kc ks da dc ds l):=by
 intro lv w I bG hsz;have e2:=I.fit.kidsL;simp only[Nd.kids]at e2;obtain⟨n,hN⟩:=qeX ds.length;have aE:=I.kids;simp only[Nd.da,Nd.kids]at aE;obtain⟨W,hW⟩:=qeX (w.alloc (.cells #[.int .u8 k,.string ⟨t.toArray⟩,.slice ka ks.length kc,.slice da n dc,.int .i64 l] 61));have hb:Below w.heap.size w W:=by rw[←hW];exact(qU _ w).alloc (qJ _) _
 have g0:W.heap[w.heap.size]?=some (.cells #[.int .u8 k,.string ⟨t.toArray⟩,.slice ka ks.length kc,.slice da n dc,.int .i64 l] 61):=by rw[←hW];exact qB _ _
 have aM:w.heap.size<W.heap.size:=(qA.1 g0).1;rw[Nd.val_eq,hN];have aX:=Ab aE;have aW:=Ab aJ;have HW:=Ab hW;have HB:=Ab hb;have aU:=Ab g0;have HN:=Ab hN;unfold maxLen at e2;rw[hN]at e2;simp only[Nd.bare,P20.T.size]at hsz ⊢;clear hW g0 I aJ hb aE hN;cases lv with
 |zero=>
  rw[if_pos rfl];clear hsz;go_enter Tryz.func160,Tryz.ntmps160
  go_upto_region 1 with fail
  rw[Aa HW];go_wp2;exact qV (results_tmp2 rfl _ _ _) rfl ⟨rfl,Aa HB⟩
 |succ lv=>
  rw[if_neg (by omega)]at hsz ⊢;simp only[Nat.add_sub_cancel]at hsz ⊢;have aS:IntKind.i64.wrap (((lv+1:Nat):Int)-1)=(lv:Int):=by rw[qG _ (by omega)];omega
  have jl:(1:Int)≤((lv+1:Nat):Int):=by omega
  obtain⟨L1,aC⟩:∃L1:Int,((lv+1:Nat):Int)=L1:=⟨_,rfl⟩;rw[aC]at aS jl ⊢;have aI:=Ab hsz;have bQ:=Ab aC;clear hsz aC;go_enter Tryz.func160,Tryz.ntmps160
  go_upto_region 1 with fail
  rw[Aa HW];go_wp2
  go_loopg [6,7,8] n (fun g s6 s7 s8 wx=>∃(i x y:Nat),i+g=n∧s6=.int .i64 x∧s7=.int .i64 y∧s8=.int .i64 i∧Hid (P20.sizeL lv (Ay (ds.take i))=(x,y-1))∧1≤y∧Hid (Below W.heap.size W wx))
  case atStart=>exact⟨0,0,1,by omega,by go_num,by go_num,by go_num,Ab (by simp[Ay,P20.sizeL]),by omega,Ab (qU _ _)⟩
  case round=>
   obtain⟨i,x,y,bK,rfl,rfl,rfl,HS,bF,aH⟩:=hrel;have aG:=Aa aH;obtain⟨⟨x0,_⟩,⟨x1,_⟩,⟨x2,_⟩,⟨x3,_⟩,⟨x4,_⟩⟩:=Al ((aG.block w.heap.size aM).trans (Aa aU));have aK:Below w.heap.size w wr:=(Aa HB).trans (aG.mono (Aa HB).size);have aL:=Ab aK;have bM:x≤lv:=by have:=P20.sizeL_le (Ay (ds.take i)) lv;rw[Aa HS]at this;exact this
   have bL:y≤1000000000:=by have:=Lq lv ds i;rw[Aa HS]at this;have:=Aa aI;simp only at *;omega
   clear aG aK;cases gk with
   |zero=>
    have e1:(n:Int)=(i:Int):=by omega
    have HQ:=Ab (show i=n by omega);have bO:IntKind.i64.wrap ((x:Int)+1)=(x:Int)+1:=qG _ (by omega);go_wp2;refine qV (results_tmp2 rfl _ _ _) rfl ⟨?_,Aa aL⟩;have h9:=Aa HS;rw[Aa HQ,←Aa HN,List.take_length]at h9;rw[h9];show Ending.returned (.tuple #[.int .i64 ((x:Int)+1),.int .i64 (y:Int)])=_;simp only;rw[show (((x+1:Nat)):Int)=(x:Int)+1 from by omega,show (((y-1+1:Nat)):Int)=(y:Int) from by omega]
   |succ g'=>
    have bW:(i:Int)<(n:Int):=by omega
    have bV:IntKind.i64.wrap ((i:Int)+1)=(i:Int)+1:=qG _ (by omega);obtain⟨d,J⟩:=Ap (Aa HN) (show i<n by omega);have Z:=Tm lv J;rw[Aa HS]at Z;have aA:=Wl lv (qN J);have aB:=Aa aW d (qN J);obtain⟨b,o,k1,t1,aN,aT,aO,aP,bC,aR,l1,rfl,rfl,c0,c1,c2,c3,c4,I⟩:=Ds ((Aa aX).below (Aa aL)) J;obtain⟨p,hp⟩:=qeX ((Nd.mk k1 t1 aN aT aO aP bC aR l1).bare.size lv);have bJ:p.1≤lv:=by rw[←hp];exact P20.T.size_le _ _
    rw[hp]at Z aA;have aY:p.2≤1000000000:=by have:=Aa aI;omega
    have aD:=aB lv wr I (by omega) (by rw[hp];exact aY);rw[Nd.val_eq,hp]at aD
    have bU:y-1+p.2≤1000000000:=by
     have:=Lq lv ds (i+1);rw[Z]at this;have:=Aa aI;simp only at *;omega
    have bD:=Ab aD;have aQ:=Ab Z;have bI:=Ad c0;have bT:IntKind.i64.wrap ((y:Int)+(p.2:Int))=(y:Int)+(p.2:Int):=qG _ (by omega);clear aB aD J I hp Z aA HS;go_wp2_with (go_at_call 160;refine(Aa bD).mono ?_;rintro x' w2 ⟨rfl,aZ⟩)
    have bE:=Ab ((Aa aH).trans (aZ.mono (Aa aH).size));go_roundg g'
    case measure=>omega
    case rel=>exact⟨i+1,max x p.1,y+p.2,by omega,by go_num,by go_num,by go_num,Ab (by rw[Aa aQ];refine Prod.ext rfl ?_;show y-1+p.2=y+p.2-1;omega),by omega,bE⟩
theorem Wh(d:Nd):N0 d:=Nd.ind (p:=N0) Tg d
theorem K9{W:World}{g:Nat}{t:TypeId}{a:Value}(h:W.heap[g]?=some (.cells #[a] t)):W.cell? ⟨g,0,none⟩=some a∧W.frozen? ⟨g,0,none⟩=false:=by
 simp[World.cell?,World.frozen?,h]
theorem Vt{W:World}{g:Nat}{t:TypeId}{a:Value}(h:W.heap[g]?=some (.cells #[a] t))(v:Value):(W.setCell ⟨g,0,none⟩ v).heap[g]?=some (.cells #[v] t):=by
 simp[World.setCell,Array.getElem?_modify,h]
theorem Qk(W:World)(g:Nat)(v:Value):W.grownBy (W.setCell ⟨g,0,none⟩ v) (some g):=
 ⟨rfl,rfl,rfl,by simp,fun i hi I=>qC _ _ _ _ (by show i≠g;rintro rfl;exact I rfl)⟩
def U0(w:World)(b:Nat)(o:Option Nat)(x:Ending)(w':World):Prop:=
 x=.returned (.bool o.isSome)∧Hid (w.grownBy w' (some b))∧∀m,o=some m→w'.heap[b]?=some (.cells #[.int .i64 (m:Nat)] 3)
def Kb(d:Nd):Prop:=∀(lv b n:Nat) (w:World),d.In w→lv≤1000→n≤1000000000→¬d.blk b→w.heap[b]?=some (.cells #[.int .i64 (n:Nat)] 3) →
 Calls Tryz.prog 108 #[d.val,.int .i64 lv,qP0 b] w (U0 w b (d.bare.small lv n))
theorem Q9(lv:Nat){ds:List Nd}{i:Nat}{d:Nd}(h:ds[i]?=some d)(m:Nat):P20.smallL lv (Ay (ds.drop i)) m=match d.bare.small lv m with|none=>none|some q=>P20.smallL lv (Ay (ds.drop (i+1))) q:=by
 rw[Ev h];rfl
theorem Tl{ks:List (List UInt8)}{i:Nat}{x:List UInt8}(h:ks[i]?=some x):P20.shortKs (ks.drop i)=(decide (x.length≤200)&&P20.shortKs (ks.drop (i+1))):=by
 obtain⟨h1,h2⟩:=qI.1 h;rw[qL h1,h2];rfl
theorem Q3(k:Nat)(t:List UInt8)(ka:Option Addr)(kc:Nat)(ks:List (List UInt8))(da:Option Addr)(dc:Nat)(ds:List Nd)(l:Int)(aY:∀d∈ds,Kb d):Kb (.mk k t ka kc ks da dc ds l):=by
 intro lv b n w aA cN hn aE hb;have hf:=aA.fit;have e1:=hf.keysL;have e2:=hf.kidsL;have e3:=hf.text;simp only[Nd.keys,Nd.kids,Nd.text]at e1 e2 e3;unfold maxLen at e1 e2 e3;obtain⟨N,hN⟩:=qeX ds.length;obtain⟨M,hM⟩:=qeX ks.length;have bF:b<w.heap.size:=(qA.1 hb).1;obtain⟨H,hH⟩:=qeX w.heap.size;obtain⟨W,hW⟩:=qeX (w.alloc (.cells #[.int .u8 k,.string ⟨t.toArray⟩,.slice ka M kc,.slice da N dc,.int .i64 l] 61));have aU:Below w.heap.size w W:=by rw[←hW];exact(qU _ w).alloc (qJ _) _
 have g0:W.heap[H]?=some (.cells #[.int .u8 k,.string ⟨t.toArray⟩,.slice ka M kc,.slice da N dc,.int .i64 l] 61):=by rw[←hW,←hH];exact qB _ _
 have aX:=(aU.block b bF).trans hb;have bJ:=A4 aU (some b);rw[hH]at bF;obtain⟨V,hV⟩:=qeX (W.setCell ⟨b,0,none⟩ (.int .i64 ((n:Int)-1)));have aR:w.grownBy V (some b):=by rw[←hV];exact Cu bJ (Qk W b _)
 have aT:V.heap[b]?=some (.cells #[.int .i64 ((n:Int)-1)] 3):=by rw[←hV];exact Vt aX _
 have aG:V.heap[H]?=some (.cells #[.int .u8 k,.string ⟨t.toArray⟩,.slice ka M kc,.slice da N dc,.int .i64 l] 61):=by rw[←hV];exact(qC _ _ _ _ (by show H≠b;omega)).trans g0
 obtain⟨c0,f0⟩:=K9 aX;obtain⟨c1,f1⟩:=K9 aT;obtain⟨⟨x0,_⟩,⟨x1,_⟩,⟨x2,_⟩,⟨x3,_⟩,⟨x4,_⟩⟩:=Al aG;have cO:IntKind.i64.wrap ((n:Int)-1)=(n:Int)-1:=qG _ (by omega);have J:(Nd.mk k t ka kc ks da dc ds l).In V:=aA.grown aR (fun r e=>by cases e;exact aE);have aO:=J.kids;have aN:=J.fit.keys;simp only[Nd.da,Nd.kids,Nd.ka,Nd.keys]at aO aN;have bK:∀d∈ds,¬d.blk b:=fun d hd hx=>aE (by simp only[Nd.blk];exact .inr (.inr ((Hq b ds).2 ⟨d,hd,hx⟩)));have cD:H<V.heap.size:=(qA.1 aG).1;rw[Nd.val_eq,hN,hM];simp only[Nd.bare,P20.T.small];have HW:=Ab hW;have HV:=Ab hV;have Z:=Ab aR;have bO:=Ab aG;have bY:=Ab aT;have cP:=Ab aO;have cC:=Ab aN;have cG:=Ab aY;have cA:=Ab bK;have bC:=Ab J;have bV:=Ab aE;have HH:=Ab hH;have HN:=Ab hN;have HM:=Ab hM;rw[hM];rw[hM]at e1;rw[hN]at e2;clear aA aE hb hf aU g0 aX bJ aR aG aT J aO aN aY bK hW hV hN hM hH;by_cases hz:lv=0∨n=0∨5000<t.length∨200<M
 ·rw[if_pos (by rcases hz with h|h|h|h<;>simp[h])];by_cases h1:lv=0
  ·have j1:(lv:Int)<1:=by omega
   clear hz h1 x0 x1 x2 x3 x4;go_enter Tryz.func108,Tryz.ntmps108
   go_upto_region 1 with fail
   try rw[Aa HH]
   rw[Aa HW];go_upto_region 2 with fail
   rw[Aa HV];go_wp2;go_ret;exact⟨rfl,Z,fun m h=>by cases h⟩
  ·have j1:(1:Int)≤(lv:Int):=by omega
   by_cases h2:n=0
   ·have j2:(n:Int)-1<0:=by omega
    clear hz h1 h2 x0 x1 x2 x3 x4;go_enter Tryz.func108,Tryz.ntmps108
    go_upto_region 1 with fail
    try rw[Aa HH]
    rw[Aa HW];go_upto_region 2 with fail
    rw[Aa HV];go_wp2;go_ret;exact⟨rfl,Z,fun m h=>by cases h⟩
   ·have j2:(0:Int)≤(n:Int)-1:=by omega
    by_cases h3:5000<t.length
    ·have j3:(5000:Int)<(t.length:Int):=by omega
     clear hz h1 h2 h3;go_enter Tryz.func108,Tryz.ntmps108
     go_upto_region 1 with fail
     try rw[Aa HH]
     rw[Aa HW];go_upto_region 2 with fail
     rw[Aa HV];go_wp2;go_ret;exact⟨rfl,Z,fun m h=>by cases h⟩
    ·have j3:(t.length:Int)≤5000:=by omega
     have j4:(200:Int)<(M:Int):=by rcases hz with h|h|h|h<;>omega
     clear hz h1 h2 h3;go_enter Tryz.func108,Tryz.ntmps108
     go_upto_region 1 with fail
     try rw[Aa HH]
     rw[Aa HW];go_upto_region 2 with fail
     rw[Aa HV];go_wp2;go_ret;exact⟨rfl,Z,fun m h=>by cases h⟩
 have j1:(1:Int)≤(lv:Int):=by omega
 have j2:(0:Int)≤(n:Int)-1:=by omega
 have j3:(t.length:Int)≤5000:=by omega
 have j4:(M:Int)≤200:=by omega
 have cM:IntKind.i64.wrap ((lv:Int)-1)=(lv:Int)-1:=qG _ (by omega)
 have aZ:(if lv=0∨n=0∨5000<t.length∨200<M∨P20.shortKs ks=false then none else P20.smallL (lv-1) (Ay ds) (n-1))=if P20.shortKs (ks.drop 0)=false then none else P20.smallL (lv-1) (Ay ds) (n-1):=by
  rw[List.drop_zero];by_cases h:P20.shortKs ks=false
  ·rw[if_pos (by simp[h]),if_pos h]
  ·rw[if_neg (by rintro(h1|h1|h1|h1|h1)<;>first|exact hz (.inl h1)|exact hz (.inr (.inl h1))|exact hz (.inr (.inr (.inl h1)))|exact hz (.inr (.inr (.inr h1)))|exact h h1),if_neg h]
 rw[aZ];obtain⟨O,hO⟩:=qeX ((if P20.shortKs (ks.drop 0)=false then none else P20.smallL (lv-1) (Ay ds) (n-1)));rw[hO];have HO:=Ab hO;have HZ:=Ab hz;clear aZ hO hz;go_enter Tryz.func108,Tryz.ntmps108
 go_upto_region 1 with fail
 try rw[Aa HH]
 rw[Aa HW];go_upto_region 2 with fail
 rw[Aa HV];go_wp2
 go_loopg [7] M (fun g s7 wx=>∃i:Nat,i+g=M∧s7=.int .i64 i∧Hid ((if P20.shortKs (ks.drop i)=false then none else P20.smallL (lv-1) (Ay ds) (n-1))=O)∧V=wx)
 case atStart=>exact⟨0,by omega,by go_num,HO,rfl⟩
 case round=>
  obtain⟨i,cK,rfl,HI,rfl⟩:=hrel;cases gk with
  |succ g'=>
   have cB:(i:Int)<(M:Int):=by omega
   have cH:IntKind.i64.wrap ((i:Int)+1)=(i:Int)+1:=qG _ (by omega);obtain⟨x,hx⟩:=Ap (Aa HM) (show i<M by omega);obtain⟨b1,o1,rfl,hc⟩:=Aa cC i x hx;have hI:=Aa HI;rw[Tl hx]at hI;clear hx;by_cases aD:x.length≤200
   ·have jx:(x.length:Int)≤200:=by omega
    rw[decide_eq_true aD,Bool.true_and]at hI;have aM:=Ab hI;clear hI aD;go_wp2;go_roundg g'
    case measure=>omega
    case rel=>exact⟨i+1,by omega,by go_num,aM,rfl⟩
   ·have jx:(200:Int)<(x.length:Int):=by omega
    rw[decide_eq_false aD,Bool.false_and,if_pos rfl]at hI;subst hI;clear aD;go_wp2;go_ret;exact⟨rfl,Z,fun m h=>by cases h⟩
  |zero=>
   have e1:(M:Int)=(i:Int):=by omega
   have hI:=Aa HI;rw[qM (by rw[Aa HM];omega),if_neg (by simp[P20.shortKs])]at hI;have aM:=Ab hI;clear hI HI HO;go_wp2;clear x0 x1 x2 x3 x4 c0 f0 c1 f1 e1
   go_loopg [8] N (fun g s8 wx=>∃i m:Nat,i+g=N∧s8=.int .i64 i∧m≤n∧Hid (P20.smallL (lv-1) (Ay (ds.drop i)) m=O)∧Hid (V.grownBy wx (some b))∧Hid (wx.heap[b]?=some (.cells #[.int .i64 (m:Nat)] 3)))
   case atStart=>exact⟨0,n-1,by omega,by go_num,by omega,aM,Ab (World.grownBy.refl _ _),Ab (by rw[Aa bY,show (((n-1:Nat)):Int)=(n:Int)-1 from by omega])⟩
   case round=>
    obtain⟨i2,m,cJ,rfl,cQ,HS,aS,bD⟩:=hrel;have aL:=Aa aS;obtain⟨⟨x0,_⟩,⟨x1,_⟩,⟨x2,_⟩,⟨x3,_⟩,⟨x4,_⟩⟩:=Al ((aL.block H cD (fun e=>by injection e;omega)).trans (Aa bO));have bE:=Ab (Cu (Aa Z) aL);clear aL;cases gk with
    |zero=>
     have e1:(N:Int)=(i2:Int):=by omega
     have I:=Aa HS;rw[qM (by rw[Aa HN];omega)]at I;simp only[Ay,P20.smallL]at I;subst I;go_wp2;go_ret;exact⟨rfl,bE,fun q h=>by cases h;exact Aa bD⟩
    |succ g'=>
     have cB:(i2:Int)<(N:Int):=by omega
     have cH:IntKind.i64.wrap ((i2:Int)+1)=(i2:Int)+1:=qG _ (by omega);obtain⟨d,aH⟩:=Ap (Aa HN) (show i2<N by omega);have I:=Aa HS;rw[Q9 (lv-1) aH]at I;have aB:=qN aH;have aJ:=Aa cG d aB;have bG:=Aa cA d aB;have aI:=(Aa bC).grown (Aa aS) (fun r e=>by cases e;exact Aa bV);have aP:=aI.kids;simp only[Nd.da,Nd.kids]at aP;obtain⟨b2,o2,k1,t1,bQ,cF,bT,bU,bZ,bW,l1,rfl,rfl,y0,y1,y2,y3,y4,aA⟩:=Ds aP aH;have aC:=aJ (lv-1) b m wr aA (by omega) (by omega) bG (Aa bD);rw[show (((lv-1:Nat)):Int)=(lv:Int)-1 from by omega,Nd.val_eq]at aC;obtain⟨o,ho⟩:=qeX ((Nd.mk k1 t1 bQ cF bT bU bZ bW l1).bare.small (lv-1) m);rw[ho]at aC I
     have bI:∀q,o=some q→q≤m:=fun q e=>by
      have:=P20.T.small_ok _ _ _ _ (ho.trans e) (by omega);omega
     have bM:=Ab aC;have bX:=Ab bI;have aK:=Ab I;clear aJ aC I ho aA aI aP aH aB bG bI HS;cases o with
     |none=>
      have I:=Aa aK;simp only at I;subst I;go_wp2_with (go_at_call 108;refine(Aa bM).mono ?_;rintro x' w2 ⟨aQ,aW,bL⟩;obtain rfl:x'=.returned (.bool false):=aQ)
      go_ret;exact⟨rfl,Ab (Cu (Aa bE) (Aa aW)),fun q h=>by cases h⟩
     |some q=>
      have I:=Aa aK;simp only at I;have HS:=Ab I;have cL:=Aa bX q rfl;clear I aK;go_wp2_with (go_at_call 108;refine(Aa bM).mono ?_;rintro x' w2 ⟨aQ,aW,bL⟩;obtain rfl:x'=.returned (.bool true):=aQ)
      have cI:=Ab (bL q rfl);go_roundg g'
      case measure=>omega
      case rel=>exact⟨i2+1,q,by omega,by go_num,by omega,HS,Ab (Cu (Aa aS) (Aa aW)),cI⟩
theorem Th(d:Nd):Kb d:=Nd.ind (p:=Kb) Q3 d
theorem U1(d:Nd)(w:World)(I:d.In w):Calls Tryz.prog 66 #[d.val] w fun x w'=>x=.returned (.bool (d.bare.small 18 150).isSome)∧Below w.heap.size w w':=by
 obtain⟨k,t,ka,kc,ks,da,dc,ds,l⟩:=d;obtain⟨H,hH⟩:=qeX w.heap.size;obtain⟨W,hW⟩:=qeX (w.alloc (.cells #[.int .u8 k,.string ⟨t.toArray⟩,.slice ka ks.length kc,.slice da ds.length dc,.int .i64 l] 61));have aC:Below w.heap.size w W:=by rw[←hW];exact(qU _ w).alloc (qJ _) _
 have g0:W.heap[H]?=some (.cells #[.int .u8 k,.string ⟨t.toArray⟩,.slice ka ks.length kc,.slice da ds.length dc,.int .i64 l] 61):=by rw[←hW,←hH];exact qB _ _
 have Z:W.heap.size=H+1:=by rw[←hW];simp;omega
 obtain⟨V,hV⟩:=qeX (W.alloc (.cells #[.int .i64 150] 3));have aB:V.heap[H+1]?=some (.cells #[.int .i64 150] 3):=by rw[←hV,←Z];exact qB _ _
 have J:Below w.heap.size w V:=by rw[←hV];exact aC.alloc (by omega) _
 have aA:V.heap[H]?=some (.cells #[.int .u8 k,.string ⟨t.toArray⟩,.slice ka ks.length kc,.slice da ds.length dc,.int .i64 l] 61):=by rw[←hV];exact(qD _ _ _ (by omega)).trans g0
 obtain⟨⟨x0,_⟩,⟨x1,_⟩,⟨x2,_⟩,⟨x3,_⟩,⟨x4,_⟩⟩:=Al aA;have hc:=Th (.mk k t ka kc ks da dc ds l) 18 (H+1) 150 V (I.below J) (by omega) (by omega) (fun hb=>by have:=I.lt hb;omega) aB;rw[Nd.val_eq]at hc;have HC:=Ab hc;have HW:=Ab hW;have HV:=Ab hV;have HH:=Ab hH;have HB:=Ab J;have aD:=Ab Z;rw[Nd.val_eq];clear hc hW hV I aC g0 aB J aA Z;go_enter Tryz.func66,Tryz.ntmps66
 go_upto_region 1 with fail
 rw[Aa HW];try rw[Aa HH]
 go_upto_region 2 with fail
 try rw[Aa aD]
 rw[Aa HV];go_wp2_with (go_at_call 108;refine(Aa HC).mono ?_;rintro x w' ⟨rfl,hg,_⟩)
 go_ret;have hb:=Aa HB;have hg:=Aa hg;have hh:=Aa HH;refine⟨rfl,hb.trans ?_⟩;exact⟨hg.os,hg.tape,hg.output,qK hb.size hg.size |> fun _=>hg.size,fun i hi=>hg.block i (zD hi hb.size) (fun e=>by injection e;omega)⟩
namespace P20
end P20
namespace P20
end P20
theorem Ye(d:Nd):Rh (d.preN 18 1)=(d.bare.size 18).1:=by
 rw[←P20.depth_size,←Nd.preN_bare];unfold Rh;rw[List.map_map];rfl
theorem Tz(l:List (List UInt8))(i:Nat)(x:List UInt8)(h:l[i]?=some x):P28.texts (l.drop i)=if P03.check x 64≠0 then P03.check x 64 else P28.texts (l.drop (i+1)):=by
 have e:l.drop i=x::l.drop (i+1):=by
  obtain⟨h1,h2⟩:=qI.1 h;rw[←h2];exact qL h1
 rw[e];rfl
theorem Jc(a:Option Addr)(c:Nat)(l:List (List UInt8))(w:World)(h:Ft w a l)(hl:l.length≤maxLen)(hx:∀x∈l,x.length≤1100000) :
  Calls Tryz.prog 127 #[.slice a l.length c] w fun e w'=>e=.returned (.int .i64 (P28.texts l))∧Below w.heap.size w w':=by
 unfold maxLen at hl;obtain⟨n,hn⟩:=qeX l.length;rw[hn]at hl ⊢;obtain⟨H,hH⟩:=qeX w.heap.size;rw[hH];have aB:∀r,l≠[]→Ch a r→r<H:=fun r h1 h2=>by rw[←hH];exact Ai.inS_lt h h1 h2
 have I:∀V,Below H w V→Ft V a l:=fun V hV=>h.keep (fun r h1 h2=>hV.block r (aB r h1 h2));obtain⟨TT,aD⟩:∃T,P28.texts l=T:=⟨_,rfl⟩;rw[aD];have aG:=Ab aD;have HN:=Ab hn;have HK:=Ab I;have HX:=Ab hx;clear aD hn I hx aB h;go_enter Tryz.func127,Tryz.ntmps127
 go_wp2
 go_loopg [8] n (fun g s8 wx=>∃(i:Nat),i+g=n∧s8=.int .i64 i∧Hid (Below H w wx)∧Hid (P28.texts (l.drop i)=TT))
 case atStart=>exact⟨0,by omega,by go_num,Ab (qU _ _),by simpa using aG⟩
 case round=>
  obtain⟨i,aH,rfl,HB,HT⟩:=hrel;cases gk with
  |zero=>
   have e1:(n:Int)≤(i:Int):=by omega
   have j1:decide ((i:Int)<(n:Int))=false:=by simp;omega
   have hfin:(0:Int)=TT:=by
    have h:=Aa HT;rw[qM (by rw[Aa HN];omega)]at h;exact h
   subst hfin;go_wp2;go_ret;exact⟨rfl,Aa HB⟩
  |succ g'=>
   have aJ:(i:Int)<(n:Int):=by omega
   have aI:IntKind.i64.wrap ((i:Int)+1)=(i:Int)+1:=qG _ (by omega);obtain⟨x,J⟩:=Ap (Aa HN) (show i<n by omega);obtain⟨b,o,rfl,hc⟩:=(Aa HK) wr (Aa HB) i x J;have aA:=Gj ⟨x.toArray⟩ 64 wr (by rw[zY];exact Aa HX x (qN J));simp only[Do]at aA;have ht:=Aa HT;rw[Tz l i x J]at ht;obtain⟨E,hE⟩:=qeX (P03.check x 64);rw[hE]at aA ht;have HC:=Ab aA;clear aA hE J;by_cases Z:E=0
   ·subst Z;rw[if_neg (by simp)]at ht;have aE:=Ab ht;clear ht;go_wp2_with (go_at_call 128;refine(Aa HC).mono ?_;rintro e w2 ⟨rfl,aC⟩)
    go_roundg g'
    case measure=>omega
    case rel=>exact⟨i+1,by omega,by go_num,Ab ((Aa HB).trans (aC.mono (by rw[←hH];exact(Aa HB).size))),aE⟩
   ·rw[if_pos Z]at ht;subst ht;have j2:(E != 0)=true:=by simpa using Z
    clear Z;go_wp2_with (go_at_call 128;refine(Aa HC).mono ?_;rintro e w2 ⟨rfl,aC⟩)
    go_ret;exact⟨rfl,(Aa HB).trans (aC.mono (by rw[←hH];exact(Aa HB).size))⟩
theorem X7(g:Nat)(x y z u:Int)(w:World)(h:w.heap[g]?=some (.cells #[.int .i64 x,.int .i64 y,.int .i64 z,.int .i64 u] 3)) :
  Calls Tryz.prog 169 #[.slice (some ⟨g,0,none⟩) 4 4] w fun e w'=>e=.returned (.bool (P28.fits x&&(P28.fits y&&(P28.fits z&&P28.fits u))))∧w'=w:=by
 have hc:∀j,j < [x,y,z,u].length→w.cell? ⟨g,0+j,none⟩=some (.int .i64 ([x,y,z,u].getD j 0)):=fun j hj=>by
  match j,hj with
  |0,_=>simp[World.cell?,h]
  |1,_=>simp[World.cell?,h]
  |2,_=>simp[World.cell?,h]
  |3,_=>simp[World.cell?,h]
 have h1:=Tryz.slices_Min_int g 0 4 4 [x,y,z,u] w (by omega) (by simp) (by omega) hc;have h2:=Tryz.slices_Max_int g 0 4 4 [x,y,z,u] w (by omega) (by simp) (by omega) hc;simp only[List.take_succ_cons,List.take_zero]at h1 h2
 have e1:decide (0≤Lib.minOf [x,y,z,u])=(decide (0≤x)&&(decide (0≤y)&&(decide (0≤z)&&decide (0≤u)))):=by
  rw[show Lib.minOf [x,y,z,u]=min (min (min (min x x) y) z) u from rfl,Bool.eq_iff_iff];simp only[decide_eq_true_eq,Bool.and_eq_true];omega
 have e2:decide (Lib.maxOf [x,y,z,u]≤999999999)=(decide (x≤999999999)&&(decide (y≤999999999)&&(decide (z≤999999999)&&decide (u≤999999999)))):=by
  rw[show Lib.maxOf [x,y,z,u]=max (max (max (max x x) y) z) u from rfl,Bool.eq_iff_iff];simp only[decide_eq_true_eq,Bool.and_eq_true];omega
 have e3:(P28.fits x&&(P28.fits y&&(P28.fits z&&P28.fits u)))=(decide (0≤Lib.minOf [x,y,z,u])&&decide (Lib.maxOf [x,y,z,u]≤999999999)):=by
  rw[e1,e2,Bool.eq_iff_iff];simp only[P28.fits,Bool.and_eq_true,decide_eq_true_eq];omega
 rw[e3];obtain⟨Z,I⟩:∃m,Lib.minOf [x,y,z,u]=m:=⟨_,rfl⟩;obtain⟨mx,J⟩:∃m,Lib.maxOf [x,y,z,u]=m:=⟨_,rfl⟩;rw[I]at h1 ⊢;rw[J]at h2 ⊢;have H1:=Ab h1;have H2:=Ab h2;clear h1 h2 e1 e2 e3 I J hc h;by_cases c1:0≤Z
 ·have d1:decide (Z≥0)=true:=by simpa using c1
  go_enter Tryz.func169,Tryz.ntmps169
  go_wp2_with (first|(go_at_call 198;refine(Aa H1).mono ?_;rintro e w' ⟨rfl,hw⟩;obtain rfl:=hw.symm)|(go_at_call 199;refine(Aa H2).mono ?_;rintro e w' ⟨rfl,hw⟩;obtain rfl:=hw.symm))
  go_ret;exact⟨Ao (by simp[c1]),rfl⟩
 ·have c2:Z<0:=by omega
  have d1:decide (Z≥0)=false:=by simpa using c2
  clear c1;go_enter Tryz.func169,Tryz.ntmps169
  go_wp2_with (first|(go_at_call 198;refine(Aa H1).mono ?_;rintro e w' ⟨rfl,hw⟩;obtain rfl:=hw.symm)|(go_at_call 199;refine(Aa H2).mono ?_;rintro e w' ⟨rfl,hw⟩;obtain rfl:=hw.symm))
  go_ret;exact⟨Ao (by simp;omega),rfl⟩
end Go.Proofs.YtefokfbgpfcbkaaGreat
namespace Go.Proofs
def Tryz.cloneSteps_ren:Go.Shelf.Ren:=⟨fun|41=>109|n=>n,fun|22=>22|23=>63|4=>4|n=>n,fun|n=>n⟩
theorem Tryz.cloneSteps:Go.Proofs.SlLaysE0.n41 Tryz.prog Tryz.cloneSteps_ren:={
 mixed:=by kernel_rfl
 f41:=⟨Tryz.f109.name,by decide,Tryz.func109.trans (congrArg some (by kernel_rfl))⟩
 t4:=Tryz.underlying4
 a4:=Tryz.isAgg4
 z4:=Tryz.sizeOf4
 v4:=Tryz.zeroValue4
 t22:=Tryz.underlying22
 a22:=Tryz.isAgg22
 z22:=Tryz.sizeOf22
 v22:=Tryz.zeroValue22 }
end Go.Proofs
