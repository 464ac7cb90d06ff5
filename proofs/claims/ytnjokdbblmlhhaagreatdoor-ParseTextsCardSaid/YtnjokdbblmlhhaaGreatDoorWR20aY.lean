/- Lemmas of this claim. -/
import Derived.Test.YtnjokdbblmlhhaaGreatDoorGP20Y
set_option linter.unusedVariables false
set_option linter.unusedSimpArgs false
namespace Go.Proofs.YtnjokdbblmlhhaaGreatDoor
set_option maxHeartbeats 8000000
set_option maxRecDepth 100000
open Go.RowKit
structure V9 (W:World) (B rb:Nat) (all ts:List Tk):Prop where
 ex:∃(a:Option Addr) (c k:Nat),W.heap[rb]?=some (.cells #[.slice a all.length c,.int .i64 k] 61)∧K9 W a all∧all.length≤c∧c≤maxLen∧all.drop k=ts∧k≤all.length∧¬Bj a rb∧(∀g,Bj a g→g<B)
 lt:rb<B
 ne:all≠[]
 k8:∀t∈all,t.1<8∧t.2.1.length≤maxLen
 len:all.length≤1000000
theorem V9.far{W W':World}{B rb:Nat}{all ts:List Tk}(h:V9 W B rb all ts)(hb:∀g,g<B→W'.heap[g]?=W.heap[g]?):V9 W' B rb all ts:=by
 obtain⟨⟨a,c,k,g,hi,h1,h2,h3,h4,h5,h6⟩,D,hne,k8,hl⟩:=h;exact⟨⟨a,c,k,(hb _ D).trans g,hi.keep (fun r _ ho=>hb r (h6 r ho)),h1,h2,h3,h4,h5,h6⟩,D,hne,k8,hl⟩
theorem V9.keep{W W':World}{B rb:Nat}{all ts:List Tk}(h:V9 W B rb all ts)(hB:B≤W.heap.size)(hb:Below W.heap.size W W'):V9 W' B rb all ts:=h.far (fun g D=>hb.block g (by omega))
theorem V9.alloc{W:World}{B rb:Nat}{all ts:List Tk}(h:V9 W B rb all ts)(hB:B≤W.heap.size)(o:Obj):V9 (W.alloc o) B rb all ts:=h.keep hB ((qV _ W).alloc (qJ _) o)
theorem V9.setCell{W:World}{B rb:Nat}{all ts:List Tk}(h:V9 W B rb all ts){D:Nat}(I:B≤D)(i:Nat)(v:Value):V9 (W.setCell ⟨D,i,none⟩ v) B rb all ts:=h.far (fun g G=>qC _ _ _ _ (by show g≠D;omega))
theorem V9.drewN{W:World}{B rb:Nat}{all ts:List Tk}(h:V9 W B rb all ts)(n:Nat):V9 (W.drewN n) B rb all ts:=h.far (fun g D=>rfl)
theorem V9.drew{W:World}{B rb:Nat}{all ts:List Tk}(h:V9 W B rb all ts):V9 W.drew B rb all ts:=h.far (fun g D=>rfl)
theorem V9.cons{W:World}{B rb:Nat}{all r:List Tk}{t:Tk}(h:V9 W B rb all (t::r)):∃(b o c k:Nat),W.heap[rb]?=some (.cells #[.slice (some ⟨b,o,none⟩) all.length c,.int .i64 k] 61)∧k<all.length∧all.length=k+1+r.length∧b<W.heap.size∧b≠rb ∧
  W.cell? ⟨b,o+k*4,none⟩=some (.int .u8 t.1)∧W.cell? ⟨b,o+k*4+1,none⟩=some (.string ⟨t.2.1.toArray⟩)∧W.cell? ⟨b,o+k*4+2,none⟩=some (.int .i64 t.2.2.1)∧W.cell? ⟨b,o+k*4+3,none⟩=some (.int .i64 t.2.2.2):=by
 obtain⟨⟨a,c,k,g,hi,h1,h2,h3,h4,h5,h6⟩,I,hne,k8,hl⟩:=h
 have hk:all[k]?=some t:=by
  have:=congrArg (fun z=>z[0]?) h3;simpa using this
 obtain⟨b,o,rfl,G,c1,c2,c3⟩:=hi k t hk;have D:=congrArg List.length h3;simp only[qQ,qE]at D;exact⟨b,o,c,k,g,(qI.1 hk).1,by omega,B3 G,fun e=>h5 ⟨o,by rw[e]⟩,G,c1,c2,c3⟩
theorem V9.here{W:World}{B rb:Nat}{all ts:List Tk}(h:V9 W B rb all ts):∃(b o c k m:Nat),W.heap[rb]?=some (.cells #[.slice (some ⟨b,o,none⟩) all.length c,.int .i64 k] 61)∧min (k:Int) ((all.length:Int)-1)=(m:Int)∧m<all.length∧k≤all.length ∧
  W.cell? ⟨b,o+m*4+2,none⟩=some (.int .i64 (P20.hereL (Fl all) ts)):=by
 cases ts with
 |cons t r=>
  obtain⟨b,o,c,k,g,hk,hl,_,_,_,_,c2,_⟩:=h.cons;exact⟨b,o,c,k,k,g,by omega,hk,by omega,c2⟩
 |nil=>
  obtain⟨⟨a,c,k,g,hi,h1,h2,h3,h4,h5,h6⟩,G,hne,k8,hl⟩:=h;obtain⟨m,I⟩:∃m,all.length=m+1:=⟨all.length-1,by have:=zM.2 hne;omega⟩
  have hk:all.length≤k:=by
   have:=congrArg List.length h3;simp only[qQ,qP]at this;omega
  have D:all[m]?=some (all.getLastD (0,[],0,0)):=by
   rw[List.getLastD_eq_getLast?,List.getLast?_eq_getElem?,I];simp only[zL];rw[qO (by omega)];rfl
  obtain⟨b,o,rfl,J,c1,c2,c3⟩:=hi m _ D;exact⟨b,o,c,k,m,g,by omega,by omega,h4,c2⟩
theorem Wt(B rb:Nat)(all ts:List Tk)(w:World)(h:V9 w B rb all ts):Calls Tryz.prog 73 #[.pointer (some ⟨rb,0,none⟩)] w fun e w'=>e=.returned (.int .u8 (P20.kindOf ts))∧∃n,w'=w.drewN n:=by
 have hl:=h.len;cases ts with
 |nil=>
  obtain⟨⟨a,c,k,g,hi,h1,h2,h3,h4,h5,h6⟩,N,hne,k8,_⟩:=h
  have hk:k=all.length:=by
   have:=congrArg List.length h3;simp only[qQ,qP]at this;omega
  subst hk;obtain⟨⟨Q,_⟩,⟨R,_⟩⟩:=Af g;clear g hi h1 h2 h3 h4 h5 h6 hne k8;go_enter Tryz.func73,Tryz.ntmps73
  go_wp2;go_region
  go_wp2;go_ret;exact⟨rfl,1,rfl⟩
 |cons t r=>
  obtain⟨b,o,c,k,g,hk,G,D,J,S,c1,c2,c3⟩:=h.cons;obtain⟨⟨Q,_⟩,⟨R,_⟩⟩:=Af g;have I:(k:Int)<(all.length:Int):=by omega
  clear g h;go_enter Tryz.func73,Tryz.ntmps73
  go_wp2;go_region
  go_wp2;go_region
  go_wp2;go_ret;exact⟨rfl,2,rfl⟩
theorem Vx(B rb:Nat)(all ts:List Tk)(q:Int)(w:World)(h:V9 w B rb all ts)(hq:((P20.kindOf ts:Nat):Int)=q):Calls Tryz.prog 73 #[.pointer (some ⟨rb,0,none⟩)] w fun e w'=>e=.returned (.int .u8 q)∧∃n,w'=w.drewN n:=by
 rw[←hq];exact Wt B rb all ts w h
theorem Wa(B rb:Nat)(all ts:List Tk)(e:Int)(w:World)(h:V9 w B rb all ts):Calls Tryz.prog 36 #[.pointer (some ⟨rb,0,none⟩),.int .i64 e] w fun x w'=>
  x=.returned (.agg #[.int .i64 e,.int .i64 (P20.hereL (Fl all) ts)])∧Below w.heap.size w w':=by
 have hl:=h.len;obtain⟨b,o,c,k,m,g,Q,I,G,c2⟩:=h.here;obtain⟨n,hn⟩:∃n,P20.hereL (Fl all) ts=n:=⟨_,rfl⟩;rw[hn]at c2 ⊢;obtain⟨⟨R,_⟩,⟨S,_⟩⟩:=Af g;have J:rb<w.heap.size:=(qA.1 g).1;have D:=B3 c2;have N:Below w.heap.size w (w.alloc (.cells #[.int .i64 0,.int .i64 0] 29)):=(qV _ w).alloc (qJ _) _;have hz:IntKind.i64.wrap ((all.length:Int)-1)=(all.length:Int)-1:=qG _ (by omega);have h0:=Ab (qB w (.cells #[.int .i64 0,.int .i64 0] 29));clear h hn g;go_enter Tryz.func36,Tryz.ntmps36
 go_wp2;go_region
 go_wp2;exact qW (results_cell_row rfl _ _ _ _ _ _ _ rfl (C4 (qB w _)) Tryz.underlying29 rfl (by kernel_rfl)) rfl ⟨rfl,⟨rfl,rfl,rfl,by simp[World.drew],fun i hi=>C4 (qD _ _ _ hi)⟩⟩
theorem Rt(a:Option Addr)(c:Nat)(ks:List (List UInt8))(x:List UInt8)(w:World)(h:Eu w a ks)(hl:ks.length≤100000000) :
  Calls Tryz.prog 75 #[.slice a ks.length c,.string ⟨x.toArray⟩] w fun e w'=>e=.returned (.bool (decide (x∈ks)))∧w=w':=by
 obtain⟨n,hn⟩:∃n,ks.length=n:=⟨_,rfl⟩;rw[hn]at hl ⊢;have Q:=Ab hn;have Y:=Ab h;clear hn h;go_enter Tryz.func75,Tryz.ntmps75
 go_wp2
 go_loopg [5] n (fun g R wx=>∃i:Nat,i+g=n∧R=.int .i64 i∧Hid (decide (x∈ks)=decide (x∈ks.drop i))∧w=wx)
 case atStart=>exact⟨0,by omega,by go_num,Ab rfl,rfl⟩
 case round=>
  obtain⟨i,U,rfl,I,rfl⟩:=hrel;cases gk with
  |zero=>
   have e1:(n:Int)=(i:Int):=by omega
   have HE:=Ab (show i=n by omega);go_wp2;go_ret;refine⟨Bn ?_,rfl⟩;rw[Aa I,qM (by rw[Aa Q];have:=Aa HE;omega)];rfl
  |succ g'=>
   have X:(i:Int)<(n:Int):=by omega
   have Z:IntKind.i64.wrap ((i:Int)+1)=(i:Int)+1:=qG _ (by omega);have G:i<ks.length:=by rw[Aa Q];omega
   obtain⟨y,J⟩:∃y,ks[i]=y:=⟨_,rfl⟩;obtain⟨b,o,rfl,hc⟩:=Aa Y i y (by rw[qO G,J]);have hd:ks.drop i=y::ks.drop (i+1):=by rw[qL G,J]
   have N:=Ab hd;clear hd J;by_cases D:y=x
   ·subst D;go_wp2;go_ret;refine⟨Bn ?_,rfl⟩;rw[Aa I,Aa N];simp
   ·have HX:=Ab D;have S:(y==x)=false:=by simpa using D
    clear D;go_wp2;go_roundg g'
    case measure=>omega
    case rel=>
     refine⟨i+1,by omega,by go_num,Ab ?_,rfl⟩;rw[Aa I,Aa N];have:=Aa HX;simp[Ne.symm this]
end Go.Proofs.YtnjokdbblmlhhaaGreatDoor
namespace Go.Proofs.YtnjokdbblmlhhaaGreatDoor
set_option maxHeartbeats 8000000
set_option maxRecDepth 100000
open Go.RowKit
namespace P20
theorem bad_ne(last:Int):∀f:Nat,(∀lv ts e l,Val last f lv ts (.bad e l)→e≠0)∧(∀lv n ts e l,Wi last f lv n ts (.bad e l)→e≠0)∧(∀lv acc ts e l,Sq last f lv acc ts (.bad e l)→e≠0)∧(∀lv ks ds ts e l,Ky last f lv ks ds ts (.bad e l)→e≠0)
 |0=>⟨fun _ _ _ _ h=>(by cases h),fun _ _ _ _ _ h=>(by cases h),fun _ _ _ _ _ h=>(by cases h),fun _ _ _ _ _ _ h=>(by cases h)⟩
 |f+1=>by
  obtain⟨hv,hw,hs,hk⟩:=bad_ne last f;refine⟨fun lv ts e l h=>?_,fun lv n ts e l h=>?_,fun lv acc ts e l h=>?_,fun lv ks ds ts e l h=>?_⟩
  ·cases h with
   |deep h=>decide
   |none_ h=>decide
   |seqbad h h2=>exact hs _ _ _ _ _ h2
   |keysbad h h2=>exact hk _ _ _ _ _ _ h2
   |form h h2=>decide
  ·cases h with
   |empty h=>decide
   |form h h2=>decide
   |bad h=>exact hv _ _ _ _ h
  ·cases h with
   |next h h2=>exact hs _ _ _ _ _ h2
   |bad h=>exact hw _ _ _ _ _ h
  ·cases h with
   |long h=>decide
   |twice h h2=>decide
   |inl h h2 h3 h4 h5=>exact hk _ _ _ _ _ _ h5
   |inlbad h h2 h3 h4=>exact hv _ _ _ _ h4
   |wi h h2 h3 h4 h5=>exact hk _ _ _ _ _ _ h5
   |wibad h h2 h3 h4=>exact hw _ _ _ _ _ h4
end P20
theorem V9.step{W:World}{B rb:Nat}{all r:List Tk}{t:Tk}(h:V9 W B rb all (t::r)):∃(a:Option Addr) (c k:Nat),W.heap[rb]?=some (.cells #[.slice a all.length c,.int .i64 k] 61)∧IntKind.i64.wrap ((k:Int)+1)=(k:Int)+1 ∧
  V9 (W.setCell ⟨rb,1,none⟩ (.int .i64 ((k:Int)+1))) B rb all r∧W.grownBy (W.setCell ⟨rb,1,none⟩ (.int .i64 ((k:Int)+1))) (some rb):=by
 obtain⟨⟨a,c,k,g,hi,h1,h2,h3,h4,h5,h6⟩,G,hne,k8,hl⟩:=h;have D:=congrArg List.length h3;simp only[qQ,qE]at D;refine⟨a,c,k,g,qG _ (by omega),⟨⟨a,c,k+1,?_,?_,h1,h2,?_,by omega,h5,h6⟩,G,hne,k8,hl⟩,?_⟩
 ·simp[World.setCell,Array.getElem?_modify,g]
 ·exact hi.keep (fun q _ hq=>qC _ _ _ _ (by show q≠rb;rintro rfl;exact h5 hq))
 ·rw[←zI,h3];rfl
 ·exact⟨rfl,rfl,rfl,by simp,fun i hi hne=>qC _ _ _ _ (by show i≠rb;rintro rfl;exact hne rfl)⟩
def Yh(w:World)(B rb:Nat)(all r:List Tk)(d:P20.T)(nd:Nd)(w':World):Prop:=nd.bare=d∧nd.In w'∧(∀g,nd.blk g→w.heap.size≤g)∧V9 w' B rb all r∧w.grownBy w' (some rb)
def Wl(w:World)(B rb:Nat)(all:List Tk):P20.Out P20.T→Ending→World→Prop
 | .ok d r,e,w'=>∃(k:Nat) (t:List UInt8) (ka:Option Addr) (kc:Nat) (ks:List (List UInt8)) (da:Option Addr) (dc:Nat) (ds:List Nd) (l:Int),
   e=.returned (.tuple #[.agg #[.int .u8 k,.string ⟨t.toArray⟩,.slice ka ks.length kc,.slice da ds.length dc,.int .i64 l],.agg #[.int .i64 0,.int .i64 0]])∧Hid (Yh w B rb all r d (.mk k t ka kc ks da dc ds l) w')
 | .bad x ln,e,w'=>∃(k:Nat) (t:List UInt8) (ka:Option Addr) (G kc:Nat) (da:Option Addr) (D dc:Nat) (l:Int),
   e=.returned (.tuple #[.agg #[.int .u8 k,.string ⟨t.toArray⟩,.slice ka G kc,.slice da D dc,.int .i64 l],.agg #[.int .i64 x,.int .i64 ln]])∧Hid (w.grownBy w' (some rb))
def Xe(last:Int)(f:Nat):Prop:=∀(lv:Nat) (ts:List Tk) (B rb:Nat) (all:List Tk) (o:P20.Out P20.T) (w:World),V9 w B rb all ts→B≤w.heap.size→Fl all=last→lv≤17→P20.Val last f lv ts o →
 Calls Tryz.prog 35 #[.pointer (some ⟨rb,0,none⟩),.int .i64 lv] w (Wl w B rb all o)
def Yp(last:Int)(f:Nat):Prop:=∀(lv:Nat) (line:Int) (ts:List Tk) (B rb:Nat) (all:List Tk) (o:P20.Out P20.T) (w:World),V9 w B rb all ts→B≤w.heap.size→Fl all=last→lv≤17→P20.Wi last f lv line ts o →
 Calls Tryz.prog 74 #[.pointer (some ⟨rb,0,none⟩),.int .i64 lv,.int .i64 line] w (Wl w B rb all o)
theorem Vy{w W w':World}{H rb:Nat}{a b:Obj}(G:Sw W w' H a b)(D:w.grownBy W (some rb))(I:w.heap.size≤H):w.grownBy w' (some rb):=
 ⟨G.os.trans D.os,G.tape.trans D.tape,G.output.trans D.output,qK D.size G.size,fun i hi hne=>(G.same i (by omega) (by omega) (zB hi D.size)).trans (D.block i hi hne)⟩
theorem Xb{w W w':World}{H B rb:Nat}{a b:Obj}{all r:List Tk}{d:P20.T}{nd:Nd}(D:Sw W w' H a b)(h1:nd.bare=d)(h2:nd.In W)(h3:∀g,nd.blk g→H+1<g)(h4:V9 W B rb all r)(G:w.grownBy W (some rb))(I:w.heap.size≤H)(hB:B≤w.heap.size):Yh w B rb all r d nd w':=by
 have hz:=G.size;refine⟨h1,h2.keep (fun g hb=>D.same g (by have:=h3 g hb;omega) (by have:=h3 g hb;omega) (h2.lt hb)),fun g hb=>by have:=h3 g hb;omega,h4.far (fun g hl=>D.same g (by omega) (by omega) (by omega)),Vy D G I⟩
theorem Vw(W:World)(n:Nat)(row:Option Nat):W.grownBy (W.drewN n) row:=⟨rfl,rfl,rfl,qJ _,fun _ _ _=>rfl⟩
theorem V6(w:World)(D o2:Obj):∃W,(w.alloc D).alloc o2=W∧Below w.heap.size w W∧W.heap[w.heap.size]?=some D∧W.heap[w.heap.size+1]?=some o2∧W.heap.size=w.heap.size+1+1:=by
 have G:=qB (w.alloc D) o2;rw[qF]at G;exact⟨_,rfl,((qV _ w).alloc (qJ _) _).alloc (by simp) _,(qD _ _ _ (by simp)).trans (qB w _),G,by simp⟩
theorem Vz{D:Func}{p q:Tmp}(h:D.results=#[.cell p 26,.cell q 29])(tmps:Array Value){w:World}{H:Nat}{v0 J N v3 v4 G I:Value}
  (hp:tmps.getD p undef=.pointer (some ⟨H,0,none⟩)) (hq:tmps.getD q undef=.pointer (some ⟨H+1,0,none⟩)) (h0:w.heap[H]?=some (.cells #[v0,J,N,v3,v4] 26)) (h1:w.heap[H+1]?=some (.cells #[G,I] 29)) :
  (results D tmps).run Tryz.prog w=.ok (.tuple #[.agg #[v0,J,N,v3,v4],.agg #[G,I]]) w:=
 Al h tmps _ _ _ _ _ _ hp (qX _ _ _ _ _ _ _ h0 Tryz.underlying26 rfl (by kernel_rfl)) hq (qX _ _ _ _ _ _ _ h1 Tryz.underlying29 rfl (by kernel_rfl))
theorem V8{W1:World}{H:Nat}{T S:TypeId}{N c1 c2 c3 U R Q:Value}(h0:W1.heap[H]?=some (.cells #[N,c1,c2,c3,U] T))(h1:W1.heap[H+1]?=some (.cells #[R,Q] S))(v0 I J v3 v4 D G:Value) :
  Sw W1 (((((((W1.setCell ⟨H,0,none⟩ v0).setCell ⟨H,1,none⟩ I).setCell ⟨H,2,none⟩ J).setCell ⟨H,3,none⟩ v3).setCell ⟨H,4,none⟩ v4).setCell ⟨H+1,0,none⟩ D).setCell ⟨H+1,1,none⟩ G).drew H (.cells #[v0,I,J,v3,v4] T) (.cells #[D,G] S):=Jv (qV _ W1) h0 h1 _ _ _ _ _ _ _
theorem Yz(last:Int)(f:Nat)(hV:Xe last f):Yp last (f+1):=by
 intro lv line ts B rb all o w h hB bH bC hd;obtain⟨W0,bF,aN,g0,g1,aZ⟩:=V6 w (.cells #[.int .u8 0,.string ⟨#[]⟩,.slice none 0 0,.slice none 0 0,.int .i64 0] 26) (.cells #[.int .i64 0,.int .i64 0] 29);obtain⟨H,hH⟩:∃H,w.heap.size=H:=⟨_,rfl⟩;have Q:V9 W0 B rb all ts:=h.keep hB aN;have aQ:=Aj aN (some rb);have bW:=Q.lt;rw[hH]at g0 g1 aZ aN;obtain⟨⟨r0,s0⟩,⟨r1,s1⟩,⟨r2,s2⟩,⟨r3,s3⟩,⟨r4,s4⟩⟩:=Ad g0;obtain⟨⟨t0,u0⟩,⟨t1,u1⟩⟩:=Af g1;have aR:=Ab bF;have bZ:=Ab aZ;have aT:=Ab g0;have aM:=Ab g1;have aL:=Ab bH;have HH:=Ab hH;have bY:=Dl;clear bF g0 g1 h aZ bH aN;cases hd with
 |empty hk=>
  have bT:(((P20.kindOf ts:Nat):Int) != 1)=true:=by
   have:((P20.kindOf ts:Nat):Int)≠1:=by omega
   simpa using this
  have bP:=Ab Q;clear hk Q hH;go_enter Tryz.func74,Tryz.ntmps74
  go_upto_region 1 with fail
  try rw[Aa HH]
  rw[Aa aR];go_wp2_with (go_at_call 73;refine(Wt B rb all ts _ (Aa bP)).mono ?_;rintro e w' ⟨rfl,q,rfl⟩)
  have hT:=(V8 (W1:=W0.drewN q) (Aa aT) (Aa aM) (.int .u8 0) (.string ⟨#[]⟩) (.slice none 0 0) (.slice none 0 0) (.int .i64 0) (.int .i64 17) (.int .i64 line)).undrew;exact qW (Vz rfl _ rfl rfl hT.h0 hT.h1) rfl ⟨0,[],none,0,0,none,0,0,0,rfl,Ab (Vy hT (Ah aQ (Vw _ q _)) (by have:=Aa HH;omega))⟩
 | @ok _ _ _ n c n' c' x x' ts r d hv=>
  go_enter Tryz.func74,Tryz.ntmps74
  go_upto_region 1 with fail
  try rw[Aa HH]
  rw[Aa aR];go_upto_region 3 with(go_at_call 73;refine(Vx B rb all _ 1 _ Q rfl).mono ?_;rintro e w' ⟨rfl,q,rfl⟩)
  obtain⟨a1,c1,k1,p1,aJ,S,U⟩:=(Q.drewN q).step;obtain⟨⟨x0,e0⟩,⟨x1,e1⟩⟩:=Af p1;clear r0 s0 r1 s1 r2 s2 r3 s3 r4 s4 t0 u0 t1 u1 Q;go_upto_region 4 with fail
  obtain⟨W1,J⟩:∃W1,(W0.drewN q).setCell ⟨rb,1,none⟩ (.int .i64 ((k1:Int)+1))=W1:=⟨_,rfl⟩;rw[J]at S U ⊢;have k0:=(show W1.heap[H]?=W0.heap[H]? by rw[←J];exact qC _ _ _ _ (by show H≠rb;omega)).trans (Aa aT);have m0:=(show W1.heap[H+1]?=W0.heap[H+1]? by rw[←J];exact qC _ _ _ _ (by show H+1≠rb;omega)).trans (Aa aM);have R:=Ah aQ (Ah (Vw _ q _) U);have bE:=R.size;have aD:=Ab k0;have aE:=Ab m0;have bJ:=(qA.1 m0).1;clear J x0 e0 x1 e1 p1 aJ U k0 m0;go_upto_region 5 with(go_at_call 35;refine(hV lv ts B rb all _ W1 S (by omega) (Aa aL) bC hv).mono ?_;rintro e w2 ⟨k,t,ka,kc,ks,da,dc,ds,l,rfl,HN⟩)
  obtain⟨X,aS,aA,aC,G⟩:=Aa HN;obtain⟨W3,Y,I,d0,d1,aH⟩:=V6 w2 (.cells #[.int .u8 k,.string ⟨t.toArray⟩,.slice ka ks.length kc,.slice da ds.length dc,.int .i64 l] 26) (.cells #[.int .i64 0,.int .i64 0] 29);have bI:=G.size;obtain⟨D,hD⟩:∃D,w2.heap.size=D:=⟨_,rfl⟩;rw[hD]at d0 d1 aH;have HD:=Ab hD;have k3:=(I.block H (by omega)).trans ((G.block H (by omega) (fun e=>by injection e;omega)).trans (Aa aD));have m3:=(I.block (H+1) (by omega)).trans ((G.block (H+1) (by omega) (fun e=>by injection e;omega)).trans (Aa aE));have aB:=Ah (Ah R G) (Aj I (some rb));have Z:=aC.keep (by omega) I;have aW:=aS.below I;have aK:∀g,(Nd.mk k t ka kc ks da dc ds l).blk g→H+1<g:=fun g hg=>by have:=aA g hg;omega
  have aG:=Ab k3;have aI:=Ab m3;obtain⟨⟨x0,e0⟩,⟨x1,e1⟩,⟨x2,e2⟩,⟨x3,e3⟩,⟨x4,e4⟩⟩:=Ad d0;obtain⟨⟨y0,f0⟩,⟨y1,f1⟩⟩:=Af d1;try rw[hD]
  rw[Y];have bG:H+1<D:=by omega
  have bN:=Ab aW;have aX:=Ab aK;have aY:=Ab X;have bB:=Ab d0;have bO:=Ab d1;clear Y X aS aA aC S R G d0 d1 k3 m3 I aW aK HN hD;go_upto_region 9 with(go_at_call 73;refine(Vx B rb all _ 2 _ Z rfl).mono ?_;rintro e w' ⟨rfl,q2,rfl⟩)
  obtain⟨a2,c2,k2,p2,hk2,bK,bA⟩:=(Z.drewN q2).step;obtain⟨⟨z0,v0⟩,⟨z1,v1⟩⟩:=Af p2;clear x0 e0 x1 e1 x2 e2 x3 e3 x4 e4 y0 f0 y1 f1 Z;go_upto_region 10 with fail
  obtain⟨W4,bD⟩:∃W4,(W3.drewN q2).setCell ⟨rb,1,none⟩ (.int .i64 ((k2:Int)+1))=W4:=⟨_,rfl⟩;rw[bD]at bK bA ⊢;have N:∀g,g≠rb→W4.heap[g]?=W3.heap[g]?:=fun g hg=>by rw[←bD];exact qC _ _ _ _ (by exact hg)
  have k4:=(N H (by omega)).trans (Aa aG);have m4:=(N (H+1) (by omega)).trans (Aa aI);have n4:=(N D (by omega)).trans (Aa bB);have l4:=(N (D+1) (by omega)).trans (Aa bO);obtain⟨⟨x0,e0⟩,⟨x1,e1⟩,⟨x2,e2⟩,⟨x3,e3⟩,⟨x4,e4⟩⟩:=Ad n4;obtain⟨⟨y0,f0⟩,⟨y1,f1⟩⟩:=Af l4;obtain⟨⟨r0,s0⟩,⟨r1,s1⟩,⟨r2,s2⟩,⟨r3,s3⟩,⟨r4,s4⟩⟩:=Ad k4;obtain⟨⟨t0,u0⟩,⟨t1,u1⟩⟩:=Af m4;have bS:=Ab k4;have bM:=Ab m4;have bU:=Ah aB (Ah (Vw _ q2 _) bA);have aU:=(Aa bN).keep (fun g hg=>N g (by have:=Aa aX g hg;omega));have bL:=Ab aU;clear bD z0 v0 z1 v1 p2 hk2 bA k4 m4 n4 l4 N aU aB;go_region_with_o (fail)
  all_goals go_wp2
  all_goals
   have hT:=V8 (Aa bS) (Aa bM) (.int .u8 k) (.string ⟨t.toArray⟩) (.slice ka ks.length kc) (.slice da ds.length dc) (.int .i64 l) (.int .i64 0) (.int .i64 0);exact qW (Vz rfl _ rfl rfl hT.h0 hT.h1) rfl ⟨k,t,ka,kc,ks,da,dc,ds,l,rfl,Ab (Xb hT (Aa aY) (Aa bL) (Aa aX) bK bU (by have:=Aa HH;omega) hB)⟩
 | @form _ _ _ n c x ts r d hv hk=>
  have bT:(((P20.kindOf r:Nat):Int) != 2)=true:=by
   have:((P20.kindOf r:Nat):Int)≠2:=by omega
   simpa using this
  clear hk;go_enter Tryz.func74,Tryz.ntmps74
  go_upto_region 1 with fail
  try rw[Aa HH]
  rw[Aa aR];go_upto_region 3 with(go_at_call 73;refine(Vx B rb all _ 1 _ Q rfl).mono ?_;rintro e w' ⟨rfl,q,rfl⟩)
  obtain⟨a1,c1,k1,p1,aJ,S,U⟩:=(Q.drewN q).step;obtain⟨⟨x0,e0⟩,⟨x1,e1⟩⟩:=Af p1;clear r0 s0 r1 s1 r2 s2 r3 s3 r4 s4 t0 u0 t1 u1 Q;go_upto_region 4 with fail
  obtain⟨W1,J⟩:∃W1,(W0.drewN q).setCell ⟨rb,1,none⟩ (.int .i64 ((k1:Int)+1))=W1:=⟨_,rfl⟩;rw[J]at S U ⊢;have k0:=(show W1.heap[H]?=W0.heap[H]? by rw[←J];exact qC _ _ _ _ (by show H≠rb;omega)).trans (Aa aT);have m0:=(show W1.heap[H+1]?=W0.heap[H+1]? by rw[←J];exact qC _ _ _ _ (by show H+1≠rb;omega)).trans (Aa aM);have R:=Ah aQ (Ah (Vw _ q _) U);have bE:=R.size;have aD:=Ab k0;have aE:=Ab m0;have bJ:=(qA.1 m0).1;clear J x0 e0 x1 e1 p1 aJ U k0 m0;go_upto_region 5 with(go_at_call 35;refine(hV lv ts B rb all _ W1 S (by omega) (Aa aL) bC hv).mono ?_;rintro e w2 ⟨k,t,ka,kc,ks,da,dc,ds,l,rfl,HN⟩)
  obtain⟨X,aS,aA,aC,G⟩:=Aa HN;obtain⟨W3,Y,I,d0,d1,aH⟩:=V6 w2 (.cells #[.int .u8 k,.string ⟨t.toArray⟩,.slice ka ks.length kc,.slice da ds.length dc,.int .i64 l] 26) (.cells #[.int .i64 0,.int .i64 0] 29);have bI:=G.size;obtain⟨D,hD⟩:∃D,w2.heap.size=D:=⟨_,rfl⟩;rw[hD]at d0 d1 aH;have HD:=Ab hD;have k3:=(I.block H (by omega)).trans ((G.block H (by omega) (fun e=>by injection e;omega)).trans (Aa aD));have m3:=(I.block (H+1) (by omega)).trans ((G.block (H+1) (by omega) (fun e=>by injection e;omega)).trans (Aa aE));have aB:=Ah (Ah R G) (Aj I (some rb));have Z:=aC.keep (by omega) I;have aG:=Ab k3;have aI:=Ab m3;obtain⟨⟨x0,e0⟩,⟨x1,e1⟩,⟨x2,e2⟩,⟨x3,e3⟩,⟨x4,e4⟩⟩:=Ad d0;obtain⟨⟨y0,f0⟩,⟨y1,f1⟩⟩:=Af d1;try rw[hD]
  rw[Y];have bG:H+1<D:=by omega
  have bB:=Ab d0;clear Y X aS aA aC S R G d0 d1 k3 m3 I HN hD;go_upto_region 8 with(go_at_call 73;refine(Wt B rb all _ _ Z).mono ?_;rintro e w' ⟨rfl,q2,rfl⟩)
  have hE:=Wa B rb all r 3 ((W3.drewN q2).drew) ((Z.drewN q2).drew);rw[Aa aL]at hE;have HE:=Ab hE;have bV:D+1<W3.heap.size:=by omega
  clear Z hE;go_region_with_o (go_at_call 36;refine(Aa HE).mono ?_;rintro e w5 ⟨rfl,aO⟩;have k5:=(aO.block H (by show H<W3.heap.size;omega)).trans (Aa aG);have m5:=(aO.block (H+1) (by show H+1<W3.heap.size;omega)).trans (Aa aI);have n5:=(aO.block D (by show D<W3.heap.size;omega)).trans (Aa bB);obtain⟨⟨r0,s0⟩,⟨r1,s1⟩,⟨r2,s2⟩,⟨r3,s3⟩,⟨r4,s4⟩⟩:=Ad k5;obtain⟨⟨t0,u0⟩,⟨t1,u1⟩⟩:=Af m5;obtain⟨⟨z0,_⟩,⟨z1,_⟩,⟨z2,_⟩,⟨z3,_⟩,⟨z4,_⟩⟩:=Ad n5;have bR:=Ab k5;have bQ:=Ab m5;clear k5 m5 n5)
  all_goals go_wp2
  all_goals
   have hT:=(V8 (Aa bR) (Aa bQ) (.int .u8 k) (.string ⟨t.toArray⟩) (.slice ka ks.length kc) (.slice da ds.length dc) (.int .i64 l) (.int .i64 3) (.int .i64 (P20.hereL last r))).undrew;exact qW (Vz rfl _ rfl rfl hT.h0 hT.h1) rfl ⟨k,t,ka,ks.length,kc,da,ds.length,dc,l,rfl,Ab (Vy hT (Ah aB (Ah (Nw (Vw _ q2 _)) (Aj aO _))) (by have:=Aa HH;omega))⟩
 | @bad _ _ _ n c e l0 x ts hv=>
  have bX:(e != 0)=true:=by have:=(P20.bad_ne last f).1 _ _ _ _ hv;simpa using this
  go_enter Tryz.func74,Tryz.ntmps74
  go_upto_region 1 with fail
  try rw[Aa HH]
  rw[Aa aR];go_upto_region 3 with(go_at_call 73;refine(Vx B rb all _ 1 _ Q rfl).mono ?_;rintro e w' ⟨rfl,q,rfl⟩)
  obtain⟨a1,c1,k1,p1,aJ,S,U⟩:=(Q.drewN q).step;obtain⟨⟨x0,e0⟩,⟨x1,e1⟩⟩:=Af p1;clear r0 s0 r1 s1 r2 s2 r3 s3 r4 s4 t0 u0 t1 u1 Q;go_upto_region 4 with fail
  obtain⟨W1,J⟩:∃W1,(W0.drewN q).setCell ⟨rb,1,none⟩ (.int .i64 ((k1:Int)+1))=W1:=⟨_,rfl⟩;rw[J]at S U ⊢;have k0:=(show W1.heap[H]?=W0.heap[H]? by rw[←J];exact qC _ _ _ _ (by show H≠rb;omega)).trans (Aa aT);have m0:=(show W1.heap[H+1]?=W0.heap[H+1]? by rw[←J];exact qC _ _ _ _ (by show H+1≠rb;omega)).trans (Aa aM);have R:=Ah aQ (Ah (Vw _ q _) U);have bE:=R.size;have aD:=Ab k0;have aE:=Ab m0;have bJ:=(qA.1 m0).1;clear J x0 e0 x1 e1 p1 aJ U k0 m0;go_upto_region 5 with(go_at_call 35;refine(hV lv ts B rb all _ W1 S (by omega) (Aa aL) bC hv).mono ?_;rintro e' w2 ⟨k,t,ka,kn,kc,da,dn,dc,l,rfl,HN⟩)
  have G:=Aa HN;obtain⟨W3,Y,I,d0,d1,aH⟩:=V6 w2 (.cells #[.int .u8 k,.string ⟨t.toArray⟩,.slice ka kn kc,.slice da dn dc,.int .i64 l] 26) (.cells #[.int .i64 e,.int .i64 l0] 29);have bI:=G.size;obtain⟨D,hD⟩:∃D,w2.heap.size=D:=⟨_,rfl⟩;rw[hD]at d0 d1 aH;have HD:=Ab hD;have k3:=(I.block H (by omega)).trans ((G.block H (by omega) (fun e=>by injection e;omega)).trans (Aa aD));have m3:=(I.block (H+1) (by omega)).trans ((G.block (H+1) (by omega) (fun e=>by injection e;omega)).trans (Aa aE));have aB:=Ah (Ah R G) (Aj I (some rb));have aG:=Ab k3;have aI:=Ab m3;obtain⟨⟨x0,e0⟩,⟨x1,e1⟩,⟨x2,e2⟩,⟨x3,e3⟩,⟨x4,e4⟩⟩:=Ad d0;obtain⟨⟨y0,f0⟩,⟨y1,f1⟩⟩:=Af d1;try rw[hD]
  rw[Y];have bG:H+1<D:=by omega
  obtain⟨⟨r0,s0⟩,⟨r1,s1⟩,⟨r2,s2⟩,⟨r3,s3⟩,⟨r4,s4⟩⟩:=Ad k3;obtain⟨⟨t0,u0⟩,⟨t1,u1⟩⟩:=Af m3;clear Y S R G d0 d1 k3 m3 I HN hD;go_upto_region 6 with fail
  go_region_with_o (fail)
  all_goals go_wp2
  all_goals
   have hT:=V8 (Aa aG) (Aa aI) (.int .u8 k) (.string ⟨t.toArray⟩) (.slice ka kn kc) (.slice da dn dc) (.int .i64 l) (.int .i64 e) (.int .i64 l0);exact qW (Vz rfl _ rfl rfl hT.h0 hT.h1) rfl ⟨k,t,ka,kn,kc,da,dn,dc,l,rfl,Ab (Vy hT aB (by have:=Aa HH;omega))⟩
end Go.Proofs.YtnjokdbblmlhhaaGreatDoor
namespace Go.Proofs.YtnjokdbblmlhhaaGreatDoor
set_option maxHeartbeats 8000000
set_option maxRecDepth 100000
open Go.RowKit
namespace P20
def Qa9(n:Int):Out (List T)→Out T
 | .ok ds r=>.ok (.mk 2 [] [] ds n) r
 | .bad e l=>.bad e l
def Qa6(n:Int):Out (List (List UInt8) × List T)→Out T
 | .ok p r=>.ok (.mk 3 [] p.1 p.2 n) r
 | .bad e l=>.bad e l
inductive Yq (last:Int) (f lv:Nat):List Tk→Out T→Prop
 |deep {ts:List Tk} (h:16<lv):Yq last f lv ts (.bad 11 (hereL last ts))
 |none_ (h:lv≤16):Yq last f lv [] (.bad 3 last)
 |word {x:List UInt8} {n c:Int} {r:List Tk} (h:lv≤16):Yq last f lv ((5,x,n,c)::r) (.ok (.mk 1 x [] [] n) r)
 |noseq {x:List UInt8} {n c:Int} {r:List Tk} (h:lv≤16):Yq last f lv ((6,x,n,c)::r) (.ok (.mk 2 [] [] [] n) r)
 |nomap {x:List UInt8} {n c:Int} {r:List Tk} (h:lv≤16):Yq last f lv ((7,x,n,c)::r) (.ok (.mk 3 [] [] [] n) r)
 |seq {x:List UInt8} {n c:Int} {r:List Tk} {o:Out (List T)} (h:lv≤16) (hs:Sq last f (lv+1) [] ((3,x,n,c)::r) o):Yq last f lv ((3,x,n,c)::r) (Qa9 n o)
 |keys {x:List UInt8} {n c:Int} {r:List Tk} {o:Out (List (List UInt8) × List T)} (h:lv≤16) (hs:Ky last f (lv+1) [] [] ((4,x,n,c)::r) o):Yq last f lv ((4,x,n,c)::r) (Qa6 n o)
 |form {k:Nat} {x:List UInt8} {n c:Int} {r:List Tk} (h:lv≤16) (hk:k<3∨7<k):Yq last f lv ((k,x,n,c)::r) (.bad 3 n)
theorem Val.w{last:Int}{f lv:Nat}{ts:List Tk}{o:Out T}(h:Val last (f+1) lv ts o):Yq last f lv ts o:=by
 cases h with
 |deep h=>exact .deep h
 |none_ h=>exact .none_ h
 |word h=>exact .word h
 |noseq h=>exact .noseq h
 |nomap h=>exact .nomap h
 |seq h hs=>exact .seq (o:=.ok _ _) h hs
 |seqbad h hs=>exact .seq (o:=.bad _ _) h hs
 |keys h hs=>exact .keys (o:=.ok (_,_) _) h hs
 |keysbad h hs=>exact .keys (o:=.bad _ _) h hs
 |form h hk=>exact .form h hk
end P20
structure VI (w:World) (H B rb:Nat) (all:List Tk) (ln:Int) (kk:Nat) (ks:List (List UInt8)) (ds:List Nd) (kv dv:Value) (us:List Tk) (V:World):Prop where
 hh:w.heap.size=H
 bh:B≤H
 own:KS V (H+1+1+1) kv dv ks ds
 rpr:V9 V B rb all us
 grow:w.grownBy V (some rb)
 b0:V.heap[H]?=some (.cells #[.int .u8 0,.string ⟨#[]⟩,.slice none 0 0,.slice none 0 0,.int .i64 0] 26)
 b1:V.heap[H+1]?=some (.cells #[.int .i64 0,.int .i64 0] 29)
 b2:V.heap[H+1+1]?=some (.cells #[.int .u8 kk,.string ⟨#[]⟩,kv,dv,.int .i64 ln] 26)
theorem VI.lt{w V:World}{H B rb kk:Nat}{all us:List Tk}{ln:Int}{ks:List (List UInt8)}{ds:List Nd}{kv dv:Value}(h:VI w H B rb all ln kk ks ds kv dv us V):H+1+1<V.heap.size:=(qA.1 h.b2).1
theorem VI.old{w V W:World}{H B rb kk:Nat}{all us r:List Tk}{ln:Int}{ks:List (List UInt8)}{ds:List Nd}{kv dv:Value}(h:VI w H B rb all ln kk ks ds kv dv us V)(D:V.grownBy W (some rb))(G:V9 W B rb all r):VI w H B rb all ln kk ks ds kv dv r W:=by
 have hl:=h.lt;have hr:=G.lt;have hb:=h.bh;have hk:=fun g (h1:g<H+1+1+1) (h2:H≤g)=>D.block g (by omega) (fun e=>by injection e;omega);exact⟨h.hh,h.bh,h.own.old D (by omega),G,Ah h.grow D,(hk H (by omega) (by omega)).trans h.b0,(hk (H+1) (by omega) (by omega)).trans h.b1,(hk (H+1+1) (by omega) (by omega)).trans h.b2⟩
theorem VI.rest{w V W:World}{H B rb kk:Nat}{all us:List Tk}{ln:Int}{ks:List (List UInt8)}{ds:List Nd}{kv dv:Value}(h:VI w H B rb all ln kk ks ds kv dv us V)(D:V.grownBy W (some rb)) :
  w.grownBy W (some rb)∧W.heap[H]?=some (.cells #[.int .u8 0,.string ⟨#[]⟩,.slice none 0 0,.slice none 0 0,.int .i64 0] 26)∧W.heap[H+1]?=some (.cells #[.int .i64 0,.int .i64 0] 29)∧W.heap[H+1+1]?=some (.cells #[.int .u8 kk,.string ⟨#[]⟩,kv,dv,.int .i64 ln] 26):=by
 have hl:=h.lt;have hr:=h.rpr.lt;have hb:=h.bh;have hk:=fun g (h1:g<H+1+1+1) (h2:H≤g)=>D.block g (by omega) (fun e=>by injection e;omega);exact⟨Ah h.grow D,(hk H (by omega) (by omega)).trans h.b0,(hk (H+1) (by omega) (by omega)).trans h.b1,(hk (H+1+1) (by omega) (by omega)).trans h.b2⟩
theorem VI.below{w V W:World}{H B rb kk:Nat}{all us:List Tk}{ln:Int}{ks:List (List UInt8)}{ds:List Nd}{kv dv:Value}(h:VI w H B rb all ln kk ks ds kv dv us V)(hb:Below V.heap.size V W):VI w H B rb all ln kk ks ds kv dv us W:=
 h.old (Aj hb _) (h.rpr.keep (by have:=h.lt;have:=h.bh;omega) hb)
theorem VI.drewN{w V:World}{H B rb kk:Nat}{all us:List Tk}{ln:Int}{ks:List (List UInt8)}{ds:List Nd}{kv dv:Value}(h:VI w H B rb all ln kk ks ds kv dv us V)(q:Nat):VI w H B rb all ln kk ks ds kv dv us (V.drewN q):=h.old (Vw _ _ _) (h.rpr.drewN q)
theorem VI.drew{w V:World}{H B rb kk:Nat}{all us:List Tk}{ln:Int}{ks:List (List UInt8)}{ds:List Nd}{kv dv:Value}(h:VI w H B rb all ln kk ks ds kv dv us V):VI w H B rb all ln kk ks ds kv dv us V.drew:=h.old (Nw (World.grownBy.refl V _)) h.rpr.drew
theorem VI.step{w V:World}{H B rb kk:Nat}{all r:List Tk}{t:Tk}{ln:Int}{ks:List (List UInt8)}{ds:List Nd}{kv dv:Value}(h:VI w H B rb all ln kk ks ds kv dv (t::r) V):∃(a:Option Addr) (c k:Nat),V.heap[rb]?=some (.cells #[.slice a all.length c,.int .i64 k] 61)∧IntKind.i64.wrap ((k:Int)+1)=(k:Int)+1 ∧
  VI w H B rb all ln kk ks ds kv dv r (V.setCell ⟨rb,1,none⟩ (.int .i64 ((k:Int)+1))):=by
 obtain⟨a,c,k,h1,h2,h3,h4⟩:=h.rpr.step;exact⟨a,c,k,h1,h2,h.old h4 h3⟩
theorem KS.put{W:World}{B O i:Nat}{v:Value}{kv dv:Value}{ks:List (List UInt8)}{ds:List Nd}(h:KS W B kv dv ks ds)(I:O<B):KS (W.setCell ⟨O,i,none⟩ v) B kv dv ks ds:=by
 have hk:∀g,B≤g→(W.setCell ⟨O,i,none⟩ v).heap[g]?=W.heap[g]?:=fun g G=>qC _ _ _ _ (by show g≠O;omega);exact⟨⟨Ds h.str.own (fun g e=>hk g (Ao h.str.own g e).1)⟩,h.kids.keep (fun g e=>hk g (Ao h.kids.own g e).1) (fun d D g hb=>hk g (h.kids.new d D g hb)),h.sep⟩
theorem VI.off{w V W:World}{H B rb kk:Nat}{all us:List Tk}{ln:Int}{ks:List (List UInt8)}{ds:List Nd}{kv dv:Value}(h:VI w H B rb all ln kk ks ds kv dv us V){row:Option Nat}(D:V.grownBy W row)(hr:∀q,row=some q→H+1+1+1≤q) :
  V9 W B rb all us∧w.grownBy W (some rb)∧W.heap[H]?=V.heap[H]?∧W.heap[H+1]?=V.heap[H+1]?∧W.heap[H+1+1]?=V.heap[H+1+1]?∧V9 W B rb all us:=by
 have hl:=h.lt;have hb:=h.bh;have hk:=fun g (h1:g<H+1+1+1)=>D.block g (by omega) (fun e=>by have:=hr g e.symm;omega);have G:=h.rpr.far (fun g hl=>hk g (by omega));exact⟨G,F9 h.grow D (fun q e=>by have:=hr q e;have:=h.hh;omega),hk H (by omega),hk _ (by omega),hk _ (by omega),G⟩
theorem VI.kid{w V W:World}{H B rb kk:Nat}{all us:List Tk}{ln:Int}{ks:List (List UInt8)}{ds:List Nd}{kv dv D:Value}{nd:Nd}(h:VI w H B rb all ln kk ks ds kv dv us V)(hk:Dt W (H+1+1+1) D (ds++[nd]))(J:V.grownBy W dv.ownBlock)(G:D.ownBlock=dv.ownBlock∨∃g,D.ownBlock=some g∧V.heap.size≤g)
  (hn:∀g,nd.blk g→kv.ownBlock≠some g):W.heap[H+1+1]?=some (.cells #[.int .u8 kk,.string ⟨#[]⟩,kv,dv,.int .i64 ln] 26)∧VI w H B rb all ln kk ks (ds++[nd]) kv D us (W.setCell ⟨H+1+1,3,none⟩ D):=by
 have hq:=fun q e=>(Ao h.own.kids.own q e).1;obtain⟨h1,h2,h3,h4,h5,_⟩:=h.off J hq;have hb:=h.bh;have I:=h5.trans h.b2;have hh:=h.hh;exact⟨I,h.hh,h.bh,(h.own.kid hk J G hn).put (by omega),h1.setCell (by omega) _ _,Bf h2 (by omega) _,(qC _ _ _ _ (by show H≠H+1+1;omega)).trans (h3.trans h.b0),(qC _ _ _ _ (by show H+1≠H+1+1;omega)).trans (h4.trans h.b1),Rm I _⟩
theorem VI.key{w V W:World}{H B rb kk:Nat}{all us:List Tk}{ln:Int}{ks ks':List (List UInt8)}{ds:List Nd}{kv D dv:Value}(h:VI w H B rb all ln kk ks ds kv dv us V)(hk:Strs W (H+1+1+1) D ks')(J:V.grownBy W kv.ownBlock)(G:D.ownBlock=kv.ownBlock∨∃g,D.ownBlock=some g∧V.heap.size≤g) :
  W.heap[H+1+1]?=some (.cells #[.int .u8 kk,.string ⟨#[]⟩,kv,dv,.int .i64 ln] 26)∧VI w H B rb all ln kk ks' ds D dv us (W.setCell ⟨H+1+1,2,none⟩ D):=by
 have hq:=fun q e=>(Ao h.own.str.own q e).1;obtain⟨h1,h2,h3,h4,h5,_⟩:=h.off J hq;have hb:=h.bh;have I:=h5.trans h.b2;have hh:=h.hh;exact⟨I,h.hh,h.bh,(h.own.key hk J G).put (by omega),h1.setCell (by omega) _ _,Bf h2 (by omega) _,(qC _ _ _ _ (by show H≠H+1+1;omega)).trans (h3.trans h.b0),(qC _ _ _ _ (by show H+1≠H+1+1;omega)).trans (h4.trans h.b1),Ub I _⟩
theorem VI.kind{w V:World}{H B rb kk:Nat}{all us:List Tk}{ln:Int}{ks:List (List UInt8)}{ds:List Nd}{kv dv:Value}(h:VI w H B rb all ln kk ks ds kv dv us V)(D:Nat):VI w H B rb all ln D ks ds kv dv us (V.setCell ⟨H+1+1,0,none⟩ (.int .u8 D)):=by
 have hh:=h.hh;have hb:=h.bh;exact⟨h.hh,h.bh,h.own.put (by omega),h.rpr.setCell (by omega) _ _,Bf h.grow (by omega) _,(qC _ _ _ _ (by show H≠H+1+1;omega)).trans h.b0,(qC _ _ _ _ (by show H+1≠H+1+1;omega)).trans h.b1,Gx h.b2 _⟩
theorem VI.done{w V W:World}{H B rb kk:Nat}{all us:List Tk}{ln:Int}{ks:List (List UInt8)}{ds:List Nd}{ka da:Option Addr}{kc dc:Nat}{a b:Obj}(h:VI w H B rb all ln kk ks ds (.slice ka ks.length kc) (.slice da ds.length dc) us V)(hT:Sw V W H a b)(hk:kk<256)(hl:∀x∈ks,x.length≤64) :
  Yh w B rb all us (.mk kk [] ks (Am ds) ln) (.mk kk [] ka kc ks da dc ds ln) W:=by
 obtain⟨a2,c2,N,G,X,I,S,U⟩:=h.own.kids.slice;injection N with Y _ Z;subst Y;subst Z;obtain⟨a3,c3,Q,D,aA,aB,R⟩:=h.own.str.slice;injection Q with Y _ Z;subst Y;subst Z;have hh:=h.hh;have J:(Nd.mk kk [] ka kc ks da dc ds ln).In V:=.mk ⟨hk,Nat.zero_le _,qK D aA,qK G X,D,G,fun y hy=>by have:=hl y hy;unfold maxLen;omega,aB⟩ I;refine Xb hT rfl J (fun g hg=>?_) h.rpr h.grow (by omega) (by have:=h.bh;omega);simp only[Nd.blk]at hg;rcases hg with⟨h1,h2⟩|⟨h1,h2⟩|h1
 ·have:=R g h1 h2;omega
 ·have:=U g h1 h2;omega
 ·have:=S g h1;omega
end Go.Proofs.YtnjokdbblmlhhaaGreatDoor
namespace Go.Proofs.YtnjokdbblmlhhaaGreatDoor
set_option maxHeartbeats 8000000
set_option maxRecDepth 100000
open Go.RowKit
attribute [local go_sem] Jz Ka
theorem V9.k8h{W:World}{B rb k:Nat}{all r:List Tk}{x:List UInt8}{n c:Int}(h:V9 W B rb all ((k,x,n,c)::r)):k<8:=by
 obtain⟨⟨a,c',k',g,hi,h1,h2,h3,h4,h5,h6⟩,D,hne,k8,hl⟩:=h;exact(k8 (k,x,n,c) (List.mem_of_mem_drop (i:=k') (by rw[h3];simp))).1
theorem V9.lenH{W:World}{B rb:Nat}{all r:List Tk}(h:V9 W B rb all r):r.length≤1000000:=by
 obtain⟨⟨a,c',k',g,hi,h1,h2,h3,h4,h5,h6⟩,D,hne,k8,hl⟩:=h;rw[←h3,qQ];omega
theorem V9.textL{W:World}{B rb k:Nat}{all r:List Tk}{x:List UInt8}{n c:Int}(h:V9 W B rb all ((k,x,n,c)::r)):x.length≤maxLen:=by
 obtain⟨⟨a,c',k',g,hi,h1,h2,h3,h4,h5,h6⟩,D,hne,k8,hl⟩:=h;exact(k8 (k,x,n,c) (List.mem_of_mem_drop (i:=k') (by rw[h3];simp))).2
theorem Yy(last:Int)(f:Nat)(S:∀g,g≤f→Xe last g)(bQ:∀g,g≤f→Yp last g)(lv:Nat)(ts:List Tk)(B rb:Nat)(all:List Tk)(o:P20.Out P20.T)(w:World)(h:V9 w B rb all ts)(hB:B≤w.heap.size)(bR:Fl all=last)(bG:lv≤17)(hd:P20.Val last (f+1) lv ts o)(aX:P20.kindOf ts≠3∧P20.kindOf ts≠4) :
  Calls Tryz.prog 35 #[.pointer (some ⟨rb,0,none⟩),.int .i64 lv] w (Wl w B rb all o):=by
 obtain⟨W0,bL,aU,g0,g1,bD⟩:=V6 w (.cells #[.int .u8 0,.string ⟨#[]⟩,.slice none 0 0,.slice none 0 0,.int .i64 0] 26) (.cells #[.int .i64 0,.int .i64 0] 29);obtain⟨H,hH⟩:∃H,w.heap.size=H:=⟨_,rfl⟩;have aN:V9 W0 B rb all ts:=h.keep hB aU;have bC:=Aj aU (some rb);have cE:=aN.lt;rw[hH]at g0 g1 bD aU;obtain⟨⟨r0,s0⟩,⟨r1,s1⟩,⟨r2,s2⟩,⟨r3,s3⟩,⟨r4,s4⟩⟩:=Ad g0;obtain⟨⟨t0,u0⟩,⟨t1,u1⟩⟩:=Af g1;have bE:=Ab bL;have bH:=Ab g0;have aY:=Ab g1;have bK:=Ab bR;have HH:=Ab hH;have HD:=Ab hd;have HV:=Ab S;have cF:=Ab bQ;have cK:=Dl;have bM:=Ab aX;clear aX bL g0 g1 h bR aU hd S bQ;by_cases bG:16<lv
 ·have hd:=Aa HD
  have ho:o=.bad 11 (P20.hereL last ts):=by
   cases hd with
   |deep h=>rfl
   |_=>omega
  subst ho;have hE:=Wa B rb all ts 11 W0 aN;rw[Aa bK]at hE;have HE:=Ab hE;have jl:(16:Int)<(lv:Int):=by omega
  clear hd HD hE aN;go_enter Tryz.func35,Tryz.ntmps35
  go_upto_region 1 with fail
  try rw[Aa HH]
  rw[Aa bE];go_wp2_with (go_at_call 36;refine(Aa HE).mono ?_;rintro e w5 ⟨rfl,Q⟩;have k5:=(Q.block H (by omega)).trans (Aa bH);have m5:=(Q.block (H+1) (by omega)).trans (Aa aY);obtain⟨⟨r0,s0⟩,⟨r1,s1⟩,⟨r2,s2⟩,⟨r3,s3⟩,⟨r4,s4⟩⟩:=Ad k5;obtain⟨⟨t0,u0⟩,⟨t1,u1⟩⟩:=Af m5;have aR:=Ab k5;have aQ:=Ab m5;clear k5 m5)
  have X:=(V8 (Aa aR) (Aa aQ) (.int .u8 0) (.string ⟨#[]⟩) (.slice none 0 0) (.slice none 0 0) (.int .i64 0) (.int .i64 11) (.int .i64 (P20.hereL last ts))).undrew;exact qW (Vz rfl _ rfl rfl X.h0 X.h1) rfl ⟨0,[],none,0,0,none,0,0,0,rfl,Ab (Vy X (Ah bC (Aj Q _)) (by have:=Aa HH;omega))⟩
 have jl:(lv:Int)≤16:=by omega
 have cC:IntKind.i64.wrap ((lv:Int)+1)=(lv:Int)+1:=qG _ (by omega);have bV:=Ab bG;clear bG;obtain⟨b,ot,c,k0,m0,p0,hm,bZ,bY,q2⟩:=aN.here;obtain⟨D,aZ⟩:∃z,P20.hereL (Fl all) ts=z:=⟨_,rfl⟩;rw[aZ]at q2;have bJ:=aN.len;have hz:IntKind.i64.wrap ((all.length:Int)-1)=(all.length:Int)-1:=qG _ (by omega);obtain⟨⟨x0,_⟩,⟨x1,_⟩⟩:=Af p0;have bI:=B3 q2;have bF:rb<W0.heap.size:=by omega
 have aW:∀r o,r<W0.heap.size→(W0.alloc (.cells #[.int .u8 0,.string ⟨#[]⟩,.slice none 0 0,.slice none 0 0,.int .i64 0] 26)).cell? ⟨r,o,none⟩=W0.cell? ⟨r,o,none⟩:=fun r o h=>Ag (qD _ _ _ h) o;have cB:=(aW rb 0 bF).trans x0;have cA:=(aW rb 1 bF).trans x1;have bT:=(aW b (ot+m0*4+2) bI).trans q2;clear aW;have aO:=Ab aZ;have bN:=Ab aN;clear p0 aZ aN;go_enter Tryz.func35,Tryz.ntmps35
 go_upto_region 1 with fail
 try rw[Aa HH]
 rw[Aa bE];go_wp2;go_region
 obtain⟨W1,aD⟩:∃W1,(W0.alloc (.cells #[.int .u8 0,.string ⟨#[]⟩,.slice none 0 0,.slice none 0 0,.int .i64 D] 26)).drew=W1:=⟨_,rfl⟩;have bA:V9 W1 B rb all ts:=by rw[←aD];exact((Aa bN).alloc (by have:=Aa HH;omega) _).drew
 have bO:w.grownBy W1 (some rb):=by rw[←aD];exact Nw (Ah bC (qR W0 _ _))
 have bS:W1.heap.size=H+1+1+1:=by rw[←aD];simp[World.drew];omega
 have a0:=(show W1.heap[H]?=W0.heap[H]? by rw[←aD];exact qD _ _ _ (by omega)).trans (Aa bH);have a1:=(show W1.heap[H+1]?=W0.heap[H+1]? by rw[←aD];exact qD _ _ _ (by omega)).trans (Aa aY);have a2:W1.heap[H+1+1]?=some (.cells #[.int .u8 0,.string ⟨#[]⟩,.slice none 0 0,.slice none 0 0,.int .i64 D] 26):=by rw[←aD,←bD];exact qB W0 _
 rw[aD];obtain⟨kq,bB⟩:∃kq:Int,((P20.kindOf ts:Nat):Int)=kq:=⟨_,rfl⟩;clear aD x0 x1 cB cA q2 bT hm bZ bY hz bJ bI bF r0 s0 r1 s1 r2 s2 r3 s3 r4 s4 t0 u0 t1 u1 bH aY bN bC bD bE;have G:=Ab a0;have I:=Ab a1;have bP:=Ab a2;clear a0 a1 a2;go_upto_region 6 with(go_at_call 73;refine(Vx B rb all ts kq _ bA bB).mono ?_;rintro e w' ⟨rfl,q,rfl⟩)
 obtain⟨Z,aH⟩:∃Z,W1.drewN q=Z:=⟨_,rfl⟩;have R:V9 Z B rb all ts:=by rw[←aH];exact bA.drewN q
 have aG:w.grownBy Z (some rb):=by rw[←aH];exact Ah bO (Vw _ q _)
 have a0:=(show Z.heap[H]?=W1.heap[H]? by rw[←aH];rfl).trans (Aa G);have a1:=(show Z.heap[H+1]?=W1.heap[H+1]? by rw[←aH];rfl).trans (Aa I);have a2:=(show Z.heap[H+1+1]?=W1.heap[H+1+1]? by rw[←aH];rfl).trans (Aa bP);have cD:Z.heap.size=H+1+1+1:=by rw[←aH];exact bS
 have cJ:B≤H:=by have:=Aa HH;omega
 rw[aH];have G:=Ab a0;have I:=Ab a1;have aT:=Ab bB;have Y:=Ab a2;clear a0 a1 a2 aH bA bO bS bP bB;have hd:=(Aa HD).w;clear HD;cases hd with
 |deep h=>exact absurd h (Aa bV)
 |none_ h=>
  obtain rfl:kq=0:=by have:=Aa aT;rw[←this];rfl
  obtain rfl:D=last:=by rw[←Aa bK];exact(Aa aO).symm
  obtain⟨⟨x0,f0⟩,⟨x1,f1⟩,⟨x2,f2⟩,⟨x3,f3⟩,⟨x4,f4⟩⟩:=Ad (Aa Y);have hE:=Wa B rb all _ 3 Z.drew R.drew;rw[Aa aO]at hE;have HE:=Ab hE;clear hE;go_wp2;go_region_with_o (go_at_call 36;refine(Aa HE).mono ?_;rintro e w5 ⟨rfl,Q⟩;have k5:=(Q.block H (by show H<Z.heap.size;omega)).trans (Aa G);have m5:=(Q.block (H+1) (by show H+1<Z.heap.size;omega)).trans (Aa I);have n5:=(Q.block (H+1+1) (by show H+1+1<Z.heap.size;omega)).trans (Aa Y);obtain⟨⟨r0,s0⟩,⟨r1,s1⟩,⟨r2,s2⟩,⟨r3,s3⟩,⟨r4,s4⟩⟩:=Ad k5;obtain⟨⟨t0,u0⟩,⟨t1,u1⟩⟩:=Af m5;obtain⟨⟨z0,_⟩,⟨z1,_⟩,⟨z2,_⟩,⟨z3,_⟩,⟨z4,_⟩⟩:=Ad n5;have aR:=Ab k5;have aQ:=Ab m5;clear k5 m5 n5)
  all_goals go_wp2
  all_goals
   have X:=(V8 (Aa aR) (Aa aQ) (.int .u8 0) (.string ⟨#[]⟩) (.slice none 0 0) (.slice none 0 0) (.int .i64 D) (.int .i64 3) (.int .i64 D)).undrew;exact qW (Vz rfl _ rfl rfl X.h0 X.h1) rfl ⟨0,[],none,0,0,none,0,0,D,rfl,Ab (Vy X (Ah (Nw aG) (Aj Q _)) (by have:=Aa HH;omega))⟩
 | @word x n c r h=>
  obtain rfl:kq=5:=by have:=Aa aT;rw[←this];rfl
  obtain rfl:D=n:=(Aa aO).symm;obtain⟨b1,o1,c1,k1,p1,cL,hk2,cI,cG,bU,bX,_,_⟩:=R.cons;obtain⟨⟨y0,_⟩,⟨y1,_⟩⟩:=Af p1;obtain⟨⟨x0,f0⟩,⟨x1,f1⟩,⟨x2,f2⟩,⟨x3,f3⟩,⟨x4,f4⟩⟩:=Ad (Aa Y);have cH:(k1:Int)<(all.length:Int):=by omega
  have bW:=R.textL;clear p1 h;go_wp2;go_region
  obtain⟨V,S⟩:∃V,((Z.setCell ⟨H+1+1,0,none⟩ (.int .u8 1)).setCell ⟨H+1+1,1,none⟩ (.string ⟨x.toArray⟩)).drew=V:=⟨_,rfl⟩;have aE:V9 V B rb all ((5,x,D,c)::r):=by rw[←S];exact((R.setCell (by omega) _ _).setCell (by omega) _ _).drew
  have aK:w.grownBy V (some rb):=by rw[←S];exact Nw (Bf (Bf aG (by have:=Aa HH;omega) _) (by have:=Aa HH;omega) _)
  have U:∀g,g≠H+1+1→g≠rb→V.heap[g]?=Z.heap[g]?:=fun g hg hr=>by rw[←S];exact(qC _ _ _ _ (by exact hg)).trans (qC _ _ _ _ (by exact hg))
  have nV:V.heap[H+1+1]?=some (.cells #[.int .u8 1,.string ⟨x.toArray⟩,.slice none 0 0,.slice none 0 0,.int .i64 D] 26):=by rw[←S];exact Qa7 (Gx (Aa Y) _) _
  have mV:=(U H (by omega) (by omega)).trans (Aa G);have lV:=(U (H+1) (by omega) (by omega)).trans (Aa I);rw[S];have Y:=Ab nV;have G:=Ab mV;have I:=Ab lV;clear S U nV mV lV y0 y1 x0 f0 x1 f1 x2 f2 x3 f3 x4 f4 bU bX R aG;obtain⟨a5,c5,k5,p5,aS,aC,aI⟩:=aE.step;obtain⟨⟨y0,e0⟩,⟨y1,e1⟩⟩:=Af p5;go_upto_region 43 with fail
  obtain⟨V2,J⟩:∃V2,V.setCell ⟨rb,1,none⟩ (.int .i64 ((k5:Int)+1))=V2:=⟨_,rfl⟩;have aA:V9 V2 B rb all r:=by rw[←J];exact aC
  have aB:w.grownBy V2 (some rb):=by rw[←J];exact Ah aK aI
  have N:∀g,g≠H+1+1→g≠rb→V2.heap[g]?=V.heap[g]?:=fun g hg hr=>by rw[←J];exact qC _ _ _ _ (by exact hr)
  have aL:V2.heap[H+1+1]?=some (.cells #[.int .u8 1,.string ⟨x.toArray⟩,.slice none 0 0,.slice none 0 0,.int .i64 D] 26):=by rw[←J];exact(qC _ _ _ _ (by show H+1+1≠rb;omega)).trans (Aa Y)
  have aM:=(N H (by omega) (by omega)).trans (Aa G);have aJ:=(N (H+1) (by omega) (by omega)).trans (Aa I);rw[J];have Y:=Ab aL;have G:=Ab aM;have I:=Ab aJ;clear J N aL aM aJ p5 y0 e0 y1 e1 aS aC aI aK aE;obtain⟨⟨x0,f0⟩,⟨x1,f1⟩,⟨x2,f2⟩,⟨x3,f3⟩,⟨x4,f4⟩⟩:=Ad (Aa Y);obtain⟨⟨r0,s0⟩,⟨r1,s1⟩,⟨r2,s2⟩,⟨r3,s3⟩,⟨r4,s4⟩⟩:=Ad (Aa G);obtain⟨⟨t0,u0⟩,⟨t1,u1⟩⟩:=Af (Aa I);go_wp2;have X:=(V8 (Aa G) (Aa I) (.int .u8 1) (.string ⟨x.toArray⟩) (.slice none 0 0) (.slice none 0 0) (.int .i64 D) (.int .i64 0) (.int .i64 0)).undrew;exact qW (Vz rfl _ rfl rfl X.h0 X.h1) rfl ⟨1,x,none,0,[],none,0,[],D,rfl,Ab (Xb X rfl (I7 _ 1 x D (by omega) bW) (fun g hg=>absurd hg (I2 _ _ _ g)) aA aB (by have:=Aa HH;omega) hB)⟩
 | @noseq x n c r h=>
  obtain rfl:kq=6:=by have:=Aa aT;rw[←this];rfl
  obtain rfl:D=n:=(Aa aO).symm;obtain⟨⟨x0,f0⟩,⟨x1,f1⟩,⟨x2,f2⟩,⟨x3,f3⟩,⟨x4,f4⟩⟩:=Ad (Aa Y);clear h;go_upto_region 11 with fail
  obtain⟨V,S⟩:∃V,Z.setCell ⟨H+1+1,0,none⟩ (.int .u8 2)=V:=⟨_,rfl⟩;have aE:V9 V B rb all ((6,x,D,c)::r):=by rw[←S];exact R.setCell (by omega) _ _
  have aK:w.grownBy V (some rb):=by rw[←S];exact Bf aG (by have:=Aa HH;omega) _
  have U:∀g,g≠H+1+1→g≠rb→V.heap[g]?=Z.heap[g]?:=fun g hg hr=>by rw[←S];exact qC _ _ _ _ (by exact hg)
  have nV:V.heap[H+1+1]?=some (.cells #[.int .u8 2,.string ⟨#[]⟩,.slice none 0 0,.slice none 0 0,.int .i64 D] 26):=by rw[←S];exact Gx (Aa Y) _
  have mV:=(U H (by omega) (by omega)).trans (Aa G);have lV:=(U (H+1) (by omega) (by omega)).trans (Aa I);rw[S];have Y:=Ab nV;have G:=Ab mV;have I:=Ab lV;clear S U nV mV lV x0 f0 x1 f1 x2 f2 x3 f3 x4 f4 R aG;obtain⟨a5,c5,k5,p5,aS,aC,aI⟩:=aE.step;obtain⟨⟨y0,e0⟩,⟨y1,e1⟩⟩:=Af p5;go_upto_region 43 with fail
  obtain⟨V2,J⟩:∃V2,V.setCell ⟨rb,1,none⟩ (.int .i64 ((k5:Int)+1))=V2:=⟨_,rfl⟩;have aA:V9 V2 B rb all r:=by rw[←J];exact aC
  have aB:w.grownBy V2 (some rb):=by rw[←J];exact Ah aK aI
  have N:∀g,g≠H+1+1→g≠rb→V2.heap[g]?=V.heap[g]?:=fun g hg hr=>by rw[←J];exact qC _ _ _ _ (by exact hr)
  have aL:V2.heap[H+1+1]?=some (.cells #[.int .u8 2,.string ⟨#[]⟩,.slice none 0 0,.slice none 0 0,.int .i64 D] 26):=by rw[←J];exact(qC _ _ _ _ (by show H+1+1≠rb;omega)).trans (Aa Y)
  have aM:=(N H (by omega) (by omega)).trans (Aa G);have aJ:=(N (H+1) (by omega) (by omega)).trans (Aa I);rw[J];have Y:=Ab aL;have G:=Ab aM;have I:=Ab aJ;clear J N aL aM aJ p5 y0 e0 y1 e1 aS aC aI aK aE;obtain⟨⟨x0,f0⟩,⟨x1,f1⟩,⟨x2,f2⟩,⟨x3,f3⟩,⟨x4,f4⟩⟩:=Ad (Aa Y);obtain⟨⟨r0,s0⟩,⟨r1,s1⟩,⟨r2,s2⟩,⟨r3,s3⟩,⟨r4,s4⟩⟩:=Ad (Aa G);obtain⟨⟨t0,u0⟩,⟨t1,u1⟩⟩:=Af (Aa I);go_wp2;have X:=(V8 (Aa G) (Aa I) (.int .u8 2) (.string ⟨#[]⟩) (.slice none 0 0) (.slice none 0 0) (.int .i64 D) (.int .i64 0) (.int .i64 0)).undrew;exact qW (Vz rfl _ rfl rfl X.h0 X.h1) rfl ⟨2,[],none,0,[],none,0,[],D,rfl,Ab (Xb X rfl (I7 _ 2 [] D (by omega) (Nat.zero_le _)) (fun g hg=>absurd hg (I2 _ _ _ g)) aA aB (by have:=Aa HH;omega) hB)⟩
 | @nomap x n c r h=>
  obtain rfl:kq=7:=by have:=Aa aT;rw[←this];rfl
  obtain rfl:D=n:=(Aa aO).symm;obtain⟨⟨x0,f0⟩,⟨x1,f1⟩,⟨x2,f2⟩,⟨x3,f3⟩,⟨x4,f4⟩⟩:=Ad (Aa Y);clear h;go_upto_region 14 with fail
  obtain⟨V,S⟩:∃V,Z.setCell ⟨H+1+1,0,none⟩ (.int .u8 3)=V:=⟨_,rfl⟩;have aE:V9 V B rb all ((7,x,D,c)::r):=by rw[←S];exact R.setCell (by omega) _ _
  have aK:w.grownBy V (some rb):=by rw[←S];exact Bf aG (by have:=Aa HH;omega) _
  have U:∀g,g≠H+1+1→g≠rb→V.heap[g]?=Z.heap[g]?:=fun g hg hr=>by rw[←S];exact qC _ _ _ _ (by exact hg)
  have nV:V.heap[H+1+1]?=some (.cells #[.int .u8 3,.string ⟨#[]⟩,.slice none 0 0,.slice none 0 0,.int .i64 D] 26):=by rw[←S];exact Gx (Aa Y) _
  have mV:=(U H (by omega) (by omega)).trans (Aa G);have lV:=(U (H+1) (by omega) (by omega)).trans (Aa I);rw[S];have Y:=Ab nV;have G:=Ab mV;have I:=Ab lV;clear S U nV mV lV x0 f0 x1 f1 x2 f2 x3 f3 x4 f4 R aG;obtain⟨a5,c5,k5,p5,aS,aC,aI⟩:=aE.step;obtain⟨⟨y0,e0⟩,⟨y1,e1⟩⟩:=Af p5;go_upto_region 43 with fail
  obtain⟨V2,J⟩:∃V2,V.setCell ⟨rb,1,none⟩ (.int .i64 ((k5:Int)+1))=V2:=⟨_,rfl⟩;have aA:V9 V2 B rb all r:=by rw[←J];exact aC
  have aB:w.grownBy V2 (some rb):=by rw[←J];exact Ah aK aI
  have N:∀g,g≠H+1+1→g≠rb→V2.heap[g]?=V.heap[g]?:=fun g hg hr=>by rw[←J];exact qC _ _ _ _ (by exact hr)
  have aL:V2.heap[H+1+1]?=some (.cells #[.int .u8 3,.string ⟨#[]⟩,.slice none 0 0,.slice none 0 0,.int .i64 D] 26):=by rw[←J];exact(qC _ _ _ _ (by show H+1+1≠rb;omega)).trans (Aa Y)
  have aM:=(N H (by omega) (by omega)).trans (Aa G);have aJ:=(N (H+1) (by omega) (by omega)).trans (Aa I);rw[J];have Y:=Ab aL;have G:=Ab aM;have I:=Ab aJ;clear J N aL aM aJ p5 y0 e0 y1 e1 aS aC aI aK aE;obtain⟨⟨x0,f0⟩,⟨x1,f1⟩,⟨x2,f2⟩,⟨x3,f3⟩,⟨x4,f4⟩⟩:=Ad (Aa Y);obtain⟨⟨r0,s0⟩,⟨r1,s1⟩,⟨r2,s2⟩,⟨r3,s3⟩,⟨r4,s4⟩⟩:=Ad (Aa G);obtain⟨⟨t0,u0⟩,⟨t1,u1⟩⟩:=Af (Aa I);go_wp2;have X:=(V8 (Aa G) (Aa I) (.int .u8 3) (.string ⟨#[]⟩) (.slice none 0 0) (.slice none 0 0) (.int .i64 D) (.int .i64 0) (.int .i64 0)).undrew;exact qW (Vz rfl _ rfl rfl X.h0 X.h1) rfl ⟨3,[],none,0,[],none,0,[],D,rfl,Ab (Xb X rfl (I7 _ 3 [] D (by omega) (Nat.zero_le _)) (fun g hg=>absurd hg (I2 _ _ _ g)) aA aB (by have:=Aa HH;omega) hB)⟩
 | @form k x n c r h hk=>
  obtain rfl:D=n:=(Aa aO).symm;have h8:=R.k8h;have aX:(k:Int)=kq:=Aa aT;have j5:(kq==5)=false:=by rw[beq_eq_false_iff_ne];omega
  have j6:(kq==6)=false:=by rw[beq_eq_false_iff_ne];omega
  have j7:(kq==7)=false:=by rw[beq_eq_false_iff_ne];omega
  have j3:(kq==3)=false:=by rw[beq_eq_false_iff_ne];omega
  have j4:(kq==4)=false:=by rw[beq_eq_false_iff_ne];omega
  clear h8 aX hk h;obtain⟨⟨x0,f0⟩,⟨x1,f1⟩,⟨x2,f2⟩,⟨x3,f3⟩,⟨x4,f4⟩⟩:=Ad (Aa Y);have hE:=Wa B rb all _ 3 Z.drew R.drew;rw[Aa aO]at hE;have HE:=Ab hE;clear hE;go_wp2;go_region_with_o (go_at_call 36;refine(Aa HE).mono ?_;rintro e w5 ⟨rfl,Q⟩;have k5:=(Q.block H (by show H<Z.heap.size;omega)).trans (Aa G);have m5:=(Q.block (H+1) (by show H+1<Z.heap.size;omega)).trans (Aa I);have n5:=(Q.block (H+1+1) (by show H+1+1<Z.heap.size;omega)).trans (Aa Y);obtain⟨⟨r0,s0⟩,⟨r1,s1⟩,⟨r2,s2⟩,⟨r3,s3⟩,⟨r4,s4⟩⟩:=Ad k5;obtain⟨⟨t0,u0⟩,⟨t1,u1⟩⟩:=Af m5;obtain⟨⟨z0,_⟩,⟨z1,_⟩,⟨z2,_⟩,⟨z3,_⟩,⟨z4,_⟩⟩:=Ad n5;have aR:=Ab k5;have aQ:=Ab m5;clear k5 m5 n5)
  all_goals go_wp2
  all_goals
   have X:=(V8 (Aa aR) (Aa aQ) (.int .u8 0) (.string ⟨#[]⟩) (.slice none 0 0) (.slice none 0 0) (.int .i64 D) (.int .i64 3) (.int .i64 D)).undrew;exact qW (Vz rfl _ rfl rfl X.h0 X.h1) rfl ⟨0,[],none,0,0,none,0,0,D,rfl,Ab (Vy X (Ah (Nw aG) (Aj Q _)) (by have:=Aa HH;omega))⟩
 |seq h hs=>exact absurd (Aa bM) (by simp[P20.kindOf])
 |keys h hs=>exact absurd (Aa bM) (by simp[P20.kindOf])
end Go.Proofs.YtnjokdbblmlhhaaGreatDoor
namespace Go.Proofs.YtnjokdbblmlhhaaGreatDoor
set_option maxHeartbeats 8000000
set_option maxRecDepth 100000
open Go.RowKit
attribute [local go_sem] Jz Ka
theorem Z2(last:Int)(f:Nat)(hV:∀g,g≤f→Xe last g)(cG:∀g,g≤f→Yp last g)(lv:Nat)(ts:List Tk)(B rb:Nat)(all:List Tk)(o:P20.Out P20.T)(w:World)(h:V9 w B rb all ts)(hB:B≤w.heap.size)(cH:Fl all=last)(bL:lv≤17)(hd:P20.Val last (f+1) lv ts o)(cO:P20.kindOf ts=3)(cF:¬16<lv) :
  Calls Tryz.prog 35 #[.pointer (some ⟨rb,0,none⟩),.int .i64 lv] w (Wl w B rb all o):=by
 obtain⟨W0,bS,aM,g0,g1,bH⟩:=V6 w (.cells #[.int .u8 0,.string ⟨#[]⟩,.slice none 0 0,.slice none 0 0,.int .i64 0] 26) (.cells #[.int .i64 0,.int .i64 0] 29);obtain⟨H,hH⟩:∃H,w.heap.size=H:=⟨_,rfl⟩;have aG:V9 W0 B rb all ts:=h.keep hB aM;have cE:=Aj aM (some rb);have dL:=aG.lt;rw[hH]at g0 g1 bH aM;obtain⟨⟨r0,s0⟩,⟨r1,s1⟩,⟨r2,s2⟩,⟨r3,s3⟩,⟨r4,s4⟩⟩:=Ad g0;obtain⟨⟨t0,u0⟩,⟨t1,u1⟩⟩:=Af g1;have cI:=Ab bS;have cM:=Ab g0;have bR:=Ab g1;have bQ:=Ab cH;have HH:=Ab hH;have HD:=Ab hd;have HV:=Ab hV;have bZ:=Ab cG;have dO:=Dl;have aB:=Ab cO;clear cO bS g0 g1 h cH aM hd hV cG;have bL:=cF;clear cF;have jl:(lv:Int)≤16:=by omega
 have cQ:IntKind.i64.wrap ((lv:Int)+1)=(lv:Int)+1:=qG _ (by omega);have cS:=Ab bL;clear bL;obtain⟨b,ot,c,k0,m0,p0,hm,cY,cV,q2⟩:=aG.here;obtain⟨J,aY⟩:∃z,P20.hereL (Fl all) ts=z:=⟨_,rfl⟩;rw[aY]at q2;have bP:=aG.len;have hz:IntKind.i64.wrap ((all.length:Int)-1)=(all.length:Int)-1:=qG _ (by omega);obtain⟨⟨x0,_⟩,⟨x1,_⟩⟩:=Af p0;have bO:=B3 q2;have bI:rb<W0.heap.size:=by omega
 have aN:∀r o,r<W0.heap.size→(W0.alloc (.cells #[.int .u8 0,.string ⟨#[]⟩,.slice none 0 0,.slice none 0 0,.int .i64 0] 26)).cell? ⟨r,o,none⟩=W0.cell? ⟨r,o,none⟩:=fun r o h=>Ag (qD _ _ _ h) o;have dE:=(aN rb 0 bI).trans x0;have dD:=(aN rb 1 bI).trans x1;have cP:=(aN b (ot+m0*4+2) bO).trans q2;clear aN;have cZ:=Ab aY;have bX:=Ab aG;clear p0 aY aG;go_enter Tryz.func35,Tryz.ntmps35
 go_upto_region 1 with fail
 try rw[Aa HH]
 rw[Aa cI];go_wp2;go_region
 obtain⟨W1,N⟩:∃W1,(W0.alloc (.cells #[.int .u8 0,.string ⟨#[]⟩,.slice none 0 0,.slice none 0 0,.int .i64 J] 26)).drew=W1:=⟨_,rfl⟩;have bD:V9 W1 B rb all ts:=by rw[←N];exact((Aa bX).alloc (by have:=Aa HH;omega) _).drew
 have cA:w.grownBy W1 (some rb):=by rw[←N];exact Nw (Ah cE (qR W0 _ _))
 have cJ:W1.heap.size=H+1+1+1:=by rw[←N];simp[World.drew];omega
 have a0:=(show W1.heap[H]?=W0.heap[H]? by rw[←N];exact qD _ _ _ (by omega)).trans (Aa cM);have a1:=(show W1.heap[H+1]?=W0.heap[H+1]? by rw[←N];exact qD _ _ _ (by omega)).trans (Aa bR);have a2:W1.heap[H+1+1]?=some (.cells #[.int .u8 0,.string ⟨#[]⟩,.slice none 0 0,.slice none 0 0,.int .i64 J] 26):=by rw[←N,←bH];exact qB W0 _
 rw[N];obtain⟨kq,bF⟩:∃kq:Int,((P20.kindOf ts:Nat):Int)=kq:=⟨_,rfl⟩;clear N x0 x1 dE dD q2 cP hm cY cV hz bP bO bI r0 s0 r1 s1 r2 s2 r3 s3 r4 s4 t0 u0 t1 u1 cM bR bX cE bH cI;have aO:=Ab a0;have aQ:=Ab a1;have cC:=Ab a2;clear a0 a1 a2;go_upto_region 6 with(go_at_call 73;refine(Vx B rb all ts kq _ bD bF).mono ?_;rintro e w' ⟨rfl,q,rfl⟩)
 obtain⟨W2,Q⟩:∃W2,W1.drewN q=W2:=⟨_,rfl⟩;have aU:V9 W2 B rb all ts:=by rw[←Q];exact bD.drewN q
 have bY:w.grownBy W2 (some rb):=by rw[←Q];exact Ah cA (Vw _ q _)
 have a0:=(show W2.heap[H]?=W1.heap[H]? by rw[←Q];rfl).trans (Aa aO);have a1:=(show W2.heap[H+1]?=W1.heap[H+1]? by rw[←Q];rfl).trans (Aa aQ);have a2:=(show W2.heap[H+1+1]?=W1.heap[H+1+1]? by rw[←Q];rfl).trans (Aa cC);have dH:W2.heap.size=H+1+1+1:=by rw[←Q];exact cJ
 have cW:B≤H:=by have:=Aa HH;omega
 rw[Q];have aO:=Ab a0;have aQ:=Ab a1;have dG:=Ab bF;have HN:=Ab a2;clear a0 a1 a2 Q bD cA cJ cC bF;have hd:=(Aa HD).w;clear HD;cases hd with
 |deep h=>exact absurd h (Aa cS)
 |none_ h=>exact absurd (Aa aB) (by simp[P20.kindOf])
 |word h=>exact absurd (Aa aB) (by simp[P20.kindOf])
 |noseq h=>exact absurd (Aa aB) (by simp[P20.kindOf])
 |nomap h=>exact absurd (Aa aB) (by simp[P20.kindOf])
 |form h hk=>exact absurd (Aa aB) (by simp[P20.kindOf];omega)
 | @seq x n c r o2 h hs=>
  obtain rfl:kq=3:=by have:=Aa dG;rw[←this];rfl
  obtain rfl:J=n:=(Aa cZ).symm;have bV:VI w H B rb all J 0 [] [] (.slice none 0 0) (.slice none 0 0) ((3,x,J,c)::r) W2:=⟨Aa HH,cW,KS.nil _ _,aU,bY,Aa aO,Aa aQ,Aa HN⟩;obtain⟨⟨x0,f0⟩,⟨x1,f1⟩,⟨x2,f2⟩,⟨x3,f3⟩,⟨x4,f4⟩⟩:=Ad (Aa HN);have aH:=aU.lenH;have cN:=Ab hs;have aI:=Ab (bV.kind 2);clear h hs bV aO aQ HN aU bY;go_wp2;obtain⟨V0,aW⟩:∃V0,W2.setCell ⟨H+1+1,0,none⟩ (.int .u8 2)=V0:=⟨_,rfl⟩;rw[show ((2:Nat):Int)=2 from rfl,aW]at aI;rw[aW];clear aW x0 f0 x1 f1 x2 f2 x3 f3 x4 f4
  go_loopg [] f (fun g wx=>∃(ds:List Nd) (us:List Tk) (dv:Value),g≤f∧Hid (P20.Sq last g (lv+1) (Am ds) us o2)∧Hid (VI w H B rb all J 2 [] ds (.slice none 0 0) dv us wx)∧us.length+ds.length≤1000000)
  case atStart=>exact⟨[],_,_,qJ _,cN,aI,by simpa using aH⟩
  case round=>
   obtain⟨ds,us,dv,dI,HS,G,aS⟩:=hrel;obtain⟨da,dc,rfl,_⟩:=(Aa G).own.kids.slice;have hs:=Aa HS;clear HS cN aI aH;cases hs with
   |done hk=>
    have dN:(((P20.kindOf us:Nat):Int)==3)=false:=by
     have:((P20.kindOf us:Nat):Int)≠3:=by omega
     simpa using this
    obtain⟨⟨x0,f0⟩,⟨x1,f1⟩,⟨x2,f2⟩,⟨x3,f3⟩,⟨x4,f4⟩⟩:=Ad (Aa G).b2;obtain⟨⟨r0,s0⟩,⟨r1,s1⟩,⟨r2,s2⟩,⟨r3,s3⟩,⟨r4,s4⟩⟩:=Ad (Aa G).b0;obtain⟨⟨t0,u0⟩,⟨t1,u1⟩⟩:=Af (Aa G).b1;clear hk;go_wp2_with (go_at_call 73;refine(Wt B rb all us _ (Aa G).rpr).mono ?_;rintro e w' ⟨rfl,q,rfl⟩)
    have hT:=(V8 (W1:=wr.drewN q) (Aa G).b0 (Aa G).b1 (.int .u8 2) (.string ⟨#[]⟩) (.slice none 0 0) (.slice da ds.length dc) (.int .i64 J) (.int .i64 0) (.int .i64 0)).undrew;exact qW (Vz rfl _ rfl rfl hT.h0 hT.h1) rfl ⟨2,[],none,0,[],da,dc,ds,J,rfl,Ab (((Aa G).drewN q).done (ka:=none) (kc:=0) (ks:=[]) hT (by omega) (by simp))⟩
   | @next g' _ _ x n c r r' d _ hw hs=>
    have cQ:=(P20.less last g').2.1 _ _ _ _ _ hw;have HS:=Ab hs;clear hs;simp only[qE]at aS;obtain⟨b1,o1,c1,k1,p1,bK,hk2,bG,bB,aT,bA,aZ,_⟩:=(Aa G).rpr.cons;obtain⟨⟨y0,_⟩,⟨y1,_⟩⟩:=Af p1;have bC:(k1:Int)<(all.length:Int):=by omega
    clear p1 hk2;go_upto_region 18 with(go_at_call 73;refine(Vx B rb all _ 3 _ (Aa G).rpr rfl).mono ?_;rintro e w' ⟨rfl,q,rfl⟩)
    go_region
    obtain⟨X,hX⟩:∃X,wr.drewN (q+1)=X:=⟨_,rfl⟩;have U:=(Aa G).drewN (q+1);rw[hX]at U;rw[hX];clear hX y0 y1 aT bA aZ bG bB bK bC G;obtain⟨a5,c5,k5,p5,bE,I⟩:=U.step;obtain⟨⟨z0,v0⟩,⟨z1,v1⟩⟩:=Af p5;clear p5 U;go_upto_region 20 with fail
    obtain⟨Y,hY⟩:∃Y,X.setCell ⟨rb,1,none⟩ (.int .i64 ((k5:Int)+1))=Y:=⟨_,rfl⟩;rw[hY]at I;rw[hY];clear hY z0 v0 z1 v1 bE;have cT:=I.lt;have R:=Aa bZ g' (by omega) (lv+1) n r B rb all _ Y I.rpr (by omega) (Aa bQ) (by omega) hw;rw[show (((lv+1:Nat)):Int)=(lv:Int)+1 from by omega]at R;have bJ:=Ab R;clear R hw;go_upto_region 21 with(go_at_call 74;refine(Aa bJ).mono ?_;rintro e w2 ⟨k,t,ka,kc,ks,Z,aA,es,l,rfl,aL⟩)
    obtain⟨aJ,cL,aD,cK,S⟩:=Aa aL;have aX:=I.old S cK;obtain⟨W3,aE,aC,d0,d1,aK⟩:=V6 w2 (.cells #[.int .u8 k,.string ⟨t.toArray⟩,.slice ka ks.length kc,.slice Z es.length aA,.int .i64 l] 26) (.cells #[.int .i64 0,.int .i64 0] 29);have aR:=aX.below aC;obtain⟨D,hD⟩:∃D,w2.heap.size=D:=⟨_,rfl⟩;rw[hD]at d0 d1 aK;have dK:=aX.lt;have bU:=S.size;have cU:H+1+1<D:=by omega
    have cB:=cL.below aC;have bN:∀g,(Nd.mk k t ka kc ks Z aA es l).blk g→H+1+1+1≤g:=fun g hg=>by have:=aD g hg;omega
    have bM:∀g,(Nd.mk k t ka kc ks Z aA es l).blk g→(Value.slice da ds.length dc).ownBlock≠some g:=fun g hg e=>by have:=aD g hg;have:=(Ao I.own.kids.own g e).2;omega
    try rw[hD]
    rw[aE];obtain⟨⟨x0,e0⟩,⟨x1,e1⟩,⟨x2,e2⟩,⟨x3,e3⟩,⟨x4,e4⟩⟩:=Ad d0;obtain⟨⟨y0,f0⟩,⟨y1,f1⟩⟩:=Af d1;obtain⟨⟨z0,v0⟩,⟨z1,v1⟩,⟨z2,v2⟩,⟨z3,v3⟩,⟨z4,v4⟩⟩:=Ad aR.b2;have cR:=Ab aJ;clear aE d0 d1 aC aK hD aJ cL aD aL cK S aX I;go_wp2_with (at_builtin;refine Ek (v:=.slice da ds.length dc) (B:=H+1+1+1) (nd:=.mk k t ka kc ks Z aA es l) rfl _ _ rfl rfl aR.own.kids rfl cB bN bM rfl (by omega) (by have:=aR.lt;omega) ?_;intro v8 w8 bW dB bT;obtain⟨dP,dJ,cD,_⟩:=bW.slice;rw[qH,qT]at cD;subst cD;obtain⟨e8,cX⟩:=aR.kid bW dB bT (fun g _ e=>by cases e);obtain⟨⟨j0,i0⟩,⟨j1,i1⟩,⟨j2,i2⟩,⟨j3,i3⟩,⟨j4,i4⟩⟩:=Ad e8)
    go_roundg g'
    case measure=>omega
    case rel=>exact⟨ds++[.mk k t ka kc ks Z aA es l],r',_,by omega,Ab (by rw[Cu];simp only[Am];rw[Aa cR];exact Aa HS),Ab cX,by simp;omega⟩
   | @bad _ _ _ x n c e l r hw=>
    have dM:(e != 0)=true:=by have:=(P20.bad_ne last _).2.1 _ _ _ _ _ hw;simpa using this
    simp only[qE]at aS;obtain⟨b1,o1,c1,k1,p1,bK,hk2,bG,bB,aT,bA,aZ,_⟩:=(Aa G).rpr.cons;obtain⟨⟨y0,_⟩,⟨y1,_⟩⟩:=Af p1;have bC:(k1:Int)<(all.length:Int):=by omega
    clear p1 hk2;go_upto_region 18 with(go_at_call 73;refine(Vx B rb all _ 3 _ (Aa G).rpr rfl).mono ?_;rintro e w' ⟨rfl,q,rfl⟩)
    go_region
    obtain⟨X,hX⟩:∃X,wr.drewN (q+1)=X:=⟨_,rfl⟩;have U:=(Aa G).drewN (q+1);rw[hX]at U;rw[hX];clear hX y0 y1 aT bA aZ bG bB bK bC G;obtain⟨a5,c5,k5,p5,bE,I⟩:=U.step;obtain⟨⟨z0,v0⟩,⟨z1,v1⟩⟩:=Af p5;clear p5 U;go_upto_region 20 with fail
    obtain⟨Y,hY⟩:∃Y,X.setCell ⟨rb,1,none⟩ (.int .i64 ((k5:Int)+1))=Y:=⟨_,rfl⟩;rw[hY]at I;rw[hY];clear hY z0 v0 z1 v1 bE;have cT:=I.lt;have R:=Aa bZ _ (by omega) (lv+1) n r B rb all _ Y I.rpr (by omega) (Aa bQ) (by omega) hw;rw[show (((lv+1:Nat)):Int)=(lv:Int)+1 from by omega]at R;have bJ:=Ab R;clear R hw;go_upto_region 21 with(go_at_call 74;refine(Aa bJ).mono ?_;rintro e' w2 ⟨k,t,ka,kn,kc,Z,dn,aA,l2,rfl,aL⟩)
    have S:=Aa aL;obtain⟨W3,aE,aC,d0,d1,aK⟩:=V6 w2 (.cells #[.int .u8 k,.string ⟨t.toArray⟩,.slice ka kn kc,.slice Z dn aA,.int .i64 l2] 26) (.cells #[.int .i64 e,.int .i64 l] 29);obtain⟨dA,q0,q1,q2⟩:=I.rest (Ah S (Aj aC (some rb)));obtain⟨D,hD⟩:∃D,w2.heap.size=D:=⟨_,rfl⟩;rw[hD]at d0 d1 aK;have bU:=S.size;have cU:H+1+1<D:=by omega
    try rw[hD]
    rw[aE];obtain⟨⟨x0,e0⟩,⟨x1,e1⟩,⟨x2,e2⟩,⟨x3,e3⟩,⟨x4,e4⟩⟩:=Ad d0;obtain⟨⟨y0,f0⟩,⟨y1,f1⟩⟩:=Af d1;obtain⟨⟨z0,v0⟩,⟨z1,v1⟩,⟨z2,v2⟩,⟨z3,v3⟩,⟨z4,v4⟩⟩:=Ad q2;obtain⟨⟨r0,s0⟩,⟨r1,s1⟩,⟨r2,s2⟩,⟨r3,s3⟩,⟨r4,s4⟩⟩:=Ad q0;obtain⟨⟨t0,u0⟩,⟨t1,u1⟩⟩:=Af q1;have dC:=Ab q0;have dF:=Ab q1;clear aE d0 d1 aC aK hD aL S I q0 q1 q2;go_wp2;go_region_with_o (fail)
    all_goals go_wp2
    all_goals
     have hT:=V8 (Aa dC) (Aa dF) (.int .u8 2) (.string ⟨#[]⟩) (.slice none 0 0) (.slice da ds.length dc) (.int .i64 J) (.int .i64 e) (.int .i64 l);exact qW (Vz rfl _ rfl rfl hT.h0 hT.h1) rfl ⟨2,[],none,0,0,da,ds.length,dc,J,rfl,Ab (Vy hT dA (by have:=Aa HH;omega))⟩
 |keys h hs=>exact absurd (Aa aB) (by simp[P20.kindOf])
end Go.Proofs.YtnjokdbblmlhhaaGreatDoor
namespace Go.Proofs.YtnjokdbblmlhhaaGreatDoor
set_option maxHeartbeats 8000000
set_option maxRecDepth 100000
open Go.RowKit
def Wv:Code→List Code
 | .loop c=>[c]
 | .seq a b=>Wv a++Wv b
 | .block _ c=>Wv c
 | .scope c=>Wv c
 | .cond _ a b=>Wv a++Wv b
 |_=>[]
noncomputable def Y9:Code:=match Tryz.f35.body with
 |some c=>(Wv c).getD 1 .skip
 |none=>.skip
end Go.Proofs.YtnjokdbblmlhhaaGreatDoor
namespace Go.Proofs.YtnjokdbblmlhhaaGreatDoor
set_option maxHeartbeats 8000000
set_option maxRecDepth 100000
open Go.RowKit
attribute [local go_sem] Jz Ka
theorem Qav(last:Int)(lv:Nat)(w:World)(H B rb:Nat)(all:List Tk)(aA:Int)(ks:List (List UInt8))(ds:List Nd)(ka da:Option Addr)(kc dc:Nat)(x:List UInt8)(n c:Int)(r:List Tk)(wr:World){K K1:Act→World→Prop}{R:Ending→World→Prop}
  (J:VI w H B rb all aA 3 ks ds (.slice ka ks.length kc) (.slice da ds.length dc) ((4,x,n,c)::r) wr) (bY:Fl all=last) (jl:(lv:Int)≤16) (kJ:ks.length≤999999) (kM:ds.length≤999999)
  (c2 c3 c7 c8 c9 jV jO fX iE gV gZ fW jU jQ jN jR fM fS iK iP jX fY gO jY hU iY kC jM iI iM fR gJ iA jK iT kB iO fU jZ fT jB gQ iB iJ jP gM iQ fK fP gG iN iH jD gB jI iG iL gY kD gK jT iD jJ gU jH fL gC iR jW iS fQ fJ gR gN gS iU gI gL fZ fN iZ gW kA jS iC iV gH gD jG gF gA eI dL aX cP bZ eC eV aZ bV cA eL cM eT bS dF bE eJ cK cI cQ eK cD eO fD aN fB bF cV dD dC dY bD eH:Value) (jx:(64:Int)<(x.length:Int)) (hq:∀(tmps:Array Value) (w9:World),tmps.getD 4 undef=.pointer (some ⟨H,0,none⟩)→tmps.getD 5 undef=.pointer (some ⟨H+1,0,none⟩)→w9.heap[H]?=some (.cells #[.int .u8 3,.string ⟨#[]⟩,.slice ka ks.length kc,.slice da ds.length dc,.int .i64 aA] 26)→w9.heap[H+1]?=some (.cells #[.int .i64 2,.int .i64 n] 29)→w.grownBy w9 (some rb)→bodyPost Tryz.prog Tryz.f35 R .ret ⟨tmps,[]⟩ w9) (jA jF fO jL dG cW aK eQ dS cF dI eG aL eW bG dX bN bB aG bK cU bI fF eB cO bJ eR aO aQ cR aI eN bP bM dA aW bR dQ cT cH aY bC cC eM cJ dZ aS aR eY eP cX fH cE bO dR dM aJ eE aM bT eS cL bQ bW cZ fA aC bL dN eF dW aU dE aD eU cG eX eD bU dB dJ dP aT bX dH dU bA cN cS cY dK dO cB:Value):Code.wp Tryz.prog Y9 (Exit.then K (Exit.inBlock 3 (Exit.inBlock 0 (Exit.then K1 (bodyPost Tryz.prog Tryz.f35 R))))) ⟨#[.pointer (some ⟨rb,0,none⟩),.int .i64 lv,c2,c3,.pointer (some ⟨H,0,none⟩),.pointer (some ⟨H+1,0,none⟩),.pointer (some ⟨H+1+1,0,none⟩),c7,c8,c9,jA,jF,fO,jL,jV,jO,fX,iE,gV,gZ,fW,jU,jQ,jN,jR,fM,fS,iK,iP,jX,fY,gO,jY,hU,iY,kC,jM,iI,iM,fR,gJ,iA,jK,iT,kB,iO,fU,jZ,fT,jB,gQ,iB,iJ,jP,gM,iQ,fK,fP,gG,iN,iH,jD,gB,jI,iG,iL,gY,kD,gK,jT,iD,jJ,gU,jH,fL,gC,iR,jW,iS,fQ,fJ,gR,gN,gS,iU,gI,gL,fZ,fN,iZ,gW,kA,jS,iC,iV,gH,gD,jG,gF,gA,eI,dL,aX,cP,bZ,eC,eV,aZ,bV,cA,eL,cM,eT,bS,dF,bE,eJ,cK,cI,cQ,eK,cD,eO,fD,aN,fB,bF,cV,dD,dC,dY,dG,cW,aK,eQ,dS,cF,dI,eG,aL,eW,bG,dX,bN,bB,aG,bK,cU,bI,fF,eB,cO,bJ,eR,aO,aQ,cR,aI,eN,bP,bM,dA,aW,bR,dQ,cT,cH,aY,bC,cC,eM,cJ,dZ,aS,aR,eY,eP,cX,fH,cE,bO,dR,dM,aJ,eE,aM,bT,eS,cL,bQ,bW,cZ,fA,aC,bL,dN,eF,dW,aU,dE,aD,eU,cG,eX,eD,bU,dB,dJ,dP,aT,bX,dH,dU,bA,cN,cS,cY,dK,dO,cB,bD,eH],[]⟩ wr:=by
 have Z:=Ab J;have fI:=Ab bY;have HH:=Ab J.hh;have kI:=J.bh;have kG:=J.rpr.lt;have kL:=Dl;have HQ:=Ab hq;have kK:IntKind.i64.wrap ((lv:Int)+1)=(lv:Int)+1:=qG _ (by omega);clear J bY hq
 conv=>arg 2;whnf
 go_upto_region 27 with(go_at_call 73;refine(Vx B rb all _ 4 _ (Aa Z).rpr rfl).mono ?_;rintro e w' ⟨rfl,q,rfl⟩)
 obtain⟨Q,Y⟩:∃Q,wr.drewN q=Q:=⟨_,rfl⟩;have D:=(Aa Z).drewN q;rw[Y]at D;rw[Y];obtain⟨b1,o1,c1,k1,p1,iF,hk2,N,jC,aE,bH,eA,fG⟩:=D.rpr.cons;have y0:=Af p1;have gE:(k1:Int)<(all.length:Int):=by omega
 have aB:rb<Q.heap.size:=(qA.1 p1).1;clear p1 hk2 Y Z;have G:∀r o,r<Q.heap.size→(Q.alloc (.cells #[.int .u8 0,.string ⟨#[]⟩,.int .i64 0,.int .i64 0] 124)).cell? ⟨r,o,none⟩=Q.cell? ⟨r,o,none⟩:=fun r o h=>Ag (qD _ _ _ h) o;have gP:=(G rb 0 aB).trans y0.1.1;have iW:=(G rb 1 aB).trans y0.2.1;have aH:=(G _ _ N).trans aE;have eZ:=(G _ _ N).trans bH;have fC:=(G _ _ N).trans eA;have fE:=(G _ _ N).trans fG;clear G;go_region
 obtain⟨X,hX⟩:∃X,(Q.alloc (.cells #[.int .u8 4,.string ⟨x.toArray⟩,.int .i64 n,.int .i64 c] 124)).drew=X:=⟨_,rfl⟩;have S:=(D.below ((qV _ Q).alloc (qJ _) (.cells #[.int .u8 4,.string ⟨x.toArray⟩,.int .i64 n,.int .i64 c] 124))).drew;have gT:X.heap[Q.heap.size]?=some (.cells #[.int .u8 4,.string ⟨x.toArray⟩,.int .i64 n,.int .i64 c] 124):=by rw[←hX];exact qB Q _
 rw[hX]at S;rw[hX];obtain⟨TB,U⟩:∃TB,Q.heap.size=TB:=⟨_,rfl⟩;have kF:H+1+1<TB:=by have:=D.lt;omega
 have kE:TB<X.heap.size:=by rw[←U];exact(qA.1 gT).1
 rw[U]at gT;try rw[U]
 have x0:=A1 gT;clear hX U y0 aE bH eA fG gP iW aH eZ fC fE N jC iF gE aB D;have hE:=Wa B rb all _ 2 X.drew S.rpr.drew;rw[Aa fI,show P20.hereL last ((4,x,n,c)::r)=n from rfl]at hE;have HE:=Ab hE;have mx:=S.b2;rw[show ((3:Nat):Int)=3 from rfl]at mx;have z0:=Ad mx;clear mx;have kH:=S.lt;clear hE;go_wp2;go_region_with_o (go_at_call 36;refine(Aa HE).mono ?_;rintro e' w5 ⟨rfl,iX⟩;have I:=S.drew.below iX;have r0:=Ad I.b0;have t0:=Af I.b1;have m5:=I.b2;rw[show ((3:Nat):Int)=3 from rfl]at m5;have z0:=Ad m5;clear m5)
 all_goals go_wp2
 all_goals
  have hT:=(V8 I.b0 I.b1 (.int .u8 3) (.string ⟨#[]⟩) (.slice ka ks.length kc) (.slice da ds.length dc) (.int .i64 aA) (.int .i64 2) (.int .i64 n)).undrew;exact Aa HQ _ _ rfl rfl hT.h0 hT.h1 (Vy hT I.grow (by have:=Aa HH;omega))
theorem Qan(last:Int)(lv:Nat)(w:World)(H B rb:Nat)(all:List Tk)(aC:Int)(ks:List (List UInt8))(ds:List Nd)(ka da:Option Addr)(kc dc:Nat)(x:List UInt8)(n c:Int)(r:List Tk)(wr:World){K K1:Act→World→Prop}{R:Ending→World→Prop}
  (N:VI w H B rb all aC 3 ks ds (.slice ka ks.length kc) (.slice da ds.length dc) ((4,x,n,c)::r) wr) (cA:Fl all=last) (jl:(lv:Int)≤16) (kN:ks.length≤999999) (kQ:ds.length≤999999)
  (c2 c3 c7 c8 c9 jZ jS gA iH gZ iB fZ jY jU jR jV fO fW iN iS kB gB gR kC iC jC kG jQ iL iP fU gM iD jO iW kF iR fY kD fX jG gU iE iM jT gP iT fM fS gJ iQ iK jI gE jM iJ iO iA kH gN jX iG jN gY jL fN gF iU kA iV fT fL gV gQ gW iX gL gO gC fP jD hU kE jW iF iY gK gG jK gI gD eK dN aZ cR cB eE eX bB bX cC eN cO eV bU dH bG eL cM cK cS eM cF eQ fF aQ fD bH cX dF dE eA bF eJ:Value) (jx:(x.length:Int)≤64) (hm:x∈ks) (hq:∀(tmps:Array Value) (w9:World),tmps.getD 4 undef=.pointer (some ⟨H,0,none⟩)→tmps.getD 5 undef=.pointer (some ⟨H+1,0,none⟩)→w9.heap[H]?=some (.cells #[.int .u8 3,.string ⟨#[]⟩,.slice ka ks.length kc,.slice da ds.length dc,.int .i64 aC] 26)→w9.heap[H+1]?=some (.cells #[.int .i64 6,.int .i64 n] 29)→w.grownBy w9 (some rb)→bodyPost Tryz.prog Tryz.f35 R .ret ⟨tmps,[]⟩ w9) (jF jJ fR jP dI cY aM eS dW cH dK eI aN eY bI dZ bP bD aI bM cW bK fH eD cQ bL eT aR aS cT aK eP bR bO dC aY bT dS cV cJ bA bE cE eO cL eB aU aT fA eR cZ fJ cG bQ dU dO aL eG aO bV eU cN bS bY dB fC aE bN dP eH dY aX dG aG eW cI eZ eF bW dD dL dR aW bZ dJ dX bC cP cU dA dM dQ cD:Value):Code.wp Tryz.prog Y9 (Exit.then K (Exit.inBlock 3 (Exit.inBlock 0 (Exit.then K1 (bodyPost Tryz.prog Tryz.f35 R))))) ⟨#[.pointer (some ⟨rb,0,none⟩),.int .i64 lv,c2,c3,.pointer (some ⟨H,0,none⟩),.pointer (some ⟨H+1,0,none⟩),.pointer (some ⟨H+1+1,0,none⟩),c7,c8,c9,jF,jJ,fR,jP,jZ,jS,gA,iH,gZ,iB,fZ,jY,jU,jR,jV,fO,fW,iN,iS,kB,gB,gR,kC,iC,jC,kG,jQ,iL,iP,fU,gM,iD,jO,iW,kF,iR,fY,kD,fX,jG,gU,iE,iM,jT,gP,iT,fM,fS,gJ,iQ,iK,jI,gE,jM,iJ,iO,iA,kH,gN,jX,iG,jN,gY,jL,fN,gF,iU,kA,iV,fT,fL,gV,gQ,gW,iX,gL,gO,gC,fP,jD,hU,kE,jW,iF,iY,gK,gG,jK,gI,gD,eK,dN,aZ,cR,cB,eE,eX,bB,bX,cC,eN,cO,eV,bU,dH,bG,eL,cM,cK,cS,eM,cF,eQ,fF,aQ,fD,bH,cX,dF,dE,eA,dI,cY,aM,eS,dW,cH,dK,eI,aN,eY,bI,dZ,bP,bD,aI,bM,cW,bK,fH,eD,cQ,bL,eT,aR,aS,cT,aK,eP,bR,bO,dC,aY,bT,dS,cV,cJ,bA,bE,cE,eO,cL,eB,aU,aT,fA,eR,cZ,fJ,cG,bQ,dU,dO,aL,eG,aO,bV,eU,cN,bS,bY,dB,fC,aE,bN,dP,eH,dY,aX,dG,aG,eW,cI,eZ,eF,bW,dD,dL,dR,aW,bZ,dJ,dX,bC,cP,cU,dA,dM,dQ,cD,bF,eJ],[]⟩ wr:=by
 have aB:=Ab N;have fK:=Ab cA;have HH:=Ab N.hh;have kM:=N.bh;have kK:=N.rpr.lt;have kP:=Dl;have HQ:=Ab hq;have kO:IntKind.i64.wrap ((lv:Int)+1)=(lv:Int)+1:=qG _ (by omega);clear N cA hq
 conv=>arg 2;whnf
 go_upto_region 27 with(go_at_call 73;refine(Vx B rb all _ 4 _ (Aa aB).rpr rfl).mono ?_;rintro e w' ⟨rfl,q,rfl⟩)
 obtain⟨S,aA⟩:∃S,wr.drewN q=S:=⟨_,rfl⟩;have D:=(Aa aB).drewN q;rw[aA]at D;rw[aA];obtain⟨b1,o1,c1,k1,p1,iI,hk2,Q,jH,aH,bJ,eC,fI⟩:=D.rpr.cons;have y0:=Af p1;have gH:(k1:Int)<(all.length:Int):=by omega
 have aD:rb<S.heap.size:=(qA.1 p1).1;clear p1 hk2 aA aB;have G:∀r o,r<S.heap.size→(S.alloc (.cells #[.int .u8 0,.string ⟨#[]⟩,.int .i64 0,.int .i64 0] 124)).cell? ⟨r,o,none⟩=S.cell? ⟨r,o,none⟩:=fun r o h=>Ag (qD _ _ _ h) o;have gS:=(G rb 0 aD).trans y0.1.1;have iZ:=(G rb 1 aD).trans y0.2.1;have aJ:=(G _ _ Q).trans aH;have fB:=(G _ _ Q).trans bJ;have fE:=(G _ _ Q).trans eC;have fG:=(G _ _ Q).trans fI;clear G;go_region
 obtain⟨X,hX⟩:∃X,(S.alloc (.cells #[.int .u8 4,.string ⟨x.toArray⟩,.int .i64 n,.int .i64 c] 124)).drew=X:=⟨_,rfl⟩;have J:=(D.below ((qV _ S).alloc (qJ _) (.cells #[.int .u8 4,.string ⟨x.toArray⟩,.int .i64 n,.int .i64 c] 124))).drew;have gT:X.heap[S.heap.size]?=some (.cells #[.int .u8 4,.string ⟨x.toArray⟩,.int .i64 n,.int .i64 c] 124):=by rw[←hX];exact qB S _
 rw[hX]at J;rw[hX];obtain⟨TB,U⟩:∃TB,S.heap.size=TB:=⟨_,rfl⟩;have kJ:H+1+1<TB:=by have:=D.lt;omega
 have kI:TB<X.heap.size:=by rw[←U];exact(qA.1 gT).1
 rw[U]at gT;try rw[U]
 have x0:=A1 gT;clear hX U y0 aH bJ eC fI gS iZ aJ fB fE fG Q jH iI gH aD D;have hE:=Wa B rb all _ 6 X.drew J.rpr.drew;rw[Aa fK,show P20.hereL last ((4,x,n,c)::r)=n from rfl]at hE;have HE:=Ab hE;have mx:=J.b2;rw[show ((3:Nat):Int)=3 from rfl]at mx;have z0:=Ad mx;clear mx;have kL:=J.lt;clear hE;obtain⟨a3,c3,jA,_,_,Y,_⟩:=J.own.str.slice;injection jA with e1 _ e2;subst e1;subst e2;have Z:=Rt ka kc ks x X Y (by omega);rw[decide_eq_true hm]at Z;have fQ:=Ab Z;clear Z Y hm;go_wp2_with (go_at_call 75;refine(Aa fQ).mono ?_;rintro e w' ⟨rfl,rfl⟩)
 go_region_with_o (go_at_call 36;refine(Aa HE).mono ?_;rintro e' w5 ⟨rfl,jB⟩;have I:=J.drew.below jB;have r0:=Ad I.b0;have t0:=Af I.b1;have m5:=I.b2;rw[show ((3:Nat):Int)=3 from rfl]at m5;have z0:=Ad m5;clear m5)
 all_goals go_wp2
 all_goals
  have hT:=(V8 I.b0 I.b1 (.int .u8 3) (.string ⟨#[]⟩) (.slice ka ks.length kc) (.slice da ds.length dc) (.int .i64 aC) (.int .i64 6) (.int .i64 n)).undrew;exact Aa HQ _ _ rfl rfl hT.h0 hT.h1 (Vy hT I.grow (by have:=Aa HH;omega))
end Go.Proofs.YtnjokdbblmlhhaaGreatDoor
namespace Go.Proofs.YtnjokdbblmlhhaaGreatDoor
set_option maxHeartbeats 8000000
set_option maxRecDepth 100000
open Go.RowKit
attribute [local go_sem] Jz Ka
theorem Qa5(last:Int)(lv:Nat)(w:World)(H B rb:Nat)(all:List Tk)(eU:Int)(ks:List (List UInt8))(ds:List Nd)(ka da:Option Addr)(kc dc:Nat)(x:List UInt8)(n c:Int)(kt:Nat)(xt:List UInt8)(ct:Int)(r2:List Tk)(wr:World){K K1:Act→World→Prop}{R:Ending→World→Prop}
  (bD:VI w H B rb all eU 3 ks ds (.slice ka ks.length kc) (.slice da ds.length dc) ((4,x,n,c)::((kt,xt,n,ct)::r2)) wr) (jP:Fl all=last) (jl:(lv:Int)≤16) (nO:ks.length≤999999) (pA:ds.length≤999999)
  (c2 c3 c7 c8 c9 mJ mA iU kI jW kB iT mH mD lZ mE iH iP kP kY mM iV jR mN kC lI mW lY kL kS iO jK kD lX lE mS kU iS mP iR lM jS kE kO mB jN kZ iB iM jG kT kK lQ iY lT kJ kR kA nA jL mG kH lW jV lS iE iZ lC mK lD iN iA jT jQ jU lF jJ jM iW iI lJ jX mR mF kF lH jH jA lR jC iX gA fU eX fM fF fX gG eY fE fG gD fL gF fD fT fA gB fK fJ fN gC fH gE gJ eW gH fB fO fS fR fW eZ fZ:Value) (jx:(x.length:Int)≤64) (hm:x∉ks) (h5:5≤kt) (g:Nat) (hV:Xe last g) (o2:P20.Out (List (List UInt8) × List P20.T))
  (fI:(∃d r',P20.Val last g (lv+1) ((kt,xt,n,ct)::r2) (.ok d r')∧P20.Ky last g (lv+1) (ks++[x]) (Am ds++[d]) r' o2)∨(∃e l,P20.Val last g (lv+1) ((kt,xt,n,ct)::r2) (.bad e l)∧o2=.bad e l))
  (hq:∀(gP gS gK gU dA cS aR eD dM cF dC dY aS eI bK dP bQ bI aM bN cR bL eN dR cM bM eF aW aX cO aN eA bT bP cW bC bV dK cQ cH bE bJ cC dZ cI dQ aZ aY eK eC cT eO cE bS dL dF aQ dU aT bW eG cJ bU bY cV eL aK bO dG dW dO bB cZ aL eH cG eJ dS bX cX dD dJ bA bZ dB dN bH cL cP cU dE dI cB:Value) (nd:Nd) (nU nJ:Value) (r':List Tk) (w9:World),P20.Ky last g (lv+1) (ks++[x]) (Am (ds++[nd])) r' o2→VI w H B rb all eU 3 (ks++[x]) (ds++[nd]) nU nJ r' w9→r'.length<(((kt,xt,n,ct)::r2)).length→K ⟨#[.pointer (some ⟨rb,0,none⟩),.int .i64 lv,c2,c3,.pointer (some ⟨H,0,none⟩),.pointer (some ⟨H+1,0,none⟩),.pointer (some ⟨H+1+1,0,none⟩),c7,c8,c9,gP,gS,gK,gU,mJ,mA,iU,kI,jW,kB,iT,mH,mD,lZ,mE,iH,iP,kP,kY,mM,iV,jR,mN,kC,lI,mW,lY,kL,kS,iO,jK,kD,lX,lE,mS,kU,iS,mP,iR,lM,jS,kE,kO,mB,jN,kZ,iB,iM,jG,kT,kK,lQ,iY,lT,kJ,kR,kA,nA,jL,mG,kH,lW,jV,lS,iE,iZ,lC,mK,lD,iN,iA,jT,jQ,jU,lF,jJ,jM,iW,iI,lJ,jX,mR,mF,kF,lH,jH,jA,lR,jC,iX,gA,fU,eX,fM,fF,fX,gG,eY,fE,fG,gD,fL,gF,fD,fT,fA,gB,fK,fJ,fN,gC,fH,gE,gJ,eW,gH,fB,fO,fS,fR,fW,dA,cS,aR,eD,dM,cF,dC,dY,aS,eI,bK,dP,bQ,bI,aM,bN,cR,bL,eN,dR,cM,bM,eF,aW,aX,cO,aN,eA,bT,bP,cW,bC,bV,dK,cQ,cH,bE,bJ,cC,dZ,cI,dQ,aZ,aY,eK,eC,cT,eO,cE,bS,dL,dF,aQ,dU,aT,bW,eG,cJ,bU,bY,cV,eL,aK,bO,dG,dW,dO,bB,cZ,aL,eH,cG,eJ,dS,bX,cX,dD,dJ,bA,bZ,dB,dN,bH,cL,cP,cU,dE,dI,cB,eZ,fZ],[]⟩ w9)
  (lP:∀(e l:Int),o2=.bad e l→∀(tmps:Array Value) (w9:World),tmps.getD 4 undef=.pointer (some ⟨H,0,none⟩)→tmps.getD 5 undef=.pointer (some ⟨H+1,0,none⟩)→w9.heap[H]?=some (.cells #[.int .u8 3,.string ⟨#[]⟩,.slice ka ks.length kc,.slice da ds.length dc,.int .i64 eU] 26)→w9.heap[H+1]?=some (.cells #[.int .i64 e,.int .i64 l] 29)→w.grownBy w9 (some rb)→bodyPost Tryz.prog Tryz.f35 R .ret ⟨tmps,[]⟩ w9) (gP gS gK gU dA cS aR eD dM cF dC dY aS eI bK dP bQ bI aM bN cR bL eN dR cM bM eF aW aX cO aN eA bT bP cW bC bV dK cQ cH bE bJ cC dZ cI dQ aZ aY eK eC cT eO cE bS dL dF aQ dU aT bW eG cJ bU bY cV eL aK bO dG dW dO bB cZ aL eH cG eJ dS bX cX dD dJ bA bZ dB dN bH cL cP cU dE dI cB:Value):Code.wp Tryz.prog Y9 (Exit.then K (Exit.inBlock 3 (Exit.inBlock 0 (Exit.then K1 (bodyPost Tryz.prog Tryz.f35 R))))) ⟨#[.pointer (some ⟨rb,0,none⟩),.int .i64 lv,c2,c3,.pointer (some ⟨H,0,none⟩),.pointer (some ⟨H+1,0,none⟩),.pointer (some ⟨H+1+1,0,none⟩),c7,c8,c9,gP,gS,gK,gU,mJ,mA,iU,kI,jW,kB,iT,mH,mD,lZ,mE,iH,iP,kP,kY,mM,iV,jR,mN,kC,lI,mW,lY,kL,kS,iO,jK,kD,lX,lE,mS,kU,iS,mP,iR,lM,jS,kE,kO,mB,jN,kZ,iB,iM,jG,kT,kK,lQ,iY,lT,kJ,kR,kA,nA,jL,mG,kH,lW,jV,lS,iE,iZ,lC,mK,lD,iN,iA,jT,jQ,jU,lF,jJ,jM,iW,iI,lJ,jX,mR,mF,kF,lH,jH,jA,lR,jC,iX,gA,fU,eX,fM,fF,fX,gG,eY,fE,fG,gD,fL,gF,fD,fT,fA,gB,fK,fJ,fN,gC,fH,gE,gJ,eW,gH,fB,fO,fS,fR,fW,dA,cS,aR,eD,dM,cF,dC,dY,aS,eI,bK,dP,bQ,bI,aM,bN,cR,bL,eN,dR,cM,bM,eF,aW,aX,cO,aN,eA,bT,bP,cW,bC,bV,dK,cQ,cH,bE,bJ,cC,dZ,cI,dQ,aZ,aY,eK,eC,cT,eO,cE,bS,dL,dF,aQ,dU,aT,bW,eG,cJ,bU,bY,cV,eL,aK,bO,dG,dW,dO,bB,cZ,aL,eH,cG,eJ,dS,bX,cX,dD,dJ,bA,bZ,dB,dN,bH,cL,cP,cU,dE,dI,cB,eZ,fZ],[]⟩ wr:=by
 have gQ:=Ab bD;have gZ:=Ab jP;have HH:=Ab bD.hh;have oR:=bD.bh;have oO:=bD.rpr.lt;have oY:=Dl;have HQ:=Ab hq;have oU:IntKind.i64.wrap ((lv:Int)+1)=(lv:Int)+1:=qG _ (by omega);have oD:=Ab lP;have lO:=Ab hV;have jF:=Ab fI;clear bD jP hq lP hV fI
 conv=>arg 2;whnf
 go_upto_region 27 with(go_at_call 73;refine(Vx B rb all _ 4 _ (Aa gQ).rpr rfl).mono ?_;rintro e w' ⟨rfl,q,rfl⟩)
 obtain⟨Y0,gO⟩:∃Y0,wr.drewN q=Y0:=⟨_,rfl⟩;have U:=(Aa gQ).drewN q;rw[gO]at U;rw[gO];obtain⟨b1,o1,c1,k1,p1,nR,hk2,cA,nY,iD,jB,lL,mY⟩:=U.rpr.cons;have y0:=Af p1;have nK:(k1:Int)<(all.length:Int):=by omega
 have gW:rb<Y0.heap.size:=(qA.1 p1).1;clear hk2 gO gQ;have aD:∀r o,r<Y0.heap.size→(Y0.alloc (.cells #[.int .u8 0,.string ⟨#[]⟩,.int .i64 0,.int .i64 0] 124)).cell? ⟨r,o,none⟩=Y0.cell? ⟨r,o,none⟩:=fun r o h=>Ag (qD _ _ _ h) o;have nN:=(aD rb 0 gW).trans y0.1.1;have nX:=(aD rb 1 gW).trans y0.2.1;have iF:=(aD _ _ cA).trans iD;have mL:=(aD _ _ cA).trans jB;have mO:=(aD _ _ cA).trans lL;have mU:=(aD _ _ cA).trans mY;clear aD;go_region
 obtain⟨X,hX⟩:∃X,(Y0.alloc (.cells #[.int .u8 4,.string ⟨x.toArray⟩,.int .i64 n,.int .i64 c] 124)).drew=X:=⟨_,rfl⟩;have eB:=(U.below ((qV _ Y0).alloc (qJ _) (.cells #[.int .u8 4,.string ⟨x.toArray⟩,.int .i64 n,.int .i64 c] 124))).drew;have gT:X.heap[Y0.heap.size]?=some (.cells #[.int .u8 4,.string ⟨x.toArray⟩,.int .i64 n,.int .i64 c] 124):=by rw[←hX];exact qB Y0 _
 rw[hX]at eB;rw[hX];obtain⟨TB,eS⟩:∃TB,Y0.heap.size=TB:=⟨_,rfl⟩;have oL:H+1+1<TB:=by have:=U.lt;omega
 have iC:TB<X.heap.size:=by rw[←eS];exact(qA.1 gT).1
 rw[eS]at gT;try rw[eS]
 have x0:=A1 gT;clear hX eS y0 iD jB lL mY nN nX iF mL mO mU cA nY nR nK gW U;obtain⟨a3,c3,dH,_,_,fC,_⟩:=eB.own.str.slice;injection dH with e1 _ e2;subst e1;subst e2;have gL:=Rt ka kc ks x X fC (by omega);rw[decide_eq_false hm]at gL;have iJ:=Ab gL;have HM:=Ab hm;clear gL fC hm;have z0:=Ad eB.b2;obtain⟨a5,c5,k5,p5,oC,dX⟩:=eB.step;have y0:=Af p5;go_upto_region 33 with(go_at_call 75;refine(Aa iJ).mono ?_;rintro e w' ⟨rfl,rfl⟩)
 obtain⟨Y,hY⟩:∃Y,X.setCell ⟨rb,1,none⟩ (.int .i64 ((k5:Int)+1))=Y:=⟨_,rfl⟩;have eT:=(show Y.heap[TB]?=X.heap[TB]? by rw[←hY];exact qC _ _ _ _ (by show TB≠rb;omega)).trans gT;have kW:TB<Y.heap.size:=(qA.1 eT).1;rw[hY]at dX;rw[hY];have oN:=dX.lt;obtain⟨W3,iQ,eR,d0,d1,gV⟩:=V6 Y (.cells #[.int .u8 0,.string ⟨#[]⟩,.slice none 0 0,.slice none 0 0,.int .i64 0] 26) (.cells #[.int .i64 0,.int .i64 0] 29);have dH:=dX.below eR;have hU:=(eR.block TB kW).trans eT;clear hY y0 p5 oC z0 x0 eB gT iC iJ;go_upto_region 35 with fail
 obtain⟨D,hD⟩:∃D,Y.heap.size=D:=⟨_,rfl⟩;rw[hD]at d0 d1 gV;try rw[hD]
 try rw[iQ]
 obtain⟨kr,gM⟩:∃kr:Int,((P20.kindOf ((kt,xt,n,ct)::r2):Nat):Int)=kr:=⟨_,rfl⟩;go_upto_region 36 with(go_at_call 73;refine(Vx B rb all ((kt,xt,n,ct)::r2) kr _ dH.rpr gM).mono ?_;rintro e w' ⟨rfl,q2,rfl⟩)
 obtain⟨Z,hZ⟩:∃Z,W3.drewN q2=Z:=⟨_,rfl⟩;have aC:=dH.drewN q2;have m0:=(show Z.heap[D]?=W3.heap[D]? by rw[←hZ];rfl).trans d0;have m1:=(show Z.heap[D+1]?=W3.heap[D+1]? by rw[←hZ];rfl).trans d1;have mI:=(show Z.heap[TB]?=W3.heap[TB]? by rw[←hZ];rfl).trans hU;have gN:Z.heap.size=D+1+1:=by rw[←hZ];exact gV
 have lK:Y.grownBy Z (some rb):=by rw[←hZ];exact Ah (Aj eR _) (Vw _ q2 _)
 rw[hZ]at aC;rw[hZ];have oZ:TB<D:=by omega
 have oS:H+1+1<D:=by omega
 clear hZ iQ eR d0 d1 gV dH hU;have eQ:=Ab mI;have eE:=Ab m0;have bF:=Ab m1;have bR:=Ab dX;have aG:=Ab lK;have oI:=Ab eT;have oX:Y.heap.size=D:=hD;clear mI m0 m1 dX lK eT hD;have jg:(5:Int)≤kr:=by have:((kt:Nat):Int)=kr:=gM;omega
 obtain⟨b6,o6,c6,k6,p6,nH,nL,nQ,oB,_,_,nC,_⟩:=aC.rpr.cons;have y0:=Af p6;have x0:=A1 (Aa eQ);have nG:(k6:Int)<(all.length:Int):=by omega
 have jY:=Ab aC;clear nL aC gM;go_quiet (fail)
 clear y0 x0 nC nG nH nQ oB;obtain⟨Z1,aA⟩:∃Z1,Z.drewN nq=Z1:=⟨_,rfl⟩;have eM:=(Aa jY).drewN nq;have mZ:Z.grownBy Z1 (some rb):=by rw[←aA];exact Vw _ nq _
 have mT:=(show Z1.heap[TB]?=Z.heap[TB]? by rw[←aA];rfl).trans (Aa eQ);have m0:=(show Z1.heap[D]?=Z.heap[D]? by rw[←aA];rfl).trans (Aa eE);have m1:=(show Z1.heap[D+1]?=Z.heap[D+1]? by rw[←aA];rfl).trans (Aa bF);have fQ:Z1.heap.size=D+1+1:=by rw[←aA];exact gN
 have fP:=Ah (Aa aG) mZ;rw[aA]at eM;rw[aA];clear aA eQ eE bF aG mZ gN jY;have aC:=eM;have gN:=fQ;have eQ:=Ab mT;have eE:=Ab m0;have bF:=Ab m1;have aG:=Ab fP;clear eM fQ mT m0 m1 fP;rcases Aa jF with⟨d,r',hv,iL⟩|⟨e,l,hv,rfl⟩
 ·have lA:=(P20.less last g).1 _ _ _ _ hv;have nZ:=Ab lA;have nM:=Ab iL;clear lA iL;have aB:=Aa lO (lv+1) _ B rb all _ Z1 aC.rpr (by omega) (Aa gZ) (by omega) hv;rw[show (((lv+1:Nat)):Int)=(lv:Int)+1 from by omega]at aB;have aU:=Ab aB;clear aB hv;go_upto_region 39 with(go_at_call 35;refine(Aa aU).mono ?_;rintro e' w2 ⟨k,t,J,N,S,G,I,es,l,rfl,Q⟩;have d0:=((Aa Q).2.2.2.2.block D (by omega) (fun e=>by injection e;omega)).trans (Aa eE);have d1:=((Aa Q).2.2.2.2.block (D+1) (by omega) (fun e=>by injection e;omega)).trans (Aa bF);have p0:=Ad d0;have p5:=Af d1;have aO:=Ab d0;have cN:=Ab d1;clear d0 d1)
  obtain⟨W6,aH⟩:∃W6,(((((((w2.setCell ⟨D,0,none⟩ (.int .u8 k)).setCell ⟨D,1,none⟩ (.string ⟨t.toArray⟩)).setCell ⟨D,2,none⟩ (.slice J S.length N)).setCell ⟨D,3,none⟩ (.slice G es.length I)).setCell ⟨D,4,none⟩ (.int .i64 l)).setCell ⟨D+1,0,none⟩ (.int .i64 0)).setCell ⟨D+1,1,none⟩ (.int .i64 0))=W6:=⟨_,rfl⟩;have hT:=(V8 (Aa aO) (Aa cN) (.int .u8 k) (.string ⟨t.toArray⟩) (.slice J S.length N) (.slice G es.length I) (.int .i64 l) (.int .i64 0) (.int .i64 0)).undrew;rw[aH]at hT;rw[aH];clear aH aO cN p0 p5;obtain⟨aE,gI,bG,mC,lU⟩:=Aa Q;have nS:Yh Y B rb all r' d (.mk k t J N S G I es l) W6:=Xb hT aE gI (fun g hg=>by have:=bG g hg;omega) mC (Ah (Aa aG) lU) (by omega) (by omega);obtain⟨_,kG,aI,jD,aJ⟩:=nS;have eP:=(Aa bR).old aJ jD;have m6:=(aJ.block TB (by omega) (fun e=>by injection e;omega)).trans (Aa oI);have x0:=A1 m6;have z0:=Ad eP.b2;have y0:=Af hT.h1;have oV:D+1<W6.heap.size:=(qA.1 hT.h1).1;have nW:=Ab aE;have iK:∀g,(Nd.mk k t J N S G I es l).blk g→(Value.slice ka ks.length kc).ownBlock≠some g:=fun g hg e=>by have:=aI g hg;have:=(Ao (Aa bR).own.str.own g e).2;omega
  have lN:∀g,(Nd.mk k t J N S G I es l).blk g→(Value.slice da ds.length dc).ownBlock≠some g:=fun g hg e=>by have:=aI g hg;have:=(Ao (Aa bR).own.kids.own g e).2;omega
  have nD:(Value.slice ka ks.length kc).ownBlock≠some D:=fun e=>by have:=(Ao (Aa bR).own.str.own D e).2;omega
  have oK:ks.length+1≤1000000:=by have:=nO;omega
  have nI:=Ab hT.h0;have lG:=Ab kG;have fY:=Ab aI;have lB:=Ab iK;have oE:=Ab lN;clear aE gI bG mC lU hT Q aJ jD m6 kG aI iK lN aU aG;go_upto_region 42 with(at_builtin;refine Fz (v:=.slice ka ks.length kc) (B:=H+1+1+1) rfl _ _ rfl rfl eP.own.str x rfl (by omega) (by omega) ?_;intro v8 w8 gR eV cY;obtain⟨mQ,jO,jI,_⟩:=gR.slice;rw[qH,qT]at jI;subst jI;obtain⟨e8,cD⟩:=eP.key gR eV cY;have j0:=Ad e8)
  obtain⟨W8,cK⟩:∃W8,w8.setCell ⟨H+1+1,2,none⟩ (.slice mQ (ks.length+1) jO)=W8:=⟨_,rfl⟩;have oG:=(show W8.heap[D]?=w8.heap[D]? by rw[←cK];exact qC _ _ _ _ (by show D≠H+1+1;omega)).trans ((eV.block D (by omega) (fun e=>nD e.symm)).trans (Aa nI));have kM:(Nd.mk k t J N S G I es l).In W8:=by rw[←cK];exact((Aa lG).grown eV (fun g e hb=>Aa lB g hb e)).setCell (fun hb=>by have:=Aa fY _ hb;omega)
  have kN:∀g,(Nd.mk k t J N S G I es l).blk g→(Value.slice mQ (ks.length+1) jO).ownBlock≠some g:=fun g hb e=>by
   rcases cY with h9|⟨g9,h9,oP⟩
   ·exact Aa lB g hb (h9 ▸ e)
   ·rw[e]at h9;injection h9 with h9;have:=(Aa lG).lt hb;omega
  rw[cK]at cD;rw[cK];have gY:∀g,(Nd.mk k t J N S G I es l).blk g→H+1+1+1≤g:=fun g hb=>by have:=Aa fY g hb;omega
  have oM:=cD.lt;clear cK gR eV cY e8 eP x0 y0 z0 j0;have z0:=Ad cD.b2;have y0:=Ad oG;go_wp2_with (at_builtin;refine Ek (v:=.slice da ds.length dc) (B:=H+1+1+1) (nd:=.mk k t J N S G I es l) rfl _ _ rfl rfl cD.own.kids rfl kM gY (Aa oE) rfl (by omega) (by omega) ?_;intro v9 w9 iG nB kX;obtain⟨oQ,oT,jZ,_⟩:=iG.slice;rw[qH,qT]at jZ;subst jZ;obtain⟨e9,nE⟩:=cD.kid iG nB kX kN;have j0:=Ad e9)
  exact Aa HQ _ _ _ _ _ _ _ _ _ _ _ _ _ _ _ _ _ _ _ _ _ _ _ _ _ _ _ _ _ _ _ _ _ _ _ _ _ _ _ _ _ _ _ _ _ _ _ _ _ _ _ _ _ _ _ _ _ _ _ _ _ _ _ _ _ _ _ _ _ _ _ _ _ _ _ _ _ _ _ _ _ _ _ _ _ _ _ _ _ _ _ _ _ _ _ _ r' _ (by rw[Cu];simp only[Am];rw[Aa nW];exact Aa nM) nE (Aa nZ)
 ·have oW:(e != 0)=true:=by have:=(P20.bad_ne last _).1 _ _ _ _ hv;simpa using this
  have aB:=Aa lO (lv+1) _ B rb all _ Z1 aC.rpr (by omega) (Aa gZ) (by omega) hv;rw[show (((lv+1:Nat)):Int)=(lv:Int)+1 from by omega]at aB;have aU:=Ab aB;clear aB hv;go_upto_region 39 with(go_at_call 35;refine(Aa aU).mono ?_;rintro e' w2 ⟨k,t,J,mX,N,G,kQ,I,l2,rfl,Q⟩;have d0:=((Aa Q).block D (by omega) (fun e=>by injection e;omega)).trans (Aa eE);have d1:=((Aa Q).block (D+1) (by omega) (fun e=>by injection e;omega)).trans (Aa bF);have p0:=Ad d0;have p5:=Af d1;have aO:=Ab d0;have cN:=Ab d1;clear d0 d1)
  obtain⟨W6,aH⟩:∃W6,(((((((w2.setCell ⟨D,0,none⟩ (.int .u8 k)).setCell ⟨D,1,none⟩ (.string ⟨t.toArray⟩)).setCell ⟨D,2,none⟩ (.slice J mX N)).setCell ⟨D,3,none⟩ (.slice G kQ I)).setCell ⟨D,4,none⟩ (.int .i64 l2)).setCell ⟨D+1,0,none⟩ (.int .i64 e)).setCell ⟨D+1,1,none⟩ (.int .i64 l))=W6:=⟨_,rfl⟩;have hT:=(V8 (Aa aO) (Aa cN) (.int .u8 k) (.string ⟨t.toArray⟩) (.slice J mX N) (.slice G kQ I) (.int .i64 l2) (.int .i64 e) (.int .i64 l)).undrew;rw[aH]at hT;rw[aH];clear aH aO cN p0 p5;have aJ:=Vy (w:=Y) hT (Ah (Aa aG) (Aa Q)) (by omega);obtain⟨oF,q0,q1,q2⟩:=(Aa bR).rest aJ;have z0:=Ad q2;have y0:=Af hT.h1;have r0:=Ad q0;have t0:=Af q1;have oH:=Ab q0;have oJ:=Ab q1;clear hT Q aJ aU aG;go_wp2;go_region_with_o (fail)
  all_goals go_wp2
  all_goals
   have hT:=(V8 (Aa oH) (Aa oJ) (.int .u8 3) (.string ⟨#[]⟩) (.slice ka ks.length kc) (.slice da ds.length dc) (.int .i64 eU) (.int .i64 e) (.int .i64 l));exact Aa oD _ _ rfl _ _ rfl rfl hT.h0 hT.h1 (Vy hT oF (by have:=Aa HH;omega))
end Go.Proofs.YtnjokdbblmlhhaaGreatDoor
namespace Go.Proofs.YtnjokdbblmlhhaaGreatDoor
set_option maxHeartbeats 8000000
set_option maxRecDepth 100000
open Go.RowKit
attribute [local go_sem] Jz Ka
theorem Qa4(last:Int)(lv:Nat)(w:World)(H B rb:Nat)(all:List Tk)(eU:Int)(ks:List (List UInt8))(ds:List Nd)(ka da:Option Addr)(kc dc:Nat)(x:List UInt8)(n c:Int)(kt:Nat)(xt:List UInt8)(n2 ct:Int)(r2:List Tk)(wr:World){K K1:Act→World→Prop}{R:Ending→World→Prop}
  (bE:VI w H B rb all eU 3 ks ds (.slice ka ks.length kc) (.slice da ds.length dc) ((4,x,n,c)::((kt,xt,n2,ct)::r2)) wr) (jP:Fl all=last) (jl:(lv:Int)≤16) (nQ:ks.length≤999999) (pC:ds.length≤999999)
  (c2 c3 c7 c8 c9 mK mB iU kI jW kB iT mI mE mA mF iH iP kP kY mN iV jR mO kC lJ mX lZ kL kS iO jK kD lY lF mT kU iS mQ iR lN jS kE kO mC jN kZ iB iM jG kT kK lR iY lU kJ kR kA nB jL mH kH lX jV lT iE iZ lC mL lE iN iA jT jQ jU lG jJ jM iW iI lK jX mS mG kF lI jH jA lS jC iX gA fU eX fM fF fX gG eY fE fG gD fL gF fD fT fA gB fK fJ fN gC fH gE gJ eW gH fB fO fS fR fW eZ fZ:Value) (jx:(x.length:Int)≤64) (hm:x∉ks) (h5:5≤kt) (lD:n2≠n) (g:Nat) (hV:Yp last g) (o2:P20.Out (List (List UInt8) × List P20.T))
  (fI:(∃d r',P20.Wi last g (lv+1) n ((kt,xt,n2,ct)::r2) (.ok d r')∧P20.Ky last g (lv+1) (ks++[x]) (Am ds++[d]) r' o2)∨(∃e l,P20.Wi last g (lv+1) n ((kt,xt,n2,ct)::r2) (.bad e l)∧o2=.bad e l))
  (hq:∀(gP gS gK gU dB cT aS eE dN cG dD dZ aT eJ bL dQ bR bJ aN bO cS bM eO dS cN bN eG aX aY cP aO eB bU bQ cX bD bW dL cR cI bF bK cD eA cJ dR bA aZ eL eD cU eP cF bT dM dG aR dW aU bX eH cK bV bZ cW eM aL bP dH dX dP bC dA aM eI cH eK dU bY cY dE dK bB cA dC dO bI cM cQ cV dF dJ cC:Value) (nd:Nd) (nW nK:Value) (r':List Tk) (w9:World),P20.Ky last g (lv+1) (ks++[x]) (Am (ds++[nd])) r' o2→VI w H B rb all eU 3 (ks++[x]) (ds++[nd]) nW nK r' w9→r'.length<(((kt,xt,n2,ct)::r2)).length→K ⟨#[.pointer (some ⟨rb,0,none⟩),.int .i64 lv,c2,c3,.pointer (some ⟨H,0,none⟩),.pointer (some ⟨H+1,0,none⟩),.pointer (some ⟨H+1+1,0,none⟩),c7,c8,c9,gP,gS,gK,gU,mK,mB,iU,kI,jW,kB,iT,mI,mE,mA,mF,iH,iP,kP,kY,mN,iV,jR,mO,kC,lJ,mX,lZ,kL,kS,iO,jK,kD,lY,lF,mT,kU,iS,mQ,iR,lN,jS,kE,kO,mC,jN,kZ,iB,iM,jG,kT,kK,lR,iY,lU,kJ,kR,kA,nB,jL,mH,kH,lX,jV,lT,iE,iZ,lC,mL,lE,iN,iA,jT,jQ,jU,lG,jJ,jM,iW,iI,lK,jX,mS,mG,kF,lI,jH,jA,lS,jC,iX,gA,fU,eX,fM,fF,fX,gG,eY,fE,fG,gD,fL,gF,fD,fT,fA,gB,fK,fJ,fN,gC,fH,gE,gJ,eW,gH,fB,fO,fS,fR,fW,dB,cT,aS,eE,dN,cG,dD,dZ,aT,eJ,bL,dQ,bR,bJ,aN,bO,cS,bM,eO,dS,cN,bN,eG,aX,aY,cP,aO,eB,bU,bQ,cX,bD,bW,dL,cR,cI,bF,bK,cD,eA,cJ,dR,bA,aZ,eL,eD,cU,eP,cF,bT,dM,dG,aR,dW,aU,bX,eH,cK,bV,bZ,cW,eM,aL,bP,dH,dX,dP,bC,dA,aM,eI,cH,eK,dU,bY,cY,dE,dK,bB,cA,dC,dO,bI,cM,cQ,cV,dF,dJ,cC,eZ,fZ],[]⟩ w9)
  (lQ:∀(e l:Int),o2=.bad e l→∀(tmps:Array Value) (w9:World),tmps.getD 4 undef=.pointer (some ⟨H,0,none⟩)→tmps.getD 5 undef=.pointer (some ⟨H+1,0,none⟩)→w9.heap[H]?=some (.cells #[.int .u8 3,.string ⟨#[]⟩,.slice ka ks.length kc,.slice da ds.length dc,.int .i64 eU] 26)→w9.heap[H+1]?=some (.cells #[.int .i64 e,.int .i64 l] 29)→w.grownBy w9 (some rb)→bodyPost Tryz.prog Tryz.f35 R .ret ⟨tmps,[]⟩ w9) (gP gS gK gU dB cT aS eE dN cG dD dZ aT eJ bL dQ bR bJ aN bO cS bM eO dS cN bN eG aX aY cP aO eB bU bQ cX bD bW dL cR cI bF bK cD eA cJ dR bA aZ eL eD cU eP cF bT dM dG aR dW aU bX eH cK bV bZ cW eM aL bP dH dX dP bC dA aM eI cH eK dU bY cY dE dK bB cA dC dO bI cM cQ cV dF dJ cC:Value):Code.wp Tryz.prog Y9 (Exit.then K (Exit.inBlock 3 (Exit.inBlock 0 (Exit.then K1 (bodyPost Tryz.prog Tryz.f35 R))))) ⟨#[.pointer (some ⟨rb,0,none⟩),.int .i64 lv,c2,c3,.pointer (some ⟨H,0,none⟩),.pointer (some ⟨H+1,0,none⟩),.pointer (some ⟨H+1+1,0,none⟩),c7,c8,c9,gP,gS,gK,gU,mK,mB,iU,kI,jW,kB,iT,mI,mE,mA,mF,iH,iP,kP,kY,mN,iV,jR,mO,kC,lJ,mX,lZ,kL,kS,iO,jK,kD,lY,lF,mT,kU,iS,mQ,iR,lN,jS,kE,kO,mC,jN,kZ,iB,iM,jG,kT,kK,lR,iY,lU,kJ,kR,kA,nB,jL,mH,kH,lX,jV,lT,iE,iZ,lC,mL,lE,iN,iA,jT,jQ,jU,lG,jJ,jM,iW,iI,lK,jX,mS,mG,kF,lI,jH,jA,lS,jC,iX,gA,fU,eX,fM,fF,fX,gG,eY,fE,fG,gD,fL,gF,fD,fT,fA,gB,fK,fJ,fN,gC,fH,gE,gJ,eW,gH,fB,fO,fS,fR,fW,dB,cT,aS,eE,dN,cG,dD,dZ,aT,eJ,bL,dQ,bR,bJ,aN,bO,cS,bM,eO,dS,cN,bN,eG,aX,aY,cP,aO,eB,bU,bQ,cX,bD,bW,dL,cR,cI,bF,bK,cD,eA,cJ,dR,bA,aZ,eL,eD,cU,eP,cF,bT,dM,dG,aR,dW,aU,bX,eH,cK,bV,bZ,cW,eM,aL,bP,dH,dX,dP,bC,dA,aM,eI,cH,eK,dU,bY,cY,dE,dK,bB,cA,dC,dO,bI,cM,cQ,cV,dF,dJ,cC,eZ,fZ],[]⟩ wr:=by
 have gQ:=Ab bE;have gZ:=Ab jP;have HH:=Ab bE.hh;have oS:=bE.bh;have oP:=bE.rpr.lt;have pA:=Dl;have HQ:=Ab hq;have oV:IntKind.i64.wrap ((lv:Int)+1)=(lv:Int)+1:=qG _ (by omega);have oE:=Ab lQ;have lP:=Ab hV;have jF:=Ab fI;clear bE jP hq lQ hV fI
 conv=>arg 2;whnf
 go_upto_region 27 with(go_at_call 73;refine(Vx B rb all _ 4 _ (Aa gQ).rpr rfl).mono ?_;rintro e w' ⟨rfl,q,rfl⟩)
 obtain⟨Y0,gO⟩:∃Y0,wr.drewN q=Y0:=⟨_,rfl⟩;have U:=(Aa gQ).drewN q;rw[gO]at U;rw[gO];obtain⟨b1,o1,c1,k1,p1,nS,hk2,cB,nZ,iD,jB,lM,mZ⟩:=U.rpr.cons;have y0:=Af p1;have nL:(k1:Int)<(all.length:Int):=by omega
 have gW:rb<Y0.heap.size:=(qA.1 p1).1;clear hk2 gO gQ;have aD:∀r o,r<Y0.heap.size→(Y0.alloc (.cells #[.int .u8 0,.string ⟨#[]⟩,.int .i64 0,.int .i64 0] 124)).cell? ⟨r,o,none⟩=Y0.cell? ⟨r,o,none⟩:=fun r o h=>Ag (qD _ _ _ h) o;have nO:=(aD rb 0 gW).trans y0.1.1;have nY:=(aD rb 1 gW).trans y0.2.1;have iF:=(aD _ _ cB).trans iD;have mM:=(aD _ _ cB).trans jB;have mP:=(aD _ _ cB).trans lM;have mW:=(aD _ _ cB).trans mZ;clear aD;go_region
 obtain⟨X,hX⟩:∃X,(Y0.alloc (.cells #[.int .u8 4,.string ⟨x.toArray⟩,.int .i64 n,.int .i64 c] 124)).drew=X:=⟨_,rfl⟩;have eC:=(U.below ((qV _ Y0).alloc (qJ _) (.cells #[.int .u8 4,.string ⟨x.toArray⟩,.int .i64 n,.int .i64 c] 124))).drew;have gT:X.heap[Y0.heap.size]?=some (.cells #[.int .u8 4,.string ⟨x.toArray⟩,.int .i64 n,.int .i64 c] 124):=by rw[←hX];exact qB Y0 _
 rw[hX]at eC;rw[hX];obtain⟨TB,eS⟩:∃TB,Y0.heap.size=TB:=⟨_,rfl⟩;have oM:H+1+1<TB:=by have:=U.lt;omega
 have iC:TB<X.heap.size:=by rw[←eS];exact(qA.1 gT).1
 rw[eS]at gT;try rw[eS]
 have x0:=A1 gT;clear hX eS y0 iD jB lM mZ nO nY iF mM mP mW cB nZ nS nL gW U;obtain⟨a3,c3,dI,_,_,fC,_⟩:=eC.own.str.slice;injection dI with e1 _ e2;subst e1;subst e2;have gL:=Rt ka kc ks x X fC (by omega);rw[decide_eq_false hm]at gL;have iJ:=Ab gL;have HM:=Ab hm;clear gL fC hm;have z0:=Ad eC.b2;obtain⟨a5,c5,k5,p5,oD,dY⟩:=eC.step;have y0:=Af p5;go_upto_region 33 with(go_at_call 75;refine(Aa iJ).mono ?_;rintro e w' ⟨rfl,rfl⟩)
 obtain⟨Y,hY⟩:∃Y,X.setCell ⟨rb,1,none⟩ (.int .i64 ((k5:Int)+1))=Y:=⟨_,rfl⟩;have eT:=(show Y.heap[TB]?=X.heap[TB]? by rw[←hY];exact qC _ _ _ _ (by show TB≠rb;omega)).trans gT;have kW:TB<Y.heap.size:=(qA.1 eT).1;rw[hY]at dY;rw[hY];have oO:=dY.lt;obtain⟨W3,iQ,eR,d0,d1,gV⟩:=V6 Y (.cells #[.int .u8 0,.string ⟨#[]⟩,.slice none 0 0,.slice none 0 0,.int .i64 0] 26) (.cells #[.int .i64 0,.int .i64 0] 29);have dI:=dY.below eR;have hU:=(eR.block TB kW).trans eT;clear hY y0 p5 oD z0 x0 eC gT iC iJ;go_upto_region 35 with fail
 obtain⟨D,hD⟩:∃D,Y.heap.size=D:=⟨_,rfl⟩;rw[hD]at d0 d1 gV;try rw[hD]
 try rw[iQ]
 obtain⟨kr,gM⟩:∃kr:Int,((P20.kindOf ((kt,xt,n2,ct)::r2):Nat):Int)=kr:=⟨_,rfl⟩;go_upto_region 36 with(go_at_call 73;refine(Vx B rb all ((kt,xt,n2,ct)::r2) kr _ dI.rpr gM).mono ?_;rintro e w' ⟨rfl,q2,rfl⟩)
 obtain⟨Z,hZ⟩:∃Z,W3.drewN q2=Z:=⟨_,rfl⟩;have aC:=dI.drewN q2;have m0:=(show Z.heap[D]?=W3.heap[D]? by rw[←hZ];rfl).trans d0;have m1:=(show Z.heap[D+1]?=W3.heap[D+1]? by rw[←hZ];rfl).trans d1;have mJ:=(show Z.heap[TB]?=W3.heap[TB]? by rw[←hZ];rfl).trans hU;have gN:Z.heap.size=D+1+1:=by rw[←hZ];exact gV
 have lL:Y.grownBy Z (some rb):=by rw[←hZ];exact Ah (Aj eR _) (Vw _ q2 _)
 rw[hZ]at aC;rw[hZ];have pB:TB<D:=by omega
 have oT:H+1+1<D:=by omega
 clear hZ iQ eR d0 d1 gV dI hU;have aJ:=Ab mJ;have eF:=Ab m0;have bG:=Ab m1;have bS:=Ab dY;have aG:=Ab lL;have oJ:=Ab eT;have oZ:Y.heap.size=D:=hD;clear mJ m0 m1 dY lL eT hD;have jg:(5:Int)≤kr:=by have:((kt:Nat):Int)=kr:=gM;omega
 have oX:(n2==n)=false:=by rw[beq_eq_false_iff_ne];exact lD
 clear lD;obtain⟨b6,o6,c6,k6,p6,nI,nM,nR,oC,_,_,nD,_⟩:=aC.rpr.cons;have y0:=Af p6;have x0:=A1 (Aa aJ);have nH:(k6:Int)<(all.length:Int):=by omega
 have jY:=Ab aC;clear nM aC gM;go_quiet (fail)
 clear y0 x0 nD nH nI nR oC;obtain⟨Z1,aA⟩:∃Z1,Z.drewN nq=Z1:=⟨_,rfl⟩;have eN:=(Aa jY).drewN nq;have nA:Z.grownBy Z1 (some rb):=by rw[←aA];exact Vw _ nq _
 have mU:=(show Z1.heap[TB]?=Z.heap[TB]? by rw[←aA];rfl).trans (Aa aJ);have m0:=(show Z1.heap[D]?=Z.heap[D]? by rw[←aA];rfl).trans (Aa eF);have m1:=(show Z1.heap[D+1]?=Z.heap[D+1]? by rw[←aA];rfl).trans (Aa bG);have fQ:Z1.heap.size=D+1+1:=by rw[←aA];exact gN
 have fP:=Ah (Aa aG) nA;rw[aA]at eN;rw[aA];clear aA aJ eF bG aG nA gN jY;have aC:=eN;have gN:=fQ;have aJ:=Ab mU;have eF:=Ab m0;have bG:=Ab m1;have aG:=Ab fP;clear eN fQ mU m0 m1 fP;rcases Aa jF with⟨d,r',hv,iL⟩|⟨e,l,hv,rfl⟩
 ·have lA:=(P20.less last g).2.1 _ _ _ _ _ hv;have oB:=Ab lA;have nN:=Ab iL;clear lA iL;have aB:=Aa lP (lv+1) n _ B rb all _ Z1 aC.rpr (by omega) (Aa gZ) (by omega) hv;rw[show (((lv+1:Nat)):Int)=(lv:Int)+1 from by omega]at aB;have aW:=Ab aB;clear aB hv;have x0:=A1 (Aa aJ);go_upto_region 39 with(go_at_call 74;refine(Aa aW).mono ?_;rintro e' w2 ⟨k,t,J,N,S,G,I,es,l,rfl,Q⟩;have d0:=((Aa Q).2.2.2.2.block D (by omega) (fun e=>by injection e;omega)).trans (Aa eF);have d1:=((Aa Q).2.2.2.2.block (D+1) (by omega) (fun e=>by injection e;omega)).trans (Aa bG);have p0:=Ad d0;have p5:=Af d1;have aQ:=Ab d0;have cO:=Ab d1;clear d0 d1)
  obtain⟨W6,aH⟩:∃W6,(((((((w2.setCell ⟨D,0,none⟩ (.int .u8 k)).setCell ⟨D,1,none⟩ (.string ⟨t.toArray⟩)).setCell ⟨D,2,none⟩ (.slice J S.length N)).setCell ⟨D,3,none⟩ (.slice G es.length I)).setCell ⟨D,4,none⟩ (.int .i64 l)).setCell ⟨D+1,0,none⟩ (.int .i64 0)).setCell ⟨D+1,1,none⟩ (.int .i64 0))=W6:=⟨_,rfl⟩;have hT:=(V8 (Aa aQ) (Aa cO) (.int .u8 k) (.string ⟨t.toArray⟩) (.slice J S.length N) (.slice G es.length I) (.int .i64 l) (.int .i64 0) (.int .i64 0)).undrew;rw[aH]at hT;rw[aH];clear aH aQ cO p0 p5;obtain⟨aE,gI,bH,mD,lW⟩:=Aa Q;have nU:Yh Y B rb all r' d (.mk k t J N S G I es l) W6:=Xb hT aE gI (fun g hg=>by have:=bH g hg;omega) mD (Ah (Aa aG) lW) (by omega) (by omega);obtain⟨_,kG,aI,jD,aK⟩:=nU;have eQ:=(Aa bS).old aK jD;have m6:=(aK.block TB (by omega) (fun e=>by injection e;omega)).trans (Aa oJ);have x0:=A1 m6;have z0:=Ad eQ.b2;have y0:=Af hT.h1;have oW:D+1<W6.heap.size:=(qA.1 hT.h1).1;have nX:=Ab aE;have iK:∀g,(Nd.mk k t J N S G I es l).blk g→(Value.slice ka ks.length kc).ownBlock≠some g:=fun g hg e=>by have:=aI g hg;have:=(Ao (Aa bS).own.str.own g e).2;omega
  have lO:∀g,(Nd.mk k t J N S G I es l).blk g→(Value.slice da ds.length dc).ownBlock≠some g:=fun g hg e=>by have:=aI g hg;have:=(Ao (Aa bS).own.kids.own g e).2;omega
  have nE:(Value.slice ka ks.length kc).ownBlock≠some D:=fun e=>by have:=(Ao (Aa bS).own.str.own D e).2;omega
  have oL:ks.length+1≤1000000:=by have:=nQ;omega
  have nJ:=Ab hT.h0;have lH:=Ab kG;have fY:=Ab aI;have lB:=Ab iK;have oF:=Ab lO;clear aE gI bH mD lW hT Q aK jD m6 kG aI iK lO aW aG;go_upto_region 42 with(at_builtin;refine Fz (v:=.slice ka ks.length kc) (B:=H+1+1+1) rfl _ _ rfl rfl eQ.own.str x rfl (by omega) (by omega) ?_;intro v8 w8 gR eV cZ;obtain⟨mR,jO,jI,_⟩:=gR.slice;rw[qH,qT]at jI;subst jI;obtain⟨e8,cE⟩:=eQ.key gR eV cZ;have j0:=Ad e8)
  obtain⟨W8,cL⟩:∃W8,w8.setCell ⟨H+1+1,2,none⟩ (.slice mR (ks.length+1) jO)=W8:=⟨_,rfl⟩;have oH:=(show W8.heap[D]?=w8.heap[D]? by rw[←cL];exact qC _ _ _ _ (by show D≠H+1+1;omega)).trans ((eV.block D (by omega) (fun e=>nE e.symm)).trans (Aa nJ));have kM:(Nd.mk k t J N S G I es l).In W8:=by rw[←cL];exact((Aa lH).grown eV (fun g e hb=>Aa lB g hb e)).setCell (fun hb=>by have:=Aa fY _ hb;omega)
  have kN:∀g,(Nd.mk k t J N S G I es l).blk g→(Value.slice mR (ks.length+1) jO).ownBlock≠some g:=fun g hb e=>by
   rcases cZ with h9|⟨g9,h9,oQ⟩
   ·exact Aa lB g hb (h9 ▸ e)
   ·rw[e]at h9;injection h9 with h9;have:=(Aa lH).lt hb;omega
  rw[cL]at cE;rw[cL];have gY:∀g,(Nd.mk k t J N S G I es l).blk g→H+1+1+1≤g:=fun g hb=>by have:=Aa fY g hb;omega
  have oN:=cE.lt;clear cL gR eV cZ e8 eQ x0 y0 z0 j0;have z0:=Ad cE.b2;have y0:=Ad oH;go_wp2_with (at_builtin;refine Ek (v:=.slice da ds.length dc) (B:=H+1+1+1) (nd:=.mk k t J N S G I es l) rfl _ _ rfl rfl cE.own.kids rfl kM gY (Aa oF) rfl (by omega) (by omega) ?_;intro v9 w9 iG nC kX;obtain⟨oR,oU,jZ,_⟩:=iG.slice;rw[qH,qT]at jZ;subst jZ;obtain⟨e9,nG⟩:=cE.kid iG nC kX kN;have j0:=Ad e9)
  exact Aa HQ _ _ _ _ _ _ _ _ _ _ _ _ _ _ _ _ _ _ _ _ _ _ _ _ _ _ _ _ _ _ _ _ _ _ _ _ _ _ _ _ _ _ _ _ _ _ _ _ _ _ _ _ _ _ _ _ _ _ _ _ _ _ _ _ _ _ _ _ _ _ _ _ _ _ _ _ _ _ _ _ _ _ _ _ _ _ _ _ _ _ _ _ _ _ _ _ r' _ (by rw[Cu];simp only[Am];rw[Aa nX];exact Aa nN) nG (Aa oB)
 ·have oY:(e != 0)=true:=by have:=(P20.bad_ne last _).2.1 _ _ _ _ _ hv;simpa using this
  have aB:=Aa lP (lv+1) n _ B rb all _ Z1 aC.rpr (by omega) (Aa gZ) (by omega) hv;rw[show (((lv+1:Nat)):Int)=(lv:Int)+1 from by omega]at aB;have aW:=Ab aB;clear aB hv;have x0:=A1 (Aa aJ);go_upto_region 39 with(go_at_call 74;refine(Aa aW).mono ?_;rintro e' w2 ⟨k,t,J,mY,N,G,kQ,I,l2,rfl,Q⟩;have d0:=((Aa Q).block D (by omega) (fun e=>by injection e;omega)).trans (Aa eF);have d1:=((Aa Q).block (D+1) (by omega) (fun e=>by injection e;omega)).trans (Aa bG);have p0:=Ad d0;have p5:=Af d1;have aQ:=Ab d0;have cO:=Ab d1;clear d0 d1)
  obtain⟨W6,aH⟩:∃W6,(((((((w2.setCell ⟨D,0,none⟩ (.int .u8 k)).setCell ⟨D,1,none⟩ (.string ⟨t.toArray⟩)).setCell ⟨D,2,none⟩ (.slice J mY N)).setCell ⟨D,3,none⟩ (.slice G kQ I)).setCell ⟨D,4,none⟩ (.int .i64 l2)).setCell ⟨D+1,0,none⟩ (.int .i64 e)).setCell ⟨D+1,1,none⟩ (.int .i64 l))=W6:=⟨_,rfl⟩;have hT:=(V8 (Aa aQ) (Aa cO) (.int .u8 k) (.string ⟨t.toArray⟩) (.slice J mY N) (.slice G kQ I) (.int .i64 l2) (.int .i64 e) (.int .i64 l)).undrew;rw[aH]at hT;rw[aH];clear aH aQ cO p0 p5;have aK:=Vy (w:=Y) hT (Ah (Aa aG) (Aa Q)) (by omega);obtain⟨oG,q0,q1,q2⟩:=(Aa bS).rest aK;have z0:=Ad q2;have y0:=Af hT.h1;have r0:=Ad q0;have t0:=Af q1;have oI:=Ab q0;have oK:=Ab q1;clear hT Q aK aW aG;go_wp2;go_region_with_o (fail)
  all_goals go_wp2
  all_goals
   have hT:=(V8 (Aa oI) (Aa oK) (.int .u8 3) (.string ⟨#[]⟩) (.slice ka ks.length kc) (.slice da ds.length dc) (.int .i64 eU) (.int .i64 e) (.int .i64 l));exact Aa oE _ _ rfl _ _ rfl rfl hT.h0 hT.h1 (Vy hT oG (by have:=Aa HH;omega))
end Go.Proofs.YtnjokdbblmlhhaaGreatDoor
namespace Go.Proofs.YtnjokdbblmlhhaaGreatDoor
set_option maxHeartbeats 8000000
set_option maxRecDepth 100000
open Go.RowKit
attribute [local go_sem] Jz Ka
theorem Qaw(last:Int)(lv:Nat)(w:World)(H B rb:Nat)(all:List Tk)(eU:Int)(ks:List (List UInt8))(ds:List Nd)(ka da:Option Addr)(kc dc:Nat)(x:List UInt8)(n c:Int)(r:List Tk)(wr:World){K K1:Act→World→Prop}{R:Ending→World→Prop}
  (bD:VI w H B rb all eU 3 ks ds (.slice ka ks.length kc) (.slice da ds.length dc) ((4,x,n,c)::r) wr) (jO:Fl all=last) (jl:(lv:Int)≤16) (nK:ks.length≤999999) (oU:ds.length≤999999)
  (c2 c3 c7 c8 c9 mJ mA iT kH jV kA iS mH mD lZ mE iG iO kO kY mM iU jQ mN kB lI mW lY kK kR iN jJ kC lX lE mS kT iR mP iQ lM jR kD kN mB jM kZ iA iL jF kS kJ lQ iX lT kI kQ jZ nA jK mG kG lW jU lS iD iY lC mK lD iM hU jS jP jT lF jI jL iV iH lJ jW mR mF kE lH jH iZ lR jB iW gA fU eX fM fF fX gG eY fE fG gD fL gF fD fT fA gB fK fJ fN gC fH gE gJ eW gH fB fO fS fR fW eZ fZ:Value) (jx:(x.length:Int)≤64) (hm:x∉ks) (h5:P20.kindOf r<5) (g:Nat) (hV:Yp last g) (o2:P20.Out (List (List UInt8) × List P20.T))
  (fI:(∃d r',P20.Wi last g (lv+1) n r (.ok d r')∧P20.Ky last g (lv+1) (ks++[x]) (Am ds++[d]) r' o2)∨(∃e l,P20.Wi last g (lv+1) n r (.bad e l)∧o2=.bad e l))
  (hq:∀(gO gR gK gS dB cT aR eE dN cF dD dZ aS eJ bK dQ bQ bI aM bN cS bL eO dS cM bM eG aW aX cP aN eB bT bP cX bC bV dL cR cH bE bJ cC eA cI dR aZ aY eL eD cU eP cE bS dM dG aQ dW aT bW eH cJ bU bY cW eM aK bO dH dX dP bB dA aL eI cG eK dU bX cY dE dK bA bZ dC dO bH cL cQ cV dF dJ cB:Value) (nd:Nd) (nN nG:Value) (r':List Tk) (w9:World),P20.Ky last g (lv+1) (ks++[x]) (Am (ds++[nd])) r' o2→VI w H B rb all eU 3 (ks++[x]) (ds++[nd]) nN nG r' w9→r'.length<(r).length→K ⟨#[.pointer (some ⟨rb,0,none⟩),.int .i64 lv,c2,c3,.pointer (some ⟨H,0,none⟩),.pointer (some ⟨H+1,0,none⟩),.pointer (some ⟨H+1+1,0,none⟩),c7,c8,c9,gO,gR,gK,gS,mJ,mA,iT,kH,jV,kA,iS,mH,mD,lZ,mE,iG,iO,kO,kY,mM,iU,jQ,mN,kB,lI,mW,lY,kK,kR,iN,jJ,kC,lX,lE,mS,kT,iR,mP,iQ,lM,jR,kD,kN,mB,jM,kZ,iA,iL,jF,kS,kJ,lQ,iX,lT,kI,kQ,jZ,nA,jK,mG,kG,lW,jU,lS,iD,iY,lC,mK,lD,iM,hU,jS,jP,jT,lF,jI,jL,iV,iH,lJ,jW,mR,mF,kE,lH,jH,iZ,lR,jB,iW,gA,fU,eX,fM,fF,fX,gG,eY,fE,fG,gD,fL,gF,fD,fT,fA,gB,fK,fJ,fN,gC,fH,gE,gJ,eW,gH,fB,fO,fS,fR,fW,dB,cT,aR,eE,dN,cF,dD,dZ,aS,eJ,bK,dQ,bQ,bI,aM,bN,cS,bL,eO,dS,cM,bM,eG,aW,aX,cP,aN,eB,bT,bP,cX,bC,bV,dL,cR,cH,bE,bJ,cC,eA,cI,dR,aZ,aY,eL,eD,cU,eP,cE,bS,dM,dG,aQ,dW,aT,bW,eH,cJ,bU,bY,cW,eM,aK,bO,dH,dX,dP,bB,dA,aL,eI,cG,eK,dU,bX,cY,dE,dK,bA,bZ,dC,dO,bH,cL,cQ,cV,dF,dJ,cB,eZ,fZ],[]⟩ w9)
  (lP:∀(e l:Int),o2=.bad e l→∀(tmps:Array Value) (w9:World),tmps.getD 4 undef=.pointer (some ⟨H,0,none⟩)→tmps.getD 5 undef=.pointer (some ⟨H+1,0,none⟩)→w9.heap[H]?=some (.cells #[.int .u8 3,.string ⟨#[]⟩,.slice ka ks.length kc,.slice da ds.length dc,.int .i64 eU] 26)→w9.heap[H+1]?=some (.cells #[.int .i64 e,.int .i64 l] 29)→w.grownBy w9 (some rb)→bodyPost Tryz.prog Tryz.f35 R .ret ⟨tmps,[]⟩ w9) (gO gR gK gS dB cT aR eE dN cF dD dZ aS eJ bK dQ bQ bI aM bN cS bL eO dS cM bM eG aW aX cP aN eB bT bP cX bC bV dL cR cH bE bJ cC eA cI dR aZ aY eL eD cU eP cE bS dM dG aQ dW aT bW eH cJ bU bY cW eM aK bO dH dX dP bB dA aL eI cG eK dU bX cY dE dK bA bZ dC dO bH cL cQ cV dF dJ cB:Value):Code.wp Tryz.prog Y9 (Exit.then K (Exit.inBlock 3 (Exit.inBlock 0 (Exit.then K1 (bodyPost Tryz.prog Tryz.f35 R))))) ⟨#[.pointer (some ⟨rb,0,none⟩),.int .i64 lv,c2,c3,.pointer (some ⟨H,0,none⟩),.pointer (some ⟨H+1,0,none⟩),.pointer (some ⟨H+1+1,0,none⟩),c7,c8,c9,gO,gR,gK,gS,mJ,mA,iT,kH,jV,kA,iS,mH,mD,lZ,mE,iG,iO,kO,kY,mM,iU,jQ,mN,kB,lI,mW,lY,kK,kR,iN,jJ,kC,lX,lE,mS,kT,iR,mP,iQ,lM,jR,kD,kN,mB,jM,kZ,iA,iL,jF,kS,kJ,lQ,iX,lT,kI,kQ,jZ,nA,jK,mG,kG,lW,jU,lS,iD,iY,lC,mK,lD,iM,hU,jS,jP,jT,lF,jI,jL,iV,iH,lJ,jW,mR,mF,kE,lH,jH,iZ,lR,jB,iW,gA,fU,eX,fM,fF,fX,gG,eY,fE,fG,gD,fL,gF,fD,fT,fA,gB,fK,fJ,fN,gC,fH,gE,gJ,eW,gH,fB,fO,fS,fR,fW,dB,cT,aR,eE,dN,cF,dD,dZ,aS,eJ,bK,dQ,bQ,bI,aM,bN,cS,bL,eO,dS,cM,bM,eG,aW,aX,cP,aN,eB,bT,bP,cX,bC,bV,dL,cR,cH,bE,bJ,cC,eA,cI,dR,aZ,aY,eL,eD,cU,eP,cE,bS,dM,dG,aQ,dW,aT,bW,eH,cJ,bU,bY,cW,eM,aK,bO,dH,dX,dP,bB,dA,aL,eI,cG,eK,dU,bX,cY,dE,dK,bA,bZ,dC,dO,bH,cL,cQ,cV,dF,dJ,cB,eZ,fZ],[]⟩ wr:=by
 have gP:=Ab bD;have gY:=Ab jO;have HH:=Ab bD.hh;have oL:=bD.bh;have oI:=bD.rpr.lt;have oS:=Dl;have HQ:=Ab hq;have oO:IntKind.i64.wrap ((lv:Int)+1)=(lv:Int)+1:=qG _ (by omega);have nW:=Ab lP;have lO:=Ab hV;have jD:=Ab fI;clear bD jO hq lP hV fI
 conv=>arg 2;whnf
 go_upto_region 27 with(go_at_call 73;refine(Vx B rb all _ 4 _ (Aa gP).rpr rfl).mono ?_;rintro e w' ⟨rfl,q,rfl⟩)
 obtain⟨Y0,gN⟩:∃Y0,wr.drewN q=Y0:=⟨_,rfl⟩;have U:=(Aa gP).drewN q;rw[gN]at U;rw[gN];obtain⟨b1,o1,c1,k1,p1,nL,hk2,cA,nR,iC,jA,lL,mY⟩:=U.rpr.cons;have y0:=Af p1;have nH:(k1:Int)<(all.length:Int):=by omega
 have gV:rb<Y0.heap.size:=(qA.1 p1).1;clear hk2 gN gP;have aC:∀r o,r<Y0.heap.size→(Y0.alloc (.cells #[.int .u8 0,.string ⟨#[]⟩,.int .i64 0,.int .i64 0] 124)).cell? ⟨r,o,none⟩=Y0.cell? ⟨r,o,none⟩:=fun r o h=>Ag (qD _ _ _ h) o;have nJ:=(aC rb 0 gV).trans y0.1.1;have nQ:=(aC rb 1 gV).trans y0.2.1;have iE:=(aC _ _ cA).trans iC;have mL:=(aC _ _ cA).trans jA;have mO:=(aC _ _ cA).trans lL;have mU:=(aC _ _ cA).trans mY;clear aC;go_region
 obtain⟨X,hX⟩:∃X,(Y0.alloc (.cells #[.int .u8 4,.string ⟨x.toArray⟩,.int .i64 n,.int .i64 c] 124)).drew=X:=⟨_,rfl⟩;have eC:=(U.below ((qV _ Y0).alloc (qJ _) (.cells #[.int .u8 4,.string ⟨x.toArray⟩,.int .i64 n,.int .i64 c] 124))).drew;have gT:X.heap[Y0.heap.size]?=some (.cells #[.int .u8 4,.string ⟨x.toArray⟩,.int .i64 n,.int .i64 c] 124):=by rw[←hX];exact qB Y0 _
 rw[hX]at eC;rw[hX];obtain⟨TB,eS⟩:∃TB,Y0.heap.size=TB:=⟨_,rfl⟩;have oF:H+1+1<TB:=by have:=U.lt;omega
 have iB:TB<X.heap.size:=by rw[←eS];exact(qA.1 gT).1
 rw[eS]at gT;try rw[eS]
 have x0:=A1 gT;clear hX eS y0 iC jA lL mY nJ nQ iE mL mO mU cA nR nL nH gV U;obtain⟨a3,c3,dI,_,_,fC,_⟩:=eC.own.str.slice;injection dI with e1 _ e2;subst e1;subst e2;have gL:=Rt ka kc ks x X fC (by omega);rw[decide_eq_false hm]at gL;have iI:=Ab gL;have HM:=Ab hm;clear gL fC hm;have z0:=Ad eC.b2;obtain⟨a5,c5,k5,p5,nU,dY⟩:=eC.step;have y0:=Af p5;go_upto_region 33 with(go_at_call 75;refine(Aa iI).mono ?_;rintro e w' ⟨rfl,rfl⟩)
 obtain⟨Y,hY⟩:∃Y,X.setCell ⟨rb,1,none⟩ (.int .i64 ((k5:Int)+1))=Y:=⟨_,rfl⟩;have eT:=(show Y.heap[TB]?=X.heap[TB]? by rw[←hY];exact qC _ _ _ _ (by show TB≠rb;omega)).trans gT;have kU:TB<Y.heap.size:=(qA.1 eT).1;rw[hY]at dY;rw[hY];have oH:=dY.lt;obtain⟨W3,iP,eR,d0,d1,gU⟩:=V6 Y (.cells #[.int .u8 0,.string ⟨#[]⟩,.slice none 0 0,.slice none 0 0,.int .i64 0] 26) (.cells #[.int .i64 0,.int .i64 0] 29);have dI:=dY.below eR;have gZ:=(eR.block TB kU).trans eT;clear hY y0 p5 nU z0 x0 eC gT iB iI;go_upto_region 35 with fail
 obtain⟨D,hD⟩:∃D,Y.heap.size=D:=⟨_,rfl⟩;rw[hD]at d0 d1 gU;try rw[hD]
 try rw[iP]
 obtain⟨kr,kX⟩:∃kr:Int,((P20.kindOf r:Nat):Int)=kr:=⟨_,rfl⟩;go_upto_region 36 with(go_at_call 73;refine(Vx B rb all r kr _ dI.rpr kX).mono ?_;rintro e w' ⟨rfl,q2,rfl⟩)
 obtain⟨Z,hZ⟩:∃Z,W3.drewN q2=Z:=⟨_,rfl⟩;have aI:=dI.drewN q2;have m0:=(show Z.heap[D]?=W3.heap[D]? by rw[←hZ];rfl).trans d0;have m1:=(show Z.heap[D+1]?=W3.heap[D+1]? by rw[←hZ];rfl).trans d1;have mI:=(show Z.heap[TB]?=W3.heap[TB]? by rw[←hZ];rfl).trans gZ;have gM:Z.heap.size=D+1+1:=by rw[←hZ];exact gU
 have lK:Y.grownBy Z (some rb):=by rw[←hZ];exact Ah (Aj eR _) (Vw _ q2 _)
 rw[hZ]at aI;rw[hZ];have oT:TB<D:=by omega
 have oM:H+1+1<D:=by omega
 clear hZ iP eR d0 d1 gU dI gZ;have cO:=Ab mI;have eF:=Ab m0;have bF:=Ab m1;have bR:=Ab dY;have aE:=Ab lK;have oC:=Ab eT;have oR:Y.heap.size=D:=hD;clear mI m0 m1 dY lK eT hD;have jg:kr<5:=by omega
 have jd:decide (5≤kr)=false:=by simpa using jg
 have jX:=Ab aI;clear h5 kX aI;go_quiet (fail)
 obtain⟨Z1,aA⟩:∃Z1,Z.drewN nq=Z1:=⟨_,rfl⟩;have eN:=(Aa jX).drewN nq;have mZ:Z.grownBy Z1 (some rb):=by rw[←aA];exact Vw _ nq _
 have mT:=(show Z1.heap[TB]?=Z.heap[TB]? by rw[←aA];rfl).trans (Aa cO);have m0:=(show Z1.heap[D]?=Z.heap[D]? by rw[←aA];rfl).trans (Aa eF);have m1:=(show Z1.heap[D+1]?=Z.heap[D+1]? by rw[←aA];rfl).trans (Aa bF);have fQ:Z1.heap.size=D+1+1:=by rw[←aA];exact gM
 have fP:=Ah (Aa aE) mZ;rw[aA]at eN;rw[aA];clear aA cO eF bF aE mZ gM jX;have aI:=eN;have gM:=fQ;have cO:=Ab mT;have eF:=Ab m0;have bF:=Ab m1;have aE:=Ab fP;clear eN fQ mT m0 m1 fP;rcases Aa jD with⟨d,r',hv,iK⟩|⟨e,l,hv,rfl⟩
 ·have lA:=(P20.less last g).2.1 _ _ _ _ _ hv;have nS:=Ab lA;have nI:=Ab iK;clear lA iK;have aB:=Aa lO (lv+1) n _ B rb all _ Z1 aI.rpr (by omega) (Aa gY) (by omega) hv;rw[show (((lv+1:Nat)):Int)=(lv:Int)+1 from by omega]at aB;have aU:=Ab aB;clear aB hv;have x0:=A1 (Aa cO);go_upto_region 39 with(go_at_call 74;refine(Aa aU).mono ?_;rintro e' w2 ⟨k,t,J,N,S,G,I,es,l,rfl,Q⟩;have d0:=((Aa Q).2.2.2.2.block D (by omega) (fun e=>by injection e;omega)).trans (Aa eF);have d1:=((Aa Q).2.2.2.2.block (D+1) (by omega) (fun e=>by injection e;omega)).trans (Aa bF);have p0:=Ad d0;have p5:=Af d1;have aO:=Ab d0;have cN:=Ab d1;clear d0 d1)
  obtain⟨W6,aG⟩:∃W6,(((((((w2.setCell ⟨D,0,none⟩ (.int .u8 k)).setCell ⟨D,1,none⟩ (.string ⟨t.toArray⟩)).setCell ⟨D,2,none⟩ (.slice J S.length N)).setCell ⟨D,3,none⟩ (.slice G es.length I)).setCell ⟨D,4,none⟩ (.int .i64 l)).setCell ⟨D+1,0,none⟩ (.int .i64 0)).setCell ⟨D+1,1,none⟩ (.int .i64 0))=W6:=⟨_,rfl⟩;have hT:=(V8 (Aa aO) (Aa cN) (.int .u8 k) (.string ⟨t.toArray⟩) (.slice J S.length N) (.slice G es.length I) (.int .i64 l) (.int .i64 0) (.int .i64 0)).undrew;rw[aG]at hT;rw[aG];clear aG aO cN p0 p5;obtain⟨aD,gI,bG,mC,lU⟩:=Aa Q;have nM:Yh Y B rb all r' d (.mk k t J N S G I es l) W6:=Xb hT aD gI (fun g hg=>by have:=bG g hg;omega) mC (Ah (Aa aE) lU) (by omega) (by omega);obtain⟨_,kF,aH,jC,aJ⟩:=nM;have eQ:=(Aa bR).old aJ jC;have m6:=(aJ.block TB (by omega) (fun e=>by injection e;omega)).trans (Aa oC);have x0:=A1 m6;have z0:=Ad eQ.b2;have y0:=Af hT.h1;have oP:D+1<W6.heap.size:=(qA.1 hT.h1).1;have nO:=Ab aD;have iJ:∀g,(Nd.mk k t J N S G I es l).blk g→(Value.slice ka ks.length kc).ownBlock≠some g:=fun g hg e=>by have:=aH g hg;have:=(Ao (Aa bR).own.str.own g e).2;omega
  have lN:∀g,(Nd.mk k t J N S G I es l).blk g→(Value.slice da ds.length dc).ownBlock≠some g:=fun g hg e=>by have:=aH g hg;have:=(Ao (Aa bR).own.kids.own g e).2;omega
  have nC:(Value.slice ka ks.length kc).ownBlock≠some D:=fun e=>by have:=(Ao (Aa bR).own.str.own D e).2;omega
  have oE:ks.length+1≤1000000:=by have:=nK;omega
  have nE:=Ab hT.h0;have lG:=Ab kF;have fY:=Ab aH;have lB:=Ab iJ;have nX:=Ab lN;clear aD gI bG mC lU hT Q aJ jC m6 kF aH iJ lN aU aE;go_upto_region 42 with(at_builtin;refine Fz (v:=.slice ka ks.length kc) (B:=H+1+1+1) rfl _ _ rfl rfl eQ.own.str x rfl (by omega) (by omega) ?_;intro v8 w8 gQ eV cZ;obtain⟨mQ,jN,jG,_⟩:=gQ.slice;rw[qH,qT]at jG;subst jG;obtain⟨e8,cD⟩:=eQ.key gQ eV cZ;have j0:=Ad e8)
  obtain⟨W8,cK⟩:∃W8,w8.setCell ⟨H+1+1,2,none⟩ (.slice mQ (ks.length+1) jN)=W8:=⟨_,rfl⟩;have nZ:=(show W8.heap[D]?=w8.heap[D]? by rw[←cK];exact qC _ _ _ _ (by show D≠H+1+1;omega)).trans ((eV.block D (by omega) (fun e=>nC e.symm)).trans (Aa nE));have kL:(Nd.mk k t J N S G I es l).In W8:=by rw[←cK];exact((Aa lG).grown eV (fun g e hb=>Aa lB g hb e)).setCell (fun hb=>by have:=Aa fY _ hb;omega)
  have kM:∀g,(Nd.mk k t J N S G I es l).blk g→(Value.slice mQ (ks.length+1) jN).ownBlock≠some g:=fun g hb e=>by
   rcases cZ with h9|⟨g9,h9,oJ⟩
   ·exact Aa lB g hb (h9 ▸ e)
   ·rw[e]at h9;injection h9 with h9;have:=(Aa lG).lt hb;omega
  rw[cK]at cD;rw[cK];have gW:∀g,(Nd.mk k t J N S G I es l).blk g→H+1+1+1≤g:=fun g hb=>by have:=Aa fY g hb;omega
  have oG:=cD.lt;clear cK gQ eV cZ e8 eQ x0 y0 z0 j0;have z0:=Ad cD.b2;have y0:=Ad nZ;go_wp2_with (at_builtin;refine Ek (v:=.slice da ds.length dc) (B:=H+1+1+1) (nd:=.mk k t J N S G I es l) rfl _ _ rfl rfl cD.own.kids rfl kL gW (Aa nX) rfl (by omega) (by omega) ?_;intro v9 w9 iF nB kW;obtain⟨oK,oN,jY,_⟩:=iF.slice;rw[qH,qT]at jY;subst jY;obtain⟨e9,nD⟩:=cD.kid iF nB kW kM;have j0:=Ad e9)
  exact Aa HQ _ _ _ _ _ _ _ _ _ _ _ _ _ _ _ _ _ _ _ _ _ _ _ _ _ _ _ _ _ _ _ _ _ _ _ _ _ _ _ _ _ _ _ _ _ _ _ _ _ _ _ _ _ _ _ _ _ _ _ _ _ _ _ _ _ _ _ _ _ _ _ _ _ _ _ _ _ _ _ _ _ _ _ _ _ _ _ _ _ _ _ _ _ _ _ _ r' _ (by rw[Cu];simp only[Am];rw[Aa nO];exact Aa nI) nD (Aa nS)
 ·have oQ:(e != 0)=true:=by have:=(P20.bad_ne last _).2.1 _ _ _ _ _ hv;simpa using this
  have aB:=Aa lO (lv+1) n _ B rb all _ Z1 aI.rpr (by omega) (Aa gY) (by omega) hv;rw[show (((lv+1:Nat)):Int)=(lv:Int)+1 from by omega]at aB;have aU:=Ab aB;clear aB hv;have x0:=A1 (Aa cO);go_upto_region 39 with(go_at_call 74;refine(Aa aU).mono ?_;rintro e' w2 ⟨k,t,J,mX,N,G,kP,I,l2,rfl,Q⟩;have d0:=((Aa Q).block D (by omega) (fun e=>by injection e;omega)).trans (Aa eF);have d1:=((Aa Q).block (D+1) (by omega) (fun e=>by injection e;omega)).trans (Aa bF);have p0:=Ad d0;have p5:=Af d1;have aO:=Ab d0;have cN:=Ab d1;clear d0 d1)
  obtain⟨W6,aG⟩:∃W6,(((((((w2.setCell ⟨D,0,none⟩ (.int .u8 k)).setCell ⟨D,1,none⟩ (.string ⟨t.toArray⟩)).setCell ⟨D,2,none⟩ (.slice J mX N)).setCell ⟨D,3,none⟩ (.slice G kP I)).setCell ⟨D,4,none⟩ (.int .i64 l2)).setCell ⟨D+1,0,none⟩ (.int .i64 e)).setCell ⟨D+1,1,none⟩ (.int .i64 l))=W6:=⟨_,rfl⟩;have hT:=(V8 (Aa aO) (Aa cN) (.int .u8 k) (.string ⟨t.toArray⟩) (.slice J mX N) (.slice G kP I) (.int .i64 l2) (.int .i64 e) (.int .i64 l)).undrew;rw[aG]at hT;rw[aG];clear aG aO cN p0 p5;have aJ:=Vy (w:=Y) hT (Ah (Aa aE) (Aa Q)) (by omega);obtain⟨nY,q0,q1,q2⟩:=(Aa bR).rest aJ;have z0:=Ad q2;have y0:=Af hT.h1;have r0:=Ad q0;have t0:=Af q1;have oB:=Ab q0;have oD:=Ab q1;clear hT Q aJ aU aE;go_wp2;go_region_with_o (fail)
  all_goals go_wp2
  all_goals
   have hT:=(V8 (Aa oB) (Aa oD) (.int .u8 3) (.string ⟨#[]⟩) (.slice ka ks.length kc) (.slice da ds.length dc) (.int .i64 eU) (.int .i64 e) (.int .i64 l));exact Aa nW _ _ rfl _ _ rfl rfl hT.h0 hT.h1 (Vy hT nY (by have:=Aa HH;omega))
end Go.Proofs.YtnjokdbblmlhhaaGreatDoor
namespace Go.Proofs.YtnjokdbblmlhhaaGreatDoor
set_option maxHeartbeats 8000000
set_option maxRecDepth 100000
open Go.RowKit
attribute [local go_sem] Jz Ka
theorem V9.k8'{W:World}{B rb:Nat}{all ts:List Tk}(h:V9 W B rb all ts):∀t∈ts,t.1<8∧t.2.1.length≤maxLen:=by
 obtain⟨⟨a,c,k,g,hi,h1,h2,h3,h4,h5,h6⟩,D,hne,k8,hl⟩:=h;intro t ht;exact k8 t (List.mem_of_mem_drop (i:=k) (by rw[h3];exact ht))
theorem Zn(last:Int)(f:Nat)(hV:∀g,g≤f→Xe last g)(eX:∀g,g≤f→Yp last g)(lv:Nat)(ts:List Tk)(B rb:Nat)(all:List Tk)(o:P20.Out P20.T)(w:World)(h:V9 w B rb all ts)(hB:B≤w.heap.size)(eY:Fl all=last)(eJ:lv≤17)(hd:P20.Val last (f+1) lv ts o)(fF:P20.kindOf ts=4)(eW:¬16<lv) :
  Calls Tryz.prog 35 #[.pointer (some ⟨rb,0,none⟩),.int .i64 lv] w (Wl w B rb all o):=by
 obtain⟨W0,eM,aM,g0,g1,eH⟩:=V6 w (.cells #[.int .u8 0,.string ⟨#[]⟩,.slice none 0 0,.slice none 0 0,.int .i64 0] 26) (.cells #[.int .i64 0,.int .i64 0] 29);obtain⟨H,hH⟩:∃H,w.heap.size=H:=⟨_,rfl⟩;have aD:V9 W0 B rb all ts:=h.keep hB aM;have eV:=Aj aM (some rb);have fX:=aD.lt;rw[hH]at g0 g1 eH aM;obtain⟨⟨r0,s0⟩,⟨r1,s1⟩,⟨r2,s2⟩,⟨r3,s3⟩,⟨r4,s4⟩⟩:=Ad g0;obtain⟨⟨t0,u0⟩,⟨t1,u1⟩⟩:=Af g1;have eZ:=Ab eM;have fD:=Ab g0;have eN:=Ab g1;have aA:=Ab eY;have HH:=Ab hH;have HD:=Ab hd;have HV:=Ab hV;have eS:=Ab eX;have gA:=Dl;have Z:=Ab fF;clear fF eM g0 g1 h eY aM hd hV eX;have eJ:=eW;clear eW;have jl:(lv:Int)≤16:=by omega
 have fT:IntKind.i64.wrap ((lv:Int)+1)=(lv:Int)+1:=qG _ (by omega);have fJ:=Ab eJ;clear eJ;obtain⟨b,ot,c,k0,m0,p0,hm,fN,fL,q2⟩:=aD.here;obtain⟨D,eE⟩:∃z,P20.hereL (Fl all) ts=z:=⟨_,rfl⟩;rw[eE]at q2;have eK:=aD.len;have hz:IntKind.i64.wrap ((all.length:Int)-1)=(all.length:Int)-1:=qG _ (by omega);obtain⟨⟨x0,_⟩,⟨x1,_⟩⟩:=Af p0;have eL:=B3 q2;have eI:rb<W0.heap.size:=by omega
 have aN:∀r o,r<W0.heap.size→(W0.alloc (.cells #[.int .u8 0,.string ⟨#[]⟩,.slice none 0 0,.slice none 0 0,.int .i64 0] 26)).cell? ⟨r,o,none⟩=W0.cell? ⟨r,o,none⟩:=fun r o h=>Ag (qD _ _ _ h) o;have fR:=(aN rb 0 eI).trans x0;have fQ:=(aN rb 1 eI).trans x1;have fH:=(aN b (ot+m0*4+2) eL).trans q2;clear aN;have fO:=Ab eE;have eQ:=Ab aD;clear p0 eE aD;go_enter Tryz.func35,Tryz.ntmps35
 go_upto_region 1 with fail
 try rw[Aa HH]
 rw[Aa eZ];go_wp2;go_region
 obtain⟨W1,N⟩:∃W1,(W0.alloc (.cells #[.int .u8 0,.string ⟨#[]⟩,.slice none 0 0,.slice none 0 0,.int .i64 D] 26)).drew=W1:=⟨_,rfl⟩;have eF:V9 W1 B rb all ts:=by rw[←N];exact((Aa eQ).alloc (by have:=Aa HH;omega) _).drew
 have eT:w.grownBy W1 (some rb):=by rw[←N];exact Nw (Ah eV (qR W0 _ _))
 have fA:W1.heap.size=H+1+1+1:=by rw[←N];simp[World.drew];omega
 have a0:=(show W1.heap[H]?=W0.heap[H]? by rw[←N];exact qD _ _ _ (by omega)).trans (Aa fD);have a1:=(show W1.heap[H+1]?=W0.heap[H+1]? by rw[←N];exact qD _ _ _ (by omega)).trans (Aa eN);have a2:W1.heap[H+1+1]?=some (.cells #[.int .u8 0,.string ⟨#[]⟩,.slice none 0 0,.slice none 0 0,.int .i64 D] 26):=by rw[←N,←eH];exact qB W0 _
 rw[N];obtain⟨kq,eG⟩:∃kq:Int,((P20.kindOf ts:Nat):Int)=kq:=⟨_,rfl⟩;clear N x0 x1 fR fQ q2 fH hm fN fL hz eK eL eI r0 s0 r1 s1 r2 s2 r3 s3 r4 s4 t0 u0 t1 u1 fD eN eQ eV eH eZ;have aO:=Ab a0;have aQ:=Ab a1;have eU:=Ab a2;clear a0 a1 a2;go_upto_region 6 with(go_at_call 73;refine(Vx B rb all ts kq _ eF eG).mono ?_;rintro e w' ⟨rfl,q,rfl⟩)
 obtain⟨W2,R⟩:∃W2,W1.drewN q=W2:=⟨_,rfl⟩;have eC:V9 W2 B rb all ts:=by rw[←R];exact eF.drewN q
 have eR:w.grownBy W2 (some rb):=by rw[←R];exact Ah eT (Vw _ q _)
 have a0:=(show W2.heap[H]?=W1.heap[H]? by rw[←R];rfl).trans (Aa aO);have a1:=(show W2.heap[H+1]?=W1.heap[H+1]? by rw[←R];rfl).trans (Aa aQ);have a2:=(show W2.heap[H+1+1]?=W1.heap[H+1+1]? by rw[←R];rfl).trans (Aa eU);have fU:W2.heap.size=H+1+1+1:=by rw[←R];exact fA
 have fM:B≤H:=by have:=Aa HH;omega
 rw[R];have aO:=Ab a0;have aQ:=Ab a1;have fS:=Ab eG;have HN:=Ab a2;clear a0 a1 a2 R eF eT fA eU eG;have hd:=(Aa HD).w;clear HD;cases hd with
 |deep h=>exact absurd h (Aa fJ)
 |none_ h=>exact absurd (Aa Z) (by simp[P20.kindOf])
 |word h=>exact absurd (Aa Z) (by simp[P20.kindOf])
 |noseq h=>exact absurd (Aa Z) (by simp[P20.kindOf])
 |nomap h=>exact absurd (Aa Z) (by simp[P20.kindOf])
 |form h hk=>exact absurd (Aa Z) (by simp[P20.kindOf];omega)
 |seq h hs=>exact absurd (Aa Z) (by simp[P20.kindOf])
 | @keys x n c r o2 h hs=>
  obtain rfl:kq=4:=by have:=Aa fS;rw[←this];rfl
  obtain rfl:D=n:=(Aa fO).symm;have eP:VI w H B rb all D 0 [] [] (.slice none 0 0) (.slice none 0 0) ((4,x,D,c)::r) W2:=⟨Aa HH,fM,KS.nil _ _,eC,eR,Aa aO,Aa aQ,Aa HN⟩;obtain⟨⟨x0,f0⟩,⟨x1,f1⟩,⟨x2,f2⟩,⟨x3,f3⟩,⟨x4,f4⟩⟩:=Ad (Aa HN);have aE:=eC.lenH;have fE:=Ab hs;have aI:=Ab (eP.kind 3);clear h hs eP aO aQ HN eC eR;go_wp2;obtain⟨V0,eD⟩:∃V0,W2.setCell ⟨H+1+1,0,none⟩ (.int .u8 3)=V0:=⟨_,rfl⟩;rw[show ((3:Nat):Int)=3 from rfl,eD]at aI;rw[eD];clear eD x0 f0 x1 f1 x2 f2 x3 f3 x4 f4
  go_loopg [] f (fun g wx=>∃(ks:List (List UInt8)) (ds:List Nd) (us:List Tk) (kv dv:Value),g≤f∧Hid (P20.Ky last g (lv+1) ks (Am ds) us o2)∧Hid (VI w H B rb all D 3 ks ds kv dv us wx)∧us.length+ds.length≤1000000∧Hid (ks.length=ds.length)∧Hid (∀x∈ks,x.length≤64))
  case atStart=>exact⟨[],[],_,_,_,qJ _,fE,aI,by simpa using aE,Ab rfl,Ab (by simp)⟩
  case round=>
   obtain⟨ks,ds,us,kv,dv,fW,HS,G,Y,HL,aL⟩:=hrel;obtain⟨ka,kc,rfl,_⟩:=(Aa G).own.str.slice;obtain⟨da,dc,rfl,_⟩:=(Aa G).own.kids.slice;have hs:=Aa HS;clear HS fE aI aE;have fZ:ks.length≤1000000:=by have:=Aa HL;omega
   rcases hs.way with⟨hk,rfl⟩|⟨x,n,c,r,rfl,fI⟩
   ·clear hs
    have fY:(((P20.kindOf us:Nat):Int)==4)=false:=by
     have:((P20.kindOf us:Nat):Int)≠4:=by omega
     simpa using this
    obtain⟨⟨x0,f0⟩,⟨x1,f1⟩,⟨x2,f2⟩,⟨x3,f3⟩,⟨x4,f4⟩⟩:=Ad (Aa G).b2;obtain⟨⟨r0,s0⟩,⟨r1,s1⟩,⟨r2,s2⟩,⟨r3,s3⟩,⟨r4,s4⟩⟩:=Ad (Aa G).b0;obtain⟨⟨t0,u0⟩,⟨t1,u1⟩⟩:=Af (Aa G).b1;clear hk;go_wp2_with (go_at_call 73;refine(Wt B rb all us _ (Aa G).rpr).mono ?_;rintro e w' ⟨rfl,q,rfl⟩)
    have hT:=(V8 (W1:=wr.drewN q) (Aa G).b0 (Aa G).b1 (.int .u8 3) (.string ⟨#[]⟩) (.slice ka ks.length kc) (.slice da ds.length dc) (.int .i64 D) (.int .i64 0) (.int .i64 0)).undrew;exact qW (Vz rfl _ rfl rfl hT.h0 hT.h1) rfl ⟨3,[],ka,kc,ks,da,dc,ds,D,rfl,Ab (((Aa G).drewN q).done hT (by omega) (Aa aL))⟩
   ·simp only[qE]at Y;have U:ks.length≤999999:=by have:=Aa HL;omega
    have S:ds.length≤999999:=by omega
    rcases fI with(⟨hx,rfl⟩|⟨hx,hm,rfl⟩|⟨hx,hm⟩)
    ·exact Qav last lv w H B rb all D ks ds ka da kc dc x n c r wr (Aa G) (Aa aA) jl U S _ _ _ _ _ _ _ _ _ _ _ _ _ _ _ _ _ _ _ _ _ _ _ _ _ _ _ _ _ _ _ _ _ _ _ _ _ _ _ _ _ _ _ _ _ _ _ _ _ _ _ _ _ _ _ _ _ _ _ _ _ _ _ _ _ _ _ _ _ _ _ _ _ _ _ _ _ _ _ _ _ _ _ _ _ _ _ _ _ _ _ _ _ _ _ _ _ _ _ _ _ _ _ _ _ _ _ _ _ _ _ _ _ _ _ _ _ _ _ _ _ _ _ _ (by omega) (fun tmps w9 h4 h5 e0 e1 hg=>qW (Vz rfl tmps h4 h5 e0 e1) rfl ⟨3,[],ka,ks.length,kc,da,ds.length,dc,D,rfl,Ab hg⟩) _ _ _ _ _ _ _ _ _ _ _ _ _ _ _ _ _ _ _ _ _ _ _ _ _ _ _ _ _ _ _ _ _ _ _ _ _ _ _ _ _ _ _ _ _ _ _ _ _ _ _ _ _ _ _ _ _ _ _ _ _ _ _ _ _ _ _ _ _ _ _ _ _ _ _ _ _ _ _ _ _ _ _ _ _ _ _ _ _ _ _ _ _
    ·exact Qan last lv w H B rb all D ks ds ka da kc dc x n c r wr (Aa G) (Aa aA) jl U S _ _ _ _ _ _ _ _ _ _ _ _ _ _ _ _ _ _ _ _ _ _ _ _ _ _ _ _ _ _ _ _ _ _ _ _ _ _ _ _ _ _ _ _ _ _ _ _ _ _ _ _ _ _ _ _ _ _ _ _ _ _ _ _ _ _ _ _ _ _ _ _ _ _ _ _ _ _ _ _ _ _ _ _ _ _ _ _ _ _ _ _ _ _ _ _ _ _ _ _ _ _ _ _ _ _ _ _ _ _ _ _ _ _ _ _ _ _ _ _ _ _ _ _ (by omega) hm (fun tmps w9 h4 h5 e0 e1 hg=>qW (Vz rfl tmps h4 h5 e0 e1) rfl ⟨3,[],ka,ks.length,kc,da,ds.length,dc,D,rfl,Ab hg⟩) _ _ _ _ _ _ _ _ _ _ _ _ _ _ _ _ _ _ _ _ _ _ _ _ _ _ _ _ _ _ _ _ _ _ _ _ _ _ _ _ _ _ _ _ _ _ _ _ _ _ _ _ _ _ _ _ _ _ _ _ _ _ _ _ _ _ _ _ _ _ _ _ _ _ _ _ _ _ _ _ _ _ _ _ _ _ _ _ _ _ _ _ _
    obtain⟨g,rfl,aK⟩:=hs.rest hx hm;by_cases I:5≤P20.kindOf r∧P20.kindOf r≤7∧P20.hereL last r=n
    ·have X:=aK.resolve_right (fun h=>h.1 I)
     obtain⟨⟨kt,xt,n2,ct⟩,r2,rfl⟩:∃t r2,r=t::r2:=by
      cases r with
      |nil=>simp[P20.kindOf]at I
      |cons t r2=>exact⟨t,r2,rfl⟩
     obtain rfl:n2=n:=I.2.2;refine Qa5 last lv w H B rb all D ks ds ka da kc dc x n2 c kt xt ct r2 wr (Aa G) (Aa aA) jl U S _ _ _ _ _ _ _ _ _ _ _ _ _ _ _ _ _ _ _ _ _ _ _ _ _ _ _ _ _ _ _ _ _ _ _ _ _ _ _ _ _ _ _ _ _ _ _ _ _ _ _ _ _ _ _ _ _ _ _ _ _ _ _ _ _ _ _ _ _ _ _ _ _ _ _ _ _ _ _ _ _ _ _ _ _ _ _ _ _ _ _ _ _ _ _ _ _ _ _ _ _ _ _ _ _ _ _ _ _ _ _ _ _ _ _ _ _ _ _ _ _ _ _ _ (by omega) hm I.1 g (Aa HV g (by omega)) o2 X.2 (fun fB fC fG eO cP dS aY bY cW bQ cX v138 v139 dA dX cO cM dP cH v146 dQ cL cB cS cF cA eB aZ cE bA dD cC bR bI cY dR dG cK cZ bG bM dY dK aT bL dW aX bS dB bJ bT dC eA dN dU aS dF cD bX bC aR bN cG cR bH bP cN bO cU aW dI bU bW bE cI bB cV dJ cT bF dM dH bD cQ dL cJ dO bV dZ aU dE bZ bK nd aB aG r' w9 aC Q aJ=>?_) (fun e l he tmps w9 h4 h5 e0 e1 hg=>by subst he;exact qW (Vz rfl tmps h4 h5 e0 e1) rfl ⟨3,[],ka,ks.length,kc,da,ds.length,dc,D,rfl,Ab hg⟩) _ _ _ _ _ _ _ _ _ _ _ _ _ _ _ _ _ _ _ _ _ _ _ _ _ _ _ _ _ _ _ _ _ _ _ _ _ _ _ _ _ _ _ _ _ _ _ _ _ _ _ _ _ _ _ _ _ _ _ _ _ _ _ _ _ _ _ _ _ _ _ _ _ _ _ _ _ _ _ _ _ _ _ _ _ _ _ _ _ _ _ _ _;dsimp only;go_step;go_roundg g
     case measure=>omega
     case rel=>exact⟨ks++[x],ds++[nd],r',aB,aG,by omega,Ab aC,Ab Q,by have aH:=Y;simp only[qH,qE,qP]at aJ aH ⊢;omega,Ab (by simp;exact Aa HL),Ab (fun y J=>by
      rcases zE.1 J with J|J
      ·exact Aa aL y J
      ·rw[zO.1 J];omega)⟩
    have X:=aK.resolve_left (fun h=>I h.1);by_cases h5:5≤P20.kindOf r
    ·obtain⟨⟨kt,xt,n2,ct⟩,r2,rfl⟩:∃t r2,r=t::r2:=by
      cases r with
      |nil=>simp[P20.kindOf]at h5
      |cons t r2=>exact⟨t,r2,rfl⟩
     have fK:n2≠n:=by
      obtain⟨_,_,_,fP⟩:=(⟨trivial,trivial,trivial,(Aa G).rpr⟩:True∧True∧True∧_);have h8:=(fP.k8' (kt,xt,n2,ct) (by simp)).1;exact fun e=>I ⟨h5,by show kt≤7;simp only at h8;omega,e⟩
     refine Qa4 last lv w H B rb all D ks ds ka da kc dc x n c kt xt n2 ct r2 wr (Aa G) (Aa aA) jl U S _ _ _ _ _ _ _ _ _ _ _ _ _ _ _ _ _ _ _ _ _ _ _ _ _ _ _ _ _ _ _ _ _ _ _ _ _ _ _ _ _ _ _ _ _ _ _ _ _ _ _ _ _ _ _ _ _ _ _ _ _ _ _ _ _ _ _ _ _ _ _ _ _ _ _ _ _ _ _ _ _ _ _ _ _ _ _ _ _ _ _ _ _ _ _ _ _ _ _ _ _ _ _ _ _ _ _ _ _ _ _ _ _ _ _ _ _ _ _ _ _ _ _ _ (by omega) hm h5 fK g (Aa eS g (by omega)) o2 X.2 (fun fB fC fG eO cP dS aY bY cW bQ cX v138 v139 dA dX cO cM dP cH v146 dQ cL cB cS cF cA eB aZ cE bA dD cC bR bI cY dR dG cK cZ bG bM dY dK aT bL dW aX bS dB bJ bT dC eA dN dU aS dF cD bX bC aR bN cG cR bH bP cN bO cU aW dI bU bW bE cI bB cV dJ cT bF dM dH bD cQ dL cJ dO bV dZ aU dE bZ bK nd aB aG r' w9 aC Q aJ=>?_) (fun e l he tmps w9 h4 h5 e0 e1 hg=>by subst he;exact qW (Vz rfl tmps h4 h5 e0 e1) rfl ⟨3,[],ka,ks.length,kc,da,ds.length,dc,D,rfl,Ab hg⟩) _ _ _ _ _ _ _ _ _ _ _ _ _ _ _ _ _ _ _ _ _ _ _ _ _ _ _ _ _ _ _ _ _ _ _ _ _ _ _ _ _ _ _ _ _ _ _ _ _ _ _ _ _ _ _ _ _ _ _ _ _ _ _ _ _ _ _ _ _ _ _ _ _ _ _ _ _ _ _ _ _ _ _ _ _ _ _ _ _ _ _ _ _;dsimp only;go_step;go_roundg g
     case measure=>omega
     case rel=>exact⟨ks++[x],ds++[nd],r',aB,aG,by omega,Ab aC,Ab Q,by have aH:=Y;simp only[qH,qE,qP]at aJ aH ⊢;omega,Ab (by simp;exact Aa HL),Ab (fun y J=>by
      rcases zE.1 J with J|J
      ·exact Aa aL y J
      ·rw[zO.1 J];omega)⟩
    ·refine Qaw last lv w H B rb all D ks ds ka da kc dc x n c r wr (Aa G) (Aa aA) jl U S _ _ _ _ _ _ _ _ _ _ _ _ _ _ _ _ _ _ _ _ _ _ _ _ _ _ _ _ _ _ _ _ _ _ _ _ _ _ _ _ _ _ _ _ _ _ _ _ _ _ _ _ _ _ _ _ _ _ _ _ _ _ _ _ _ _ _ _ _ _ _ _ _ _ _ _ _ _ _ _ _ _ _ _ _ _ _ _ _ _ _ _ _ _ _ _ _ _ _ _ _ _ _ _ _ _ _ _ _ _ _ _ _ _ _ _ _ _ _ _ _ _ _ _ (by omega) hm (by omega) g (Aa eS g (by omega)) o2 X.2 (fun fB fC fG eO cP dS aY bY cW bQ cX v138 v139 dA dX cO cM dP cH v146 dQ cL cB cS cF cA eB aZ cE bA dD cC bR bI cY dR dG cK cZ bG bM dY dK aT bL dW aX bS dB bJ bT dC eA dN dU aS dF cD bX bC aR bN cG cR bH bP cN bO cU aW dI bU bW bE cI bB cV dJ cT bF dM dH bD cQ dL cJ dO bV dZ aU dE bZ bK nd aB aG r' w9 aC Q aJ=>?_) (fun e l he tmps w9 h4 h5 e0 e1 hg=>by subst he;exact qW (Vz rfl tmps h4 h5 e0 e1) rfl ⟨3,[],ka,ks.length,kc,da,ds.length,dc,D,rfl,Ab hg⟩) _ _ _ _ _ _ _ _ _ _ _ _ _ _ _ _ _ _ _ _ _ _ _ _ _ _ _ _ _ _ _ _ _ _ _ _ _ _ _ _ _ _ _ _ _ _ _ _ _ _ _ _ _ _ _ _ _ _ _ _ _ _ _ _ _ _ _ _ _ _ _ _ _ _ _ _ _ _ _ _ _ _ _ _ _ _ _ _ _ _ _ _ _;dsimp only;go_step;go_roundg g
     case measure=>omega
     case rel=>exact⟨ks++[x],ds++[nd],r',aB,aG,by omega,Ab aC,Ab Q,by have aH:=Y;simp only[qH,qE,qP]at aJ aH ⊢;omega,Ab (by simp;exact Aa HL),Ab (fun y J=>by
      rcases zE.1 J with J|J
      ·exact Aa aL y J
      ·rw[zO.1 J];omega)⟩
end Go.Proofs.YtnjokdbblmlhhaaGreatDoor
