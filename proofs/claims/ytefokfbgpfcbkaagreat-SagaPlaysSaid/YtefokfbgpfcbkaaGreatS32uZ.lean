import Derived.Test.YtefokfbgpfcbkaaGreatS32qZ
import Derived.Test.YtefokfbgpfcbkaaGreatM33sZ
set_option maxRecDepth 100000
set_option maxHeartbeats 8000000
set_option linter.unusedVariables false
set_option linter.unusedSimpArgs false
namespace Go.Proofs.YtefokfbgpfcbkaaGreat
open Go.RowKit
structure Hc (b:Nat) (D:P22.Def) (s:P32.S) (M R:Nat→Prop) (V:World):Prop where
 ex:∃(bm rb C:Nat) (vs:Nat→Value) (d:Af) (dn un:Value),Sg V b bm rb C vs d dn un s∧d.bare=D∧M=Mb b bm dn un∧R=fun g=>Ce rb vs d.steps.length g∨d.blk g
 inv:P32.Inv D s
def Cj(V:World)(v:Value)(os:List P32.Order):Prop:=∃a c,v=.slice a os.length c∧os.length≤c∧Cs V a os
def SgE(b:Nat)(D:P22.Def)(x:P32.S × List P32.Order)(M R:Nat→Prop)(V:World)(v:Value)(V':World):Prop:=Cj V' v x.2∧∃M',Hc b D x.1 M' R V'∧KW M V V'∧(∀g,M' g→M g∨V.heap.size≤g)∧∀g,v.ownBlock=some g→¬M' g∧g<V'.heap.size
theorem SE.ev{V W:World}{b bm rb C:Nat}{vs:Nat→Value}{d:Af}{dn un v:Value}{D:P22.Def}{x:P32.S × List P32.Order}(h:SE V (Mb b bm dn un) b bm rb C vs d x v W)(hd:d.bare=D)(hi:P32.Inv D x.1):SgE b D x (Mb b bm dn un) (fun g=>Ce rb vs d.steps.length g∨d.blk g) V v W:=by
 obtain⟨I,J,k1,Z,k3,k4,k5⟩:=h;obtain⟨a,c,e,h1,h2⟩:=Z.slice;exact⟨⟨a,c,e,h1,h2⟩,_,⟨⟨bm,rb,C,vs,d,I,J,k1,hd,rfl,rfl⟩,hi⟩,k5,k4,fun g hg=>⟨(k3 g hg).1,(Z.lt hg).2⟩⟩
namespace Hc
variable {V V':World} {b:Nat} {D:P22.Def} {s:P32.S} {M R:Nat→Prop}
theorem lt(h:Hc b D s M R V){g:Nat}(hg:M g∨R g):g<V.heap.size:=by
 obtain⟨⟨bm,rb,C,vs,d,dn,un,h1,h2,rfl,rfl⟩,h3⟩:=h;exact h1.lt hg
theorem keep(h:Hc b D s M R V)(hs:V.heap.size≤V'.heap.size)(hk:∀g,M g∨R g→V'.heap[g]?=V.heap[g]?):Hc b D s M R V':=by
 obtain⟨⟨bm,rb,C,vs,d,dn,un,h1,h2,rfl,rfl⟩,h3⟩:=h;exact⟨⟨bm,rb,C,vs,d,dn,un,h1.keep hs hk,h2,rfl,rfl⟩,h3⟩
theorem below(h:Hc b D s M R V)(hb:Below V.heap.size V V'):Hc b D s M R V':=h.keep hb.size (fun g hg=>hb.block g (h.lt hg))
theorem start(h:Hc b D s M R V)(n:Int):Calls Tryz.prog 64 #[qP0 b,.int .i64 n] V fun e V'=>∃v,e=.returned v∧SgE b D (P32.start D n s) M R V v V':=by
 obtain⟨⟨bm,rb,C,vs,d,dn,un,h1,h2,rfl,rfl⟩,h3⟩:=h;subst h2;refine(Mn n V h1 h3 (fun hs=>P32.inv_start h3 hs)).mono ?_;rintro e W ⟨v,rfl,I⟩;exact⟨v,rfl,I.ev rfl (P32.good_start h3).1.inv⟩
theorem answer(h:Hc b D s M R V)(n:Int)(a:P33.Ans):Calls Tryz.prog 61 #[qP0 b,.agg #[.int .i64 a.step,.int .i64 a.attempt,.bool a.undo,.int .u8 (a.outcome:Int)],.int .i64 n] V fun e V'=>∃v,e=.returned (.tuple #[v,.bool (P32.answer D n a s).2])∧SgE b D (P32.answer D n a s).1 M R V v V':=by
 obtain⟨⟨bm,rb,C,vs,d,dn,un,h1,h2,rfl,rfl⟩,h3⟩:=h;subst h2;refine(Kg n a V h1 h3).mono ?_;rintro e W ⟨v,rfl,I⟩;exact⟨v,rfl,I.ev rfl (P32.good_answer h3).1.inv⟩
theorem opens(h:Hc b D s M R V):Calls Tryz.prog 56 #[qP0 b] V fun e V'=>∃v,e=.returned v∧Cj V' v (P32.open_ D s)∧Below V.heap.size V V':=by
 obtain⟨⟨bm,rb,C,vs,d,dn,un,h1,h2,rfl,rfl⟩,h3⟩:=h;subst h2;refine(Xd V h1 h3).mono ?_;rintro e W ⟨a,c,rfl,I,Z,J⟩;exact⟨_,rfl,⟨a,c,rfl,I,Z⟩,J⟩
theorem status(h:Hc b D s M R V):Calls Tryz.prog 52 #[qP0 b] V fun e V'=>e=.returned (.int .u8 (s.status:Int))∧V'=V:=by
 obtain⟨⟨bm,rb,C,vs,d,dn,un,h1,h2,rfl,rfl⟩,h3⟩:=h;exact Dz b bm s.status V h1.cells.2.2.1.1 h1.cells.2.2.2.2.2.1
theorem over(h:Hc b D s M R V):Calls Tryz.prog 58 #[qP0 b] V fun e V'=>e=.returned (.bool (decide (2<s.status)))∧V'=V:=by
 obtain⟨⟨bm,rb,C,vs,d,dn,un,h1,h2,rfl,rfl⟩,h3⟩:=h;exact Xf b bm s.status V h1.cells.2.2.1.1 h1.cells.2.2.2.2.2.1
theorem len(h:Hc b D s M R V):D.steps.length≤100000∧s.done.length≤D.steps.length∧s.undone.length≤s.done.length:=by
 obtain⟨⟨bm,rb,C,vs,d,dn,un,h1,h2,rfl,rfl⟩,h3⟩:=h;have h4:=h1.dlen;have J:=h1.nle;have Z:=h1.ul;have I:D.steps.length=d.steps.length:=by rw[←h2,Md.blen]
 omega
theorem done(h:Hc b D s M R V):Calls Tryz.prog 53 #[qP0 b] V fun e V'=>∃I,e=.returned I∧Iv V' I (s.done.map fun k:Nat=>(k:Int))∧Below V.heap.size V V':=by
 have hl:=h.len;obtain⟨⟨bm,rb,C,vs,d,dn,un,h1,h2,rfl,rfl⟩,h3⟩:=h;exact Uy b bm dn _ V h1.cells.2.2.1.1 h1.cells.2.2.2.1.1 (MdX.iv_of h1.odn) (by simp;omega)
theorem undone(h:Hc b D s M R V):Calls Tryz.prog 54 #[qP0 b] V fun e V'=>∃I,e=.returned I∧Iv V' I (s.undone.map fun k:Nat=>(k:Int))∧Below V.heap.size V V':=by
 have hl:=h.len;obtain⟨⟨bm,rb,C,vs,d,dn,un,h1,h2,rfl,rfl⟩,h3⟩:=h;exact Pj b bm un _ V h1.cells.2.2.1.1 h1.cells.2.2.2.2.1.1 (MdX.iv_of h1.oun) (by simp;omega)
theorem new(d:Af)(w:World)(J:d.In w)(Z:d.ok)(I:d.cp)(hc:P28.clean d.bare=true)(aA:∀s∈d.steps,s.after.length≤1000000):Calls Tryz.prog 49 #[d.val] w fun e w'=>∃b M R,e=.returned (.tuple #[qP0 b,.int .i64 0])∧Hc b (Bw d.bare) P32.S.new M R w'∧(∀g,M g→w.heap.size≤g)∧Below w.heap.size w w':=by
 refine(Uz d w J Z I hc aA).mono ?_;rintro e w' ⟨b,bm,rb,C,vs,d',rfl,⟨⟨g1,g2,h1⟩,h2⟩,h3⟩;refine⟨b,_,_,rfl,⟨⟨bm,rb,C,vs,d',_,_,h1,h2,rfl,rfl⟩,P32.inv_new _⟩,?_,h3⟩;rintro g (rfl|rfl|e|e)
 ·exact g1
 ·exact g2
 ·cases e
 ·cases e
end Hc
theorem Ru(n:Int)(w:World):Calls Tryz.prog 64 #[.pointer none,.int .i64 n] w fun e w'=>e=.returned (.slice none 0 0)∧w'=w:=by
 have I:=Ab (Qf w);go_enter Tryz.func64,Tryz.ntmps64
 go_wp2_with (go_at_call 96;refine(Aa I).mono ?_;rintro e w' ⟨rfl,hw⟩;obtain rfl:=hw.symm)
 go_ret;exact⟨rfl,rfl⟩
theorem Ph(n:Int)(w:World):Calls Tryz.prog 61 #[.pointer none,.agg #[.int .i64 0,.int .i64 0,.bool false,.int .u8 0],.int .i64 n] w fun e w'=>e=.returned (.tuple #[.slice none 0 0,.bool false])∧Below w.heap.size w w':=by
 obtain⟨H,hH⟩:=qeX w.heap.size;rw[hH];obtain⟨W1,J,I,g0,aA⟩:=As w (.cells #[.int .i64 0,.int .i64 0,.bool false,.int .u8 0] 37) H hH;have HM:=Ab (fun q=>Ra (W1.drewN q));have Z:=Ab J;have HB:=Ab I;clear J I g0;go_enter Tryz.func61,Tryz.ntmps61
 go_upto_region 1 with fail
 try rw[hH]
 rw[Aa Z];go_quiet (exact Calls.quiet_of_same (Aa HM _))
 go_wp2;exact qV (results_tmp2 rfl _ _ _) rfl ⟨rfl,Ac (Aa HB)⟩
open Go.RowKit
theorem Iy(a a2:Option Addr)(c c2:Nat)(l:List Nat)(w:World)(ha:J4 w a l)(hb:J4 w a2 l)(I:l.length≤100000000) :
  Calls Tryz.prog 26 #[.slice a l.length c,.slice a2 l.length c2] w fun e w'=>e=.returned (.bool true)∧∃q,w'=w.drewN q:=by
 have J:=Ab ha;have Z:=Ab hb;obtain⟨n,hn⟩:=qeX l.length;rw[hn]at I ⊢;have HN:=Ab hn;clear hn ha hb;go_enter Tryz.func26,Tryz.ntmps26
 go_wp2
 go_loopg [5] n (fun g s5 wx=>∃i m:Nat,i+g=n∧s5=.int .i64 i∧w.drewN m=wx)
 case atStart=>exact⟨0,0,by omega,by go_num,rfl⟩
 case round=>
  obtain⟨i,m,aC,rfl,rfl⟩:=hrel;cases gk with
  |zero=>
   have e1:(n:Int)≤(i:Int):=by omega
   have j1:decide ((i:Int)<(n:Int))=false:=by simp;omega
   go_wp2;go_ret;exact⟨rfl,m,rfl⟩
  |succ g'=>
   have aB:(i:Int)<(n:Int):=by omega
   have aA:IntKind.i64.wrap ((i:Int)+1)=(i:Int)+1:=qG _ (by omega);obtain⟨x,hx⟩:=Ap (Aa HN) (show i<n by omega);obtain⟨g1,o1,rfl,c1⟩:=Aa J i x hx;obtain⟨g2,o2,rfl,c2⟩:=Aa Z i x hx;unfold iv at c1 c2;clear hx;go_wp2;go_quiet (fail)
   go_wp2;go_roundg g'
   case measure=>omega
   case rel=>exact⟨i+1,m+nq,by omega,by go_num,rfl⟩
open Go.RowKit
theorem T0(w:World):Calls Tryz.prog 91 #[] w fun e w'=>∃g ga,e=.returned (Y6 g ga [118] 9).val∧(Y6 g ga [118] 9).In w'∧Below w.heap.size w w':=by
 obtain⟨H,J⟩:=qeX w.heap.size;rw[J];obtain⟨W,hW,hb,g0,g1,g2,hs⟩:=I5 w (.cells #[.string ⟨#[116]⟩,.string ⟨#[]⟩,.slice (some ⟨H+1+1,0,none⟩) 2 2] 24) (.cells #[.string ⟨#[97]⟩] 9) (.cells #[.string ⟨#[97]⟩,.string ⟨#[120]⟩,.string ⟨#[117]⟩,.slice none 0 0,.int .i64 0,.int .i64 0,.int .i64 0,.int .i64 9,.int .u8 0,.string ⟨#[]⟩,.slice none 0 0,.slice none 0 0,.int .i64 0,.string ⟨#[98]⟩,.string ⟨#[121]⟩,.string ⟨#[118]⟩,.slice (some ⟨H+1,0,none⟩) 1 1,.int .i64 0,.int .i64 0,.int .i64 0,.int .i64 9,.int .u8 0,.string ⟨#[]⟩,.slice none 0 0,.slice none 0 0,.int .i64 0] 63) H J;have I:(Y6 (H+1+1) (H+1) [118] 9).In W:=Qak g2 g1;have Z:=Ab I;have HW:=Ab hW;have HB:=Ab hb;clear hW hb g1 g2 I;go_enter Tryz.func91,Tryz.ntmps91
 go_upto_region 1 with fail
 try rw[J]
 go_wp2;rw[Aa HW];refine qV (Ah rfl _ _ _ H _ rfl (Oc g0)) rfl ?_;exact⟨H+1+1,H+1,rfl,Aa Z,Aa HB⟩
namespace Lv32
def D:P22.Def:=Bw (Y6 0 0 [118] 9).bare
theorem D_eq(g I:Nat):Bw (Y6 g I [118] 9).bare=D:=rfl
theorem clean(g I:Nat):P28.clean (Y6 g I [118] 9).bare=true:=by kernel_rfl
def s1:P32.S:=(P32.start D 1 P32.S.new).1
theorem a1:(P32.start D 1 P32.S.new).2=[⟨0,1,false,10⟩]:=by kernel_rfl
def s2:P32.S:=(P32.answer D 2 ⟨0,1,false,0⟩ s1).1.1
theorem b1:(P32.answer D 2 ⟨0,1,false,0⟩ s1).1.2=[⟨1,1,false,11⟩]:=by kernel_rfl
theorem b2:(P32.answer D 2 ⟨0,1,false,0⟩ s1).2=true:=by kernel_rfl
def s3:P32.S:=(P32.answer D 3 ⟨1,1,false,1⟩ s2).1.1
theorem c1:(P32.answer D 3 ⟨1,1,false,1⟩ s2).1.2=[⟨0,1,true,12⟩]:=by kernel_rfl
theorem c2:(P32.answer D 3 ⟨1,1,false,1⟩ s2).2=true:=by kernel_rfl
def s4:P32.S:=(P32.answer D 4 ⟨0,1,true,0⟩ s3).1.1
theorem d1:(P32.answer D 4 ⟨0,1,true,0⟩ s3).1.2=[]:=by kernel_rfl
theorem d2:(P32.answer D 4 ⟨0,1,true,0⟩ s3).2=true:=by kernel_rfl
theorem st4:s4.status=4:=by kernel_rfl
theorem dn4:s4.done=[0]:=by kernel_rfl
theorem un4:s4.undone=[0]:=by kernel_rfl
theorem op4:P32.open_ D s4=[]:=by kernel_rfl
variable {V:World} {b:Nat} {M R:Nat→Prop}
theorem oneO{W:World}{v:Value}{o:P32.Order}(h:Cj W v [o]):∃g q c,v=.slice (some ⟨g,q,none⟩) 1 c∧1≤c∧W.cell? ⟨g,q,none⟩=some (.int .i64 (o.step:Int))∧W.cell? ⟨g,q+1,none⟩=some (.int .i64 o.att)∧W.cell? ⟨g,q+2,none⟩=some (.bool o.undo)∧W.cell? ⟨g,q+3,none⟩=some (.int .i64 o.til):=by
 obtain⟨a,c,e,hc,hi⟩:=h;obtain⟨g,q,rfl,k⟩:=hi 0 o rfl;exact⟨g,q,c,e,hc,by simpa using k⟩
end Lv32
structure Lv (w:World) (b:Nat) (D:P22.Def) (s:P32.S) (l:List (Value × List P32.Order)) (M R:Nat→Prop) (V:World):Prop where
 sg:Hc b D s M R V
 new:∀g,M g→w.heap.size≤g
 bel:Below w.heap.size w V
 ord:∀p∈l,Cj V p.1 p.2∧∀g,p.1.ownBlock=some g→¬M g∧g<V.heap.size
theorem KW.below{M:Nat→Prop}{w V V':World}(h:KW M V V')(hb:Below w.heap.size w V)(I:∀g,M g→w.heap.size≤g):Below w.heap.size w V':=
 hb.trans ⟨h.os,h.tape,h.output,h.size,fun g hg=>h.same g (fun e=>by have:=I g e;omega) (zD hg hb.size)⟩
theorem Cj.keep{V V':World}{v:Value}{os:List P32.Order}(h:Cj V v os)(hk:∀g,v.ownBlock=some g→V'.heap[g]?=V.heap[g]?):Cj V' v os:=by
 obtain⟨a,c,rfl,h1,h2⟩:=h;refine⟨a,c,rfl,h1,fun j o ho=>?_⟩;obtain⟨g,q,rfl,Z,I,k2,J⟩:=h2 j o ho;have hb:=fun k=>Ae (hk g rfl) k;exact⟨g,q,rfl,(hb _).trans Z,(hb _).trans I,(hb _).trans k2,(hb _).trans J⟩
namespace Lv
variable {w V V':World} {b:Nat} {D:P22.Def} {s:P32.S} {l:List (Value × List P32.Order)} {M R:Nat→Prop}
theorem below(h:Lv w b D s l M R V)(hb:Below V.heap.size V V'):Lv w b D s l M R V':=
 ⟨h.sg.below hb,h.new,h.bel.trans (hb.mono h.bel.size),fun p hp=>⟨(h.ord p hp).1.keep (fun g hg=>hb.block g ((h.ord p hp).2 g hg).2),fun g hg=>⟨((h.ord p hp).2 g hg).1,zD ((h.ord p hp).2 g hg).2 hb.size⟩⟩⟩
theorem next{x:P32.S × List P32.Order}{v:Value}(h:Lv w b D s l M R V)(he:SgE b D x M R V v V'):∃M',Lv w b D x.1 ((v,x.2)::l) M' R V':=by
 obtain⟨h1,M',h2,h3,h4,Z⟩:=he;refine⟨M',h2,fun g hg=>(h4 g hg).elim (h.new g) (fun e=>qK h.bel.size e),h3.below h.bel h.new,fun p hp=>?_⟩;rcases zW.1 hp with rfl|hp
 ·exact⟨h1,Z⟩
 ·obtain⟨J,I⟩:=h.ord p hp;refine⟨J.keep (fun g hg=>h3.same g (I g hg).1 (I g hg).2),fun g hg=>⟨fun e=>(h4 g e).elim (I g hg).1 (fun q=>by have:=(I g hg).2;omega),zD (I g hg).2 h3.size⟩⟩
end Lv
theorem Zp(W:World)(k:Nat):J4 (W.alloc (.cells #[.int .i64 (k:Int)] 3)) (some ⟨W.heap.size,0,none⟩) [k]:=fun i x hx=>by
 have:i=0:=by
  have:=(qI.1 hx).1;simp at this;exact this
 subst this;simp at hx;subst hx;exact⟨_,0,rfl,(A1 (qB _ _)).1⟩
namespace Lv32
variable {w V:World} {b:Nat} {M R:Nat→Prop} {l:List (Value × List P32.Order)}
theorem ka(h:Lv w b D P32.S.new l M R V):Calls Tryz.prog 64 #[qP0 b,.int .i64 1] V fun e V'=>∃v,e=.returned v∧∃M',Lv w b D s1 ((v,[⟨0,1,false,10⟩])::l) M' R V':=by
 refine(h.sg.start 1).mono ?_;rintro e V' ⟨v,rfl,J⟩;obtain⟨M',I⟩:=h.next J
 rw[a1]at I;exact⟨v,rfl,M',I⟩
theorem kb(h:Lv w b D s1 l M R V):Calls Tryz.prog 61 #[qP0 b,.agg #[.int .i64 0,.int .i64 1,.bool false,.int .u8 0],.int .i64 2] V fun e V'=>∃v,e=.returned (.tuple #[v,.bool true])∧∃M',Lv w b D s2 ((v,[⟨1,1,false,11⟩])::l) M' R V':=by
 refine(h.sg.answer 2 ⟨0,1,false,0⟩).mono ?_;rintro e V' ⟨v,rfl,J⟩;obtain⟨M',I⟩:=h.next J
 rw[b1]at I;exact⟨v,by rw[b2],M',I⟩
theorem kc(h:Lv w b D s2 l M R V):Calls Tryz.prog 61 #[qP0 b,.agg #[.int .i64 1,.int .i64 1,.bool false,.int .u8 1],.int .i64 3] V fun e V'=>∃v,e=.returned (.tuple #[v,.bool true])∧∃M',Lv w b D s3 ((v,[⟨0,1,true,12⟩])::l) M' R V':=by
 refine(h.sg.answer 3 ⟨1,1,false,1⟩).mono ?_;rintro e V' ⟨v,rfl,J⟩;obtain⟨M',I⟩:=h.next J
 rw[c1]at I;exact⟨v,by rw[c2],M',I⟩
theorem kd(h:Lv w b D s3 l M R V):Calls Tryz.prog 61 #[qP0 b,.agg #[.int .i64 0,.int .i64 1,.bool true,.int .u8 0],.int .i64 4] V fun e V'=>∃v,e=.returned (.tuple #[v,.bool true])∧∃M',Lv w b D s4 ((v,[])::l) M' R V':=by
 refine(h.sg.answer 4 ⟨0,1,true,0⟩).mono ?_;rintro e V' ⟨v,rfl,J⟩;obtain⟨M',I⟩:=h.next J
 rw[d1]at I;exact⟨v,by rw[d2],M',I⟩
theorem ks(h:Lv w b D s4 l M R V):Calls Tryz.prog 52 #[qP0 b] V fun e V'=>e=.returned (.int .u8 4)∧V'=V:=by
 have:=h.sg.status;rw[st4]at this;exact this
theorem ko(h:Lv w b D s4 l M R V):Calls Tryz.prog 58 #[qP0 b] V fun e V'=>e=.returned (.bool true)∧V'=V:=by
 have:=h.sg.over;rw[st4]at this;exact this
theorem kdn(h:Lv w b D s4 l M R V):Calls Tryz.prog 53 #[qP0 b] V fun e V'=>∃a c,e=.returned (.slice a 1 c)∧J4 V' a [0]∧Lv w b D s4 l M R V':=by
 refine h.sg.done.mono ?_;rintro e V' ⟨v,rfl,h1,h2⟩;rw[dn4]at h1;obtain⟨a,c,e,_,h3⟩:=I2 h1;exact⟨a,c,by rw[e];rfl,h3,h.below h2⟩
theorem kun(h:Lv w b D s4 l M R V):Calls Tryz.prog 54 #[qP0 b] V fun e V'=>∃a c,e=.returned (.slice a 1 c)∧J4 V' a [0]∧Lv w b D s4 l M R V':=by
 refine h.sg.undone.mono ?_;rintro e V' ⟨v,rfl,h1,h2⟩;rw[un4]at h1;obtain⟨a,c,e,_,h3⟩:=I2 h1;exact⟨a,c,by rw[e];rfl,h3,h.below h2⟩
theorem kop(h:Lv w b D s4 l M R V):Calls Tryz.prog 56 #[qP0 b] V fun e V'=>∃a c,e=.returned (.slice a 0 c)∧Lv w b D s4 l M R V':=by
 refine h.sg.opens.mono ?_;rintro e V' ⟨v,rfl,h1,h2⟩;rw[op4]at h1;obtain⟨a,c,e,_,_⟩:=h1;exact⟨a,c,by rw[e];rfl,h.below h2⟩
end Lv32
theorem Yz(W:World)(a:Option Addr)(c:Nat)(h:J4 W a [0]):Calls Tryz.prog 26 #[.slice a 1 c,.slice (some ⟨W.heap.size,0,none⟩) 1 1] (W.alloc (.cells #[.int .i64 0] 3)) fun e w'=>e=.returned (.bool true)∧Below W.heap.size W w':=by
 have hb:Below W.heap.size W (W.alloc (.cells #[.int .i64 0] 3)):=(qU _ W).alloc (qJ _) _;refine(Iy a _ c 1 [0] _ (h.below' hb) (Zp W 0) (by decide)).mono ?_;rintro e w' ⟨rfl,q,rfl⟩;exact⟨rfl,Ac hb⟩
theorem Ss(w:World):Calls Tryz.prog 48 #[] w fun e w'=>e=.returned (.bool true)∧Below w.heap.size w w':=by
 have aM:=T0 w;have aB:=Ab aM;clear aM;go_enter Tryz.func48,Tryz.ntmps48
 go_upto_region 2 with(first|(go_at_call 91;refine(Aa aB).mono ?_;rintro e W1 ⟨g,ga,rfl,aH,aA⟩)|(go_at_call 49;refine(Hc.new (Y6 g ga [118] 9) _ aH (Qal g ga [118] 9 (qJ _)) (Qaj g ga [118] 9) (Lv32.clean g ga) (fun s hs=>by rcases Gu (show s∈[Ww 9,Y8 ga [118] 9] from hs)with rfl|rfl;exact Nat.zero_le _;show 1≤_;omega)).mono ?_;rintro e W2 ⟨b,M,R,rfl,hm,aG,aC⟩))
 rw[Lv32.D_eq]at hm;have aD:Lv w b Lv32.D P32.S.new [] M R W2:=⟨hm,fun g hg=>qK aA.size (aG g hg),aA.trans (aC.mono aA.size),fun p hp=>by cases hp⟩;have H2:=Ab aD;clear hm aH aA aC aG aD aB;go_upto_region 3 with(go_at_call 49;refine(Pi Af.zero _ (Af.zero_in _) Wu (by kernel_rfl)).mono ?_;rintro e W3 ⟨rfl,aE⟩)
 have H3:=Ab ((Aa H2).below aE);clear aE H2;go_upto_region 6 with(go_at_call 64;refine(Lv32.ka (Aa H3)).mono ?_;rintro e W4 ⟨va,rfl,M4,h4⟩)
 have H4:=Ab h4;clear h4 H3;go_upto_region 7 with(go_at_call 61;refine(Lv32.kb (Aa H4)).mono ?_;rintro e W5 ⟨vb,rfl,M5,h5⟩)
 have H5:=Ab h5;clear h5 H4;go_upto_region 8 with(go_at_call 61;refine(Lv32.kc (Aa H5)).mono ?_;rintro e W6 ⟨vc,rfl,M6,h6⟩)
 have H6:=Ab h6;clear h6 H5;go_upto_region 10 with(go_at_call 61;refine(Lv32.kd (Aa H6)).mono ?_;rintro e W7 ⟨vd,rfl,M7,h7⟩)
 have H7:=Ab h7;clear h7 H6;go_upto_region 11 with(go_at_call 61;refine(Ph _ _).mono ?_;rintro e W8 ⟨rfl,h8⟩)
 have h9:=(Aa H7).below h8;obtain⟨aS,qa,ca,ea,aY,a0,a1,a2,a3⟩:=Lv32.oneO (h9.ord (va,[⟨0,1,false,10⟩]) (by simp)).1;obtain⟨gb,qb,cb,eb,aU,b0,b1,b2,b3⟩:=Lv32.oneO (h9.ord (vb,[⟨1,1,false,11⟩]) (by simp)).1;obtain⟨gc,qc,cc,ec,aP,c0,c1,c2,c3⟩:=Lv32.oneO (h9.ord (vc,[⟨0,1,true,12⟩]) (by simp)).1;obtain⟨gd,cd,ed,_,_⟩:=(h9.ord (vd,[]) (by simp)).1;simp only at ea eb ec ed a0 a1 a2 a3 b0 b1 b2 b3 c0 c1 c2 c3;have ed:vd=.slice gd 0 cd:=ed;subst ea eb ec ed;have H9:=Ab h9;clear h8 h9 H7;simp only[List.append_eq,zQ,zR]
 go_wp2_with (first
  |(go_at_call 52;first|(with_reducible refine(Fz _).mono ?_;rintro e w' ⟨rfl,hw⟩;obtain rfl:=hw.symm)|(with_reducible refine(Lv32.ks (Aa H9)).mono ?_;rintro e w' ⟨rfl,hw⟩;obtain rfl:=hw.symm))
  |(go_at_call 58;first|(with_reducible refine(Xg _).mono ?_;rintro e w' ⟨rfl,hw⟩;obtain rfl:=hw.symm)|(with_reducible refine(Lv32.ko (Aa H9)).mono ?_;rintro e w' ⟨rfl,hw⟩;obtain rfl:=hw.symm))
  |(go_at_call 53;refine(Lv32.kdn (Aa H9)).mono ?_;rintro e aZ ⟨d9,aW,rfl,Z,aJ⟩;have aL:=Ab Z;have I:=Ab aJ;clear Z aJ)
  |(go_at_call 54;refine(Lv32.kun (Aa I)).mono ?_;rintro e aQ ⟨u9,aT,rfl,J,aK⟩;have aL:=Ab J;have I:=Ab aK;clear J aK)
  |(go_at_call 26;refine(Yz _ _ _ (Aa aL)).mono ?_;rintro e aR ⟨rfl,aN⟩;have I:=Ab ((Aa I).below aN);clear aN)
  |(go_at_call 56;refine(Lv32.kop (Aa I)).mono ?_;rintro e aX ⟨oa,oc,rfl,aI⟩;have aO:=Ab aI;clear aI)
  | (go_at_call 64;refine(Ru _ _).mono ?_;rintro e w' ⟨rfl,hw⟩;obtain rfl:=hw.symm))
 go_ret;exact⟨rfl,(Aa aO).bel⟩
open Go.RowKit
def Qbz(a:P32.Ask):List Value:=[.int .u8 (a.kind:Int),.int .i64 a.a.step,.int .i64 a.a.attempt,.bool a.a.undo,.int .u8 (a.a.outcome:Int),.int .i64 a.now,.int .u8 (a.pos:Int)]
theorem Zv{D:P22.Def}{s:P32.S}{a:P32.Ask}(h:a.kind≠4∨P32.open_ D s=[]):P32.pick D s a=a.a:=by
 unfold P32.pick;by_cases h4:a.kind=4
 ·rw[if_pos h4];rcases h with h|h
  ·exact absurd h4 h
  ·rw[h];rfl
 ·rw[if_neg h4]
theorem Yr{D:P22.Def}{s:P32.S}{a:P32.Ask}{o:P32.Order}(h:a.kind=4)(ho:(P32.open_ D s)[a.pos % (P32.open_ D s).length]?=some o):P32.pick D s a=⟨(o.step:Int),o.att,o.undo,a.a.outcome⟩:=by
 unfold P32.pick;rw[if_pos h,ho]
open Go.RowKit
structure Fv where
 a:P32.Ask
 lt:a.pos<256
instance:Inhabited Fv:=⟨⟨⟨0,⟨0,0,false,0⟩,0,0⟩,by decide⟩⟩
def Fv.cs(z:Fv):List Value:=Qbz z.a
theorem Qas{n:Int}(h:(Lit.int .u8 n).wf=true):∃m:Nat,n=(m:Int)∧m<256:=by
 simp only[Lit.wf,Bool.and_eq_true,decide_eq_true_eq]at h;have h1:(0:Int)≤n:=h.1;have h2:n≤255:=h.2;exact⟨n.toNat,by omega,by omega⟩
theorem Vu{H:Type}{enc:TypeId × Value→H}{W:World}{J:Nat}{cs:List Value}{x:DataW H × List MemPlace}(h:DataW.trod enc Tryz.prog W 0 (fun _=>true) true J 103 cs=some x):∃z:Fv,cs=z.cs:=by
 obtain⟨xs,n,aD,_,hl,I,hf⟩:=DataW.trod_struct Tryz.underlying103 h;have hc:Tryz.prog.cellsOf 103=7:=by kernel_rfl
 have aA:Tryz.prog.cellsOf 37=4:=by kernel_rfl
 have Z:Tryz.prog.cellsOf 5=1:=by kernel_rfl
 have aB:Tryz.prog.cellsOf 2=1:=by kernel_rfl
 rw[hc]at hl
 match cs,hl with
 | [c0,c1,c2,c3,c4,c5,c6],_=>
  match xs,I with
  | [y0,y1,y2,y3],_=>
   have g0:=hf 0 _ rfl;have g1:=hf 1 _ rfl;have g2:=hf 2 _ rfl;have g3:=hf 3 _ rfl;simp only[aA,Z,aB,List.drop_zero,List.drop_succ_cons,List.take_succ_cons,List.take_zero,zF,List.getElem?_cons_succ]at g0 g1 g2 g3;obtain⟨n0,e0,w0⟩:=DataW.trod_int Tryz.underlying5 g0;obtain⟨aC,aa,au,ao,e1⟩:=S2 g1;obtain⟨n2,e2,_⟩:=DataW.trod_int Tryz.underlying2 g2;obtain⟨n3,e3,w3⟩:=DataW.trod_int Tryz.underlying5 g3;cases e0;cases e1;cases e2;cases e3;obtain⟨m0,rfl⟩:=Qbd w0.2;obtain⟨m3,rfl,hm⟩:=Qas w3.2;exact⟨⟨⟨m0,⟨aC,aa,au,ao⟩,n2,m3⟩,hm⟩,rfl⟩
def Wx(W:World)(v:Value):Prop:=∃(ad:Option Addr) (l:List Fv) (cap:Nat),v=.slice ad l.length cap∧Z6 W 7 Fv.cs ad l∧l.length≤maxLen
theorem S3{H:Type}{enc:TypeId × Value→H}{W:World}{r:Reach}{J:Nat}{v:Value}{d:DataW H}{ps:List MemPlace}(I:Value.okWide Tryz.prog W r J 95 v)
  (hd:DataW.Trod enc Tryz.prog W 0 (fun _=>true) true 95 v d ps):Wx W v:=
 Yn (k:=7) (csOf:=Fv.cs) (by decide) (fun z=>rfl) Tryz.underlying95 (by kernel_rfl) (by kernel_rfl) (fun h=>Vu h) I hd
open Go.RowKit
namespace SgK
variable {w4 w6 V V':World} {M0:Nat→Prop} {b:Nat} {D:P22.Def} {s:P32.S} {M R:Nat→Prop}
end SgK
theorem Kt(d:P22.Def)(n:Int):∀(f:Nat) (x:P32.S × List P32.Order),(P32.backGo d n f x).2.length≤x.2.length+1
 |0,x=>by simp[P32.backGo]
 |f+1,x=>by
  unfold P32.backGo;split
  ·simp
  ·split
   ·exact Kt d n f _
   ·split
    ·simp
    ·split
     ·exact P32.put_len _ _ _ _
     ·simp
theorem on_len(d:P22.Def)(n:Int)(x:P32.S × List P32.Order):(P32.on d n x).2.length≤x.2.length+d.steps.length+1:=by
 have h1:(P32.on1 d n x).2.length≤x.2.length+d.steps.length:=by
  unfold P32.on1;split
  ·exact Mu d n x
  ·omega
 unfold P32.on P32.on2;split
 ·unfold P32.back;split
  ·omega
  ·have:=Kt d n ((P32.on1 d n x).1.done.length-(P32.on1 d n x).1.undone.length+1) (P32.on1 d n x);omega
 ·omega
theorem X8{d:P22.Def}{s:P32.S}(h:P32.Inv d s)(a:P32.Ask):(P32.give d s a).2.length≤3*d.steps.length+2:=by
 unfold P32.give;split
 ·unfold P32.answer;split
  ·simp
  ·split
   ·simp
   ·refine qK (on_len d _ _) ?_;have:=P32.put_len (P32.pick d s a).step.toNat (P32.pick d s a).undo (P31.answer (P32.stepAt d (P32.pick d s a).step.toNat) a.now (s.run (P32.pick d s a).step.toNat (P32.pick d s a).undo) (P32.pick d s a).attempt (P32.pick d s a).outcome).1 (s,[]);simp only[qP]at this;omega
 ·split
  ·cases hm:P32.moving s with
   |false=>
    unfold P32.tick;rw[if_pos hm];simp
   |true=>
    rw[P32.tickX_all hm];refine qK (on_len d _ _) ?_;have:=(P32.tickX_good (n:=a.now) h (P32.moving_iff.1 hm) (P32.waysL d.steps.length).length (by rw[P32.waysL_len];exact qJ _)).2.2.1;rw[P32.waysL_len]at this ⊢;omega
  ·split
   ·unfold P32.cancel;split
    ·simp
    ·refine qK (on_len d _ _) ?_;simp only[qP];omega
   ·unfold P32.start;split
    ·simp
    ·refine qK (on_len d _ _) ?_;simp only[qP];omega
end Go.Proofs.YtefokfbgpfcbkaaGreat
