import Derived.Test.YtefokfbgpfcbkaaGreatN26xZ
set_option maxRecDepth 100000
set_option maxHeartbeats 2000000
set_option linter.unusedVariables false
set_option linter.unusedSimpArgs false
namespace Go.Proofs.YtefokfbgpfcbkaaGreat
namespace P33
open P22 (Def Step)
structure Ans where
 step:Int
 attempt:Int
 undo:Bool
 outcome:Nat
structure S where
 w:Nat→Bool→Int × Bool
 done:List Nat
 undone:List Nat
 failed:Bool
 status:Nat
def most(s:P22.Try):Int:=min (max (P28.meant s.most 1) 0) 10
def more(s:P22.Try)(t:Int):Bool:=decide (1≤t)&&decide (t<most s)
def undoOf(d:Def)(i:Nat):List UInt8:=(P28.undos d).getD i []
def back(d:Def)(s:S)(i:Nat):Bool:=!(undoOf d i).isEmpty && !decide (i∈s.undone)
def turn(d:Def)(s:S):Option Nat:=s.done.reverse.find? (back d s)
def Qbm(d:Def)(s:S):List Nat:=s.done.reverse.filter fun i=>!(undoOf d i).isEmpty
structure Inv (d:Def) (s:S):Prop where
 nodup:s.done.Nodup
 lt:∀i∈s.done,i<d.steps.length
 open_:∀i,(s.w i false).2=true→i∉s.done∧i<d.steps.length
 und:s.undone=(Qbm d s).take s.undone.length
 len:s.undone.length≤(Qbm d s).length
 uopen:∀i,(s.w i true).2=true→turn d s=some i∧(∀j,(s.w j false).2=false)∧s.status≠1
 uu:s.undone≠[]→(∀j,(s.w j false).2=false)∧s.status≠1
end P33
namespace P31
theorem Zs{t:P22.Try}{k:Int}(h:P33.more t k=true):1≤k∧k≤9:=by
 unfold P33.more P33.most at h;simp only[Bool.and_eq_true,decide_eq_true_eq]at h;omega
end P31
namespace P32
theorem len_le:∀(n:Nat) (l:List Nat),l.Nodup→(∀x∈l,x<n)→l.length≤n
 |0,l,_,h=>by
  cases l with
  |nil=>simp
  |cons x l=>exact absurd (h x (by simp)) (by omega)
 |n+1,l,hn,h=>by
  by_cases hm:n∈l
  ·have h1:=len_le n (l.erase n) (hn.erase n) (fun x hx=>by
    have h2:=(List.Nodup.mem_erase_iff hn).1 hx;have:=h x h2.2;have:=h2.1
    omega)
   rw[List.length_erase_of_mem hm]at h1;omega
  ·have:=len_le n l hn (fun x hx=>by
    have h1:=h x hx;have:x≠n:=fun e=>hm (e ▸ hx)
    omega)
   omega
end P32
end Go.Proofs.YtefokfbgpfcbkaaGreat
namespace Go.Proofs.YtefokfbgpfcbkaaGreat
open Go.RowKit
abbrev mdC(d:Af)(J:Value)(bm:Nat)(dn un:Value)(I:Bool)(st:Int):Obj:=
 .cells #[.string ⟨d.name.toArray⟩,.string ⟨d.text.toArray⟩,.slice d.sa d.steps.length d.sc,J,.map (some bm),dn,un,.bool I,.int .u8 st] 123
theorem Gs{W:World}{b k:Nat}{cs:Array Value}{T:TypeId}{v:Value}(h:W.heap[b]?=some (.cells cs T))(hk:cs[k]?=some v):W.cell? ⟨b,k,none⟩=some v:=by
 simp only[World.cell?,h,Option.bind_some];exact hk
open Go.RowKit
def stT(m f k:Int):Ai:={ Ai.zero with most:=m,first:=f,factor:=k }
theorem Fp(w:World)(a0 a1 a2 a3 a4 a5 a6 a7 a8 a9 Z I J:Value):(Instr.field 63 (.agg #[a0,a1,a2,a3,a4,a5,a6,a7,a8,a9,Z,I,J]) 4).run Tryz.prog w=.ok (.agg #[a4,a5,a6]) w:=by kernel_rfl
attribute [local go_sem] Fp
theorem Qau(m f k:Int)(V:World):Calls Tryz.prog 166 #[.agg #[.string ⟨#[]⟩,.string ⟨#[]⟩,.string ⟨#[]⟩,.slice none 0 0,.int .i64 m,.int .i64 f,.int .i64 k,.int .i64 0,.int .u8 0,.string ⟨#[]⟩,.slice none 0 0,.slice none 0 0,.int .i64 0]] V fun e w'=>e=.returned (.agg #[.string ⟨#[]⟩,.string ⟨#[]⟩,.string ⟨#[]⟩,.slice none 0 0,.int .i64 (P28.meant m 1),.int .i64 f,.int .i64 (P28.meant k 1),.int .i64 (P28.meant 0 100),.int .u8 0,.string ⟨#[]⟩,.slice none 0 0,.slice none 0 0,.int .i64 0])∧Below V.heap.size V w':=Kn (stT m f k) V
theorem Qq{W:World}{g:Nat}{T:TypeId}{a b c:Value}(h:W.heap[g]?=some (.cells #[a,b,c] T))(x:Value):(W.setCell ⟨g,0,none⟩ x).heap[g]?=some (.cells #[x,b,c] T):=by simp[World.setCell,Array.getElem?_modify,h]
theorem Qr{W:World}{g:Nat}{T:TypeId}{a b c:Value}(h:W.heap[g]?=some (.cells #[a,b,c] T))(x:Value):(W.setCell ⟨g,1,none⟩ x).heap[g]?=some (.cells #[a,x,c] T):=by simp[World.setCell,Array.getElem?_modify,h]
theorem Qs{W:World}{g:Nat}{T:TypeId}{a b c:Value}(h:W.heap[g]?=some (.cells #[a,b,c] T))(x:Value):(W.setCell ⟨g,2,none⟩ x).heap[g]?=some (.cells #[a,b,x] T):=by simp[World.setCell,Array.getElem?_modify,h]
theorem Jo(m f k:Int)(w:World):Calls Tryz.prog 161 #[.agg #[.int .i64 m,.int .i64 f,.int .i64 k]] w fun e w'=>e=.returned (.agg #[.int .i64 (min (max (P28.meant m 1) 0) 10),.int .i64 (min (max f 0) 1000),.int .i64 (min (max (P28.meant k 1) 0) 1000)])∧Below w.heap.size w w':=by
 obtain⟨H,hH⟩:=qeX w.heap.size;rw[hH];have hr:=fun V=>Qau m f k V;obtain⟨M,hM⟩:∃x,P28.meant m 1=x:=⟨_,rfl⟩;obtain⟨K,hK⟩:∃x,P28.meant k 1=x:=⟨_,rfl⟩;obtain⟨Li,aG⟩:∃x,P28.meant 0 100=x:=⟨_,rfl⟩;rw[hM,hK,aG]at hr;rw[hM,hK];obtain⟨M2,aD⟩:∃x,min (max M 0) 10=x:=⟨_,rfl⟩;obtain⟨F2,aC⟩:∃x,min (max f 0) 1000=x:=⟨_,rfl⟩;obtain⟨K2,aB⟩:∃x,min (max K 0) 1000=x:=⟨_,rfl⟩;rw[aD,aC,aB];have aZ:=Ab aD;have aW:=Ab aC;have aX:=Ab aB;clear aD aC aB;obtain⟨W1,aL,aH,g0,g1,bE⟩:=Dt w (.cells #[.int .i64 m,.int .i64 f,.int .i64 k] 58) (.cells #[.int .i64 0,.int .i64 0,.int .i64 0] 58) H hH;have HR:=Ab hr;have bC:=Ab aL;have aS:=Ab aH;have aK:=Ab g0;have aU:=Ab g1;obtain⟨⟨k0,f0⟩,⟨k1,f1⟩,⟨k2,f2⟩⟩:=Ag g0;clear hr hM hK aG aL aH g0 g1;go_enter Tryz.func161,Tryz.ntmps161
 go_upto_region 1 with fail
 try rw[hH]
 rw[Aa bC];go_upto_region 2 with(go_at_call 166;with_reducible refine(Aa HR _).mono ?_;rintro e w2 ⟨rfl,b2⟩;have hg:=(b2.block H (by omega)).trans (Aa aK);obtain⟨⟨q0,r0⟩,⟨q1,r1⟩,⟨q2,r2⟩⟩:=Ag hg;have HG:=Ab hg;clear hg)
 obtain⟨W3,Z⟩:=qeX (((w2.setCell ⟨H,0,none⟩ (.int .i64 M)).setCell ⟨H,1,none⟩ (.int .i64 f)).setCell ⟨H,2,none⟩ (.int .i64 K));rw[Z];have hz:=b2.size
 have aJ:Below H w W3:=by
  rw[←Z];exact((((Aa aS).trans (b2.mono (by omega))).setCell (p:=⟨H,0,none⟩) (qJ H) _).setCell (p:=⟨H,1,none⟩) (qJ H) _).setCell (p:=⟨H,2,none⟩) (qJ H) _
 have g3:W3.heap[H]?=some (.cells #[.int .i64 M,.int .i64 f,.int .i64 K] 58):=by rw[←Z];exact Qs (Qr (Qq (Aa HG) _) _) _
 have h3:W3.heap[H+1]?=some (.cells #[.int .i64 0,.int .i64 0,.int .i64 0] 58):=by
  rw[←Z,qC _ _ _ _ (by show H+1≠H;omega),qC _ _ _ _ (by show H+1≠H;omega),qC _ _ _ _ (by show H+1≠H;omega)];exact(b2.block (H+1) (by omega)).trans (Aa aU)
 clear Z q0 r0 q1 r1 q2 r2 b2 k0 f0 k1 f1 k2 f2 aK aU HG aS HR;have aI:=Ab aJ;have aM:=Ab g3;have aE:=Ab h3;obtain⟨⟨q0,r0⟩,⟨q1,r1⟩,⟨q2,r2⟩⟩:=Ag g3;clear aJ g3 h3;go_upto_region 3 with fail
 try rw[Aa aZ]
 obtain⟨W4,aA⟩:=qeX (W3.setCell ⟨H,0,none⟩ (.int .i64 M2));rw[aA];have g4:W4.heap[H]?=some (.cells #[.int .i64 M2,.int .i64 f,.int .i64 K] 58):=by rw[←aA];exact Qq (Aa aM) _
 have b4:Below H w W4:=by rw[←aA];exact(Aa aI).setCell (p:=⟨H,0,none⟩) (qJ H) _
 have i4:W4.heap[H+1]?=some (.cells #[.int .i64 0,.int .i64 0,.int .i64 0] 58):=by rw[←aA,qC _ _ _ _ (by show H+1≠H;omega)];exact Aa aE
 clear q0 r0 q1 r1 q2 r2 aA aM aI aE;obtain⟨⟨q0,r0⟩,⟨q1,r1⟩,⟨q2,r2⟩⟩:=Ag g4;have aT:=Ab g4;have aP:=Ab b4;have aQ:=Ab i4;clear g4 b4 i4;go_upto_region 4 with fail
 try rw[Aa aW]
 obtain⟨W5,I⟩:=qeX (W4.setCell ⟨H,1,none⟩ (.int .i64 F2));rw[I];have g5:W5.heap[H]?=some (.cells #[.int .i64 M2,.int .i64 F2,.int .i64 K] 58):=by rw[←I];exact Qr (Aa aT) _
 have b5:Below H w W5:=by rw[←I];exact(Aa aP).setCell (p:=⟨H,1,none⟩) (qJ H) _
 have i5:W5.heap[H+1]?=some (.cells #[.int .i64 0,.int .i64 0,.int .i64 0] 58):=by rw[←I,qC _ _ _ _ (by show H+1≠H;omega)];exact Aa aQ
 clear q0 r0 q1 r1 q2 r2 I aT aP aQ;obtain⟨⟨q0,r0⟩,⟨q1,r1⟩,⟨q2,r2⟩⟩:=Ag g5;have aN:=Ab g5;have aR:=Ab b5;have aO:=Ab i5;clear g5 b5 i5;go_upto_region 5 with fail
 try rw[Aa aX]
 obtain⟨W6,J⟩:=qeX (W5.setCell ⟨H,2,none⟩ (.int .i64 K2));rw[J];have g6:W6.heap[H]?=some (.cells #[.int .i64 M2,.int .i64 F2,.int .i64 K2] 58):=by rw[←J];exact Qs (Aa aN) _
 have b6:Below H w W6:=by rw[←J];exact(Aa aR).setCell (p:=⟨H,2,none⟩) (qJ H) _
 have i6:W6.heap[H+1]?=some (.cells #[.int .i64 0,.int .i64 0,.int .i64 0] 58):=by rw[←J,qC _ _ _ _ (by show H+1≠H;omega)];exact Aa aO
 clear q0 r0 q1 r1 q2 r2 J aN aR aO;obtain⟨⟨q0,r0⟩,⟨q1,r1⟩,⟨q2,r2⟩⟩:=Ag g6;obtain⟨⟨x0,y0⟩,⟨x1,y1⟩,⟨x2,y2⟩⟩:=Ag i6;have aY:=Ab b6;have bD:=Ab i6;clear g6 b6 i6;go_wp2
 (try simp only[Exit.inBlock,Exit.then])
 have g7:=Qs (Qr (Qq (Aa bD) (.int .i64 M2)) (.int .i64 F2)) (.int .i64 K2);refine qV (Ah rfl _ _ _ (H+1) _ rfl (qW _ _ _ _ _ _ _ g7 Tryz.underlying58 rfl (by kernel_rfl)) ) rfl ?_;refine⟨rfl,?_⟩;exact(((Aa aY).setCell (p:=⟨H+1,0,none⟩) (Nat.le_succ H) _).setCell (p:=⟨H+1,1,none⟩) (Nat.le_succ H) _).setCell (p:=⟨H+1,2,none⟩) (Nat.le_succ H) _
theorem Dv(w:World)(a b c:Value):(Instr.field 58 (.agg #[a,b,c]) 0).run Tryz.prog w=.ok a w:=by kernel_rfl
attribute [local go_sem] Dv
theorem Xa(m f k n:Int)(w:World):Calls Tryz.prog 119 #[.agg #[.int .i64 m,.int .i64 f,.int .i64 k],.int .i64 n] w fun e w'=>e=.returned (.bool (P33.more ⟨m,f,k⟩ n))∧Below w.heap.size w w':=by
 obtain⟨H,hH⟩:=qeX w.heap.size;rw[hH];obtain⟨M,hM⟩:∃x,min (max (P28.meant m 1) 0) 10=x:=⟨_,rfl⟩;have hr:=fun V=>Jo m f k V;rw[show P33.more ⟨m,f,k⟩ n=(decide (1≤n)&&decide (n<M)) by rw[←hM];rfl];rw[hM]at hr;obtain⟨W1,Z,J,g0,aB⟩:=As w (.cells #[.int .i64 m,.int .i64 f,.int .i64 k] 58) H hH;obtain⟨⟨q0,r0⟩,⟨q1,r1⟩,⟨q2,r2⟩⟩:=Ag g0;have HR:=Ab hr;have I:=Ab Z;have aA:=Ab J;clear hr hM Z J g0;by_cases h1:1≤n
 ·go_enter Tryz.func119,Tryz.ntmps119
  go_upto_region 1 with fail
  try rw[hH]
  rw[Aa I];go_wp2_with (go_at_call 161;with_reducible refine(Aa HR _).mono ?_;rintro e w2 ⟨rfl,b2⟩)
  go_ret;exact⟨Ao (by simp[h1]),(Aa aA).trans (b2.mono (by omega))⟩
 ·have h2:n<1:=by omega
  go_enter Tryz.func119,Tryz.ntmps119
  go_upto_region 1 with fail
  try rw[hH]
  rw[Aa I];go_wp2;go_ret;exact⟨Ao (by simp;omega),Aa aA⟩
end Go.Proofs.YtefokfbgpfcbkaaGreat
namespace Go.Proofs.YtefokfbgpfcbkaaGreat
open Go.RowKit
open Go.RowKit Go.Shelf
def Iv(W:World)(v:Value)(zs:List Int):Prop:=∃a c,v=.slice a zs.length c∧(zs.length≤c∧c≤maxLen)∧∀(j:Nat) z,zs[j]?=some z→∃b o,a=some ⟨b,o,none⟩∧W.cell? ⟨b,o+j,none⟩=some (.int .i64 z)
theorem Iv.of_row{W:World}{B:Nat}{v:Value}{zs:List Int}(h:W.ownsRow B 3 1 v zs.length (zs.map (Value.int .i64))):Iv W v zs:=by
 rcases h.2 with⟨rfl,h0⟩|⟨g,cap,I,rfl,hb,hh,hc,hm,hsz,J⟩
 ·have:zs=[]:=qT h0;subst this;exact⟨none,0,rfl,⟨qJ _,Nat.zero_le _⟩,fun j z hj=>by simp at hj⟩
 ·refine⟨_,cap,rfl,⟨hc,hm⟩,fun j z hj=>⟨g,0,rfl,?_⟩⟩;have Z:=(qI.1 hj).1;have h1:(zs.map (Value.int .i64))[j]?=some (.int .i64 z):=by rw[zJ,hj];rfl
  rw[←J,List.getElem?_take_of_lt (by omega)]at h1;rw[Nat.zero_add,cell_of_row W g j I _ (0,0) hh];simpa using h1
theorem Kw(v:Value)(zs:List Int)(w:World)(h:Iv w v zs)(hl:zs.length≤1000000):Calls Tryz.prog 78 #[v] w fun e w'=>∃I,e=.returned I∧Iv w' I zs∧Below w.heap.size w w':=by
 obtain⟨a,c,rfl,_,hc⟩:=h
 match zs,hl,hc with
 | [],hl,hc=>
  cases a with
  |none=>
   refine(Tryz.slices_Clone_int_nil 0 c w).mono ?_;rintro e w' ⟨rfl,rfl⟩;exact⟨_,rfl,⟨none,0,rfl,⟨qJ _,Nat.zero_le _⟩,fun j z hj=>by simp at hj⟩,qU _ _⟩
  |some a=>
   refine(Tryz.slices_Clone_int_zero a c w).mono ?_;rintro e w' ⟨I,rfl,hr,_,hb⟩;exact⟨I,rfl,.of_row (zs:=[]) hr,hb⟩
 |z::zs,hl,hc=>
  obtain⟨b,o,rfl,_⟩:=hc 0 z rfl;refine(Tryz.slices_Clone_int b o (z::zs).length c (z::zs) w (qJ _) (by omega) (fun j hj=>?_)).mono ?_
  ·obtain⟨J,o',e,h1⟩:=hc j _ (qO hj);cases e;rw[h1];simp[List.getD_eq_getElem?_getD,qO hj]
  ·rintro e w' ⟨I,rfl,hr,_,hb⟩;rw[List.take_length]at hr;exact⟨I,rfl,.of_row hr,hb⟩
open Go.RowKit
open Go.RowKit
open Go.RowKit
attribute [local go_sem] Oper.semAt_some
end Go.Proofs.YtefokfbgpfcbkaaGreat
